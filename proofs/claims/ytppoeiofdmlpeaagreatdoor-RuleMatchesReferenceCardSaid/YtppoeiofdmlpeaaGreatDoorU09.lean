/- rule.node: is, and no operation. Condition: the strings lie in memory, the kids' slice has a length. rule.Valid. Condition: the rule lies in memory, its strings fit. The parser of rules, in plain words: on lists of tokens. No condition. The texts of rules in plain words. No condition. -/
import Derived.Test.YtppoeiofdmlpeaaGreatDoorU01
import Derived.Test.YtppoeiofdmlpeaaGreatDoorU04
import Derived.Test.YtppoeiofdmlpeaaGreatDoorU08
namespace Go.Proofs.YtppoeiofdmlpeaaGreatDoor
open Go Go.RowKit
set_option maxRecDepth 100000 in
set_option maxHeartbeats 8000000 in
theorem node_7 (name value : ByteArray) (n extra : Int) (A : Option Addr) (len c : Nat) (w : World) (_hlen : len ≤ 1000000) (hnm : name.size ≤ maxLen) (_hvl : value.size ≤ maxLen) :
    Calls Tryz.prog 32 #[.agg #[.int .i64 7, .string name, .string value, .int .i64 n, .int .i64 extra, .slice A len c]] w fun r w' => r = .returned (.bool (decide (NodeOk 7 name value n extra len))) ∧ Below w.heap.size w w' := by
  have hE : decide (NodeOk 7 name value n extra len) = (decide (1 ≤ value.size) && (decide (value.size ≤ 200) && (!resB name && (nameB name && (decide (len = 0) && (decide (0 = n) && decide (0 = extra))))))) := by
    rw [Bool.eq_iff_iff]
    simp only [NodeOk, Bool.and_eq_true, decide_eq_true_eq, Bool.not_eq_true']
    constructor
    · rintro ⟨_, h1, h2, h3, h4, h5, h6⟩
      rw [if_neg (by omega), if_neg (by omega)] at h1
      rw [if_neg (by omega)] at h2
      rw [if_pos trivial] at h4
      rw [if_neg (by omega), if_neg (by omega)] at h5
      rw [if_neg (by omega)] at h6
      exact ⟨h4.1, h4.2, h3 trivial, h2, h1, h5.symm, h6.symm⟩
    · rintro ⟨h1, h2, h3, h4, h5, h6, h7⟩
      refine ⟨by omega, ?_, ?_, fun _ => h3, ?_, ?_, ?_⟩
      · rw [if_neg (by omega), if_neg (by omega)]; exact h5
      · rw [if_neg (by omega)]; exact h4
      · rw [if_pos trivial]; exact ⟨h1, h2⟩
      · rw [if_neg (by omega), if_neg (by omega)]; exact h6.symm
      · rw [if_neg (by omega)]; exact h7.symm
  rw [hE]
  clear hE
  have H0 := Lib.hid (NoB.start w #[.int .i64 7, .string name, .string value, .int .i64 n, .int .i64 extra, .slice A len c] #[.int .i64 7, .string ⟨#[]⟩, .string ⟨#[]⟩, .int .i64 0, .int .i64 0, .slice none 0 0])
  have hmx : Tryz.prog.follows .mixedOrders = true := by kernel_rfl
  have HN := Lib.hid (fun W => name_any name W hnm)
  generalize nameB name = nb at *
  have HC := Lib.hid (fun W => reserved_any name W)
  have hsz := isEmpty_size value
  by_cases h0 : value.size = 0
  · have hl3 : value.toList.isEmpty = true := by rw [hsz]; exact decide_eq_true h0
    have hl : value.toList = [] := List.isEmpty_iff.1 hl3
    have hl4 : (value.toList != []) = false := by rw [hl]; rfl
    have hl5 : (!value.toList.isEmpty) = false := by rw [hl3]; rfl
    rw [decide_eq_false (show ¬ 1 ≤ value.size by omega)]
    clear hsz HC
    go_enter Tryz.func32, Tryz.ntmps32
    go_wp2_with fail
    refine wp_region_held_drew (S := fun W => W.cell? ⟨w.heap.size, 1, none⟩ = some (.string name) ∧ W.cell? ⟨w.heap.size, 2, none⟩ = some (.string value)) (by kernel_rfl) (⟨H0.out.drew.c.cell 1, H0.out.drew.c.cell 2⟩) (fun hHeld => ?_)
    refine plI [(0, false), (1, false), (2, false), (3, false), (4, false), (5, false), (6, true), (7, true), (8, true), (9, true), (10, false), (11, false), (12, true), (13, true), (14, true), (15, true), (16, false), (17, false)] ?_
    repeat ((first | ((with_reducible show Plan ((_, true) :: _) _); refine plF ?_) | (refine plR (v := ?_) ?_ ?_; rotate_left; focus (intro W hSW; (try dsimp only at hSW); go_simp; all_goals (with_reducible rfl)))); try simp only [Act.put, List.setIfInBounds_toArray, List.set_cons_zero, List.set_cons_succ])
    refine plE ?_
    refine wpAnyH_ready (rs := [18]) (by kernel_rfl) (by simp) ?_
    refine AllReadyH.cons (o := ⟨_, _, _, _, _, _⟩) rfl (fun K hK => ?_) AllReadyH.nil
    go_simp
    have HK9 := Lib.hid (NoB.start w #[.int .i64 7, .string name, .string value, .int .i64 n, .int .i64 extra, .slice A len c] #[.int .i64 7, .string ⟨#[]⟩, .string value, .int .i64 0, .int .i64 0, .slice none 0 0]).drew
    refine hK.out _ _ (⟨HK9.out.c.cell 1, HK9.out.c.cell 2⟩) (fun hHeld => ?_)
    clear hK K
    try simp only [Act.put]
    refine plI [(19, false)] ?_
    repeat ((first | ((with_reducible show Plan ((_, true) :: _) _); refine plF ?_) | (refine plR (v := ?_) ?_ ?_; rotate_left; focus (intro W hSW; (try dsimp only at hSW); go_simp; all_goals (with_reducible rfl)))); try simp only [Act.put, List.setIfInBounds_toArray, List.set_cons_zero, List.set_cons_succ])
    refine plE ?_
    refine wpAnyH_done (by kernel_rfl) ?_ _
    clear hHeld
    have HG := Lib.hid (show NoB w #[.int .i64 7, .string name, .string value, .int .i64 n, .int .i64 extra, .slice A len c] #[.int .i64 7, .string ⟨#[]⟩, .string value, .int .i64 0, .int .i64 0, .slice none 0 0] ((w.alloc (.cells #[.int .i64 7, .string name, .string value, .int .i64 n, .int .i64 extra, .slice A len c] 24)).alloc (.cells #[.int .i64 7, .string ⟨#[]⟩, .string value, .int .i64 0, .int .i64 0, .slice none 0 0] 24)).drew from HK9.out)
    change Exit.inBlock _ _ _ _ ((w.alloc (.cells #[.int .i64 7, .string name, .string value, .int .i64 n, .int .i64 extra, .slice A len c] 24)).alloc (.cells #[.int .i64 7, .string ⟨#[]⟩, .string value, .int .i64 0, .int .i64 0, .slice none 0 0] 24)).drew
    generalize ((w.alloc (.cells #[.int .i64 7, .string name, .string value, .int .i64 n, .int .i64 extra, .slice A len c] 24)).alloc (.cells #[.int .i64 7, .string ⟨#[]⟩, .string value, .int .i64 0, .int .i64 0, .slice none 0 0] 24)).drew = V8 at *
    clear HK9
    obtain ⟨dc0, fc0⟩ := HG.out.c.facts
    obtain ⟨dx0, fx0⟩ := HG.out.x.facts
    go_wp2_with fail
    refine wp_region_held_drew (S := fun W => W.cell? ⟨w.heap.size, 1, none⟩ = some (.string name)) (by kernel_rfl) ((HG.out).drew.c.cell 1) (fun hHeld => ?_)
    refine plI [(0, false), (1, false), (2, false), (3, false), (4, true), (5, true), (6, true), (7, false), (8, false)] ?_
    repeat ((first | ((with_reducible show Plan ((_, true) :: _) _); refine plF ?_) | (refine plR (v := ?_) ?_ ?_; rotate_left; focus (intro W hSW; (try dsimp only at hSW); go_simp; all_goals (with_reducible rfl)))); try simp only [Act.put, List.setIfInBounds_toArray, List.set_cons_zero, List.set_cons_succ])
    refine plE ?_
    refine wpAnyH_ready (rs := [9]) (by kernel_rfl) (by simp) ?_
    refine AllReadyH.cons (o := ⟨_, _, _, _, _, _⟩) rfl (fun K hK => ?_) AllReadyH.nil
    go_simp
    have HB9 := Lib.hid (((HG.out).set 1 (.string name)).drew)
    refine hK.out _ _ (HB9.out.c.cell 1) (fun hHeld => ?_)
    clear hK K
    try simp only [Act.put]
    refine plI [(10, false)] ?_
    repeat ((first | ((with_reducible show Plan ((_, true) :: _) _); refine plF ?_) | (refine plR (v := ?_) ?_ ?_; rotate_left; focus (intro W hSW; (try dsimp only at hSW); go_simp; all_goals (with_reducible rfl)))); try simp only [Act.put, List.setIfInBounds_toArray, List.set_cons_zero, List.set_cons_succ])
    refine plE ?_
    refine wpAnyH_done (by kernel_rfl) ?_ _
    clear hHeld
    have HF := Lib.hid (show NoB w #[.int .i64 7, .string name, .string value, .int .i64 n, .int .i64 extra, .slice A len c] #[.int .i64 7, .string name, .string value, .int .i64 0, .int .i64 0, .slice none 0 0] (V8.setCell ⟨w.heap.size + 1, 1, none⟩ (.string name)).drew from HB9.out)
    change Exit.then _ _ _ _ (V8.setCell ⟨w.heap.size + 1, 1, none⟩ (.string name)).drew
    generalize (V8.setCell ⟨w.heap.size + 1, 1, none⟩ (.string name)).drew = V9 at *
    clear HB9
    obtain ⟨dc, fc⟩ := HF.out.c.facts
    obtain ⟨dx, fx⟩ := HF.out.x.facts
    go_wp2_with fail
    all_goals
      go_ret
      refine ⟨?_, HF.out.b⟩
      simp [*]
      try (rw [Bool.eq_iff_iff, beq_iff_eq, decide_eq_true_iff])
  · have hl3 : value.toList.isEmpty = false := by rw [hsz]; exact decide_eq_false h0
    have hl : ¬ value.toList = [] := fun h => by rw [h] at hl3; cases hl3
    have hl4 : (value.toList != []) = true := by simpa using hl
    have hl5 : (!value.toList.isEmpty) = true := by rw [hl3]; rfl
    clear hsz
    rw [decide_eq_true (show 1 ≤ value.size by omega)]
    by_cases h2 : value.size ≤ 200
    · have h2i : (value.size : Int) ≤ 200 := by omega
      have h2b : decide ((value.size : Int) ≤ 200) = true := decide_eq_true h2i
      rw [decide_eq_true h2]
      cases hb : resB name with
      | true =>
        rw [hb] at HC
        go_enter Tryz.func32, Tryz.ntmps32
        go_wp2_with fail
        refine wp_region_held_drew (S := fun W => W.cell? ⟨w.heap.size, 1, none⟩ = some (.string name) ∧ W.cell? ⟨w.heap.size, 2, none⟩ = some (.string value)) (by kernel_rfl) (⟨H0.out.drew.c.cell 1, H0.out.drew.c.cell 2⟩) (fun hHeld => ?_)
        refine plI [(0, false), (1, false), (2, false), (3, false), (4, false), (5, false), (6, false), (7, false), (8, false), (9, false), (10, false), (11, false), (12, false), (13, false), (17, false)] ?_
        repeat ((first | ((with_reducible show Plan ((_, true) :: _) _); refine plF ?_) | (refine plR (v := ?_) ?_ ?_; rotate_left; focus (intro W hSW; (try dsimp only at hSW); go_simp; all_goals (with_reducible rfl)))); try simp only [Act.put, List.setIfInBounds_toArray, List.set_cons_zero, List.set_cons_succ])
        refine plE ?_
        refine wpAnyH_ready (rs := [14]) (by kernel_rfl) (by simp) ?_
        refine AllReadyH.cons (o := ⟨_, _, _, _, _, _⟩) rfl (fun K hK => ?_) AllReadyH.nil
        go_simp
        go_at_call 56; refine (HC.out _).mono ?_; rintro r k2 ⟨rfl, hk2⟩
        have HK6 := Lib.hid (H0.out.drew.below hk2)
        clear hk2
        obtain ⟨dk, fk⟩ := HK6.out.x.facts
        refine hK.out _ _ (⟨HK6.out.c.cell 1, HK6.out.c.cell 2⟩) (fun hHeld => ?_)
        clear hK K
        try simp only [Act.put, List.setIfInBounds_toArray, List.set_cons_zero, List.set_cons_succ]
        refine plI [(15, false), (16, false)] ?_
        repeat ((first | ((with_reducible show Plan ((_, true) :: _) _); refine plF ?_) | (refine plR (v := ?_) ?_ ?_; rotate_left; focus (intro W hSW; (try dsimp only at hSW); go_simp; all_goals (with_reducible rfl)))); try simp only [Act.put, List.setIfInBounds_toArray, List.set_cons_zero, List.set_cons_succ])
        refine plE ?_
        refine wpAnyH_ready (rs := [18]) (by kernel_rfl) (by simp) ?_
        refine AllReadyH.cons (o := ⟨_, _, _, _, _, _⟩) rfl (fun K hK => ?_) AllReadyH.nil
        go_simp
        have HK9 := Lib.hid (HK6.out.set 2 (.string value))
        refine hK.out _ _ (⟨HK9.out.c.cell 1, HK9.out.c.cell 2⟩) (fun hHeld => ?_)
        clear hK K
        try simp only [Act.put]
        refine plI [(19, false)] ?_
        repeat ((first | ((with_reducible show Plan ((_, true) :: _) _); refine plF ?_) | (refine plR (v := ?_) ?_ ?_; rotate_left; focus (intro W hSW; (try dsimp only at hSW); go_simp; all_goals (with_reducible rfl)))); try simp only [Act.put, List.setIfInBounds_toArray, List.set_cons_zero, List.set_cons_succ])
        refine plE ?_
        refine wpAnyH_done (by kernel_rfl) ?_ _
        clear hHeld
        have HG := Lib.hid (show NoB w #[.int .i64 7, .string name, .string value, .int .i64 n, .int .i64 extra, .slice A len c] #[.int .i64 7, .string ⟨#[]⟩, .string value, .int .i64 0, .int .i64 0, .slice none 0 0] (k2.setCell ⟨w.heap.size + 1, 2, none⟩ (.string value)) from HK9.out)
        change Exit.inBlock _ _ _ _ (k2.setCell ⟨w.heap.size + 1, 2, none⟩ (.string value))
        generalize (k2.setCell ⟨w.heap.size + 1, 2, none⟩ (.string value)) = V8 at *
        clear HK9 HK6
        obtain ⟨dc0, fc0⟩ := HG.out.c.facts
        obtain ⟨dx0, fx0⟩ := HG.out.x.facts
        go_wp2_with fail
        refine wp_region_held_drew (S := fun W => W.cell? ⟨w.heap.size, 1, none⟩ = some (.string name)) (by kernel_rfl) ((HG.out).drew.c.cell 1) (fun hHeld => ?_)
        refine plI [(0, false), (1, false), (2, false), (3, false), (4, true), (5, true), (6, true), (7, false), (8, false)] ?_
        repeat ((first | ((with_reducible show Plan ((_, true) :: _) _); refine plF ?_) | (refine plR (v := ?_) ?_ ?_; rotate_left; focus (intro W hSW; (try dsimp only at hSW); go_simp; all_goals (with_reducible rfl)))); try simp only [Act.put, List.setIfInBounds_toArray, List.set_cons_zero, List.set_cons_succ])
        refine plE ?_
        refine wpAnyH_ready (rs := [9]) (by kernel_rfl) (by simp) ?_
        refine AllReadyH.cons (o := ⟨_, _, _, _, _, _⟩) rfl (fun K hK => ?_) AllReadyH.nil
        go_simp
        have HB9 := Lib.hid (((HG.out).set 1 (.string name)).drew)
        refine hK.out _ _ (HB9.out.c.cell 1) (fun hHeld => ?_)
        clear hK K
        try simp only [Act.put]
        refine plI [(10, false)] ?_
        repeat ((first | ((with_reducible show Plan ((_, true) :: _) _); refine plF ?_) | (refine plR (v := ?_) ?_ ?_; rotate_left; focus (intro W hSW; (try dsimp only at hSW); go_simp; all_goals (with_reducible rfl)))); try simp only [Act.put, List.setIfInBounds_toArray, List.set_cons_zero, List.set_cons_succ])
        refine plE ?_
        refine wpAnyH_done (by kernel_rfl) ?_ _
        clear hHeld
        have HF := Lib.hid (show NoB w #[.int .i64 7, .string name, .string value, .int .i64 n, .int .i64 extra, .slice A len c] #[.int .i64 7, .string name, .string value, .int .i64 0, .int .i64 0, .slice none 0 0] (V8.setCell ⟨w.heap.size + 1, 1, none⟩ (.string name)).drew from HB9.out)
        change Exit.then _ _ _ _ (V8.setCell ⟨w.heap.size + 1, 1, none⟩ (.string name)).drew
        generalize (V8.setCell ⟨w.heap.size + 1, 1, none⟩ (.string name)).drew = V9 at *
        clear HB9
        obtain ⟨dc, fc⟩ := HF.out.c.facts
        obtain ⟨dx, fx⟩ := HF.out.x.facts
        go_wp2_with fail
        all_goals
          go_ret
          refine ⟨?_, HF.out.b⟩
          simp [*]
          try (rw [Bool.eq_iff_iff, beq_iff_eq, decide_eq_true_iff])
      | false =>
        rw [hb] at HC
        go_enter Tryz.func32, Tryz.ntmps32
        go_wp2_with fail
        refine wp_region_held_drew (S := fun W => W.cell? ⟨w.heap.size, 1, none⟩ = some (.string name) ∧ W.cell? ⟨w.heap.size, 2, none⟩ = some (.string value)) (by kernel_rfl) (⟨H0.out.drew.c.cell 1, H0.out.drew.c.cell 2⟩) (fun hHeld => ?_)
        refine plI [(0, false), (1, false), (2, false), (3, false), (4, false), (5, false), (6, false), (7, false), (8, false), (9, false), (10, false), (11, false), (12, false), (13, false), (17, false)] ?_
        repeat ((first | ((with_reducible show Plan ((_, true) :: _) _); refine plF ?_) | (refine plR (v := ?_) ?_ ?_; rotate_left; focus (intro W hSW; (try dsimp only at hSW); go_simp; all_goals (with_reducible rfl)))); try simp only [Act.put, List.setIfInBounds_toArray, List.set_cons_zero, List.set_cons_succ])
        refine plE ?_
        refine wpAnyH_ready (rs := [14]) (by kernel_rfl) (by simp) ?_
        refine AllReadyH.cons (o := ⟨_, _, _, _, _, _⟩) rfl (fun K hK => ?_) AllReadyH.nil
        go_simp
        go_at_call 56; refine (HC.out _).mono ?_; rintro r k2 ⟨rfl, hk2⟩
        have HK6 := Lib.hid (H0.out.drew.below hk2)
        clear hk2
        obtain ⟨dk, fk⟩ := HK6.out.x.facts
        refine hK.out _ _ (⟨HK6.out.c.cell 1, HK6.out.c.cell 2⟩) (fun hHeld => ?_)
        clear hK K
        try simp only [Act.put, List.setIfInBounds_toArray, List.set_cons_zero, List.set_cons_succ]
        refine plI [(15, false), (16, false)] ?_
        repeat ((first | ((with_reducible show Plan ((_, true) :: _) _); refine plF ?_) | (refine plR (v := ?_) ?_ ?_; rotate_left; focus (intro W hSW; (try dsimp only at hSW); go_simp; all_goals (with_reducible rfl)))); try simp only [Act.put, List.setIfInBounds_toArray, List.set_cons_zero, List.set_cons_succ])
        refine plE ?_
        refine wpAnyH_ready (rs := [18]) (by kernel_rfl) (by simp) ?_
        refine AllReadyH.cons (o := ⟨_, _, _, _, _, _⟩) rfl (fun K hK => ?_) AllReadyH.nil
        go_simp
        have HK9 := Lib.hid (HK6.out.set 2 (.string value))
        refine hK.out _ _ (⟨HK9.out.c.cell 1, HK9.out.c.cell 2⟩) (fun hHeld => ?_)
        clear hK K
        try simp only [Act.put]
        refine plI [(19, false)] ?_
        repeat ((first | ((with_reducible show Plan ((_, true) :: _) _); refine plF ?_) | (refine plR (v := ?_) ?_ ?_; rotate_left; focus (intro W hSW; (try dsimp only at hSW); go_simp; all_goals (with_reducible rfl)))); try simp only [Act.put, List.setIfInBounds_toArray, List.set_cons_zero, List.set_cons_succ])
        refine plE ?_
        refine wpAnyH_done (by kernel_rfl) ?_ _
        clear hHeld
        have HG := Lib.hid (show NoB w #[.int .i64 7, .string name, .string value, .int .i64 n, .int .i64 extra, .slice A len c] #[.int .i64 7, .string ⟨#[]⟩, .string value, .int .i64 0, .int .i64 0, .slice none 0 0] (k2.setCell ⟨w.heap.size + 1, 2, none⟩ (.string value)) from HK9.out)
        change Exit.inBlock _ _ _ _ (k2.setCell ⟨w.heap.size + 1, 2, none⟩ (.string value))
        generalize (k2.setCell ⟨w.heap.size + 1, 2, none⟩ (.string value)) = V8 at *
        clear HK9 HK6
        obtain ⟨dc0, fc0⟩ := HG.out.c.facts
        obtain ⟨dx0, fx0⟩ := HG.out.x.facts
        go_wp2_with fail
        refine wp_region_held_drew (S := fun W => W.cell? ⟨w.heap.size, 1, none⟩ = some (.string name)) (by kernel_rfl) ((HG.out).drew.c.cell 1) (fun hHeld => ?_)
        refine plI [(0, false), (1, false), (2, false), (3, false), (4, false), (5, false), (8, false)] ?_
        repeat ((first | ((with_reducible show Plan ((_, true) :: _) _); refine plF ?_) | (refine plR (v := ?_) ?_ ?_; rotate_left; focus (intro W hSW; (try dsimp only at hSW); go_simp; all_goals (with_reducible rfl)))); try simp only [Act.put, List.setIfInBounds_toArray, List.set_cons_zero, List.set_cons_succ])
        refine plE ?_
        refine wpAnyH_ready (rs := [6]) (by kernel_rfl) (by simp) ?_
        refine AllReadyH.cons (o := ⟨_, _, _, _, _, _⟩) rfl (fun K hK => ?_) AllReadyH.nil
        go_simp
        go_at_call 17; refine (HN.out _).mono ?_; rintro r v2 ⟨rfl, hbn⟩
        have HB6 := Lib.hid ((HG.out).drew.below hbn)
        obtain ⟨dx6, fx6⟩ := HB6.out.x.facts
        clear hbn
        refine hK.out _ _ (HB6.out.c.cell 1) (fun hHeld => ?_)
        clear hK K
        try simp only [Act.put, List.setIfInBounds_toArray, List.set_cons_zero, List.set_cons_succ]
        refine plI [(7, false)] ?_
        repeat ((first | ((with_reducible show Plan ((_, true) :: _) _); refine plF ?_) | (refine plR (v := ?_) ?_ ?_; rotate_left; focus (intro W hSW; (try dsimp only at hSW); go_simp; all_goals (with_reducible rfl)))); try simp only [Act.put, List.setIfInBounds_toArray, List.set_cons_zero, List.set_cons_succ])
        refine plE ?_
        refine wpAnyH_ready (rs := [9]) (by kernel_rfl) (by simp) ?_
        refine AllReadyH.cons (o := ⟨_, _, _, _, _, _⟩) rfl (fun K hK => ?_) AllReadyH.nil
        go_simp
        have HB9 := Lib.hid (HB6.out.set 1 (.string name))
        refine hK.out _ _ (HB9.out.c.cell 1) (fun hHeld => ?_)
        clear hK K
        try simp only [Act.put]
        refine plI [(10, false)] ?_
        repeat ((first | ((with_reducible show Plan ((_, true) :: _) _); refine plF ?_) | (refine plR (v := ?_) ?_ ?_; rotate_left; focus (intro W hSW; (try dsimp only at hSW); go_simp; all_goals (with_reducible rfl)))); try simp only [Act.put, List.setIfInBounds_toArray, List.set_cons_zero, List.set_cons_succ])
        refine plE ?_
        refine wpAnyH_done (by kernel_rfl) ?_ _
        clear hHeld
        have HF := Lib.hid (show NoB w #[.int .i64 7, .string name, .string value, .int .i64 n, .int .i64 extra, .slice A len c] #[.int .i64 7, .string name, .string value, .int .i64 0, .int .i64 0, .slice none 0 0] (v2.setCell ⟨w.heap.size + 1, 1, none⟩ (.string name)) from HB9.out)
        change Exit.then _ _ _ _ (v2.setCell ⟨w.heap.size + 1, 1, none⟩ (.string name))
        generalize (v2.setCell ⟨w.heap.size + 1, 1, none⟩ (.string name)) = V9 at *
        clear HB9 HB6 dx6 fx6
        obtain ⟨dc, fc⟩ := HF.out.c.facts
        obtain ⟨dx, fx⟩ := HF.out.x.facts
        go_wp2_with fail
        all_goals
          go_ret
          refine ⟨?_, HF.out.b⟩
          simp [*]
          try (rw [Bool.eq_iff_iff, beq_iff_eq, decide_eq_true_iff])
    · have h2i : ¬ (value.size : Int) ≤ 200 := by omega
      have h2b : decide ((value.size : Int) ≤ 200) = false := decide_eq_false h2i
      rw [decide_eq_false h2]
      clear HC
      go_enter Tryz.func32, Tryz.ntmps32
      go_wp2_with fail
      refine wp_region_held_drew (S := fun W => W.cell? ⟨w.heap.size, 1, none⟩ = some (.string name) ∧ W.cell? ⟨w.heap.size, 2, none⟩ = some (.string value)) (by kernel_rfl) (⟨H0.out.drew.c.cell 1, H0.out.drew.c.cell 2⟩) (fun hHeld => ?_)
      refine plI [(0, false), (1, false), (2, false), (3, false), (4, false), (5, false), (6, false), (7, false), (8, false), (9, false), (10, false), (11, false), (12, true), (13, true), (14, true), (15, true), (16, false), (17, false)] ?_
      repeat ((first | ((with_reducible show Plan ((_, true) :: _) _); refine plF ?_) | (refine plR (v := ?_) ?_ ?_; rotate_left; focus (intro W hSW; (try dsimp only at hSW); go_simp; all_goals (with_reducible rfl)))); try simp only [Act.put, List.setIfInBounds_toArray, List.set_cons_zero, List.set_cons_succ])
      refine plE ?_
      refine wpAnyH_ready (rs := [18]) (by kernel_rfl) (by simp) ?_
      refine AllReadyH.cons (o := ⟨_, _, _, _, _, _⟩) rfl (fun K hK => ?_) AllReadyH.nil
      go_simp
      have HK9 := Lib.hid (NoB.start w #[.int .i64 7, .string name, .string value, .int .i64 n, .int .i64 extra, .slice A len c] #[.int .i64 7, .string ⟨#[]⟩, .string value, .int .i64 0, .int .i64 0, .slice none 0 0]).drew
      refine hK.out _ _ (⟨HK9.out.c.cell 1, HK9.out.c.cell 2⟩) (fun hHeld => ?_)
      clear hK K
      try simp only [Act.put]
      refine plI [(19, false)] ?_
      repeat ((first | ((with_reducible show Plan ((_, true) :: _) _); refine plF ?_) | (refine plR (v := ?_) ?_ ?_; rotate_left; focus (intro W hSW; (try dsimp only at hSW); go_simp; all_goals (with_reducible rfl)))); try simp only [Act.put, List.setIfInBounds_toArray, List.set_cons_zero, List.set_cons_succ])
      refine plE ?_
      refine wpAnyH_done (by kernel_rfl) ?_ _
      clear hHeld
      have HG := Lib.hid (show NoB w #[.int .i64 7, .string name, .string value, .int .i64 n, .int .i64 extra, .slice A len c] #[.int .i64 7, .string ⟨#[]⟩, .string value, .int .i64 0, .int .i64 0, .slice none 0 0] ((w.alloc (.cells #[.int .i64 7, .string name, .string value, .int .i64 n, .int .i64 extra, .slice A len c] 24)).alloc (.cells #[.int .i64 7, .string ⟨#[]⟩, .string value, .int .i64 0, .int .i64 0, .slice none 0 0] 24)).drew from HK9.out)
      change Exit.inBlock _ _ _ _ ((w.alloc (.cells #[.int .i64 7, .string name, .string value, .int .i64 n, .int .i64 extra, .slice A len c] 24)).alloc (.cells #[.int .i64 7, .string ⟨#[]⟩, .string value, .int .i64 0, .int .i64 0, .slice none 0 0] 24)).drew
      generalize ((w.alloc (.cells #[.int .i64 7, .string name, .string value, .int .i64 n, .int .i64 extra, .slice A len c] 24)).alloc (.cells #[.int .i64 7, .string ⟨#[]⟩, .string value, .int .i64 0, .int .i64 0, .slice none 0 0] 24)).drew = V8 at *
      clear HK9
      obtain ⟨dc0, fc0⟩ := HG.out.c.facts
      obtain ⟨dx0, fx0⟩ := HG.out.x.facts
      go_wp2_with fail
      refine wp_region_held_drew (S := fun W => W.cell? ⟨w.heap.size, 1, none⟩ = some (.string name)) (by kernel_rfl) ((HG.out).drew.c.cell 1) (fun hHeld => ?_)
      refine plI [(0, false), (1, false), (2, false), (3, false), (4, true), (5, true), (6, true), (7, false), (8, false)] ?_
      repeat ((first | ((with_reducible show Plan ((_, true) :: _) _); refine plF ?_) | (refine plR (v := ?_) ?_ ?_; rotate_left; focus (intro W hSW; (try dsimp only at hSW); go_simp; all_goals (with_reducible rfl)))); try simp only [Act.put, List.setIfInBounds_toArray, List.set_cons_zero, List.set_cons_succ])
      refine plE ?_
      refine wpAnyH_ready (rs := [9]) (by kernel_rfl) (by simp) ?_
      refine AllReadyH.cons (o := ⟨_, _, _, _, _, _⟩) rfl (fun K hK => ?_) AllReadyH.nil
      go_simp
      have HB9 := Lib.hid (((HG.out).set 1 (.string name)).drew)
      refine hK.out _ _ (HB9.out.c.cell 1) (fun hHeld => ?_)
      clear hK K
      try simp only [Act.put]
      refine plI [(10, false)] ?_
      repeat ((first | ((with_reducible show Plan ((_, true) :: _) _); refine plF ?_) | (refine plR (v := ?_) ?_ ?_; rotate_left; focus (intro W hSW; (try dsimp only at hSW); go_simp; all_goals (with_reducible rfl)))); try simp only [Act.put, List.setIfInBounds_toArray, List.set_cons_zero, List.set_cons_succ])
      refine plE ?_
      refine wpAnyH_done (by kernel_rfl) ?_ _
      clear hHeld
      have HF := Lib.hid (show NoB w #[.int .i64 7, .string name, .string value, .int .i64 n, .int .i64 extra, .slice A len c] #[.int .i64 7, .string name, .string value, .int .i64 0, .int .i64 0, .slice none 0 0] (V8.setCell ⟨w.heap.size + 1, 1, none⟩ (.string name)).drew from HB9.out)
      change Exit.then _ _ _ _ (V8.setCell ⟨w.heap.size + 1, 1, none⟩ (.string name)).drew
      generalize (V8.setCell ⟨w.heap.size + 1, 1, none⟩ (.string name)).drew = V9 at *
      clear HB9
      obtain ⟨dc, fc⟩ := HF.out.c.facts
      obtain ⟨dx, fx⟩ := HF.out.x.facts
      go_wp2_with fail
      all_goals
        go_ret
        refine ⟨?_, HF.out.b⟩
        simp [*]
        try (rw [Bool.eq_iff_iff, beq_iff_eq, decide_eq_true_iff])
set_option maxRecDepth 100000 in
set_option maxHeartbeats 8000000 in
theorem node_0 (op : Int) (name value : ByteArray) (n extra : Int) (A : Option Addr) (len c : Nat) (w : World) (_hlen : len ≤ 1000000) (hop : ¬ (1 ≤ op ∧ op ≤ 12)) :
    Calls Tryz.prog 32 #[.agg #[.int .i64 op, .string name, .string value, .int .i64 n, .int .i64 extra, .slice A len c]] w fun r w' => r = .returned (.bool (decide (NodeOk op name value n extra len))) ∧ Below w.heap.size w w' := by
  rw [decide_eq_false fun h => hop h.1]
  have e1 : (op == 1) = false := by rw [beq_eq_false_iff_ne]; omega
  have f1 : ¬ op = 1 := by omega
  have e2 : (op == 2) = false := by rw [beq_eq_false_iff_ne]; omega
  have f2 : ¬ op = 2 := by omega
  have e3 : (op == 3) = false := by rw [beq_eq_false_iff_ne]; omega
  have f3 : ¬ op = 3 := by omega
  have e4 : (op == 4) = false := by rw [beq_eq_false_iff_ne]; omega
  have f4 : ¬ op = 4 := by omega
  have e5 : (op == 5) = false := by rw [beq_eq_false_iff_ne]; omega
  have f5 : ¬ op = 5 := by omega
  have e6 : (op == 6) = false := by rw [beq_eq_false_iff_ne]; omega
  have f6 : ¬ op = 6 := by omega
  have e7 : (op == 7) = false := by rw [beq_eq_false_iff_ne]; omega
  have f7 : ¬ op = 7 := by omega
  have e8 : (op == 8) = false := by rw [beq_eq_false_iff_ne]; omega
  have f8 : ¬ op = 8 := by omega
  have e9 : (op == 9) = false := by rw [beq_eq_false_iff_ne]; omega
  have f9 : ¬ op = 9 := by omega
  have e10 : (op == 10) = false := by rw [beq_eq_false_iff_ne]; omega
  have f10 : ¬ op = 10 := by omega
  have e11 : (op == 11) = false := by rw [beq_eq_false_iff_ne]; omega
  have f11 : ¬ op = 11 := by omega
  have e12 : (op == 12) = false := by rw [beq_eq_false_iff_ne]; omega
  have f12 : ¬ op = 12 := by omega
  clear hop
  go_enter Tryz.func32, Tryz.ntmps32
  go_wp2_with fail
  go_ret
  exact ⟨rfl, ((Below.refl _ _).alloc (Nat.le_refl _) _).alloc (by simp) _⟩
end Go.Proofs.YtppoeiofdmlpeaaGreatDoor
namespace Go.Proofs.YtppoeiofdmlpeaaGreatDoor
open Go Go.RowKit
theorem node_any (e : Ex) (A : Option Addr) (c : Nat) (w : World) (hlen : e.kids.length ≤ 1000000) (hnm : e.name.size ≤ maxLen) (hvl : e.value.size ≤ maxLen) :
    Calls Tryz.prog 32 #[.agg #[.int .i64 e.op, .string e.name, .string e.value, .int .i64 e.n, .int .i64 e.extra, .slice A e.kids.length c]] w fun r w' => r = .returned (.bool (nodeB e)) ∧ Below w.heap.size w w' := by
  obtain ⟨op, name, value, n, extra, ks⟩ := e
  show Calls Tryz.prog 32 #[.agg #[.int .i64 op, .string name, .string value, .int .i64 n, .int .i64 extra, .slice A ks.length c]] w fun r w' => r = .returned (.bool (decide (NodeOk op name value n extra ks.length))) ∧ Below w.heap.size w w'
  by_cases h : 1 ≤ op ∧ op ≤ 12
  · obtain rfl | rfl | rfl | rfl | rfl | rfl | rfl | rfl | rfl | rfl | rfl | rfl : op = 1 ∨ op = 2 ∨ op = 3 ∨ op = 4 ∨ op = 5 ∨ op = 6 ∨ op = 7 ∨ op = 8 ∨ op = 9 ∨ op = 10 ∨ op = 11 ∨ op = 12 := by omega
    · exact node_1 name value n extra A ks.length c w hlen
    · exact node_2 name value n extra A ks.length c w hlen hnm hvl
    · exact node_3 name value n extra A ks.length c w hlen hnm hvl
    · exact node_4 name value n extra A ks.length c w hlen hnm hvl
    · exact node_5 name value n extra A ks.length c w hlen hnm hvl
    · exact node_6 name value n extra A ks.length c w hlen hnm hvl
    · exact node_7 name value n extra A ks.length c w hlen hnm hvl
    · exact node_8 name value n extra A ks.length c w hlen hnm hvl
    · exact node_9 name value n extra A ks.length c w hlen hnm hvl
    · exact node_10 name value n extra A ks.length c w hlen hnm hvl
    · exact node_11 name value n extra A ks.length c w hlen hnm hvl
    · exact node_12 name value n extra A ks.length c w hlen hnm hvl
  · exact node_0 op name value n extra A ks.length c w hlen h
def ndF (_ : Nat) (e : Ex) : Bool := nodeB e
def ndS (n : Nat) (_ : Ex) : Nat := n
mutual
theorem nd_E (n : Nat) : ∀ e : Ex, wkE ndF ndS n e = (allB e, n)
  | .mk o a v m x ks => by
    rw [wkE_eq, allB]
    show (if nodeB (.mk o a v m x ks) = true then wkL ndF ndS n ks else (false, n)) = _
    rw [nd_L n ks]
    cases nodeB (.mk o a v m x ks) <;> rfl
theorem nd_L (n : Nat) : ∀ ks : List Ex, wkL ndF ndS n ks = (allsB ks, n)
  | [] => by rw [wkL_nil, allsB]
  | k :: ks => by
    rw [wkL_cons, nd_E n k, allsB]
    show (if allB k = true then wkL ndF ndS n ks else (false, n)) = _
    rw [nd_L n ks]
    cases allB k <;> rfl
end
def NdQ (e : Ex) : Prop := FitE e ∧ cnt e ≤ 1000000
theorem FitE.kid {e : Ex} (h : FitE e) : ∀ k ∈ e.kids, FitE k := by
  cases h with | mk _ _ _ _ _ _ _ hk => exact hk
theorem FitE.strs {e : Ex} (h : FitE e) : e.name.size ≤ maxLen ∧ e.value.size ≤ maxLen := by
  cases h with | mk _ h1 h2 _ _ _ _ _ => exact ⟨h1, h2⟩
theorem node_vis : Vis NdQ 32 #[] none (fun _ _ => True) (fun _ => True) ndF ndS where
  kids e h k hk := ⟨h.1.kid k hk, by have := cnt_kid hk; have := h.2; omega⟩
  enters := enters_of Tryz.func32 (by kernel_rfl) rfl
  small _ _ _ _ h := by cases h
  later _ _ _ _ _ := trivial
  keep _ _ _ _ := trivial
  call n e kv W hq _ _ hl := by
    obtain ⟨A, c, rfl, _⟩ := hl.slice
    have hk : e.kids.length ≤ 1000000 := by
      have := len_cnts e.kids
      have := cnt_eq e
      have := hq.2
      omega
    refine (node_any e A c W hk hq.1.strs.1 hq.1.strs.2).mono ?_
    rintro r W' ⟨rfl, hb⟩
    exact ⟨rfl, trivial, grown_of_below hb⟩
theorem grown_none {u v : World} (h : u.grownBy v none) : Below u.heap.size u v := (Below.refl u.heap.size u).grown h (Nat.le_refl _) (fun k e => by cases e)
/-- walk with node. -/
theorem walkNode_any (e : Ex) (kv : Value) (w : World) (hc : cnt e ≤ 1000000) (hf : FitE e) (hl : Lay w kv e.kids) :
    Calls Tryz.prog 31 #[.agg #[.int .i64 e.op, .string e.name, .string e.value, .int .i64 e.n, .int .i64 e.extra, kv], .func (.func 32) #[] #[]] w fun r W' => r = .returned (.bool (allB e)) ∧ Below w.heap.size w W' := by
  refine (walk_rec node_vis (cnt e) e 0 kv w (Nat.le_refl _) hc ⟨hf, hc⟩ trivial trivial hl).mono ?_
  rintro r W' ⟨rfl, _, hg⟩
  rw [nd_E]
  exact ⟨rfl, grown_none hg⟩
set_option maxRecDepth 100000 in
set_option maxHeartbeats 8000000 in
theorem valid_any (r : Ru) (kv : Value) (w : World) (hc : cnt r.cond ≤ 1000000) (hf : FitE r.cond) (hn : r.name.size ≤ maxLen) (hk : r.kind.size ≤ maxLen) (hl : Lay w kv r.cond.kids) :
    Calls Tryz.prog 14 #[.agg (ruA r kv)] w fun e w' => e = .returned (.bool (ruleB r)) ∧ Below w.heap.size w w' := by
  have hb : Below w.heap.size w (w.alloc (.cells (ruA r kv) 26)) := (Below.refl _ _).alloc (Nat.le_refl _) _
  have HB := Lib.hid hb
  have HX := Lib.hid (Has.new w 26 (ruA r kv))
  have HL := Lib.hid (hl.later hb)
  have HN := Lib.hid (fun W => name_any r.name W hn)
  have HK := Lib.hid (fun W => name_any r.kind W hk)
  have HS := Lib.hid (fun W h => size_any r.cond kv W hc h)
  have HW := Lib.hid (fun W h => walkNode_any r.cond kv W hc hf h)
  have HE := Lib.hid (show ruleB r = (nameB r.name && (nameB r.kind && (decide (cnt r.cond ≤ 60) && allB r.cond))) from rfl)
  have hle : decide (((min (cnt r.cond) 61 : Nat) : Int) ≤ 60) = decide (cnt r.cond ≤ 60) := decide_eq_decide.2 (by omega)
  generalize decide (cnt r.cond ≤ 60) = bs at *
  generalize min (cnt r.cond) 61 = z at *
  generalize allB r.cond = ba at *
  generalize nameB r.name = bn at *
  generalize nameB r.kind = bk at *
  obtain ⟨A, c, rfl, _⟩ := hl.slice
  dsimp only [ruA] at *
  clear hb hl hn hk hc hf
  cases bn with
  | false =>
    go_enter Tryz.func14, Tryz.ntmps14
    go_wp2_with (go_at_call 17; refine (HN.out _).mono ?_; rintro e w2 ⟨rfl, hb2⟩; have HW2 := Lib.hid (HB.out.trans (hb2.mono HB.out.size)); obtain ⟨d, f⟩ := (HX.out.below hb2 HX.out.lt).facts; clear hb2)
    go_ret
    exact ⟨ret_bool HE.out.symm, HW2.out⟩
  | true =>
    cases bk with
    | false =>
      go_enter Tryz.func14, Tryz.ntmps14
      go_wp2_with (go_at_call 17; first
        | ((with_reducible show Calls _ _ #[.string r.name] _ _); refine (HN.out _).mono ?_; rintro e w2 ⟨rfl, hb2⟩; have HW2 := Lib.hid (HB.out.trans (hb2.mono HB.out.size)); have HX2 := Lib.hid (HX.out.below hb2 HX.out.lt); clear HN; obtain ⟨d, f⟩ := HX2.out.facts; clear hb2)
        | (refine (HK.out _).mono ?_; rintro e w3 ⟨rfl, hb3⟩; have HW3 := Lib.hid (HW2.out.trans (hb3.mono HW2.out.size)); obtain ⟨d3, f3⟩ := (HX2.out.below hb3 HX2.out.lt).facts; clear hb3))
      go_ret
      exact ⟨ret_bool HE.out.symm, HW3.out⟩
    | true =>
      cases bs with
      | false =>
        go_enter Tryz.func14, Tryz.ntmps14
        go_wp2_with (first
          | (go_at_call 17; first
            | ((with_reducible show Calls _ _ #[.string r.name] _ _); refine (HN.out _).mono ?_; rintro e w2 ⟨rfl, hb2⟩; have HW2 := Lib.hid (HB.out.trans (hb2.mono HB.out.size)); have HX2 := Lib.hid (HX.out.below hb2 HX.out.lt); have HL2 := Lib.hid (HL.out.later hb2); clear HN; obtain ⟨d, f⟩ := HX2.out.facts; clear hb2)
            | (refine (HK.out _).mono ?_; rintro e w3 ⟨rfl, hb3⟩; have HW3 := Lib.hid (HW2.out.trans (hb3.mono HW2.out.size)); have HX3 := Lib.hid (HX2.out.below hb3 HX2.out.lt); have HL3 := Lib.hid (HL2.out.later hb3); obtain ⟨d3, f3⟩ := HX3.out.facts; clear hb3))
          | (go_at_call 24; refine (HS.out _ HL3.out).mono ?_; rintro e w4 ⟨rfl, hb4⟩; have HW4 := Lib.hid (HW3.out.trans (hb4.mono HW3.out.size)); obtain ⟨d4, f4⟩ := (HX3.out.below hb4 HX3.out.lt).facts; clear hb4))
        go_ret
        exact ⟨ret_bool HE.out.symm, HW4.out⟩
      | true =>
        go_enter Tryz.func14, Tryz.ntmps14
        go_wp2_with (first
          | (go_at_call 17; first
            | ((with_reducible show Calls _ _ #[.string r.name] _ _); refine (HN.out _).mono ?_; rintro e w2 ⟨rfl, hb2⟩; have HW2 := Lib.hid (HB.out.trans (hb2.mono HB.out.size)); have HX2 := Lib.hid (HX.out.below hb2 HX.out.lt); have HL2 := Lib.hid (HL.out.later hb2); clear HN; obtain ⟨d, f⟩ := HX2.out.facts; clear hb2)
            | (refine (HK.out _).mono ?_; rintro e w3 ⟨rfl, hb3⟩; have HW3 := Lib.hid (HW2.out.trans (hb3.mono HW2.out.size)); have HX3 := Lib.hid (HX2.out.below hb3 HX2.out.lt); have HL3 := Lib.hid (HL2.out.later hb3); obtain ⟨d3, f3⟩ := HX3.out.facts; clear hb3))
          | (go_at_call 24; refine (HS.out _ HL3.out).mono ?_; rintro e w4 ⟨rfl, hb4⟩; have HW4 := Lib.hid (HW3.out.trans (hb4.mono HW3.out.size)); have HX4 := Lib.hid (HX3.out.below hb4 HX3.out.lt); have HL4 := Lib.hid (HL3.out.later hb4); obtain ⟨d4, f4⟩ := HX4.out.facts; clear hb4)
          | (go_at_call 31; refine (HW.out _ HL4.out).mono ?_; rintro e w5 ⟨rfl, hb5⟩; have HW5 := Lib.hid (HW4.out.trans (hb5.mono HW4.out.size)); clear hb5))
        go_ret
        exact ⟨ret_bool HE.out.symm, HW5.out⟩
end Go.Proofs.YtppoeiofdmlpeaaGreatDoor
namespace Go.Proofs.YtppoeiofdmlpeaaGreatDoor
open Go Go.RowKit
/-- What comes of reading: an error and its offset, or a thing and the tokens behind it. -/
inductive Got (α : Type) where
  | bad (e at' : Int)
  | ok (x : α) (rest : List Fnd)
def Got.bind {α β : Type} (g : Got α) (f : α → List Fnd → Got β) : Got β := match g with
  | .bad e a => .bad e a
  | .ok x r => f x r
def failP {α : Type} (E e : Int) : List Fnd → Got α
  | [] => .bad 9 E
  | t :: _ => .bad e t.pos
def skipB (s : ByteArray) : List Fnd → Bool
  | [] => false
  | t :: _ => decide (t.text = s ∧ (t.kind = 1 ∨ t.kind = 4))
def wantP (E : Int) (s : ByteArray) (l : List Fnd) : Got Unit := if skipB s l then .ok () l.tail else failP E 8 l
def nextP (E kind : Int) (check : ByteArray → Bool) : List Fnd → Got ByteArray
  | [] => .bad 9 E
  | t :: r => if t.kind = kind then (if check t.text then .ok t.text r else .bad 13 t.pos) else .bad 8 t.pos
def nameP (E : Int) : List Fnd → Got ByteArray := nextP E 1 nameB
def numB (low : Int) (s : ByteArray) : Bool := decide (low ≤ atoiV s.data.toList)
def numP (E low : Int) (l : List Fnd) : Got Int := (nextP E 2 (numB low) l).bind fun s r => .ok (atoiV s.data.toList) r
def valB (s : ByteArray) : Bool := decide (s.size ≠ 0 ∧ s.size ≤ 200)
def e0 : ByteArray := ⟨#[]⟩
/-- The further things with a word ahead of each. -/
def moreP (word : ByteArray) (one : List Fnd → Got Ex) : Nat → List Fnd → Got (List Ex)
  | 0, l => .ok [] l
  | n + 1, l => if skipB word l then (one l.tail).bind fun c r => (moreP word one n r).bind fun cs r2 => .ok (c :: cs) r2 else .ok [] l
def oneOf (op : Int) (c : Ex) : List Ex → Ex
  | [] => c
  | cs => .mk op e0 e0 0 0 (c :: cs)
def serP (word : ByteArray) (op : Int) (one : List Fnd → Got Ex) (l : List Fnd) : Got Ex :=
  (one l).bind fun c r => (moreP word one r.length r).bind fun cs r2 => .ok (oneOf op c cs) r2
def wAnd : ByteArray := ⟨#[97, 110, 100]⟩
def wOr : ByteArray := ⟨#[111, 114]⟩
def wOpen : ByteArray := ⟨#[40]⟩
def wShut : ByteArray := ⟨#[41]⟩
def wTrue : ByteArray := ⟨#[116, 114, 117, 101]⟩
def wNot : ByteArray := ⟨#[110, 111, 116]⟩
def wLimit : ByteArray := ⟨#[108, 105, 109, 105, 116]⟩
def wOver : ByteArray := ⟨#[111, 118, 101, 114]⟩
def wHas : ByteArray := ⟨#[104, 97, 115]⟩
def wSlot : ByteArray := ⟨#[115, 108, 111, 116]⟩
def wAll : ByteArray := ⟨#[97, 108, 108]⟩
def wAny : ByteArray := ⟨#[97, 110, 121]⟩
def wAt : ByteArray := ⟨#[97, 116]⟩
def wPlus : ByteArray := ⟨#[112, 108, 117, 115]⟩
def wIs : ByteArray := ⟨#[105, 115]⟩
def wLeast : ByteArray := ⟨#[108, 101, 97, 115, 116]⟩
def wEq : ByteArray := ⟨#[61]⟩
def wRule : ByteArray := ⟨#[114, 117, 108, 101]⟩
def wFor : ByteArray := ⟨#[102, 111, 114]⟩
def wColon : ByteArray := ⟨#[58]⟩
def wSemi : ByteArray := ⟨#[59]⟩
def andP (one : List Fnd → Got Ex) : List Fnd → Got Ex := serP wAnd 3 one
def condP (one : List Fnd → Got Ex) : List Fnd → Got Ex := serP wOr 4 (andP one)
/-- A condition in parentheses. -/
def inP (E : Int) (one : List Fnd → Got Ex) (l : List Fnd) : Got Ex :=
  (wantP E wOpen l).bind fun _ r => (condP one r).bind fun c r2 => (wantP E wShut r2).bind fun _ r3 => .ok c r3
def limitP (E : Int) (l : List Fnd) : Got Ex := (nameP E l).bind fun a r => (numP E 0 r).bind fun n r2 =>
  if skipB wPlus r2 then (numP E 0 r2.tail).bind fun x r3 => .ok (.mk 5 a e0 n x []) r3 else .ok (.mk 5 a e0 n 0 []) r2
def overP (E : Int) (l : List Fnd) : Got Ex := (nameP E l).bind fun a r => (numP E 0 r).bind fun n r2 => .ok (.mk 6 a e0 n 0 []) r2
def hasP (E : Int) (l : List Fnd) : Got Ex := (nameP E l).bind fun a r => .ok (.mk 8 a e0 0 0 []) r
def slotP (E : Int) (l : List Fnd) : Got Ex := (nameP E l).bind fun a r => (wantP E wIs r).bind fun _ r2 => (nameP E r2).bind fun v r3 => .ok (.mk 9 a v 0 0 []) r3
def withinP (E op : Int) (one : List Fnd → Got Ex) (l : List Fnd) : Got Ex := (nameP E l).bind fun a r => (inP E one r).bind fun c r2 => .ok (.mk op a e0 0 0 [c]) r2
def atP (E : Int) (l : List Fnd) : Got Ex := (wantP E wLeast l).bind fun _ r => (numP E 1 r).bind fun n r2 => (nameP E r2).bind fun a r3 => .ok (.mk 12 a e0 n 0 []) r3
def isP (E : Int) (l : List Fnd) : Got Ex := (nameP E l).bind fun a r => (wantP E wEq r).bind fun _ r2 => (nextP E 3 valB r2).bind fun v r3 => .ok (.mk 7 a v 0 0 []) r3
/-- What a reserved word begins, read behind it. -/
def wordsP (E : Int) (one : List Fnd → Got Ex) (t : Fnd) (r : List Fnd) : Got Ex :=
  if t.text = wTrue then .ok (.mk 1 e0 e0 0 0 []) r
  else if t.text = wNot then (one r).bind fun c r2 => .ok (.mk 2 e0 e0 0 0 [c]) r2
  else if t.text = wLimit then limitP E r
  else if t.text = wOver then overP E r
  else if t.text = wHas then hasP E r
  else if t.text = wSlot then slotP E r
  else if t.text = wAll then withinP E 10 one r
  else if t.text = wAny then withinP E 11 one r
  else if t.text = wAt then atP E r
  else .bad 8 t.pos
def notP1 (E : Int) (one : List Fnd → Got Ex) : List Fnd → Got Ex
  | [] => .bad 9 E
  | t :: r => if t.kind = 4 ∧ t.text = wOpen then inP E one (t :: r) else if t.kind = 1 ∧ resB t.text = true then wordsP E one t r else isP E (t :: r)
/-- A condition without "and" and "or". -/
def notP (E : Int) : Nat → List Fnd → Got Ex
  | 0, _ => .bad 0 0
  | k + 1, l => notP1 E (notP E k) l
theorem notP_succ (E : Int) (k : Nat) (l : List Fnd) : notP E (k + 1) l = notP1 E (notP E k) l := rfl
def ruleP (E : Int) (l : List Fnd) : Got Ru :=
  (wantP E wRule l).bind fun _ r => (nameP E r).bind fun a r1 => (wantP E wFor r1).bind fun _ r2 => (nameP E r2).bind fun b r3 => (wantP E wColon r3).bind fun _ r4 =>
  (condP (notP E (l.length + 1)) r4).bind fun c r5 => (wantP E wSemi r5).bind fun _ r6 => match r6 with
    | [] => .ok ⟨a, b, c⟩ []
    | t :: _ => .bad 8 t.pos
def ex0 : Ex := .mk 0 e0 e0 0 0 []
def ru0 : Ru := ⟨e0, e0, ex0⟩
/-- The rule of a text, or an error and its offset. -/
def parseU (s : ByteArray) : Ru × Int × Int :=
  if (lexL s).2.1 ≠ 0 then (ru0, (lexL s).2.1, (lexL s).2.2)
  else match ruleP s.size (lexL s).1 with
    | .bad e a => (ru0, e, a)
    | .ok r _ => if 60 < cnt r.cond then (ru0, 7, 0) else (r, 0, 0)
end Go.Proofs.YtppoeiofdmlpeaaGreatDoor
namespace Go.Proofs.YtppoeiofdmlpeaaGreatDoor
open Go Go.RowKit
def sAnd : ByteArray := ⟨#[32, 97, 110, 100, 32]⟩
def sOr : ByteArray := ⟨#[32, 111, 114, 32]⟩
def sNot : ByteArray := ⟨#[110, 111, 116, 32]⟩
def sPlus : ByteArray := ⟨#[32, 112, 108, 117, 115, 32]⟩
def sLimit : ByteArray := ⟨#[108, 105, 109, 105, 116, 32]⟩
def sSpace : ByteArray := ⟨#[32]⟩
def sOver : ByteArray := ⟨#[111, 118, 101, 114, 32]⟩
def sEq : ByteArray := ⟨#[32, 61, 32]⟩
def sHas : ByteArray := ⟨#[104, 97, 115, 32]⟩
def sSlot : ByteArray := ⟨#[115, 108, 111, 116, 32]⟩
def sIs : ByteArray := ⟨#[32, 105, 115, 32]⟩
def sAll : ByteArray := ⟨#[97, 108, 108, 32]⟩
def sAny : ByteArray := ⟨#[97, 110, 121, 32]⟩
def sOpen : ByteArray := ⟨#[32, 40]⟩
def sAt : ByteArray := ⟨#[97, 116, 32, 108, 101, 97, 115, 116, 32]⟩
def sRule : ByteArray := ⟨#[114, 117, 108, 101, 32]⟩
def sFor : ByteArray := ⟨#[32, 102, 111, 114, 32]⟩
def sColon : ByteArray := ⟨#[58, 32]⟩
def sEnd : ByteArray := ⟨#[59, 10]⟩
/-- The text of a kid: in parentheses where it must be. -/
def kidT (op kop : Int) (t : ByteArray) : ByteArray := if (kop = 3 ∨ kop = 4) ∧ op ≤ 4 then wOpen ++ t ++ wShut else t
/-- The text of a node, by those of its kids. -/
def nodeT (op : Int) (name value : ByteArray) (n extra : Int) (ts : List ByteArray) : ByteArray :=
  if op = 2 then sNot ++ ts.getD 0 e0
  else if op = 3 then joined ts sAnd
  else if op = 4 then joined ts sOr
  else if op = 5 then sLimit ++ name ++ sSpace ++ (if 0 < extra then itoaB n ++ (sPlus ++ itoaB extra) else itoaB n)
  else if op = 6 then sOver ++ name ++ sSpace ++ itoaB n
  else if op = 7 then name ++ sEq ++ quoteB value
  else if op = 8 then sHas ++ name
  else if op = 9 then sSlot ++ name ++ sIs ++ value
  else if op = 10 then sAll ++ name ++ sOpen ++ ts.getD 0 e0 ++ wShut
  else if op = 11 then sAny ++ name ++ sOpen ++ ts.getD 0 e0 ++ wShut
  else if op = 12 then sAt ++ itoaB n ++ sSpace ++ name
  else wTrue
mutual
/-- The text of a condition. -/
def texE : Ex → ByteArray
  | .mk op name value n extra ks => nodeT op name value n extra (texs op ks)
def texs (op : Int) : List Ex → List ByteArray
  | [] => []
  | k :: ks => kidT op k.op (texE k) :: texs op ks
end
theorem texE_eq (e : Ex) : texE e = nodeT e.op e.name e.value e.n e.extra (texs e.op e.kids) := by cases e; rw [texE]; rfl
theorem texs_cons (op : Int) (k : Ex) (ks : List Ex) : texs op (k :: ks) = kidT op k.op (texE k) :: texs op ks := by rw [texs]
theorem texs_nil (op : Int) : texs op [] = [] := by rw [texs]
theorem texs_map (op : Int) : ∀ ks : List Ex, texs op ks = ks.map fun k => kidT op k.op (texE k)
  | [] => texs_nil op
  | k :: ks => by rw [texs_cons, texs_map op ks]; rfl
def ruleT (r : Ru) : ByteArray := sRule ++ r.name ++ sFor ++ r.kind ++ sColon ++ texE r.cond ++ sEnd
/-- The text of a rule, or an error. -/
def textU (r : Ru) : ByteArray × Int := if ruleB r then (if 20000 < (ruleT r).size then (e0, 7) else (ruleT r, 0)) else (e0, 1)
end Go.Proofs.YtppoeiofdmlpeaaGreatDoor
