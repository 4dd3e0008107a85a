/- rule.node: is, and no operation. Condition: the strings lie in memory, the kids' slice has a length. -/
import Derived.Test.YtcpakaiblelmlaaGreatDoorU07
namespace Go.Proofs.YtcpakaiblelmlaaGreatDoor
open Go Go.RowKit
set_option maxRecDepth 100000 in
set_option maxHeartbeats 8000000 in
theorem node_7 (name value : ByteArray) (n extra : Int) (A : Option Addr) (len c : Nat) (w : World) (_hlen : len ≤ 1000000) (hnm : name.size ≤ maxLen) (_hvl : value.size ≤ maxLen) :
    Calls Tryz.prog 30 #[.agg #[.int .i64 7, .string name, .string value, .int .i64 n, .int .i64 extra, .slice A len c]] w fun r w' => r = .returned (.bool (decide (NodeOk 7 name value n extra len))) ∧ Below w.heap.size w w' := by
  have hE : decide (NodeOk 7 name value n extra len) = (decide (1 ≤ value.size) && (decide (value.size ≤ 200) && (!resB name && (nameB name && (decide (len = 0) && (decide (0 = n) && decide (0 = extra))))))) := by
    rw [Bool.eq_iff_iff]
    simp only [NodeOk, Bool.and_eq_true, decide_eq_true_eq, Bool.not_eq_true']
    constructor
    · rintro ⟨_, h1, h2, h3, h4, h5, h6⟩
      rw [if_neg (by omega), if_neg (by omega)] at h1
      rw [if_neg (by omega)] at h2
      rw [if_pos trivial] at h4
      rw [if_neg (by omega), if_neg (by omega)] at h5
      rw [if_neg (by omega)] at h6
      exact ⟨h4.1, h4.2, h3 trivial, h2, h1, h5.symm, h6.symm⟩
    · rintro ⟨h1, h2, h3, h4, h5, h6, h7⟩
      refine ⟨by omega, ?_, ?_, fun _ => h3, ?_, ?_, ?_⟩
      · rw [if_neg (by omega), if_neg (by omega)]; exact h5
      · rw [if_neg (by omega)]; exact h4
      · rw [if_pos trivial]; exact ⟨h1, h2⟩
      · rw [if_neg (by omega), if_neg (by omega)]; exact h6.symm
      · rw [if_neg (by omega)]; exact h7.symm
  rw [hE]
  clear hE
  have H0 := Lib.hid (NoB.start w #[.int .i64 7, .string name, .string value, .int .i64 n, .int .i64 extra, .slice A len c] #[.int .i64 7, .string ⟨#[]⟩, .string ⟨#[]⟩, .int .i64 0, .int .i64 0, .slice none 0 0])
  have hmx : Tryz.prog.follows .mixedOrders = true := by kernel_rfl
  have HN := Lib.hid (fun W => name_any name W hnm)
  generalize nameB name = nb at *
  have HC := Lib.hid (fun W => reserved_any name W)
  have hsz := isEmpty_size value
  by_cases h0 : value.size = 0
  · have hl3 : value.toList.isEmpty = true := by rw [hsz]; exact decide_eq_true h0
    have hl : value.toList = [] := List.isEmpty_iff.1 hl3
    have hl4 : (value.toList != []) = false := by rw [hl]; rfl
    have hl5 : (!value.toList.isEmpty) = false := by rw [hl3]; rfl
    rw [decide_eq_false (show ¬ 1 ≤ value.size by omega)]
    clear hsz HC
    go_enter Tryz.func30, Tryz.ntmps30
    go_wp2_with fail
    refine wp_region_held_drew (S := fun W => W.cell? ⟨w.heap.size, 1, none⟩ = some (.string name) ∧ W.cell? ⟨w.heap.size, 2, none⟩ = some (.string value)) (by kernel_rfl) (⟨H0.out.drew.c.cell 1, H0.out.drew.c.cell 2⟩) (fun hHeld => ?_)
    refine plI [(0, false), (1, false), (2, false), (3, false), (4, false), (5, false), (6, true), (7, true), (8, true), (9, true), (10, false), (11, false), (12, true), (13, true), (14, true), (15, true), (16, false), (17, false)] ?_
    repeat ((first | ((with_reducible show Plan ((_, true) :: _) _); refine plF ?_) | (refine plR (v := ?_) ?_ ?_; rotate_left; focus (intro W hSW; (try dsimp only at hSW); go_simp; all_goals (with_reducible rfl)))); try simp only [Act.put, List.setIfInBounds_toArray, List.set_cons_zero, List.set_cons_succ])
    refine plE ?_
    refine wpAnyH_ready (rs := [18]) (by kernel_rfl) (by simp) ?_
    refine AllReadyH.cons (o := ⟨_, _, _, _, _, _⟩) rfl (fun K hK => ?_) AllReadyH.nil
    go_simp
    have HK9 := Lib.hid (NoB.start w #[.int .i64 7, .string name, .string value, .int .i64 n, .int .i64 extra, .slice A len c] #[.int .i64 7, .string ⟨#[]⟩, .string value, .int .i64 0, .int .i64 0, .slice none 0 0]).drew
    refine hK.out _ _ (⟨HK9.out.c.cell 1, HK9.out.c.cell 2⟩) (fun hHeld => ?_)
    clear hK K
    try simp only [Act.put]
    refine plI [(19, false)] ?_
    repeat ((first | ((with_reducible show Plan ((_, true) :: _) _); refine plF ?_) | (refine plR (v := ?_) ?_ ?_; rotate_left; focus (intro W hSW; (try dsimp only at hSW); go_simp; all_goals (with_reducible rfl)))); try simp only [Act.put, List.setIfInBounds_toArray, List.set_cons_zero, List.set_cons_succ])
    refine plE ?_
    refine wpAnyH_done (by kernel_rfl) ?_ _
    clear hHeld
    have HG := Lib.hid (show NoB w #[.int .i64 7, .string name, .string value, .int .i64 n, .int .i64 extra, .slice A len c] #[.int .i64 7, .string ⟨#[]⟩, .string value, .int .i64 0, .int .i64 0, .slice none 0 0] ((w.alloc (.cells #[.int .i64 7, .string name, .string value, .int .i64 n, .int .i64 extra, .slice A len c] 27)).alloc (.cells #[.int .i64 7, .string ⟨#[]⟩, .string value, .int .i64 0, .int .i64 0, .slice none 0 0] 27)).drew from HK9.out)
    change Exit.inBlock _ _ _ _ ((w.alloc (.cells #[.int .i64 7, .string name, .string value, .int .i64 n, .int .i64 extra, .slice A len c] 27)).alloc (.cells #[.int .i64 7, .string ⟨#[]⟩, .string value, .int .i64 0, .int .i64 0, .slice none 0 0] 27)).drew
    generalize ((w.alloc (.cells #[.int .i64 7, .string name, .string value, .int .i64 n, .int .i64 extra, .slice A len c] 27)).alloc (.cells #[.int .i64 7, .string ⟨#[]⟩, .string value, .int .i64 0, .int .i64 0, .slice none 0 0] 27)).drew = V8 at *
    clear HK9
    obtain ⟨dc0, fc0⟩ := HG.out.c.facts
    obtain ⟨dx0, fx0⟩ := HG.out.x.facts
    go_wp2_with fail
    refine wp_region_held_drew (S := fun W => W.cell? ⟨w.heap.size, 1, none⟩ = some (.string name)) (by kernel_rfl) ((HG.out).drew.c.cell 1) (fun hHeld => ?_)
    refine plI [(0, false), (1, false), (2, false), (3, false), (4, true), (5, true), (6, true), (7, false), (8, false)] ?_
    repeat ((first | ((with_reducible show Plan ((_, true) :: _) _); refine plF ?_) | (refine plR (v := ?_) ?_ ?_; rotate_left; focus (intro W hSW; (try dsimp only at hSW); go_simp; all_goals (with_reducible rfl)))); try simp only [Act.put, List.setIfInBounds_toArray, List.set_cons_zero, List.set_cons_succ])
    refine plE ?_
    refine wpAnyH_ready (rs := [9]) (by kernel_rfl) (by simp) ?_
    refine AllReadyH.cons (o := ⟨_, _, _, _, _, _⟩) rfl (fun K hK => ?_) AllReadyH.nil
    go_simp
    have HB9 := Lib.hid (((HG.out).set 1 (.string name)).drew)
    refine hK.out _ _ (HB9.out.c.cell 1) (fun hHeld => ?_)
    clear hK K
    try simp only [Act.put]
    refine plI [(10, false)] ?_
    repeat ((first | ((with_reducible show Plan ((_, true) :: _) _); refine plF ?_) | (refine plR (v := ?_) ?_ ?_; rotate_left; focus (intro W hSW; (try dsimp only at hSW); go_simp; all_goals (with_reducible rfl)))); try simp only [Act.put, List.setIfInBounds_toArray, List.set_cons_zero, List.set_cons_succ])
    refine plE ?_
    refine wpAnyH_done (by kernel_rfl) ?_ _
    clear hHeld
    have HF := Lib.hid (show NoB w #[.int .i64 7, .string name, .string value, .int .i64 n, .int .i64 extra, .slice A len c] #[.int .i64 7, .string name, .string value, .int .i64 0, .int .i64 0, .slice none 0 0] (V8.setCell ⟨w.heap.size + 1, 1, none⟩ (.string name)).drew from HB9.out)
    change Exit.then _ _ _ _ (V8.setCell ⟨w.heap.size + 1, 1, none⟩ (.string name)).drew
    generalize (V8.setCell ⟨w.heap.size + 1, 1, none⟩ (.string name)).drew = V9 at *
    clear HB9
    obtain ⟨dc, fc⟩ := HF.out.c.facts
    obtain ⟨dx, fx⟩ := HF.out.x.facts
    go_wp2_with fail
    all_goals
      go_ret
      refine ⟨?_, HF.out.b⟩
      simp [*]
      try (rw [Bool.eq_iff_iff, beq_iff_eq, decide_eq_true_iff])
  · have hl3 : value.toList.isEmpty = false := by rw [hsz]; exact decide_eq_false h0
    have hl : ¬ value.toList = [] := fun h => by rw [h] at hl3; cases hl3
    have hl4 : (value.toList != []) = true := by simpa using hl
    have hl5 : (!value.toList.isEmpty) = true := by rw [hl3]; rfl
    clear hsz
    rw [decide_eq_true (show 1 ≤ value.size by omega)]
    by_cases h2 : value.size ≤ 200
    · have h2i : (value.size : Int) ≤ 200 := by omega
      have h2b : decide ((value.size : Int) ≤ 200) = true := decide_eq_true h2i
      rw [decide_eq_true h2]
      cases hb : resB name with
      | true =>
        rw [hb] at HC
        go_enter Tryz.func30, Tryz.ntmps30
        go_wp2_with fail
        refine wp_region_held_drew (S := fun W => W.cell? ⟨w.heap.size, 1, none⟩ = some (.string name) ∧ W.cell? ⟨w.heap.size, 2, none⟩ = some (.string value)) (by kernel_rfl) (⟨H0.out.drew.c.cell 1, H0.out.drew.c.cell 2⟩) (fun hHeld => ?_)
        refine plI [(0, false), (1, false), (2, false), (3, false), (4, false), (5, false), (6, false), (7, false), (8, false), (9, false), (10, false), (11, false), (12, false), (13, false), (17, false)] ?_
        repeat ((first | ((with_reducible show Plan ((_, true) :: _) _); refine plF ?_) | (refine plR (v := ?_) ?_ ?_; rotate_left; focus (intro W hSW; (try dsimp only at hSW); go_simp; all_goals (with_reducible rfl)))); try simp only [Act.put, List.setIfInBounds_toArray, List.set_cons_zero, List.set_cons_succ])
        refine plE ?_
        refine wpAnyH_ready (rs := [14]) (by kernel_rfl) (by simp) ?_
        refine AllReadyH.cons (o := ⟨_, _, _, _, _, _⟩) rfl (fun K hK => ?_) AllReadyH.nil
        go_simp
        go_at_call 58; refine (HC.out _).mono ?_; rintro r k2 ⟨rfl, hk2⟩
        have HK6 := Lib.hid (H0.out.drew.below hk2)
        clear hk2
        obtain ⟨dk, fk⟩ := HK6.out.x.facts
        refine hK.out _ _ (⟨HK6.out.c.cell 1, HK6.out.c.cell 2⟩) (fun hHeld => ?_)
        clear hK K
        try simp only [Act.put, List.setIfInBounds_toArray, List.set_cons_zero, List.set_cons_succ]
        refine plI [(15, false), (16, false)] ?_
        repeat ((first | ((with_reducible show Plan ((_, true) :: _) _); refine plF ?_) | (refine plR (v := ?_) ?_ ?_; rotate_left; focus (intro W hSW; (try dsimp only at hSW); go_simp; all_goals (with_reducible rfl)))); try simp only [Act.put, List.setIfInBounds_toArray, List.set_cons_zero, List.set_cons_succ])
        refine plE ?_
        refine wpAnyH_ready (rs := [18]) (by kernel_rfl) (by simp) ?_
        refine AllReadyH.cons (o := ⟨_, _, _, _, _, _⟩) rfl (fun K hK => ?_) AllReadyH.nil
        go_simp
        have HK9 := Lib.hid (HK6.out.set 2 (.string value))
        refine hK.out _ _ (⟨HK9.out.c.cell 1, HK9.out.c.cell 2⟩) (fun hHeld => ?_)
        clear hK K
        try simp only [Act.put]
        refine plI [(19, false)] ?_
        repeat ((first | ((with_reducible show Plan ((_, true) :: _) _); refine plF ?_) | (refine plR (v := ?_) ?_ ?_; rotate_left; focus (intro W hSW; (try dsimp only at hSW); go_simp; all_goals (with_reducible rfl)))); try simp only [Act.put, List.setIfInBounds_toArray, List.set_cons_zero, List.set_cons_succ])
        refine plE ?_
        refine wpAnyH_done (by kernel_rfl) ?_ _
        clear hHeld
        have HG := Lib.hid (show NoB w #[.int .i64 7, .string name, .string value, .int .i64 n, .int .i64 extra, .slice A len c] #[.int .i64 7, .string ⟨#[]⟩, .string value, .int .i64 0, .int .i64 0, .slice none 0 0] (k2.setCell ⟨w.heap.size + 1, 2, none⟩ (.string value)) from HK9.out)
        change Exit.inBlock _ _ _ _ (k2.setCell ⟨w.heap.size + 1, 2, none⟩ (.string value))
        generalize (k2.setCell ⟨w.heap.size + 1, 2, none⟩ (.string value)) = V8 at *
        clear HK9 HK6
        obtain ⟨dc0, fc0⟩ := HG.out.c.facts
        obtain ⟨dx0, fx0⟩ := HG.out.x.facts
        go_wp2_with fail
        refine wp_region_held_drew (S := fun W => W.cell? ⟨w.heap.size, 1, none⟩ = some (.string name)) (by kernel_rfl) ((HG.out).drew.c.cell 1) (fun hHeld => ?_)
        refine plI [(0, false), (1, false), (2, false), (3, false), (4, true), (5, true), (6, true), (7, false), (8, false)] ?_
        repeat ((first | ((with_reducible show Plan ((_, true) :: _) _); refine plF ?_) | (refine plR (v := ?_) ?_ ?_; rotate_left; focus (intro W hSW; (try dsimp only at hSW); go_simp; all_goals (with_reducible rfl)))); try simp only [Act.put, List.setIfInBounds_toArray, List.set_cons_zero, List.set_cons_succ])
        refine plE ?_
        refine wpAnyH_ready (rs := [9]) (by kernel_rfl) (by simp) ?_
        refine AllReadyH.cons (o := ⟨_, _, _, _, _, _⟩) rfl (fun K hK => ?_) AllReadyH.nil
        go_simp
        have HB9 := Lib.hid (((HG.out).set 1 (.string name)).drew)
        refine hK.out _ _ (HB9.out.c.cell 1) (fun hHeld => ?_)
        clear hK K
        try simp only [Act.put]
        refine plI [(10, false)] ?_
        repeat ((first | ((with_reducible show Plan ((_, true) :: _) _); refine plF ?_) | (refine plR (v := ?_) ?_ ?_; rotate_left; focus (intro W hSW; (try dsimp only at hSW); go_simp; all_goals (with_reducible rfl)))); try simp only [Act.put, List.setIfInBounds_toArray, List.set_cons_zero, List.set_cons_succ])
        refine plE ?_
        refine wpAnyH_done (by kernel_rfl) ?_ _
        clear hHeld
        have HF := Lib.hid (show NoB w #[.int .i64 7, .string name, .string value, .int .i64 n, .int .i64 extra, .slice A len c] #[.int .i64 7, .string name, .string value, .int .i64 0, .int .i64 0, .slice none 0 0] (V8.setCell ⟨w.heap.size + 1, 1, none⟩ (.string name)).drew from HB9.out)
        change Exit.then _ _ _ _ (V8.setCell ⟨w.heap.size + 1, 1, none⟩ (.string name)).drew
        generalize (V8.setCell ⟨w.heap.size + 1, 1, none⟩ (.string name)).drew = V9 at *
        clear HB9
        obtain ⟨dc, fc⟩ := HF.out.c.facts
        obtain ⟨dx, fx⟩ := HF.out.x.facts
        go_wp2_with fail
        all_goals
          go_ret
          refine ⟨?_, HF.out.b⟩
          simp [*]
          try (rw [Bool.eq_iff_iff, beq_iff_eq, decide_eq_true_iff])
      | false =>
        rw [hb] at HC
        go_enter Tryz.func30, Tryz.ntmps30
        go_wp2_with fail
        refine wp_region_held_drew (S := fun W => W.cell? ⟨w.heap.size, 1, none⟩ = some (.string name) ∧ W.cell? ⟨w.heap.size, 2, none⟩ = some (.string value)) (by kernel_rfl) (⟨H0.out.drew.c.cell 1, H0.out.drew.c.cell 2⟩) (fun hHeld => ?_)
        refine plI [(0, false), (1, false), (2, false), (3, false), (4, false), (5, false), (6, false), (7, false), (8, false), (9, false), (10, false), (11, false), (12, false), (13, false), (17, false)] ?_
        repeat ((first | ((with_reducible show Plan ((_, true) :: _) _); refine plF ?_) | (refine plR (v := ?_) ?_ ?_; rotate_left; focus (intro W hSW; (try dsimp only at hSW); go_simp; all_goals (with_reducible rfl)))); try simp only [Act.put, List.setIfInBounds_toArray, List.set_cons_zero, List.set_cons_succ])
        refine plE ?_
        refine wpAnyH_ready (rs := [14]) (by kernel_rfl) (by simp) ?_
        refine AllReadyH.cons (o := ⟨_, _, _, _, _, _⟩) rfl (fun K hK => ?_) AllReadyH.nil
        go_simp
        go_at_call 58; refine (HC.out _).mono ?_; rintro r k2 ⟨rfl, hk2⟩
        have HK6 := Lib.hid (H0.out.drew.below hk2)
        clear hk2
        obtain ⟨dk, fk⟩ := HK6.out.x.facts
        refine hK.out _ _ (⟨HK6.out.c.cell 1, HK6.out.c.cell 2⟩) (fun hHeld => ?_)
        clear hK K
        try simp only [Act.put, List.setIfInBounds_toArray, List.set_cons_zero, List.set_cons_succ]
        refine plI [(15, false), (16, false)] ?_
        repeat ((first | ((with_reducible show Plan ((_, true) :: _) _); refine plF ?_) | (refine plR (v := ?_) ?_ ?_; rotate_left; focus (intro W hSW; (try dsimp only at hSW); go_simp; all_goals (with_reducible rfl)))); try simp only [Act.put, List.setIfInBounds_toArray, List.set_cons_zero, List.set_cons_succ])
        refine plE ?_
        refine wpAnyH_ready (rs := [18]) (by kernel_rfl) (by simp) ?_
        refine AllReadyH.cons (o := ⟨_, _, _, _, _, _⟩) rfl (fun K hK => ?_) AllReadyH.nil
        go_simp
        have HK9 := Lib.hid (HK6.out.set 2 (.string value))
        refine hK.out _ _ (⟨HK9.out.c.cell 1, HK9.out.c.cell 2⟩) (fun hHeld => ?_)
        clear hK K
        try simp only [Act.put]
        refine plI [(19, false)] ?_
        repeat ((first | ((with_reducible show Plan ((_, true) :: _) _); refine plF ?_) | (refine plR (v := ?_) ?_ ?_; rotate_left; focus (intro W hSW; (try dsimp only at hSW); go_simp; all_goals (with_reducible rfl)))); try simp only [Act.put, List.setIfInBounds_toArray, List.set_cons_zero, List.set_cons_succ])
        refine plE ?_
        refine wpAnyH_done (by kernel_rfl) ?_ _
        clear hHeld
        have HG := Lib.hid (show NoB w #[.int .i64 7, .string name, .string value, .int .i64 n, .int .i64 extra, .slice A len c] #[.int .i64 7, .string ⟨#[]⟩, .string value, .int .i64 0, .int .i64 0, .slice none 0 0] (k2.setCell ⟨w.heap.size + 1, 2, none⟩ (.string value)) from HK9.out)
        change Exit.inBlock _ _ _ _ (k2.setCell ⟨w.heap.size + 1, 2, none⟩ (.string value))
        generalize (k2.setCell ⟨w.heap.size + 1, 2, none⟩ (.string value)) = V8 at *
        clear HK9 HK6
        obtain ⟨dc0, fc0⟩ := HG.out.c.facts
        obtain ⟨dx0, fx0⟩ := HG.out.x.facts
        go_wp2_with fail
        refine wp_region_held_drew (S := fun W => W.cell? ⟨w.heap.size, 1, none⟩ = some (.string name)) (by kernel_rfl) ((HG.out).drew.c.cell 1) (fun hHeld => ?_)
        refine plI [(0, false), (1, false), (2, false), (3, false), (4, false), (5, false), (8, false)] ?_
        repeat ((first | ((with_reducible show Plan ((_, true) :: _) _); refine plF ?_) | (refine plR (v := ?_) ?_ ?_; rotate_left; focus (intro W hSW; (try dsimp only at hSW); go_simp; all_goals (with_reducible rfl)))); try simp only [Act.put, List.setIfInBounds_toArray, List.set_cons_zero, List.set_cons_succ])
        refine plE ?_
        refine wpAnyH_ready (rs := [6]) (by kernel_rfl) (by simp) ?_
        refine AllReadyH.cons (o := ⟨_, _, _, _, _, _⟩) rfl (fun K hK => ?_) AllReadyH.nil
        go_simp
        go_at_call 27; refine (HN.out _).mono ?_; rintro r v2 ⟨rfl, hbn⟩
        have HB6 := Lib.hid ((HG.out).drew.below hbn)
        obtain ⟨dx6, fx6⟩ := HB6.out.x.facts
        clear hbn
        refine hK.out _ _ (HB6.out.c.cell 1) (fun hHeld => ?_)
        clear hK K
        try simp only [Act.put, List.setIfInBounds_toArray, List.set_cons_zero, List.set_cons_succ]
        refine plI [(7, false)] ?_
        repeat ((first | ((with_reducible show Plan ((_, true) :: _) _); refine plF ?_) | (refine plR (v := ?_) ?_ ?_; rotate_left; focus (intro W hSW; (try dsimp only at hSW); go_simp; all_goals (with_reducible rfl)))); try simp only [Act.put, List.setIfInBounds_toArray, List.set_cons_zero, List.set_cons_succ])
        refine plE ?_
        refine wpAnyH_ready (rs := [9]) (by kernel_rfl) (by simp) ?_
        refine AllReadyH.cons (o := ⟨_, _, _, _, _, _⟩) rfl (fun K hK => ?_) AllReadyH.nil
        go_simp
        have HB9 := Lib.hid (HB6.out.set 1 (.string name))
        refine hK.out _ _ (HB9.out.c.cell 1) (fun hHeld => ?_)
        clear hK K
        try simp only [Act.put]
        refine plI [(10, false)] ?_
        repeat ((first | ((with_reducible show Plan ((_, true) :: _) _); refine plF ?_) | (refine plR (v := ?_) ?_ ?_; rotate_left; focus (intro W hSW; (try dsimp only at hSW); go_simp; all_goals (with_reducible rfl)))); try simp only [Act.put, List.setIfInBounds_toArray, List.set_cons_zero, List.set_cons_succ])
        refine plE ?_
        refine wpAnyH_done (by kernel_rfl) ?_ _
        clear hHeld
        have HF := Lib.hid (show NoB w #[.int .i64 7, .string name, .string value, .int .i64 n, .int .i64 extra, .slice A len c] #[.int .i64 7, .string name, .string value, .int .i64 0, .int .i64 0, .slice none 0 0] (v2.setCell ⟨w.heap.size + 1, 1, none⟩ (.string name)) from HB9.out)
        change Exit.then _ _ _ _ (v2.setCell ⟨w.heap.size + 1, 1, none⟩ (.string name))
        generalize (v2.setCell ⟨w.heap.size + 1, 1, none⟩ (.string name)) = V9 at *
        clear HB9 HB6 dx6 fx6
        obtain ⟨dc, fc⟩ := HF.out.c.facts
        obtain ⟨dx, fx⟩ := HF.out.x.facts
        go_wp2_with fail
        all_goals
          go_ret
          refine ⟨?_, HF.out.b⟩
          simp [*]
          try (rw [Bool.eq_iff_iff, beq_iff_eq, decide_eq_true_iff])
    · have h2i : ¬ (value.size : Int) ≤ 200 := by omega
      have h2b : decide ((value.size : Int) ≤ 200) = false := decide_eq_false h2i
      rw [decide_eq_false h2]
      clear HC
      go_enter Tryz.func30, Tryz.ntmps30
      go_wp2_with fail
      refine wp_region_held_drew (S := fun W => W.cell? ⟨w.heap.size, 1, none⟩ = some (.string name) ∧ W.cell? ⟨w.heap.size, 2, none⟩ = some (.string value)) (by kernel_rfl) (⟨H0.out.drew.c.cell 1, H0.out.drew.c.cell 2⟩) (fun hHeld => ?_)
      refine plI [(0, false), (1, false), (2, false), (3, false), (4, false), (5, false), (6, false), (7, false), (8, false), (9, false), (10, false), (11, false), (12, true), (13, true), (14, true), (15, true), (16, false), (17, false)] ?_
      repeat ((first | ((with_reducible show Plan ((_, true) :: _) _); refine plF ?_) | (refine plR (v := ?_) ?_ ?_; rotate_left; focus (intro W hSW; (try dsimp only at hSW); go_simp; all_goals (with_reducible rfl)))); try simp only [Act.put, List.setIfInBounds_toArray, List.set_cons_zero, List.set_cons_succ])
      refine plE ?_
      refine wpAnyH_ready (rs := [18]) (by kernel_rfl) (by simp) ?_
      refine AllReadyH.cons (o := ⟨_, _, _, _, _, _⟩) rfl (fun K hK => ?_) AllReadyH.nil
      go_simp
      have HK9 := Lib.hid (NoB.start w #[.int .i64 7, .string name, .string value, .int .i64 n, .int .i64 extra, .slice A len c] #[.int .i64 7, .string ⟨#[]⟩, .string value, .int .i64 0, .int .i64 0, .slice none 0 0]).drew
      refine hK.out _ _ (⟨HK9.out.c.cell 1, HK9.out.c.cell 2⟩) (fun hHeld => ?_)
      clear hK K
      try simp only [Act.put]
      refine plI [(19, false)] ?_
      repeat ((first | ((with_reducible show Plan ((_, true) :: _) _); refine plF ?_) | (refine plR (v := ?_) ?_ ?_; rotate_left; focus (intro W hSW; (try dsimp only at hSW); go_simp; all_goals (with_reducible rfl)))); try simp only [Act.put, List.setIfInBounds_toArray, List.set_cons_zero, List.set_cons_succ])
      refine plE ?_
      refine wpAnyH_done (by kernel_rfl) ?_ _
      clear hHeld
      have HG := Lib.hid (show NoB w #[.int .i64 7, .string name, .string value, .int .i64 n, .int .i64 extra, .slice A len c] #[.int .i64 7, .string ⟨#[]⟩, .string value, .int .i64 0, .int .i64 0, .slice none 0 0] ((w.alloc (.cells #[.int .i64 7, .string name, .string value, .int .i64 n, .int .i64 extra, .slice A len c] 27)).alloc (.cells #[.int .i64 7, .string ⟨#[]⟩, .string value, .int .i64 0, .int .i64 0, .slice none 0 0] 27)).drew from HK9.out)
      change Exit.inBlock _ _ _ _ ((w.alloc (.cells #[.int .i64 7, .string name, .string value, .int .i64 n, .int .i64 extra, .slice A len c] 27)).alloc (.cells #[.int .i64 7, .string ⟨#[]⟩, .string value, .int .i64 0, .int .i64 0, .slice none 0 0] 27)).drew
      generalize ((w.alloc (.cells #[.int .i64 7, .string name, .string value, .int .i64 n, .int .i64 extra, .slice A len c] 27)).alloc (.cells #[.int .i64 7, .string ⟨#[]⟩, .string value, .int .i64 0, .int .i64 0, .slice none 0 0] 27)).drew = V8 at *
      clear HK9
      obtain ⟨dc0, fc0⟩ := HG.out.c.facts
      obtain ⟨dx0, fx0⟩ := HG.out.x.facts
      go_wp2_with fail
      refine wp_region_held_drew (S := fun W => W.cell? ⟨w.heap.size, 1, none⟩ = some (.string name)) (by kernel_rfl) ((HG.out).drew.c.cell 1) (fun hHeld => ?_)
      refine plI [(0, false), (1, false), (2, false), (3, false), (4, true), (5, true), (6, true), (7, false), (8, false)] ?_
      repeat ((first | ((with_reducible show Plan ((_, true) :: _) _); refine plF ?_) | (refine plR (v := ?_) ?_ ?_; rotate_left; focus (intro W hSW; (try dsimp only at hSW); go_simp; all_goals (with_reducible rfl)))); try simp only [Act.put, List.setIfInBounds_toArray, List.set_cons_zero, List.set_cons_succ])
      refine plE ?_
      refine wpAnyH_ready (rs := [9]) (by kernel_rfl) (by simp) ?_
      refine AllReadyH.cons (o := ⟨_, _, _, _, _, _⟩) rfl (fun K hK => ?_) AllReadyH.nil
      go_simp
      have HB9 := Lib.hid (((HG.out).set 1 (.string name)).drew)
      refine hK.out _ _ (HB9.out.c.cell 1) (fun hHeld => ?_)
      clear hK K
      try simp only [Act.put]
      refine plI [(10, false)] ?_
      repeat ((first | ((with_reducible show Plan ((_, true) :: _) _); refine plF ?_) | (refine plR (v := ?_) ?_ ?_; rotate_left; focus (intro W hSW; (try dsimp only at hSW); go_simp; all_goals (with_reducible rfl)))); try simp only [Act.put, List.setIfInBounds_toArray, List.set_cons_zero, List.set_cons_succ])
      refine plE ?_
      refine wpAnyH_done (by kernel_rfl) ?_ _
      clear hHeld
      have HF := Lib.hid (show NoB w #[.int .i64 7, .string name, .string value, .int .i64 n, .int .i64 extra, .slice A len c] #[.int .i64 7, .string name, .string value, .int .i64 0, .int .i64 0, .slice none 0 0] (V8.setCell ⟨w.heap.size + 1, 1, none⟩ (.string name)).drew from HB9.out)
      change Exit.then _ _ _ _ (V8.setCell ⟨w.heap.size + 1, 1, none⟩ (.string name)).drew
      generalize (V8.setCell ⟨w.heap.size + 1, 1, none⟩ (.string name)).drew = V9 at *
      clear HB9
      obtain ⟨dc, fc⟩ := HF.out.c.facts
      obtain ⟨dx, fx⟩ := HF.out.x.facts
      go_wp2_with fail
      all_goals
        go_ret
        refine ⟨?_, HF.out.b⟩
        simp [*]
        try (rw [Bool.eq_iff_iff, beq_iff_eq, decide_eq_true_iff])
set_option maxRecDepth 100000 in
set_option maxHeartbeats 8000000 in
theorem node_0 (op : Int) (name value : ByteArray) (n extra : Int) (A : Option Addr) (len c : Nat) (w : World) (_hlen : len ≤ 1000000) (hop : ¬ (1 ≤ op ∧ op ≤ 12)) :
    Calls Tryz.prog 30 #[.agg #[.int .i64 op, .string name, .string value, .int .i64 n, .int .i64 extra, .slice A len c]] w fun r w' => r = .returned (.bool (decide (NodeOk op name value n extra len))) ∧ Below w.heap.size w w' := by
  rw [decide_eq_false fun h => hop h.1]
  have e1 : (op == 1) = false := by rw [beq_eq_false_iff_ne]; omega
  have f1 : ¬ op = 1 := by omega
  have e2 : (op == 2) = false := by rw [beq_eq_false_iff_ne]; omega
  have f2 : ¬ op = 2 := by omega
  have e3 : (op == 3) = false := by rw [beq_eq_false_iff_ne]; omega
  have f3 : ¬ op = 3 := by omega
  have e4 : (op == 4) = false := by rw [beq_eq_false_iff_ne]; omega
  have f4 : ¬ op = 4 := by omega
  have e5 : (op == 5) = false := by rw [beq_eq_false_iff_ne]; omega
  have f5 : ¬ op = 5 := by omega
  have e6 : (op == 6) = false := by rw [beq_eq_false_iff_ne]; omega
  have f6 : ¬ op = 6 := by omega
  have e7 : (op == 7) = false := by rw [beq_eq_false_iff_ne]; omega
  have f7 : ¬ op = 7 := by omega
  have e8 : (op == 8) = false := by rw [beq_eq_false_iff_ne]; omega
  have f8 : ¬ op = 8 := by omega
  have e9 : (op == 9) = false := by rw [beq_eq_false_iff_ne]; omega
  have f9 : ¬ op = 9 := by omega
  have e10 : (op == 10) = false := by rw [beq_eq_false_iff_ne]; omega
  have f10 : ¬ op = 10 := by omega
  have e11 : (op == 11) = false := by rw [beq_eq_false_iff_ne]; omega
  have f11 : ¬ op = 11 := by omega
  have e12 : (op == 12) = false := by rw [beq_eq_false_iff_ne]; omega
  have f12 : ¬ op = 12 := by omega
  clear hop
  go_enter Tryz.func30, Tryz.ntmps30
  go_wp2_with fail
  go_ret
  exact ⟨rfl, ((Below.refl _ _).alloc (Nat.le_refl _) _).alloc (by simp) _⟩
end Go.Proofs.YtcpakaiblelmlaaGreatDoor
