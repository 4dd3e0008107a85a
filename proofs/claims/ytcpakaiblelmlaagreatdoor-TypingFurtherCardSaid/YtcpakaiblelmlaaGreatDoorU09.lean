/- rule.node: over, at least, slot. Condition: the strings lie in memory, the kids' slice has a length. -/
import Derived.Test.YtcpakaiblelmlaaGreatDoorU07
namespace Go.Proofs.YtcpakaiblelmlaaGreatDoor
open Go Go.RowKit
def numN (low n : Int) : Bool := decide (low ≤ n ∧ n ≤ 9999999)
set_option maxRecDepth 100000 in
set_option maxHeartbeats 4000000 in
theorem nod1_any (low n : Int) (w : World) : Calls Tryz.prog 57 #[.int .i64 n, .int .i64 low] w fun r w' => r = .returned (.bool (numN low n)) ∧ w' = w := by
  by_cases h1 : low ≤ n
  · by_cases h2 : n ≤ 9999999
    · have hn : numN low n = true := decide_eq_true ⟨h1, h2⟩
      rw [hn]
      go_enter Tryz.func57, Tryz.ntmps57
      go_wp2_with fail
      go_ret
      exact ⟨rfl, rfl⟩
    · have hn : numN low n = false := decide_eq_false fun h => h2 h.2
      rw [hn]
      go_enter Tryz.func57, Tryz.ntmps57
      go_wp2_with fail
      go_ret
      exact ⟨rfl, rfl⟩
  · have hn : numN low n = false := decide_eq_false fun h => h1 h.1
    rw [hn]
    go_enter Tryz.func57, Tryz.ntmps57
    go_wp2_with fail
    go_ret
    exact ⟨rfl, rfl⟩
set_option maxRecDepth 100000 in
set_option maxHeartbeats 8000000 in
theorem node_6 (name value : ByteArray) (n extra : Int) (A : Option Addr) (len c : Nat) (w : World) (_hlen : len ≤ 1000000) (hnm : name.size ≤ maxLen) (_hvl : value.size ≤ maxLen) :
    Calls Tryz.prog 30 #[.agg #[.int .i64 6, .string name, .string value, .int .i64 n, .int .i64 extra, .slice A len c]] w fun r w' => r = .returned (.bool (decide (NodeOk 6 name value n extra len))) ∧ Below w.heap.size w w' := by
  have hE : decide (NodeOk 6 name value n extra len) = (numN 0 n && (nameB name && (decide (len = 0) && (decide (value.toList = []) && decide (0 = extra))))) := by
    rw [size0, Bool.eq_iff_iff]
    simp [NodeOk, numN]
    constructor
    · rintro ⟨h1, h2, h3, h4, h5⟩; exact ⟨by omega, h2, h1, h3, by omega⟩
    · rintro ⟨h1, h2, h3, h4, h5⟩; exact ⟨h3, h2, h4, by omega, by omega⟩
  rw [hE]
  clear hE
  have H0 := Lib.hid (NoB.start w #[.int .i64 6, .string name, .string value, .int .i64 n, .int .i64 extra, .slice A len c] #[.int .i64 6, .string ⟨#[]⟩, .string ⟨#[]⟩, .int .i64 0, .int .i64 0, .slice none 0 0])
  have hmx : Tryz.prog.follows .mixedOrders = true := by kernel_rfl
  have HN := Lib.hid (fun W => name_any name W hnm)
  generalize nameB name = nb at *
  have HC := Lib.hid (fun W => nod1_any 0 n W)
  cases hb : numN 0 n with
  | true =>
    rw [hb] at HC
    go_enter Tryz.func30, Tryz.ntmps30
    go_wp2_with fail
    refine wp_region_held_drew (S := fun W => W.cell? ⟨w.heap.size, 3, none⟩ = some (.int .i64 n)) (by kernel_rfl) ((H0.out).drew.c.cell 3) (fun hHeld => ?_)
    refine plI [(0, false), (1, false), (2, false), (3, false), (4, false), (6, false)] ?_
    repeat ((first | ((with_reducible show Plan ((_, true) :: _) _); refine plF ?_) | (refine plR (v := ?_) ?_ ?_; rotate_left; focus (intro W hSW; (try dsimp only at hSW); go_simp; all_goals (with_reducible rfl)))); try simp only [Act.put, List.setIfInBounds_toArray, List.set_cons_zero, List.set_cons_succ])
    refine plE ?_
    refine wpAnyH_ready (rs := [5]) (by kernel_rfl) (by simp) ?_
    refine AllReadyH.cons (o := ⟨_, _, _, _, _, _⟩) rfl (fun K hK => ?_) AllReadyH.nil
    go_simp
    go_at_call 57; refine (HC.out _).mono ?_; rintro r k2 ⟨rfl, hk2⟩
    have HK6 := Lib.hid (show NoB w #[.int .i64 6, .string name, .string value, .int .i64 n, .int .i64 extra, .slice A len c] #[.int .i64 6, .string ⟨#[]⟩, .string ⟨#[]⟩, .int .i64 0, .int .i64 0, .slice none 0 0] k2 by rw [hk2]; exact H0.out.drew)
    clear hk2
    obtain ⟨dk, fk⟩ := HK6.out.x.facts
    refine hK.out _ _ (HK6.out.c.cell 3) (fun hHeld => ?_)
    clear hK K
    try simp only [Act.put, List.setIfInBounds_toArray, List.set_cons_zero, List.set_cons_succ]
    refine wpAnyH_ready (rs := [7]) (by kernel_rfl) (by simp) ?_
    refine AllReadyH.cons (o := ⟨_, _, _, _, _, _⟩) rfl (fun K hK => ?_) AllReadyH.nil
    go_simp
    have HK9 := Lib.hid (HK6.out.set 3 (.int .i64 n))
    refine hK.out _ _ (HK9.out.c.cell 3) (fun hHeld => ?_)
    clear hK K
    try simp only [Act.put]
    refine plI [(8, false)] ?_
    repeat ((first | ((with_reducible show Plan ((_, true) :: _) _); refine plF ?_) | (refine plR (v := ?_) ?_ ?_; rotate_left; focus (intro W hSW; (try dsimp only at hSW); go_simp; all_goals (with_reducible rfl)))); try simp only [Act.put, List.setIfInBounds_toArray, List.set_cons_zero, List.set_cons_succ])
    refine plE ?_
    refine wpAnyH_done (by kernel_rfl) ?_ _
    clear hHeld
    have HG := Lib.hid (show NoB w #[.int .i64 6, .string name, .string value, .int .i64 n, .int .i64 extra, .slice A len c] #[.int .i64 6, .string ⟨#[]⟩, .string ⟨#[]⟩, .int .i64 n, .int .i64 0, .slice none 0 0] (k2.setCell ⟨w.heap.size + 1, 3, none⟩ (.int .i64 n)) from HK9.out)
    change Exit.inBlock _ _ _ _ (k2.setCell ⟨w.heap.size + 1, 3, none⟩ (.int .i64 n))
    generalize (k2.setCell ⟨w.heap.size + 1, 3, none⟩ (.int .i64 n)) = V8 at *
    clear HK9 HK6
    obtain ⟨dc0, fc0⟩ := HG.out.c.facts
    obtain ⟨dx0, fx0⟩ := HG.out.x.facts
    go_wp2_with fail
    refine wp_region_held_drew (S := fun W => W.cell? ⟨w.heap.size, 1, none⟩ = some (.string name)) (by kernel_rfl) ((HG.out).drew.c.cell 1) (fun hHeld => ?_)
    refine plI [(0, false), (1, false), (2, false), (3, false), (4, false), (5, false), (8, false)] ?_
    repeat ((first | ((with_reducible show Plan ((_, true) :: _) _); refine plF ?_) | (refine plR (v := ?_) ?_ ?_; rotate_left; focus (intro W hSW; (try dsimp only at hSW); go_simp; all_goals (with_reducible rfl)))); try simp only [Act.put, List.setIfInBounds_toArray, List.set_cons_zero, List.set_cons_succ])
    refine plE ?_
    refine wpAnyH_ready (rs := [6]) (by kernel_rfl) (by simp) ?_
    refine AllReadyH.cons (o := ⟨_, _, _, _, _, _⟩) rfl (fun K hK => ?_) AllReadyH.nil
    go_simp
    go_at_call 27; refine (HN.out _).mono ?_; rintro r v2 ⟨rfl, hbn⟩
    have HB6 := Lib.hid ((HG.out).drew.below hbn)
    obtain ⟨dx6, fx6⟩ := HB6.out.x.facts
    clear hbn
    refine hK.out _ _ (HB6.out.c.cell 1) (fun hHeld => ?_)
    clear hK K
    try simp only [Act.put, List.setIfInBounds_toArray, List.set_cons_zero, List.set_cons_succ]
    refine plI [(7, false)] ?_
    repeat ((first | ((with_reducible show Plan ((_, true) :: _) _); refine plF ?_) | (refine plR (v := ?_) ?_ ?_; rotate_left; focus (intro W hSW; (try dsimp only at hSW); go_simp; all_goals (with_reducible rfl)))); try simp only [Act.put, List.setIfInBounds_toArray, List.set_cons_zero, List.set_cons_succ])
    refine plE ?_
    refine wpAnyH_ready (rs := [9]) (by kernel_rfl) (by simp) ?_
    refine AllReadyH.cons (o := ⟨_, _, _, _, _, _⟩) rfl (fun K hK => ?_) AllReadyH.nil
    go_simp
    have HB9 := Lib.hid (HB6.out.set 1 (.string name))
    refine hK.out _ _ (HB9.out.c.cell 1) (fun hHeld => ?_)
    clear hK K
    try simp only [Act.put]
    refine plI [(10, false)] ?_
    repeat ((first | ((with_reducible show Plan ((_, true) :: _) _); refine plF ?_) | (refine plR (v := ?_) ?_ ?_; rotate_left; focus (intro W hSW; (try dsimp only at hSW); go_simp; all_goals (with_reducible rfl)))); try simp only [Act.put, List.setIfInBounds_toArray, List.set_cons_zero, List.set_cons_succ])
    refine plE ?_
    refine wpAnyH_done (by kernel_rfl) ?_ _
    clear hHeld
    have HF := Lib.hid (show NoB w #[.int .i64 6, .string name, .string value, .int .i64 n, .int .i64 extra, .slice A len c] #[.int .i64 6, .string name, .string ⟨#[]⟩, .int .i64 n, .int .i64 0, .slice none 0 0] (v2.setCell ⟨w.heap.size + 1, 1, none⟩ (.string name)) from HB9.out)
    change Exit.then _ _ _ _ (v2.setCell ⟨w.heap.size + 1, 1, none⟩ (.string name))
    generalize (v2.setCell ⟨w.heap.size + 1, 1, none⟩ (.string name)) = V9 at *
    clear HB9 HB6 dx6 fx6
    obtain ⟨dc, fc⟩ := HF.out.c.facts
    obtain ⟨dx, fx⟩ := HF.out.x.facts
    go_wp2_with fail
    all_goals
      go_ret
      refine ⟨?_, HF.out.b⟩
      simp [*]
      try (rw [Bool.eq_iff_iff, beq_iff_eq, decide_eq_true_iff])
  | false =>
    rw [hb] at HC
    go_enter Tryz.func30, Tryz.ntmps30
    go_wp2_with fail
    refine wp_region_held_drew (S := fun W => W.cell? ⟨w.heap.size, 3, none⟩ = some (.int .i64 n)) (by kernel_rfl) ((H0.out).drew.c.cell 3) (fun hHeld => ?_)
    refine plI [(0, false), (1, false), (2, false), (3, false), (4, false), (6, false)] ?_
    repeat ((first | ((with_reducible show Plan ((_, true) :: _) _); refine plF ?_) | (refine plR (v := ?_) ?_ ?_; rotate_left; focus (intro W hSW; (try dsimp only at hSW); go_simp; all_goals (with_reducible rfl)))); try simp only [Act.put, List.setIfInBounds_toArray, List.set_cons_zero, List.set_cons_succ])
    refine plE ?_
    refine wpAnyH_ready (rs := [5]) (by kernel_rfl) (by simp) ?_
    refine AllReadyH.cons (o := ⟨_, _, _, _, _, _⟩) rfl (fun K hK => ?_) AllReadyH.nil
    go_simp
    go_at_call 57; refine (HC.out _).mono ?_; rintro r k2 ⟨rfl, hk2⟩
    have HK6 := Lib.hid (show NoB w #[.int .i64 6, .string name, .string value, .int .i64 n, .int .i64 extra, .slice A len c] #[.int .i64 6, .string ⟨#[]⟩, .string ⟨#[]⟩, .int .i64 0, .int .i64 0, .slice none 0 0] k2 by rw [hk2]; exact H0.out.drew)
    clear hk2
    obtain ⟨dk, fk⟩ := HK6.out.x.facts
    refine hK.out _ _ (HK6.out.c.cell 3) (fun hHeld => ?_)
    clear hK K
    try simp only [Act.put, List.setIfInBounds_toArray, List.set_cons_zero, List.set_cons_succ]
    refine wpAnyH_ready (rs := [7]) (by kernel_rfl) (by simp) ?_
    refine AllReadyH.cons (o := ⟨_, _, _, _, _, _⟩) rfl (fun K hK => ?_) AllReadyH.nil
    go_simp
    have HK9 := Lib.hid (HK6.out.set 3 (.int .i64 n))
    refine hK.out _ _ (HK9.out.c.cell 3) (fun hHeld => ?_)
    clear hK K
    try simp only [Act.put]
    refine plI [(8, false)] ?_
    repeat ((first | ((with_reducible show Plan ((_, true) :: _) _); refine plF ?_) | (refine plR (v := ?_) ?_ ?_; rotate_left; focus (intro W hSW; (try dsimp only at hSW); go_simp; all_goals (with_reducible rfl)))); try simp only [Act.put, List.setIfInBounds_toArray, List.set_cons_zero, List.set_cons_succ])
    refine plE ?_
    refine wpAnyH_done (by kernel_rfl) ?_ _
    clear hHeld
    have HG := Lib.hid (show NoB w #[.int .i64 6, .string name, .string value, .int .i64 n, .int .i64 extra, .slice A len c] #[.int .i64 6, .string ⟨#[]⟩, .string ⟨#[]⟩, .int .i64 n, .int .i64 0, .slice none 0 0] (k2.setCell ⟨w.heap.size + 1, 3, none⟩ (.int .i64 n)) from HK9.out)
    change Exit.inBlock _ _ _ _ (k2.setCell ⟨w.heap.size + 1, 3, none⟩ (.int .i64 n))
    generalize (k2.setCell ⟨w.heap.size + 1, 3, none⟩ (.int .i64 n)) = V8 at *
    clear HK9 HK6
    obtain ⟨dc0, fc0⟩ := HG.out.c.facts
    obtain ⟨dx0, fx0⟩ := HG.out.x.facts
    go_wp2_with fail
    refine wp_region_held_drew (S := fun W => W.cell? ⟨w.heap.size, 1, none⟩ = some (.string name)) (by kernel_rfl) ((HG.out).drew.c.cell 1) (fun hHeld => ?_)
    refine plI [(0, false), (1, false), (2, false), (3, false), (4, true), (5, true), (6, true), (7, false), (8, false)] ?_
    repeat ((first | ((with_reducible show Plan ((_, true) :: _) _); refine plF ?_) | (refine plR (v := ?_) ?_ ?_; rotate_left; focus (intro W hSW; (try dsimp only at hSW); go_simp; all_goals (with_reducible rfl)))); try simp only [Act.put, List.setIfInBounds_toArray, List.set_cons_zero, List.set_cons_succ])
    refine plE ?_
    refine wpAnyH_ready (rs := [9]) (by kernel_rfl) (by simp) ?_
    refine AllReadyH.cons (o := ⟨_, _, _, _, _, _⟩) rfl (fun K hK => ?_) AllReadyH.nil
    go_simp
    have HB9 := Lib.hid (((HG.out).set 1 (.string name)).drew)
    refine hK.out _ _ (HB9.out.c.cell 1) (fun hHeld => ?_)
    clear hK K
    try simp only [Act.put]
    refine plI [(10, false)] ?_
    repeat ((first | ((with_reducible show Plan ((_, true) :: _) _); refine plF ?_) | (refine plR (v := ?_) ?_ ?_; rotate_left; focus (intro W hSW; (try dsimp only at hSW); go_simp; all_goals (with_reducible rfl)))); try simp only [Act.put, List.setIfInBounds_toArray, List.set_cons_zero, List.set_cons_succ])
    refine plE ?_
    refine wpAnyH_done (by kernel_rfl) ?_ _
    clear hHeld
    have HF := Lib.hid (show NoB w #[.int .i64 6, .string name, .string value, .int .i64 n, .int .i64 extra, .slice A len c] #[.int .i64 6, .string name, .string ⟨#[]⟩, .int .i64 n, .int .i64 0, .slice none 0 0] (V8.setCell ⟨w.heap.size + 1, 1, none⟩ (.string name)).drew from HB9.out)
    change Exit.then _ _ _ _ (V8.setCell ⟨w.heap.size + 1, 1, none⟩ (.string name)).drew
    generalize (V8.setCell ⟨w.heap.size + 1, 1, none⟩ (.string name)).drew = V9 at *
    clear HB9
    obtain ⟨dc, fc⟩ := HF.out.c.facts
    obtain ⟨dx, fx⟩ := HF.out.x.facts
    go_wp2_with fail
    all_goals
      go_ret
      refine ⟨?_, HF.out.b⟩
      simp [*]
      try (rw [Bool.eq_iff_iff, beq_iff_eq, decide_eq_true_iff])
set_option maxRecDepth 100000 in
set_option maxHeartbeats 8000000 in
theorem node_12 (name value : ByteArray) (n extra : Int) (A : Option Addr) (len c : Nat) (w : World) (_hlen : len ≤ 1000000) (hnm : name.size ≤ maxLen) (_hvl : value.size ≤ maxLen) :
    Calls Tryz.prog 30 #[.agg #[.int .i64 12, .string name, .string value, .int .i64 n, .int .i64 extra, .slice A len c]] w fun r w' => r = .returned (.bool (decide (NodeOk 12 name value n extra len))) ∧ Below w.heap.size w w' := by
  have hE : decide (NodeOk 12 name value n extra len) = (numN 1 n && (nameB name && (decide (len = 0) && (decide (value.toList = []) && decide (0 = extra))))) := by
    rw [size0, Bool.eq_iff_iff]
    simp [NodeOk, numN]
    constructor
    · rintro ⟨h1, h2, h3, h4, h5⟩; exact ⟨by omega, h2, h1, h3, by omega⟩
    · rintro ⟨h1, h2, h3, h4, h5⟩; exact ⟨h3, h2, h4, by omega, by omega⟩
  rw [hE]
  clear hE
  have H0 := Lib.hid (NoB.start w #[.int .i64 12, .string name, .string value, .int .i64 n, .int .i64 extra, .slice A len c] #[.int .i64 12, .string ⟨#[]⟩, .string ⟨#[]⟩, .int .i64 0, .int .i64 0, .slice none 0 0])
  have hmx : Tryz.prog.follows .mixedOrders = true := by kernel_rfl
  have HN := Lib.hid (fun W => name_any name W hnm)
  generalize nameB name = nb at *
  have HC := Lib.hid (fun W => nod1_any 1 n W)
  cases hb : numN 1 n with
  | true =>
    rw [hb] at HC
    go_enter Tryz.func30, Tryz.ntmps30
    go_wp2_with fail
    refine wp_region_held_drew (S := fun W => W.cell? ⟨w.heap.size, 3, none⟩ = some (.int .i64 n)) (by kernel_rfl) ((H0.out).drew.c.cell 3) (fun hHeld => ?_)
    refine plI [(0, false), (1, false), (2, false), (3, false), (4, false), (6, false)] ?_
    repeat ((first | ((with_reducible show Plan ((_, true) :: _) _); refine plF ?_) | (refine plR (v := ?_) ?_ ?_; rotate_left; focus (intro W hSW; (try dsimp only at hSW); go_simp; all_goals (with_reducible rfl)))); try simp only [Act.put, List.setIfInBounds_toArray, List.set_cons_zero, List.set_cons_succ])
    refine plE ?_
    refine wpAnyH_ready (rs := [5]) (by kernel_rfl) (by simp) ?_
    refine AllReadyH.cons (o := ⟨_, _, _, _, _, _⟩) rfl (fun K hK => ?_) AllReadyH.nil
    go_simp
    go_at_call 57; refine (HC.out _).mono ?_; rintro r k2 ⟨rfl, hk2⟩
    have HK6 := Lib.hid (show NoB w #[.int .i64 12, .string name, .string value, .int .i64 n, .int .i64 extra, .slice A len c] #[.int .i64 12, .string ⟨#[]⟩, .string ⟨#[]⟩, .int .i64 0, .int .i64 0, .slice none 0 0] k2 by rw [hk2]; exact H0.out.drew)
    clear hk2
    obtain ⟨dk, fk⟩ := HK6.out.x.facts
    refine hK.out _ _ (HK6.out.c.cell 3) (fun hHeld => ?_)
    clear hK K
    try simp only [Act.put, List.setIfInBounds_toArray, List.set_cons_zero, List.set_cons_succ]
    refine wpAnyH_ready (rs := [7]) (by kernel_rfl) (by simp) ?_
    refine AllReadyH.cons (o := ⟨_, _, _, _, _, _⟩) rfl (fun K hK => ?_) AllReadyH.nil
    go_simp
    have HK9 := Lib.hid (HK6.out.set 3 (.int .i64 n))
    refine hK.out _ _ (HK9.out.c.cell 3) (fun hHeld => ?_)
    clear hK K
    try simp only [Act.put]
    refine plI [(8, false)] ?_
    repeat ((first | ((with_reducible show Plan ((_, true) :: _) _); refine plF ?_) | (refine plR (v := ?_) ?_ ?_; rotate_left; focus (intro W hSW; (try dsimp only at hSW); go_simp; all_goals (with_reducible rfl)))); try simp only [Act.put, List.setIfInBounds_toArray, List.set_cons_zero, List.set_cons_succ])
    refine plE ?_
    refine wpAnyH_done (by kernel_rfl) ?_ _
    clear hHeld
    have HG := Lib.hid (show NoB w #[.int .i64 12, .string name, .string value, .int .i64 n, .int .i64 extra, .slice A len c] #[.int .i64 12, .string ⟨#[]⟩, .string ⟨#[]⟩, .int .i64 n, .int .i64 0, .slice none 0 0] (k2.setCell ⟨w.heap.size + 1, 3, none⟩ (.int .i64 n)) from HK9.out)
    change Exit.inBlock _ _ _ _ (k2.setCell ⟨w.heap.size + 1, 3, none⟩ (.int .i64 n))
    generalize (k2.setCell ⟨w.heap.size + 1, 3, none⟩ (.int .i64 n)) = V8 at *
    clear HK9 HK6
    obtain ⟨dc0, fc0⟩ := HG.out.c.facts
    obtain ⟨dx0, fx0⟩ := HG.out.x.facts
    go_wp2_with fail
    refine wp_region_held_drew (S := fun W => W.cell? ⟨w.heap.size, 1, none⟩ = some (.string name)) (by kernel_rfl) ((HG.out).drew.c.cell 1) (fun hHeld => ?_)
    refine plI [(0, false), (1, false), (2, false), (3, false), (4, false), (5, false), (8, false)] ?_
    repeat ((first | ((with_reducible show Plan ((_, true) :: _) _); refine plF ?_) | (refine plR (v := ?_) ?_ ?_; rotate_left; focus (intro W hSW; (try dsimp only at hSW); go_simp; all_goals (with_reducible rfl)))); try simp only [Act.put, List.setIfInBounds_toArray, List.set_cons_zero, List.set_cons_succ])
    refine plE ?_
    refine wpAnyH_ready (rs := [6]) (by kernel_rfl) (by simp) ?_
    refine AllReadyH.cons (o := ⟨_, _, _, _, _, _⟩) rfl (fun K hK => ?_) AllReadyH.nil
    go_simp
    go_at_call 27; refine (HN.out _).mono ?_; rintro r v2 ⟨rfl, hbn⟩
    have HB6 := Lib.hid ((HG.out).drew.below hbn)
    obtain ⟨dx6, fx6⟩ := HB6.out.x.facts
    clear hbn
    refine hK.out _ _ (HB6.out.c.cell 1) (fun hHeld => ?_)
    clear hK K
    try simp only [Act.put, List.setIfInBounds_toArray, List.set_cons_zero, List.set_cons_succ]
    refine plI [(7, false)] ?_
    repeat ((first | ((with_reducible show Plan ((_, true) :: _) _); refine plF ?_) | (refine plR (v := ?_) ?_ ?_; rotate_left; focus (intro W hSW; (try dsimp only at hSW); go_simp; all_goals (with_reducible rfl)))); try simp only [Act.put, List.setIfInBounds_toArray, List.set_cons_zero, List.set_cons_succ])
    refine plE ?_
    refine wpAnyH_ready (rs := [9]) (by kernel_rfl) (by simp) ?_
    refine AllReadyH.cons (o := ⟨_, _, _, _, _, _⟩) rfl (fun K hK => ?_) AllReadyH.nil
    go_simp
    have HB9 := Lib.hid (HB6.out.set 1 (.string name))
    refine hK.out _ _ (HB9.out.c.cell 1) (fun hHeld => ?_)
    clear hK K
    try simp only [Act.put]
    refine plI [(10, false)] ?_
    repeat ((first | ((with_reducible show Plan ((_, true) :: _) _); refine plF ?_) | (refine plR (v := ?_) ?_ ?_; rotate_left; focus (intro W hSW; (try dsimp only at hSW); go_simp; all_goals (with_reducible rfl)))); try simp only [Act.put, List.setIfInBounds_toArray, List.set_cons_zero, List.set_cons_succ])
    refine plE ?_
    refine wpAnyH_done (by kernel_rfl) ?_ _
    clear hHeld
    have HF := Lib.hid (show NoB w #[.int .i64 12, .string name, .string value, .int .i64 n, .int .i64 extra, .slice A len c] #[.int .i64 12, .string name, .string ⟨#[]⟩, .int .i64 n, .int .i64 0, .slice none 0 0] (v2.setCell ⟨w.heap.size + 1, 1, none⟩ (.string name)) from HB9.out)
    change Exit.then _ _ _ _ (v2.setCell ⟨w.heap.size + 1, 1, none⟩ (.string name))
    generalize (v2.setCell ⟨w.heap.size + 1, 1, none⟩ (.string name)) = V9 at *
    clear HB9 HB6 dx6 fx6
    obtain ⟨dc, fc⟩ := HF.out.c.facts
    obtain ⟨dx, fx⟩ := HF.out.x.facts
    go_wp2_with fail
    all_goals
      go_ret
      refine ⟨?_, HF.out.b⟩
      simp [*]
      try (rw [Bool.eq_iff_iff, beq_iff_eq, decide_eq_true_iff])
  | false =>
    rw [hb] at HC
    go_enter Tryz.func30, Tryz.ntmps30
    go_wp2_with fail
    refine wp_region_held_drew (S := fun W => W.cell? ⟨w.heap.size, 3, none⟩ = some (.int .i64 n)) (by kernel_rfl) ((H0.out).drew.c.cell 3) (fun hHeld => ?_)
    refine plI [(0, false), (1, false), (2, false), (3, false), (4, false), (6, false)] ?_
    repeat ((first | ((with_reducible show Plan ((_, true) :: _) _); refine plF ?_) | (refine plR (v := ?_) ?_ ?_; rotate_left; focus (intro W hSW; (try dsimp only at hSW); go_simp; all_goals (with_reducible rfl)))); try simp only [Act.put, List.setIfInBounds_toArray, List.set_cons_zero, List.set_cons_succ])
    refine plE ?_
    refine wpAnyH_ready (rs := [5]) (by kernel_rfl) (by simp) ?_
    refine AllReadyH.cons (o := ⟨_, _, _, _, _, _⟩) rfl (fun K hK => ?_) AllReadyH.nil
    go_simp
    go_at_call 57; refine (HC.out _).mono ?_; rintro r k2 ⟨rfl, hk2⟩
    have HK6 := Lib.hid (show NoB w #[.int .i64 12, .string name, .string value, .int .i64 n, .int .i64 extra, .slice A len c] #[.int .i64 12, .string ⟨#[]⟩, .string ⟨#[]⟩, .int .i64 0, .int .i64 0, .slice none 0 0] k2 by rw [hk2]; exact H0.out.drew)
    clear hk2
    obtain ⟨dk, fk⟩ := HK6.out.x.facts
    refine hK.out _ _ (HK6.out.c.cell 3) (fun hHeld => ?_)
    clear hK K
    try simp only [Act.put, List.setIfInBounds_toArray, List.set_cons_zero, List.set_cons_succ]
    refine wpAnyH_ready (rs := [7]) (by kernel_rfl) (by simp) ?_
    refine AllReadyH.cons (o := ⟨_, _, _, _, _, _⟩) rfl (fun K hK => ?_) AllReadyH.nil
    go_simp
    have HK9 := Lib.hid (HK6.out.set 3 (.int .i64 n))
    refine hK.out _ _ (HK9.out.c.cell 3) (fun hHeld => ?_)
    clear hK K
    try simp only [Act.put]
    refine plI [(8, false)] ?_
    repeat ((first | ((with_reducible show Plan ((_, true) :: _) _); refine plF ?_) | (refine plR (v := ?_) ?_ ?_; rotate_left; focus (intro W hSW; (try dsimp only at hSW); go_simp; all_goals (with_reducible rfl)))); try simp only [Act.put, List.setIfInBounds_toArray, List.set_cons_zero, List.set_cons_succ])
    refine plE ?_
    refine wpAnyH_done (by kernel_rfl) ?_ _
    clear hHeld
    have HG := Lib.hid (show NoB w #[.int .i64 12, .string name, .string value, .int .i64 n, .int .i64 extra, .slice A len c] #[.int .i64 12, .string ⟨#[]⟩, .string ⟨#[]⟩, .int .i64 n, .int .i64 0, .slice none 0 0] (k2.setCell ⟨w.heap.size + 1, 3, none⟩ (.int .i64 n)) from HK9.out)
    change Exit.inBlock _ _ _ _ (k2.setCell ⟨w.heap.size + 1, 3, none⟩ (.int .i64 n))
    generalize (k2.setCell ⟨w.heap.size + 1, 3, none⟩ (.int .i64 n)) = V8 at *
    clear HK9 HK6
    obtain ⟨dc0, fc0⟩ := HG.out.c.facts
    obtain ⟨dx0, fx0⟩ := HG.out.x.facts
    go_wp2_with fail
    refine wp_region_held_drew (S := fun W => W.cell? ⟨w.heap.size, 1, none⟩ = some (.string name)) (by kernel_rfl) ((HG.out).drew.c.cell 1) (fun hHeld => ?_)
    refine plI [(0, false), (1, false), (2, false), (3, false), (4, true), (5, true), (6, true), (7, false), (8, false)] ?_
    repeat ((first | ((with_reducible show Plan ((_, true) :: _) _); refine plF ?_) | (refine plR (v := ?_) ?_ ?_; rotate_left; focus (intro W hSW; (try dsimp only at hSW); go_simp; all_goals (with_reducible rfl)))); try simp only [Act.put, List.setIfInBounds_toArray, List.set_cons_zero, List.set_cons_succ])
    refine plE ?_
    refine wpAnyH_ready (rs := [9]) (by kernel_rfl) (by simp) ?_
    refine AllReadyH.cons (o := ⟨_, _, _, _, _, _⟩) rfl (fun K hK => ?_) AllReadyH.nil
    go_simp
    have HB9 := Lib.hid (((HG.out).set 1 (.string name)).drew)
    refine hK.out _ _ (HB9.out.c.cell 1) (fun hHeld => ?_)
    clear hK K
    try simp only [Act.put]
    refine plI [(10, false)] ?_
    repeat ((first | ((with_reducible show Plan ((_, true) :: _) _); refine plF ?_) | (refine plR (v := ?_) ?_ ?_; rotate_left; focus (intro W hSW; (try dsimp only at hSW); go_simp; all_goals (with_reducible rfl)))); try simp only [Act.put, List.setIfInBounds_toArray, List.set_cons_zero, List.set_cons_succ])
    refine plE ?_
    refine wpAnyH_done (by kernel_rfl) ?_ _
    clear hHeld
    have HF := Lib.hid (show NoB w #[.int .i64 12, .string name, .string value, .int .i64 n, .int .i64 extra, .slice A len c] #[.int .i64 12, .string name, .string ⟨#[]⟩, .int .i64 n, .int .i64 0, .slice none 0 0] (V8.setCell ⟨w.heap.size + 1, 1, none⟩ (.string name)).drew from HB9.out)
    change Exit.then _ _ _ _ (V8.setCell ⟨w.heap.size + 1, 1, none⟩ (.string name)).drew
    generalize (V8.setCell ⟨w.heap.size + 1, 1, none⟩ (.string name)).drew = V9 at *
    clear HB9
    obtain ⟨dc, fc⟩ := HF.out.c.facts
    obtain ⟨dx, fx⟩ := HF.out.x.facts
    go_wp2_with fail
    all_goals
      go_ret
      refine ⟨?_, HF.out.b⟩
      simp [*]
      try (rw [Bool.eq_iff_iff, beq_iff_eq, decide_eq_true_iff])
set_option maxRecDepth 100000 in
set_option maxHeartbeats 8000000 in
theorem node_9 (name value : ByteArray) (n extra : Int) (A : Option Addr) (len c : Nat) (w : World) (_hlen : len ≤ 1000000) (hnm : name.size ≤ maxLen) (_hvl : value.size ≤ maxLen) :
    Calls Tryz.prog 30 #[.agg #[.int .i64 9, .string name, .string value, .int .i64 n, .int .i64 extra, .slice A len c]] w fun r w' => r = .returned (.bool (decide (NodeOk 9 name value n extra len))) ∧ Below w.heap.size w w' := by
  have hE : decide (NodeOk 9 name value n extra len) = (nameB value && (nameB name && (decide (len = 0) && (decide (0 = n) && decide (0 = extra))))) := by
    rw [Bool.eq_iff_iff]
    simp [NodeOk]
    constructor
    · rintro ⟨h1, h2, h3, h4, h5⟩; exact ⟨h3, h2, h1, by omega, by omega⟩
    · rintro ⟨h1, h2, h3, h4, h5⟩; exact ⟨h3, h2, h1, by omega, by omega⟩
  rw [hE]
  clear hE
  have H0 := Lib.hid (NoB.start w #[.int .i64 9, .string name, .string value, .int .i64 n, .int .i64 extra, .slice A len c] #[.int .i64 9, .string ⟨#[]⟩, .string ⟨#[]⟩, .int .i64 0, .int .i64 0, .slice none 0 0])
  have hmx : Tryz.prog.follows .mixedOrders = true := by kernel_rfl
  have HN := Lib.hid (fun W => name_any name W hnm)
  generalize nameB name = nb at *
  have HC := Lib.hid (fun W => name_any value W _hvl)
  cases hb : nameB value with
  | true =>
    rw [hb] at HC
    go_enter Tryz.func30, Tryz.ntmps30
    go_wp2_with fail
    refine wp_region_held_drew (S := fun W => W.cell? ⟨w.heap.size, 2, none⟩ = some (.string value)) (by kernel_rfl) ((H0.out).drew.c.cell 2) (fun hHeld => ?_)
    refine plI [(0, false), (1, false), (2, false), (3, false), (5, false)] ?_
    repeat ((first | ((with_reducible show Plan ((_, true) :: _) _); refine plF ?_) | (refine plR (v := ?_) ?_ ?_; rotate_left; focus (intro W hSW; (try dsimp only at hSW); go_simp; all_goals (with_reducible rfl)))); try simp only [Act.put, List.setIfInBounds_toArray, List.set_cons_zero, List.set_cons_succ])
    refine plE ?_
    refine wpAnyH_ready (rs := [4]) (by kernel_rfl) (by simp) ?_
    refine AllReadyH.cons (o := ⟨_, _, _, _, _, _⟩) rfl (fun K hK => ?_) AllReadyH.nil
    go_simp
    go_at_call 27; refine (HC.out _).mono ?_; rintro r k2 ⟨rfl, hk2⟩
    have HK6 := Lib.hid (H0.out.drew.below hk2)
    clear hk2
    obtain ⟨dk, fk⟩ := HK6.out.x.facts
    refine hK.out _ _ (HK6.out.c.cell 2) (fun hHeld => ?_)
    clear hK K
    try simp only [Act.put, List.setIfInBounds_toArray, List.set_cons_zero, List.set_cons_succ]
    refine wpAnyH_ready (rs := [6]) (by kernel_rfl) (by simp) ?_
    refine AllReadyH.cons (o := ⟨_, _, _, _, _, _⟩) rfl (fun K hK => ?_) AllReadyH.nil
    go_simp
    have HK9 := Lib.hid (HK6.out.set 2 (.string value))
    refine hK.out _ _ (HK9.out.c.cell 2) (fun hHeld => ?_)
    clear hK K
    try simp only [Act.put]
    refine plI [(7, false)] ?_
    repeat ((first | ((with_reducible show Plan ((_, true) :: _) _); refine plF ?_) | (refine plR (v := ?_) ?_ ?_; rotate_left; focus (intro W hSW; (try dsimp only at hSW); go_simp; all_goals (with_reducible rfl)))); try simp only [Act.put, List.setIfInBounds_toArray, List.set_cons_zero, List.set_cons_succ])
    refine plE ?_
    refine wpAnyH_done (by kernel_rfl) ?_ _
    clear hHeld
    have HG := Lib.hid (show NoB w #[.int .i64 9, .string name, .string value, .int .i64 n, .int .i64 extra, .slice A len c] #[.int .i64 9, .string ⟨#[]⟩, .string value, .int .i64 0, .int .i64 0, .slice none 0 0] (k2.setCell ⟨w.heap.size + 1, 2, none⟩ (.string value)) from HK9.out)
    change Exit.inBlock _ _ _ _ (k2.setCell ⟨w.heap.size + 1, 2, none⟩ (.string value))
    generalize (k2.setCell ⟨w.heap.size + 1, 2, none⟩ (.string value)) = V8 at *
    clear HK9 HK6
    obtain ⟨dc0, fc0⟩ := HG.out.c.facts
    obtain ⟨dx0, fx0⟩ := HG.out.x.facts
    go_wp2_with fail
    refine wp_region_held_drew (S := fun W => W.cell? ⟨w.heap.size, 1, none⟩ = some (.string name)) (by kernel_rfl) ((HG.out).drew.c.cell 1) (fun hHeld => ?_)
    refine plI [(0, false), (1, false), (2, false), (3, false), (4, false), (5, false), (8, false)] ?_
    repeat ((first | ((with_reducible show Plan ((_, true) :: _) _); refine plF ?_) | (refine plR (v := ?_) ?_ ?_; rotate_left; focus (intro W hSW; (try dsimp only at hSW); go_simp; all_goals (with_reducible rfl)))); try simp only [Act.put, List.setIfInBounds_toArray, List.set_cons_zero, List.set_cons_succ])
    refine plE ?_
    refine wpAnyH_ready (rs := [6]) (by kernel_rfl) (by simp) ?_
    refine AllReadyH.cons (o := ⟨_, _, _, _, _, _⟩) rfl (fun K hK => ?_) AllReadyH.nil
    go_simp
    go_at_call 27; refine (HN.out _).mono ?_; rintro r v2 ⟨rfl, hbn⟩
    have HB6 := Lib.hid ((HG.out).drew.below hbn)
    obtain ⟨dx6, fx6⟩ := HB6.out.x.facts
    clear hbn
    refine hK.out _ _ (HB6.out.c.cell 1) (fun hHeld => ?_)
    clear hK K
    try simp only [Act.put, List.setIfInBounds_toArray, List.set_cons_zero, List.set_cons_succ]
    refine plI [(7, false)] ?_
    repeat ((first | ((with_reducible show Plan ((_, true) :: _) _); refine plF ?_) | (refine plR (v := ?_) ?_ ?_; rotate_left; focus (intro W hSW; (try dsimp only at hSW); go_simp; all_goals (with_reducible rfl)))); try simp only [Act.put, List.setIfInBounds_toArray, List.set_cons_zero, List.set_cons_succ])
    refine plE ?_
    refine wpAnyH_ready (rs := [9]) (by kernel_rfl) (by simp) ?_
    refine AllReadyH.cons (o := ⟨_, _, _, _, _, _⟩) rfl (fun K hK => ?_) AllReadyH.nil
    go_simp
    have HB9 := Lib.hid (HB6.out.set 1 (.string name))
    refine hK.out _ _ (HB9.out.c.cell 1) (fun hHeld => ?_)
    clear hK K
    try simp only [Act.put]
    refine plI [(10, false)] ?_
    repeat ((first | ((with_reducible show Plan ((_, true) :: _) _); refine plF ?_) | (refine plR (v := ?_) ?_ ?_; rotate_left; focus (intro W hSW; (try dsimp only at hSW); go_simp; all_goals (with_reducible rfl)))); try simp only [Act.put, List.setIfInBounds_toArray, List.set_cons_zero, List.set_cons_succ])
    refine plE ?_
    refine wpAnyH_done (by kernel_rfl) ?_ _
    clear hHeld
    have HF := Lib.hid (show NoB w #[.int .i64 9, .string name, .string value, .int .i64 n, .int .i64 extra, .slice A len c] #[.int .i64 9, .string name, .string value, .int .i64 0, .int .i64 0, .slice none 0 0] (v2.setCell ⟨w.heap.size + 1, 1, none⟩ (.string name)) from HB9.out)
    change Exit.then _ _ _ _ (v2.setCell ⟨w.heap.size + 1, 1, none⟩ (.string name))
    generalize (v2.setCell ⟨w.heap.size + 1, 1, none⟩ (.string name)) = V9 at *
    clear HB9 HB6 dx6 fx6
    obtain ⟨dc, fc⟩ := HF.out.c.facts
    obtain ⟨dx, fx⟩ := HF.out.x.facts
    go_wp2_with fail
    all_goals
      go_ret
      refine ⟨?_, HF.out.b⟩
      simp [*]
      try (rw [Bool.eq_iff_iff, beq_iff_eq, decide_eq_true_iff])
  | false =>
    rw [hb] at HC
    go_enter Tryz.func30, Tryz.ntmps30
    go_wp2_with fail
    refine wp_region_held_drew (S := fun W => W.cell? ⟨w.heap.size, 2, none⟩ = some (.string value)) (by kernel_rfl) ((H0.out).drew.c.cell 2) (fun hHeld => ?_)
    refine plI [(0, false), (1, false), (2, false), (3, false), (5, false)] ?_
    repeat ((first | ((with_reducible show Plan ((_, true) :: _) _); refine plF ?_) | (refine plR (v := ?_) ?_ ?_; rotate_left; focus (intro W hSW; (try dsimp only at hSW); go_simp; all_goals (with_reducible rfl)))); try simp only [Act.put, List.setIfInBounds_toArray, List.set_cons_zero, List.set_cons_succ])
    refine plE ?_
    refine wpAnyH_ready (rs := [4]) (by kernel_rfl) (by simp) ?_
    refine AllReadyH.cons (o := ⟨_, _, _, _, _, _⟩) rfl (fun K hK => ?_) AllReadyH.nil
    go_simp
    go_at_call 27; refine (HC.out _).mono ?_; rintro r k2 ⟨rfl, hk2⟩
    have HK6 := Lib.hid (H0.out.drew.below hk2)
    clear hk2
    obtain ⟨dk, fk⟩ := HK6.out.x.facts
    refine hK.out _ _ (HK6.out.c.cell 2) (fun hHeld => ?_)
    clear hK K
    try simp only [Act.put, List.setIfInBounds_toArray, List.set_cons_zero, List.set_cons_succ]
    refine wpAnyH_ready (rs := [6]) (by kernel_rfl) (by simp) ?_
    refine AllReadyH.cons (o := ⟨_, _, _, _, _, _⟩) rfl (fun K hK => ?_) AllReadyH.nil
    go_simp
    have HK9 := Lib.hid (HK6.out.set 2 (.string value))
    refine hK.out _ _ (HK9.out.c.cell 2) (fun hHeld => ?_)
    clear hK K
    try simp only [Act.put]
    refine plI [(7, false)] ?_
    repeat ((first | ((with_reducible show Plan ((_, true) :: _) _); refine plF ?_) | (refine plR (v := ?_) ?_ ?_; rotate_left; focus (intro W hSW; (try dsimp only at hSW); go_simp; all_goals (with_reducible rfl)))); try simp only [Act.put, List.setIfInBounds_toArray, List.set_cons_zero, List.set_cons_succ])
    refine plE ?_
    refine wpAnyH_done (by kernel_rfl) ?_ _
    clear hHeld
    have HG := Lib.hid (show NoB w #[.int .i64 9, .string name, .string value, .int .i64 n, .int .i64 extra, .slice A len c] #[.int .i64 9, .string ⟨#[]⟩, .string value, .int .i64 0, .int .i64 0, .slice none 0 0] (k2.setCell ⟨w.heap.size + 1, 2, none⟩ (.string value)) from HK9.out)
    change Exit.inBlock _ _ _ _ (k2.setCell ⟨w.heap.size + 1, 2, none⟩ (.string value))
    generalize (k2.setCell ⟨w.heap.size + 1, 2, none⟩ (.string value)) = V8 at *
    clear HK9 HK6
    obtain ⟨dc0, fc0⟩ := HG.out.c.facts
    obtain ⟨dx0, fx0⟩ := HG.out.x.facts
    go_wp2_with fail
    refine wp_region_held_drew (S := fun W => W.cell? ⟨w.heap.size, 1, none⟩ = some (.string name)) (by kernel_rfl) ((HG.out).drew.c.cell 1) (fun hHeld => ?_)
    refine plI [(0, false), (1, false), (2, false), (3, false), (4, true), (5, true), (6, true), (7, false), (8, false)] ?_
    repeat ((first | ((with_reducible show Plan ((_, true) :: _) _); refine plF ?_) | (refine plR (v := ?_) ?_ ?_; rotate_left; focus (intro W hSW; (try dsimp only at hSW); go_simp; all_goals (with_reducible rfl)))); try simp only [Act.put, List.setIfInBounds_toArray, List.set_cons_zero, List.set_cons_succ])
    refine plE ?_
    refine wpAnyH_ready (rs := [9]) (by kernel_rfl) (by simp) ?_
    refine AllReadyH.cons (o := ⟨_, _, _, _, _, _⟩) rfl (fun K hK => ?_) AllReadyH.nil
    go_simp
    have HB9 := Lib.hid (((HG.out).set 1 (.string name)).drew)
    refine hK.out _ _ (HB9.out.c.cell 1) (fun hHeld => ?_)
    clear hK K
    try simp only [Act.put]
    refine plI [(10, false)] ?_
    repeat ((first | ((with_reducible show Plan ((_, true) :: _) _); refine plF ?_) | (refine plR (v := ?_) ?_ ?_; rotate_left; focus (intro W hSW; (try dsimp only at hSW); go_simp; all_goals (with_reducible rfl)))); try simp only [Act.put, List.setIfInBounds_toArray, List.set_cons_zero, List.set_cons_succ])
    refine plE ?_
    refine wpAnyH_done (by kernel_rfl) ?_ _
    clear hHeld
    have HF := Lib.hid (show NoB w #[.int .i64 9, .string name, .string value, .int .i64 n, .int .i64 extra, .slice A len c] #[.int .i64 9, .string name, .string value, .int .i64 0, .int .i64 0, .slice none 0 0] (V8.setCell ⟨w.heap.size + 1, 1, none⟩ (.string name)).drew from HB9.out)
    change Exit.then _ _ _ _ (V8.setCell ⟨w.heap.size + 1, 1, none⟩ (.string name)).drew
    generalize (V8.setCell ⟨w.heap.size + 1, 1, none⟩ (.string name)).drew = V9 at *
    clear HB9
    obtain ⟨dc, fc⟩ := HF.out.c.facts
    obtain ⟨dx, fx⟩ := HF.out.x.facts
    go_wp2_with fail
    all_goals
      go_ret
      refine ⟨?_, HF.out.b⟩
      simp [*]
      try (rw [Bool.eq_iff_iff, beq_iff_eq, decide_eq_true_iff])
end Go.Proofs.YtcpakaiblelmlaaGreatDoor
