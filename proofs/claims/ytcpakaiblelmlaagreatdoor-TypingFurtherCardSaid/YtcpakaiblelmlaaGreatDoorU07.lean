/- rule.node: whether a node is valid. Condition: the kids' slice has a length. rule.node, named nodes. Condition: the strings lie in memory, the kids' slice has a length. -/
import Derived.Test.YtcpakaiblelmlaaGreatDoorU01
import Derived.Test.YtcpakaiblelmlaaGreatDoorU02
namespace Go.Proofs.YtcpakaiblelmlaaGreatDoor
open Go Go.RowKit
theorem size0 (s : ByteArray) : decide (s.toList = []) = decide (s.size = 0) := by
  have h := isEmpty_size s
  rw [← h, Bool.eq_iff_iff, decide_eq_true_iff, List.isEmpty_iff]
set_option maxRecDepth 100000 in
set_option maxHeartbeats 8000000 in
theorem node_1 (name value : ByteArray) (n extra : Int) (A : Option Addr) (len c : Nat) (w : World) (_hlen : len ≤ 1000000) :
    Calls Tryz.prog 30 #[.agg #[.int .i64 1, .string name, .string value, .int .i64 n, .int .i64 extra, .slice A len c]] w fun r w' => r = .returned (.bool (decide (NodeOk 1 name value n extra len))) ∧ Below w.heap.size w w' := by
  have hE : decide (NodeOk 1 name value n extra len) = (decide (len = 0) && (decide (name.toList = []) && (decide (value.toList = []) && (decide (0 = n) && decide (0 = extra))))) := by
    rw [size0, size0, Bool.eq_iff_iff]
    simp [NodeOk]
    omega
  rw [hE]
  clear hE
  go_enter Tryz.func30, Tryz.ntmps30
  go_wp2_with fail
  all_goals
    go_ret
    refine ⟨?_, ((Below.refl _ _).alloc (Nat.le_refl _) _).alloc (by simp) _⟩
    simp [*]
    try (rw [Bool.eq_iff_iff, beq_iff_eq, decide_eq_true_iff])
end Go.Proofs.YtcpakaiblelmlaaGreatDoor
namespace Go.Proofs.YtcpakaiblelmlaaGreatDoor
open Go Go.RowKit
/-- The two boxes of node: the node's, and what it would be. -/
structure NoB (w : World) (c x : Array Value) (W : World) : Prop where
  c : Has W w.heap.size 27 c
  x : Has W (w.heap.size + 1) 27 x
  b : Below w.heap.size w W
theorem NoB.start (w : World) (c x : Array Value) : NoB w c x ((w.alloc (.cells c 27)).alloc (.cells x 27)) := by
  have z1 : (w.alloc (.cells c 27)).heap.size = w.heap.size + 1 := World.size_alloc _ _
  refine ⟨(Has.new _ _ _).alloc _, ?_, ((Below.refl _ _).alloc (Nat.le_refl _) _).alloc (by omega) _⟩
  rw [← z1]; exact Has.new _ _ _
theorem NoB.below {w W W' : World} {c x : Array Value} (h : NoB w c x W) (hb : Below W.heap.size W W') : NoB w c x W' := ⟨h.c.below hb h.c.lt, h.x.below hb h.x.lt, h.b.trans (hb.mono h.b.size)⟩
theorem NoB.drew {w W : World} {c x : Array Value} (h : NoB w c x W) : NoB w c x W.drew := ⟨h.c, h.x, h.b.drew⟩
theorem NoB.set {w W : World} {c x : Array Value} (h : NoB w c x W) (i : Nat) (v : Value) : NoB w c (x.setIfInBounds i v) (W.setCell ⟨w.heap.size + 1, i, none⟩ v) :=
  ⟨h.c.far _ (by show w.heap.size ≠ w.heap.size + 1; omega) _, h.x.put i v, h.b.setCell (p := ⟨w.heap.size + 1, i, none⟩) (Nat.le_succ _) _⟩
set_option maxRecDepth 100000 in
set_option maxHeartbeats 8000000 in
theorem node_8 (name value : ByteArray) (n extra : Int) (A : Option Addr) (len c : Nat) (w : World) (_hlen : len ≤ 1000000) (hnm : name.size ≤ maxLen) (_hvl : value.size ≤ maxLen) :
    Calls Tryz.prog 30 #[.agg #[.int .i64 8, .string name, .string value, .int .i64 n, .int .i64 extra, .slice A len c]] w fun r w' => r = .returned (.bool (decide (NodeOk 8 name value n extra len))) ∧ Below w.heap.size w w' := by
  have hE : decide (NodeOk 8 name value n extra len) = (nameB name && (decide (len = 0) && (decide (value.toList = []) && (decide (0 = n) && decide (0 = extra))))) := by
    rw [size0, Bool.eq_iff_iff]
    simp [NodeOk]
    constructor
    · rintro ⟨h1, h2, h3, h4, h5⟩; exact ⟨h2, h1, h3, h4.symm, h5.symm⟩
    · rintro ⟨h1, h2, h3, h4, h5⟩; exact ⟨h2, h1, h3, h4.symm, h5.symm⟩
  rw [hE]
  clear hE
  have H0 := Lib.hid (NoB.start w #[.int .i64 8, .string name, .string value, .int .i64 n, .int .i64 extra, .slice A len c] #[.int .i64 8, .string ⟨#[]⟩, .string ⟨#[]⟩, .int .i64 0, .int .i64 0, .slice none 0 0])
  have hmx : Tryz.prog.follows .mixedOrders = true := by kernel_rfl
  have HN := Lib.hid (fun W => name_any name W hnm)
  generalize nameB name = nb at *
  go_enter Tryz.func30, Tryz.ntmps30
  go_wp2_with fail
  refine wp_region_held_drew (S := fun W => W.cell? ⟨w.heap.size, 1, none⟩ = some (.string name)) (by kernel_rfl) ((H0.out).drew.c.cell 1) (fun hHeld => ?_)
  refine plI [(0, false), (1, false), (2, false), (3, false), (4, false), (5, false), (8, false)] ?_
  repeat ((first | ((with_reducible show Plan ((_, true) :: _) _); refine plF ?_) | (refine plR (v := ?_) ?_ ?_; rotate_left; focus (intro W hSW; (try dsimp only at hSW); go_simp; all_goals (with_reducible rfl)))); try simp only [Act.put, List.setIfInBounds_toArray, List.set_cons_zero, List.set_cons_succ])
  refine plE ?_
  refine wpAnyH_ready (rs := [6]) (by kernel_rfl) (by simp) ?_
  refine AllReadyH.cons (o := ⟨_, _, _, _, _, _⟩) rfl (fun K hK => ?_) AllReadyH.nil
  go_simp
  go_at_call 27; refine (HN.out _).mono ?_; rintro r v2 ⟨rfl, hbn⟩
  have HB6 := Lib.hid ((H0.out).drew.below hbn)
  obtain ⟨dx6, fx6⟩ := HB6.out.x.facts
  clear hbn
  refine hK.out _ _ (HB6.out.c.cell 1) (fun hHeld => ?_)
  clear hK K
  try simp only [Act.put, List.setIfInBounds_toArray, List.set_cons_zero, List.set_cons_succ]
  refine plI [(7, false)] ?_
  repeat ((first | ((with_reducible show Plan ((_, true) :: _) _); refine plF ?_) | (refine plR (v := ?_) ?_ ?_; rotate_left; focus (intro W hSW; (try dsimp only at hSW); go_simp; all_goals (with_reducible rfl)))); try simp only [Act.put, List.setIfInBounds_toArray, List.set_cons_zero, List.set_cons_succ])
  refine plE ?_
  refine wpAnyH_ready (rs := [9]) (by kernel_rfl) (by simp) ?_
  refine AllReadyH.cons (o := ⟨_, _, _, _, _, _⟩) rfl (fun K hK => ?_) AllReadyH.nil
  go_simp
  have HB9 := Lib.hid (HB6.out.set 1 (.string name))
  refine hK.out _ _ (HB9.out.c.cell 1) (fun hHeld => ?_)
  clear hK K
  try simp only [Act.put]
  refine plI [(10, false)] ?_
  repeat ((first | ((with_reducible show Plan ((_, true) :: _) _); refine plF ?_) | (refine plR (v := ?_) ?_ ?_; rotate_left; focus (intro W hSW; (try dsimp only at hSW); go_simp; all_goals (with_reducible rfl)))); try simp only [Act.put, List.setIfInBounds_toArray, List.set_cons_zero, List.set_cons_succ])
  refine plE ?_
  refine wpAnyH_done (by kernel_rfl) ?_ _
  clear hHeld
  have HF := Lib.hid (show NoB w #[.int .i64 8, .string name, .string value, .int .i64 n, .int .i64 extra, .slice A len c] #[.int .i64 8, .string name, .string ⟨#[]⟩, .int .i64 0, .int .i64 0, .slice none 0 0] (v2.setCell ⟨w.heap.size + 1, 1, none⟩ (.string name)) from HB9.out)
  change Exit.then _ _ _ _ (v2.setCell ⟨w.heap.size + 1, 1, none⟩ (.string name))
  generalize (v2.setCell ⟨w.heap.size + 1, 1, none⟩ (.string name)) = V9 at *
  clear HB9 HB6 dx6 fx6
  obtain ⟨dc, fc⟩ := HF.out.c.facts
  obtain ⟨dx, fx⟩ := HF.out.x.facts
  go_wp2_with fail
  all_goals
    go_ret
    refine ⟨?_, HF.out.b⟩
    simp [*]
    try (rw [Bool.eq_iff_iff, beq_iff_eq, decide_eq_true_iff])
set_option maxRecDepth 100000 in
set_option maxHeartbeats 8000000 in
theorem node_10 (name value : ByteArray) (n extra : Int) (A : Option Addr) (len c : Nat) (w : World) (_hlen : len ≤ 1000000) (hnm : name.size ≤ maxLen) (_hvl : value.size ≤ maxLen) :
    Calls Tryz.prog 30 #[.agg #[.int .i64 10, .string name, .string value, .int .i64 n, .int .i64 extra, .slice A len c]] w fun r w' => r = .returned (.bool (decide (NodeOk 10 name value n extra len))) ∧ Below w.heap.size w w' := by
  have hE : decide (NodeOk 10 name value n extra len) = (nameB name && (decide (len = 1) && (decide (value.toList = []) && (decide (0 = n) && decide (0 = extra))))) := by
    rw [size0, Bool.eq_iff_iff]
    simp [NodeOk]
    constructor
    · rintro ⟨h1, h2, h3, h4, h5⟩; exact ⟨h2, h1, h3, h4.symm, h5.symm⟩
    · rintro ⟨h1, h2, h3, h4, h5⟩; exact ⟨h2, h1, h3, h4.symm, h5.symm⟩
  rw [hE]
  clear hE
  have H0 := Lib.hid (NoB.start w #[.int .i64 10, .string name, .string value, .int .i64 n, .int .i64 extra, .slice A len c] #[.int .i64 10, .string ⟨#[]⟩, .string ⟨#[]⟩, .int .i64 0, .int .i64 0, .slice none 0 0])
  have hmx : Tryz.prog.follows .mixedOrders = true := by kernel_rfl
  have HN := Lib.hid (fun W => name_any name W hnm)
  generalize nameB name = nb at *
  by_cases hk : len = 1
  · subst hk
    
    go_enter Tryz.func30, Tryz.ntmps30
    go_wp2_with fail
    refine wp_region_held_drew (S := fun W => W.cell? ⟨w.heap.size, 1, none⟩ = some (.string name)) (by kernel_rfl) ((H0.out).drew.c.cell 1) (fun hHeld => ?_)
    refine plI [(0, false), (1, false), (2, false), (3, false), (4, false), (5, false), (8, false)] ?_
    repeat ((first | ((with_reducible show Plan ((_, true) :: _) _); refine plF ?_) | (refine plR (v := ?_) ?_ ?_; rotate_left; focus (intro W hSW; (try dsimp only at hSW); go_simp; all_goals (with_reducible rfl)))); try simp only [Act.put, List.setIfInBounds_toArray, List.set_cons_zero, List.set_cons_succ])
    refine plE ?_
    refine wpAnyH_ready (rs := [6]) (by kernel_rfl) (by simp) ?_
    refine AllReadyH.cons (o := ⟨_, _, _, _, _, _⟩) rfl (fun K hK => ?_) AllReadyH.nil
    go_simp
    go_at_call 27; refine (HN.out _).mono ?_; rintro r v2 ⟨rfl, hbn⟩
    have HB6 := Lib.hid ((H0.out).drew.below hbn)
    obtain ⟨dx6, fx6⟩ := HB6.out.x.facts
    clear hbn
    refine hK.out _ _ (HB6.out.c.cell 1) (fun hHeld => ?_)
    clear hK K
    try simp only [Act.put, List.setIfInBounds_toArray, List.set_cons_zero, List.set_cons_succ]
    refine plI [(7, false)] ?_
    repeat ((first | ((with_reducible show Plan ((_, true) :: _) _); refine plF ?_) | (refine plR (v := ?_) ?_ ?_; rotate_left; focus (intro W hSW; (try dsimp only at hSW); go_simp; all_goals (with_reducible rfl)))); try simp only [Act.put, List.setIfInBounds_toArray, List.set_cons_zero, List.set_cons_succ])
    refine plE ?_
    refine wpAnyH_ready (rs := [9]) (by kernel_rfl) (by simp) ?_
    refine AllReadyH.cons (o := ⟨_, _, _, _, _, _⟩) rfl (fun K hK => ?_) AllReadyH.nil
    go_simp
    have HB9 := Lib.hid (HB6.out.set 1 (.string name))
    refine hK.out _ _ (HB9.out.c.cell 1) (fun hHeld => ?_)
    clear hK K
    try simp only [Act.put]
    refine plI [(10, false)] ?_
    repeat ((first | ((with_reducible show Plan ((_, true) :: _) _); refine plF ?_) | (refine plR (v := ?_) ?_ ?_; rotate_left; focus (intro W hSW; (try dsimp only at hSW); go_simp; all_goals (with_reducible rfl)))); try simp only [Act.put, List.setIfInBounds_toArray, List.set_cons_zero, List.set_cons_succ])
    refine plE ?_
    refine wpAnyH_done (by kernel_rfl) ?_ _
    clear hHeld
    have HF := Lib.hid (show NoB w #[.int .i64 10, .string name, .string value, .int .i64 n, .int .i64 extra, .slice A 1 c] #[.int .i64 10, .string name, .string ⟨#[]⟩, .int .i64 0, .int .i64 0, .slice none 0 0] (v2.setCell ⟨w.heap.size + 1, 1, none⟩ (.string name)) from HB9.out)
    change Exit.then _ _ _ _ (v2.setCell ⟨w.heap.size + 1, 1, none⟩ (.string name))
    generalize (v2.setCell ⟨w.heap.size + 1, 1, none⟩ (.string name)) = V9 at *
    clear HB9 HB6 dx6 fx6
    obtain ⟨dc, fc⟩ := HF.out.c.facts
    obtain ⟨dx, fx⟩ := HF.out.x.facts
    go_wp2_with fail
    all_goals
      go_ret
      refine ⟨?_, HF.out.b⟩
      simp [*]
      try (rw [Bool.eq_iff_iff, beq_iff_eq, decide_eq_true_iff])
  · have hki : ((len : Int) == 1) = false := by simp; omega
    
    go_enter Tryz.func30, Tryz.ntmps30
    go_wp2_with fail
    refine wp_region_held_drew (S := fun W => W.cell? ⟨w.heap.size, 1, none⟩ = some (.string name)) (by kernel_rfl) ((H0.out).drew.c.cell 1) (fun hHeld => ?_)
    refine plI [(0, false), (1, false), (2, false), (3, false), (4, false), (5, false), (8, false)] ?_
    repeat ((first | ((with_reducible show Plan ((_, true) :: _) _); refine plF ?_) | (refine plR (v := ?_) ?_ ?_; rotate_left; focus (intro W hSW; (try dsimp only at hSW); go_simp; all_goals (with_reducible rfl)))); try simp only [Act.put, List.setIfInBounds_toArray, List.set_cons_zero, List.set_cons_succ])
    refine plE ?_
    refine wpAnyH_ready (rs := [6]) (by kernel_rfl) (by simp) ?_
    refine AllReadyH.cons (o := ⟨_, _, _, _, _, _⟩) rfl (fun K hK => ?_) AllReadyH.nil
    go_simp
    go_at_call 27; refine (HN.out _).mono ?_; rintro r v2 ⟨rfl, hbn⟩
    have HB6 := Lib.hid ((H0.out).drew.below hbn)
    obtain ⟨dx6, fx6⟩ := HB6.out.x.facts
    clear hbn
    refine hK.out _ _ (HB6.out.c.cell 1) (fun hHeld => ?_)
    clear hK K
    try simp only [Act.put, List.setIfInBounds_toArray, List.set_cons_zero, List.set_cons_succ]
    refine plI [(7, false)] ?_
    repeat ((first | ((with_reducible show Plan ((_, true) :: _) _); refine plF ?_) | (refine plR (v := ?_) ?_ ?_; rotate_left; focus (intro W hSW; (try dsimp only at hSW); go_simp; all_goals (with_reducible rfl)))); try simp only [Act.put, List.setIfInBounds_toArray, List.set_cons_zero, List.set_cons_succ])
    refine plE ?_
    refine wpAnyH_ready (rs := [9]) (by kernel_rfl) (by simp) ?_
    refine AllReadyH.cons (o := ⟨_, _, _, _, _, _⟩) rfl (fun K hK => ?_) AllReadyH.nil
    go_simp
    have HB9 := Lib.hid (HB6.out.set 1 (.string name))
    refine hK.out _ _ (HB9.out.c.cell 1) (fun hHeld => ?_)
    clear hK K
    try simp only [Act.put]
    refine plI [(10, false)] ?_
    repeat ((first | ((with_reducible show Plan ((_, true) :: _) _); refine plF ?_) | (refine plR (v := ?_) ?_ ?_; rotate_left; focus (intro W hSW; (try dsimp only at hSW); go_simp; all_goals (with_reducible rfl)))); try simp only [Act.put, List.setIfInBounds_toArray, List.set_cons_zero, List.set_cons_succ])
    refine plE ?_
    refine wpAnyH_done (by kernel_rfl) ?_ _
    clear hHeld
    have HF := Lib.hid (show NoB w #[.int .i64 10, .string name, .string value, .int .i64 n, .int .i64 extra, .slice A len c] #[.int .i64 10, .string name, .string ⟨#[]⟩, .int .i64 0, .int .i64 0, .slice none 0 0] (v2.setCell ⟨w.heap.size + 1, 1, none⟩ (.string name)) from HB9.out)
    change Exit.then _ _ _ _ (v2.setCell ⟨w.heap.size + 1, 1, none⟩ (.string name))
    generalize (v2.setCell ⟨w.heap.size + 1, 1, none⟩ (.string name)) = V9 at *
    clear HB9 HB6 dx6 fx6
    obtain ⟨dc, fc⟩ := HF.out.c.facts
    obtain ⟨dx, fx⟩ := HF.out.x.facts
    go_wp2_with fail
    all_goals
      go_ret
      refine ⟨?_, HF.out.b⟩
      simp [*]
      try (rw [Bool.eq_iff_iff, beq_iff_eq, decide_eq_true_iff])
set_option maxRecDepth 100000 in
set_option maxHeartbeats 8000000 in
theorem node_11 (name value : ByteArray) (n extra : Int) (A : Option Addr) (len c : Nat) (w : World) (_hlen : len ≤ 1000000) (hnm : name.size ≤ maxLen) (_hvl : value.size ≤ maxLen) :
    Calls Tryz.prog 30 #[.agg #[.int .i64 11, .string name, .string value, .int .i64 n, .int .i64 extra, .slice A len c]] w fun r w' => r = .returned (.bool (decide (NodeOk 11 name value n extra len))) ∧ Below w.heap.size w w' := by
  have hE : decide (NodeOk 11 name value n extra len) = (nameB name && (decide (len = 1) && (decide (value.toList = []) && (decide (0 = n) && decide (0 = extra))))) := by
    rw [size0, Bool.eq_iff_iff]
    simp [NodeOk]
    constructor
    · rintro ⟨h1, h2, h3, h4, h5⟩; exact ⟨h2, h1, h3, h4.symm, h5.symm⟩
    · rintro ⟨h1, h2, h3, h4, h5⟩; exact ⟨h2, h1, h3, h4.symm, h5.symm⟩
  rw [hE]
  clear hE
  have H0 := Lib.hid (NoB.start w #[.int .i64 11, .string name, .string value, .int .i64 n, .int .i64 extra, .slice A len c] #[.int .i64 11, .string ⟨#[]⟩, .string ⟨#[]⟩, .int .i64 0, .int .i64 0, .slice none 0 0])
  have hmx : Tryz.prog.follows .mixedOrders = true := by kernel_rfl
  have HN := Lib.hid (fun W => name_any name W hnm)
  generalize nameB name = nb at *
  by_cases hk : len = 1
  · subst hk
    
    go_enter Tryz.func30, Tryz.ntmps30
    go_wp2_with fail
    refine wp_region_held_drew (S := fun W => W.cell? ⟨w.heap.size, 1, none⟩ = some (.string name)) (by kernel_rfl) ((H0.out).drew.c.cell 1) (fun hHeld => ?_)
    refine plI [(0, false), (1, false), (2, false), (3, false), (4, false), (5, false), (8, false)] ?_
    repeat ((first | ((with_reducible show Plan ((_, true) :: _) _); refine plF ?_) | (refine plR (v := ?_) ?_ ?_; rotate_left; focus (intro W hSW; (try dsimp only at hSW); go_simp; all_goals (with_reducible rfl)))); try simp only [Act.put, List.setIfInBounds_toArray, List.set_cons_zero, List.set_cons_succ])
    refine plE ?_
    refine wpAnyH_ready (rs := [6]) (by kernel_rfl) (by simp) ?_
    refine AllReadyH.cons (o := ⟨_, _, _, _, _, _⟩) rfl (fun K hK => ?_) AllReadyH.nil
    go_simp
    go_at_call 27; refine (HN.out _).mono ?_; rintro r v2 ⟨rfl, hbn⟩
    have HB6 := Lib.hid ((H0.out).drew.below hbn)
    obtain ⟨dx6, fx6⟩ := HB6.out.x.facts
    clear hbn
    refine hK.out _ _ (HB6.out.c.cell 1) (fun hHeld => ?_)
    clear hK K
    try simp only [Act.put, List.setIfInBounds_toArray, List.set_cons_zero, List.set_cons_succ]
    refine plI [(7, false)] ?_
    repeat ((first | ((with_reducible show Plan ((_, true) :: _) _); refine plF ?_) | (refine plR (v := ?_) ?_ ?_; rotate_left; focus (intro W hSW; (try dsimp only at hSW); go_simp; all_goals (with_reducible rfl)))); try simp only [Act.put, List.setIfInBounds_toArray, List.set_cons_zero, List.set_cons_succ])
    refine plE ?_
    refine wpAnyH_ready (rs := [9]) (by kernel_rfl) (by simp) ?_
    refine AllReadyH.cons (o := ⟨_, _, _, _, _, _⟩) rfl (fun K hK => ?_) AllReadyH.nil
    go_simp
    have HB9 := Lib.hid (HB6.out.set 1 (.string name))
    refine hK.out _ _ (HB9.out.c.cell 1) (fun hHeld => ?_)
    clear hK K
    try simp only [Act.put]
    refine plI [(10, false)] ?_
    repeat ((first | ((with_reducible show Plan ((_, true) :: _) _); refine plF ?_) | (refine plR (v := ?_) ?_ ?_; rotate_left; focus (intro W hSW; (try dsimp only at hSW); go_simp; all_goals (with_reducible rfl)))); try simp only [Act.put, List.setIfInBounds_toArray, List.set_cons_zero, List.set_cons_succ])
    refine plE ?_
    refine wpAnyH_done (by kernel_rfl) ?_ _
    clear hHeld
    have HF := Lib.hid (show NoB w #[.int .i64 11, .string name, .string value, .int .i64 n, .int .i64 extra, .slice A 1 c] #[.int .i64 11, .string name, .string ⟨#[]⟩, .int .i64 0, .int .i64 0, .slice none 0 0] (v2.setCell ⟨w.heap.size + 1, 1, none⟩ (.string name)) from HB9.out)
    change Exit.then _ _ _ _ (v2.setCell ⟨w.heap.size + 1, 1, none⟩ (.string name))
    generalize (v2.setCell ⟨w.heap.size + 1, 1, none⟩ (.string name)) = V9 at *
    clear HB9 HB6 dx6 fx6
    obtain ⟨dc, fc⟩ := HF.out.c.facts
    obtain ⟨dx, fx⟩ := HF.out.x.facts
    go_wp2_with fail
    all_goals
      go_ret
      refine ⟨?_, HF.out.b⟩
      simp [*]
      try (rw [Bool.eq_iff_iff, beq_iff_eq, decide_eq_true_iff])
  · have hki : ((len : Int) == 1) = false := by simp; omega
    
    go_enter Tryz.func30, Tryz.ntmps30
    go_wp2_with fail
    refine wp_region_held_drew (S := fun W => W.cell? ⟨w.heap.size, 1, none⟩ = some (.string name)) (by kernel_rfl) ((H0.out).drew.c.cell 1) (fun hHeld => ?_)
    refine plI [(0, false), (1, false), (2, false), (3, false), (4, false), (5, false), (8, false)] ?_
    repeat ((first | ((with_reducible show Plan ((_, true) :: _) _); refine plF ?_) | (refine plR (v := ?_) ?_ ?_; rotate_left; focus (intro W hSW; (try dsimp only at hSW); go_simp; all_goals (with_reducible rfl)))); try simp only [Act.put, List.setIfInBounds_toArray, List.set_cons_zero, List.set_cons_succ])
    refine plE ?_
    refine wpAnyH_ready (rs := [6]) (by kernel_rfl) (by simp) ?_
    refine AllReadyH.cons (o := ⟨_, _, _, _, _, _⟩) rfl (fun K hK => ?_) AllReadyH.nil
    go_simp
    go_at_call 27; refine (HN.out _).mono ?_; rintro r v2 ⟨rfl, hbn⟩
    have HB6 := Lib.hid ((H0.out).drew.below hbn)
    obtain ⟨dx6, fx6⟩ := HB6.out.x.facts
    clear hbn
    refine hK.out _ _ (HB6.out.c.cell 1) (fun hHeld => ?_)
    clear hK K
    try simp only [Act.put, List.setIfInBounds_toArray, List.set_cons_zero, List.set_cons_succ]
    refine plI [(7, false)] ?_
    repeat ((first | ((with_reducible show Plan ((_, true) :: _) _); refine plF ?_) | (refine plR (v := ?_) ?_ ?_; rotate_left; focus (intro W hSW; (try dsimp only at hSW); go_simp; all_goals (with_reducible rfl)))); try simp only [Act.put, List.setIfInBounds_toArray, List.set_cons_zero, List.set_cons_succ])
    refine plE ?_
    refine wpAnyH_ready (rs := [9]) (by kernel_rfl) (by simp) ?_
    refine AllReadyH.cons (o := ⟨_, _, _, _, _, _⟩) rfl (fun K hK => ?_) AllReadyH.nil
    go_simp
    have HB9 := Lib.hid (HB6.out.set 1 (.string name))
    refine hK.out _ _ (HB9.out.c.cell 1) (fun hHeld => ?_)
    clear hK K
    try simp only [Act.put]
    refine plI [(10, false)] ?_
    repeat ((first | ((with_reducible show Plan ((_, true) :: _) _); refine plF ?_) | (refine plR (v := ?_) ?_ ?_; rotate_left; focus (intro W hSW; (try dsimp only at hSW); go_simp; all_goals (with_reducible rfl)))); try simp only [Act.put, List.setIfInBounds_toArray, List.set_cons_zero, List.set_cons_succ])
    refine plE ?_
    refine wpAnyH_done (by kernel_rfl) ?_ _
    clear hHeld
    have HF := Lib.hid (show NoB w #[.int .i64 11, .string name, .string value, .int .i64 n, .int .i64 extra, .slice A len c] #[.int .i64 11, .string name, .string ⟨#[]⟩, .int .i64 0, .int .i64 0, .slice none 0 0] (v2.setCell ⟨w.heap.size + 1, 1, none⟩ (.string name)) from HB9.out)
    change Exit.then _ _ _ _ (v2.setCell ⟨w.heap.size + 1, 1, none⟩ (.string name))
    generalize (v2.setCell ⟨w.heap.size + 1, 1, none⟩ (.string name)) = V9 at *
    clear HB9 HB6 dx6 fx6
    obtain ⟨dc, fc⟩ := HF.out.c.facts
    obtain ⟨dx, fx⟩ := HF.out.x.facts
    go_wp2_with fail
    all_goals
      go_ret
      refine ⟨?_, HF.out.b⟩
      simp [*]
      try (rw [Bool.eq_iff_iff, beq_iff_eq, decide_eq_true_iff])
end Go.Proofs.YtcpakaiblelmlaaGreatDoor
