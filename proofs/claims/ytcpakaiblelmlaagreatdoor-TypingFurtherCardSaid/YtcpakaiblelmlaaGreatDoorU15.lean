/- rule.node: limit, is. Condition: the strings lie in memory, the kids' slice has a length. -/
import Derived.Test.YtcpakaiblelmlaaGreatDoorU09
namespace Go.Proofs.YtcpakaiblelmlaaGreatDoor
open Go Go.RowKit
set_option maxRecDepth 100000 in
set_option maxHeartbeats 8000000 in
theorem node_5 (name value : ByteArray) (n extra : Int) (A : Option Addr) (len c : Nat) (w : World) (_hlen : len ≤ 1000000) (hnm : name.size ≤ maxLen) (_hvl : value.size ≤ maxLen) :
    Calls Tryz.prog 30 #[.agg #[.int .i64 5, .string name, .string value, .int .i64 n, .int .i64 extra, .slice A len c]] w fun r w' => r = .returned (.bool (decide (NodeOk 5 name value n extra len))) ∧ Below w.heap.size w w' := by
  have hE : decide (NodeOk 5 name value n extra len) = (numN 0 n && (numN 0 extra && (nameB name && (decide (len = 0) && decide (value.toList = []))))) := by
    rw [size0, Bool.eq_iff_iff]
    simp [NodeOk, numN]
    constructor
    · rintro ⟨h1, h2, h3, h4, h5⟩; exact ⟨by omega, by omega, h2, h1, h3⟩
    · rintro ⟨h1, h2, h3, h4, h5⟩; exact ⟨h4, h3, h5, by omega, by omega⟩
  rw [hE]
  clear hE
  have H0 := Lib.hid (NoB.start w #[.int .i64 5, .string name, .string value, .int .i64 n, .int .i64 extra, .slice A len c] #[.int .i64 5, .string ⟨#[]⟩, .string ⟨#[]⟩, .int .i64 0, .int .i64 0, .slice none 0 0])
  have hmx : Tryz.prog.follows .mixedOrders = true := by kernel_rfl
  have HN := Lib.hid (fun W => name_any name W hnm)
  generalize nameB name = nb at *
  have HC := Lib.hid (fun W => nod1_any 0 n W)
  have HD := Lib.hid (fun W => nod1_any 0 extra W)
  cases hb : numN 0 n with
  | true =>
    rw [hb] at HC
    cases hb2 : numN 0 extra with
    | true =>
      rw [hb2] at HD
      go_enter Tryz.func30, Tryz.ntmps30
      go_wp2_with fail
      refine wp_region_held_drew (S := fun W => W.cell? ⟨w.heap.size, 3, none⟩ = some (.int .i64 n) ∧ W.cell? ⟨w.heap.size, 4, none⟩ = some (.int .i64 extra)) (by kernel_rfl) (⟨H0.out.drew.c.cell 3, H0.out.drew.c.cell 4⟩) (fun hHeld => ?_)
      refine plI [(0, false), (1, false), (2, false), (3, false), (4, false), (5, false), (6, false), (14, false)] ?_
      repeat ((first | ((with_reducible show Plan ((_, true) :: _) _); refine plF ?_) | (refine plR (v := ?_) ?_ ?_; rotate_left; focus (intro W hSW; (try dsimp only at hSW); go_simp; all_goals (with_reducible rfl)))); try simp only [Act.put, List.setIfInBounds_toArray, List.set_cons_zero, List.set_cons_succ])
      refine plE ?_
      refine wpAnyH_ready (rs := [7]) (by kernel_rfl) (by simp) ?_
      refine AllReadyH.cons (o := ⟨_, _, _, _, _, _⟩) rfl (fun K hK => ?_) AllReadyH.nil
      go_simp
      go_at_call 57; refine (HC.out _).mono ?_; rintro r k2 ⟨rfl, hk2⟩
      have HK6 := Lib.hid (show NoB w #[.int .i64 5, .string name, .string value, .int .i64 n, .int .i64 extra, .slice A len c] #[.int .i64 5, .string ⟨#[]⟩, .string ⟨#[]⟩, .int .i64 0, .int .i64 0, .slice none 0 0] k2 by rw [hk2]; exact H0.out.drew)
      clear hk2
      obtain ⟨dk, fk⟩ := HK6.out.x.facts
      refine hK.out _ _ (⟨HK6.out.c.cell 3, HK6.out.c.cell 4⟩) (fun hHeld => ?_)
      clear hK K
      try simp only [Act.put, List.setIfInBounds_toArray, List.set_cons_zero, List.set_cons_succ]
      refine plI [(8, false), (9, false), (10, false), (11, false)] ?_
      repeat ((first | ((with_reducible show Plan ((_, true) :: _) _); refine plF ?_) | (refine plR (v := ?_) ?_ ?_; rotate_left; focus (intro W hSW; (try dsimp only at hSW); go_simp; all_goals (with_reducible rfl)))); try simp only [Act.put, List.setIfInBounds_toArray, List.set_cons_zero, List.set_cons_succ])
      refine plE ?_
      refine wpAnyH_ready (rs := [12]) (by kernel_rfl) (by simp) ?_
      refine AllReadyH.cons (o := ⟨_, _, _, _, _, _⟩) rfl (fun K hK => ?_) AllReadyH.nil
      go_simp
      go_at_call 57; refine (HD.out _).mono ?_; rintro r k3 ⟨rfl, hk3⟩
      have HK7 := Lib.hid (show NoB w #[.int .i64 5, .string name, .string value, .int .i64 n, .int .i64 extra, .slice A len c] #[.int .i64 5, .string ⟨#[]⟩, .string ⟨#[]⟩, .int .i64 0, .int .i64 0, .slice none 0 0] k3 by rw [hk3]; exact HK6.out)
      clear hk3
      obtain ⟨dk, fk⟩ := HK7.out.x.facts
      refine hK.out _ _ (⟨HK7.out.c.cell 3, HK7.out.c.cell 4⟩) (fun hHeld => ?_)
      clear hK K
      try simp only [Act.put, List.setIfInBounds_toArray, List.set_cons_zero, List.set_cons_succ]
      refine plI [(13, false)] ?_
      repeat ((first | ((with_reducible show Plan ((_, true) :: _) _); refine plF ?_) | (refine plR (v := ?_) ?_ ?_; rotate_left; focus (intro W hSW; (try dsimp only at hSW); go_simp; all_goals (with_reducible rfl)))); try simp only [Act.put, List.setIfInBounds_toArray, List.set_cons_zero, List.set_cons_succ])
      refine plE ?_
      refine wpAnyH_ready (rs := [15]) (by kernel_rfl) (by simp) ?_
      refine AllReadyH.cons (o := ⟨_, _, _, _, _, _⟩) rfl (fun K hK => ?_) AllReadyH.nil
      go_simp
      have HK8 := Lib.hid (HK7.out.set 3 (.int .i64 n))
      obtain ⟨dk8, fk8⟩ := HK8.out.x.facts
      refine hK.out _ _ (⟨HK8.out.c.cell 3, HK8.out.c.cell 4⟩) (fun hHeld => ?_)
      clear hK K
      try simp only [Act.put]
      refine plI [(16, false)] ?_
      repeat ((first | ((with_reducible show Plan ((_, true) :: _) _); refine plF ?_) | (refine plR (v := ?_) ?_ ?_; rotate_left; focus (intro W hSW; (try dsimp only at hSW); go_simp; all_goals (with_reducible rfl)))); try simp only [Act.put, List.setIfInBounds_toArray, List.set_cons_zero, List.set_cons_succ])
      refine plE ?_
      refine wpAnyH_ready (rs := [17]) (by kernel_rfl) (by simp) ?_
      refine AllReadyH.cons (o := ⟨_, _, _, _, _, _⟩) rfl (fun K hK => ?_) AllReadyH.nil
      go_simp
      have HK9 := Lib.hid (HK8.out.set 4 (.int .i64 extra))
      refine hK.out _ _ (⟨HK9.out.c.cell 3, HK9.out.c.cell 4⟩) (fun hHeld => ?_)
      clear hK K
      try simp only [Act.put]
      refine plI [(18, false)] ?_
      repeat ((first | ((with_reducible show Plan ((_, true) :: _) _); refine plF ?_) | (refine plR (v := ?_) ?_ ?_; rotate_left; focus (intro W hSW; (try dsimp only at hSW); go_simp; all_goals (with_reducible rfl)))); try simp only [Act.put, List.setIfInBounds_toArray, List.set_cons_zero, List.set_cons_succ])
      refine plE ?_
      refine wpAnyH_done (by kernel_rfl) ?_ _
      clear hHeld
      have HG := Lib.hid (show NoB w #[.int .i64 5, .string name, .string value, .int .i64 n, .int .i64 extra, .slice A len c] #[.int .i64 5, .string ⟨#[]⟩, .string ⟨#[]⟩, .int .i64 n, .int .i64 extra, .slice none 0 0] ((k3.setCell ⟨w.heap.size + 1, 3, none⟩ (.int .i64 n)).setCell ⟨w.heap.size + 1, 4, none⟩ (.int .i64 extra)) from HK9.out)
      change Exit.inBlock _ _ _ _ ((k3.setCell ⟨w.heap.size + 1, 3, none⟩ (.int .i64 n)).setCell ⟨w.heap.size + 1, 4, none⟩ (.int .i64 extra))
      generalize ((k3.setCell ⟨w.heap.size + 1, 3, none⟩ (.int .i64 n)).setCell ⟨w.heap.size + 1, 4, none⟩ (.int .i64 extra)) = V8 at *
      clear HK9 HK8 HK6 HK7 dk8 fk8
      obtain ⟨dc0, fc0⟩ := HG.out.c.facts
      obtain ⟨dx0, fx0⟩ := HG.out.x.facts
      go_wp2_with fail
      refine wp_region_held_drew (S := fun W => W.cell? ⟨w.heap.size, 1, none⟩ = some (.string name)) (by kernel_rfl) ((HG.out).drew.c.cell 1) (fun hHeld => ?_)
      refine plI [(0, false), (1, false), (2, false), (3, false), (4, false), (5, false), (8, false)] ?_
      repeat ((first | ((with_reducible show Plan ((_, true) :: _) _); refine plF ?_) | (refine plR (v := ?_) ?_ ?_; rotate_left; focus (intro W hSW; (try dsimp only at hSW); go_simp; all_goals (with_reducible rfl)))); try simp only [Act.put, List.setIfInBounds_toArray, List.set_cons_zero, List.set_cons_succ])
      refine plE ?_
      refine wpAnyH_ready (rs := [6]) (by kernel_rfl) (by simp) ?_
      refine AllReadyH.cons (o := ⟨_, _, _, _, _, _⟩) rfl (fun K hK => ?_) AllReadyH.nil
      go_simp
      go_at_call 27; refine (HN.out _).mono ?_; rintro r v2 ⟨rfl, hbn⟩
      have HB6 := Lib.hid ((HG.out).drew.below hbn)
      obtain ⟨dx6, fx6⟩ := HB6.out.x.facts
      clear hbn
      refine hK.out _ _ (HB6.out.c.cell 1) (fun hHeld => ?_)
      clear hK K
      try simp only [Act.put, List.setIfInBounds_toArray, List.set_cons_zero, List.set_cons_succ]
      refine plI [(7, false)] ?_
      repeat ((first | ((with_reducible show Plan ((_, true) :: _) _); refine plF ?_) | (refine plR (v := ?_) ?_ ?_; rotate_left; focus (intro W hSW; (try dsimp only at hSW); go_simp; all_goals (with_reducible rfl)))); try simp only [Act.put, List.setIfInBounds_toArray, List.set_cons_zero, List.set_cons_succ])
      refine plE ?_
      refine wpAnyH_ready (rs := [9]) (by kernel_rfl) (by simp) ?_
      refine AllReadyH.cons (o := ⟨_, _, _, _, _, _⟩) rfl (fun K hK => ?_) AllReadyH.nil
      go_simp
      have HB9 := Lib.hid (HB6.out.set 1 (.string name))
      refine hK.out _ _ (HB9.out.c.cell 1) (fun hHeld => ?_)
      clear hK K
      try simp only [Act.put]
      refine plI [(10, false)] ?_
      repeat ((first | ((with_reducible show Plan ((_, true) :: _) _); refine plF ?_) | (refine plR (v := ?_) ?_ ?_; rotate_left; focus (intro W hSW; (try dsimp only at hSW); go_simp; all_goals (with_reducible rfl)))); try simp only [Act.put, List.setIfInBounds_toArray, List.set_cons_zero, List.set_cons_succ])
      refine plE ?_
      refine wpAnyH_done (by kernel_rfl) ?_ _
      clear hHeld
      have HF := Lib.hid (show NoB w #[.int .i64 5, .string name, .string value, .int .i64 n, .int .i64 extra, .slice A len c] #[.int .i64 5, .string name, .string ⟨#[]⟩, .int .i64 n, .int .i64 extra, .slice none 0 0] (v2.setCell ⟨w.heap.size + 1, 1, none⟩ (.string name)) from HB9.out)
      change Exit.then _ _ _ _ (v2.setCell ⟨w.heap.size + 1, 1, none⟩ (.string name))
      generalize (v2.setCell ⟨w.heap.size + 1, 1, none⟩ (.string name)) = V9 at *
      clear HB9 HB6 dx6 fx6
      obtain ⟨dc, fc⟩ := HF.out.c.facts
      obtain ⟨dx, fx⟩ := HF.out.x.facts
      go_wp2_with fail
      all_goals
        go_ret
        refine ⟨?_, HF.out.b⟩
        simp [*]
        try (rw [Bool.eq_iff_iff, beq_iff_eq, decide_eq_true_iff])
    | false =>
      rw [hb2] at HD
      go_enter Tryz.func30, Tryz.ntmps30
      go_wp2_with fail
      refine wp_region_held_drew (S := fun W => W.cell? ⟨w.heap.size, 3, none⟩ = some (.int .i64 n) ∧ W.cell? ⟨w.heap.size, 4, none⟩ = some (.int .i64 extra)) (by kernel_rfl) (⟨H0.out.drew.c.cell 3, H0.out.drew.c.cell 4⟩) (fun hHeld => ?_)
      refine plI [(0, false), (1, false), (2, false), (3, false), (4, false), (5, false), (6, false), (14, false)] ?_
      repeat ((first | ((with_reducible show Plan ((_, true) :: _) _); refine plF ?_) | (refine plR (v := ?_) ?_ ?_; rotate_left; focus (intro W hSW; (try dsimp only at hSW); go_simp; all_goals (with_reducible rfl)))); try simp only [Act.put, List.setIfInBounds_toArray, List.set_cons_zero, List.set_cons_succ])
      refine plE ?_
      refine wpAnyH_ready (rs := [7]) (by kernel_rfl) (by simp) ?_
      refine AllReadyH.cons (o := ⟨_, _, _, _, _, _⟩) rfl (fun K hK => ?_) AllReadyH.nil
      go_simp
      go_at_call 57; refine (HC.out _).mono ?_; rintro r k2 ⟨rfl, hk2⟩
      have HK6 := Lib.hid (show NoB w #[.int .i64 5, .string name, .string value, .int .i64 n, .int .i64 extra, .slice A len c] #[.int .i64 5, .string ⟨#[]⟩, .string ⟨#[]⟩, .int .i64 0, .int .i64 0, .slice none 0 0] k2 by rw [hk2]; exact H0.out.drew)
      clear hk2
      obtain ⟨dk, fk⟩ := HK6.out.x.facts
      refine hK.out _ _ (⟨HK6.out.c.cell 3, HK6.out.c.cell 4⟩) (fun hHeld => ?_)
      clear hK K
      try simp only [Act.put, List.setIfInBounds_toArray, List.set_cons_zero, List.set_cons_succ]
      refine plI [(8, false), (9, false), (10, false), (11, false)] ?_
      repeat ((first | ((with_reducible show Plan ((_, true) :: _) _); refine plF ?_) | (refine plR (v := ?_) ?_ ?_; rotate_left; focus (intro W hSW; (try dsimp only at hSW); go_simp; all_goals (with_reducible rfl)))); try simp only [Act.put, List.setIfInBounds_toArray, List.set_cons_zero, List.set_cons_succ])
      refine plE ?_
      refine wpAnyH_ready (rs := [12]) (by kernel_rfl) (by simp) ?_
      refine AllReadyH.cons (o := ⟨_, _, _, _, _, _⟩) rfl (fun K hK => ?_) AllReadyH.nil
      go_simp
      go_at_call 57; refine (HD.out _).mono ?_; rintro r k3 ⟨rfl, hk3⟩
      have HK7 := Lib.hid (show NoB w #[.int .i64 5, .string name, .string value, .int .i64 n, .int .i64 extra, .slice A len c] #[.int .i64 5, .string ⟨#[]⟩, .string ⟨#[]⟩, .int .i64 0, .int .i64 0, .slice none 0 0] k3 by rw [hk3]; exact HK6.out)
      clear hk3
      obtain ⟨dk, fk⟩ := HK7.out.x.facts
      refine hK.out _ _ (⟨HK7.out.c.cell 3, HK7.out.c.cell 4⟩) (fun hHeld => ?_)
      clear hK K
      try simp only [Act.put, List.setIfInBounds_toArray, List.set_cons_zero, List.set_cons_succ]
      refine plI [(13, false)] ?_
      repeat ((first | ((with_reducible show Plan ((_, true) :: _) _); refine plF ?_) | (refine plR (v := ?_) ?_ ?_; rotate_left; focus (intro W hSW; (try dsimp only at hSW); go_simp; all_goals (with_reducible rfl)))); try simp only [Act.put, List.setIfInBounds_toArray, List.set_cons_zero, List.set_cons_succ])
      refine plE ?_
      refine wpAnyH_ready (rs := [15]) (by kernel_rfl) (by simp) ?_
      refine AllReadyH.cons (o := ⟨_, _, _, _, _, _⟩) rfl (fun K hK => ?_) AllReadyH.nil
      go_simp
      have HK8 := Lib.hid (HK7.out.set 3 (.int .i64 n))
      obtain ⟨dk8, fk8⟩ := HK8.out.x.facts
      refine hK.out _ _ (⟨HK8.out.c.cell 3, HK8.out.c.cell 4⟩) (fun hHeld => ?_)
      clear hK K
      try simp only [Act.put]
      refine plI [(16, false)] ?_
      repeat ((first | ((with_reducible show Plan ((_, true) :: _) _); refine plF ?_) | (refine plR (v := ?_) ?_ ?_; rotate_left; focus (intro W hSW; (try dsimp only at hSW); go_simp; all_goals (with_reducible rfl)))); try simp only [Act.put, List.setIfInBounds_toArray, List.set_cons_zero, List.set_cons_succ])
      refine plE ?_
      refine wpAnyH_ready (rs := [17]) (by kernel_rfl) (by simp) ?_
      refine AllReadyH.cons (o := ⟨_, _, _, _, _, _⟩) rfl (fun K hK => ?_) AllReadyH.nil
      go_simp
      have HK9 := Lib.hid (HK8.out.set 4 (.int .i64 extra))
      refine hK.out _ _ (⟨HK9.out.c.cell 3, HK9.out.c.cell 4⟩) (fun hHeld => ?_)
      clear hK K
      try simp only [Act.put]
      refine plI [(18, false)] ?_
      repeat ((first | ((with_reducible show Plan ((_, true) :: _) _); refine plF ?_) | (refine plR (v := ?_) ?_ ?_; rotate_left; focus (intro W hSW; (try dsimp only at hSW); go_simp; all_goals (with_reducible rfl)))); try simp only [Act.put, List.setIfInBounds_toArray, List.set_cons_zero, List.set_cons_succ])
      refine plE ?_
      refine wpAnyH_done (by kernel_rfl) ?_ _
      clear hHeld
      have HG := Lib.hid (show NoB w #[.int .i64 5, .string name, .string value, .int .i64 n, .int .i64 extra, .slice A len c] #[.int .i64 5, .string ⟨#[]⟩, .string ⟨#[]⟩, .int .i64 n, .int .i64 extra, .slice none 0 0] ((k3.setCell ⟨w.heap.size + 1, 3, none⟩ (.int .i64 n)).setCell ⟨w.heap.size + 1, 4, none⟩ (.int .i64 extra)) from HK9.out)
      change Exit.inBlock _ _ _ _ ((k3.setCell ⟨w.heap.size + 1, 3, none⟩ (.int .i64 n)).setCell ⟨w.heap.size + 1, 4, none⟩ (.int .i64 extra))
      generalize ((k3.setCell ⟨w.heap.size + 1, 3, none⟩ (.int .i64 n)).setCell ⟨w.heap.size + 1, 4, none⟩ (.int .i64 extra)) = V8 at *
      clear HK9 HK8 HK6 HK7 dk8 fk8
      obtain ⟨dc0, fc0⟩ := HG.out.c.facts
      obtain ⟨dx0, fx0⟩ := HG.out.x.facts
      go_wp2_with fail
      refine wp_region_held_drew (S := fun W => W.cell? ⟨w.heap.size, 1, none⟩ = some (.string name)) (by kernel_rfl) ((HG.out).drew.c.cell 1) (fun hHeld => ?_)
      refine plI [(0, false), (1, false), (2, false), (3, false), (4, true), (5, true), (6, true), (7, false), (8, false)] ?_
      repeat ((first | ((with_reducible show Plan ((_, true) :: _) _); refine plF ?_) | (refine plR (v := ?_) ?_ ?_; rotate_left; focus (intro W hSW; (try dsimp only at hSW); go_simp; all_goals (with_reducible rfl)))); try simp only [Act.put, List.setIfInBounds_toArray, List.set_cons_zero, List.set_cons_succ])
      refine plE ?_
      refine wpAnyH_ready (rs := [9]) (by kernel_rfl) (by simp) ?_
      refine AllReadyH.cons (o := ⟨_, _, _, _, _, _⟩) rfl (fun K hK => ?_) AllReadyH.nil
      go_simp
      have HB9 := Lib.hid (((HG.out).set 1 (.string name)).drew)
      refine hK.out _ _ (HB9.out.c.cell 1) (fun hHeld => ?_)
      clear hK K
      try simp only [Act.put]
      refine plI [(10, false)] ?_
      repeat ((first | ((with_reducible show Plan ((_, true) :: _) _); refine plF ?_) | (refine plR (v := ?_) ?_ ?_; rotate_left; focus (intro W hSW; (try dsimp only at hSW); go_simp; all_goals (with_reducible rfl)))); try simp only [Act.put, List.setIfInBounds_toArray, List.set_cons_zero, List.set_cons_succ])
      refine plE ?_
      refine wpAnyH_done (by kernel_rfl) ?_ _
      clear hHeld
      have HF := Lib.hid (show NoB w #[.int .i64 5, .string name, .string value, .int .i64 n, .int .i64 extra, .slice A len c] #[.int .i64 5, .string name, .string ⟨#[]⟩, .int .i64 n, .int .i64 extra, .slice none 0 0] (V8.setCell ⟨w.heap.size + 1, 1, none⟩ (.string name)).drew from HB9.out)
      change Exit.then _ _ _ _ (V8.setCell ⟨w.heap.size + 1, 1, none⟩ (.string name)).drew
      generalize (V8.setCell ⟨w.heap.size + 1, 1, none⟩ (.string name)).drew = V9 at *
      clear HB9
      obtain ⟨dc, fc⟩ := HF.out.c.facts
      obtain ⟨dx, fx⟩ := HF.out.x.facts
      go_wp2_with fail
      all_goals
        go_ret
        refine ⟨?_, HF.out.b⟩
        simp [*]
        try (rw [Bool.eq_iff_iff, beq_iff_eq, decide_eq_true_iff])
  | false =>
    rw [hb] at HC
    go_enter Tryz.func30, Tryz.ntmps30
    go_wp2_with fail
    refine wp_region_held_drew (S := fun W => W.cell? ⟨w.heap.size, 3, none⟩ = some (.int .i64 n) ∧ W.cell? ⟨w.heap.size, 4, none⟩ = some (.int .i64 extra)) (by kernel_rfl) (⟨H0.out.drew.c.cell 3, H0.out.drew.c.cell 4⟩) (fun hHeld => ?_)
    refine plI [(0, false), (1, false), (2, false), (3, false), (4, false), (5, false), (6, false), (14, false)] ?_
    repeat ((first | ((with_reducible show Plan ((_, true) :: _) _); refine plF ?_) | (refine plR (v := ?_) ?_ ?_; rotate_left; focus (intro W hSW; (try dsimp only at hSW); go_simp; all_goals (with_reducible rfl)))); try simp only [Act.put, List.setIfInBounds_toArray, List.set_cons_zero, List.set_cons_succ])
    refine plE ?_
    refine wpAnyH_ready (rs := [7]) (by kernel_rfl) (by simp) ?_
    refine AllReadyH.cons (o := ⟨_, _, _, _, _, _⟩) rfl (fun K hK => ?_) AllReadyH.nil
    go_simp
    go_at_call 57; refine (HC.out _).mono ?_; rintro r k2 ⟨rfl, hk2⟩
    have HK6 := Lib.hid (show NoB w #[.int .i64 5, .string name, .string value, .int .i64 n, .int .i64 extra, .slice A len c] #[.int .i64 5, .string ⟨#[]⟩, .string ⟨#[]⟩, .int .i64 0, .int .i64 0, .slice none 0 0] k2 by rw [hk2]; exact H0.out.drew)
    clear hk2
    obtain ⟨dk, fk⟩ := HK6.out.x.facts
    refine hK.out _ _ (⟨HK6.out.c.cell 3, HK6.out.c.cell 4⟩) (fun hHeld => ?_)
    clear hK K
    try simp only [Act.put, List.setIfInBounds_toArray, List.set_cons_zero, List.set_cons_succ]
    refine plI [(8, false), (9, true), (10, true), (11, true), (12, true), (13, false)] ?_
    repeat ((first | ((with_reducible show Plan ((_, true) :: _) _); refine plF ?_) | (refine plR (v := ?_) ?_ ?_; rotate_left; focus (intro W hSW; (try dsimp only at hSW); go_simp; all_goals (with_reducible rfl)))); try simp only [Act.put, List.setIfInBounds_toArray, List.set_cons_zero, List.set_cons_succ])
    refine plE ?_
    refine wpAnyH_ready (rs := [15]) (by kernel_rfl) (by simp) ?_
    refine AllReadyH.cons (o := ⟨_, _, _, _, _, _⟩) rfl (fun K hK => ?_) AllReadyH.nil
    go_simp
    have HK8 := Lib.hid (HK6.out.set 3 (.int .i64 n))
    obtain ⟨dk8, fk8⟩ := HK8.out.x.facts
    refine hK.out _ _ (⟨HK8.out.c.cell 3, HK8.out.c.cell 4⟩) (fun hHeld => ?_)
    clear hK K
    try simp only [Act.put]
    refine plI [(16, false)] ?_
    repeat ((first | ((with_reducible show Plan ((_, true) :: _) _); refine plF ?_) | (refine plR (v := ?_) ?_ ?_; rotate_left; focus (intro W hSW; (try dsimp only at hSW); go_simp; all_goals (with_reducible rfl)))); try simp only [Act.put, List.setIfInBounds_toArray, List.set_cons_zero, List.set_cons_succ])
    refine plE ?_
    refine wpAnyH_ready (rs := [17]) (by kernel_rfl) (by simp) ?_
    refine AllReadyH.cons (o := ⟨_, _, _, _, _, _⟩) rfl (fun K hK => ?_) AllReadyH.nil
    go_simp
    have HK9 := Lib.hid (HK8.out.set 4 (.int .i64 extra))
    refine hK.out _ _ (⟨HK9.out.c.cell 3, HK9.out.c.cell 4⟩) (fun hHeld => ?_)
    clear hK K
    try simp only [Act.put]
    refine plI [(18, false)] ?_
    repeat ((first | ((with_reducible show Plan ((_, true) :: _) _); refine plF ?_) | (refine plR (v := ?_) ?_ ?_; rotate_left; focus (intro W hSW; (try dsimp only at hSW); go_simp; all_goals (with_reducible rfl)))); try simp only [Act.put, List.setIfInBounds_toArray, List.set_cons_zero, List.set_cons_succ])
    refine plE ?_
    refine wpAnyH_done (by kernel_rfl) ?_ _
    clear hHeld
    have HG := Lib.hid (show NoB w #[.int .i64 5, .string name, .string value, .int .i64 n, .int .i64 extra, .slice A len c] #[.int .i64 5, .string ⟨#[]⟩, .string ⟨#[]⟩, .int .i64 n, .int .i64 extra, .slice none 0 0] ((k2.setCell ⟨w.heap.size + 1, 3, none⟩ (.int .i64 n)).setCell ⟨w.heap.size + 1, 4, none⟩ (.int .i64 extra)) from HK9.out)
    change Exit.inBlock _ _ _ _ ((k2.setCell ⟨w.heap.size + 1, 3, none⟩ (.int .i64 n)).setCell ⟨w.heap.size + 1, 4, none⟩ (.int .i64 extra))
    generalize ((k2.setCell ⟨w.heap.size + 1, 3, none⟩ (.int .i64 n)).setCell ⟨w.heap.size + 1, 4, none⟩ (.int .i64 extra)) = V8 at *
    clear HK9 HK8 HK6 dk8 fk8
    obtain ⟨dc0, fc0⟩ := HG.out.c.facts
    obtain ⟨dx0, fx0⟩ := HG.out.x.facts
    go_wp2_with fail
    refine wp_region_held_drew (S := fun W => W.cell? ⟨w.heap.size, 1, none⟩ = some (.string name)) (by kernel_rfl) ((HG.out).drew.c.cell 1) (fun hHeld => ?_)
    refine plI [(0, false), (1, false), (2, false), (3, false), (4, true), (5, true), (6, true), (7, false), (8, false)] ?_
    repeat ((first | ((with_reducible show Plan ((_, true) :: _) _); refine plF ?_) | (refine plR (v := ?_) ?_ ?_; rotate_left; focus (intro W hSW; (try dsimp only at hSW); go_simp; all_goals (with_reducible rfl)))); try simp only [Act.put, List.setIfInBounds_toArray, List.set_cons_zero, List.set_cons_succ])
    refine plE ?_
    refine wpAnyH_ready (rs := [9]) (by kernel_rfl) (by simp) ?_
    refine AllReadyH.cons (o := ⟨_, _, _, _, _, _⟩) rfl (fun K hK => ?_) AllReadyH.nil
    go_simp
    have HB9 := Lib.hid (((HG.out).set 1 (.string name)).drew)
    refine hK.out _ _ (HB9.out.c.cell 1) (fun hHeld => ?_)
    clear hK K
    try simp only [Act.put]
    refine plI [(10, false)] ?_
    repeat ((first | ((with_reducible show Plan ((_, true) :: _) _); refine plF ?_) | (refine plR (v := ?_) ?_ ?_; rotate_left; focus (intro W hSW; (try dsimp only at hSW); go_simp; all_goals (with_reducible rfl)))); try simp only [Act.put, List.setIfInBounds_toArray, List.set_cons_zero, List.set_cons_succ])
    refine plE ?_
    refine wpAnyH_done (by kernel_rfl) ?_ _
    clear hHeld
    have HF := Lib.hid (show NoB w #[.int .i64 5, .string name, .string value, .int .i64 n, .int .i64 extra, .slice A len c] #[.int .i64 5, .string name, .string ⟨#[]⟩, .int .i64 n, .int .i64 extra, .slice none 0 0] (V8.setCell ⟨w.heap.size + 1, 1, none⟩ (.string name)).drew from HB9.out)
    change Exit.then _ _ _ _ (V8.setCell ⟨w.heap.size + 1, 1, none⟩ (.string name)).drew
    generalize (V8.setCell ⟨w.heap.size + 1, 1, none⟩ (.string name)).drew = V9 at *
    clear HB9
    obtain ⟨dc, fc⟩ := HF.out.c.facts
    obtain ⟨dx, fx⟩ := HF.out.x.facts
    go_wp2_with fail
    all_goals
      go_ret
      refine ⟨?_, HF.out.b⟩
      simp [*]
      try (rw [Bool.eq_iff_iff, beq_iff_eq, decide_eq_true_iff])
end Go.Proofs.YtcpakaiblelmlaaGreatDoor
