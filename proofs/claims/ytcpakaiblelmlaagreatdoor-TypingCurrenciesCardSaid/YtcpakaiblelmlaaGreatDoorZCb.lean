/- TypingCurrencies, where the condition has kids; as a whole. Condition: the arguments lie in memory; the error variables of strconv hold something. -/
import Derived.Test.YtcpakaiblelmlaaGreatDoorZCa
namespace Go.Proofs.YtcpakaiblelmlaaGreatDoor
open Go Go.RowKit
set_option maxRecDepth 100000 in
set_option maxHeartbeats 8000000 in
theorem tc_kids (w0 : World) (hv : Evs w0) (cv : Value) (c : List Kd) (r : Ru) (A : Option Addr) (cc : Nat) (w : World) (hb0 : Below w0.heap.size w0 w) (hcv : Cat w0 cv c) (hlay : Lay w0 (.slice A r.cond.kids.length cc) r.cond.kids) (hf : FitE r.cond) (hnm : r.name.size ≤ maxLen) (hkd : r.kind.size ≤ maxLen) (hfew : (fewCa c && fewU r) = true) (hr : ruleB (rkU r.cond) = true) (hk : r.cond.kids ≠ []) : Calls Tryz.prog 6 #[.agg #[cv], .agg #[.string r.name, .string r.kind, .int .i64 r.cond.op, .string r.cond.name, .string r.cond.value, .int .i64 r.cond.n, .int .i64 r.cond.extra, .slice A r.cond.kids.length cc]] w fun e w' => e = .returned (.bool true) ∧ Below w.heap.size w w' := by
  have HCK := Lib.hid (fun (hz : checkU c r = 0) (x : ByteArray) (hx : x ∈ curU r.cond) => (show curB x = true from check_cur hz (cur_mem hx)))
  have HINC := Lib.hid (cur_inc r.cond)
  have HRV := Lib.hid hr
  have hLZ : curU r.cond = sortD (limsL r.cond.kids) := by rw [show curU r.cond = sortD (limL r.cond) from if_pos hr, cur_node hr hk]
  have HLS := Lib.hid (show (curU r.cond).length = (sortD (limsL r.cond.kids)).length by rw [hLZ])
  have HKV := Lib.hid (fun (e : Ex) (he : e ∈ r.cond.kids) => (show curU e = sortD (limL e) ∧ ∀ y ∈ limL e, y ∈ curU r.cond from ⟨if_pos (trule_kid (r := rkU r.cond) hr he), fun y hy => by rw [hLZ, mem_sortD, limsL_mem]; exact ⟨e, he, hy⟩⟩))
  have hkl0 : ((r.cond.kids.length : Int) == 0) = false := by simp [hk]
  have hkl0n : (r.cond.kids.length == 0) = false := by simp [hk]
  have hkl0e : r.cond.kids.isEmpty = false := by simp [hk]
  have hmm := @run_makeMap Tryz.prog
  clear hr hk hLZ
  have H0 := Lib.hid (B2.start w cv #[.string r.name, .string r.kind, .int .i64 r.cond.op, .string r.cond.name, .string r.cond.value, .int .i64 r.cond.n, .int .i64 r.cond.extra, .slice A r.cond.kids.length cc])
  have HB0 := Lib.hid hb0
  have HCV := Lib.hid hcv
  have HLY := Lib.hid hlay
  have HV := Lib.hid hv
  clear hb0 hcv hlay hv
  have hlay := HLY.out
  have HFW := Lib.hid hfew
  have hfew2 := hfew
  rw [Bool.and_eq_true] at hfew2
  have HL := Lib.hid (show c.length ≤ 100000 by have := (fewCa_short hfew2.1).1; omega)
  have HSH := Lib.hid (fewCa_short hfew2.1).2
  have HCN := Lib.hid (show cnt r.cond ≤ 1000000 by have := fewU_cnt hfew2.2; omega)
  have HC80 := Lib.hid (fewU_cnt hfew2.2)
  have HF := Lib.hid hf
  have HNM := Lib.hid hnm
  have HKD := Lib.hid hkd
  clear hfew hfew2 hf hnm hkd
  have HLL := Lib.hid (show (curU r.cond).length ≤ 80 from Nat.le_trans (cur_len r.cond) HC80.out)
  have HCU1 := Lib.hid (fun W (hb : Below w0.heap.size w0 W) => curr_any r.cond (.slice A r.cond.kids.length cc) W HCN.out HF.out (HLY.out.later hb))
  have HLN := Lib.hid (show r.cond.kids.length ≤ 80 by have h1 := len_cnts r.cond.kids; have h2 := cnt_eq r.cond; have h3 := HC80.out; omega)
  obtain ⟨z, hz⟩ : ∃ z, checkU c r = z := ⟨_, rfl⟩
  rw [hz] at HCK
  have HZ := Lib.hid hz
  clear hz hlay
  generalize hl : curU r.cond = l at *
  have HLE := Lib.hid hl
  clear hl
  obtain ⟨dK, fK⟩ := H0.out.c.facts
  obtain ⟨dR, fR⟩ := H0.out.r.facts
  go_enter Tryz.func6, Tryz.ntmps6
  go_wp2_with (first | (go_at_call 7; refine (head21_any w0 _ HV.out (HB0.out.trans (H0.out.b.mono HB0.out.size))).mono ?_; rintro e w1 ⟨rfl, hb⟩; have H1 := Lib.hid (H0.out.below hb); clear dK fK dR fR; clear hb; obtain ⟨dK, fK⟩ := H1.out.c.facts; obtain ⟨dR, fR⟩ := H1.out.r.facts) | (go_at_call 8; refine (few21_any w0 cv c r (.slice A r.cond.kids.length cc) _ (HB0.out.trans (H1.out.b.mono HB0.out.size)) HCV.out HLY.out).mono ?_; rintro e w2 ⟨rfl, hb⟩; (rw [HFW.out]); have H2 := Lib.hid (H1.out.below hb); clear dK fK dR fR; clear hb; obtain ⟨dK, fK⟩ := H2.out.c.facts; obtain ⟨dR, fR⟩ := H2.out.r.facts) | (go_at_call 18; refine (HCU1.out _ (HB0.out.trans (H2.out.b.mono HB0.out.size))).mono ?_; rintro e w3 ⟨v, rfl, hrow, hb⟩; have H3 := Lib.hid (H2.out.below hb); have HS3 := Lib.hid (own_strs hrow); obtain ⟨Av, cw, rfl⟩ := own_val hrow; clear dK fK dR fR; clear hrow hb))
  go_loopw [7] (fun i wr => ∃ k : Nat, i = .int .i64 k ∧ k ≤ l.length ∧ Hid (B2 w cv #[.string r.name, .string r.kind, .int .i64 r.cond.op, .string r.cond.name, .string r.cond.value, .int .i64 r.cond.n, .int .i64 r.cond.extra, .slice A r.cond.kids.length cc] wr) ∧ Hid (Sl wr (.slice Av l.length cw) l.length 1 (strF l))) (fun i _ => l.length - (intOf i).toNat)
  case atStart => exact ⟨0, rfl, Nat.zero_le _, H3, HS3⟩
  case round =>
    obtain ⟨k, rfl, hk, HBr, HSr⟩ := hrel
    clear H0 H1 H2 H3 HS3
    by_cases hlt : k < l.length
    · have hki : (k : Int) < (l.length : Int) := by omega
      have hs3 : IntKind.i64.wrap ((k : Int) + 1) = (k : Int) + 1 := IntWalk.i64_in _ (by have := HLL.out; omega)
      obtain ⟨_, _, he, _, hc0⟩ := HSr.out
      injection he with e1 e2 e3
      subst e1
      subst e3
      obtain ⟨b, o, rfl, hcc⟩ : ∃ b o, Av = some ⟨b, o, none⟩ ∧ ∀ j, j < l.length * 1 → wr.cell? ⟨b, o + j, none⟩ = some (strF l j) := hc0.resolve_left (by omega)
      have HY := Lib.hid (show wr.cell? ⟨b, o + k, none⟩ = some (.string (l.getD k ByteArray.empty)) from hcc k (by omega))
      have HCX := Lib.hid (fun hz : z = 0 => HCK.out hz _ (getD_mem l k ByteArray.empty hlt))
      by_cases hi0 : k = 0
      · have hg0 : decide ((0 : Int) < (k : Int)) = false := decide_eq_false (by omega)
        have hg0n : decide (0 < k) = false := decide_eq_false (by omega)
        clear hcc e2 hc0 hi0
        generalize l.getD k ByteArray.empty = y at *
        by_cases hz0 : z = 0
        · have HCU := Lib.hid (HCX.out hz0)
          have hzb : (z == 0) = true := by simp [hz0]
          clear hz0 HCX
          go_wp2_with fail
          have HR8 := Lib.hid (HBr.out.below (Below.refl wr.heap.size wr).drew)
          have HB8 := Lib.hid ((Below.refl wr.heap.size wr).drew)
          refine wp_region_held_drew (S := fun W => W.cell? ⟨w.heap.size, 0, none⟩ = some cv ∧ W.cell? ⟨w.heap.size + 1, 0, none⟩ = some (.string r.name) ∧ W.cell? ⟨w.heap.size + 1, 1, none⟩ = some (.string r.kind) ∧ W.cell? ⟨w.heap.size + 1, 2, none⟩ = some (.int .i64 r.cond.op) ∧ W.cell? ⟨w.heap.size + 1, 3, none⟩ = some (.string r.cond.name) ∧ W.cell? ⟨w.heap.size + 1, 4, none⟩ = some (.string r.cond.value) ∧ W.cell? ⟨w.heap.size + 1, 5, none⟩ = some (.int .i64 r.cond.n) ∧ W.cell? ⟨w.heap.size + 1, 6, none⟩ = some (.int .i64 r.cond.extra) ∧ W.cell? ⟨w.heap.size + 1, 7, none⟩ = some (.slice A r.cond.kids.length cc) ∧ W.cell? ⟨b, o + k, none⟩ = some (.string y)) (by kernel_rfl) (⟨(HR8.out).c.cell 0, (HR8.out).r.cell 0, (HR8.out).r.cell 1, (HR8.out).r.cell 2, (HR8.out).r.cell 3, (HR8.out).r.cell 4, (HR8.out).r.cell 5, (HR8.out).r.cell 6, (HR8.out).r.cell 7, cell_later (HB8.out) HY.out⟩) (fun hHeld => ?_)
          refine plI [(0, false), (1, false)] ?_
          repeat ((first | ((with_reducible show Plan ((_, true) :: _) _); refine plF ?_) | (refine plR (v := ?_) ?_ ?_; rotate_left; focus (intro W hSW; (try dsimp only at hSW); go_simp; all_goals (with_reducible rfl)))); try simp only [Act.put, List.setIfInBounds_toArray, List.set_cons_zero, List.set_cons_succ])
          refine plE ?_
          refine wpAnyH_ready (rs := [2]) (by kernel_rfl) (by simp) ?_
          refine AllReadyH.cons (o := ⟨_, _, _, _, _, _⟩) rfl (fun K hK => ?_) AllReadyH.nil
          go_simp
          go_at_call 9; refine (tcheck_any _ (HB0.out.trans (HR8.out.b.mono HB0.out.size)) HCV.out HL.out HSH.out r (.slice A r.cond.kids.length cc) HCN.out HF.out HNM.out HKD.out HLY.out).mono ?_; rintro e u2 ⟨rfl, hb⟩; (rw [HZ.out]); have HR8_2 := Lib.hid (HR8.out.below hb); have HB8_2 := Lib.hid (HB8.out.trans (hb.mono HB8.out.size)); clear hb
          refine hK.out _ _ (⟨(HR8_2.out).c.cell 0, (HR8_2.out).r.cell 0, (HR8_2.out).r.cell 1, (HR8_2.out).r.cell 2, (HR8_2.out).r.cell 3, (HR8_2.out).r.cell 4, (HR8_2.out).r.cell 5, (HR8_2.out).r.cell 6, (HR8_2.out).r.cell 7, cell_later (HB8_2.out) HY.out⟩) (fun hHeld => ?_)
          clear hK K
          try simp only [Act.put, List.setIfInBounds_toArray, List.set_cons_zero, List.set_cons_succ]
          refine plI [(3, false), (4, false), (5, false), (6, false), (7, false), (8, false)] ?_
          repeat ((first | ((with_reducible show Plan ((_, true) :: _) _); refine plF ?_) | (refine plR (v := ?_) ?_ ?_; rotate_left; focus (intro W hSW; (try dsimp only at hSW); go_simp; all_goals (with_reducible rfl)))); try simp only [Act.put, List.setIfInBounds_toArray, List.set_cons_zero, List.set_cons_succ])
          refine plE ?_
          refine wpAnyH_ready (rs := [9]) (by kernel_rfl) (by simp) ?_
          refine AllReadyH.cons (o := ⟨_, _, _, _, _, _⟩) rfl (fun K hK => ?_) AllReadyH.nil
          go_simp
          go_at_call 20; refine (is_any y _).mono ?_; rintro e u9 ⟨rfl, hb⟩; (rw [HCU.out]); have HR8_9 := Lib.hid (HR8_2.out.below hb); have HB8_9 := Lib.hid (HB8_2.out.trans (hb.mono HB8_2.out.size)); clear hb
          refine hK.out _ _ (⟨(HR8_9.out).c.cell 0, (HR8_9.out).r.cell 0, (HR8_9.out).r.cell 1, (HR8_9.out).r.cell 2, (HR8_9.out).r.cell 3, (HR8_9.out).r.cell 4, (HR8_9.out).r.cell 5, (HR8_9.out).r.cell 6, (HR8_9.out).r.cell 7, cell_later (HB8_9.out) HY.out⟩) (fun hHeld => ?_)
          clear hK K
          try simp only [Act.put, List.setIfInBounds_toArray, List.set_cons_zero, List.set_cons_succ]
          refine plI [(10, false), (11, false), (12, false), (13, false), (14, false), (15, false), (16, true), (17, true), (18, true), (19, true), (20, true), (21, true), (22, true), (23, true), (24, true), (25, true), (26, false), (27, false)] ?_
          repeat ((first | ((with_reducible show Plan ((_, true) :: _) _); refine plF ?_) | (refine plR (v := ?_) ?_ ?_; rotate_left; focus (intro W hSW; (try dsimp only at hSW); go_simp; all_goals (with_reducible rfl)))); try simp only [Act.put, List.setIfInBounds_toArray, List.set_cons_zero, List.set_cons_succ])
          refine plE ?_
          refine wpAnyH_done (by kernel_rfl) ?_ _
          clear hHeld
          go_wp2_with fail
          go_roundw
          case rel => exact ⟨k + 1, by go_num, hlt, HR8_9, Lib.hid (HSr.out.below HB8_9.out)⟩
          case measure => simp [intOf]; omega
        · have hzb : (z == 0) = false := by simpa using hz0
          clear hz0 HCX
          go_wp2_with fail
          have HR8 := Lib.hid (HBr.out.below (Below.refl wr.heap.size wr).drew)
          have HB8 := Lib.hid ((Below.refl wr.heap.size wr).drew)
          refine wp_region_held_drew (S := fun W => W.cell? ⟨w.heap.size, 0, none⟩ = some cv ∧ W.cell? ⟨w.heap.size + 1, 0, none⟩ = some (.string r.name) ∧ W.cell? ⟨w.heap.size + 1, 1, none⟩ = some (.string r.kind) ∧ W.cell? ⟨w.heap.size + 1, 2, none⟩ = some (.int .i64 r.cond.op) ∧ W.cell? ⟨w.heap.size + 1, 3, none⟩ = some (.string r.cond.name) ∧ W.cell? ⟨w.heap.size + 1, 4, none⟩ = some (.string r.cond.value) ∧ W.cell? ⟨w.heap.size + 1, 5, none⟩ = some (.int .i64 r.cond.n) ∧ W.cell? ⟨w.heap.size + 1, 6, none⟩ = some (.int .i64 r.cond.extra) ∧ W.cell? ⟨w.heap.size + 1, 7, none⟩ = some (.slice A r.cond.kids.length cc) ∧ W.cell? ⟨b, o + k, none⟩ = some (.string y)) (by kernel_rfl) (⟨(HR8.out).c.cell 0, (HR8.out).r.cell 0, (HR8.out).r.cell 1, (HR8.out).r.cell 2, (HR8.out).r.cell 3, (HR8.out).r.cell 4, (HR8.out).r.cell 5, (HR8.out).r.cell 6, (HR8.out).r.cell 7, cell_later (HB8.out) HY.out⟩) (fun hHeld => ?_)
          refine plI [(0, false), (1, false)] ?_
          repeat ((first | ((with_reducible show Plan ((_, true) :: _) _); refine plF ?_) | (refine plR (v := ?_) ?_ ?_; rotate_left; focus (intro W hSW; (try dsimp only at hSW); go_simp; all_goals (with_reducible rfl)))); try simp only [Act.put, List.setIfInBounds_toArray, List.set_cons_zero, List.set_cons_succ])
          refine plE ?_
          refine wpAnyH_ready (rs := [2]) (by kernel_rfl) (by simp) ?_
          refine AllReadyH.cons (o := ⟨_, _, _, _, _, _⟩) rfl (fun K hK => ?_) AllReadyH.nil
          go_simp
          go_at_call 9; refine (tcheck_any _ (HB0.out.trans (HR8.out.b.mono HB0.out.size)) HCV.out HL.out HSH.out r (.slice A r.cond.kids.length cc) HCN.out HF.out HNM.out HKD.out HLY.out).mono ?_; rintro e u2 ⟨rfl, hb⟩; (rw [HZ.out]); have HR8_2 := Lib.hid (HR8.out.below hb); have HB8_2 := Lib.hid (HB8.out.trans (hb.mono HB8.out.size)); clear hb
          refine hK.out _ _ (⟨(HR8_2.out).c.cell 0, (HR8_2.out).r.cell 0, (HR8_2.out).r.cell 1, (HR8_2.out).r.cell 2, (HR8_2.out).r.cell 3, (HR8_2.out).r.cell 4, (HR8_2.out).r.cell 5, (HR8_2.out).r.cell 6, (HR8_2.out).r.cell 7, cell_later (HB8_2.out) HY.out⟩) (fun hHeld => ?_)
          clear hK K
          try simp only [Act.put, List.setIfInBounds_toArray, List.set_cons_zero, List.set_cons_succ]
          refine plI [(3, false), (4, false), (5, true), (6, true), (7, true), (8, true), (9, true), (10, true), (11, false), (12, false), (13, false), (14, false), (15, false), (16, true), (17, true), (18, true), (19, true), (20, true), (21, true), (22, true), (23, true), (24, true), (25, true), (26, false), (27, false)] ?_
          repeat ((first | ((with_reducible show Plan ((_, true) :: _) _); refine plF ?_) | (refine plR (v := ?_) ?_ ?_; rotate_left; focus (intro W hSW; (try dsimp only at hSW); go_simp; all_goals (with_reducible rfl)))); try simp only [Act.put, List.setIfInBounds_toArray, List.set_cons_zero, List.set_cons_succ])
          refine plE ?_
          refine wpAnyH_done (by kernel_rfl) ?_ _
          clear hHeld
          go_wp2_with fail
          go_roundw
          case rel => exact ⟨k + 1, by go_num, hlt, HR8_2, Lib.hid (HSr.out.below HB8_2.out)⟩
          case measure => simp [intOf]; omega
      · have hg0 : decide ((0 : Int) < (k : Int)) = true := decide_eq_true (by omega)
        have hg0n : decide (0 < k) = true := decide_eq_true (by omega)
        have HY0 := Lib.hid (show wr.cell? ⟨b, o + (k - 1), none⟩ = some (.string (l.getD (k - 1) ByteArray.empty)) from hcc (k - 1) (by omega))
        have hlt8 : Op.bytesLess (l.getD (k - 1) ByteArray.empty).toList (l.getD k ByteArray.empty).toList = true := inc_get HINC.out hi0 hlt
        have hk1 : IntKind.i64.wrap ((k : Int) - 1) = ((k - 1 : Nat) : Int) := by rw [IntWalk.i64_in _ (by have := HLL.out; omega)]; omega
        have hk2 : ((k - 1 : Nat) : Int) < (l.length : Int) := by omega
        clear hcc e2 hc0 hi0
        generalize l.getD k ByteArray.empty = y at *
        generalize l.getD (k - 1) ByteArray.empty = y0 at *
        by_cases hz0 : z = 0
        · have HCU := Lib.hid (HCX.out hz0)
          have hzb : (z == 0) = true := by simp [hz0]
          clear hz0 HCX
          go_wp2_with fail
          have HR8 := Lib.hid (HBr.out.below (Below.refl wr.heap.size wr).drew)
          have HB8 := Lib.hid ((Below.refl wr.heap.size wr).drew)
          refine wp_region_held_drew (S := fun W => W.cell? ⟨w.heap.size, 0, none⟩ = some cv ∧ W.cell? ⟨w.heap.size + 1, 0, none⟩ = some (.string r.name) ∧ W.cell? ⟨w.heap.size + 1, 1, none⟩ = some (.string r.kind) ∧ W.cell? ⟨w.heap.size + 1, 2, none⟩ = some (.int .i64 r.cond.op) ∧ W.cell? ⟨w.heap.size + 1, 3, none⟩ = some (.string r.cond.name) ∧ W.cell? ⟨w.heap.size + 1, 4, none⟩ = some (.string r.cond.value) ∧ W.cell? ⟨w.heap.size + 1, 5, none⟩ = some (.int .i64 r.cond.n) ∧ W.cell? ⟨w.heap.size + 1, 6, none⟩ = some (.int .i64 r.cond.extra) ∧ W.cell? ⟨w.heap.size + 1, 7, none⟩ = some (.slice A r.cond.kids.length cc) ∧ W.cell? ⟨b, o + k, none⟩ = some (.string y) ∧ W.cell? ⟨b, o + (k - 1), none⟩ = some (.string y0)) (by kernel_rfl) (⟨(HR8.out).c.cell 0, (HR8.out).r.cell 0, (HR8.out).r.cell 1, (HR8.out).r.cell 2, (HR8.out).r.cell 3, (HR8.out).r.cell 4, (HR8.out).r.cell 5, (HR8.out).r.cell 6, (HR8.out).r.cell 7, cell_later (HB8.out) HY.out, cell_later (HB8.out) HY0.out⟩) (fun hHeld => ?_)
          refine plI [(0, false), (1, false)] ?_
          repeat ((first | ((with_reducible show Plan ((_, true) :: _) _); refine plF ?_) | (refine plR (v := ?_) ?_ ?_; rotate_left; focus (intro W hSW; (try dsimp only at hSW); go_simp; all_goals (with_reducible rfl)))); try simp only [Act.put, List.setIfInBounds_toArray, List.set_cons_zero, List.set_cons_succ])
          refine plE ?_
          refine wpAnyH_ready (rs := [2]) (by kernel_rfl) (by simp) ?_
          refine AllReadyH.cons (o := ⟨_, _, _, _, _, _⟩) rfl (fun K hK => ?_) AllReadyH.nil
          go_simp
          go_at_call 9; refine (tcheck_any _ (HB0.out.trans (HR8.out.b.mono HB0.out.size)) HCV.out HL.out HSH.out r (.slice A r.cond.kids.length cc) HCN.out HF.out HNM.out HKD.out HLY.out).mono ?_; rintro e u2 ⟨rfl, hb⟩; (rw [HZ.out]); have HR8_2 := Lib.hid (HR8.out.below hb); have HB8_2 := Lib.hid (HB8.out.trans (hb.mono HB8.out.size)); clear hb
          refine hK.out _ _ (⟨(HR8_2.out).c.cell 0, (HR8_2.out).r.cell 0, (HR8_2.out).r.cell 1, (HR8_2.out).r.cell 2, (HR8_2.out).r.cell 3, (HR8_2.out).r.cell 4, (HR8_2.out).r.cell 5, (HR8_2.out).r.cell 6, (HR8_2.out).r.cell 7, cell_later (HB8_2.out) HY.out, cell_later (HB8_2.out) HY0.out⟩) (fun hHeld => ?_)
          clear hK K
          try simp only [Act.put, List.setIfInBounds_toArray, List.set_cons_zero, List.set_cons_succ]
          refine plI [(3, false), (4, false), (5, false), (6, false), (7, false), (8, false)] ?_
          repeat ((first | ((with_reducible show Plan ((_, true) :: _) _); refine plF ?_) | (refine plR (v := ?_) ?_ ?_; rotate_left; focus (intro W hSW; (try dsimp only at hSW); go_simp; all_goals (with_reducible rfl)))); try simp only [Act.put, List.setIfInBounds_toArray, List.set_cons_zero, List.set_cons_succ])
          refine plE ?_
          refine wpAnyH_ready (rs := [9]) (by kernel_rfl) (by simp) ?_
          refine AllReadyH.cons (o := ⟨_, _, _, _, _, _⟩) rfl (fun K hK => ?_) AllReadyH.nil
          go_simp
          go_at_call 20; refine (is_any y _).mono ?_; rintro e u9 ⟨rfl, hb⟩; (rw [HCU.out]); have HR8_9 := Lib.hid (HR8_2.out.below hb); have HB8_9 := Lib.hid (HB8_2.out.trans (hb.mono HB8_2.out.size)); clear hb
          refine hK.out _ _ (⟨(HR8_9.out).c.cell 0, (HR8_9.out).r.cell 0, (HR8_9.out).r.cell 1, (HR8_9.out).r.cell 2, (HR8_9.out).r.cell 3, (HR8_9.out).r.cell 4, (HR8_9.out).r.cell 5, (HR8_9.out).r.cell 6, (HR8_9.out).r.cell 7, cell_later (HB8_9.out) HY.out, cell_later (HB8_9.out) HY0.out⟩) (fun hHeld => ?_)
          clear hK K
          try simp only [Act.put, List.setIfInBounds_toArray, List.set_cons_zero, List.set_cons_succ]
          refine plI [(10, false), (11, false), (12, false), (13, false), (14, false), (15, false), (16, false), (17, false), (18, false), (19, false), (20, false), (21, false), (22, false), (23, false), (24, false), (25, false), (26, false), (27, false)] ?_
          repeat ((first | ((with_reducible show Plan ((_, true) :: _) _); refine plF ?_) | (refine plR (v := ?_) ?_ ?_; rotate_left; focus (intro W hSW; (try dsimp only at hSW); go_simp; all_goals (with_reducible rfl)))); try simp only [Act.put, List.setIfInBounds_toArray, List.set_cons_zero, List.set_cons_succ])
          refine plE ?_
          refine wpAnyH_done (by kernel_rfl) ?_ _
          clear hHeld
          go_wp2_with fail
          go_roundw
          case rel => exact ⟨k + 1, by go_num, hlt, HR8_9, Lib.hid (HSr.out.below HB8_9.out)⟩
          case measure => simp [intOf]; omega
        · have hzb : (z == 0) = false := by simpa using hz0
          clear hz0 HCX
          go_wp2_with fail
          have HR8 := Lib.hid (HBr.out.below (Below.refl wr.heap.size wr).drew)
          have HB8 := Lib.hid ((Below.refl wr.heap.size wr).drew)
          refine wp_region_held_drew (S := fun W => W.cell? ⟨w.heap.size, 0, none⟩ = some cv ∧ W.cell? ⟨w.heap.size + 1, 0, none⟩ = some (.string r.name) ∧ W.cell? ⟨w.heap.size + 1, 1, none⟩ = some (.string r.kind) ∧ W.cell? ⟨w.heap.size + 1, 2, none⟩ = some (.int .i64 r.cond.op) ∧ W.cell? ⟨w.heap.size + 1, 3, none⟩ = some (.string r.cond.name) ∧ W.cell? ⟨w.heap.size + 1, 4, none⟩ = some (.string r.cond.value) ∧ W.cell? ⟨w.heap.size + 1, 5, none⟩ = some (.int .i64 r.cond.n) ∧ W.cell? ⟨w.heap.size + 1, 6, none⟩ = some (.int .i64 r.cond.extra) ∧ W.cell? ⟨w.heap.size + 1, 7, none⟩ = some (.slice A r.cond.kids.length cc) ∧ W.cell? ⟨b, o + k, none⟩ = some (.string y) ∧ W.cell? ⟨b, o + (k - 1), none⟩ = some (.string y0)) (by kernel_rfl) (⟨(HR8.out).c.cell 0, (HR8.out).r.cell 0, (HR8.out).r.cell 1, (HR8.out).r.cell 2, (HR8.out).r.cell 3, (HR8.out).r.cell 4, (HR8.out).r.cell 5, (HR8.out).r.cell 6, (HR8.out).r.cell 7, cell_later (HB8.out) HY.out, cell_later (HB8.out) HY0.out⟩) (fun hHeld => ?_)
          refine plI [(0, false), (1, false)] ?_
          repeat ((first | ((with_reducible show Plan ((_, true) :: _) _); refine plF ?_) | (refine plR (v := ?_) ?_ ?_; rotate_left; focus (intro W hSW; (try dsimp only at hSW); go_simp; all_goals (with_reducible rfl)))); try simp only [Act.put, List.setIfInBounds_toArray, List.set_cons_zero, List.set_cons_succ])
          refine plE ?_
          refine wpAnyH_ready (rs := [2]) (by kernel_rfl) (by simp) ?_
          refine AllReadyH.cons (o := ⟨_, _, _, _, _, _⟩) rfl (fun K hK => ?_) AllReadyH.nil
          go_simp
          go_at_call 9; refine (tcheck_any _ (HB0.out.trans (HR8.out.b.mono HB0.out.size)) HCV.out HL.out HSH.out r (.slice A r.cond.kids.length cc) HCN.out HF.out HNM.out HKD.out HLY.out).mono ?_; rintro e u2 ⟨rfl, hb⟩; (rw [HZ.out]); have HR8_2 := Lib.hid (HR8.out.below hb); have HB8_2 := Lib.hid (HB8.out.trans (hb.mono HB8.out.size)); clear hb
          refine hK.out _ _ (⟨(HR8_2.out).c.cell 0, (HR8_2.out).r.cell 0, (HR8_2.out).r.cell 1, (HR8_2.out).r.cell 2, (HR8_2.out).r.cell 3, (HR8_2.out).r.cell 4, (HR8_2.out).r.cell 5, (HR8_2.out).r.cell 6, (HR8_2.out).r.cell 7, cell_later (HB8_2.out) HY.out, cell_later (HB8_2.out) HY0.out⟩) (fun hHeld => ?_)
          clear hK K
          try simp only [Act.put, List.setIfInBounds_toArray, List.set_cons_zero, List.set_cons_succ]
          refine plI [(3, false), (4, false), (5, true), (6, true), (7, true), (8, true), (9, true), (10, true), (11, false), (12, false), (13, false), (14, false), (15, false), (16, false), (17, false), (18, false), (19, false), (20, false), (21, false), (22, false), (23, false), (24, false), (25, false), (26, false), (27, false)] ?_
          repeat ((first | ((with_reducible show Plan ((_, true) :: _) _); refine plF ?_) | (refine plR (v := ?_) ?_ ?_; rotate_left; focus (intro W hSW; (try dsimp only at hSW); go_simp; all_goals (with_reducible rfl)))); try simp only [Act.put, List.setIfInBounds_toArray, List.set_cons_zero, List.set_cons_succ])
          refine plE ?_
          refine wpAnyH_done (by kernel_rfl) ?_ _
          clear hHeld
          go_wp2_with fail
          go_roundw
          case rel => exact ⟨k + 1, by go_num, hlt, HR8_2, Lib.hid (HSr.out.below HB8_2.out)⟩
          case measure => simp [intOf]; omega
    · have hki : ¬ (k : Int) < (l.length : Int) := by omega
      obtain rfl : k = l.length := by omega
      obtain ⟨dK, fK⟩ := HBr.out.c.facts; obtain ⟨dR, fR⟩ := HBr.out.r.facts
      have HRK := Lib.hid (valid_any (rkU r.cond) (.slice A r.cond.kids.length cc) wr HCN.out HF.out (show (1 : Nat) ≤ maxLen from (by decide)) (show (1 : Nat) ≤ maxLen from (by decide)) (HLY.out.later (HB0.out.trans (HBr.out.b.mono HB0.out.size))))
      go_wp2_with (go_at_call 11; refine HRK.out.mono ?_; rintro e w9 ⟨rfl, hb⟩; (rw [HRV.out]); have H9 := Lib.hid (HBr.out.below hb); have HS9 := Lib.hid (HSr.out.below hb); clear dK fK dR fR; clear hb; obtain ⟨dK, fK⟩ := H9.out.c.facts; obtain ⟨dR, fR⟩ := H9.out.r.facts)
      have HG := Lib.hid (show Q6 w cv #[.string r.name, .string r.kind, .int .i64 r.cond.op, .string r.cond.name, .string r.cond.value, .int .i64 r.cond.n, .int .i64 r.cond.extra, .slice A r.cond.kids.length cc] w9.heap.size (.slice Av l.length cw) l [] (w9.alloc (.map #[] 0)) from ⟨H9.out.below ((Below.refl _ _).alloc (Nat.le_refl _) _), Mp.new w9 Value.string, HS9.out.below ((Below.refl _ _).alloc (Nat.le_refl _) _), H9.out.b.size⟩)
      clear dK fK dR fR HBr HSr H9 HS9 HRK HRV
      generalize (w9.alloc (.map #[] 0)) = w10 at *
      generalize w9.heap.size = g at *
      go_loopw [9, 11] (fun al i wr => ∃ (k : Nat) (m : List (ByteArray × Value)), i = .int .i64 k ∧ k ≤ r.cond.kids.length ∧ al = .int .i64 m.length ∧ Hid (Q6 w cv #[.string r.name, .string r.kind, .int .i64 r.cond.op, .string r.cond.name, .string r.cond.value, .int .i64 r.cond.n, .int .i64 r.cond.extra, .slice A r.cond.kids.length cc] g (.slice Av l.length cw) l m wr) ∧ Hid (Seen m (limsL (r.cond.kids.take k)))) (fun _ i _ => r.cond.kids.length - (intOf i).toNat)
      case atStart => exact ⟨0, [], rfl, Nat.zero_le _, rfl, HG, Lib.hid ⟨List.nodup_nil, fun x => by rw [List.take_zero, limsL_nil]; exact Iff.rfl, fun p hp => (by cases hp)⟩⟩
      case round =>
        obtain ⟨k, m, rfl, hk, rfl, HQ, HSe⟩ := hrel
        clear HG
        by_cases hlt : k < r.cond.kids.length
        · have hki : (k : Int) < (r.cond.kids.length : Int) := by omega
          have hs3 : IntKind.i64.wrap ((k : Int) + 1) = (k : Int) + 1 := IntWalk.i64_in _ (by have := HLN.out; omega)
          have HLB := Lib.hid (show (limsL (r.cond.kids.take k)).length ≤ 80 by
            have h1 := lim_lenL (r.cond.kids.take k)
            have h2 := cnts_app (r.cond.kids.take k) (r.cond.kids.drop k)
            rw [List.take_append_drop] at h2
            have h3 := cnt_eq r.cond
            have h4 := HC80.out
            omega)
          have HB0q := Lib.hid (HB0.out.trans (HQ.out.bx.b.mono HB0.out.size))
          obtain ⟨_, _, hkid⟩ := LayS.kid HLY.out
          obtain ⟨kb, ko, kv2, rfl, hcell, hkk⟩ := hkid k hlt
          have hb0 := HB0q.out
          have hc0 := cell_later hb0 (hcell 0 (by decide))
          have hc1 := cell_later hb0 (hcell 1 (by decide))
          have hc2 := cell_later hb0 (hcell 2 (by decide))
          have hc3 := cell_later hb0 (hcell 3 (by decide))
          have hc4 := cell_later hb0 (hcell 4 (by decide))
          have hc5 := cell_later hb0 (hcell 5 (by decide))
          simp only [exF, if_true, if_false, Nat.reduceEqDiff, Nat.add_one_ne_zero, ← Nat.add_assoc, Nat.add_zero] at hc0 hc1 hc2 hc3 hc4 hc5
          have HKC := Lib.hid (curr_any r.cond.kids[k] kv2 wr (by have h1 := cnt_kid (List.getElem_mem hlt); have h2 := HCN.out; omega) (HF.out.kid _ (List.getElem_mem hlt)) (hkk.later hb0))
          have HCE := Lib.hid (HKV.out _ (List.getElem_mem hlt))
          have HNX := Lib.hid (show limsL (r.cond.kids.take (k + 1)) = limsL (r.cond.kids.take k) ++ limL r.cond.kids[k] by rw [List.take_add_one, List.getElem?_eq_getElem hlt, Option.toList_some, limsL_app, limsL_cons, limsL_nil, List.append_nil])
          have HL2M := Lib.hid (fun x => (show x ∈ curU r.cond.kids[k] ↔ x ∈ limL r.cond.kids[k] by rw [HCE.out.1]; exact mem_sortD))
          have HL2 := Lib.hid (show (curU r.cond.kids[k]).length ≤ 80 from Nat.le_trans (cur_len _) (by have h1 := cnt_kid (List.getElem_mem hlt); have h2 := HC80.out; omega))
          have HIN := Lib.hid (fun (y : ByteArray) (hy : y ∈ curU r.cond.kids[k]) => (show inS l y = true from (inS_iff _ _).2 (HCE.out.2 y (cur_mem hy))))
          obtain ⟨Ak, ck, rfl, _⟩ := hkk.slice
          clear hkid hcell hkk hb0 HCE
          obtain ⟨dK, fK⟩ := HQ.out.bx.c.facts
          obtain ⟨dR, fR⟩ := HQ.out.bx.r.facts
          generalize curU r.cond.kids[k] = l2 at *
          generalize r.cond.kids[k] = ek at *
          go_wp2_with (go_at_call 18; refine HKC.out.mono ?_; clear dK fK dR fR; rintro e w5 ⟨v2, rfl, hrow, hb⟩; have HQ5 := Lib.hid (HQ.out.below hb); have HS5 := Lib.hid (own_strs hrow); obtain ⟨A2, c2, rfl⟩ := own_val hrow; clear hrow hb)
          clear hc0 hc1 hc2 hc3 hc4 hc5 HKC HQ
          go_loopw [9, 13] (fun al j wr => ∃ (q : Nat) (m3 : List (ByteArray × Value)), j = .int .i64 q ∧ q ≤ l2.length ∧ al = .int .i64 m3.length ∧ Hid (Q6 w cv #[.string r.name, .string r.kind, .int .i64 r.cond.op, .string r.cond.name, .string r.cond.value, .int .i64 r.cond.n, .int .i64 r.cond.extra, .slice (some ⟨kb, ko, none⟩) r.cond.kids.length cc] g (.slice Av l.length cw) l m3 wr) ∧ Hid (Seen m3 (limsL (r.cond.kids.take k) ++ l2.take q)) ∧ Hid (Sl wr (.slice A2 l2.length c2) l2.length 1 (strF l2))) (fun _ j _ => l2.length - (intOf j).toNat)
          case atStart => exact ⟨0, m, rfl, Nat.zero_le _, rfl, HQ5, Lib.hid (by rw [List.take_zero, List.append_nil]; exact HSe.out), HS5⟩
          case round =>
            obtain ⟨q, m3, rfl, hq, rfl, HQq, HSq, HS2⟩ := hrel
            clear HQ5 HS5 HSe
            have HM3 := Lib.hid (show m3.length ≤ 200 by have h1 := HSq.out.len; have h2 := HLB.out; rw [List.length_append] at h1; have h3 : (l2.take q).length = min q l2.length := List.length_take; have h4 := HL2.out; omega)
            by_cases hlt2 : q < l2.length
            · have hqi : (q : Int) < (l2.length : Int) := by omega
              have hs4 : IntKind.i64.wrap ((q : Int) + 1) = (q : Int) + 1 := IntWalk.i64_in _ (by have := HL2.out; omega)
              have hs5 : IntKind.i64.wrap ((m3.length : Int) + 1) = (m3.length : Int) + 1 := IntWalk.i64_in _ (by have := HM3.out; omega)
              have HMEM := Lib.hid (HIN.out _ (getD_mem l2 q ByteArray.empty hlt2))
              have HTK := Lib.hid (take_getD l2 q ByteArray.empty hlt2)
              obtain ⟨_, _, he, _, hc0⟩ := HS2.out
              injection he with e1 e2 e3
              subst e1
              subst e3
              obtain ⟨b, o, rfl, hcc⟩ : ∃ b o, A2 = some ⟨b, o, none⟩ ∧ ∀ j, j < l2.length * 1 → wr.cell? ⟨b, o + j, none⟩ = some (strF l2 j) := hc0.resolve_left (by omega)
              have hce : wr.cell? ⟨b, o + q, none⟩ = some (.string (l2.getD q ByteArray.empty)) := hcc q (by omega)
              clear hcc e2 hc0
              generalize l2.getD q ByteArray.empty = y at *
              have hLk := run_look str_keying Tryz.underlying49 HQq.out.mp y (zero_boolV wr) false
              rw [mget_key HSq.out.tr] at hLk
              obtain ⟨w6, hp6, hM6, hG6, hS6⟩ := run_put str_keying Tryz.underlying49 HQq.out.mp y (.bool true)
              have HQ6 := Lib.hid (HQq.out.put hM6 hG6)
              have HS6 := Lib.hid (HS2.out.kpo (HQq.out.mp.kpo hG6))
              have HSE := Lib.hid (show Seen (mput m3 y (.bool true)) (limsL (r.cond.kids.take k) ++ l2.take (q + 1)) by rw [HTK.out, ← List.append_assoc]; exact HSq.out.put y)
              have HI := Lib.hid (in21_any (.slice Av l.length cw) l y wr HQq.out.sl (by have := HLL.out; omega))
              clear hM6 hG6 hS6
              obtain ⟨fa, fb⟩ : True ∧ True := ⟨trivial, trivial⟩
              cases hiy : inS (keysL m3) y with
              | true =>
                rw [hiy] at hLk
                have HPL := Lib.hid (congrArg List.length (mput_old HSq.out.tr hiy))
                clear hiy
                generalize mput m3 y (.bool true) = m4 at *
                go_wp2_with (go_at_call 15; refine HI.out.mono ?_; (rw [HMEM.out]); rintro e w7 ⟨rfl, rfl⟩)
                go_roundw
                case rel => exact ⟨q + 1, m4, by go_num, hlt2, by rw [HPL.out], HQ6, HSE, HS6⟩
                case measure => simp [intOf]; omega
              | false =>
                rw [hiy] at hLk
                have HPL := Lib.hid (show (mput m3 y (.bool true)).length = m3.length + 1 by rw [mput_new hiy, List.length_append]; rfl)
                clear hiy
                generalize mput m3 y (.bool true) = m4 at *
                go_wp2_with (go_at_call 15; refine HI.out.mono ?_; (rw [HMEM.out]); rintro e w7 ⟨rfl, rfl⟩)
                go_roundw
                case rel => exact ⟨q + 1, m4, by go_num, hlt2, by rw [HPL.out]; rfl, HQ6, HSE, HS6⟩
                case measure => simp [intOf]; omega
            · have hqi : ¬ (q : Int) < (l2.length : Int) := by omega
              obtain rfl : q = l2.length := by omega
              rw [List.take_length] at HSq
              have HSE := Lib.hid (show Seen m3 (limsL (r.cond.kids.take (k + 1))) from ⟨HSq.out.nd, fun x => by rw [HSq.out.ks x, HNX.out, List.mem_append, List.mem_append, HL2M.out x], HSq.out.tr⟩)
              go_wp2_with fail
              go_roundw
              case rel => exact ⟨k + 1, m3, by go_num, hlt, rfl, HQq, HSE⟩
              case measure => simp [intOf]; omega
        · have hki : ¬ (k : Int) < (r.cond.kids.length : Int) := by omega
          obtain rfl : k = r.cond.kids.length := by omega
          rw [List.take_length] at HSe
          have hall : ((m.length : Int) == (l.length : Int)) = true := by
            have h1 := HSe.out.all
            rw [HLS.out, ← h1]
            simp
          obtain ⟨dK, fK⟩ := HQ.out.bx.c.facts
          obtain ⟨dR, fR⟩ := HQ.out.bx.r.facts
          go_wp2_with fail
          go_ret
          exact ⟨rfl, HQ.out.bx.b⟩
theorem currs21_any (w0 : World) (hv : Evs w0) (cv : Value) (c : List Kd) (r : Ru) (kv : Value) (w : World) (hb0 : Below w0.heap.size w0 w) (hcv : Cat w0 cv c) (hlay : Lay w0 kv r.cond.kids) (hf : FitE r.cond) (hnm : r.name.size ≤ maxLen) (hkd : r.kind.size ≤ maxLen) : Calls Tryz.prog 6 #[.agg #[cv], .agg (ruA r kv)] w fun e w' => e = .returned (.bool true) ∧ Below w.heap.size w w' := by
  obtain ⟨A, cc, rfl, _⟩ := hlay.slice
  cases hfew : (fewCa c && fewU r) with
  | false => exact tc_few w0 hv cv c r A cc w hb0 hcv hlay hfew
  | true =>
    cases hr : ruleB (rkU r.cond) with
    | false => exact tc_bad w0 hv cv c r A cc w hb0 hcv hlay hf hnm hkd hfew hr
    | true =>
      by_cases hk : r.cond.kids = []
      · by_cases h5 : r.cond.op = 5
        · exact tc_own5 w0 hv cv c r A cc w hb0 hcv hlay hf hnm hkd hfew hr hk h5
        · by_cases h6 : r.cond.op = 6
          · exact tc_own6 w0 hv cv c r A cc w hb0 hcv hlay hf hnm hkd hfew hr hk h6
          · exact tc_none w0 hv cv c r A cc w hb0 hcv hlay hf hnm hkd hfew hr hk (fun h => h.elim h5 h6)
      · exact tc_kids w0 hv cv c r A cc w hb0 hcv hlay hf hnm hkd hfew hr hk
end Go.Proofs.YtcpakaiblelmlaaGreatDoor
