/- TypingCurrencies: all currencies of a condition are known, and are those of its kids. Condition: the arguments lie in memory; the error variables of strconv hold something. -/
import Derived.BigQuiet
import Derived.Deep.QuietTactic
import Derived.Deep.RegionHeld3
import Derived.Test.YtcpakaiblelmlaaGreatDoorU01
import Derived.Test.YtcpakaiblelmlaaGreatDoorU02
import Derived.Test.YtcpakaiblelmlaaGreatDoorU20
namespace Go.Proofs.YtcpakaiblelmlaaGreatDoor
open Go Go.RowKit
theorem cur_mem {e : Ex} {x : ByteArray} (h : x ∈ curU e) : x ∈ limL e := by
  unfold curU at h
  split at h
  · exact mem_sortD.1 h
  · cases h
theorem cur_inc (e : Ex) : Inc (curU e) := by
  unfold curU
  split
  · exact sortD_inc _
  · exact List.Pairwise.nil
theorem cur_len (e : Ex) : (curU e).length ≤ cnt e := by
  unfold curU
  split
  · rw [sortD_len]
    obtain ⟨h1, h2⟩ := nubL_all (limL e)
    exact Nat.le_trans (nodup_len h1 fun x hx => (h2 x).1 hx) (lim_lenE e)
  · exact Nat.zero_le _
set_option maxRecDepth 100000 in
set_option maxHeartbeats 8000000 in
theorem tc_few (w0 : World) (hv : Evs w0) (cv : Value) (c : List Kd) (r : Ru) (A : Option Addr) (cc : Nat) (w : World) (hb0 : Below w0.heap.size w0 w) (hcv : Cat w0 cv c) (hlay : Lay w0 (.slice A r.cond.kids.length cc) r.cond.kids) (hfew : (fewCa c && fewU r) = false) : Calls Tryz.prog 6 #[.agg #[cv], .agg #[.string r.name, .string r.kind, .int .i64 r.cond.op, .string r.cond.name, .string r.cond.value, .int .i64 r.cond.n, .int .i64 r.cond.extra, .slice A r.cond.kids.length cc]] w fun e w' => e = .returned (.bool true) ∧ Below w.heap.size w w' := by
  have H0 := Lib.hid (B2.start w cv #[.string r.name, .string r.kind, .int .i64 r.cond.op, .string r.cond.name, .string r.cond.value, .int .i64 r.cond.n, .int .i64 r.cond.extra, .slice A r.cond.kids.length cc])
  have HB0 := Lib.hid hb0
  have HCV := Lib.hid hcv
  have HLY := Lib.hid hlay
  have HV := Lib.hid hv
  clear hb0 hcv hlay hv
  have HFW := Lib.hid hfew
  clear hfew
  obtain ⟨dK, fK⟩ := H0.out.c.facts
  obtain ⟨dR, fR⟩ := H0.out.r.facts
  go_enter Tryz.func6, Tryz.ntmps6
  go_wp2_with (first | (go_at_call 7; refine (head21_any w0 _ HV.out (HB0.out.trans (H0.out.b.mono HB0.out.size))).mono ?_; rintro e w1 ⟨rfl, hb⟩; have H1 := Lib.hid (H0.out.below hb); clear dK fK dR fR; clear hb; obtain ⟨dK, fK⟩ := H1.out.c.facts; obtain ⟨dR, fR⟩ := H1.out.r.facts) | (go_at_call 8; refine (few21_any w0 cv c r (.slice A r.cond.kids.length cc) _ (HB0.out.trans (H1.out.b.mono HB0.out.size)) HCV.out HLY.out).mono ?_; rintro e w2 ⟨rfl, hb⟩; (rw [HFW.out]); have H2 := Lib.hid (H1.out.below hb); clear dK fK dR fR; clear hb; obtain ⟨dK, fK⟩ := H2.out.c.facts; obtain ⟨dR, fR⟩ := H2.out.r.facts))
  go_ret
  exact ⟨rfl, H2.out.b⟩
set_option maxRecDepth 100000 in
set_option maxHeartbeats 8000000 in
theorem tc_bad (w0 : World) (hv : Evs w0) (cv : Value) (c : List Kd) (r : Ru) (A : Option Addr) (cc : Nat) (w : World) (hb0 : Below w0.heap.size w0 w) (hcv : Cat w0 cv c) (hlay : Lay w0 (.slice A r.cond.kids.length cc) r.cond.kids) (hf : FitE r.cond) (hnm : r.name.size ≤ maxLen) (hkd : r.kind.size ≤ maxLen) (hfew : (fewCa c && fewU r) = true) (hr : ruleB (rkU r.cond) = false) : Calls Tryz.prog 6 #[.agg #[cv], .agg #[.string r.name, .string r.kind, .int .i64 r.cond.op, .string r.cond.name, .string r.cond.value, .int .i64 r.cond.n, .int .i64 r.cond.extra, .slice A r.cond.kids.length cc]] w fun e w' => e = .returned (.bool true) ∧ Below w.heap.size w w' := by
  have HCK := Lib.hid (fun (hz : checkU c r = 0) (x : ByteArray) (hx : x ∈ curU r.cond) => (show curB x = true from check_cur hz (cur_mem hx)))
  have HINC := Lib.hid (cur_inc r.cond)
  have HRV := Lib.hid hr
  have HLZ := Lib.hid (show curU r.cond = [] by unfold curU; exact if_neg (fun h => Bool.noConfusion (hr.symm.trans h)))
  clear hr
  have H0 := Lib.hid (B2.start w cv #[.string r.name, .string r.kind, .int .i64 r.cond.op, .string r.cond.name, .string r.cond.value, .int .i64 r.cond.n, .int .i64 r.cond.extra, .slice A r.cond.kids.length cc])
  have HB0 := Lib.hid hb0
  have HCV := Lib.hid hcv
  have HLY := Lib.hid hlay
  have HV := Lib.hid hv
  clear hb0 hcv hlay hv
  have hlay := HLY.out
  have HFW := Lib.hid hfew
  have hfew2 := hfew
  rw [Bool.and_eq_true] at hfew2
  have HL := Lib.hid (show c.length ≤ 100000 by have := (fewCa_short hfew2.1).1; omega)
  have HSH := Lib.hid (fewCa_short hfew2.1).2
  have HCN := Lib.hid (show cnt r.cond ≤ 1000000 by have := fewU_cnt hfew2.2; omega)
  have HC80 := Lib.hid (fewU_cnt hfew2.2)
  have HF := Lib.hid hf
  have HNM := Lib.hid hnm
  have HKD := Lib.hid hkd
  clear hfew hfew2 hf hnm hkd
  have HLL := Lib.hid (show (curU r.cond).length ≤ 80 from Nat.le_trans (cur_len r.cond) HC80.out)
  have HCU1 := Lib.hid (fun W (hb : Below w0.heap.size w0 W) => curr_any r.cond (.slice A r.cond.kids.length cc) W HCN.out HF.out (HLY.out.later hb))
  obtain ⟨z, hz⟩ : ∃ z, checkU c r = z := ⟨_, rfl⟩
  rw [hz] at HCK
  have HZ := Lib.hid hz
  clear hz hlay
  generalize hl : curU r.cond = l at *
  have HLE := Lib.hid hl
  clear hl
  obtain ⟨dK, fK⟩ := H0.out.c.facts
  obtain ⟨dR, fR⟩ := H0.out.r.facts
  go_enter Tryz.func6, Tryz.ntmps6
  go_wp2_with (first | (go_at_call 7; refine (head21_any w0 _ HV.out (HB0.out.trans (H0.out.b.mono HB0.out.size))).mono ?_; rintro e w1 ⟨rfl, hb⟩; have H1 := Lib.hid (H0.out.below hb); clear dK fK dR fR; clear hb; obtain ⟨dK, fK⟩ := H1.out.c.facts; obtain ⟨dR, fR⟩ := H1.out.r.facts) | (go_at_call 8; refine (few21_any w0 cv c r (.slice A r.cond.kids.length cc) _ (HB0.out.trans (H1.out.b.mono HB0.out.size)) HCV.out HLY.out).mono ?_; rintro e w2 ⟨rfl, hb⟩; (rw [HFW.out]); have H2 := Lib.hid (H1.out.below hb); clear dK fK dR fR; clear hb; obtain ⟨dK, fK⟩ := H2.out.c.facts; obtain ⟨dR, fR⟩ := H2.out.r.facts) | (go_at_call 18; refine (HCU1.out _ (HB0.out.trans (H2.out.b.mono HB0.out.size))).mono ?_; rintro e w3 ⟨v, rfl, hrow, hb⟩; have H3 := Lib.hid (H2.out.below hb); have HS3 := Lib.hid (own_strs hrow); obtain ⟨Av, cw, rfl⟩ := own_val hrow; clear dK fK dR fR; clear hrow hb))
  go_loopw [7] (fun i wr => ∃ k : Nat, i = .int .i64 k ∧ k ≤ l.length ∧ Hid (B2 w cv #[.string r.name, .string r.kind, .int .i64 r.cond.op, .string r.cond.name, .string r.cond.value, .int .i64 r.cond.n, .int .i64 r.cond.extra, .slice A r.cond.kids.length cc] wr) ∧ Hid (Sl wr (.slice Av l.length cw) l.length 1 (strF l))) (fun i _ => l.length - (intOf i).toNat)
  case atStart => exact ⟨0, rfl, Nat.zero_le _, H3, HS3⟩
  case round =>
    obtain ⟨k, rfl, hk, HBr, HSr⟩ := hrel
    clear H0 H1 H2 H3 HS3
    by_cases hlt : k < l.length
    · have hki : (k : Int) < (l.length : Int) := by omega
      have hs3 : IntKind.i64.wrap ((k : Int) + 1) = (k : Int) + 1 := IntWalk.i64_in _ (by have := HLL.out; omega)
      obtain ⟨_, _, he, _, hc0⟩ := HSr.out
      injection he with e1 e2 e3
      subst e1
      subst e3
      obtain ⟨b, o, rfl, hcc⟩ : ∃ b o, Av = some ⟨b, o, none⟩ ∧ ∀ j, j < l.length * 1 → wr.cell? ⟨b, o + j, none⟩ = some (strF l j) := hc0.resolve_left (by omega)
      have HY := Lib.hid (show wr.cell? ⟨b, o + k, none⟩ = some (.string (l.getD k ByteArray.empty)) from hcc k (by omega))
      have HCX := Lib.hid (fun hz : z = 0 => HCK.out hz _ (getD_mem l k ByteArray.empty hlt))
      by_cases hi0 : k = 0
      · have hg0 : decide ((0 : Int) < (k : Int)) = false := decide_eq_false (by omega)
        have hg0n : decide (0 < k) = false := decide_eq_false (by omega)
        clear hcc e2 hc0 hi0
        generalize l.getD k ByteArray.empty = y at *
        by_cases hz0 : z = 0
        · have HCU := Lib.hid (HCX.out hz0)
          have hzb : (z == 0) = true := by simp [hz0]
          clear hz0 HCX
          go_wp2_with fail
          have HR8 := Lib.hid (HBr.out.below (Below.refl wr.heap.size wr).drew)
          have HB8 := Lib.hid ((Below.refl wr.heap.size wr).drew)
          refine wp_region_held_drew (S := fun W => W.cell? ⟨w.heap.size, 0, none⟩ = some cv ∧ W.cell? ⟨w.heap.size + 1, 0, none⟩ = some (.string r.name) ∧ W.cell? ⟨w.heap.size + 1, 1, none⟩ = some (.string r.kind) ∧ W.cell? ⟨w.heap.size + 1, 2, none⟩ = some (.int .i64 r.cond.op) ∧ W.cell? ⟨w.heap.size + 1, 3, none⟩ = some (.string r.cond.name) ∧ W.cell? ⟨w.heap.size + 1, 4, none⟩ = some (.string r.cond.value) ∧ W.cell? ⟨w.heap.size + 1, 5, none⟩ = some (.int .i64 r.cond.n) ∧ W.cell? ⟨w.heap.size + 1, 6, none⟩ = some (.int .i64 r.cond.extra) ∧ W.cell? ⟨w.heap.size + 1, 7, none⟩ = some (.slice A r.cond.kids.length cc) ∧ W.cell? ⟨b, o + k, none⟩ = some (.string y)) (by kernel_rfl) (⟨(HR8.out).c.cell 0, (HR8.out).r.cell 0, (HR8.out).r.cell 1, (HR8.out).r.cell 2, (HR8.out).r.cell 3, (HR8.out).r.cell 4, (HR8.out).r.cell 5, (HR8.out).r.cell 6, (HR8.out).r.cell 7, cell_later (HB8.out) HY.out⟩) (fun hHeld => ?_)
          refine plI [(0, false), (1, false)] ?_
          repeat ((first | ((with_reducible show Plan ((_, true) :: _) _); refine plF ?_) | (refine plR (v := ?_) ?_ ?_; rotate_left; focus (intro W hSW; (try dsimp only at hSW); go_simp; all_goals (with_reducible rfl)))); try simp only [Act.put, List.setIfInBounds_toArray, List.set_cons_zero, List.set_cons_succ])
          refine plE ?_
          refine wpAnyH_ready (rs := [2]) (by kernel_rfl) (by simp) ?_
          refine AllReadyH.cons (o := ⟨_, _, _, _, _, _⟩) rfl (fun K hK => ?_) AllReadyH.nil
          go_simp
          go_at_call 9; refine (tcheck_any _ (HB0.out.trans (HR8.out.b.mono HB0.out.size)) HCV.out HL.out HSH.out r (.slice A r.cond.kids.length cc) HCN.out HF.out HNM.out HKD.out HLY.out).mono ?_; rintro e u2 ⟨rfl, hb⟩; (rw [HZ.out]); have HR8_2 := Lib.hid (HR8.out.below hb); have HB8_2 := Lib.hid (HB8.out.trans (hb.mono HB8.out.size)); clear hb
          refine hK.out _ _ (⟨(HR8_2.out).c.cell 0, (HR8_2.out).r.cell 0, (HR8_2.out).r.cell 1, (HR8_2.out).r.cell 2, (HR8_2.out).r.cell 3, (HR8_2.out).r.cell 4, (HR8_2.out).r.cell 5, (HR8_2.out).r.cell 6, (HR8_2.out).r.cell 7, cell_later (HB8_2.out) HY.out⟩) (fun hHeld => ?_)
          clear hK K
          try simp only [Act.put, List.setIfInBounds_toArray, List.set_cons_zero, List.set_cons_succ]
          refine plI [(3, false), (4, false), (5, false), (6, false), (7, false), (8, false)] ?_
          repeat ((first | ((with_reducible show Plan ((_, true) :: _) _); refine plF ?_) | (refine plR (v := ?_) ?_ ?_; rotate_left; focus (intro W hSW; (try dsimp only at hSW); go_simp; all_goals (with_reducible rfl)))); try simp only [Act.put, List.setIfInBounds_toArray, List.set_cons_zero, List.set_cons_succ])
          refine plE ?_
          refine wpAnyH_ready (rs := [9]) (by kernel_rfl) (by simp) ?_
          refine AllReadyH.cons (o := ⟨_, _, _, _, _, _⟩) rfl (fun K hK => ?_) AllReadyH.nil
          go_simp
          go_at_call 20; refine (is_any y _).mono ?_; rintro e u9 ⟨rfl, hb⟩; (rw [HCU.out]); have HR8_9 := Lib.hid (HR8_2.out.below hb); have HB8_9 := Lib.hid (HB8_2.out.trans (hb.mono HB8_2.out.size)); clear hb
          refine hK.out _ _ (⟨(HR8_9.out).c.cell 0, (HR8_9.out).r.cell 0, (HR8_9.out).r.cell 1, (HR8_9.out).r.cell 2, (HR8_9.out).r.cell 3, (HR8_9.out).r.cell 4, (HR8_9.out).r.cell 5, (HR8_9.out).r.cell 6, (HR8_9.out).r.cell 7, cell_later (HB8_9.out) HY.out⟩) (fun hHeld => ?_)
          clear hK K
          try simp only [Act.put, List.setIfInBounds_toArray, List.set_cons_zero, List.set_cons_succ]
          refine plI [(10, false), (11, false), (12, false), (13, false), (14, false), (15, false), (16, true), (17, true), (18, true), (19, true), (20, true), (21, true), (22, true), (23, true), (24, true), (25, true), (26, false), (27, false)] ?_
          repeat ((first | ((with_reducible show Plan ((_, true) :: _) _); refine plF ?_) | (refine plR (v := ?_) ?_ ?_; rotate_left; focus (intro W hSW; (try dsimp only at hSW); go_simp; all_goals (with_reducible rfl)))); try simp only [Act.put, List.setIfInBounds_toArray, List.set_cons_zero, List.set_cons_succ])
          refine plE ?_
          refine wpAnyH_done (by kernel_rfl) ?_ _
          clear hHeld
          go_wp2_with fail
          go_roundw
          case rel => exact ⟨k + 1, by go_num, hlt, HR8_9, Lib.hid (HSr.out.below HB8_9.out)⟩
          case measure => simp [intOf]; omega
        · have hzb : (z == 0) = false := by simpa using hz0
          clear hz0 HCX
          go_wp2_with fail
          have HR8 := Lib.hid (HBr.out.below (Below.refl wr.heap.size wr).drew)
          have HB8 := Lib.hid ((Below.refl wr.heap.size wr).drew)
          refine wp_region_held_drew (S := fun W => W.cell? ⟨w.heap.size, 0, none⟩ = some cv ∧ W.cell? ⟨w.heap.size + 1, 0, none⟩ = some (.string r.name) ∧ W.cell? ⟨w.heap.size + 1, 1, none⟩ = some (.string r.kind) ∧ W.cell? ⟨w.heap.size + 1, 2, none⟩ = some (.int .i64 r.cond.op) ∧ W.cell? ⟨w.heap.size + 1, 3, none⟩ = some (.string r.cond.name) ∧ W.cell? ⟨w.heap.size + 1, 4, none⟩ = some (.string r.cond.value) ∧ W.cell? ⟨w.heap.size + 1, 5, none⟩ = some (.int .i64 r.cond.n) ∧ W.cell? ⟨w.heap.size + 1, 6, none⟩ = some (.int .i64 r.cond.extra) ∧ W.cell? ⟨w.heap.size + 1, 7, none⟩ = some (.slice A r.cond.kids.length cc) ∧ W.cell? ⟨b, o + k, none⟩ = some (.string y)) (by kernel_rfl) (⟨(HR8.out).c.cell 0, (HR8.out).r.cell 0, (HR8.out).r.cell 1, (HR8.out).r.cell 2, (HR8.out).r.cell 3, (HR8.out).r.cell 4, (HR8.out).r.cell 5, (HR8.out).r.cell 6, (HR8.out).r.cell 7, cell_later (HB8.out) HY.out⟩) (fun hHeld => ?_)
          refine plI [(0, false), (1, false)] ?_
          repeat ((first | ((with_reducible show Plan ((_, true) :: _) _); refine plF ?_) | (refine plR (v := ?_) ?_ ?_; rotate_left; focus (intro W hSW; (try dsimp only at hSW); go_simp; all_goals (with_reducible rfl)))); try simp only [Act.put, List.setIfInBounds_toArray, List.set_cons_zero, List.set_cons_succ])
          refine plE ?_
          refine wpAnyH_ready (rs := [2]) (by kernel_rfl) (by simp) ?_
          refine AllReadyH.cons (o := ⟨_, _, _, _, _, _⟩) rfl (fun K hK => ?_) AllReadyH.nil
          go_simp
          go_at_call 9; refine (tcheck_any _ (HB0.out.trans (HR8.out.b.mono HB0.out.size)) HCV.out HL.out HSH.out r (.slice A r.cond.kids.length cc) HCN.out HF.out HNM.out HKD.out HLY.out).mono ?_; rintro e u2 ⟨rfl, hb⟩; (rw [HZ.out]); have HR8_2 := Lib.hid (HR8.out.below hb); have HB8_2 := Lib.hid (HB8.out.trans (hb.mono HB8.out.size)); clear hb
          refine hK.out _ _ (⟨(HR8_2.out).c.cell 0, (HR8_2.out).r.cell 0, (HR8_2.out).r.cell 1, (HR8_2.out).r.cell 2, (HR8_2.out).r.cell 3, (HR8_2.out).r.cell 4, (HR8_2.out).r.cell 5, (HR8_2.out).r.cell 6, (HR8_2.out).r.cell 7, cell_later (HB8_2.out) HY.out⟩) (fun hHeld => ?_)
          clear hK K
          try simp only [Act.put, List.setIfInBounds_toArray, List.set_cons_zero, List.set_cons_succ]
          refine plI [(3, false), (4, false), (5, true), (6, true), (7, true), (8, true), (9, true), (10, true), (11, false), (12, false), (13, false), (14, false), (15, false), (16, true), (17, true), (18, true), (19, true), (20, true), (21, true), (22, true), (23, true), (24, true), (25, true), (26, false), (27, false)] ?_
          repeat ((first | ((with_reducible show Plan ((_, true) :: _) _); refine plF ?_) | (refine plR (v := ?_) ?_ ?_; rotate_left; focus (intro W hSW; (try dsimp only at hSW); go_simp; all_goals (with_reducible rfl)))); try simp only [Act.put, List.setIfInBounds_toArray, List.set_cons_zero, List.set_cons_succ])
          refine plE ?_
          refine wpAnyH_done (by kernel_rfl) ?_ _
          clear hHeld
          go_wp2_with fail
          go_roundw
          case rel => exact ⟨k + 1, by go_num, hlt, HR8_2, Lib.hid (HSr.out.below HB8_2.out)⟩
          case measure => simp [intOf]; omega
      · have hg0 : decide ((0 : Int) < (k : Int)) = true := decide_eq_true (by omega)
        have hg0n : decide (0 < k) = true := decide_eq_true (by omega)
        have HY0 := Lib.hid (show wr.cell? ⟨b, o + (k - 1), none⟩ = some (.string (l.getD (k - 1) ByteArray.empty)) from hcc (k - 1) (by omega))
        have hlt8 : Op.bytesLess (l.getD (k - 1) ByteArray.empty).toList (l.getD k ByteArray.empty).toList = true := inc_get HINC.out hi0 hlt
        have hk1 : IntKind.i64.wrap ((k : Int) - 1) = ((k - 1 : Nat) : Int) := by rw [IntWalk.i64_in _ (by have := HLL.out; omega)]; omega
        have hk2 : ((k - 1 : Nat) : Int) < (l.length : Int) := by omega
        clear hcc e2 hc0 hi0
        generalize l.getD k ByteArray.empty = y at *
        generalize l.getD (k - 1) ByteArray.empty = y0 at *
        by_cases hz0 : z = 0
        · have HCU := Lib.hid (HCX.out hz0)
          have hzb : (z == 0) = true := by simp [hz0]
          clear hz0 HCX
          go_wp2_with fail
          have HR8 := Lib.hid (HBr.out.below (Below.refl wr.heap.size wr).drew)
          have HB8 := Lib.hid ((Below.refl wr.heap.size wr).drew)
          refine wp_region_held_drew (S := fun W => W.cell? ⟨w.heap.size, 0, none⟩ = some cv ∧ W.cell? ⟨w.heap.size + 1, 0, none⟩ = some (.string r.name) ∧ W.cell? ⟨w.heap.size + 1, 1, none⟩ = some (.string r.kind) ∧ W.cell? ⟨w.heap.size + 1, 2, none⟩ = some (.int .i64 r.cond.op) ∧ W.cell? ⟨w.heap.size + 1, 3, none⟩ = some (.string r.cond.name) ∧ W.cell? ⟨w.heap.size + 1, 4, none⟩ = some (.string r.cond.value) ∧ W.cell? ⟨w.heap.size + 1, 5, none⟩ = some (.int .i64 r.cond.n) ∧ W.cell? ⟨w.heap.size + 1, 6, none⟩ = some (.int .i64 r.cond.extra) ∧ W.cell? ⟨w.heap.size + 1, 7, none⟩ = some (.slice A r.cond.kids.length cc) ∧ W.cell? ⟨b, o + k, none⟩ = some (.string y) ∧ W.cell? ⟨b, o + (k - 1), none⟩ = some (.string y0)) (by kernel_rfl) (⟨(HR8.out).c.cell 0, (HR8.out).r.cell 0, (HR8.out).r.cell 1, (HR8.out).r.cell 2, (HR8.out).r.cell 3, (HR8.out).r.cell 4, (HR8.out).r.cell 5, (HR8.out).r.cell 6, (HR8.out).r.cell 7, cell_later (HB8.out) HY.out, cell_later (HB8.out) HY0.out⟩) (fun hHeld => ?_)
          refine plI [(0, false), (1, false)] ?_
          repeat ((first | ((with_reducible show Plan ((_, true) :: _) _); refine plF ?_) | (refine plR (v := ?_) ?_ ?_; rotate_left; focus (intro W hSW; (try dsimp only at hSW); go_simp; all_goals (with_reducible rfl)))); try simp only [Act.put, List.setIfInBounds_toArray, List.set_cons_zero, List.set_cons_succ])
          refine plE ?_
          refine wpAnyH_ready (rs := [2]) (by kernel_rfl) (by simp) ?_
          refine AllReadyH.cons (o := ⟨_, _, _, _, _, _⟩) rfl (fun K hK => ?_) AllReadyH.nil
          go_simp
          go_at_call 9; refine (tcheck_any _ (HB0.out.trans (HR8.out.b.mono HB0.out.size)) HCV.out HL.out HSH.out r (.slice A r.cond.kids.length cc) HCN.out HF.out HNM.out HKD.out HLY.out).mono ?_; rintro e u2 ⟨rfl, hb⟩; (rw [HZ.out]); have HR8_2 := Lib.hid (HR8.out.below hb); have HB8_2 := Lib.hid (HB8.out.trans (hb.mono HB8.out.size)); clear hb
          refine hK.out _ _ (⟨(HR8_2.out).c.cell 0, (HR8_2.out).r.cell 0, (HR8_2.out).r.cell 1, (HR8_2.out).r.cell 2, (HR8_2.out).r.cell 3, (HR8_2.out).r.cell 4, (HR8_2.out).r.cell 5, (HR8_2.out).r.cell 6, (HR8_2.out).r.cell 7, cell_later (HB8_2.out) HY.out, cell_later (HB8_2.out) HY0.out⟩) (fun hHeld => ?_)
          clear hK K
          try simp only [Act.put, List.setIfInBounds_toArray, List.set_cons_zero, List.set_cons_succ]
          refine plI [(3, false), (4, false), (5, false), (6, false), (7, false), (8, false)] ?_
          repeat ((first | ((with_reducible show Plan ((_, true) :: _) _); refine plF ?_) | (refine plR (v := ?_) ?_ ?_; rotate_left; focus (intro W hSW; (try dsimp only at hSW); go_simp; all_goals (with_reducible rfl)))); try simp only [Act.put, List.setIfInBounds_toArray, List.set_cons_zero, List.set_cons_succ])
          refine plE ?_
          refine wpAnyH_ready (rs := [9]) (by kernel_rfl) (by simp) ?_
          refine AllReadyH.cons (o := ⟨_, _, _, _, _, _⟩) rfl (fun K hK => ?_) AllReadyH.nil
          go_simp
          go_at_call 20; refine (is_any y _).mono ?_; rintro e u9 ⟨rfl, hb⟩; (rw [HCU.out]); have HR8_9 := Lib.hid (HR8_2.out.below hb); have HB8_9 := Lib.hid (HB8_2.out.trans (hb.mono HB8_2.out.size)); clear hb
          refine hK.out _ _ (⟨(HR8_9.out).c.cell 0, (HR8_9.out).r.cell 0, (HR8_9.out).r.cell 1, (HR8_9.out).r.cell 2, (HR8_9.out).r.cell 3, (HR8_9.out).r.cell 4, (HR8_9.out).r.cell 5, (HR8_9.out).r.cell 6, (HR8_9.out).r.cell 7, cell_later (HB8_9.out) HY.out, cell_later (HB8_9.out) HY0.out⟩) (fun hHeld => ?_)
          clear hK K
          try simp only [Act.put, List.setIfInBounds_toArray, List.set_cons_zero, List.set_cons_succ]
          refine plI [(10, false), (11, false), (12, false), (13, false), (14, false), (15, false), (16, false), (17, false), (18, false), (19, false), (20, false), (21, false), (22, false), (23, false), (24, false), (25, false), (26, false), (27, false)] ?_
          repeat ((first | ((with_reducible show Plan ((_, true) :: _) _); refine plF ?_) | (refine plR (v := ?_) ?_ ?_; rotate_left; focus (intro W hSW; (try dsimp only at hSW); go_simp; all_goals (with_reducible rfl)))); try simp only [Act.put, List.setIfInBounds_toArray, List.set_cons_zero, List.set_cons_succ])
          refine plE ?_
          refine wpAnyH_done (by kernel_rfl) ?_ _
          clear hHeld
          go_wp2_with fail
          go_roundw
          case rel => exact ⟨k + 1, by go_num, hlt, HR8_9, Lib.hid (HSr.out.below HB8_9.out)⟩
          case measure => simp [intOf]; omega
        · have hzb : (z == 0) = false := by simpa using hz0
          clear hz0 HCX
          go_wp2_with fail
          have HR8 := Lib.hid (HBr.out.below (Below.refl wr.heap.size wr).drew)
          have HB8 := Lib.hid ((Below.refl wr.heap.size wr).drew)
          refine wp_region_held_drew (S := fun W => W.cell? ⟨w.heap.size, 0, none⟩ = some cv ∧ W.cell? ⟨w.heap.size + 1, 0, none⟩ = some (.string r.name) ∧ W.cell? ⟨w.heap.size + 1, 1, none⟩ = some (.string r.kind) ∧ W.cell? ⟨w.heap.size + 1, 2, none⟩ = some (.int .i64 r.cond.op) ∧ W.cell? ⟨w.heap.size + 1, 3, none⟩ = some (.string r.cond.name) ∧ W.cell? ⟨w.heap.size + 1, 4, none⟩ = some (.string r.cond.value) ∧ W.cell? ⟨w.heap.size + 1, 5, none⟩ = some (.int .i64 r.cond.n) ∧ W.cell? ⟨w.heap.size + 1, 6, none⟩ = some (.int .i64 r.cond.extra) ∧ W.cell? ⟨w.heap.size + 1, 7, none⟩ = some (.slice A r.cond.kids.length cc) ∧ W.cell? ⟨b, o + k, none⟩ = some (.string y) ∧ W.cell? ⟨b, o + (k - 1), none⟩ = some (.string y0)) (by kernel_rfl) (⟨(HR8.out).c.cell 0, (HR8.out).r.cell 0, (HR8.out).r.cell 1, (HR8.out).r.cell 2, (HR8.out).r.cell 3, (HR8.out).r.cell 4, (HR8.out).r.cell 5, (HR8.out).r.cell 6, (HR8.out).r.cell 7, cell_later (HB8.out) HY.out, cell_later (HB8.out) HY0.out⟩) (fun hHeld => ?_)
          refine plI [(0, false), (1, false)] ?_
          repeat ((first | ((with_reducible show Plan ((_, true) :: _) _); refine plF ?_) | (refine plR (v := ?_) ?_ ?_; rotate_left; focus (intro W hSW; (try dsimp only at hSW); go_simp; all_goals (with_reducible rfl)))); try simp only [Act.put, List.setIfInBounds_toArray, List.set_cons_zero, List.set_cons_succ])
          refine plE ?_
          refine wpAnyH_ready (rs := [2]) (by kernel_rfl) (by simp) ?_
          refine AllReadyH.cons (o := ⟨_, _, _, _, _, _⟩) rfl (fun K hK => ?_) AllReadyH.nil
          go_simp
          go_at_call 9; refine (tcheck_any _ (HB0.out.trans (HR8.out.b.mono HB0.out.size)) HCV.out HL.out HSH.out r (.slice A r.cond.kids.length cc) HCN.out HF.out HNM.out HKD.out HLY.out).mono ?_; rintro e u2 ⟨rfl, hb⟩; (rw [HZ.out]); have HR8_2 := Lib.hid (HR8.out.below hb); have HB8_2 := Lib.hid (HB8.out.trans (hb.mono HB8.out.size)); clear hb
          refine hK.out _ _ (⟨(HR8_2.out).c.cell 0, (HR8_2.out).r.cell 0, (HR8_2.out).r.cell 1, (HR8_2.out).r.cell 2, (HR8_2.out).r.cell 3, (HR8_2.out).r.cell 4, (HR8_2.out).r.cell 5, (HR8_2.out).r.cell 6, (HR8_2.out).r.cell 7, cell_later (HB8_2.out) HY.out, cell_later (HB8_2.out) HY0.out⟩) (fun hHeld => ?_)
          clear hK K
          try simp only [Act.put, List.setIfInBounds_toArray, List.set_cons_zero, List.set_cons_succ]
          refine plI [(3, false), (4, false), (5, true), (6, true), (7, true), (8, true), (9, true), (10, true), (11, false), (12, false), (13, false), (14, false), (15, false), (16, false), (17, false), (18, false), (19, false), (20, false), (21, false), (22, false), (23, false), (24, false), (25, false), (26, false), (27, false)] ?_
          repeat ((first | ((with_reducible show Plan ((_, true) :: _) _); refine plF ?_) | (refine plR (v := ?_) ?_ ?_; rotate_left; focus (intro W hSW; (try dsimp only at hSW); go_simp; all_goals (with_reducible rfl)))); try simp only [Act.put, List.setIfInBounds_toArray, List.set_cons_zero, List.set_cons_succ])
          refine plE ?_
          refine wpAnyH_done (by kernel_rfl) ?_ _
          clear hHeld
          go_wp2_with fail
          go_roundw
          case rel => exact ⟨k + 1, by go_num, hlt, HR8_2, Lib.hid (HSr.out.below HB8_2.out)⟩
          case measure => simp [intOf]; omega
    · have hki : ¬ (k : Int) < (l.length : Int) := by omega
      obtain rfl : k = l.length := by omega
      obtain ⟨dK, fK⟩ := HBr.out.c.facts; obtain ⟨dR, fR⟩ := HBr.out.r.facts
      have HRK := Lib.hid (valid_any (rkU r.cond) (.slice A r.cond.kids.length cc) wr HCN.out HF.out (show (1 : Nat) ≤ maxLen from (by decide)) (show (1 : Nat) ≤ maxLen from (by decide)) (HLY.out.later (HB0.out.trans (HBr.out.b.mono HB0.out.size))))
      have hll0 : l.length = 0 := by rw [HLZ.out]; rfl
      have hlli : ((l.length : Int) == 0) = true := by simp [hll0]
      clear hll0
      go_wp2_with (go_at_call 11; refine HRK.out.mono ?_; rintro e w9 ⟨rfl, hb⟩; (rw [HRV.out]); have H9 := Lib.hid (HBr.out.below hb); have HS9 := Lib.hid (HSr.out.below hb); clear dK fK dR fR; clear hb; obtain ⟨dK, fK⟩ := H9.out.c.facts; obtain ⟨dR, fR⟩ := H9.out.r.facts)
      go_ret
      exact ⟨rfl, H9.out.b⟩
set_option maxRecDepth 100000 in
set_option maxHeartbeats 8000000 in
theorem tc_own5 (w0 : World) (hv : Evs w0) (cv : Value) (c : List Kd) (r : Ru) (A : Option Addr) (cc : Nat) (w : World) (hb0 : Below w0.heap.size w0 w) (hcv : Cat w0 cv c) (hlay : Lay w0 (.slice A r.cond.kids.length cc) r.cond.kids) (hf : FitE r.cond) (hnm : r.name.size ≤ maxLen) (hkd : r.kind.size ≤ maxLen) (hfew : (fewCa c && fewU r) = true) (hr : ruleB (rkU r.cond) = true) (hk : r.cond.kids = []) (ho : r.cond.op = 5) : Calls Tryz.prog 6 #[.agg #[cv], .agg #[.string r.name, .string r.kind, .int .i64 r.cond.op, .string r.cond.name, .string r.cond.value, .int .i64 r.cond.n, .int .i64 r.cond.extra, .slice A r.cond.kids.length cc]] w fun e w' => e = .returned (.bool true) ∧ Below w.heap.size w w' := by
  have HCK := Lib.hid (fun (hz : checkU c r = 0) (x : ByteArray) (hx : x ∈ curU r.cond) => (show curB x = true from check_cur hz (cur_mem hx)))
  have HINC := Lib.hid (cur_inc r.cond)
  have HRV := Lib.hid hr
  have HLZ := Lib.hid (show curU r.cond = [r.cond.name] by rw [show curU r.cond = sortD (limL r.cond) from if_pos hr, cur_leaf hk]; rw [if_pos (by omega)]; exact sortD_one _)
  have hkl0 : ((r.cond.kids.length : Int) == 0) = true := by simp [hk]
  have hkl0n : (r.cond.kids.length == 0) = true := by simp [hk]
  have hkl0e : r.cond.kids.isEmpty = true := by simp [hk]
  have ho5 : (r.cond.op == 5) = true := by simp [ho]
  clear hr hk ho
  have H0 := Lib.hid (B2.start w cv #[.string r.name, .string r.kind, .int .i64 r.cond.op, .string r.cond.name, .string r.cond.value, .int .i64 r.cond.n, .int .i64 r.cond.extra, .slice A r.cond.kids.length cc])
  have HB0 := Lib.hid hb0
  have HCV := Lib.hid hcv
  have HLY := Lib.hid hlay
  have HV := Lib.hid hv
  clear hb0 hcv hlay hv
  have hlay := HLY.out
  have HFW := Lib.hid hfew
  have hfew2 := hfew
  rw [Bool.and_eq_true] at hfew2
  have HL := Lib.hid (show c.length ≤ 100000 by have := (fewCa_short hfew2.1).1; omega)
  have HSH := Lib.hid (fewCa_short hfew2.1).2
  have HCN := Lib.hid (show cnt r.cond ≤ 1000000 by have := fewU_cnt hfew2.2; omega)
  have HC80 := Lib.hid (fewU_cnt hfew2.2)
  have HF := Lib.hid hf
  have HNM := Lib.hid hnm
  have HKD := Lib.hid hkd
  clear hfew hfew2 hf hnm hkd
  have HLL := Lib.hid (show (curU r.cond).length ≤ 80 from Nat.le_trans (cur_len r.cond) HC80.out)
  have HCU1 := Lib.hid (fun W (hb : Below w0.heap.size w0 W) => curr_any r.cond (.slice A r.cond.kids.length cc) W HCN.out HF.out (HLY.out.later hb))
  obtain ⟨z, hz⟩ : ∃ z, checkU c r = z := ⟨_, rfl⟩
  rw [hz] at HCK
  have HZ := Lib.hid hz
  clear hz hlay
  generalize hl : curU r.cond = l at *
  have HLE := Lib.hid hl
  clear hl
  obtain ⟨dK, fK⟩ := H0.out.c.facts
  obtain ⟨dR, fR⟩ := H0.out.r.facts
  go_enter Tryz.func6, Tryz.ntmps6
  go_wp2_with (first | (go_at_call 7; refine (head21_any w0 _ HV.out (HB0.out.trans (H0.out.b.mono HB0.out.size))).mono ?_; rintro e w1 ⟨rfl, hb⟩; have H1 := Lib.hid (H0.out.below hb); clear dK fK dR fR; clear hb; obtain ⟨dK, fK⟩ := H1.out.c.facts; obtain ⟨dR, fR⟩ := H1.out.r.facts) | (go_at_call 8; refine (few21_any w0 cv c r (.slice A r.cond.kids.length cc) _ (HB0.out.trans (H1.out.b.mono HB0.out.size)) HCV.out HLY.out).mono ?_; rintro e w2 ⟨rfl, hb⟩; (rw [HFW.out]); have H2 := Lib.hid (H1.out.below hb); clear dK fK dR fR; clear hb; obtain ⟨dK, fK⟩ := H2.out.c.facts; obtain ⟨dR, fR⟩ := H2.out.r.facts) | (go_at_call 18; refine (HCU1.out _ (HB0.out.trans (H2.out.b.mono HB0.out.size))).mono ?_; rintro e w3 ⟨v, rfl, hrow, hb⟩; have H3 := Lib.hid (H2.out.below hb); have HS3 := Lib.hid (own_strs hrow); obtain ⟨Av, cw, rfl⟩ := own_val hrow; clear dK fK dR fR; clear hrow hb))
  go_loopw [7] (fun i wr => ∃ k : Nat, i = .int .i64 k ∧ k ≤ l.length ∧ Hid (B2 w cv #[.string r.name, .string r.kind, .int .i64 r.cond.op, .string r.cond.name, .string r.cond.value, .int .i64 r.cond.n, .int .i64 r.cond.extra, .slice A r.cond.kids.length cc] wr) ∧ Hid (Sl wr (.slice Av l.length cw) l.length 1 (strF l))) (fun i _ => l.length - (intOf i).toNat)
  case atStart => exact ⟨0, rfl, Nat.zero_le _, H3, HS3⟩
  case round =>
    obtain ⟨k, rfl, hk, HBr, HSr⟩ := hrel
    clear H0 H1 H2 H3 HS3
    by_cases hlt : k < l.length
    · have hki : (k : Int) < (l.length : Int) := by omega
      have hs3 : IntKind.i64.wrap ((k : Int) + 1) = (k : Int) + 1 := IntWalk.i64_in _ (by have := HLL.out; omega)
      obtain ⟨_, _, he, _, hc0⟩ := HSr.out
      injection he with e1 e2 e3
      subst e1
      subst e3
      obtain ⟨b, o, rfl, hcc⟩ : ∃ b o, Av = some ⟨b, o, none⟩ ∧ ∀ j, j < l.length * 1 → wr.cell? ⟨b, o + j, none⟩ = some (strF l j) := hc0.resolve_left (by omega)
      have HY := Lib.hid (show wr.cell? ⟨b, o + k, none⟩ = some (.string (l.getD k ByteArray.empty)) from hcc k (by omega))
      have HCX := Lib.hid (fun hz : z = 0 => HCK.out hz _ (getD_mem l k ByteArray.empty hlt))
      by_cases hi0 : k = 0
      · have hg0 : decide ((0 : Int) < (k : Int)) = false := decide_eq_false (by omega)
        have hg0n : decide (0 < k) = false := decide_eq_false (by omega)
        clear hcc e2 hc0 hi0
        generalize l.getD k ByteArray.empty = y at *
        by_cases hz0 : z = 0
        · have HCU := Lib.hid (HCX.out hz0)
          have hzb : (z == 0) = true := by simp [hz0]
          clear hz0 HCX
          go_wp2_with fail
          have HR8 := Lib.hid (HBr.out.below (Below.refl wr.heap.size wr).drew)
          have HB8 := Lib.hid ((Below.refl wr.heap.size wr).drew)
          refine wp_region_held_drew (S := fun W => W.cell? ⟨w.heap.size, 0, none⟩ = some cv ∧ W.cell? ⟨w.heap.size + 1, 0, none⟩ = some (.string r.name) ∧ W.cell? ⟨w.heap.size + 1, 1, none⟩ = some (.string r.kind) ∧ W.cell? ⟨w.heap.size + 1, 2, none⟩ = some (.int .i64 r.cond.op) ∧ W.cell? ⟨w.heap.size + 1, 3, none⟩ = some (.string r.cond.name) ∧ W.cell? ⟨w.heap.size + 1, 4, none⟩ = some (.string r.cond.value) ∧ W.cell? ⟨w.heap.size + 1, 5, none⟩ = some (.int .i64 r.cond.n) ∧ W.cell? ⟨w.heap.size + 1, 6, none⟩ = some (.int .i64 r.cond.extra) ∧ W.cell? ⟨w.heap.size + 1, 7, none⟩ = some (.slice A r.cond.kids.length cc) ∧ W.cell? ⟨b, o + k, none⟩ = some (.string y)) (by kernel_rfl) (⟨(HR8.out).c.cell 0, (HR8.out).r.cell 0, (HR8.out).r.cell 1, (HR8.out).r.cell 2, (HR8.out).r.cell 3, (HR8.out).r.cell 4, (HR8.out).r.cell 5, (HR8.out).r.cell 6, (HR8.out).r.cell 7, cell_later (HB8.out) HY.out⟩) (fun hHeld => ?_)
          refine plI [(0, false), (1, false)] ?_
          repeat ((first | ((with_reducible show Plan ((_, true) :: _) _); refine plF ?_) | (refine plR (v := ?_) ?_ ?_; rotate_left; focus (intro W hSW; (try dsimp only at hSW); go_simp; all_goals (with_reducible rfl)))); try simp only [Act.put, List.setIfInBounds_toArray, List.set_cons_zero, List.set_cons_succ])
          refine plE ?_
          refine wpAnyH_ready (rs := [2]) (by kernel_rfl) (by simp) ?_
          refine AllReadyH.cons (o := ⟨_, _, _, _, _, _⟩) rfl (fun K hK => ?_) AllReadyH.nil
          go_simp
          go_at_call 9; refine (tcheck_any _ (HB0.out.trans (HR8.out.b.mono HB0.out.size)) HCV.out HL.out HSH.out r (.slice A r.cond.kids.length cc) HCN.out HF.out HNM.out HKD.out HLY.out).mono ?_; rintro e u2 ⟨rfl, hb⟩; (rw [HZ.out]); have HR8_2 := Lib.hid (HR8.out.below hb); have HB8_2 := Lib.hid (HB8.out.trans (hb.mono HB8.out.size)); clear hb
          refine hK.out _ _ (⟨(HR8_2.out).c.cell 0, (HR8_2.out).r.cell 0, (HR8_2.out).r.cell 1, (HR8_2.out).r.cell 2, (HR8_2.out).r.cell 3, (HR8_2.out).r.cell 4, (HR8_2.out).r.cell 5, (HR8_2.out).r.cell 6, (HR8_2.out).r.cell 7, cell_later (HB8_2.out) HY.out⟩) (fun hHeld => ?_)
          clear hK K
          try simp only [Act.put, List.setIfInBounds_toArray, List.set_cons_zero, List.set_cons_succ]
          refine plI [(3, false), (4, false), (5, false), (6, false), (7, false), (8, false)] ?_
          repeat ((first | ((with_reducible show Plan ((_, true) :: _) _); refine plF ?_) | (refine plR (v := ?_) ?_ ?_; rotate_left; focus (intro W hSW; (try dsimp only at hSW); go_simp; all_goals (with_reducible rfl)))); try simp only [Act.put, List.setIfInBounds_toArray, List.set_cons_zero, List.set_cons_succ])
          refine plE ?_
          refine wpAnyH_ready (rs := [9]) (by kernel_rfl) (by simp) ?_
          refine AllReadyH.cons (o := ⟨_, _, _, _, _, _⟩) rfl (fun K hK => ?_) AllReadyH.nil
          go_simp
          go_at_call 20; refine (is_any y _).mono ?_; rintro e u9 ⟨rfl, hb⟩; (rw [HCU.out]); have HR8_9 := Lib.hid (HR8_2.out.below hb); have HB8_9 := Lib.hid (HB8_2.out.trans (hb.mono HB8_2.out.size)); clear hb
          refine hK.out _ _ (⟨(HR8_9.out).c.cell 0, (HR8_9.out).r.cell 0, (HR8_9.out).r.cell 1, (HR8_9.out).r.cell 2, (HR8_9.out).r.cell 3, (HR8_9.out).r.cell 4, (HR8_9.out).r.cell 5, (HR8_9.out).r.cell 6, (HR8_9.out).r.cell 7, cell_later (HB8_9.out) HY.out⟩) (fun hHeld => ?_)
          clear hK K
          try simp only [Act.put, List.setIfInBounds_toArray, List.set_cons_zero, List.set_cons_succ]
          refine plI [(10, false), (11, false), (12, false), (13, false), (14, false), (15, false), (16, true), (17, true), (18, true), (19, true), (20, true), (21, true), (22, true), (23, true), (24, true), (25, true), (26, false), (27, false)] ?_
          repeat ((first | ((with_reducible show Plan ((_, true) :: _) _); refine plF ?_) | (refine plR (v := ?_) ?_ ?_; rotate_left; focus (intro W hSW; (try dsimp only at hSW); go_simp; all_goals (with_reducible rfl)))); try simp only [Act.put, List.setIfInBounds_toArray, List.set_cons_zero, List.set_cons_succ])
          refine plE ?_
          refine wpAnyH_done (by kernel_rfl) ?_ _
          clear hHeld
          go_wp2_with fail
          go_roundw
          case rel => exact ⟨k + 1, by go_num, hlt, HR8_9, Lib.hid (HSr.out.below HB8_9.out)⟩
          case measure => simp [intOf]; omega
        · have hzb : (z == 0) = false := by simpa using hz0
          clear hz0 HCX
          go_wp2_with fail
          have HR8 := Lib.hid (HBr.out.below (Below.refl wr.heap.size wr).drew)
          have HB8 := Lib.hid ((Below.refl wr.heap.size wr).drew)
          refine wp_region_held_drew (S := fun W => W.cell? ⟨w.heap.size, 0, none⟩ = some cv ∧ W.cell? ⟨w.heap.size + 1, 0, none⟩ = some (.string r.name) ∧ W.cell? ⟨w.heap.size + 1, 1, none⟩ = some (.string r.kind) ∧ W.cell? ⟨w.heap.size + 1, 2, none⟩ = some (.int .i64 r.cond.op) ∧ W.cell? ⟨w.heap.size + 1, 3, none⟩ = some (.string r.cond.name) ∧ W.cell? ⟨w.heap.size + 1, 4, none⟩ = some (.string r.cond.value) ∧ W.cell? ⟨w.heap.size + 1, 5, none⟩ = some (.int .i64 r.cond.n) ∧ W.cell? ⟨w.heap.size + 1, 6, none⟩ = some (.int .i64 r.cond.extra) ∧ W.cell? ⟨w.heap.size + 1, 7, none⟩ = some (.slice A r.cond.kids.length cc) ∧ W.cell? ⟨b, o + k, none⟩ = some (.string y)) (by kernel_rfl) (⟨(HR8.out).c.cell 0, (HR8.out).r.cell 0, (HR8.out).r.cell 1, (HR8.out).r.cell 2, (HR8.out).r.cell 3, (HR8.out).r.cell 4, (HR8.out).r.cell 5, (HR8.out).r.cell 6, (HR8.out).r.cell 7, cell_later (HB8.out) HY.out⟩) (fun hHeld => ?_)
          refine plI [(0, false), (1, false)] ?_
          repeat ((first | ((with_reducible show Plan ((_, true) :: _) _); refine plF ?_) | (refine plR (v := ?_) ?_ ?_; rotate_left; focus (intro W hSW; (try dsimp only at hSW); go_simp; all_goals (with_reducible rfl)))); try simp only [Act.put, List.setIfInBounds_toArray, List.set_cons_zero, List.set_cons_succ])
          refine plE ?_
          refine wpAnyH_ready (rs := [2]) (by kernel_rfl) (by simp) ?_
          refine AllReadyH.cons (o := ⟨_, _, _, _, _, _⟩) rfl (fun K hK => ?_) AllReadyH.nil
          go_simp
          go_at_call 9; refine (tcheck_any _ (HB0.out.trans (HR8.out.b.mono HB0.out.size)) HCV.out HL.out HSH.out r (.slice A r.cond.kids.length cc) HCN.out HF.out HNM.out HKD.out HLY.out).mono ?_; rintro e u2 ⟨rfl, hb⟩; (rw [HZ.out]); have HR8_2 := Lib.hid (HR8.out.below hb); have HB8_2 := Lib.hid (HB8.out.trans (hb.mono HB8.out.size)); clear hb
          refine hK.out _ _ (⟨(HR8_2.out).c.cell 0, (HR8_2.out).r.cell 0, (HR8_2.out).r.cell 1, (HR8_2.out).r.cell 2, (HR8_2.out).r.cell 3, (HR8_2.out).r.cell 4, (HR8_2.out).r.cell 5, (HR8_2.out).r.cell 6, (HR8_2.out).r.cell 7, cell_later (HB8_2.out) HY.out⟩) (fun hHeld => ?_)
          clear hK K
          try simp only [Act.put, List.setIfInBounds_toArray, List.set_cons_zero, List.set_cons_succ]
          refine plI [(3, false), (4, false), (5, true), (6, true), (7, true), (8, true), (9, true), (10, true), (11, false), (12, false), (13, false), (14, false), (15, false), (16, true), (17, true), (18, true), (19, true), (20, true), (21, true), (22, true), (23, true), (24, true), (25, true), (26, false), (27, false)] ?_
          repeat ((first | ((with_reducible show Plan ((_, true) :: _) _); refine plF ?_) | (refine plR (v := ?_) ?_ ?_; rotate_left; focus (intro W hSW; (try dsimp only at hSW); go_simp; all_goals (with_reducible rfl)))); try simp only [Act.put, List.setIfInBounds_toArray, List.set_cons_zero, List.set_cons_succ])
          refine plE ?_
          refine wpAnyH_done (by kernel_rfl) ?_ _
          clear hHeld
          go_wp2_with fail
          go_roundw
          case rel => exact ⟨k + 1, by go_num, hlt, HR8_2, Lib.hid (HSr.out.below HB8_2.out)⟩
          case measure => simp [intOf]; omega
      · have hg0 : decide ((0 : Int) < (k : Int)) = true := decide_eq_true (by omega)
        have hg0n : decide (0 < k) = true := decide_eq_true (by omega)
        have HY0 := Lib.hid (show wr.cell? ⟨b, o + (k - 1), none⟩ = some (.string (l.getD (k - 1) ByteArray.empty)) from hcc (k - 1) (by omega))
        have hlt8 : Op.bytesLess (l.getD (k - 1) ByteArray.empty).toList (l.getD k ByteArray.empty).toList = true := inc_get HINC.out hi0 hlt
        have hk1 : IntKind.i64.wrap ((k : Int) - 1) = ((k - 1 : Nat) : Int) := by rw [IntWalk.i64_in _ (by have := HLL.out; omega)]; omega
        have hk2 : ((k - 1 : Nat) : Int) < (l.length : Int) := by omega
        clear hcc e2 hc0 hi0
        generalize l.getD k ByteArray.empty = y at *
        generalize l.getD (k - 1) ByteArray.empty = y0 at *
        by_cases hz0 : z = 0
        · have HCU := Lib.hid (HCX.out hz0)
          have hzb : (z == 0) = true := by simp [hz0]
          clear hz0 HCX
          go_wp2_with fail
          have HR8 := Lib.hid (HBr.out.below (Below.refl wr.heap.size wr).drew)
          have HB8 := Lib.hid ((Below.refl wr.heap.size wr).drew)
          refine wp_region_held_drew (S := fun W => W.cell? ⟨w.heap.size, 0, none⟩ = some cv ∧ W.cell? ⟨w.heap.size + 1, 0, none⟩ = some (.string r.name) ∧ W.cell? ⟨w.heap.size + 1, 1, none⟩ = some (.string r.kind) ∧ W.cell? ⟨w.heap.size + 1, 2, none⟩ = some (.int .i64 r.cond.op) ∧ W.cell? ⟨w.heap.size + 1, 3, none⟩ = some (.string r.cond.name) ∧ W.cell? ⟨w.heap.size + 1, 4, none⟩ = some (.string r.cond.value) ∧ W.cell? ⟨w.heap.size + 1, 5, none⟩ = some (.int .i64 r.cond.n) ∧ W.cell? ⟨w.heap.size + 1, 6, none⟩ = some (.int .i64 r.cond.extra) ∧ W.cell? ⟨w.heap.size + 1, 7, none⟩ = some (.slice A r.cond.kids.length cc) ∧ W.cell? ⟨b, o + k, none⟩ = some (.string y) ∧ W.cell? ⟨b, o + (k - 1), none⟩ = some (.string y0)) (by kernel_rfl) (⟨(HR8.out).c.cell 0, (HR8.out).r.cell 0, (HR8.out).r.cell 1, (HR8.out).r.cell 2, (HR8.out).r.cell 3, (HR8.out).r.cell 4, (HR8.out).r.cell 5, (HR8.out).r.cell 6, (HR8.out).r.cell 7, cell_later (HB8.out) HY.out, cell_later (HB8.out) HY0.out⟩) (fun hHeld => ?_)
          refine plI [(0, false), (1, false)] ?_
          repeat ((first | ((with_reducible show Plan ((_, true) :: _) _); refine plF ?_) | (refine plR (v := ?_) ?_ ?_; rotate_left; focus (intro W hSW; (try dsimp only at hSW); go_simp; all_goals (with_reducible rfl)))); try simp only [Act.put, List.setIfInBounds_toArray, List.set_cons_zero, List.set_cons_succ])
          refine plE ?_
          refine wpAnyH_ready (rs := [2]) (by kernel_rfl) (by simp) ?_
          refine AllReadyH.cons (o := ⟨_, _, _, _, _, _⟩) rfl (fun K hK => ?_) AllReadyH.nil
          go_simp
          go_at_call 9; refine (tcheck_any _ (HB0.out.trans (HR8.out.b.mono HB0.out.size)) HCV.out HL.out HSH.out r (.slice A r.cond.kids.length cc) HCN.out HF.out HNM.out HKD.out HLY.out).mono ?_; rintro e u2 ⟨rfl, hb⟩; (rw [HZ.out]); have HR8_2 := Lib.hid (HR8.out.below hb); have HB8_2 := Lib.hid (HB8.out.trans (hb.mono HB8.out.size)); clear hb
          refine hK.out _ _ (⟨(HR8_2.out).c.cell 0, (HR8_2.out).r.cell 0, (HR8_2.out).r.cell 1, (HR8_2.out).r.cell 2, (HR8_2.out).r.cell 3, (HR8_2.out).r.cell 4, (HR8_2.out).r.cell 5, (HR8_2.out).r.cell 6, (HR8_2.out).r.cell 7, cell_later (HB8_2.out) HY.out, cell_later (HB8_2.out) HY0.out⟩) (fun hHeld => ?_)
          clear hK K
          try simp only [Act.put, List.setIfInBounds_toArray, List.set_cons_zero, List.set_cons_succ]
          refine plI [(3, false), (4, false), (5, false), (6, false), (7, false), (8, false)] ?_
          repeat ((first | ((with_reducible show Plan ((_, true) :: _) _); refine plF ?_) | (refine plR (v := ?_) ?_ ?_; rotate_left; focus (intro W hSW; (try dsimp only at hSW); go_simp; all_goals (with_reducible rfl)))); try simp only [Act.put, List.setIfInBounds_toArray, List.set_cons_zero, List.set_cons_succ])
          refine plE ?_
          refine wpAnyH_ready (rs := [9]) (by kernel_rfl) (by simp) ?_
          refine AllReadyH.cons (o := ⟨_, _, _, _, _, _⟩) rfl (fun K hK => ?_) AllReadyH.nil
          go_simp
          go_at_call 20; refine (is_any y _).mono ?_; rintro e u9 ⟨rfl, hb⟩; (rw [HCU.out]); have HR8_9 := Lib.hid (HR8_2.out.below hb); have HB8_9 := Lib.hid (HB8_2.out.trans (hb.mono HB8_2.out.size)); clear hb
          refine hK.out _ _ (⟨(HR8_9.out).c.cell 0, (HR8_9.out).r.cell 0, (HR8_9.out).r.cell 1, (HR8_9.out).r.cell 2, (HR8_9.out).r.cell 3, (HR8_9.out).r.cell 4, (HR8_9.out).r.cell 5, (HR8_9.out).r.cell 6, (HR8_9.out).r.cell 7, cell_later (HB8_9.out) HY.out, cell_later (HB8_9.out) HY0.out⟩) (fun hHeld => ?_)
          clear hK K
          try simp only [Act.put, List.setIfInBounds_toArray, List.set_cons_zero, List.set_cons_succ]
          refine plI [(10, false), (11, false), (12, false), (13, false), (14, false), (15, false), (16, false), (17, false), (18, false), (19, false), (20, false), (21, false), (22, false), (23, false), (24, false), (25, false), (26, false), (27, false)] ?_
          repeat ((first | ((with_reducible show Plan ((_, true) :: _) _); refine plF ?_) | (refine plR (v := ?_) ?_ ?_; rotate_left; focus (intro W hSW; (try dsimp only at hSW); go_simp; all_goals (with_reducible rfl)))); try simp only [Act.put, List.setIfInBounds_toArray, List.set_cons_zero, List.set_cons_succ])
          refine plE ?_
          refine wpAnyH_done (by kernel_rfl) ?_ _
          clear hHeld
          go_wp2_with fail
          go_roundw
          case rel => exact ⟨k + 1, by go_num, hlt, HR8_9, Lib.hid (HSr.out.below HB8_9.out)⟩
          case measure => simp [intOf]; omega
        · have hzb : (z == 0) = false := by simpa using hz0
          clear hz0 HCX
          go_wp2_with fail
          have HR8 := Lib.hid (HBr.out.below (Below.refl wr.heap.size wr).drew)
          have HB8 := Lib.hid ((Below.refl wr.heap.size wr).drew)
          refine wp_region_held_drew (S := fun W => W.cell? ⟨w.heap.size, 0, none⟩ = some cv ∧ W.cell? ⟨w.heap.size + 1, 0, none⟩ = some (.string r.name) ∧ W.cell? ⟨w.heap.size + 1, 1, none⟩ = some (.string r.kind) ∧ W.cell? ⟨w.heap.size + 1, 2, none⟩ = some (.int .i64 r.cond.op) ∧ W.cell? ⟨w.heap.size + 1, 3, none⟩ = some (.string r.cond.name) ∧ W.cell? ⟨w.heap.size + 1, 4, none⟩ = some (.string r.cond.value) ∧ W.cell? ⟨w.heap.size + 1, 5, none⟩ = some (.int .i64 r.cond.n) ∧ W.cell? ⟨w.heap.size + 1, 6, none⟩ = some (.int .i64 r.cond.extra) ∧ W.cell? ⟨w.heap.size + 1, 7, none⟩ = some (.slice A r.cond.kids.length cc) ∧ W.cell? ⟨b, o + k, none⟩ = some (.string y) ∧ W.cell? ⟨b, o + (k - 1), none⟩ = some (.string y0)) (by kernel_rfl) (⟨(HR8.out).c.cell 0, (HR8.out).r.cell 0, (HR8.out).r.cell 1, (HR8.out).r.cell 2, (HR8.out).r.cell 3, (HR8.out).r.cell 4, (HR8.out).r.cell 5, (HR8.out).r.cell 6, (HR8.out).r.cell 7, cell_later (HB8.out) HY.out, cell_later (HB8.out) HY0.out⟩) (fun hHeld => ?_)
          refine plI [(0, false), (1, false)] ?_
          repeat ((first | ((with_reducible show Plan ((_, true) :: _) _); refine plF ?_) | (refine plR (v := ?_) ?_ ?_; rotate_left; focus (intro W hSW; (try dsimp only at hSW); go_simp; all_goals (with_reducible rfl)))); try simp only [Act.put, List.setIfInBounds_toArray, List.set_cons_zero, List.set_cons_succ])
          refine plE ?_
          refine wpAnyH_ready (rs := [2]) (by kernel_rfl) (by simp) ?_
          refine AllReadyH.cons (o := ⟨_, _, _, _, _, _⟩) rfl (fun K hK => ?_) AllReadyH.nil
          go_simp
          go_at_call 9; refine (tcheck_any _ (HB0.out.trans (HR8.out.b.mono HB0.out.size)) HCV.out HL.out HSH.out r (.slice A r.cond.kids.length cc) HCN.out HF.out HNM.out HKD.out HLY.out).mono ?_; rintro e u2 ⟨rfl, hb⟩; (rw [HZ.out]); have HR8_2 := Lib.hid (HR8.out.below hb); have HB8_2 := Lib.hid (HB8.out.trans (hb.mono HB8.out.size)); clear hb
          refine hK.out _ _ (⟨(HR8_2.out).c.cell 0, (HR8_2.out).r.cell 0, (HR8_2.out).r.cell 1, (HR8_2.out).r.cell 2, (HR8_2.out).r.cell 3, (HR8_2.out).r.cell 4, (HR8_2.out).r.cell 5, (HR8_2.out).r.cell 6, (HR8_2.out).r.cell 7, cell_later (HB8_2.out) HY.out, cell_later (HB8_2.out) HY0.out⟩) (fun hHeld => ?_)
          clear hK K
          try simp only [Act.put, List.setIfInBounds_toArray, List.set_cons_zero, List.set_cons_succ]
          refine plI [(3, false), (4, false), (5, true), (6, true), (7, true), (8, true), (9, true), (10, true), (11, false), (12, false), (13, false), (14, false), (15, false), (16, false), (17, false), (18, false), (19, false), (20, false), (21, false), (22, false), (23, false), (24, false), (25, false), (26, false), (27, false)] ?_
          repeat ((first | ((with_reducible show Plan ((_, true) :: _) _); refine plF ?_) | (refine plR (v := ?_) ?_ ?_; rotate_left; focus (intro W hSW; (try dsimp only at hSW); go_simp; all_goals (with_reducible rfl)))); try simp only [Act.put, List.setIfInBounds_toArray, List.set_cons_zero, List.set_cons_succ])
          refine plE ?_
          refine wpAnyH_done (by kernel_rfl) ?_ _
          clear hHeld
          go_wp2_with fail
          go_roundw
          case rel => exact ⟨k + 1, by go_num, hlt, HR8_2, Lib.hid (HSr.out.below HB8_2.out)⟩
          case measure => simp [intOf]; omega
    · have hki : ¬ (k : Int) < (l.length : Int) := by omega
      obtain rfl : k = l.length := by omega
      obtain ⟨dK, fK⟩ := HBr.out.c.facts; obtain ⟨dR, fR⟩ := HBr.out.r.facts
      have HRK := Lib.hid (valid_any (rkU r.cond) (.slice A r.cond.kids.length cc) wr HCN.out HF.out (show (1 : Nat) ≤ maxLen from (by decide)) (show (1 : Nat) ≤ maxLen from (by decide)) (HLY.out.later (HB0.out.trans (HBr.out.b.mono HB0.out.size))))
      go_wp2_with (go_at_call 11; refine HRK.out.mono ?_; rintro e w9 ⟨rfl, hb⟩; (rw [HRV.out]); have H9 := Lib.hid (HBr.out.below hb); have HS9 := Lib.hid (HSr.out.below hb); clear dK fK dR fR; clear hb; obtain ⟨dK, fK⟩ := H9.out.c.facts; obtain ⟨dR, fR⟩ := H9.out.r.facts)
      have hl1 : l.length = 1 := by rw [HLZ.out]; rfl
      have a1 : decide ((l.length : Int) ≤ 1) = true := decide_eq_true (by omega)
      have a2 : decide (l.length ≤ 1) = true := decide_eq_true (by omega)
      have a3 : ((l.length : Int) == 1) = true := by simp [hl1]
      have a4 : (0 : Int) < (l.length : Int) := by omega
      have a5 : 0 < l.length := by omega
      obtain ⟨_, _, he, _, hc0⟩ := HS9.out
      injection he with e1 e2 e3
      subst e1
      subst e3
      obtain ⟨b, o, rfl, hcc⟩ : ∃ b o, Av = some ⟨b, o, none⟩ ∧ ∀ j, j < l.length * 1 → w9.cell? ⟨b, o + j, none⟩ = some (strF l j) := hc0.resolve_left (by omega)
      have HY0 := Lib.hid (show w9.cell? ⟨b, o, none⟩ = some (.string r.cond.name) by have := hcc 0 (by omega); rw [HLZ.out] at this; exact this)
      clear hcc e2 hc0 hl1
      refine wp_region_held_drew (S := fun W => W.cell? ⟨w.heap.size, 0, none⟩ = some cv ∧ W.cell? ⟨w.heap.size + 1, 0, none⟩ = some (.string r.name) ∧ W.cell? ⟨w.heap.size + 1, 1, none⟩ = some (.string r.kind) ∧ W.cell? ⟨w.heap.size + 1, 2, none⟩ = some (.int .i64 r.cond.op) ∧ W.cell? ⟨w.heap.size + 1, 3, none⟩ = some (.string r.cond.name) ∧ W.cell? ⟨w.heap.size + 1, 4, none⟩ = some (.string r.cond.value) ∧ W.cell? ⟨w.heap.size + 1, 5, none⟩ = some (.int .i64 r.cond.n) ∧ W.cell? ⟨w.heap.size + 1, 6, none⟩ = some (.int .i64 r.cond.extra) ∧ W.cell? ⟨w.heap.size + 1, 7, none⟩ = some (.slice A r.cond.kids.length cc) ∧ W.cell? ⟨b, o, none⟩ = some (.string r.cond.name)) (by kernel_rfl) (⟨((H9.out.below (Below.refl w9.heap.size w9).drew)).c.cell 0, ((H9.out.below (Below.refl w9.heap.size w9).drew)).r.cell 0, ((H9.out.below (Below.refl w9.heap.size w9).drew)).r.cell 1, ((H9.out.below (Below.refl w9.heap.size w9).drew)).r.cell 2, ((H9.out.below (Below.refl w9.heap.size w9).drew)).r.cell 3, ((H9.out.below (Below.refl w9.heap.size w9).drew)).r.cell 4, ((H9.out.below (Below.refl w9.heap.size w9).drew)).r.cell 5, ((H9.out.below (Below.refl w9.heap.size w9).drew)).r.cell 6, ((H9.out.below (Below.refl w9.heap.size w9).drew)).r.cell 7, HY0.out⟩) (fun hHeld => ?_)
      refine plI [(0, false), (1, false), (2, false), (3, false), (4, false), (5, false), (6, false), (7, false), (8, false), (9, false), (10, false), (11, false), (12, false), (13, false), (14, false), (15, false), (16, false), (17, false), (18, false), (19, false), (20, false), (21, false), (22, false), (23, false), (24, false), (25, false), (26, false), (27, false), (28, false), (29, false), (30, false), (31, false)] ?_
      repeat ((first | ((with_reducible show Plan ((_, true) :: _) _); refine plF ?_) | (refine plR (v := ?_) ?_ ?_; rotate_left; focus (intro W hSW; (try dsimp only at hSW); go_simp; all_goals (with_reducible rfl)))); try simp only [Act.put, List.setIfInBounds_toArray, List.set_cons_zero, List.set_cons_succ])
      refine plE ?_
      refine wpAnyH_done (by kernel_rfl) ?_ _
      clear hHeld
      go_wp2_with fail
      go_ret
      exact ⟨rfl, H9.out.b.drew⟩
set_option maxRecDepth 100000 in
set_option maxHeartbeats 8000000 in
theorem tc_own6 (w0 : World) (hv : Evs w0) (cv : Value) (c : List Kd) (r : Ru) (A : Option Addr) (cc : Nat) (w : World) (hb0 : Below w0.heap.size w0 w) (hcv : Cat w0 cv c) (hlay : Lay w0 (.slice A r.cond.kids.length cc) r.cond.kids) (hf : FitE r.cond) (hnm : r.name.size ≤ maxLen) (hkd : r.kind.size ≤ maxLen) (hfew : (fewCa c && fewU r) = true) (hr : ruleB (rkU r.cond) = true) (hk : r.cond.kids = []) (ho : r.cond.op = 6) : Calls Tryz.prog 6 #[.agg #[cv], .agg #[.string r.name, .string r.kind, .int .i64 r.cond.op, .string r.cond.name, .string r.cond.value, .int .i64 r.cond.n, .int .i64 r.cond.extra, .slice A r.cond.kids.length cc]] w fun e w' => e = .returned (.bool true) ∧ Below w.heap.size w w' := by
  have HCK := Lib.hid (fun (hz : checkU c r = 0) (x : ByteArray) (hx : x ∈ curU r.cond) => (show curB x = true from check_cur hz (cur_mem hx)))
  have HINC := Lib.hid (cur_inc r.cond)
  have HRV := Lib.hid hr
  have HLZ := Lib.hid (show curU r.cond = [r.cond.name] by rw [show curU r.cond = sortD (limL r.cond) from if_pos hr, cur_leaf hk]; rw [if_pos (by omega)]; exact sortD_one _)
  have hkl0 : ((r.cond.kids.length : Int) == 0) = true := by simp [hk]
  have hkl0n : (r.cond.kids.length == 0) = true := by simp [hk]
  have hkl0e : r.cond.kids.isEmpty = true := by simp [hk]
  have ho5 : (r.cond.op == 5) = false := by simp [ho]
  have ho6 : (r.cond.op == 6) = true := by simp [ho]
  clear hr hk ho
  have H0 := Lib.hid (B2.start w cv #[.string r.name, .string r.kind, .int .i64 r.cond.op, .string r.cond.name, .string r.cond.value, .int .i64 r.cond.n, .int .i64 r.cond.extra, .slice A r.cond.kids.length cc])
  have HB0 := Lib.hid hb0
  have HCV := Lib.hid hcv
  have HLY := Lib.hid hlay
  have HV := Lib.hid hv
  clear hb0 hcv hlay hv
  have hlay := HLY.out
  have HFW := Lib.hid hfew
  have hfew2 := hfew
  rw [Bool.and_eq_true] at hfew2
  have HL := Lib.hid (show c.length ≤ 100000 by have := (fewCa_short hfew2.1).1; omega)
  have HSH := Lib.hid (fewCa_short hfew2.1).2
  have HCN := Lib.hid (show cnt r.cond ≤ 1000000 by have := fewU_cnt hfew2.2; omega)
  have HC80 := Lib.hid (fewU_cnt hfew2.2)
  have HF := Lib.hid hf
  have HNM := Lib.hid hnm
  have HKD := Lib.hid hkd
  clear hfew hfew2 hf hnm hkd
  have HLL := Lib.hid (show (curU r.cond).length ≤ 80 from Nat.le_trans (cur_len r.cond) HC80.out)
  have HCU1 := Lib.hid (fun W (hb : Below w0.heap.size w0 W) => curr_any r.cond (.slice A r.cond.kids.length cc) W HCN.out HF.out (HLY.out.later hb))
  obtain ⟨z, hz⟩ : ∃ z, checkU c r = z := ⟨_, rfl⟩
  rw [hz] at HCK
  have HZ := Lib.hid hz
  clear hz hlay
  generalize hl : curU r.cond = l at *
  have HLE := Lib.hid hl
  clear hl
  obtain ⟨dK, fK⟩ := H0.out.c.facts
  obtain ⟨dR, fR⟩ := H0.out.r.facts
  go_enter Tryz.func6, Tryz.ntmps6
  go_wp2_with (first | (go_at_call 7; refine (head21_any w0 _ HV.out (HB0.out.trans (H0.out.b.mono HB0.out.size))).mono ?_; rintro e w1 ⟨rfl, hb⟩; have H1 := Lib.hid (H0.out.below hb); clear dK fK dR fR; clear hb; obtain ⟨dK, fK⟩ := H1.out.c.facts; obtain ⟨dR, fR⟩ := H1.out.r.facts) | (go_at_call 8; refine (few21_any w0 cv c r (.slice A r.cond.kids.length cc) _ (HB0.out.trans (H1.out.b.mono HB0.out.size)) HCV.out HLY.out).mono ?_; rintro e w2 ⟨rfl, hb⟩; (rw [HFW.out]); have H2 := Lib.hid (H1.out.below hb); clear dK fK dR fR; clear hb; obtain ⟨dK, fK⟩ := H2.out.c.facts; obtain ⟨dR, fR⟩ := H2.out.r.facts) | (go_at_call 18; refine (HCU1.out _ (HB0.out.trans (H2.out.b.mono HB0.out.size))).mono ?_; rintro e w3 ⟨v, rfl, hrow, hb⟩; have H3 := Lib.hid (H2.out.below hb); have HS3 := Lib.hid (own_strs hrow); obtain ⟨Av, cw, rfl⟩ := own_val hrow; clear dK fK dR fR; clear hrow hb))
  go_loopw [7] (fun i wr => ∃ k : Nat, i = .int .i64 k ∧ k ≤ l.length ∧ Hid (B2 w cv #[.string r.name, .string r.kind, .int .i64 r.cond.op, .string r.cond.name, .string r.cond.value, .int .i64 r.cond.n, .int .i64 r.cond.extra, .slice A r.cond.kids.length cc] wr) ∧ Hid (Sl wr (.slice Av l.length cw) l.length 1 (strF l))) (fun i _ => l.length - (intOf i).toNat)
  case atStart => exact ⟨0, rfl, Nat.zero_le _, H3, HS3⟩
  case round =>
    obtain ⟨k, rfl, hk, HBr, HSr⟩ := hrel
    clear H0 H1 H2 H3 HS3
    by_cases hlt : k < l.length
    · have hki : (k : Int) < (l.length : Int) := by omega
      have hs3 : IntKind.i64.wrap ((k : Int) + 1) = (k : Int) + 1 := IntWalk.i64_in _ (by have := HLL.out; omega)
      obtain ⟨_, _, he, _, hc0⟩ := HSr.out
      injection he with e1 e2 e3
      subst e1
      subst e3
      obtain ⟨b, o, rfl, hcc⟩ : ∃ b o, Av = some ⟨b, o, none⟩ ∧ ∀ j, j < l.length * 1 → wr.cell? ⟨b, o + j, none⟩ = some (strF l j) := hc0.resolve_left (by omega)
      have HY := Lib.hid (show wr.cell? ⟨b, o + k, none⟩ = some (.string (l.getD k ByteArray.empty)) from hcc k (by omega))
      have HCX := Lib.hid (fun hz : z = 0 => HCK.out hz _ (getD_mem l k ByteArray.empty hlt))
      by_cases hi0 : k = 0
      · have hg0 : decide ((0 : Int) < (k : Int)) = false := decide_eq_false (by omega)
        have hg0n : decide (0 < k) = false := decide_eq_false (by omega)
        clear hcc e2 hc0 hi0
        generalize l.getD k ByteArray.empty = y at *
        by_cases hz0 : z = 0
        · have HCU := Lib.hid (HCX.out hz0)
          have hzb : (z == 0) = true := by simp [hz0]
          clear hz0 HCX
          go_wp2_with fail
          have HR8 := Lib.hid (HBr.out.below (Below.refl wr.heap.size wr).drew)
          have HB8 := Lib.hid ((Below.refl wr.heap.size wr).drew)
          refine wp_region_held_drew (S := fun W => W.cell? ⟨w.heap.size, 0, none⟩ = some cv ∧ W.cell? ⟨w.heap.size + 1, 0, none⟩ = some (.string r.name) ∧ W.cell? ⟨w.heap.size + 1, 1, none⟩ = some (.string r.kind) ∧ W.cell? ⟨w.heap.size + 1, 2, none⟩ = some (.int .i64 r.cond.op) ∧ W.cell? ⟨w.heap.size + 1, 3, none⟩ = some (.string r.cond.name) ∧ W.cell? ⟨w.heap.size + 1, 4, none⟩ = some (.string r.cond.value) ∧ W.cell? ⟨w.heap.size + 1, 5, none⟩ = some (.int .i64 r.cond.n) ∧ W.cell? ⟨w.heap.size + 1, 6, none⟩ = some (.int .i64 r.cond.extra) ∧ W.cell? ⟨w.heap.size + 1, 7, none⟩ = some (.slice A r.cond.kids.length cc) ∧ W.cell? ⟨b, o + k, none⟩ = some (.string y)) (by kernel_rfl) (⟨(HR8.out).c.cell 0, (HR8.out).r.cell 0, (HR8.out).r.cell 1, (HR8.out).r.cell 2, (HR8.out).r.cell 3, (HR8.out).r.cell 4, (HR8.out).r.cell 5, (HR8.out).r.cell 6, (HR8.out).r.cell 7, cell_later (HB8.out) HY.out⟩) (fun hHeld => ?_)
          refine plI [(0, false), (1, false)] ?_
          repeat ((first | ((with_reducible show Plan ((_, true) :: _) _); refine plF ?_) | (refine plR (v := ?_) ?_ ?_; rotate_left; focus (intro W hSW; (try dsimp only at hSW); go_simp; all_goals (with_reducible rfl)))); try simp only [Act.put, List.setIfInBounds_toArray, List.set_cons_zero, List.set_cons_succ])
          refine plE ?_
          refine wpAnyH_ready (rs := [2]) (by kernel_rfl) (by simp) ?_
          refine AllReadyH.cons (o := ⟨_, _, _, _, _, _⟩) rfl (fun K hK => ?_) AllReadyH.nil
          go_simp
          go_at_call 9; refine (tcheck_any _ (HB0.out.trans (HR8.out.b.mono HB0.out.size)) HCV.out HL.out HSH.out r (.slice A r.cond.kids.length cc) HCN.out HF.out HNM.out HKD.out HLY.out).mono ?_; rintro e u2 ⟨rfl, hb⟩; (rw [HZ.out]); have HR8_2 := Lib.hid (HR8.out.below hb); have HB8_2 := Lib.hid (HB8.out.trans (hb.mono HB8.out.size)); clear hb
          refine hK.out _ _ (⟨(HR8_2.out).c.cell 0, (HR8_2.out).r.cell 0, (HR8_2.out).r.cell 1, (HR8_2.out).r.cell 2, (HR8_2.out).r.cell 3, (HR8_2.out).r.cell 4, (HR8_2.out).r.cell 5, (HR8_2.out).r.cell 6, (HR8_2.out).r.cell 7, cell_later (HB8_2.out) HY.out⟩) (fun hHeld => ?_)
          clear hK K
          try simp only [Act.put, List.setIfInBounds_toArray, List.set_cons_zero, List.set_cons_succ]
          refine plI [(3, false), (4, false), (5, false), (6, false), (7, false), (8, false)] ?_
          repeat ((first | ((with_reducible show Plan ((_, true) :: _) _); refine plF ?_) | (refine plR (v := ?_) ?_ ?_; rotate_left; focus (intro W hSW; (try dsimp only at hSW); go_simp; all_goals (with_reducible rfl)))); try simp only [Act.put, List.setIfInBounds_toArray, List.set_cons_zero, List.set_cons_succ])
          refine plE ?_
          refine wpAnyH_ready (rs := [9]) (by kernel_rfl) (by simp) ?_
          refine AllReadyH.cons (o := ⟨_, _, _, _, _, _⟩) rfl (fun K hK => ?_) AllReadyH.nil
          go_simp
          go_at_call 20; refine (is_any y _).mono ?_; rintro e u9 ⟨rfl, hb⟩; (rw [HCU.out]); have HR8_9 := Lib.hid (HR8_2.out.below hb); have HB8_9 := Lib.hid (HB8_2.out.trans (hb.mono HB8_2.out.size)); clear hb
          refine hK.out _ _ (⟨(HR8_9.out).c.cell 0, (HR8_9.out).r.cell 0, (HR8_9.out).r.cell 1, (HR8_9.out).r.cell 2, (HR8_9.out).r.cell 3, (HR8_9.out).r.cell 4, (HR8_9.out).r.cell 5, (HR8_9.out).r.cell 6, (HR8_9.out).r.cell 7, cell_later (HB8_9.out) HY.out⟩) (fun hHeld => ?_)
          clear hK K
          try simp only [Act.put, List.setIfInBounds_toArray, List.set_cons_zero, List.set_cons_succ]
          refine plI [(10, false), (11, false), (12, false), (13, false), (14, false), (15, false), (16, true), (17, true), (18, true), (19, true), (20, true), (21, true), (22, true), (23, true), (24, true), (25, true), (26, false), (27, false)] ?_
          repeat ((first | ((with_reducible show Plan ((_, true) :: _) _); refine plF ?_) | (refine plR (v := ?_) ?_ ?_; rotate_left; focus (intro W hSW; (try dsimp only at hSW); go_simp; all_goals (with_reducible rfl)))); try simp only [Act.put, List.setIfInBounds_toArray, List.set_cons_zero, List.set_cons_succ])
          refine plE ?_
          refine wpAnyH_done (by kernel_rfl) ?_ _
          clear hHeld
          go_wp2_with fail
          go_roundw
          case rel => exact ⟨k + 1, by go_num, hlt, HR8_9, Lib.hid (HSr.out.below HB8_9.out)⟩
          case measure => simp [intOf]; omega
        · have hzb : (z == 0) = false := by simpa using hz0
          clear hz0 HCX
          go_wp2_with fail
          have HR8 := Lib.hid (HBr.out.below (Below.refl wr.heap.size wr).drew)
          have HB8 := Lib.hid ((Below.refl wr.heap.size wr).drew)
          refine wp_region_held_drew (S := fun W => W.cell? ⟨w.heap.size, 0, none⟩ = some cv ∧ W.cell? ⟨w.heap.size + 1, 0, none⟩ = some (.string r.name) ∧ W.cell? ⟨w.heap.size + 1, 1, none⟩ = some (.string r.kind) ∧ W.cell? ⟨w.heap.size + 1, 2, none⟩ = some (.int .i64 r.cond.op) ∧ W.cell? ⟨w.heap.size + 1, 3, none⟩ = some (.string r.cond.name) ∧ W.cell? ⟨w.heap.size + 1, 4, none⟩ = some (.string r.cond.value) ∧ W.cell? ⟨w.heap.size + 1, 5, none⟩ = some (.int .i64 r.cond.n) ∧ W.cell? ⟨w.heap.size + 1, 6, none⟩ = some (.int .i64 r.cond.extra) ∧ W.cell? ⟨w.heap.size + 1, 7, none⟩ = some (.slice A r.cond.kids.length cc) ∧ W.cell? ⟨b, o + k, none⟩ = some (.string y)) (by kernel_rfl) (⟨(HR8.out).c.cell 0, (HR8.out).r.cell 0, (HR8.out).r.cell 1, (HR8.out).r.cell 2, (HR8.out).r.cell 3, (HR8.out).r.cell 4, (HR8.out).r.cell 5, (HR8.out).r.cell 6, (HR8.out).r.cell 7, cell_later (HB8.out) HY.out⟩) (fun hHeld => ?_)
          refine plI [(0, false), (1, false)] ?_
          repeat ((first | ((with_reducible show Plan ((_, true) :: _) _); refine plF ?_) | (refine plR (v := ?_) ?_ ?_; rotate_left; focus (intro W hSW; (try dsimp only at hSW); go_simp; all_goals (with_reducible rfl)))); try simp only [Act.put, List.setIfInBounds_toArray, List.set_cons_zero, List.set_cons_succ])
          refine plE ?_
          refine wpAnyH_ready (rs := [2]) (by kernel_rfl) (by simp) ?_
          refine AllReadyH.cons (o := ⟨_, _, _, _, _, _⟩) rfl (fun K hK => ?_) AllReadyH.nil
          go_simp
          go_at_call 9; refine (tcheck_any _ (HB0.out.trans (HR8.out.b.mono HB0.out.size)) HCV.out HL.out HSH.out r (.slice A r.cond.kids.length cc) HCN.out HF.out HNM.out HKD.out HLY.out).mono ?_; rintro e u2 ⟨rfl, hb⟩; (rw [HZ.out]); have HR8_2 := Lib.hid (HR8.out.below hb); have HB8_2 := Lib.hid (HB8.out.trans (hb.mono HB8.out.size)); clear hb
          refine hK.out _ _ (⟨(HR8_2.out).c.cell 0, (HR8_2.out).r.cell 0, (HR8_2.out).r.cell 1, (HR8_2.out).r.cell 2, (HR8_2.out).r.cell 3, (HR8_2.out).r.cell 4, (HR8_2.out).r.cell 5, (HR8_2.out).r.cell 6, (HR8_2.out).r.cell 7, cell_later (HB8_2.out) HY.out⟩) (fun hHeld => ?_)
          clear hK K
          try simp only [Act.put, List.setIfInBounds_toArray, List.set_cons_zero, List.set_cons_succ]
          refine plI [(3, false), (4, false), (5, true), (6, true), (7, true), (8, true), (9, true), (10, true), (11, false), (12, false), (13, false), (14, false), (15, false), (16, true), (17, true), (18, true), (19, true), (20, true), (21, true), (22, true), (23, true), (24, true), (25, true), (26, false), (27, false)] ?_
          repeat ((first | ((with_reducible show Plan ((_, true) :: _) _); refine plF ?_) | (refine plR (v := ?_) ?_ ?_; rotate_left; focus (intro W hSW; (try dsimp only at hSW); go_simp; all_goals (with_reducible rfl)))); try simp only [Act.put, List.setIfInBounds_toArray, List.set_cons_zero, List.set_cons_succ])
          refine plE ?_
          refine wpAnyH_done (by kernel_rfl) ?_ _
          clear hHeld
          go_wp2_with fail
          go_roundw
          case rel => exact ⟨k + 1, by go_num, hlt, HR8_2, Lib.hid (HSr.out.below HB8_2.out)⟩
          case measure => simp [intOf]; omega
      · have hg0 : decide ((0 : Int) < (k : Int)) = true := decide_eq_true (by omega)
        have hg0n : decide (0 < k) = true := decide_eq_true (by omega)
        have HY0 := Lib.hid (show wr.cell? ⟨b, o + (k - 1), none⟩ = some (.string (l.getD (k - 1) ByteArray.empty)) from hcc (k - 1) (by omega))
        have hlt8 : Op.bytesLess (l.getD (k - 1) ByteArray.empty).toList (l.getD k ByteArray.empty).toList = true := inc_get HINC.out hi0 hlt
        have hk1 : IntKind.i64.wrap ((k : Int) - 1) = ((k - 1 : Nat) : Int) := by rw [IntWalk.i64_in _ (by have := HLL.out; omega)]; omega
        have hk2 : ((k - 1 : Nat) : Int) < (l.length : Int) := by omega
        clear hcc e2 hc0 hi0
        generalize l.getD k ByteArray.empty = y at *
        generalize l.getD (k - 1) ByteArray.empty = y0 at *
        by_cases hz0 : z = 0
        · have HCU := Lib.hid (HCX.out hz0)
          have hzb : (z == 0) = true := by simp [hz0]
          clear hz0 HCX
          go_wp2_with fail
          have HR8 := Lib.hid (HBr.out.below (Below.refl wr.heap.size wr).drew)
          have HB8 := Lib.hid ((Below.refl wr.heap.size wr).drew)
          refine wp_region_held_drew (S := fun W => W.cell? ⟨w.heap.size, 0, none⟩ = some cv ∧ W.cell? ⟨w.heap.size + 1, 0, none⟩ = some (.string r.name) ∧ W.cell? ⟨w.heap.size + 1, 1, none⟩ = some (.string r.kind) ∧ W.cell? ⟨w.heap.size + 1, 2, none⟩ = some (.int .i64 r.cond.op) ∧ W.cell? ⟨w.heap.size + 1, 3, none⟩ = some (.string r.cond.name) ∧ W.cell? ⟨w.heap.size + 1, 4, none⟩ = some (.string r.cond.value) ∧ W.cell? ⟨w.heap.size + 1, 5, none⟩ = some (.int .i64 r.cond.n) ∧ W.cell? ⟨w.heap.size + 1, 6, none⟩ = some (.int .i64 r.cond.extra) ∧ W.cell? ⟨w.heap.size + 1, 7, none⟩ = some (.slice A r.cond.kids.length cc) ∧ W.cell? ⟨b, o + k, none⟩ = some (.string y) ∧ W.cell? ⟨b, o + (k - 1), none⟩ = some (.string y0)) (by kernel_rfl) (⟨(HR8.out).c.cell 0, (HR8.out).r.cell 0, (HR8.out).r.cell 1, (HR8.out).r.cell 2, (HR8.out).r.cell 3, (HR8.out).r.cell 4, (HR8.out).r.cell 5, (HR8.out).r.cell 6, (HR8.out).r.cell 7, cell_later (HB8.out) HY.out, cell_later (HB8.out) HY0.out⟩) (fun hHeld => ?_)
          refine plI [(0, false), (1, false)] ?_
          repeat ((first | ((with_reducible show Plan ((_, true) :: _) _); refine plF ?_) | (refine plR (v := ?_) ?_ ?_; rotate_left; focus (intro W hSW; (try dsimp only at hSW); go_simp; all_goals (with_reducible rfl)))); try simp only [Act.put, List.setIfInBounds_toArray, List.set_cons_zero, List.set_cons_succ])
          refine plE ?_
          refine wpAnyH_ready (rs := [2]) (by kernel_rfl) (by simp) ?_
          refine AllReadyH.cons (o := ⟨_, _, _, _, _, _⟩) rfl (fun K hK => ?_) AllReadyH.nil
          go_simp
          go_at_call 9; refine (tcheck_any _ (HB0.out.trans (HR8.out.b.mono HB0.out.size)) HCV.out HL.out HSH.out r (.slice A r.cond.kids.length cc) HCN.out HF.out HNM.out HKD.out HLY.out).mono ?_; rintro e u2 ⟨rfl, hb⟩; (rw [HZ.out]); have HR8_2 := Lib.hid (HR8.out.below hb); have HB8_2 := Lib.hid (HB8.out.trans (hb.mono HB8.out.size)); clear hb
          refine hK.out _ _ (⟨(HR8_2.out).c.cell 0, (HR8_2.out).r.cell 0, (HR8_2.out).r.cell 1, (HR8_2.out).r.cell 2, (HR8_2.out).r.cell 3, (HR8_2.out).r.cell 4, (HR8_2.out).r.cell 5, (HR8_2.out).r.cell 6, (HR8_2.out).r.cell 7, cell_later (HB8_2.out) HY.out, cell_later (HB8_2.out) HY0.out⟩) (fun hHeld => ?_)
          clear hK K
          try simp only [Act.put, List.setIfInBounds_toArray, List.set_cons_zero, List.set_cons_succ]
          refine plI [(3, false), (4, false), (5, false), (6, false), (7, false), (8, false)] ?_
          repeat ((first | ((with_reducible show Plan ((_, true) :: _) _); refine plF ?_) | (refine plR (v := ?_) ?_ ?_; rotate_left; focus (intro W hSW; (try dsimp only at hSW); go_simp; all_goals (with_reducible rfl)))); try simp only [Act.put, List.setIfInBounds_toArray, List.set_cons_zero, List.set_cons_succ])
          refine plE ?_
          refine wpAnyH_ready (rs := [9]) (by kernel_rfl) (by simp) ?_
          refine AllReadyH.cons (o := ⟨_, _, _, _, _, _⟩) rfl (fun K hK => ?_) AllReadyH.nil
          go_simp
          go_at_call 20; refine (is_any y _).mono ?_; rintro e u9 ⟨rfl, hb⟩; (rw [HCU.out]); have HR8_9 := Lib.hid (HR8_2.out.below hb); have HB8_9 := Lib.hid (HB8_2.out.trans (hb.mono HB8_2.out.size)); clear hb
          refine hK.out _ _ (⟨(HR8_9.out).c.cell 0, (HR8_9.out).r.cell 0, (HR8_9.out).r.cell 1, (HR8_9.out).r.cell 2, (HR8_9.out).r.cell 3, (HR8_9.out).r.cell 4, (HR8_9.out).r.cell 5, (HR8_9.out).r.cell 6, (HR8_9.out).r.cell 7, cell_later (HB8_9.out) HY.out, cell_later (HB8_9.out) HY0.out⟩) (fun hHeld => ?_)
          clear hK K
          try simp only [Act.put, List.setIfInBounds_toArray, List.set_cons_zero, List.set_cons_succ]
          refine plI [(10, false), (11, false), (12, false), (13, false), (14, false), (15, false), (16, false), (17, false), (18, false), (19, false), (20, false), (21, false), (22, false), (23, false), (24, false), (25, false), (26, false), (27, false)] ?_
          repeat ((first | ((with_reducible show Plan ((_, true) :: _) _); refine plF ?_) | (refine plR (v := ?_) ?_ ?_; rotate_left; focus (intro W hSW; (try dsimp only at hSW); go_simp; all_goals (with_reducible rfl)))); try simp only [Act.put, List.setIfInBounds_toArray, List.set_cons_zero, List.set_cons_succ])
          refine plE ?_
          refine wpAnyH_done (by kernel_rfl) ?_ _
          clear hHeld
          go_wp2_with fail
          go_roundw
          case rel => exact ⟨k + 1, by go_num, hlt, HR8_9, Lib.hid (HSr.out.below HB8_9.out)⟩
          case measure => simp [intOf]; omega
        · have hzb : (z == 0) = false := by simpa using hz0
          clear hz0 HCX
          go_wp2_with fail
          have HR8 := Lib.hid (HBr.out.below (Below.refl wr.heap.size wr).drew)
          have HB8 := Lib.hid ((Below.refl wr.heap.size wr).drew)
          refine wp_region_held_drew (S := fun W => W.cell? ⟨w.heap.size, 0, none⟩ = some cv ∧ W.cell? ⟨w.heap.size + 1, 0, none⟩ = some (.string r.name) ∧ W.cell? ⟨w.heap.size + 1, 1, none⟩ = some (.string r.kind) ∧ W.cell? ⟨w.heap.size + 1, 2, none⟩ = some (.int .i64 r.cond.op) ∧ W.cell? ⟨w.heap.size + 1, 3, none⟩ = some (.string r.cond.name) ∧ W.cell? ⟨w.heap.size + 1, 4, none⟩ = some (.string r.cond.value) ∧ W.cell? ⟨w.heap.size + 1, 5, none⟩ = some (.int .i64 r.cond.n) ∧ W.cell? ⟨w.heap.size + 1, 6, none⟩ = some (.int .i64 r.cond.extra) ∧ W.cell? ⟨w.heap.size + 1, 7, none⟩ = some (.slice A r.cond.kids.length cc) ∧ W.cell? ⟨b, o + k, none⟩ = some (.string y) ∧ W.cell? ⟨b, o + (k - 1), none⟩ = some (.string y0)) (by kernel_rfl) (⟨(HR8.out).c.cell 0, (HR8.out).r.cell 0, (HR8.out).r.cell 1, (HR8.out).r.cell 2, (HR8.out).r.cell 3, (HR8.out).r.cell 4, (HR8.out).r.cell 5, (HR8.out).r.cell 6, (HR8.out).r.cell 7, cell_later (HB8.out) HY.out, cell_later (HB8.out) HY0.out⟩) (fun hHeld => ?_)
          refine plI [(0, false), (1, false)] ?_
          repeat ((first | ((with_reducible show Plan ((_, true) :: _) _); refine plF ?_) | (refine plR (v := ?_) ?_ ?_; rotate_left; focus (intro W hSW; (try dsimp only at hSW); go_simp; all_goals (with_reducible rfl)))); try simp only [Act.put, List.setIfInBounds_toArray, List.set_cons_zero, List.set_cons_succ])
          refine plE ?_
          refine wpAnyH_ready (rs := [2]) (by kernel_rfl) (by simp) ?_
          refine AllReadyH.cons (o := ⟨_, _, _, _, _, _⟩) rfl (fun K hK => ?_) AllReadyH.nil
          go_simp
          go_at_call 9; refine (tcheck_any _ (HB0.out.trans (HR8.out.b.mono HB0.out.size)) HCV.out HL.out HSH.out r (.slice A r.cond.kids.length cc) HCN.out HF.out HNM.out HKD.out HLY.out).mono ?_; rintro e u2 ⟨rfl, hb⟩; (rw [HZ.out]); have HR8_2 := Lib.hid (HR8.out.below hb); have HB8_2 := Lib.hid (HB8.out.trans (hb.mono HB8.out.size)); clear hb
          refine hK.out _ _ (⟨(HR8_2.out).c.cell 0, (HR8_2.out).r.cell 0, (HR8_2.out).r.cell 1, (HR8_2.out).r.cell 2, (HR8_2.out).r.cell 3, (HR8_2.out).r.cell 4, (HR8_2.out).r.cell 5, (HR8_2.out).r.cell 6, (HR8_2.out).r.cell 7, cell_later (HB8_2.out) HY.out, cell_later (HB8_2.out) HY0.out⟩) (fun hHeld => ?_)
          clear hK K
          try simp only [Act.put, List.setIfInBounds_toArray, List.set_cons_zero, List.set_cons_succ]
          refine plI [(3, false), (4, false), (5, true), (6, true), (7, true), (8, true), (9, true), (10, true), (11, false), (12, false), (13, false), (14, false), (15, false), (16, false), (17, false), (18, false), (19, false), (20, false), (21, false), (22, false), (23, false), (24, false), (25, false), (26, false), (27, false)] ?_
          repeat ((first | ((with_reducible show Plan ((_, true) :: _) _); refine plF ?_) | (refine plR (v := ?_) ?_ ?_; rotate_left; focus (intro W hSW; (try dsimp only at hSW); go_simp; all_goals (with_reducible rfl)))); try simp only [Act.put, List.setIfInBounds_toArray, List.set_cons_zero, List.set_cons_succ])
          refine plE ?_
          refine wpAnyH_done (by kernel_rfl) ?_ _
          clear hHeld
          go_wp2_with fail
          go_roundw
          case rel => exact ⟨k + 1, by go_num, hlt, HR8_2, Lib.hid (HSr.out.below HB8_2.out)⟩
          case measure => simp [intOf]; omega
    · have hki : ¬ (k : Int) < (l.length : Int) := by omega
      obtain rfl : k = l.length := by omega
      obtain ⟨dK, fK⟩ := HBr.out.c.facts; obtain ⟨dR, fR⟩ := HBr.out.r.facts
      have HRK := Lib.hid (valid_any (rkU r.cond) (.slice A r.cond.kids.length cc) wr HCN.out HF.out (show (1 : Nat) ≤ maxLen from (by decide)) (show (1 : Nat) ≤ maxLen from (by decide)) (HLY.out.later (HB0.out.trans (HBr.out.b.mono HB0.out.size))))
      go_wp2_with (go_at_call 11; refine HRK.out.mono ?_; rintro e w9 ⟨rfl, hb⟩; (rw [HRV.out]); have H9 := Lib.hid (HBr.out.below hb); have HS9 := Lib.hid (HSr.out.below hb); clear dK fK dR fR; clear hb; obtain ⟨dK, fK⟩ := H9.out.c.facts; obtain ⟨dR, fR⟩ := H9.out.r.facts)
      have hl1 : l.length = 1 := by rw [HLZ.out]; rfl
      have a1 : decide ((l.length : Int) ≤ 1) = true := decide_eq_true (by omega)
      have a2 : decide (l.length ≤ 1) = true := decide_eq_true (by omega)
      have a3 : ((l.length : Int) == 1) = true := by simp [hl1]
      have a4 : (0 : Int) < (l.length : Int) := by omega
      have a5 : 0 < l.length := by omega
      obtain ⟨_, _, he, _, hc0⟩ := HS9.out
      injection he with e1 e2 e3
      subst e1
      subst e3
      obtain ⟨b, o, rfl, hcc⟩ : ∃ b o, Av = some ⟨b, o, none⟩ ∧ ∀ j, j < l.length * 1 → w9.cell? ⟨b, o + j, none⟩ = some (strF l j) := hc0.resolve_left (by omega)
      have HY0 := Lib.hid (show w9.cell? ⟨b, o, none⟩ = some (.string r.cond.name) by have := hcc 0 (by omega); rw [HLZ.out] at this; exact this)
      clear hcc e2 hc0 hl1
      refine wp_region_held_drew (S := fun W => W.cell? ⟨w.heap.size, 0, none⟩ = some cv ∧ W.cell? ⟨w.heap.size + 1, 0, none⟩ = some (.string r.name) ∧ W.cell? ⟨w.heap.size + 1, 1, none⟩ = some (.string r.kind) ∧ W.cell? ⟨w.heap.size + 1, 2, none⟩ = some (.int .i64 r.cond.op) ∧ W.cell? ⟨w.heap.size + 1, 3, none⟩ = some (.string r.cond.name) ∧ W.cell? ⟨w.heap.size + 1, 4, none⟩ = some (.string r.cond.value) ∧ W.cell? ⟨w.heap.size + 1, 5, none⟩ = some (.int .i64 r.cond.n) ∧ W.cell? ⟨w.heap.size + 1, 6, none⟩ = some (.int .i64 r.cond.extra) ∧ W.cell? ⟨w.heap.size + 1, 7, none⟩ = some (.slice A r.cond.kids.length cc) ∧ W.cell? ⟨b, o, none⟩ = some (.string r.cond.name)) (by kernel_rfl) (⟨((H9.out.below (Below.refl w9.heap.size w9).drew)).c.cell 0, ((H9.out.below (Below.refl w9.heap.size w9).drew)).r.cell 0, ((H9.out.below (Below.refl w9.heap.size w9).drew)).r.cell 1, ((H9.out.below (Below.refl w9.heap.size w9).drew)).r.cell 2, ((H9.out.below (Below.refl w9.heap.size w9).drew)).r.cell 3, ((H9.out.below (Below.refl w9.heap.size w9).drew)).r.cell 4, ((H9.out.below (Below.refl w9.heap.size w9).drew)).r.cell 5, ((H9.out.below (Below.refl w9.heap.size w9).drew)).r.cell 6, ((H9.out.below (Below.refl w9.heap.size w9).drew)).r.cell 7, HY0.out⟩) (fun hHeld => ?_)
      refine plI [(0, false), (1, false), (2, false), (3, false), (4, false), (5, false), (6, false), (7, false), (8, false), (9, false), (10, false), (11, false), (12, false), (13, false), (14, false), (15, false), (16, false), (17, false), (18, false), (19, false), (20, false), (21, false), (22, false), (23, false), (24, false), (25, false), (26, false), (27, false), (28, false), (29, false), (30, false), (31, false)] ?_
      repeat ((first | ((with_reducible show Plan ((_, true) :: _) _); refine plF ?_) | (refine plR (v := ?_) ?_ ?_; rotate_left; focus (intro W hSW; (try dsimp only at hSW); go_simp; all_goals (with_reducible rfl)))); try simp only [Act.put, List.setIfInBounds_toArray, List.set_cons_zero, List.set_cons_succ])
      refine plE ?_
      refine wpAnyH_done (by kernel_rfl) ?_ _
      clear hHeld
      go_wp2_with fail
      go_ret
      exact ⟨rfl, H9.out.b.drew⟩
set_option maxRecDepth 100000 in
set_option maxHeartbeats 8000000 in
theorem tc_none (w0 : World) (hv : Evs w0) (cv : Value) (c : List Kd) (r : Ru) (A : Option Addr) (cc : Nat) (w : World) (hb0 : Below w0.heap.size w0 w) (hcv : Cat w0 cv c) (hlay : Lay w0 (.slice A r.cond.kids.length cc) r.cond.kids) (hf : FitE r.cond) (hnm : r.name.size ≤ maxLen) (hkd : r.kind.size ≤ maxLen) (hfew : (fewCa c && fewU r) = true) (hr : ruleB (rkU r.cond) = true) (hk : r.cond.kids = []) (ho : ¬ (r.cond.op = 5 ∨ r.cond.op = 6)) : Calls Tryz.prog 6 #[.agg #[cv], .agg #[.string r.name, .string r.kind, .int .i64 r.cond.op, .string r.cond.name, .string r.cond.value, .int .i64 r.cond.n, .int .i64 r.cond.extra, .slice A r.cond.kids.length cc]] w fun e w' => e = .returned (.bool true) ∧ Below w.heap.size w w' := by
  have HCK := Lib.hid (fun (hz : checkU c r = 0) (x : ByteArray) (hx : x ∈ curU r.cond) => (show curB x = true from check_cur hz (cur_mem hx)))
  have HINC := Lib.hid (cur_inc r.cond)
  have HRV := Lib.hid hr
  have HLZ := Lib.hid (show curU r.cond = [] by rw [show curU r.cond = sortD (limL r.cond) from if_pos hr, cur_leaf hk]; rw [if_neg ho]; exact sortD_nil)
  have hkl0 : ((r.cond.kids.length : Int) == 0) = true := by simp [hk]
  have hkl0n : (r.cond.kids.length == 0) = true := by simp [hk]
  have hkl0e : r.cond.kids.isEmpty = true := by simp [hk]
  have ho5 : (r.cond.op == 5) = false := by simp; omega
  have ho6 : (r.cond.op == 6) = false := by simp; omega
  clear hr hk ho
  have H0 := Lib.hid (B2.start w cv #[.string r.name, .string r.kind, .int .i64 r.cond.op, .string r.cond.name, .string r.cond.value, .int .i64 r.cond.n, .int .i64 r.cond.extra, .slice A r.cond.kids.length cc])
  have HB0 := Lib.hid hb0
  have HCV := Lib.hid hcv
  have HLY := Lib.hid hlay
  have HV := Lib.hid hv
  clear hb0 hcv hlay hv
  have hlay := HLY.out
  have HFW := Lib.hid hfew
  have hfew2 := hfew
  rw [Bool.and_eq_true] at hfew2
  have HL := Lib.hid (show c.length ≤ 100000 by have := (fewCa_short hfew2.1).1; omega)
  have HSH := Lib.hid (fewCa_short hfew2.1).2
  have HCN := Lib.hid (show cnt r.cond ≤ 1000000 by have := fewU_cnt hfew2.2; omega)
  have HC80 := Lib.hid (fewU_cnt hfew2.2)
  have HF := Lib.hid hf
  have HNM := Lib.hid hnm
  have HKD := Lib.hid hkd
  clear hfew hfew2 hf hnm hkd
  have HLL := Lib.hid (show (curU r.cond).length ≤ 80 from Nat.le_trans (cur_len r.cond) HC80.out)
  have HCU1 := Lib.hid (fun W (hb : Below w0.heap.size w0 W) => curr_any r.cond (.slice A r.cond.kids.length cc) W HCN.out HF.out (HLY.out.later hb))
  obtain ⟨z, hz⟩ : ∃ z, checkU c r = z := ⟨_, rfl⟩
  rw [hz] at HCK
  have HZ := Lib.hid hz
  clear hz hlay
  generalize hl : curU r.cond = l at *
  have HLE := Lib.hid hl
  clear hl
  obtain ⟨dK, fK⟩ := H0.out.c.facts
  obtain ⟨dR, fR⟩ := H0.out.r.facts
  go_enter Tryz.func6, Tryz.ntmps6
  go_wp2_with (first | (go_at_call 7; refine (head21_any w0 _ HV.out (HB0.out.trans (H0.out.b.mono HB0.out.size))).mono ?_; rintro e w1 ⟨rfl, hb⟩; have H1 := Lib.hid (H0.out.below hb); clear dK fK dR fR; clear hb; obtain ⟨dK, fK⟩ := H1.out.c.facts; obtain ⟨dR, fR⟩ := H1.out.r.facts) | (go_at_call 8; refine (few21_any w0 cv c r (.slice A r.cond.kids.length cc) _ (HB0.out.trans (H1.out.b.mono HB0.out.size)) HCV.out HLY.out).mono ?_; rintro e w2 ⟨rfl, hb⟩; (rw [HFW.out]); have H2 := Lib.hid (H1.out.below hb); clear dK fK dR fR; clear hb; obtain ⟨dK, fK⟩ := H2.out.c.facts; obtain ⟨dR, fR⟩ := H2.out.r.facts) | (go_at_call 18; refine (HCU1.out _ (HB0.out.trans (H2.out.b.mono HB0.out.size))).mono ?_; rintro e w3 ⟨v, rfl, hrow, hb⟩; have H3 := Lib.hid (H2.out.below hb); have HS3 := Lib.hid (own_strs hrow); obtain ⟨Av, cw, rfl⟩ := own_val hrow; clear dK fK dR fR; clear hrow hb))
  go_loopw [7] (fun i wr => ∃ k : Nat, i = .int .i64 k ∧ k ≤ l.length ∧ Hid (B2 w cv #[.string r.name, .string r.kind, .int .i64 r.cond.op, .string r.cond.name, .string r.cond.value, .int .i64 r.cond.n, .int .i64 r.cond.extra, .slice A r.cond.kids.length cc] wr) ∧ Hid (Sl wr (.slice Av l.length cw) l.length 1 (strF l))) (fun i _ => l.length - (intOf i).toNat)
  case atStart => exact ⟨0, rfl, Nat.zero_le _, H3, HS3⟩
  case round =>
    obtain ⟨k, rfl, hk, HBr, HSr⟩ := hrel
    clear H0 H1 H2 H3 HS3
    by_cases hlt : k < l.length
    · have hki : (k : Int) < (l.length : Int) := by omega
      have hs3 : IntKind.i64.wrap ((k : Int) + 1) = (k : Int) + 1 := IntWalk.i64_in _ (by have := HLL.out; omega)
      obtain ⟨_, _, he, _, hc0⟩ := HSr.out
      injection he with e1 e2 e3
      subst e1
      subst e3
      obtain ⟨b, o, rfl, hcc⟩ : ∃ b o, Av = some ⟨b, o, none⟩ ∧ ∀ j, j < l.length * 1 → wr.cell? ⟨b, o + j, none⟩ = some (strF l j) := hc0.resolve_left (by omega)
      have HY := Lib.hid (show wr.cell? ⟨b, o + k, none⟩ = some (.string (l.getD k ByteArray.empty)) from hcc k (by omega))
      have HCX := Lib.hid (fun hz : z = 0 => HCK.out hz _ (getD_mem l k ByteArray.empty hlt))
      by_cases hi0 : k = 0
      · have hg0 : decide ((0 : Int) < (k : Int)) = false := decide_eq_false (by omega)
        have hg0n : decide (0 < k) = false := decide_eq_false (by omega)
        clear hcc e2 hc0 hi0
        generalize l.getD k ByteArray.empty = y at *
        by_cases hz0 : z = 0
        · have HCU := Lib.hid (HCX.out hz0)
          have hzb : (z == 0) = true := by simp [hz0]
          clear hz0 HCX
          go_wp2_with fail
          have HR8 := Lib.hid (HBr.out.below (Below.refl wr.heap.size wr).drew)
          have HB8 := Lib.hid ((Below.refl wr.heap.size wr).drew)
          refine wp_region_held_drew (S := fun W => W.cell? ⟨w.heap.size, 0, none⟩ = some cv ∧ W.cell? ⟨w.heap.size + 1, 0, none⟩ = some (.string r.name) ∧ W.cell? ⟨w.heap.size + 1, 1, none⟩ = some (.string r.kind) ∧ W.cell? ⟨w.heap.size + 1, 2, none⟩ = some (.int .i64 r.cond.op) ∧ W.cell? ⟨w.heap.size + 1, 3, none⟩ = some (.string r.cond.name) ∧ W.cell? ⟨w.heap.size + 1, 4, none⟩ = some (.string r.cond.value) ∧ W.cell? ⟨w.heap.size + 1, 5, none⟩ = some (.int .i64 r.cond.n) ∧ W.cell? ⟨w.heap.size + 1, 6, none⟩ = some (.int .i64 r.cond.extra) ∧ W.cell? ⟨w.heap.size + 1, 7, none⟩ = some (.slice A r.cond.kids.length cc) ∧ W.cell? ⟨b, o + k, none⟩ = some (.string y)) (by kernel_rfl) (⟨(HR8.out).c.cell 0, (HR8.out).r.cell 0, (HR8.out).r.cell 1, (HR8.out).r.cell 2, (HR8.out).r.cell 3, (HR8.out).r.cell 4, (HR8.out).r.cell 5, (HR8.out).r.cell 6, (HR8.out).r.cell 7, cell_later (HB8.out) HY.out⟩) (fun hHeld => ?_)
          refine plI [(0, false), (1, false)] ?_
          repeat ((first | ((with_reducible show Plan ((_, true) :: _) _); refine plF ?_) | (refine plR (v := ?_) ?_ ?_; rotate_left; focus (intro W hSW; (try dsimp only at hSW); go_simp; all_goals (with_reducible rfl)))); try simp only [Act.put, List.setIfInBounds_toArray, List.set_cons_zero, List.set_cons_succ])
          refine plE ?_
          refine wpAnyH_ready (rs := [2]) (by kernel_rfl) (by simp) ?_
          refine AllReadyH.cons (o := ⟨_, _, _, _, _, _⟩) rfl (fun K hK => ?_) AllReadyH.nil
          go_simp
          go_at_call 9; refine (tcheck_any _ (HB0.out.trans (HR8.out.b.mono HB0.out.size)) HCV.out HL.out HSH.out r (.slice A r.cond.kids.length cc) HCN.out HF.out HNM.out HKD.out HLY.out).mono ?_; rintro e u2 ⟨rfl, hb⟩; (rw [HZ.out]); have HR8_2 := Lib.hid (HR8.out.below hb); have HB8_2 := Lib.hid (HB8.out.trans (hb.mono HB8.out.size)); clear hb
          refine hK.out _ _ (⟨(HR8_2.out).c.cell 0, (HR8_2.out).r.cell 0, (HR8_2.out).r.cell 1, (HR8_2.out).r.cell 2, (HR8_2.out).r.cell 3, (HR8_2.out).r.cell 4, (HR8_2.out).r.cell 5, (HR8_2.out).r.cell 6, (HR8_2.out).r.cell 7, cell_later (HB8_2.out) HY.out⟩) (fun hHeld => ?_)
          clear hK K
          try simp only [Act.put, List.setIfInBounds_toArray, List.set_cons_zero, List.set_cons_succ]
          refine plI [(3, false), (4, false), (5, false), (6, false), (7, false), (8, false)] ?_
          repeat ((first | ((with_reducible show Plan ((_, true) :: _) _); refine plF ?_) | (refine plR (v := ?_) ?_ ?_; rotate_left; focus (intro W hSW; (try dsimp only at hSW); go_simp; all_goals (with_reducible rfl)))); try simp only [Act.put, List.setIfInBounds_toArray, List.set_cons_zero, List.set_cons_succ])
          refine plE ?_
          refine wpAnyH_ready (rs := [9]) (by kernel_rfl) (by simp) ?_
          refine AllReadyH.cons (o := ⟨_, _, _, _, _, _⟩) rfl (fun K hK => ?_) AllReadyH.nil
          go_simp
          go_at_call 20; refine (is_any y _).mono ?_; rintro e u9 ⟨rfl, hb⟩; (rw [HCU.out]); have HR8_9 := Lib.hid (HR8_2.out.below hb); have HB8_9 := Lib.hid (HB8_2.out.trans (hb.mono HB8_2.out.size)); clear hb
          refine hK.out _ _ (⟨(HR8_9.out).c.cell 0, (HR8_9.out).r.cell 0, (HR8_9.out).r.cell 1, (HR8_9.out).r.cell 2, (HR8_9.out).r.cell 3, (HR8_9.out).r.cell 4, (HR8_9.out).r.cell 5, (HR8_9.out).r.cell 6, (HR8_9.out).r.cell 7, cell_later (HB8_9.out) HY.out⟩) (fun hHeld => ?_)
          clear hK K
          try simp only [Act.put, List.setIfInBounds_toArray, List.set_cons_zero, List.set_cons_succ]
          refine plI [(10, false), (11, false), (12, false), (13, false), (14, false), (15, false), (16, true), (17, true), (18, true), (19, true), (20, true), (21, true), (22, true), (23, true), (24, true), (25, true), (26, false), (27, false)] ?_
          repeat ((first | ((with_reducible show Plan ((_, true) :: _) _); refine plF ?_) | (refine plR (v := ?_) ?_ ?_; rotate_left; focus (intro W hSW; (try dsimp only at hSW); go_simp; all_goals (with_reducible rfl)))); try simp only [Act.put, List.setIfInBounds_toArray, List.set_cons_zero, List.set_cons_succ])
          refine plE ?_
          refine wpAnyH_done (by kernel_rfl) ?_ _
          clear hHeld
          go_wp2_with fail
          go_roundw
          case rel => exact ⟨k + 1, by go_num, hlt, HR8_9, Lib.hid (HSr.out.below HB8_9.out)⟩
          case measure => simp [intOf]; omega
        · have hzb : (z == 0) = false := by simpa using hz0
          clear hz0 HCX
          go_wp2_with fail
          have HR8 := Lib.hid (HBr.out.below (Below.refl wr.heap.size wr).drew)
          have HB8 := Lib.hid ((Below.refl wr.heap.size wr).drew)
          refine wp_region_held_drew (S := fun W => W.cell? ⟨w.heap.size, 0, none⟩ = some cv ∧ W.cell? ⟨w.heap.size + 1, 0, none⟩ = some (.string r.name) ∧ W.cell? ⟨w.heap.size + 1, 1, none⟩ = some (.string r.kind) ∧ W.cell? ⟨w.heap.size + 1, 2, none⟩ = some (.int .i64 r.cond.op) ∧ W.cell? ⟨w.heap.size + 1, 3, none⟩ = some (.string r.cond.name) ∧ W.cell? ⟨w.heap.size + 1, 4, none⟩ = some (.string r.cond.value) ∧ W.cell? ⟨w.heap.size + 1, 5, none⟩ = some (.int .i64 r.cond.n) ∧ W.cell? ⟨w.heap.size + 1, 6, none⟩ = some (.int .i64 r.cond.extra) ∧ W.cell? ⟨w.heap.size + 1, 7, none⟩ = some (.slice A r.cond.kids.length cc) ∧ W.cell? ⟨b, o + k, none⟩ = some (.string y)) (by kernel_rfl) (⟨(HR8.out).c.cell 0, (HR8.out).r.cell 0, (HR8.out).r.cell 1, (HR8.out).r.cell 2, (HR8.out).r.cell 3, (HR8.out).r.cell 4, (HR8.out).r.cell 5, (HR8.out).r.cell 6, (HR8.out).r.cell 7, cell_later (HB8.out) HY.out⟩) (fun hHeld => ?_)
          refine plI [(0, false), (1, false)] ?_
          repeat ((first | ((with_reducible show Plan ((_, true) :: _) _); refine plF ?_) | (refine plR (v := ?_) ?_ ?_; rotate_left; focus (intro W hSW; (try dsimp only at hSW); go_simp; all_goals (with_reducible rfl)))); try simp only [Act.put, List.setIfInBounds_toArray, List.set_cons_zero, List.set_cons_succ])
          refine plE ?_
          refine wpAnyH_ready (rs := [2]) (by kernel_rfl) (by simp) ?_
          refine AllReadyH.cons (o := ⟨_, _, _, _, _, _⟩) rfl (fun K hK => ?_) AllReadyH.nil
          go_simp
          go_at_call 9; refine (tcheck_any _ (HB0.out.trans (HR8.out.b.mono HB0.out.size)) HCV.out HL.out HSH.out r (.slice A r.cond.kids.length cc) HCN.out HF.out HNM.out HKD.out HLY.out).mono ?_; rintro e u2 ⟨rfl, hb⟩; (rw [HZ.out]); have HR8_2 := Lib.hid (HR8.out.below hb); have HB8_2 := Lib.hid (HB8.out.trans (hb.mono HB8.out.size)); clear hb
          refine hK.out _ _ (⟨(HR8_2.out).c.cell 0, (HR8_2.out).r.cell 0, (HR8_2.out).r.cell 1, (HR8_2.out).r.cell 2, (HR8_2.out).r.cell 3, (HR8_2.out).r.cell 4, (HR8_2.out).r.cell 5, (HR8_2.out).r.cell 6, (HR8_2.out).r.cell 7, cell_later (HB8_2.out) HY.out⟩) (fun hHeld => ?_)
          clear hK K
          try simp only [Act.put, List.setIfInBounds_toArray, List.set_cons_zero, List.set_cons_succ]
          refine plI [(3, false), (4, false), (5, true), (6, true), (7, true), (8, true), (9, true), (10, true), (11, false), (12, false), (13, false), (14, false), (15, false), (16, true), (17, true), (18, true), (19, true), (20, true), (21, true), (22, true), (23, true), (24, true), (25, true), (26, false), (27, false)] ?_
          repeat ((first | ((with_reducible show Plan ((_, true) :: _) _); refine plF ?_) | (refine plR (v := ?_) ?_ ?_; rotate_left; focus (intro W hSW; (try dsimp only at hSW); go_simp; all_goals (with_reducible rfl)))); try simp only [Act.put, List.setIfInBounds_toArray, List.set_cons_zero, List.set_cons_succ])
          refine plE ?_
          refine wpAnyH_done (by kernel_rfl) ?_ _
          clear hHeld
          go_wp2_with fail
          go_roundw
          case rel => exact ⟨k + 1, by go_num, hlt, HR8_2, Lib.hid (HSr.out.below HB8_2.out)⟩
          case measure => simp [intOf]; omega
      · have hg0 : decide ((0 : Int) < (k : Int)) = true := decide_eq_true (by omega)
        have hg0n : decide (0 < k) = true := decide_eq_true (by omega)
        have HY0 := Lib.hid (show wr.cell? ⟨b, o + (k - 1), none⟩ = some (.string (l.getD (k - 1) ByteArray.empty)) from hcc (k - 1) (by omega))
        have hlt8 : Op.bytesLess (l.getD (k - 1) ByteArray.empty).toList (l.getD k ByteArray.empty).toList = true := inc_get HINC.out hi0 hlt
        have hk1 : IntKind.i64.wrap ((k : Int) - 1) = ((k - 1 : Nat) : Int) := by rw [IntWalk.i64_in _ (by have := HLL.out; omega)]; omega
        have hk2 : ((k - 1 : Nat) : Int) < (l.length : Int) := by omega
        clear hcc e2 hc0 hi0
        generalize l.getD k ByteArray.empty = y at *
        generalize l.getD (k - 1) ByteArray.empty = y0 at *
        by_cases hz0 : z = 0
        · have HCU := Lib.hid (HCX.out hz0)
          have hzb : (z == 0) = true := by simp [hz0]
          clear hz0 HCX
          go_wp2_with fail
          have HR8 := Lib.hid (HBr.out.below (Below.refl wr.heap.size wr).drew)
          have HB8 := Lib.hid ((Below.refl wr.heap.size wr).drew)
          refine wp_region_held_drew (S := fun W => W.cell? ⟨w.heap.size, 0, none⟩ = some cv ∧ W.cell? ⟨w.heap.size + 1, 0, none⟩ = some (.string r.name) ∧ W.cell? ⟨w.heap.size + 1, 1, none⟩ = some (.string r.kind) ∧ W.cell? ⟨w.heap.size + 1, 2, none⟩ = some (.int .i64 r.cond.op) ∧ W.cell? ⟨w.heap.size + 1, 3, none⟩ = some (.string r.cond.name) ∧ W.cell? ⟨w.heap.size + 1, 4, none⟩ = some (.string r.cond.value) ∧ W.cell? ⟨w.heap.size + 1, 5, none⟩ = some (.int .i64 r.cond.n) ∧ W.cell? ⟨w.heap.size + 1, 6, none⟩ = some (.int .i64 r.cond.extra) ∧ W.cell? ⟨w.heap.size + 1, 7, none⟩ = some (.slice A r.cond.kids.length cc) ∧ W.cell? ⟨b, o + k, none⟩ = some (.string y) ∧ W.cell? ⟨b, o + (k - 1), none⟩ = some (.string y0)) (by kernel_rfl) (⟨(HR8.out).c.cell 0, (HR8.out).r.cell 0, (HR8.out).r.cell 1, (HR8.out).r.cell 2, (HR8.out).r.cell 3, (HR8.out).r.cell 4, (HR8.out).r.cell 5, (HR8.out).r.cell 6, (HR8.out).r.cell 7, cell_later (HB8.out) HY.out, cell_later (HB8.out) HY0.out⟩) (fun hHeld => ?_)
          refine plI [(0, false), (1, false)] ?_
          repeat ((first | ((with_reducible show Plan ((_, true) :: _) _); refine plF ?_) | (refine plR (v := ?_) ?_ ?_; rotate_left; focus (intro W hSW; (try dsimp only at hSW); go_simp; all_goals (with_reducible rfl)))); try simp only [Act.put, List.setIfInBounds_toArray, List.set_cons_zero, List.set_cons_succ])
          refine plE ?_
          refine wpAnyH_ready (rs := [2]) (by kernel_rfl) (by simp) ?_
          refine AllReadyH.cons (o := ⟨_, _, _, _, _, _⟩) rfl (fun K hK => ?_) AllReadyH.nil
          go_simp
          go_at_call 9; refine (tcheck_any _ (HB0.out.trans (HR8.out.b.mono HB0.out.size)) HCV.out HL.out HSH.out r (.slice A r.cond.kids.length cc) HCN.out HF.out HNM.out HKD.out HLY.out).mono ?_; rintro e u2 ⟨rfl, hb⟩; (rw [HZ.out]); have HR8_2 := Lib.hid (HR8.out.below hb); have HB8_2 := Lib.hid (HB8.out.trans (hb.mono HB8.out.size)); clear hb
          refine hK.out _ _ (⟨(HR8_2.out).c.cell 0, (HR8_2.out).r.cell 0, (HR8_2.out).r.cell 1, (HR8_2.out).r.cell 2, (HR8_2.out).r.cell 3, (HR8_2.out).r.cell 4, (HR8_2.out).r.cell 5, (HR8_2.out).r.cell 6, (HR8_2.out).r.cell 7, cell_later (HB8_2.out) HY.out, cell_later (HB8_2.out) HY0.out⟩) (fun hHeld => ?_)
          clear hK K
          try simp only [Act.put, List.setIfInBounds_toArray, List.set_cons_zero, List.set_cons_succ]
          refine plI [(3, false), (4, false), (5, false), (6, false), (7, false), (8, false)] ?_
          repeat ((first | ((with_reducible show Plan ((_, true) :: _) _); refine plF ?_) | (refine plR (v := ?_) ?_ ?_; rotate_left; focus (intro W hSW; (try dsimp only at hSW); go_simp; all_goals (with_reducible rfl)))); try simp only [Act.put, List.setIfInBounds_toArray, List.set_cons_zero, List.set_cons_succ])
          refine plE ?_
          refine wpAnyH_ready (rs := [9]) (by kernel_rfl) (by simp) ?_
          refine AllReadyH.cons (o := ⟨_, _, _, _, _, _⟩) rfl (fun K hK => ?_) AllReadyH.nil
          go_simp
          go_at_call 20; refine (is_any y _).mono ?_; rintro e u9 ⟨rfl, hb⟩; (rw [HCU.out]); have HR8_9 := Lib.hid (HR8_2.out.below hb); have HB8_9 := Lib.hid (HB8_2.out.trans (hb.mono HB8_2.out.size)); clear hb
          refine hK.out _ _ (⟨(HR8_9.out).c.cell 0, (HR8_9.out).r.cell 0, (HR8_9.out).r.cell 1, (HR8_9.out).r.cell 2, (HR8_9.out).r.cell 3, (HR8_9.out).r.cell 4, (HR8_9.out).r.cell 5, (HR8_9.out).r.cell 6, (HR8_9.out).r.cell 7, cell_later (HB8_9.out) HY.out, cell_later (HB8_9.out) HY0.out⟩) (fun hHeld => ?_)
          clear hK K
          try simp only [Act.put, List.setIfInBounds_toArray, List.set_cons_zero, List.set_cons_succ]
          refine plI [(10, false), (11, false), (12, false), (13, false), (14, false), (15, false), (16, false), (17, false), (18, false), (19, false), (20, false), (21, false), (22, false), (23, false), (24, false), (25, false), (26, false), (27, false)] ?_
          repeat ((first | ((with_reducible show Plan ((_, true) :: _) _); refine plF ?_) | (refine plR (v := ?_) ?_ ?_; rotate_left; focus (intro W hSW; (try dsimp only at hSW); go_simp; all_goals (with_reducible rfl)))); try simp only [Act.put, List.setIfInBounds_toArray, List.set_cons_zero, List.set_cons_succ])
          refine plE ?_
          refine wpAnyH_done (by kernel_rfl) ?_ _
          clear hHeld
          go_wp2_with fail
          go_roundw
          case rel => exact ⟨k + 1, by go_num, hlt, HR8_9, Lib.hid (HSr.out.below HB8_9.out)⟩
          case measure => simp [intOf]; omega
        · have hzb : (z == 0) = false := by simpa using hz0
          clear hz0 HCX
          go_wp2_with fail
          have HR8 := Lib.hid (HBr.out.below (Below.refl wr.heap.size wr).drew)
          have HB8 := Lib.hid ((Below.refl wr.heap.size wr).drew)
          refine wp_region_held_drew (S := fun W => W.cell? ⟨w.heap.size, 0, none⟩ = some cv ∧ W.cell? ⟨w.heap.size + 1, 0, none⟩ = some (.string r.name) ∧ W.cell? ⟨w.heap.size + 1, 1, none⟩ = some (.string r.kind) ∧ W.cell? ⟨w.heap.size + 1, 2, none⟩ = some (.int .i64 r.cond.op) ∧ W.cell? ⟨w.heap.size + 1, 3, none⟩ = some (.string r.cond.name) ∧ W.cell? ⟨w.heap.size + 1, 4, none⟩ = some (.string r.cond.value) ∧ W.cell? ⟨w.heap.size + 1, 5, none⟩ = some (.int .i64 r.cond.n) ∧ W.cell? ⟨w.heap.size + 1, 6, none⟩ = some (.int .i64 r.cond.extra) ∧ W.cell? ⟨w.heap.size + 1, 7, none⟩ = some (.slice A r.cond.kids.length cc) ∧ W.cell? ⟨b, o + k, none⟩ = some (.string y) ∧ W.cell? ⟨b, o + (k - 1), none⟩ = some (.string y0)) (by kernel_rfl) (⟨(HR8.out).c.cell 0, (HR8.out).r.cell 0, (HR8.out).r.cell 1, (HR8.out).r.cell 2, (HR8.out).r.cell 3, (HR8.out).r.cell 4, (HR8.out).r.cell 5, (HR8.out).r.cell 6, (HR8.out).r.cell 7, cell_later (HB8.out) HY.out, cell_later (HB8.out) HY0.out⟩) (fun hHeld => ?_)
          refine plI [(0, false), (1, false)] ?_
          repeat ((first | ((with_reducible show Plan ((_, true) :: _) _); refine plF ?_) | (refine plR (v := ?_) ?_ ?_; rotate_left; focus (intro W hSW; (try dsimp only at hSW); go_simp; all_goals (with_reducible rfl)))); try simp only [Act.put, List.setIfInBounds_toArray, List.set_cons_zero, List.set_cons_succ])
          refine plE ?_
          refine wpAnyH_ready (rs := [2]) (by kernel_rfl) (by simp) ?_
          refine AllReadyH.cons (o := ⟨_, _, _, _, _, _⟩) rfl (fun K hK => ?_) AllReadyH.nil
          go_simp
          go_at_call 9; refine (tcheck_any _ (HB0.out.trans (HR8.out.b.mono HB0.out.size)) HCV.out HL.out HSH.out r (.slice A r.cond.kids.length cc) HCN.out HF.out HNM.out HKD.out HLY.out).mono ?_; rintro e u2 ⟨rfl, hb⟩; (rw [HZ.out]); have HR8_2 := Lib.hid (HR8.out.below hb); have HB8_2 := Lib.hid (HB8.out.trans (hb.mono HB8.out.size)); clear hb
          refine hK.out _ _ (⟨(HR8_2.out).c.cell 0, (HR8_2.out).r.cell 0, (HR8_2.out).r.cell 1, (HR8_2.out).r.cell 2, (HR8_2.out).r.cell 3, (HR8_2.out).r.cell 4, (HR8_2.out).r.cell 5, (HR8_2.out).r.cell 6, (HR8_2.out).r.cell 7, cell_later (HB8_2.out) HY.out, cell_later (HB8_2.out) HY0.out⟩) (fun hHeld => ?_)
          clear hK K
          try simp only [Act.put, List.setIfInBounds_toArray, List.set_cons_zero, List.set_cons_succ]
          refine plI [(3, false), (4, false), (5, true), (6, true), (7, true), (8, true), (9, true), (10, true), (11, false), (12, false), (13, false), (14, false), (15, false), (16, false), (17, false), (18, false), (19, false), (20, false), (21, false), (22, false), (23, false), (24, false), (25, false), (26, false), (27, false)] ?_
          repeat ((first | ((with_reducible show Plan ((_, true) :: _) _); refine plF ?_) | (refine plR (v := ?_) ?_ ?_; rotate_left; focus (intro W hSW; (try dsimp only at hSW); go_simp; all_goals (with_reducible rfl)))); try simp only [Act.put, List.setIfInBounds_toArray, List.set_cons_zero, List.set_cons_succ])
          refine plE ?_
          refine wpAnyH_done (by kernel_rfl) ?_ _
          clear hHeld
          go_wp2_with fail
          go_roundw
          case rel => exact ⟨k + 1, by go_num, hlt, HR8_2, Lib.hid (HSr.out.below HB8_2.out)⟩
          case measure => simp [intOf]; omega
    · have hki : ¬ (k : Int) < (l.length : Int) := by omega
      obtain rfl : k = l.length := by omega
      obtain ⟨dK, fK⟩ := HBr.out.c.facts; obtain ⟨dR, fR⟩ := HBr.out.r.facts
      have HRK := Lib.hid (valid_any (rkU r.cond) (.slice A r.cond.kids.length cc) wr HCN.out HF.out (show (1 : Nat) ≤ maxLen from (by decide)) (show (1 : Nat) ≤ maxLen from (by decide)) (HLY.out.later (HB0.out.trans (HBr.out.b.mono HB0.out.size))))
      go_wp2_with (go_at_call 11; refine HRK.out.mono ?_; rintro e w9 ⟨rfl, hb⟩; (rw [HRV.out]); have H9 := Lib.hid (HBr.out.below hb); have HS9 := Lib.hid (HSr.out.below hb); clear dK fK dR fR; clear hb; obtain ⟨dK, fK⟩ := H9.out.c.facts; obtain ⟨dR, fR⟩ := H9.out.r.facts)
      have hl1 : l.length = 0 := by rw [HLZ.out]; rfl
      have a1 : decide ((l.length : Int) ≤ 1) = true := decide_eq_true (by omega)
      have a2 : decide (l.length ≤ 1) = true := decide_eq_true (by omega)
      have a3 : ((l.length : Int) == 1) = false := by simp [hl1]
      clear hl1
      refine wp_region_held_drew (S := fun W => W.cell? ⟨w.heap.size, 0, none⟩ = some cv ∧ W.cell? ⟨w.heap.size + 1, 0, none⟩ = some (.string r.name) ∧ W.cell? ⟨w.heap.size + 1, 1, none⟩ = some (.string r.kind) ∧ W.cell? ⟨w.heap.size + 1, 2, none⟩ = some (.int .i64 r.cond.op) ∧ W.cell? ⟨w.heap.size + 1, 3, none⟩ = some (.string r.cond.name) ∧ W.cell? ⟨w.heap.size + 1, 4, none⟩ = some (.string r.cond.value) ∧ W.cell? ⟨w.heap.size + 1, 5, none⟩ = some (.int .i64 r.cond.n) ∧ W.cell? ⟨w.heap.size + 1, 6, none⟩ = some (.int .i64 r.cond.extra) ∧ W.cell? ⟨w.heap.size + 1, 7, none⟩ = some (.slice A r.cond.kids.length cc)) (by kernel_rfl) (⟨((H9.out.below (Below.refl w9.heap.size w9).drew)).c.cell 0, ((H9.out.below (Below.refl w9.heap.size w9).drew)).r.cell 0, ((H9.out.below (Below.refl w9.heap.size w9).drew)).r.cell 1, ((H9.out.below (Below.refl w9.heap.size w9).drew)).r.cell 2, ((H9.out.below (Below.refl w9.heap.size w9).drew)).r.cell 3, ((H9.out.below (Below.refl w9.heap.size w9).drew)).r.cell 4, ((H9.out.below (Below.refl w9.heap.size w9).drew)).r.cell 5, ((H9.out.below (Below.refl w9.heap.size w9).drew)).r.cell 6, ((H9.out.below (Below.refl w9.heap.size w9).drew)).r.cell 7⟩) (fun hHeld => ?_)
      refine plI [(0, false), (1, false), (2, false), (3, false), (4, false), (5, false), (6, false), (7, false), (8, false), (9, false), (10, false), (11, false), (12, false), (13, false), (14, false), (15, false), (16, false), (17, true), (18, true), (19, true), (20, true), (21, true), (22, true), (23, true), (24, true), (25, true), (26, true), (27, true), (28, true), (29, false), (30, false), (31, false)] ?_
      repeat ((first | ((with_reducible show Plan ((_, true) :: _) _); refine plF ?_) | (refine plR (v := ?_) ?_ ?_; rotate_left; focus (intro W hSW; (try dsimp only at hSW); go_simp; all_goals (with_reducible rfl)))); try simp only [Act.put, List.setIfInBounds_toArray, List.set_cons_zero, List.set_cons_succ])
      refine plE ?_
      refine wpAnyH_done (by kernel_rfl) ?_ _
      clear hHeld
      go_wp2_with fail
      go_ret
      exact ⟨rfl, H9.out.b.drew⟩
end Go.Proofs.YtcpakaiblelmlaaGreatDoor
