/- TypingParts: a condition of kids has the error of the first kid that has one. Condition: the arguments lie in memory; the error variables of strconv hold something. -/
import Derived.Test.YtcpakaiblelmlaaGreatDoorU20
namespace Go.Proofs.YtcpakaiblelmlaaGreatDoor
open Go Go.RowKit
set_option maxRecDepth 100000 in
set_option maxHeartbeats 8000000 in
theorem tp_few (w0 : World) (hv : Evs w0) (cv : Value) (c : List Kd) (r : Ru) (A : Option Addr) (cc : Nat) (w : World) (hb0 : Below w0.heap.size w0 w) (hcv : Cat w0 cv c) (hlay : Lay w0 (.slice A r.cond.kids.length cc) r.cond.kids) (hfew : (fewCa c && fewU r) = false) : Calls Tryz.prog 3 #[.agg #[cv], .agg #[.string r.name, .string r.kind, .int .i64 r.cond.op, .string r.cond.name, .string r.cond.value, .int .i64 r.cond.n, .int .i64 r.cond.extra, .slice A r.cond.kids.length cc]] w fun e w' => e = .returned (.bool true) ∧ Below w.heap.size w w' := by
  have H0 := Lib.hid (B2.start w cv #[.string r.name, .string r.kind, .int .i64 r.cond.op, .string r.cond.name, .string r.cond.value, .int .i64 r.cond.n, .int .i64 r.cond.extra, .slice A r.cond.kids.length cc])
  have HB0 := Lib.hid hb0
  have HCV := Lib.hid hcv
  have HLY := Lib.hid hlay
  have HV := Lib.hid hv
  clear hb0 hcv hlay hv
  have HFW := Lib.hid hfew
  clear hfew
  obtain ⟨dK, fK⟩ := H0.out.c.facts
  obtain ⟨dR, fR⟩ := H0.out.r.facts
  go_enter Tryz.func3, Tryz.ntmps3
  go_wp2_with (first | (go_at_call 7; refine (head21_any w0 _ HV.out (HB0.out.trans (H0.out.b.mono HB0.out.size))).mono ?_; rintro e w1 ⟨rfl, hb⟩; have H1 := Lib.hid (H0.out.below hb); clear dK fK dR fR; clear hb; obtain ⟨dK, fK⟩ := H1.out.c.facts; obtain ⟨dR, fR⟩ := H1.out.r.facts) | (go_at_call 8; refine (few21_any w0 cv c r (.slice A r.cond.kids.length cc) _ (HB0.out.trans (H1.out.b.mono HB0.out.size)) HCV.out HLY.out).mono ?_; rintro e w2 ⟨rfl, hb⟩; (rw [HFW.out]); have H2 := Lib.hid (H1.out.below hb); clear dK fK dR fR; clear hb; obtain ⟨dK, fK⟩ := H2.out.c.facts; obtain ⟨dR, fR⟩ := H2.out.r.facts))
  go_ret
  exact ⟨rfl, H2.out.b⟩
set_option maxRecDepth 100000 in
set_option maxHeartbeats 8000000 in
theorem tp_other (w0 : World) (hv : Evs w0) (cv : Value) (c : List Kd) (r : Ru) (A : Option Addr) (cc : Nat) (w : World) (hb0 : Below w0.heap.size w0 w) (hcv : Cat w0 cv c) (hlay : Lay w0 (.slice A r.cond.kids.length cc) r.cond.kids) (hf : FitE r.cond) (hnm : r.name.size ≤ maxLen) (hkd : r.kind.size ≤ maxLen) (hfew : (fewCa c && fewU r) = true) (ho : ¬ (r.cond.op = 2 ∨ r.cond.op = 3 ∨ r.cond.op = 4)) : Calls Tryz.prog 3 #[.agg #[cv], .agg #[.string r.name, .string r.kind, .int .i64 r.cond.op, .string r.cond.name, .string r.cond.value, .int .i64 r.cond.n, .int .i64 r.cond.extra, .slice A r.cond.kids.length cc]] w fun e w' => e = .returned (.bool true) ∧ Below w.heap.size w w' := by
  have H0 := Lib.hid (B2.start w cv #[.string r.name, .string r.kind, .int .i64 r.cond.op, .string r.cond.name, .string r.cond.value, .int .i64 r.cond.n, .int .i64 r.cond.extra, .slice A r.cond.kids.length cc])
  have HB0 := Lib.hid hb0
  have HCV := Lib.hid hcv
  have HLY := Lib.hid hlay
  have HV := Lib.hid hv
  clear hb0 hcv hlay hv
  have HFW := Lib.hid hfew
  have hfew2 := hfew
  rw [Bool.and_eq_true] at hfew2
  have HL := Lib.hid (show c.length ≤ 100000 by have := (fewCa_short hfew2.1).1; omega)
  have HSH := Lib.hid (fewCa_short hfew2.1).2
  have HCN := Lib.hid (show cnt r.cond ≤ 1000000 by have := fewU_cnt hfew2.2; omega)
  have HC80 := Lib.hid (fewU_cnt hfew2.2)
  have HF := Lib.hid hf
  have HNM := Lib.hid hnm
  have HKD := Lib.hid hkd
  clear hfew hfew2 hf hnm hkd
  have ho2 : (r.cond.op != 2) = true := by simp; omega
  have ho3 : (r.cond.op != 3) = true := by simp; omega
  have ho4 : (r.cond.op != 4) = true := by simp; omega
  clear ho
  obtain ⟨dK, fK⟩ := H0.out.c.facts
  obtain ⟨dR, fR⟩ := H0.out.r.facts
  go_enter Tryz.func3, Tryz.ntmps3
  go_wp2_with (first | (go_at_call 7; refine (head21_any w0 _ HV.out (HB0.out.trans (H0.out.b.mono HB0.out.size))).mono ?_; rintro e w1 ⟨rfl, hb⟩; have H1 := Lib.hid (H0.out.below hb); clear dK fK dR fR; clear hb; obtain ⟨dK, fK⟩ := H1.out.c.facts; obtain ⟨dR, fR⟩ := H1.out.r.facts) | (go_at_call 8; refine (few21_any w0 cv c r (.slice A r.cond.kids.length cc) _ (HB0.out.trans (H1.out.b.mono HB0.out.size)) HCV.out HLY.out).mono ?_; rintro e w2 ⟨rfl, hb⟩; (rw [HFW.out]); have H2 := Lib.hid (H1.out.below hb); clear dK fK dR fR; clear hb; obtain ⟨dK, fK⟩ := H2.out.c.facts; obtain ⟨dR, fR⟩ := H2.out.r.facts))
  go_ret
  exact ⟨rfl, H2.out.b⟩
set_option maxRecDepth 100000 in
set_option maxHeartbeats 8000000 in
theorem tp_nocat2 (w0 : World) (hv : Evs w0) (cv : Value) (c : List Kd) (r : Ru) (A : Option Addr) (cc : Nat) (w : World) (hb0 : Below w0.heap.size w0 w) (hcv : Cat w0 cv c) (hlay : Lay w0 (.slice A r.cond.kids.length cc) r.cond.kids) (hf : FitE r.cond) (hnm : r.name.size ≤ maxLen) (hkd : r.kind.size ≤ maxLen) (hfew : (fewCa c && fewU r) = true) (ho : r.cond.op = 2) (hc : catB c = false) : Calls Tryz.prog 3 #[.agg #[cv], .agg #[.string r.name, .string r.kind, .int .i64 r.cond.op, .string r.cond.name, .string r.cond.value, .int .i64 r.cond.n, .int .i64 r.cond.extra, .slice A r.cond.kids.length cc]] w fun e w' => e = .returned (.bool true) ∧ Below w.heap.size w w' := by
  have H0 := Lib.hid (B2.start w cv #[.string r.name, .string r.kind, .int .i64 r.cond.op, .string r.cond.name, .string r.cond.value, .int .i64 r.cond.n, .int .i64 r.cond.extra, .slice A r.cond.kids.length cc])
  have HB0 := Lib.hid hb0
  have HCV := Lib.hid hcv
  have HLY := Lib.hid hlay
  have HV := Lib.hid hv
  clear hb0 hcv hlay hv
  have HFW := Lib.hid hfew
  have hfew2 := hfew
  rw [Bool.and_eq_true] at hfew2
  have HL := Lib.hid (show c.length ≤ 100000 by have := (fewCa_short hfew2.1).1; omega)
  have HSH := Lib.hid (fewCa_short hfew2.1).2
  have HCN := Lib.hid (show cnt r.cond ≤ 1000000 by have := fewU_cnt hfew2.2; omega)
  have HC80 := Lib.hid (fewU_cnt hfew2.2)
  have HF := Lib.hid hf
  have HNM := Lib.hid hnm
  have HKD := Lib.hid hkd
  clear hfew hfew2 hf hnm hkd
  have HU := Lib.hid (show checkU c r = 1 from (checkU_arg c r).2 (by rw [hc]; rfl))
  have HC := Lib.hid hc
  have ho2 : (r.cond.op != 2) = false := by simp; omega
  clear hc ho
  obtain ⟨dK, fK⟩ := H0.out.c.facts
  obtain ⟨dR, fR⟩ := H0.out.r.facts
  go_enter Tryz.func3, Tryz.ntmps3
  go_wp2_with (first | (go_at_call 7; refine (head21_any w0 _ HV.out (HB0.out.trans (H0.out.b.mono HB0.out.size))).mono ?_; rintro e w1 ⟨rfl, hb⟩; have H1 := Lib.hid (H0.out.below hb); clear dK fK dR fR; clear hb; obtain ⟨dK, fK⟩ := H1.out.c.facts; obtain ⟨dR, fR⟩ := H1.out.r.facts) | (go_at_call 8; refine (few21_any w0 cv c r (.slice A r.cond.kids.length cc) _ (HB0.out.trans (H1.out.b.mono HB0.out.size)) HCV.out HLY.out).mono ?_; rintro e w2 ⟨rfl, hb⟩; (rw [HFW.out]); have H2 := Lib.hid (H1.out.below hb); clear dK fK dR fR; clear hb; obtain ⟨dK, fK⟩ := H2.out.c.facts; obtain ⟨dR, fR⟩ := H2.out.r.facts) | (go_at_call 9; refine (tcheck_any _ (HB0.out.trans (H2.out.b.mono HB0.out.size)) HCV.out HL.out HSH.out r (.slice A r.cond.kids.length cc) HCN.out HF.out HNM.out HKD.out HLY.out).mono ?_; rintro e w3 ⟨rfl, hb⟩; (rw [HU.out]); have H3 := Lib.hid (H2.out.below hb); clear dK fK dR fR; clear hb; obtain ⟨dK, fK⟩ := H3.out.c.facts; obtain ⟨dR, fR⟩ := H3.out.r.facts) | (go_at_call 10; refine (catValid_any w0 cv c _ (HB0.out.trans (H3.out.b.mono HB0.out.size)) HCV.out HL.out HSH.out).mono ?_; rintro e w4 ⟨rfl, hb⟩; (rw [HC.out]); have H4 := Lib.hid (H3.out.below hb); clear dK fK dR fR; clear hb; obtain ⟨dK, fK⟩ := H4.out.c.facts; obtain ⟨dR, fR⟩ := H4.out.r.facts))
  go_ret
  exact ⟨rfl, H4.out.b⟩
set_option maxRecDepth 100000 in
set_option maxHeartbeats 8000000 in
theorem tp_norule2 (w0 : World) (hv : Evs w0) (cv : Value) (c : List Kd) (r : Ru) (A : Option Addr) (cc : Nat) (w : World) (hb0 : Below w0.heap.size w0 w) (hcv : Cat w0 cv c) (hlay : Lay w0 (.slice A r.cond.kids.length cc) r.cond.kids) (hf : FitE r.cond) (hnm : r.name.size ≤ maxLen) (hkd : r.kind.size ≤ maxLen) (hfew : (fewCa c && fewU r) = true) (ho : r.cond.op = 2) (hc : catB c = true) (hr : ruleB r = false) : Calls Tryz.prog 3 #[.agg #[cv], .agg #[.string r.name, .string r.kind, .int .i64 r.cond.op, .string r.cond.name, .string r.cond.value, .int .i64 r.cond.n, .int .i64 r.cond.extra, .slice A r.cond.kids.length cc]] w fun e w' => e = .returned (.bool true) ∧ Below w.heap.size w w' := by
  have H0 := Lib.hid (B2.start w cv #[.string r.name, .string r.kind, .int .i64 r.cond.op, .string r.cond.name, .string r.cond.value, .int .i64 r.cond.n, .int .i64 r.cond.extra, .slice A r.cond.kids.length cc])
  have HB0 := Lib.hid hb0
  have HCV := Lib.hid hcv
  have HLY := Lib.hid hlay
  have HV := Lib.hid hv
  clear hb0 hcv hlay hv
  have HFW := Lib.hid hfew
  have hfew2 := hfew
  rw [Bool.and_eq_true] at hfew2
  have HL := Lib.hid (show c.length ≤ 100000 by have := (fewCa_short hfew2.1).1; omega)
  have HSH := Lib.hid (fewCa_short hfew2.1).2
  have HCN := Lib.hid (show cnt r.cond ≤ 1000000 by have := fewU_cnt hfew2.2; omega)
  have HC80 := Lib.hid (fewU_cnt hfew2.2)
  have HF := Lib.hid hf
  have HNM := Lib.hid hnm
  have HKD := Lib.hid hkd
  clear hfew hfew2 hf hnm hkd
  have HU := Lib.hid (show checkU c r = 1 from (checkU_arg c r).2 (by rw [hc, hr]; rfl))
  have HC := Lib.hid hc
  have HR := Lib.hid hr
  have ho2 : (r.cond.op != 2) = false := by simp; omega
  clear hc hr ho
  obtain ⟨dK, fK⟩ := H0.out.c.facts
  obtain ⟨dR, fR⟩ := H0.out.r.facts
  go_enter Tryz.func3, Tryz.ntmps3
  go_wp2_with (first | (go_at_call 7; refine (head21_any w0 _ HV.out (HB0.out.trans (H0.out.b.mono HB0.out.size))).mono ?_; rintro e w1 ⟨rfl, hb⟩; have H1 := Lib.hid (H0.out.below hb); clear dK fK dR fR; clear hb; obtain ⟨dK, fK⟩ := H1.out.c.facts; obtain ⟨dR, fR⟩ := H1.out.r.facts) | (go_at_call 8; refine (few21_any w0 cv c r (.slice A r.cond.kids.length cc) _ (HB0.out.trans (H1.out.b.mono HB0.out.size)) HCV.out HLY.out).mono ?_; rintro e w2 ⟨rfl, hb⟩; (rw [HFW.out]); have H2 := Lib.hid (H1.out.below hb); clear dK fK dR fR; clear hb; obtain ⟨dK, fK⟩ := H2.out.c.facts; obtain ⟨dR, fR⟩ := H2.out.r.facts) | (go_at_call 9; refine (tcheck_any _ (HB0.out.trans (H2.out.b.mono HB0.out.size)) HCV.out HL.out HSH.out r (.slice A r.cond.kids.length cc) HCN.out HF.out HNM.out HKD.out HLY.out).mono ?_; rintro e w3 ⟨rfl, hb⟩; (rw [HU.out]); have H3 := Lib.hid (H2.out.below hb); clear dK fK dR fR; clear hb; obtain ⟨dK, fK⟩ := H3.out.c.facts; obtain ⟨dR, fR⟩ := H3.out.r.facts) | (go_at_call 10; refine (catValid_any w0 cv c _ (HB0.out.trans (H3.out.b.mono HB0.out.size)) HCV.out HL.out HSH.out).mono ?_; rintro e w4 ⟨rfl, hb⟩; (rw [HC.out]); have H4 := Lib.hid (H3.out.below hb); clear dK fK dR fR; clear hb; obtain ⟨dK, fK⟩ := H4.out.c.facts; obtain ⟨dR, fR⟩ := H4.out.r.facts) | (go_at_call 11; refine (valid_any r (.slice A r.cond.kids.length cc) _ HCN.out HF.out HNM.out HKD.out (HLY.out.later (HB0.out.trans (H4.out.b.mono HB0.out.size)))).mono ?_; rintro e w5 ⟨rfl, hb⟩; (rw [HR.out]); have H5 := Lib.hid (H4.out.below hb); clear dK fK dR fR; clear hb; obtain ⟨dK, fK⟩ := H5.out.c.facts; obtain ⟨dR, fR⟩ := H5.out.r.facts))
  go_ret
  exact ⟨rfl, H5.out.b⟩
set_option maxRecDepth 100000 in
set_option maxHeartbeats 8000000 in
theorem tp_kids2 (w0 : World) (hv : Evs w0) (cv : Value) (c : List Kd) (r : Ru) (A : Option Addr) (cc : Nat) (w : World) (hb0 : Below w0.heap.size w0 w) (hcv : Cat w0 cv c) (hlay : Lay w0 (.slice A r.cond.kids.length cc) r.cond.kids) (hf : FitE r.cond) (hnm : r.name.size ≤ maxLen) (hkd : r.kind.size ≤ maxLen) (hfew : (fewCa c && fewU r) = true) (ho : r.cond.op = 2) (hc : catB c = true) (hr : ruleB r = true) : Calls Tryz.prog 3 #[.agg #[cv], .agg #[.string r.name, .string r.kind, .int .i64 r.cond.op, .string r.cond.name, .string r.cond.value, .int .i64 r.cond.n, .int .i64 r.cond.extra, .slice A r.cond.kids.length cc]] w fun e w' => e = .returned (.bool true) ∧ Below w.heap.size w w' := by
  have hne : checkU c r ≠ 1 := fun h => by have := (checkU_arg c r).1 h; rw [hc, hr] at this; cases this
  have hkl : 0 < r.cond.kids.length := by
    have h1 := ((trule_iff r.name r.kind r.cond).1 hr).2.2.2
    rw [allB_eq, Bool.and_eq_true] at h1
    have h2 : NodeOk r.cond.op r.cond.name r.cond.value r.cond.n r.cond.extra r.cond.kids.length := of_decide_eq_true h1.1
    have h3 := h2.2.1
    rw [ho] at h3
    have h4 : r.cond.kids.length = 1 := by simpa using h3
    omega
  have HWA := Lib.hid (wantT_all hc hr (by omega) hkl)
  have HWS := Lib.hid (fun (i : Nat) (hi : i < r.cond.kids.length) (hw : wantT c r i = 0) => wantT_step hi hw hc (trule_kid hr (List.getElem_mem hi)))
  have HWP := Lib.hid (fun (i : Nat) (hi : i ≤ r.cond.kids.length) (hw : wantT c r i ≠ 0) => wantT_stop hi hw)
  have HW0 := Lib.hid (show wantT c r 0 = 0 by unfold wantT; rw [List.take_zero, condsT_nil]; simp)
  have H0 := Lib.hid (B2.start w cv #[.string r.name, .string r.kind, .int .i64 r.cond.op, .string r.cond.name, .string r.cond.value, .int .i64 r.cond.n, .int .i64 r.cond.extra, .slice A r.cond.kids.length cc])
  have HB0 := Lib.hid hb0
  have HCV := Lib.hid hcv
  have HLY := Lib.hid hlay
  have HV := Lib.hid hv
  clear hb0 hcv hlay hv
  have HFW := Lib.hid hfew
  have hfew2 := hfew
  rw [Bool.and_eq_true] at hfew2
  have HL := Lib.hid (show c.length ≤ 100000 by have := (fewCa_short hfew2.1).1; omega)
  have HSH := Lib.hid (fewCa_short hfew2.1).2
  have HCN := Lib.hid (show cnt r.cond ≤ 1000000 by have := fewU_cnt hfew2.2; omega)
  have HC80 := Lib.hid (fewU_cnt hfew2.2)
  have HF := Lib.hid hf
  have HNM := Lib.hid hnm
  have HKD := Lib.hid hkd
  clear hfew hfew2 hf hnm hkd
  have ho2 : (r.cond.op != 2) = false := by simp; omega
  have HLN := Lib.hid (show r.cond.kids.length ≤ 80 by have h1 := len_cnts r.cond.kids; have h2 := cnt_eq r.cond; have h3 := HC80.out; omega)
  have hz1 : (checkU c r == 1) = false := by simpa using hne
  clear hc hr ho hne hkl
  obtain ⟨dK, fK⟩ := H0.out.c.facts
  obtain ⟨dR, fR⟩ := H0.out.r.facts
  go_enter Tryz.func3, Tryz.ntmps3
  obtain ⟨z, hz⟩ : ∃ z, checkU c r = z := ⟨_, rfl⟩
  rw [hz] at hz1 HWA
  have HZ := Lib.hid hz
  clear hz
  go_wp2_with (first | (go_at_call 7; refine (head21_any w0 _ HV.out (HB0.out.trans (H0.out.b.mono HB0.out.size))).mono ?_; rintro e w1 ⟨rfl, hb⟩; have H1 := Lib.hid (H0.out.below hb); clear dK fK dR fR; clear hb; obtain ⟨dK, fK⟩ := H1.out.c.facts; obtain ⟨dR, fR⟩ := H1.out.r.facts) | (go_at_call 8; refine (few21_any w0 cv c r (.slice A r.cond.kids.length cc) _ (HB0.out.trans (H1.out.b.mono HB0.out.size)) HCV.out HLY.out).mono ?_; rintro e w2 ⟨rfl, hb⟩; (rw [HFW.out]); have H2 := Lib.hid (H1.out.below hb); clear dK fK dR fR; clear hb; obtain ⟨dK, fK⟩ := H2.out.c.facts; obtain ⟨dR, fR⟩ := H2.out.r.facts) | (go_at_call 9; refine (tcheck_any _ (HB0.out.trans (H2.out.b.mono HB0.out.size)) HCV.out HL.out HSH.out r (.slice A r.cond.kids.length cc) HCN.out HF.out HNM.out HKD.out HLY.out).mono ?_; rintro e w3 ⟨rfl, hb⟩; (rw [HZ.out]); have H3 := Lib.hid (H2.out.below hb); clear dK fK dR fR; clear hb; obtain ⟨dK, fK⟩ := H3.out.c.facts; obtain ⟨dR, fR⟩ := H3.out.r.facts))
  clear dK fK dR fR
  go_loopw [7, 8] (fun v i wr => ∃ k : Nat, i = .int .i64 k ∧ k ≤ r.cond.kids.length ∧ v = .int .i64 (wantT c r k) ∧ Hid (B2 w cv #[.string r.name, .string r.kind, .int .i64 r.cond.op, .string r.cond.name, .string r.cond.value, .int .i64 r.cond.n, .int .i64 r.cond.extra, .slice A r.cond.kids.length cc] wr)) (fun _ i _ => r.cond.kids.length - (intOf i).toNat)
  case atStart => exact ⟨0, rfl, Nat.zero_le _, by rw [HW0.out], H3⟩
  case round =>
    obtain ⟨k, rfl, hk, rfl, H4⟩ := hrel
    clear H0 H1 H2 H3
    obtain ⟨dK, fK⟩ := H4.out.c.facts; obtain ⟨dR, fR⟩ := H4.out.r.facts
    by_cases hlt : k < r.cond.kids.length
    · have hki : (k : Int) < (r.cond.kids.length : Int) := by omega
      have hs3 : IntKind.i64.wrap ((k : Int) + 1) = (k : Int) + 1 := IntWalk.i64_in _ (by have := HLN.out; omega)
      by_cases hw : wantT c r k = 0
      · have HST := Lib.hid (HWS.out k hlt hw)
        have hb0w : (wantT c r k == 0) = true := by simp [hw]
        have H4y := Lib.hid (H4.out.below ((Below.refl wr.heap.size wr).alloc (Nat.le_refl _) (.cells #[.string r.name, .string r.kind, .int .i64 r.cond.op, .string r.cond.name, .string r.cond.value, .int .i64 r.cond.n, .int .i64 r.cond.extra, .slice A r.cond.kids.length cc] 29)))
        obtain ⟨dKy, fKy⟩ := H4y.out.c.facts
        obtain ⟨dRy, fRy⟩ := H4y.out.r.facts
        obtain ⟨_, _, hkid⟩ := LayS.kid HLY.out
        obtain ⟨kb, ko, kv2, rfl, hcell, hkk⟩ := hkid k hlt
        have hb0 := (HB0.out.trans (H4y.out.b.mono HB0.out.size))
        have hc0 := cell_later hb0 (hcell 0 (by decide))
        have hc1 := cell_later hb0 (hcell 1 (by decide))
        have hc2 := cell_later hb0 (hcell 2 (by decide))
        have hc3 := cell_later hb0 (hcell 3 (by decide))
        have hc4 := cell_later hb0 (hcell 4 (by decide))
        have hc5 := cell_later hb0 (hcell 5 (by decide))
        simp only [exF, if_true, if_false, Nat.reduceEqDiff, Nat.add_one_ne_zero, ← Nat.add_assoc, Nat.add_zero] at hc0 hc1 hc2 hc3 hc4 hc5
        have HKK := Lib.hid hkk
        have HKC := Lib.hid (show cnt r.cond.kids[k] ≤ 1000000 by have h1 := cnt_kid (List.getElem_mem hlt); have h2 := HCN.out; omega)
        have HKF := Lib.hid (HF.out.kid _ (List.getElem_mem hlt))
        obtain ⟨Ak, ck, rfl, _⟩ := hkk.slice
        clear hkid hcell hkk hw hb0
        generalize wantT c r k = wk at *
        generalize r.cond.kids[k] = ek at *
        have hlt4 := H4.out.lt
        have HX := Lib.hid ((Below.refl wr.heap.size wr).alloc (Nat.le_refl _) (.cells #[.string r.name, .string r.kind, .int .i64 ek.op, .string ek.name, .string ek.value, .int .i64 ek.n, .int .i64 ek.extra, .slice Ak ek.kids.length ck] 29))
        have H4x := Lib.hid (H4.out.below HX.out)
        obtain ⟨dKx, fKx⟩ := H4x.out.c.facts
        obtain ⟨dRx, fRx⟩ := H4x.out.r.facts
        go_wp2_with (go_at_call 9; refine (tcheck_any _ (HB0.out.trans (H4x.out.b.mono HB0.out.size)) HCV.out HL.out HSH.out ⟨r.name, r.kind, ek⟩ (.slice Ak ek.kids.length ck) HKC.out HKF.out HNM.out HKD.out HKK.out).mono ?_; rintro e w5 ⟨rfl, hb⟩; (rw [HST.out]); have H5 := Lib.hid (H4x.out.below hb); clear dK fK dR fR dKx fKx dRx fRx dKy fKy dRy fRy; clear hb)
        go_roundw
        case rel => exact ⟨k + 1, by go_num, hlt, rfl, H5⟩
        case measure => simp [intOf]; omega
      · have HST := Lib.hid (HWP.out k hk hw)
        have hb0w : (wantT c r k == 0) = false := by simpa using hw
        have hzz : (z == wantT c r k) = true := by rw [← HST.out, HWA.out]; simp
        clear hw
        generalize wantT c r k = wk at *
        go_wp2_with fail
        go_ret
        exact ⟨rfl, H4.out.b⟩
    · have hki : ¬ (k : Int) < (r.cond.kids.length : Int) := by omega
      obtain rfl : k = r.cond.kids.length := by omega
      have hzz : (z == wantT c r r.cond.kids.length) = true := by rw [HWA.out]; simp
      generalize wantT c r r.cond.kids.length = wk at *
      go_wp2_with fail
      go_ret
      exact ⟨rfl, H4.out.b⟩
set_option maxRecDepth 100000 in
set_option maxHeartbeats 8000000 in
theorem tp_nocat3 (w0 : World) (hv : Evs w0) (cv : Value) (c : List Kd) (r : Ru) (A : Option Addr) (cc : Nat) (w : World) (hb0 : Below w0.heap.size w0 w) (hcv : Cat w0 cv c) (hlay : Lay w0 (.slice A r.cond.kids.length cc) r.cond.kids) (hf : FitE r.cond) (hnm : r.name.size ≤ maxLen) (hkd : r.kind.size ≤ maxLen) (hfew : (fewCa c && fewU r) = true) (ho : r.cond.op = 3) (hc : catB c = false) : Calls Tryz.prog 3 #[.agg #[cv], .agg #[.string r.name, .string r.kind, .int .i64 r.cond.op, .string r.cond.name, .string r.cond.value, .int .i64 r.cond.n, .int .i64 r.cond.extra, .slice A r.cond.kids.length cc]] w fun e w' => e = .returned (.bool true) ∧ Below w.heap.size w w' := by
  have H0 := Lib.hid (B2.start w cv #[.string r.name, .string r.kind, .int .i64 r.cond.op, .string r.cond.name, .string r.cond.value, .int .i64 r.cond.n, .int .i64 r.cond.extra, .slice A r.cond.kids.length cc])
  have HB0 := Lib.hid hb0
  have HCV := Lib.hid hcv
  have HLY := Lib.hid hlay
  have HV := Lib.hid hv
  clear hb0 hcv hlay hv
  have HFW := Lib.hid hfew
  have hfew2 := hfew
  rw [Bool.and_eq_true] at hfew2
  have HL := Lib.hid (show c.length ≤ 100000 by have := (fewCa_short hfew2.1).1; omega)
  have HSH := Lib.hid (fewCa_short hfew2.1).2
  have HCN := Lib.hid (show cnt r.cond ≤ 1000000 by have := fewU_cnt hfew2.2; omega)
  have HC80 := Lib.hid (fewU_cnt hfew2.2)
  have HF := Lib.hid hf
  have HNM := Lib.hid hnm
  have HKD := Lib.hid hkd
  clear hfew hfew2 hf hnm hkd
  have HU := Lib.hid (show checkU c r = 1 from (checkU_arg c r).2 (by rw [hc]; rfl))
  have HC := Lib.hid hc
  have ho2 : (r.cond.op != 2) = true := by simp; omega
  have ho3 : (r.cond.op != 3) = false := by simp; omega
  clear hc ho
  obtain ⟨dK, fK⟩ := H0.out.c.facts
  obtain ⟨dR, fR⟩ := H0.out.r.facts
  go_enter Tryz.func3, Tryz.ntmps3
  go_wp2_with (first | (go_at_call 7; refine (head21_any w0 _ HV.out (HB0.out.trans (H0.out.b.mono HB0.out.size))).mono ?_; rintro e w1 ⟨rfl, hb⟩; have H1 := Lib.hid (H0.out.below hb); clear dK fK dR fR; clear hb; obtain ⟨dK, fK⟩ := H1.out.c.facts; obtain ⟨dR, fR⟩ := H1.out.r.facts) | (go_at_call 8; refine (few21_any w0 cv c r (.slice A r.cond.kids.length cc) _ (HB0.out.trans (H1.out.b.mono HB0.out.size)) HCV.out HLY.out).mono ?_; rintro e w2 ⟨rfl, hb⟩; (rw [HFW.out]); have H2 := Lib.hid (H1.out.below hb); clear dK fK dR fR; clear hb; obtain ⟨dK, fK⟩ := H2.out.c.facts; obtain ⟨dR, fR⟩ := H2.out.r.facts) | (go_at_call 9; refine (tcheck_any _ (HB0.out.trans (H2.out.b.mono HB0.out.size)) HCV.out HL.out HSH.out r (.slice A r.cond.kids.length cc) HCN.out HF.out HNM.out HKD.out HLY.out).mono ?_; rintro e w3 ⟨rfl, hb⟩; (rw [HU.out]); have H3 := Lib.hid (H2.out.below hb); clear dK fK dR fR; clear hb; obtain ⟨dK, fK⟩ := H3.out.c.facts; obtain ⟨dR, fR⟩ := H3.out.r.facts) | (go_at_call 10; refine (catValid_any w0 cv c _ (HB0.out.trans (H3.out.b.mono HB0.out.size)) HCV.out HL.out HSH.out).mono ?_; rintro e w4 ⟨rfl, hb⟩; (rw [HC.out]); have H4 := Lib.hid (H3.out.below hb); clear dK fK dR fR; clear hb; obtain ⟨dK, fK⟩ := H4.out.c.facts; obtain ⟨dR, fR⟩ := H4.out.r.facts))
  go_ret
  exact ⟨rfl, H4.out.b⟩
set_option maxRecDepth 100000 in
set_option maxHeartbeats 8000000 in
theorem tp_norule3 (w0 : World) (hv : Evs w0) (cv : Value) (c : List Kd) (r : Ru) (A : Option Addr) (cc : Nat) (w : World) (hb0 : Below w0.heap.size w0 w) (hcv : Cat w0 cv c) (hlay : Lay w0 (.slice A r.cond.kids.length cc) r.cond.kids) (hf : FitE r.cond) (hnm : r.name.size ≤ maxLen) (hkd : r.kind.size ≤ maxLen) (hfew : (fewCa c && fewU r) = true) (ho : r.cond.op = 3) (hc : catB c = true) (hr : ruleB r = false) : Calls Tryz.prog 3 #[.agg #[cv], .agg #[.string r.name, .string r.kind, .int .i64 r.cond.op, .string r.cond.name, .string r.cond.value, .int .i64 r.cond.n, .int .i64 r.cond.extra, .slice A r.cond.kids.length cc]] w fun e w' => e = .returned (.bool true) ∧ Below w.heap.size w w' := by
  have H0 := Lib.hid (B2.start w cv #[.string r.name, .string r.kind, .int .i64 r.cond.op, .string r.cond.name, .string r.cond.value, .int .i64 r.cond.n, .int .i64 r.cond.extra, .slice A r.cond.kids.length cc])
  have HB0 := Lib.hid hb0
  have HCV := Lib.hid hcv
  have HLY := Lib.hid hlay
  have HV := Lib.hid hv
  clear hb0 hcv hlay hv
  have HFW := Lib.hid hfew
  have hfew2 := hfew
  rw [Bool.and_eq_true] at hfew2
  have HL := Lib.hid (show c.length ≤ 100000 by have := (fewCa_short hfew2.1).1; omega)
  have HSH := Lib.hid (fewCa_short hfew2.1).2
  have HCN := Lib.hid (show cnt r.cond ≤ 1000000 by have := fewU_cnt hfew2.2; omega)
  have HC80 := Lib.hid (fewU_cnt hfew2.2)
  have HF := Lib.hid hf
  have HNM := Lib.hid hnm
  have HKD := Lib.hid hkd
  clear hfew hfew2 hf hnm hkd
  have HU := Lib.hid (show checkU c r = 1 from (checkU_arg c r).2 (by rw [hc, hr]; rfl))
  have HC := Lib.hid hc
  have HR := Lib.hid hr
  have ho2 : (r.cond.op != 2) = true := by simp; omega
  have ho3 : (r.cond.op != 3) = false := by simp; omega
  clear hc hr ho
  obtain ⟨dK, fK⟩ := H0.out.c.facts
  obtain ⟨dR, fR⟩ := H0.out.r.facts
  go_enter Tryz.func3, Tryz.ntmps3
  go_wp2_with (first | (go_at_call 7; refine (head21_any w0 _ HV.out (HB0.out.trans (H0.out.b.mono HB0.out.size))).mono ?_; rintro e w1 ⟨rfl, hb⟩; have H1 := Lib.hid (H0.out.below hb); clear dK fK dR fR; clear hb; obtain ⟨dK, fK⟩ := H1.out.c.facts; obtain ⟨dR, fR⟩ := H1.out.r.facts) | (go_at_call 8; refine (few21_any w0 cv c r (.slice A r.cond.kids.length cc) _ (HB0.out.trans (H1.out.b.mono HB0.out.size)) HCV.out HLY.out).mono ?_; rintro e w2 ⟨rfl, hb⟩; (rw [HFW.out]); have H2 := Lib.hid (H1.out.below hb); clear dK fK dR fR; clear hb; obtain ⟨dK, fK⟩ := H2.out.c.facts; obtain ⟨dR, fR⟩ := H2.out.r.facts) | (go_at_call 9; refine (tcheck_any _ (HB0.out.trans (H2.out.b.mono HB0.out.size)) HCV.out HL.out HSH.out r (.slice A r.cond.kids.length cc) HCN.out HF.out HNM.out HKD.out HLY.out).mono ?_; rintro e w3 ⟨rfl, hb⟩; (rw [HU.out]); have H3 := Lib.hid (H2.out.below hb); clear dK fK dR fR; clear hb; obtain ⟨dK, fK⟩ := H3.out.c.facts; obtain ⟨dR, fR⟩ := H3.out.r.facts) | (go_at_call 10; refine (catValid_any w0 cv c _ (HB0.out.trans (H3.out.b.mono HB0.out.size)) HCV.out HL.out HSH.out).mono ?_; rintro e w4 ⟨rfl, hb⟩; (rw [HC.out]); have H4 := Lib.hid (H3.out.below hb); clear dK fK dR fR; clear hb; obtain ⟨dK, fK⟩ := H4.out.c.facts; obtain ⟨dR, fR⟩ := H4.out.r.facts) | (go_at_call 11; refine (valid_any r (.slice A r.cond.kids.length cc) _ HCN.out HF.out HNM.out HKD.out (HLY.out.later (HB0.out.trans (H4.out.b.mono HB0.out.size)))).mono ?_; rintro e w5 ⟨rfl, hb⟩; (rw [HR.out]); have H5 := Lib.hid (H4.out.below hb); clear dK fK dR fR; clear hb; obtain ⟨dK, fK⟩ := H5.out.c.facts; obtain ⟨dR, fR⟩ := H5.out.r.facts))
  go_ret
  exact ⟨rfl, H5.out.b⟩
set_option maxRecDepth 100000 in
set_option maxHeartbeats 8000000 in
theorem tp_kids3 (w0 : World) (hv : Evs w0) (cv : Value) (c : List Kd) (r : Ru) (A : Option Addr) (cc : Nat) (w : World) (hb0 : Below w0.heap.size w0 w) (hcv : Cat w0 cv c) (hlay : Lay w0 (.slice A r.cond.kids.length cc) r.cond.kids) (hf : FitE r.cond) (hnm : r.name.size ≤ maxLen) (hkd : r.kind.size ≤ maxLen) (hfew : (fewCa c && fewU r) = true) (ho : r.cond.op = 3) (hc : catB c = true) (hr : ruleB r = true) : Calls Tryz.prog 3 #[.agg #[cv], .agg #[.string r.name, .string r.kind, .int .i64 r.cond.op, .string r.cond.name, .string r.cond.value, .int .i64 r.cond.n, .int .i64 r.cond.extra, .slice A r.cond.kids.length cc]] w fun e w' => e = .returned (.bool true) ∧ Below w.heap.size w w' := by
  have hne : checkU c r ≠ 1 := fun h => by have := (checkU_arg c r).1 h; rw [hc, hr] at this; cases this
  have hkl : 0 < r.cond.kids.length := by
    have h1 := ((trule_iff r.name r.kind r.cond).1 hr).2.2.2
    rw [allB_eq, Bool.and_eq_true] at h1
    have h2 : NodeOk r.cond.op r.cond.name r.cond.value r.cond.n r.cond.extra r.cond.kids.length := of_decide_eq_true h1.1
    have h3 := h2.2.1
    rw [ho] at h3
    have h4 : 2 ≤ r.cond.kids.length := by simpa using h3
    omega
  have HWA := Lib.hid (wantT_all hc hr (by omega) hkl)
  have HWS := Lib.hid (fun (i : Nat) (hi : i < r.cond.kids.length) (hw : wantT c r i = 0) => wantT_step hi hw hc (trule_kid hr (List.getElem_mem hi)))
  have HWP := Lib.hid (fun (i : Nat) (hi : i ≤ r.cond.kids.length) (hw : wantT c r i ≠ 0) => wantT_stop hi hw)
  have HW0 := Lib.hid (show wantT c r 0 = 0 by unfold wantT; rw [List.take_zero, condsT_nil]; simp)
  have H0 := Lib.hid (B2.start w cv #[.string r.name, .string r.kind, .int .i64 r.cond.op, .string r.cond.name, .string r.cond.value, .int .i64 r.cond.n, .int .i64 r.cond.extra, .slice A r.cond.kids.length cc])
  have HB0 := Lib.hid hb0
  have HCV := Lib.hid hcv
  have HLY := Lib.hid hlay
  have HV := Lib.hid hv
  clear hb0 hcv hlay hv
  have HFW := Lib.hid hfew
  have hfew2 := hfew
  rw [Bool.and_eq_true] at hfew2
  have HL := Lib.hid (show c.length ≤ 100000 by have := (fewCa_short hfew2.1).1; omega)
  have HSH := Lib.hid (fewCa_short hfew2.1).2
  have HCN := Lib.hid (show cnt r.cond ≤ 1000000 by have := fewU_cnt hfew2.2; omega)
  have HC80 := Lib.hid (fewU_cnt hfew2.2)
  have HF := Lib.hid hf
  have HNM := Lib.hid hnm
  have HKD := Lib.hid hkd
  clear hfew hfew2 hf hnm hkd
  have ho2 : (r.cond.op != 2) = true := by simp; omega
  have ho3 : (r.cond.op != 3) = false := by simp; omega
  have HLN := Lib.hid (show r.cond.kids.length ≤ 80 by have h1 := len_cnts r.cond.kids; have h2 := cnt_eq r.cond; have h3 := HC80.out; omega)
  have hz1 : (checkU c r == 1) = false := by simpa using hne
  clear hc hr ho hne hkl
  obtain ⟨dK, fK⟩ := H0.out.c.facts
  obtain ⟨dR, fR⟩ := H0.out.r.facts
  go_enter Tryz.func3, Tryz.ntmps3
  obtain ⟨z, hz⟩ : ∃ z, checkU c r = z := ⟨_, rfl⟩
  rw [hz] at hz1 HWA
  have HZ := Lib.hid hz
  clear hz
  go_wp2_with (first | (go_at_call 7; refine (head21_any w0 _ HV.out (HB0.out.trans (H0.out.b.mono HB0.out.size))).mono ?_; rintro e w1 ⟨rfl, hb⟩; have H1 := Lib.hid (H0.out.below hb); clear dK fK dR fR; clear hb; obtain ⟨dK, fK⟩ := H1.out.c.facts; obtain ⟨dR, fR⟩ := H1.out.r.facts) | (go_at_call 8; refine (few21_any w0 cv c r (.slice A r.cond.kids.length cc) _ (HB0.out.trans (H1.out.b.mono HB0.out.size)) HCV.out HLY.out).mono ?_; rintro e w2 ⟨rfl, hb⟩; (rw [HFW.out]); have H2 := Lib.hid (H1.out.below hb); clear dK fK dR fR; clear hb; obtain ⟨dK, fK⟩ := H2.out.c.facts; obtain ⟨dR, fR⟩ := H2.out.r.facts) | (go_at_call 9; refine (tcheck_any _ (HB0.out.trans (H2.out.b.mono HB0.out.size)) HCV.out HL.out HSH.out r (.slice A r.cond.kids.length cc) HCN.out HF.out HNM.out HKD.out HLY.out).mono ?_; rintro e w3 ⟨rfl, hb⟩; (rw [HZ.out]); have H3 := Lib.hid (H2.out.below hb); clear dK fK dR fR; clear hb; obtain ⟨dK, fK⟩ := H3.out.c.facts; obtain ⟨dR, fR⟩ := H3.out.r.facts))
  clear dK fK dR fR
  go_loopw [7, 8] (fun v i wr => ∃ k : Nat, i = .int .i64 k ∧ k ≤ r.cond.kids.length ∧ v = .int .i64 (wantT c r k) ∧ Hid (B2 w cv #[.string r.name, .string r.kind, .int .i64 r.cond.op, .string r.cond.name, .string r.cond.value, .int .i64 r.cond.n, .int .i64 r.cond.extra, .slice A r.cond.kids.length cc] wr)) (fun _ i _ => r.cond.kids.length - (intOf i).toNat)
  case atStart => exact ⟨0, rfl, Nat.zero_le _, by rw [HW0.out], H3⟩
  case round =>
    obtain ⟨k, rfl, hk, rfl, H4⟩ := hrel
    clear H0 H1 H2 H3
    obtain ⟨dK, fK⟩ := H4.out.c.facts; obtain ⟨dR, fR⟩ := H4.out.r.facts
    by_cases hlt : k < r.cond.kids.length
    · have hki : (k : Int) < (r.cond.kids.length : Int) := by omega
      have hs3 : IntKind.i64.wrap ((k : Int) + 1) = (k : Int) + 1 := IntWalk.i64_in _ (by have := HLN.out; omega)
      by_cases hw : wantT c r k = 0
      · have HST := Lib.hid (HWS.out k hlt hw)
        have hb0w : (wantT c r k == 0) = true := by simp [hw]
        have H4y := Lib.hid (H4.out.below ((Below.refl wr.heap.size wr).alloc (Nat.le_refl _) (.cells #[.string r.name, .string r.kind, .int .i64 r.cond.op, .string r.cond.name, .string r.cond.value, .int .i64 r.cond.n, .int .i64 r.cond.extra, .slice A r.cond.kids.length cc] 29)))
        obtain ⟨dKy, fKy⟩ := H4y.out.c.facts
        obtain ⟨dRy, fRy⟩ := H4y.out.r.facts
        obtain ⟨_, _, hkid⟩ := LayS.kid HLY.out
        obtain ⟨kb, ko, kv2, rfl, hcell, hkk⟩ := hkid k hlt
        have hb0 := (HB0.out.trans (H4y.out.b.mono HB0.out.size))
        have hc0 := cell_later hb0 (hcell 0 (by decide))
        have hc1 := cell_later hb0 (hcell 1 (by decide))
        have hc2 := cell_later hb0 (hcell 2 (by decide))
        have hc3 := cell_later hb0 (hcell 3 (by decide))
        have hc4 := cell_later hb0 (hcell 4 (by decide))
        have hc5 := cell_later hb0 (hcell 5 (by decide))
        simp only [exF, if_true, if_false, Nat.reduceEqDiff, Nat.add_one_ne_zero, ← Nat.add_assoc, Nat.add_zero] at hc0 hc1 hc2 hc3 hc4 hc5
        have HKK := Lib.hid hkk
        have HKC := Lib.hid (show cnt r.cond.kids[k] ≤ 1000000 by have h1 := cnt_kid (List.getElem_mem hlt); have h2 := HCN.out; omega)
        have HKF := Lib.hid (HF.out.kid _ (List.getElem_mem hlt))
        obtain ⟨Ak, ck, rfl, _⟩ := hkk.slice
        clear hkid hcell hkk hw hb0
        generalize wantT c r k = wk at *
        generalize r.cond.kids[k] = ek at *
        have hlt4 := H4.out.lt
        have HX := Lib.hid ((Below.refl wr.heap.size wr).alloc (Nat.le_refl _) (.cells #[.string r.name, .string r.kind, .int .i64 ek.op, .string ek.name, .string ek.value, .int .i64 ek.n, .int .i64 ek.extra, .slice Ak ek.kids.length ck] 29))
        have H4x := Lib.hid (H4.out.below HX.out)
        obtain ⟨dKx, fKx⟩ := H4x.out.c.facts
        obtain ⟨dRx, fRx⟩ := H4x.out.r.facts
        go_wp2_with (go_at_call 9; refine (tcheck_any _ (HB0.out.trans (H4x.out.b.mono HB0.out.size)) HCV.out HL.out HSH.out ⟨r.name, r.kind, ek⟩ (.slice Ak ek.kids.length ck) HKC.out HKF.out HNM.out HKD.out HKK.out).mono ?_; rintro e w5 ⟨rfl, hb⟩; (rw [HST.out]); have H5 := Lib.hid (H4x.out.below hb); clear dK fK dR fR dKx fKx dRx fRx dKy fKy dRy fRy; clear hb)
        go_roundw
        case rel => exact ⟨k + 1, by go_num, hlt, rfl, H5⟩
        case measure => simp [intOf]; omega
      · have HST := Lib.hid (HWP.out k hk hw)
        have hb0w : (wantT c r k == 0) = false := by simpa using hw
        have hzz : (z == wantT c r k) = true := by rw [← HST.out, HWA.out]; simp
        clear hw
        generalize wantT c r k = wk at *
        go_wp2_with fail
        go_ret
        exact ⟨rfl, H4.out.b⟩
    · have hki : ¬ (k : Int) < (r.cond.kids.length : Int) := by omega
      obtain rfl : k = r.cond.kids.length := by omega
      have hzz : (z == wantT c r r.cond.kids.length) = true := by rw [HWA.out]; simp
      generalize wantT c r r.cond.kids.length = wk at *
      go_wp2_with fail
      go_ret
      exact ⟨rfl, H4.out.b⟩
set_option maxRecDepth 100000 in
set_option maxHeartbeats 8000000 in
theorem tp_nocat4 (w0 : World) (hv : Evs w0) (cv : Value) (c : List Kd) (r : Ru) (A : Option Addr) (cc : Nat) (w : World) (hb0 : Below w0.heap.size w0 w) (hcv : Cat w0 cv c) (hlay : Lay w0 (.slice A r.cond.kids.length cc) r.cond.kids) (hf : FitE r.cond) (hnm : r.name.size ≤ maxLen) (hkd : r.kind.size ≤ maxLen) (hfew : (fewCa c && fewU r) = true) (ho : r.cond.op = 4) (hc : catB c = false) : Calls Tryz.prog 3 #[.agg #[cv], .agg #[.string r.name, .string r.kind, .int .i64 r.cond.op, .string r.cond.name, .string r.cond.value, .int .i64 r.cond.n, .int .i64 r.cond.extra, .slice A r.cond.kids.length cc]] w fun e w' => e = .returned (.bool true) ∧ Below w.heap.size w w' := by
  have H0 := Lib.hid (B2.start w cv #[.string r.name, .string r.kind, .int .i64 r.cond.op, .string r.cond.name, .string r.cond.value, .int .i64 r.cond.n, .int .i64 r.cond.extra, .slice A r.cond.kids.length cc])
  have HB0 := Lib.hid hb0
  have HCV := Lib.hid hcv
  have HLY := Lib.hid hlay
  have HV := Lib.hid hv
  clear hb0 hcv hlay hv
  have HFW := Lib.hid hfew
  have hfew2 := hfew
  rw [Bool.and_eq_true] at hfew2
  have HL := Lib.hid (show c.length ≤ 100000 by have := (fewCa_short hfew2.1).1; omega)
  have HSH := Lib.hid (fewCa_short hfew2.1).2
  have HCN := Lib.hid (show cnt r.cond ≤ 1000000 by have := fewU_cnt hfew2.2; omega)
  have HC80 := Lib.hid (fewU_cnt hfew2.2)
  have HF := Lib.hid hf
  have HNM := Lib.hid hnm
  have HKD := Lib.hid hkd
  clear hfew hfew2 hf hnm hkd
  have HU := Lib.hid (show checkU c r = 1 from (checkU_arg c r).2 (by rw [hc]; rfl))
  have HC := Lib.hid hc
  have ho2 : (r.cond.op != 2) = true := by simp; omega
  have ho3 : (r.cond.op != 3) = true := by simp; omega
  have ho4 : (r.cond.op != 4) = false := by simp; omega
  clear hc ho
  obtain ⟨dK, fK⟩ := H0.out.c.facts
  obtain ⟨dR, fR⟩ := H0.out.r.facts
  go_enter Tryz.func3, Tryz.ntmps3
  go_wp2_with (first | (go_at_call 7; refine (head21_any w0 _ HV.out (HB0.out.trans (H0.out.b.mono HB0.out.size))).mono ?_; rintro e w1 ⟨rfl, hb⟩; have H1 := Lib.hid (H0.out.below hb); clear dK fK dR fR; clear hb; obtain ⟨dK, fK⟩ := H1.out.c.facts; obtain ⟨dR, fR⟩ := H1.out.r.facts) | (go_at_call 8; refine (few21_any w0 cv c r (.slice A r.cond.kids.length cc) _ (HB0.out.trans (H1.out.b.mono HB0.out.size)) HCV.out HLY.out).mono ?_; rintro e w2 ⟨rfl, hb⟩; (rw [HFW.out]); have H2 := Lib.hid (H1.out.below hb); clear dK fK dR fR; clear hb; obtain ⟨dK, fK⟩ := H2.out.c.facts; obtain ⟨dR, fR⟩ := H2.out.r.facts) | (go_at_call 9; refine (tcheck_any _ (HB0.out.trans (H2.out.b.mono HB0.out.size)) HCV.out HL.out HSH.out r (.slice A r.cond.kids.length cc) HCN.out HF.out HNM.out HKD.out HLY.out).mono ?_; rintro e w3 ⟨rfl, hb⟩; (rw [HU.out]); have H3 := Lib.hid (H2.out.below hb); clear dK fK dR fR; clear hb; obtain ⟨dK, fK⟩ := H3.out.c.facts; obtain ⟨dR, fR⟩ := H3.out.r.facts) | (go_at_call 10; refine (catValid_any w0 cv c _ (HB0.out.trans (H3.out.b.mono HB0.out.size)) HCV.out HL.out HSH.out).mono ?_; rintro e w4 ⟨rfl, hb⟩; (rw [HC.out]); have H4 := Lib.hid (H3.out.below hb); clear dK fK dR fR; clear hb; obtain ⟨dK, fK⟩ := H4.out.c.facts; obtain ⟨dR, fR⟩ := H4.out.r.facts))
  go_ret
  exact ⟨rfl, H4.out.b⟩
set_option maxRecDepth 100000 in
set_option maxHeartbeats 8000000 in
theorem tp_norule4 (w0 : World) (hv : Evs w0) (cv : Value) (c : List Kd) (r : Ru) (A : Option Addr) (cc : Nat) (w : World) (hb0 : Below w0.heap.size w0 w) (hcv : Cat w0 cv c) (hlay : Lay w0 (.slice A r.cond.kids.length cc) r.cond.kids) (hf : FitE r.cond) (hnm : r.name.size ≤ maxLen) (hkd : r.kind.size ≤ maxLen) (hfew : (fewCa c && fewU r) = true) (ho : r.cond.op = 4) (hc : catB c = true) (hr : ruleB r = false) : Calls Tryz.prog 3 #[.agg #[cv], .agg #[.string r.name, .string r.kind, .int .i64 r.cond.op, .string r.cond.name, .string r.cond.value, .int .i64 r.cond.n, .int .i64 r.cond.extra, .slice A r.cond.kids.length cc]] w fun e w' => e = .returned (.bool true) ∧ Below w.heap.size w w' := by
  have H0 := Lib.hid (B2.start w cv #[.string r.name, .string r.kind, .int .i64 r.cond.op, .string r.cond.name, .string r.cond.value, .int .i64 r.cond.n, .int .i64 r.cond.extra, .slice A r.cond.kids.length cc])
  have HB0 := Lib.hid hb0
  have HCV := Lib.hid hcv
  have HLY := Lib.hid hlay
  have HV := Lib.hid hv
  clear hb0 hcv hlay hv
  have HFW := Lib.hid hfew
  have hfew2 := hfew
  rw [Bool.and_eq_true] at hfew2
  have HL := Lib.hid (show c.length ≤ 100000 by have := (fewCa_short hfew2.1).1; omega)
  have HSH := Lib.hid (fewCa_short hfew2.1).2
  have HCN := Lib.hid (show cnt r.cond ≤ 1000000 by have := fewU_cnt hfew2.2; omega)
  have HC80 := Lib.hid (fewU_cnt hfew2.2)
  have HF := Lib.hid hf
  have HNM := Lib.hid hnm
  have HKD := Lib.hid hkd
  clear hfew hfew2 hf hnm hkd
  have HU := Lib.hid (show checkU c r = 1 from (checkU_arg c r).2 (by rw [hc, hr]; rfl))
  have HC := Lib.hid hc
  have HR := Lib.hid hr
  have ho2 : (r.cond.op != 2) = true := by simp; omega
  have ho3 : (r.cond.op != 3) = true := by simp; omega
  have ho4 : (r.cond.op != 4) = false := by simp; omega
  clear hc hr ho
  obtain ⟨dK, fK⟩ := H0.out.c.facts
  obtain ⟨dR, fR⟩ := H0.out.r.facts
  go_enter Tryz.func3, Tryz.ntmps3
  go_wp2_with (first | (go_at_call 7; refine (head21_any w0 _ HV.out (HB0.out.trans (H0.out.b.mono HB0.out.size))).mono ?_; rintro e w1 ⟨rfl, hb⟩; have H1 := Lib.hid (H0.out.below hb); clear dK fK dR fR; clear hb; obtain ⟨dK, fK⟩ := H1.out.c.facts; obtain ⟨dR, fR⟩ := H1.out.r.facts) | (go_at_call 8; refine (few21_any w0 cv c r (.slice A r.cond.kids.length cc) _ (HB0.out.trans (H1.out.b.mono HB0.out.size)) HCV.out HLY.out).mono ?_; rintro e w2 ⟨rfl, hb⟩; (rw [HFW.out]); have H2 := Lib.hid (H1.out.below hb); clear dK fK dR fR; clear hb; obtain ⟨dK, fK⟩ := H2.out.c.facts; obtain ⟨dR, fR⟩ := H2.out.r.facts) | (go_at_call 9; refine (tcheck_any _ (HB0.out.trans (H2.out.b.mono HB0.out.size)) HCV.out HL.out HSH.out r (.slice A r.cond.kids.length cc) HCN.out HF.out HNM.out HKD.out HLY.out).mono ?_; rintro e w3 ⟨rfl, hb⟩; (rw [HU.out]); have H3 := Lib.hid (H2.out.below hb); clear dK fK dR fR; clear hb; obtain ⟨dK, fK⟩ := H3.out.c.facts; obtain ⟨dR, fR⟩ := H3.out.r.facts) | (go_at_call 10; refine (catValid_any w0 cv c _ (HB0.out.trans (H3.out.b.mono HB0.out.size)) HCV.out HL.out HSH.out).mono ?_; rintro e w4 ⟨rfl, hb⟩; (rw [HC.out]); have H4 := Lib.hid (H3.out.below hb); clear dK fK dR fR; clear hb; obtain ⟨dK, fK⟩ := H4.out.c.facts; obtain ⟨dR, fR⟩ := H4.out.r.facts) | (go_at_call 11; refine (valid_any r (.slice A r.cond.kids.length cc) _ HCN.out HF.out HNM.out HKD.out (HLY.out.later (HB0.out.trans (H4.out.b.mono HB0.out.size)))).mono ?_; rintro e w5 ⟨rfl, hb⟩; (rw [HR.out]); have H5 := Lib.hid (H4.out.below hb); clear dK fK dR fR; clear hb; obtain ⟨dK, fK⟩ := H5.out.c.facts; obtain ⟨dR, fR⟩ := H5.out.r.facts))
  go_ret
  exact ⟨rfl, H5.out.b⟩
set_option maxRecDepth 100000 in
set_option maxHeartbeats 8000000 in
theorem tp_kids4 (w0 : World) (hv : Evs w0) (cv : Value) (c : List Kd) (r : Ru) (A : Option Addr) (cc : Nat) (w : World) (hb0 : Below w0.heap.size w0 w) (hcv : Cat w0 cv c) (hlay : Lay w0 (.slice A r.cond.kids.length cc) r.cond.kids) (hf : FitE r.cond) (hnm : r.name.size ≤ maxLen) (hkd : r.kind.size ≤ maxLen) (hfew : (fewCa c && fewU r) = true) (ho : r.cond.op = 4) (hc : catB c = true) (hr : ruleB r = true) : Calls Tryz.prog 3 #[.agg #[cv], .agg #[.string r.name, .string r.kind, .int .i64 r.cond.op, .string r.cond.name, .string r.cond.value, .int .i64 r.cond.n, .int .i64 r.cond.extra, .slice A r.cond.kids.length cc]] w fun e w' => e = .returned (.bool true) ∧ Below w.heap.size w w' := by
  have hne : checkU c r ≠ 1 := fun h => by have := (checkU_arg c r).1 h; rw [hc, hr] at this; cases this
  have hkl : 0 < r.cond.kids.length := by
    have h1 := ((trule_iff r.name r.kind r.cond).1 hr).2.2.2
    rw [allB_eq, Bool.and_eq_true] at h1
    have h2 : NodeOk r.cond.op r.cond.name r.cond.value r.cond.n r.cond.extra r.cond.kids.length := of_decide_eq_true h1.1
    have h3 := h2.2.1
    rw [ho] at h3
    have h4 : 2 ≤ r.cond.kids.length := by simpa using h3
    omega
  have HWA := Lib.hid (wantT_all hc hr (by omega) hkl)
  have HWS := Lib.hid (fun (i : Nat) (hi : i < r.cond.kids.length) (hw : wantT c r i = 0) => wantT_step hi hw hc (trule_kid hr (List.getElem_mem hi)))
  have HWP := Lib.hid (fun (i : Nat) (hi : i ≤ r.cond.kids.length) (hw : wantT c r i ≠ 0) => wantT_stop hi hw)
  have HW0 := Lib.hid (show wantT c r 0 = 0 by unfold wantT; rw [List.take_zero, condsT_nil]; simp)
  have H0 := Lib.hid (B2.start w cv #[.string r.name, .string r.kind, .int .i64 r.cond.op, .string r.cond.name, .string r.cond.value, .int .i64 r.cond.n, .int .i64 r.cond.extra, .slice A r.cond.kids.length cc])
  have HB0 := Lib.hid hb0
  have HCV := Lib.hid hcv
  have HLY := Lib.hid hlay
  have HV := Lib.hid hv
  clear hb0 hcv hlay hv
  have HFW := Lib.hid hfew
  have hfew2 := hfew
  rw [Bool.and_eq_true] at hfew2
  have HL := Lib.hid (show c.length ≤ 100000 by have := (fewCa_short hfew2.1).1; omega)
  have HSH := Lib.hid (fewCa_short hfew2.1).2
  have HCN := Lib.hid (show cnt r.cond ≤ 1000000 by have := fewU_cnt hfew2.2; omega)
  have HC80 := Lib.hid (fewU_cnt hfew2.2)
  have HF := Lib.hid hf
  have HNM := Lib.hid hnm
  have HKD := Lib.hid hkd
  clear hfew hfew2 hf hnm hkd
  have ho2 : (r.cond.op != 2) = true := by simp; omega
  have ho3 : (r.cond.op != 3) = true := by simp; omega
  have ho4 : (r.cond.op != 4) = false := by simp; omega
  have HLN := Lib.hid (show r.cond.kids.length ≤ 80 by have h1 := len_cnts r.cond.kids; have h2 := cnt_eq r.cond; have h3 := HC80.out; omega)
  have hz1 : (checkU c r == 1) = false := by simpa using hne
  clear hc hr ho hne hkl
  obtain ⟨dK, fK⟩ := H0.out.c.facts
  obtain ⟨dR, fR⟩ := H0.out.r.facts
  go_enter Tryz.func3, Tryz.ntmps3
  obtain ⟨z, hz⟩ : ∃ z, checkU c r = z := ⟨_, rfl⟩
  rw [hz] at hz1 HWA
  have HZ := Lib.hid hz
  clear hz
  go_wp2_with (first | (go_at_call 7; refine (head21_any w0 _ HV.out (HB0.out.trans (H0.out.b.mono HB0.out.size))).mono ?_; rintro e w1 ⟨rfl, hb⟩; have H1 := Lib.hid (H0.out.below hb); clear dK fK dR fR; clear hb; obtain ⟨dK, fK⟩ := H1.out.c.facts; obtain ⟨dR, fR⟩ := H1.out.r.facts) | (go_at_call 8; refine (few21_any w0 cv c r (.slice A r.cond.kids.length cc) _ (HB0.out.trans (H1.out.b.mono HB0.out.size)) HCV.out HLY.out).mono ?_; rintro e w2 ⟨rfl, hb⟩; (rw [HFW.out]); have H2 := Lib.hid (H1.out.below hb); clear dK fK dR fR; clear hb; obtain ⟨dK, fK⟩ := H2.out.c.facts; obtain ⟨dR, fR⟩ := H2.out.r.facts) | (go_at_call 9; refine (tcheck_any _ (HB0.out.trans (H2.out.b.mono HB0.out.size)) HCV.out HL.out HSH.out r (.slice A r.cond.kids.length cc) HCN.out HF.out HNM.out HKD.out HLY.out).mono ?_; rintro e w3 ⟨rfl, hb⟩; (rw [HZ.out]); have H3 := Lib.hid (H2.out.below hb); clear dK fK dR fR; clear hb; obtain ⟨dK, fK⟩ := H3.out.c.facts; obtain ⟨dR, fR⟩ := H3.out.r.facts))
  clear dK fK dR fR
  go_loopw [7, 8] (fun v i wr => ∃ k : Nat, i = .int .i64 k ∧ k ≤ r.cond.kids.length ∧ v = .int .i64 (wantT c r k) ∧ Hid (B2 w cv #[.string r.name, .string r.kind, .int .i64 r.cond.op, .string r.cond.name, .string r.cond.value, .int .i64 r.cond.n, .int .i64 r.cond.extra, .slice A r.cond.kids.length cc] wr)) (fun _ i _ => r.cond.kids.length - (intOf i).toNat)
  case atStart => exact ⟨0, rfl, Nat.zero_le _, by rw [HW0.out], H3⟩
  case round =>
    obtain ⟨k, rfl, hk, rfl, H4⟩ := hrel
    clear H0 H1 H2 H3
    obtain ⟨dK, fK⟩ := H4.out.c.facts; obtain ⟨dR, fR⟩ := H4.out.r.facts
    by_cases hlt : k < r.cond.kids.length
    · have hki : (k : Int) < (r.cond.kids.length : Int) := by omega
      have hs3 : IntKind.i64.wrap ((k : Int) + 1) = (k : Int) + 1 := IntWalk.i64_in _ (by have := HLN.out; omega)
      by_cases hw : wantT c r k = 0
      · have HST := Lib.hid (HWS.out k hlt hw)
        have hb0w : (wantT c r k == 0) = true := by simp [hw]
        have H4y := Lib.hid (H4.out.below ((Below.refl wr.heap.size wr).alloc (Nat.le_refl _) (.cells #[.string r.name, .string r.kind, .int .i64 r.cond.op, .string r.cond.name, .string r.cond.value, .int .i64 r.cond.n, .int .i64 r.cond.extra, .slice A r.cond.kids.length cc] 29)))
        obtain ⟨dKy, fKy⟩ := H4y.out.c.facts
        obtain ⟨dRy, fRy⟩ := H4y.out.r.facts
        obtain ⟨_, _, hkid⟩ := LayS.kid HLY.out
        obtain ⟨kb, ko, kv2, rfl, hcell, hkk⟩ := hkid k hlt
        have hb0 := (HB0.out.trans (H4y.out.b.mono HB0.out.size))
        have hc0 := cell_later hb0 (hcell 0 (by decide))
        have hc1 := cell_later hb0 (hcell 1 (by decide))
        have hc2 := cell_later hb0 (hcell 2 (by decide))
        have hc3 := cell_later hb0 (hcell 3 (by decide))
        have hc4 := cell_later hb0 (hcell 4 (by decide))
        have hc5 := cell_later hb0 (hcell 5 (by decide))
        simp only [exF, if_true, if_false, Nat.reduceEqDiff, Nat.add_one_ne_zero, ← Nat.add_assoc, Nat.add_zero] at hc0 hc1 hc2 hc3 hc4 hc5
        have HKK := Lib.hid hkk
        have HKC := Lib.hid (show cnt r.cond.kids[k] ≤ 1000000 by have h1 := cnt_kid (List.getElem_mem hlt); have h2 := HCN.out; omega)
        have HKF := Lib.hid (HF.out.kid _ (List.getElem_mem hlt))
        obtain ⟨Ak, ck, rfl, _⟩ := hkk.slice
        clear hkid hcell hkk hw hb0
        generalize wantT c r k = wk at *
        generalize r.cond.kids[k] = ek at *
        have hlt4 := H4.out.lt
        have HX := Lib.hid ((Below.refl wr.heap.size wr).alloc (Nat.le_refl _) (.cells #[.string r.name, .string r.kind, .int .i64 ek.op, .string ek.name, .string ek.value, .int .i64 ek.n, .int .i64 ek.extra, .slice Ak ek.kids.length ck] 29))
        have H4x := Lib.hid (H4.out.below HX.out)
        obtain ⟨dKx, fKx⟩ := H4x.out.c.facts
        obtain ⟨dRx, fRx⟩ := H4x.out.r.facts
        go_wp2_with (go_at_call 9; refine (tcheck_any _ (HB0.out.trans (H4x.out.b.mono HB0.out.size)) HCV.out HL.out HSH.out ⟨r.name, r.kind, ek⟩ (.slice Ak ek.kids.length ck) HKC.out HKF.out HNM.out HKD.out HKK.out).mono ?_; rintro e w5 ⟨rfl, hb⟩; (rw [HST.out]); have H5 := Lib.hid (H4x.out.below hb); clear dK fK dR fR dKx fKx dRx fRx dKy fKy dRy fRy; clear hb)
        go_roundw
        case rel => exact ⟨k + 1, by go_num, hlt, rfl, H5⟩
        case measure => simp [intOf]; omega
      · have HST := Lib.hid (HWP.out k hk hw)
        have hb0w : (wantT c r k == 0) = false := by simpa using hw
        have hzz : (z == wantT c r k) = true := by rw [← HST.out, HWA.out]; simp
        clear hw
        generalize wantT c r k = wk at *
        go_wp2_with fail
        go_ret
        exact ⟨rfl, H4.out.b⟩
    · have hki : ¬ (k : Int) < (r.cond.kids.length : Int) := by omega
      obtain rfl : k = r.cond.kids.length := by omega
      have hzz : (z == wantT c r r.cond.kids.length) = true := by rw [HWA.out]; simp
      generalize wantT c r r.cond.kids.length = wk at *
      go_wp2_with fail
      go_ret
      exact ⟨rfl, H4.out.b⟩
theorem parts21_any (w0 : World) (hv : Evs w0) (cv : Value) (c : List Kd) (r : Ru) (kv : Value) (w : World) (hb0 : Below w0.heap.size w0 w) (hcv : Cat w0 cv c) (hlay : Lay w0 kv r.cond.kids) (hf : FitE r.cond) (hnm : r.name.size ≤ maxLen) (hkd : r.kind.size ≤ maxLen) : Calls Tryz.prog 3 #[.agg #[cv], .agg (ruA r kv)] w fun e w' => e = .returned (.bool true) ∧ Below w.heap.size w w' := by
  obtain ⟨A, cc, rfl, _⟩ := hlay.slice
  cases hfew : (fewCa c && fewU r) with
  | false => exact tp_few w0 hv cv c r A cc w hb0 hcv hlay hfew
  | true =>
    by_cases ho : r.cond.op = 2 ∨ r.cond.op = 3 ∨ r.cond.op = 4
    · cases hc : catB c with
      | false => rcases ho with ho | ho | ho
                 · exact tp_nocat2 w0 hv cv c r A cc w hb0 hcv hlay hf hnm hkd hfew ho hc
                 · exact tp_nocat3 w0 hv cv c r A cc w hb0 hcv hlay hf hnm hkd hfew ho hc
                 · exact tp_nocat4 w0 hv cv c r A cc w hb0 hcv hlay hf hnm hkd hfew ho hc
      | true =>
        cases hr : ruleB r with
        | false => rcases ho with ho | ho | ho
                   · exact tp_norule2 w0 hv cv c r A cc w hb0 hcv hlay hf hnm hkd hfew ho hc hr
                   · exact tp_norule3 w0 hv cv c r A cc w hb0 hcv hlay hf hnm hkd hfew ho hc hr
                   · exact tp_norule4 w0 hv cv c r A cc w hb0 hcv hlay hf hnm hkd hfew ho hc hr
        | true => rcases ho with ho | ho | ho
                  · exact tp_kids2 w0 hv cv c r A cc w hb0 hcv hlay hf hnm hkd hfew ho hc hr
                  · exact tp_kids3 w0 hv cv c r A cc w hb0 hcv hlay hf hnm hkd hfew ho hc hr
                  · exact tp_kids4 w0 hv cv c r A cc w hb0 hcv hlay hf hnm hkd hfew ho hc hr
    · exact tp_other w0 hv cv c r A cc w hb0 hcv hlay hf hnm hkd hfew ho
end Go.Proofs.YtcpakaiblelmlaaGreatDoor
