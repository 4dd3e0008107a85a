/- TypingFurther: for the first kinds alone the kinds inside a kind are the same, and so is the error of a rule. Condition: the arguments lie in memory; the error variables of strconv hold something. -/
import Derived.Deep.RegionHeld3
import Derived.Test.YtcpakaiblelmlaaGreatDoorU01
import Derived.Test.YtcpakaiblelmlaaGreatDoorU02
import Derived.Test.YtcpakaiblelmlaaGreatDoorU13
import Derived.Test.YtcpakaiblelmlaaGreatDoorU20
namespace Go.Proofs.YtcpakaiblelmlaaGreatDoor
open Go Go.RowKit
/-- The boxes of a catalog, of a rule, of the first kinds. -/
structure B3 (w : World) (cv : Value) (ra : Array Value) (gl : Nat) (lv : Value) (W : World) : Prop where
  bx : B2 w cv ra W
  l : Has W gl 24 #[lv]
theorem B3.below {w W W' : World} {cv lv : Value} {ra : Array Value} {gl : Nat} (h : B3 w cv ra gl lv W) (hb : Below W.heap.size W W') : B3 w cv ra gl lv W' := ⟨h.bx.below hb, h.l.below hb h.l.lt⟩
theorem kinds_len {c : List Kd} (hc : catB c = true) (x : ByteArray) : (kindsU c x).length ≤ c.length := by
  unfold kindsU
  rw [hc, if_pos rfl, sortD_len]
  obtain ⟨h1, h2⟩ := nubL_all (insL c x)
  have := nodup_len h1 (fun y hy => ins_name hc ((h2 y).1 hy))
  rwa [List.length_map] at this
theorem kinds_inc (c : List Kd) (x : ByteArray) : Inc (kindsU c x) := by
  unfold kindsU
  split
  · exact sortD_inc _
  · exact List.Pairwise.nil
theorem sameS_refl (l : List ByteArray) : sameS l l = true := decide_eq_true rfl
theorem find_yes (w0 : World) (cv : Value) (c : List Kd) (y : ByteArray) (hcv : Cat w0 cv c) (hl : c.length ≤ 100000) (h : ∃ k, kfind c y = some k ∧ k.veh = false) : ∃ kn sn, ∀ W, Below w0.heap.size w0 W →
    Calls Tryz.prog 14 #[.agg #[cv], .string y] W fun e w' => ∃ A m, e = .returned (.tuple #[.agg #[.string kn, .bool false, .slice A sn m], .bool true]) ∧ Below W.heap.size W w' := by
  obtain ⟨k, hk, hv⟩ := h
  refine ⟨k.name, k.slots.length, fun W hb => (find_any w0 cv c y W hb hcv hl).mono ?_⟩
  rintro e w' ⟨A, m, rfl, _, hb⟩
  rw [hk]
  exact ⟨A, m, by rw [← hv]; rfl, hb⟩
/-- The first kinds of a catalog, in memory. -/
theorem cat_take {w : World} {b o c' : Nat} {c : List Kd} (h : Cat w (.slice (some ⟨b, o, none⟩) c.length c') c) {n : Nat} (hn : n ≤ c.length) : Cat w (.slice (some ⟨b, o, none⟩) n c') (c.take n) := by
  obtain ⟨A, cc, he, h1, h2⟩ := h
  injection he with e1 e2 e3
  subst e1
  subst e3
  have hl : (c.take n).length = n := by rw [List.length_take]; omega
  refine ⟨some ⟨b, o, none⟩, c', by rw [hl], by omega, ?_⟩
  rcases h2 with h2 | ⟨b', o', e, hh⟩
  · exact .inl (by omega)
  · injection e with e
    injection e with e1 e2
    subst e1
    subst e2
    refine .inr ⟨b, o, rfl, fun i a hi => hh i a ?_⟩
    have hin : i < n := by
      rcases Nat.lt_or_ge i n with h | h
      · exact h
      · rw [List.getElem?_eq_none (by omega)] at hi; cases hi
    rw [List.getElem?_take, if_pos hin] at hi
    exact hi
set_option maxRecDepth 100000 in
set_option maxHeartbeats 8000000 in
theorem tf_few (w0 : World) (hv : Evs w0) (cv : Value) (c : List Kd) (r : Ru) (A : Option Addr) (cc : Nat) (w : World) (hb0 : Below w0.heap.size w0 w) (hcv : Cat w0 cv c) (hlay : Lay w0 (.slice A r.cond.kids.length cc) r.cond.kids) (rn ix : Nat) (_hrn : rn ≤ 255) (_hix : ix ≤ 255) (hfew : (fewCa c && fewU r) = false) : Calls Tryz.prog 4 #[.agg #[cv], .agg #[.string r.name, .string r.kind, .int .i64 r.cond.op, .string r.cond.name, .string r.cond.value, .int .i64 r.cond.n, .int .i64 r.cond.extra, .slice A r.cond.kids.length cc], .int .u8 rn, .int .u8 ix] w fun e w' => e = .returned (.bool true) ∧ Below w.heap.size w w' := by
  have H0 := Lib.hid (B2.start w cv #[.string r.name, .string r.kind, .int .i64 r.cond.op, .string r.cond.name, .string r.cond.value, .int .i64 r.cond.n, .int .i64 r.cond.extra, .slice A r.cond.kids.length cc])
  have HB0 := Lib.hid hb0
  have HCV := Lib.hid hcv
  have HLY := Lib.hid hlay
  have HV := Lib.hid hv
  clear hb0 hcv hlay hv
  have HFW := Lib.hid hfew
  clear hfew
  obtain ⟨dK, fK⟩ := H0.out.c.facts
  obtain ⟨dR, fR⟩ := H0.out.r.facts
  go_enter Tryz.func4, Tryz.ntmps4
  go_wp2_with (first | (go_at_call 7; refine (head21_any w0 _ HV.out (HB0.out.trans (H0.out.b.mono HB0.out.size))).mono ?_; rintro e w1 ⟨rfl, hb⟩; have H1 := Lib.hid (H0.out.below hb); clear dK fK dR fR; clear hb; obtain ⟨dK, fK⟩ := H1.out.c.facts; obtain ⟨dR, fR⟩ := H1.out.r.facts) | (go_at_call 8; refine (few21_any w0 cv c r (.slice A r.cond.kids.length cc) _ (HB0.out.trans (H1.out.b.mono HB0.out.size)) HCV.out HLY.out).mono ?_; rintro e w2 ⟨rfl, hb⟩; (rw [HFW.out]); have H2 := Lib.hid (H1.out.below hb); clear dK fK dR fR; clear hb; obtain ⟨dK, fK⟩ := H2.out.c.facts; obtain ⟨dR, fR⟩ := H2.out.r.facts))
  go_ret
  exact ⟨rfl, H2.out.b⟩
set_option maxRecDepth 100000 in
set_option maxHeartbeats 8000000 in
theorem tf_bad (w0 : World) (hv : Evs w0) (cv : Value) (c : List Kd) (r : Ru) (A : Option Addr) (cc : Nat) (w : World) (hb0 : Below w0.heap.size w0 w) (hcv : Cat w0 cv c) (hlay : Lay w0 (.slice A r.cond.kids.length cc) r.cond.kids) (rn ix : Nat) (_hrn : rn ≤ 255) (_hix : ix ≤ 255) (hf : FitE r.cond) (hnm : r.name.size ≤ maxLen) (hkd : r.kind.size ≤ maxLen) (hfew : (fewCa c && fewU r) = true) (hc : catB c = false) : Calls Tryz.prog 4 #[.agg #[cv], .agg #[.string r.name, .string r.kind, .int .i64 r.cond.op, .string r.cond.name, .string r.cond.value, .int .i64 r.cond.n, .int .i64 r.cond.extra, .slice A r.cond.kids.length cc], .int .u8 rn, .int .u8 ix] w fun e w' => e = .returned (.bool true) ∧ Below w.heap.size w w' := by
  have H0 := Lib.hid (B2.start w cv #[.string r.name, .string r.kind, .int .i64 r.cond.op, .string r.cond.name, .string r.cond.value, .int .i64 r.cond.n, .int .i64 r.cond.extra, .slice A r.cond.kids.length cc])
  have HB0 := Lib.hid hb0
  have HCV := Lib.hid hcv
  have HLY := Lib.hid hlay
  have HV := Lib.hid hv
  clear hb0 hcv hlay hv
  have HFW := Lib.hid hfew
  have hfew2 := hfew
  rw [Bool.and_eq_true] at hfew2
  have HL := Lib.hid (show c.length ≤ 100000 by have := (fewCa_short hfew2.1).1; omega)
  have HSH := Lib.hid (fewCa_short hfew2.1).2
  have HCN := Lib.hid (show cnt r.cond ≤ 1000000 by have := fewU_cnt hfew2.2; omega)
  have HC80 := Lib.hid (fewU_cnt hfew2.2)
  have HF := Lib.hid hf
  have HNM := Lib.hid hnm
  have HKD := Lib.hid hkd
  clear hfew hfew2 hf hnm hkd
  have HC := Lib.hid hc
  clear hc
  obtain ⟨dK, fK⟩ := H0.out.c.facts
  obtain ⟨dR, fR⟩ := H0.out.r.facts
  go_enter Tryz.func4, Tryz.ntmps4
  go_wp2_with (first | (go_at_call 7; refine (head21_any w0 _ HV.out (HB0.out.trans (H0.out.b.mono HB0.out.size))).mono ?_; rintro e w1 ⟨rfl, hb⟩; have H1 := Lib.hid (H0.out.below hb); clear dK fK dR fR; clear hb; obtain ⟨dK, fK⟩ := H1.out.c.facts; obtain ⟨dR, fR⟩ := H1.out.r.facts) | (go_at_call 8; refine (few21_any w0 cv c r (.slice A r.cond.kids.length cc) _ (HB0.out.trans (H1.out.b.mono HB0.out.size)) HCV.out HLY.out).mono ?_; rintro e w2 ⟨rfl, hb⟩; (rw [HFW.out]); have H2 := Lib.hid (H1.out.below hb); clear dK fK dR fR; clear hb; obtain ⟨dK, fK⟩ := H2.out.c.facts; obtain ⟨dR, fR⟩ := H2.out.r.facts) | (go_at_call 10; refine (catValid_any w0 cv c _ (HB0.out.trans (H2.out.b.mono HB0.out.size)) HCV.out HL.out HSH.out).mono ?_; rintro e w3 ⟨rfl, hb⟩; (rw [HC.out]); have H3 := Lib.hid (H2.out.below hb); clear dK fK dR fR; clear hb; obtain ⟨dK, fK⟩ := H3.out.c.facts; obtain ⟨dR, fR⟩ := H3.out.r.facts))
  go_ret
  exact ⟨rfl, H3.out.b⟩
set_option maxRecDepth 100000 in
set_option maxHeartbeats 8000000 in
theorem tf_nil (w0 : World) (hv : Evs w0) (cv : Value) (c : List Kd) (r : Ru) (A : Option Addr) (cc : Nat) (w : World) (hb0 : Below w0.heap.size w0 w) (hcv : Cat w0 cv c) (h0 : c.length = 0) (hlay : Lay w0 (.slice A r.cond.kids.length cc) r.cond.kids) (rn ix : Nat) (_hrn : rn ≤ 255) (_hix : ix ≤ 255) (hf : FitE r.cond) (hnm : r.name.size ≤ maxLen) (hkd : r.kind.size ≤ maxLen) (hfew : (fewCa c && fewU r) = true) (hc : catB c = true) : Calls Tryz.prog 4 #[.agg #[cv], .agg #[.string r.name, .string r.kind, .int .i64 r.cond.op, .string r.cond.name, .string r.cond.value, .int .i64 r.cond.n, .int .i64 r.cond.extra, .slice A r.cond.kids.length cc], .int .u8 rn, .int .u8 ix] w fun e w' => e = .returned (.bool true) ∧ Below w.heap.size w w' := by
  obtain ⟨Ac, cc1, rfl, _⟩ := hcv.form
  have H0 := Lib.hid (B2.start w (.slice Ac c.length cc1) #[.string r.name, .string r.kind, .int .i64 r.cond.op, .string r.cond.name, .string r.cond.value, .int .i64 r.cond.n, .int .i64 r.cond.extra, .slice A r.cond.kids.length cc])
  have HB0 := Lib.hid hb0
  have HCV := Lib.hid hcv
  have HLY := Lib.hid hlay
  have HV := Lib.hid hv
  clear hb0 hcv hlay hv
  have HFW := Lib.hid hfew
  have hfew2 := hfew
  rw [Bool.and_eq_true] at hfew2
  have HL := Lib.hid (show c.length ≤ 100000 by have := (fewCa_short hfew2.1).1; omega)
  have HSH := Lib.hid (fewCa_short hfew2.1).2
  have HCN := Lib.hid (show cnt r.cond ≤ 1000000 by have := fewU_cnt hfew2.2; omega)
  have HC80 := Lib.hid (fewU_cnt hfew2.2)
  have HF := Lib.hid hf
  have HNM := Lib.hid hnm
  have HKD := Lib.hid hkd
  clear hfew hfew2 hf hnm hkd
  have HC := Lib.hid hc
  obtain ⟨n0, hn0⟩ : ∃ n, c.length = n := ⟨_, rfl⟩
  rw [hn0] at H0 HCV ⊢
  obtain rfl : n0 = 0 := by omega
  clear hc hn0 h0
  obtain ⟨dK, fK⟩ := H0.out.c.facts
  obtain ⟨dR, fR⟩ := H0.out.r.facts
  go_enter Tryz.func4, Tryz.ntmps4
  go_wp2_with (first | (go_at_call 7; refine (head21_any w0 _ HV.out (HB0.out.trans (H0.out.b.mono HB0.out.size))).mono ?_; rintro e w1 ⟨rfl, hb⟩; have H1 := Lib.hid (H0.out.below hb); clear dK fK dR fR; clear hb; obtain ⟨dK, fK⟩ := H1.out.c.facts; obtain ⟨dR, fR⟩ := H1.out.r.facts) | (go_at_call 8; refine (few21_any w0 _ c r (.slice A r.cond.kids.length cc) _ (HB0.out.trans (H1.out.b.mono HB0.out.size)) HCV.out HLY.out).mono ?_; rintro e w2 ⟨rfl, hb⟩; (rw [HFW.out]); have H2 := Lib.hid (H1.out.below hb); clear dK fK dR fR; clear hb; obtain ⟨dK, fK⟩ := H2.out.c.facts; obtain ⟨dR, fR⟩ := H2.out.r.facts) | (go_at_call 10; refine (catValid_any w0 _ c _ (HB0.out.trans (H2.out.b.mono HB0.out.size)) HCV.out HL.out HSH.out).mono ?_; rintro e w3 ⟨rfl, hb⟩; (rw [HC.out]); have H3 := Lib.hid (H2.out.below hb); clear dK fK dR fR; clear hb; obtain ⟨dK, fK⟩ := H3.out.c.facts; obtain ⟨dR, fR⟩ := H3.out.r.facts))
  go_ret
  exact ⟨rfl, H3.out.b⟩
set_option maxRecDepth 100000 in
set_option maxHeartbeats 8000000 in
theorem tf_main (w0 : World) (hv : Evs w0) (b o c1 : Nat) (c : List Kd) (r : Ru) (A : Option Addr) (cc : Nat) (w : World) (hb0 : Below w0.heap.size w0 w) (hcv : Cat w0 (.slice (some ⟨b, o, none⟩) c.length c1) c) (hlay : Lay w0 (.slice A r.cond.kids.length cc) r.cond.kids) (rn ix : Nat) (hrn : rn ≤ 255) (hix : ix ≤ 255) (hf : FitE r.cond) (hnm : r.name.size ≤ maxLen) (hkd : r.kind.size ≤ maxLen) (hfew : (fewCa c && fewU r) = true) (hc : catB c = true) (h0 : 0 < c.length) (hc1 : c.length ≤ c1) : Calls Tryz.prog 4 #[.agg #[.slice (some ⟨b, o, none⟩) c.length c1], .agg #[.string r.name, .string r.kind, .int .i64 r.cond.op, .string r.cond.name, .string r.cond.value, .int .i64 r.cond.n, .int .i64 r.cond.extra, .slice A r.cond.kids.length cc], .int .u8 rn, .int .u8 ix] w fun e w' => e = .returned (.bool true) ∧ Below w.heap.size w w' := by
  have HC := Lib.hid hc
  have HCT := Lib.hid hc
  have H0 := Lib.hid (B2.start w (.slice (some ⟨b, o, none⟩) c.length c1) #[.string r.name, .string r.kind, .int .i64 r.cond.op, .string r.cond.name, .string r.cond.value, .int .i64 r.cond.n, .int .i64 r.cond.extra, .slice A r.cond.kids.length cc])
  have HB0 := Lib.hid hb0
  have HCV := Lib.hid hcv
  have HLY := Lib.hid hlay
  have HV := Lib.hid hv
  clear hb0 hcv hlay hv
  have HFW := Lib.hid hfew
  have hfew2 := hfew
  rw [Bool.and_eq_true] at hfew2
  have HL := Lib.hid (show c.length ≤ 100000 by have := (fewCa_short hfew2.1).1; omega)
  have HSH := Lib.hid (fewCa_short hfew2.1).2
  have HCN := Lib.hid (show cnt r.cond ≤ 1000000 by have := fewU_cnt hfew2.2; omega)
  have HC80 := Lib.hid (fewU_cnt hfew2.2)
  have HF := Lib.hid hf
  have HNM := Lib.hid hnm
  have HKD := Lib.hid hkd
  clear hfew hfew2 hf hnm hkd
  have hz0 : ((c.length : Int) == 0) = false := by simp; exact fun h => by rw [h] at h0; cases h0
  have hz1 : c.isEmpty = false := by cases c with | nil => cases h0 | cons => rfl
  have HCL := Lib.hid (catB_len hc)
  obtain ⟨d, hd⟩ : ∃ d, rn % c.length = d := ⟨_, rfl⟩
  have hdl : d < c.length := hd ▸ Nat.mod_lt _ h0
  have hr1 : ((rn : Int) % (c.length : Int)) = (d : Int) := by rw [← hd]; omega
  obtain ⟨n, hn⟩ : ∃ n, 1 + d = n := ⟨_, rfl⟩
  have hw1 : (1 : Int) + (d : Int) = (n : Int) := by omega
  have hn1 : n ≤ c.length := by omega
  have hn0 : 0 < n := by omega
  obtain ⟨j, hj⟩ : ∃ j, ix % n = j := ⟨_, rfl⟩
  have hjn : j < n := hj ▸ Nat.mod_lt _ hn0
  have hx1 : ((ix : Int) % (n : Int)) = (j : Int) := by rw [← hj]; omega
  have hx2 : ((ix : Int).tmod (n : Int)) = (j : Int) := by rw [Int.tmod_eq_emod_of_nonneg (by omega)]; exact hx1
  have hnz : ((n : Int) == 0) = false := by simp; omega
  have hnz2 : ¬ n = 0 := by omega
  have hnz3 : ¬ (n : Int) = 0 := by omega
  have hx3 : IntKind.i64.wrap (j : Int) = (j : Int) := IntWalk.i64_in _ (by have := HCL.out; omega)
  have hx4 : IntKind.i64.wrap (ix : Int) = (ix : Int) := IntWalk.i64_in _ (by omega)
  have hji : (j : Int) < (c.length : Int) := by omega
  have hnc : (n : Int) ≤ (c1 : Int) := by omega
  have hn60 : n ≤ 60 := by have := HCL.out; omega
  have HJC := Lib.hid (show j < c.length by omega)
  have HJN := Lib.hid hjn
  have HNL := Lib.hid hn1
  clear hc hd hj hn
  obtain ⟨dK, fK⟩ := H0.out.c.facts
  obtain ⟨dR, fR⟩ := H0.out.r.facts
  go_enter Tryz.func4, Tryz.ntmps4
  go_wp2_with (first | (go_at_call 7; refine (head21_any w0 _ HV.out (HB0.out.trans (H0.out.b.mono HB0.out.size))).mono ?_; rintro e w1 ⟨rfl, hb⟩; have H1 := Lib.hid (H0.out.below hb); clear dK fK dR fR; clear hb; obtain ⟨dK, fK⟩ := H1.out.c.facts; obtain ⟨dR, fR⟩ := H1.out.r.facts) | (go_at_call 8; refine (few21_any w0 _ c r (.slice A r.cond.kids.length cc) _ (HB0.out.trans (H1.out.b.mono HB0.out.size)) HCV.out HLY.out).mono ?_; rintro e w2 ⟨rfl, hb⟩; (rw [HFW.out]); have H2 := Lib.hid (H1.out.below hb); clear dK fK dR fR; clear hb; obtain ⟨dK, fK⟩ := H2.out.c.facts; obtain ⟨dR, fR⟩ := H2.out.r.facts) | (go_at_call 10; refine (catValid_any w0 _ c _ (HB0.out.trans (H2.out.b.mono HB0.out.size)) HCV.out HL.out HSH.out).mono ?_; rintro e w3 ⟨rfl, hb⟩; (rw [HC.out]); have H3 := Lib.hid (H2.out.below hb); clear dK fK dR fR; clear hb; obtain ⟨dK, fK⟩ := H3.out.c.facts; obtain ⟨dR, fR⟩ := H3.out.r.facts))
  have H4 := Lib.hid (show B3 w (.slice (some ⟨b, o, none⟩) c.length c1) #[.string r.name, .string r.kind, .int .i64 r.cond.op, .string r.cond.name, .string r.cond.value, .int .i64 r.cond.n, .int .i64 r.cond.extra, .slice A r.cond.kids.length cc] w3.heap.size (.slice (some ⟨b, o, none⟩) n c1) (w3.alloc (.cells #[(.slice (some ⟨b, o, none⟩) n c1)] 24)) from ⟨H3.out.below ((Below.refl _ _).alloc (Nat.le_refl _) _), Has.new _ _ _⟩)
  clear dK fK dR fR
  clear H0 H1 H2 H3 hr1 hw1 hz0 hz1
  have HLC := Lib.hid (cat_take HCV.out HNL.out)
  have HLT := Lib.hid (show (c.take n).length ≤ 100000 by rw [List.length_take]; have := HCL.out; omega)
  have HST := Lib.hid (fun k (hk : k ∈ c.take n) => HSH.out k (List.mem_of_mem_take hk))
  obtain ⟨kcb, kco, kcc, kcs, hke, _, ⟨ksv, rfl, hks⟩, _, hkr⟩ := RdL.get HCV.out HJC.out noKd
  injection hke with e1 e2 e3
  injection e1 with e1
  injection e1 with e1 e4
  subst e1
  subst e4
  have HKX := Lib.hid (kix_at HCT.out HJC.out).1
  have hkn : w0.cell? ⟨b, o + j * 3, none⟩ = some (.string (c.getD j noKd).name) := by have := hkr 0 _ rfl; exact this
  clear hkr e2 e3 hks
  generalize (c.getD j noKd).name = kind at *
  have HKL := Lib.hid (show kix c kind < n by rw [HKX.out]; exact HJN.out)
  have HKL2 := Lib.hid (show kix c kind < c.length by rw [HKX.out]; exact HJC.out)
  have HKE := Lib.hid (further_kinds HCT.out HKL.out HKL2.out)
  have HIN := Lib.hid (fun y (hy : y ∈ kindsU c kind) => further_in HCT.out hy)
  have HINC := Lib.hid (kinds_inc c kind)
  have HLL := Lib.hid (Nat.le_trans (kinds_len HCT.out kind) HCL.out)
  have HK1 := Lib.hid True.intro
  generalize (w3.alloc (.cells #[(.slice (some ⟨b, o, none⟩) n c1)] 24)) = w4 at *
  generalize w3.heap.size = gl at *
  have HKC := Lib.hid (cell_later (HB0.out.trans (H4.out.bx.b.mono HB0.out.size)) hkn)
  have HB4 := H4
  clear H4 hkn
  refine wp_region_held_drew (S := fun W => W.cell? ⟨w.heap.size, 0, none⟩ = some (.slice (some ⟨b, o, none⟩) c.length c1) ∧ W.cell? ⟨b, o + j * 3, none⟩ = some (.string kind)) (by kernel_rfl) (⟨(HB4.out.bx.below ((Below.refl w4.heap.size w4).drew)).c.cell 0, cell_later ((Below.refl w4.heap.size w4).drew) HKC.out⟩) (fun hHeld => ?_)
  refine plI [(0, false), (1, false), (2, false), (3, false), (4, false), (5, false), (6, false), (7, false), (8, false), (9, false)] ?_
  repeat ((first | ((with_reducible show Plan ((_, true) :: _) _); refine plF ?_) | (refine plR (v := ?_) ?_ ?_; rotate_left; focus (intro W hSW; (try dsimp only at hSW); go_simp; all_goals (with_reducible rfl)))); try simp only [Act.put, List.setIfInBounds_toArray, List.set_cons_zero, List.set_cons_succ])
  refine plE ?_
  refine wpAnyH_done (by kernel_rfl) ?_ _
  clear hHeld
  have HB5 := Lib.hid (show B3 w (.slice (some ⟨b, o, none⟩) c.length c1) #[.string r.name, .string r.kind, .int .i64 r.cond.op, .string r.cond.name, .string r.cond.value, .int .i64 r.cond.n, .int .i64 r.cond.extra, .slice A r.cond.kids.length cc] gl (.slice (some ⟨b, o, none⟩) n c1) w4.drew from HB4.out.below (Below.refl _ _).drew)
  change Exit.then _ _ _ _ w4.drew
  generalize w4.drew = w5 at *
  clear HB4 HKC hx1 hx2 hx3 hx4 hnz hnz2 hnz3
  obtain ⟨dC, fC⟩ := HB5.out.bx.c.facts
  obtain ⟨dL, fL⟩ := HB5.out.l.facts
  go_wp2_with (first | (go_at_call 12; clear HK1; refine (kinds_any (HB0.out.trans (HB5.out.bx.b.mono HB0.out.size)) HCV.out HL.out HSH.out kind).mono ?_; rintro e w6 ⟨v, rfl, hrow, hb⟩; have HB6 := Lib.hid (HB5.out.below hb); have HS6 := Lib.hid (own_strs hrow); obtain ⟨Av, cw, rfl⟩ := own_val hrow; clear hrow hb dC fC dL fL; obtain ⟨dL, fL⟩ := HB6.out.l.facts) | (go_at_call 12; refine (kinds_any (HB0.out.trans (HB6.out.bx.b.mono HB0.out.size)) HLC.out HLT.out HST.out kind).mono ?_; rintro e w7 ⟨v2, rfl, hrow, hb⟩; (rw [HKE.out] at hrow); have HB7 := Lib.hid (HB6.out.below hb); have HS7 := Lib.hid (HS6.out.below hb); have HS72 := Lib.hid (own_strs hrow); obtain ⟨Av2, cw2, rfl⟩ := own_val hrow; clear hrow hb dL fL HB6 HS6) | (go_at_call 13; refine (sameS_any _ _ (kindsU c kind) (kindsU c kind) _ HS7.out HS72.out (by have := HLL.out; omega) (by have := HLL.out; omega)).mono ?_; rintro e w8 ⟨rfl, hb⟩; (rw [sameS_refl]); have HB8 := Lib.hid (HB7.out.below hb); have HS8 := Lib.hid (HS7.out.below hb); clear hb HB7 HS7 HS72))
  generalize kindsU c kind = l at *
  go_loopw [14] (fun iv wq => ∃ i : Nat, iv = .int .i64 i ∧ i ≤ l.length ∧ Hid (B3 w (.slice (some ⟨b, o, none⟩) c.length c1) #[.string r.name, .string r.kind, .int .i64 r.cond.op, .string r.cond.name, .string r.cond.value, .int .i64 r.cond.n, .int .i64 r.cond.extra, .slice A r.cond.kids.length cc] gl (.slice (some ⟨b, o, none⟩) n c1) wq) ∧ Hid (Sl wq (.slice Av l.length cw) l.length 1 (strF l))) (fun iv _ => l.length - (intOf iv).toNat)
  case atStart => exact ⟨0, rfl, Nat.zero_le _, HB8, HS8⟩
  case round =>
    obtain ⟨i, rfl, hi, HBr, HSr⟩ := hrel
    clear HB8 HS8
    by_cases hlt : i < l.length
    · have hki : (i : Int) < (l.length : Int) := by omega
      have hs3 : IntKind.i64.wrap ((i : Int) + 1) = (i : Int) + 1 := IntWalk.i64_in _ (by have := HLL.out; omega)
      obtain ⟨_, _, he, _, hc0⟩ := HSr.out
      injection he with e1 e2 e3
      subst e1
      subst e3
      obtain ⟨bv, ov, rfl, hcc⟩ : ∃ b o, Av = some ⟨b, o, none⟩ ∧ ∀ j, j < l.length * 1 → wr.cell? ⟨b, o + j, none⟩ = some (strF l j) := hc0.resolve_left (by omega)
      have HY := Lib.hid (show wr.cell? ⟨bv, ov + i, none⟩ = some (.string (l.getD i ByteArray.empty)) from hcc i (by omega))
      have HYP := Lib.hid (HIN.out _ (getD_mem l i ByteArray.empty hlt))
      have HYC := Lib.hid (fun (hi0 : i ≠ 0) => (show wr.cell? ⟨bv, ov + (i - 1), none⟩ = some (.string (l.getD (i - 1) ByteArray.empty)) ∧ Op.bytesLess (l.getD (i - 1) ByteArray.empty).toList (l.getD i ByteArray.empty).toList = true from ⟨hcc (i - 1) (by omega), inc_get HINC.out hi0 hlt⟩))
      clear hcc e2 hc0
      generalize l.getD (i - 1) ByteArray.empty = y0 at *
      generalize l.getD i ByteArray.empty = y at *
      obtain ⟨kn, sn, hfy⟩ := find_yes w0 _ c y HCV.out HL.out HYP.out.1
      have HFY := Lib.hid hfy
      have hyk : (y.toList == kind.toList) = false := by rw [beq_bytes]; exact decide_eq_false HYP.out.2.1
      have HYI := Lib.hid HYP.out.2.2
      clear hfy HYP
      go_wp2_with fail
      apply share4 (A := fun A2 c2 b4 V => Hid (Has V b4 38 #[.string kn, .bool false, .slice A2 sn c2]) ∧ Hid (Below wr.heap.size wr V))
      case h1 =>
        intro REST
        refine wp_region_held_drew (S := fun W => W.cell? ⟨w.heap.size, 0, none⟩ = some (.slice (some ⟨b, o, none⟩) c.length c1) ∧ W.cell? ⟨bv, ov + i, none⟩ = some (.string y)) (by kernel_rfl) (⟨(HBr.out.bx.below ((Below.refl wr.heap.size wr).drew)).c.cell 0, cell_later ((Below.refl wr.heap.size wr).drew) HY.out⟩) (fun hHeld => ?_)
        refine plI [(0, false), (1, false), (2, false), (3, false), (4, false)] ?_
        repeat ((first | ((with_reducible show Plan ((_, true) :: _) _); refine plF ?_) | (refine plR (v := ?_) ?_ ?_; rotate_left; focus (intro W hSW; (try dsimp only at hSW); go_simp; all_goals (with_reducible rfl)))); try simp only [Act.put, List.setIfInBounds_toArray, List.set_cons_zero, List.set_cons_succ])
        refine plE ?_
        refine wpAnyH_ready (rs := [5, 9]) (by kernel_rfl) (by simp) ?_
        refine AllReadyH.cons (o := ⟨_, _, _, _, _, _⟩) rfl (fun K hK => ?_) ?_
        · go_simp
          go_at_call 14; refine (HFY.out _ (HB0.out.trans ((HBr.out.bx.b.trans (((Below.refl wr.heap.size wr).drew).mono HBr.out.bx.b.size)).mono HB0.out.size))).mono ?_; rintro e u1 ⟨A2, c2, rfl, hb⟩; have HB5s := Lib.hid (((Below.refl wr.heap.size wr).drew).trans (hb.mono ((Below.refl wr.heap.size wr).drew).size))
          clear hb
          refine hK.out _ _ (⟨(HBr.out.bx.below (HB5s.out)).c.cell 0, cell_later (HB5s.out) HY.out⟩) (fun hHeld => ?_)
          clear hK K
          try simp only [Act.put, List.setIfInBounds_toArray, List.set_cons_zero, List.set_cons_succ]
          refine plI [(6, false), (7, false), (8, false)] ?_
          repeat ((first | ((with_reducible show Plan ((_, true) :: _) _); refine plF ?_) | (refine plR (v := ?_) ?_ ?_; rotate_left; focus (intro W hSW; (try dsimp only at hSW); go_simp; all_goals (with_reducible rfl)))); try simp only [Act.put, List.setIfInBounds_toArray, List.set_cons_zero, List.set_cons_succ])
          refine plE ?_
          refine wpAnyH_ready (rs := [9]) (by kernel_rfl) (by simp) ?_
          refine AllReadyH.cons (o := ⟨_, _, _, _, _, _⟩) rfl (fun K hK => ?_) AllReadyH.nil
          go_simp
          have HE9s := Lib.hid (show Has ((u1).alloc (.cells #[.string ⟨#[]⟩, .bool false, .slice none 0 0] 38)) u1.heap.size 38 #[.string ⟨#[]⟩, .bool false, .slice none 0 0] from Has.new (u1) 38 #[.string ⟨#[]⟩, .bool false, .slice none 0 0])
          have HB9s := Lib.hid ((HB5s.out).alloc (HB5s.out).size (.cells #[.string ⟨#[]⟩, .bool false, .slice none 0 0] 38))
          refine hK.out _ _ (⟨(HBr.out.bx.below (HB9s.out)).c.cell 0, cell_later (HB9s.out) HY.out⟩) (fun hHeld => ?_)
          clear hK K
          try simp only [Act.put, List.setIfInBounds_toArray, List.set_cons_zero, List.set_cons_succ]
          refine wpAnyH_ready (rs := [10]) (by kernel_rfl) (by simp) ?_
          refine AllReadyH.cons (o := ⟨_, _, _, _, _, _⟩) rfl (fun K hK => ?_) AllReadyH.nil
          obtain ⟨x7, y7⟩ := HE9s.out.facts
          go_simp
          have HEV := Lib.hid (Has.new u1 38 #[.string kn, .bool false, .slice A2 sn c2])
          have HBV := Lib.hid (HB5s.out.alloc HB5s.out.size (.cells #[.string kn, .bool false, .slice A2 sn c2] 38))
          refine hK.out _ _ (⟨(HBr.out.bx.below (HBV.out)).c.cell 0, cell_later (HBV.out) HY.out⟩) (fun hHeld => ?_)
          clear hK K
          try simp only [Act.put]
          refine plI [(11, false)] ?_
          repeat ((first | ((with_reducible show Plan ((_, true) :: _) _); refine plF ?_) | (refine plR (v := ?_) ?_ ?_; rotate_left; focus (intro W hSW; (try dsimp only at hSW); go_simp; all_goals (with_reducible rfl)))); try simp only [Act.put, List.setIfInBounds_toArray, List.set_cons_zero, List.set_cons_succ])
          refine plE ?_
          refine wpAnyH_done (by kernel_rfl) ?_ _
          clear hHeld x7 y7
          generalize u1.alloc (.cells #[.string kn, .bool false, .slice A2 sn c2] 38) = V at *
          generalize hbq : u1.heap.size = b4 at HEV ⊢
          exact REST A2 c2 b4 V ⟨HEV, HBV⟩
        refine AllReadyH.cons (o := ⟨_, _, _, _, _, _⟩) rfl (fun K hK => ?_) AllReadyH.nil
        go_simp
        have HE9s := Lib.hid (show Has ((wr.drew).alloc (.cells #[.string ⟨#[]⟩, .bool false, .slice none 0 0] 38)) wr.heap.size 38 #[.string ⟨#[]⟩, .bool false, .slice none 0 0] from Has.new (wr.drew) 38 #[.string ⟨#[]⟩, .bool false, .slice none 0 0])
        have HB9s := Lib.hid (((Below.refl wr.heap.size wr).drew).alloc ((Below.refl wr.heap.size wr).drew).size (.cells #[.string ⟨#[]⟩, .bool false, .slice none 0 0] 38))
        refine hK.out _ _ (⟨(HBr.out.bx.below (HB9s.out)).c.cell 0, cell_later (HB9s.out) HY.out⟩) (fun hHeld => ?_)
        clear hK K
        try simp only [Act.put, List.setIfInBounds_toArray, List.set_cons_zero, List.set_cons_succ]
        refine wpAnyH_ready (rs := [5]) (by kernel_rfl) (by simp) ?_
        refine AllReadyH.cons (o := ⟨_, _, _, _, _, _⟩) rfl (fun K hK => ?_) AllReadyH.nil
        go_simp
        go_at_call 14; refine (HFY.out _ (HB0.out.trans ((HBr.out.bx.b.trans ((HB9s.out).mono HBr.out.bx.b.size)).mono HB0.out.size))).mono ?_; rintro e u1 ⟨A2, c2, rfl, hb⟩; have HB5s := Lib.hid ((HB9s.out).trans (hb.mono (HB9s.out).size))
        have HE5s := Lib.hid (HE9s.out.below hb HE9s.out.lt)
        clear hb
        refine hK.out _ _ (⟨(HBr.out.bx.below (HB5s.out)).c.cell 0, cell_later (HB5s.out) HY.out⟩) (fun hHeld => ?_)
        clear hK K
        try simp only [Act.put, List.setIfInBounds_toArray, List.set_cons_zero, List.set_cons_succ]
        refine plI [(6, false), (7, false), (8, false)] ?_
        repeat ((first | ((with_reducible show Plan ((_, true) :: _) _); refine plF ?_) | (refine plR (v := ?_) ?_ ?_; rotate_left; focus (intro W hSW; (try dsimp only at hSW); go_simp; all_goals (with_reducible rfl)))); try simp only [Act.put, List.setIfInBounds_toArray, List.set_cons_zero, List.set_cons_succ])
        refine plE ?_
        refine wpAnyH_ready (rs := [10]) (by kernel_rfl) (by simp) ?_
        refine AllReadyH.cons (o := ⟨_, _, _, _, _, _⟩) rfl (fun K hK => ?_) AllReadyH.nil
        obtain ⟨x7, y7⟩ := HE5s.out.facts
        go_simp
        obtain ⟨HEV, HBV⟩ := put3 HB5s.out (Nat.le_refl _) HE5s.out (.string kn) (.bool false) (.slice A2 sn c2)
        replace HEV := Lib.hid HEV
        replace HBV := Lib.hid HBV
        refine hK.out _ _ (⟨(HBr.out.bx.below (HBV.out)).c.cell 0, cell_later (HBV.out) HY.out⟩) (fun hHeld => ?_)
        clear hK K
        try simp only [Act.put]
        refine plI [(11, false)] ?_
        repeat ((first | ((with_reducible show Plan ((_, true) :: _) _); refine plF ?_) | (refine plR (v := ?_) ?_ ?_; rotate_left; focus (intro W hSW; (try dsimp only at hSW); go_simp; all_goals (with_reducible rfl)))); try simp only [Act.put, List.setIfInBounds_toArray, List.set_cons_zero, List.set_cons_succ])
        refine plE ?_
        refine wpAnyH_done (by kernel_rfl) ?_ _
        clear hHeld x7 y7
        generalize ((u1.setCell ⟨wr.heap.size, 0, none⟩ (.string kn)).setCell ⟨wr.heap.size, 1, none⟩ (.bool false)).setCell ⟨wr.heap.size, 2, none⟩ (.slice A2 sn c2) = V at *
        exact REST A2 c2 wr.heap.size V ⟨HEV, HBV⟩
      case h2 =>
        intro A2 c2 b4 V hAll
        obtain ⟨HEV, HBV⟩ := hAll
        clear HFY
        by_cases hi0 : i = 0
        · have hg0 : decide ((0 : Int) < (i : Int)) = false := decide_eq_false (by omega)
          have hg0n : decide (0 < i) = false := decide_eq_false (by omega)
          clear hi0 HYC
          go_wp2_with fail
          refine wp_region_held_drew (S := fun W => W.cell? ⟨b4, 1, none⟩ = some (.bool false) ∧ W.cell? ⟨bv, ov + i, none⟩ = some (.string y)) (by kernel_rfl) (⟨HEV.out.drew.cell 1, cell_later HBV.out.drew HY.out⟩) (fun hHeld => ?_)
          refine plI [(0, false), (1, false), (2, false), (3, false), (4, false), (5, false), (6, false), (7, false), (8, false), (9, false), (10, false), (11, false), (12, false), (13, false), (14, false), (15, false), (16, false), (17, false), (18, true), (19, true), (20, true), (21, true), (22, true), (23, true), (24, true), (25, true), (26, true), (27, true), (28, false), (29, false)] ?_
          repeat ((first | ((with_reducible show Plan ((_, true) :: _) _); refine plF ?_) | (refine plR (v := ?_) ?_ ?_; rotate_left; focus (intro W hSW; (try dsimp only at hSW); go_simp; all_goals (with_reducible rfl)))); try simp only [Act.put, List.setIfInBounds_toArray, List.set_cons_zero, List.set_cons_succ])
          refine plE ?_
          refine wpAnyH_done (by kernel_rfl) ?_ _
          clear hHeld
          have HBq := Lib.hid (show B3 w (.slice (some ⟨b, o, none⟩) c.length c1) #[.string r.name, .string r.kind, .int .i64 r.cond.op, .string r.cond.name, .string r.cond.value, .int .i64 r.cond.n, .int .i64 r.cond.extra, .slice A r.cond.kids.length cc] gl (.slice (some ⟨b, o, none⟩) n c1) V.drew from (HBr.out.below HBV.out).below (Below.refl _ _).drew)
          have HBVq := Lib.hid (show Below wr.heap.size wr V.drew from HBV.out.drew)
          go_wp2_with fail
          change Code.wp _ _ _ _ V.drew
          generalize V.drew = V2 at *
          clear HEV HBV
          refine wp_region_held_drew (S := fun W => W.cell? ⟨w.heap.size, 0, none⟩ = some (.slice (some ⟨b, o, none⟩) c.length c1) ∧ W.cell? ⟨bv, ov + i, none⟩ = some (.string y)) (by kernel_rfl) (⟨(HBq.out.below (Below.refl _ _).drew).bx.c.cell 0, cell_later HBVq.out.drew HY.out⟩) (fun hHeld => ?_)
          refine plI [(0, false), (1, false), (2, false), (3, false), (4, false)] ?_
          repeat ((first | ((with_reducible show Plan ((_, true) :: _) _); refine plF ?_) | (refine plR (v := ?_) ?_ ?_; rotate_left; focus (intro W hSW; (try dsimp only at hSW); go_simp; all_goals (with_reducible rfl)))); try simp only [Act.put, List.setIfInBounds_toArray, List.set_cons_zero, List.set_cons_succ])
          refine plE ?_
          refine wpAnyH_ready (rs := [5]) (by kernel_rfl) (by simp) ?_
          refine AllReadyH.cons (o := ⟨_, _, _, _, _, _⟩) rfl (fun K hK => ?_) AllReadyH.nil
          go_simp
          go_at_call 12; refine (kinds_any (HB0.out.trans (HBq.out.bx.b.drew.mono HB0.out.size)) HCV.out HL.out HSH.out y).mono ?_; rintro e u2 ⟨v3, rfl, hrow, hb⟩; have HB5 := Lib.hid ((HBq.out.below (Below.refl _ _).drew).below hb); have HBB := Lib.hid ((HBVq.out.drew).trans (hb.mono HBVq.out.drew.size)); have HS3 := Lib.hid (own_strs hrow); obtain ⟨A3, c3, rfl⟩ := own_val hrow; clear hrow hb
          refine hK.out _ _ (⟨HB5.out.bx.c.cell 0, cell_later HBB.out HY.out⟩) (fun hHeld => ?_)
          clear hK K
          try simp only [Act.put, List.setIfInBounds_toArray, List.set_cons_zero, List.set_cons_succ]
          refine plI [(6, false)] ?_
          repeat ((first | ((with_reducible show Plan ((_, true) :: _) _); refine plF ?_) | (refine plR (v := ?_) ?_ ?_; rotate_left; focus (intro W hSW; (try dsimp only at hSW); go_simp; all_goals (with_reducible rfl)))); try simp only [Act.put, List.setIfInBounds_toArray, List.set_cons_zero, List.set_cons_succ])
          refine plE ?_
          refine wpAnyH_done (by kernel_rfl) ?_ _
          clear hHeld
          go_wp2_with fail
          have HLM := Lib.hid (show (kindsU c y).length ≤ 60 from Nat.le_trans (kinds_len HCT.out y) HCL.out)
          have HSL := Lib.hid (HSr.out.below HBB.out)
          clear HBq HBVq HBB HY
          generalize kindsU c y = l2 at *
          go_loopw [18] (fun k wq => ∃ q : Nat, k = .int .i64 q ∧ q ≤ l2.length ∧ Hid (B3 w (.slice (some ⟨b, o, none⟩) c.length c1) #[.string r.name, .string r.kind, .int .i64 r.cond.op, .string r.cond.name, .string r.cond.value, .int .i64 r.cond.n, .int .i64 r.cond.extra, .slice A r.cond.kids.length cc] gl (.slice (some ⟨b, o, none⟩) n c1) wq) ∧ Hid (Sl wq (.slice (some ⟨bv, ov, none⟩) l.length cw) l.length 1 (strF l)) ∧ Hid (Sl wq (.slice A3 l2.length c3) l2.length 1 (strF l2))) (fun k _ => l2.length - (intOf k).toNat)
          case atStart => exact ⟨0, rfl, Nat.zero_le _, HB5, HSL, HS3⟩
          case round =>
            obtain ⟨q, rfl, hq, HBk, HSk, HS2⟩ := hrel
            clear HB5 HSL HS3
            by_cases hlt2 : q < l2.length
            · have hqi : (q : Int) < (l2.length : Int) := by omega
              have hs4 : IntKind.i64.wrap ((q : Int) + 1) = (q : Int) + 1 := IntWalk.i64_in _ (by have := HLM.out; omega)
              have HMEM := Lib.hid (show inS l (l2.getD q ByteArray.empty) = true from (inS_iff _ _).2 (HYI.out _ (getD_mem l2 q ByteArray.empty hlt2)))
              obtain ⟨_, _, he, _, hc0⟩ := HS2.out
              injection he with e1 e2 e3
              subst e1
              subst e3
              obtain ⟨b6, o6, rfl, hcc⟩ : ∃ b o, A3 = some ⟨b, o, none⟩ ∧ ∀ j, j < l2.length * 1 → wr.cell? ⟨b, o + j, none⟩ = some (strF l2 j) := hc0.resolve_left (by omega)
              have hce : wr.cell? ⟨b6, o6 + q, none⟩ = some (.string (l2.getD q ByteArray.empty)) := hcc q (by omega)
              clear hcc e2 hc0
              generalize l2.getD q ByteArray.empty = x3 at *
              have HI := Lib.hid (in21_any (.slice (some ⟨bv, ov, none⟩) l.length cw) l x3 wr HSk.out (by have := HLL.out; omega))
              go_wp2_with (go_at_call 15; refine HI.out.mono ?_; (rw [HMEM.out]); rintro e w7 ⟨rfl, rfl⟩)
              go_roundw
              case rel => exact ⟨q + 1, by go_num, hlt2, HBk, HSk, HS2⟩
              case measure => simp [intOf]; omega
            · have hqi : ¬ (q : Int) < (l2.length : Int) := by omega
              go_wp2_with fail
              go_roundw
              case rel => exact ⟨i + 1, by go_num, hlt, HBk, HSk⟩
              case measure => simp [intOf]; omega
        · have hg0 : decide ((0 : Int) < (i : Int)) = true := decide_eq_true (by omega)
          have hg0n : decide (0 < i) = true := decide_eq_true (by omega)
          have HY0 := Lib.hid (HYC.out hi0).1
          have hlt8 := (HYC.out hi0).2
          have hk1 : IntKind.i64.wrap ((i : Int) - 1) = ((i - 1 : Nat) : Int) := by rw [IntWalk.i64_in _ (by have := HLL.out; omega)]; omega
          have hk2 : ((i - 1 : Nat) : Int) < (l.length : Int) := by omega
          clear hi0 HYC
          go_wp2_with fail
          refine wp_region_held_drew (S := fun W => W.cell? ⟨b4, 1, none⟩ = some (.bool false) ∧ W.cell? ⟨bv, ov + i, none⟩ = some (.string y) ∧ W.cell? ⟨bv, ov + (i - 1), none⟩ = some (.string y0)) (by kernel_rfl) (⟨HEV.out.drew.cell 1, cell_later HBV.out.drew HY.out, cell_later HBV.out.drew HY0.out⟩) (fun hHeld => ?_)
          refine plI [(0, false), (1, false), (2, false), (3, false), (4, false), (5, false), (6, false), (7, false), (8, false), (9, false), (10, false), (11, false), (12, false), (13, false), (14, false), (15, false), (16, false), (17, false), (18, false), (19, false), (20, false), (21, false), (22, false), (23, false), (24, false), (25, false), (26, false), (27, false), (28, false), (29, false)] ?_
          repeat ((first | ((with_reducible show Plan ((_, true) :: _) _); refine plF ?_) | (refine plR (v := ?_) ?_ ?_; rotate_left; focus (intro W hSW; (try dsimp only at hSW); go_simp; all_goals (with_reducible rfl)))); try simp only [Act.put, List.setIfInBounds_toArray, List.set_cons_zero, List.set_cons_succ])
          refine plE ?_
          refine wpAnyH_done (by kernel_rfl) ?_ _
          clear hHeld
          have HBq := Lib.hid (show B3 w (.slice (some ⟨b, o, none⟩) c.length c1) #[.string r.name, .string r.kind, .int .i64 r.cond.op, .string r.cond.name, .string r.cond.value, .int .i64 r.cond.n, .int .i64 r.cond.extra, .slice A r.cond.kids.length cc] gl (.slice (some ⟨b, o, none⟩) n c1) V.drew from (HBr.out.below HBV.out).below (Below.refl _ _).drew)
          have HBVq := Lib.hid (show Below wr.heap.size wr V.drew from HBV.out.drew)
          go_wp2_with fail
          change Code.wp _ _ _ _ V.drew
          generalize V.drew = V2 at *
          clear HEV HBV
          refine wp_region_held_drew (S := fun W => W.cell? ⟨w.heap.size, 0, none⟩ = some (.slice (some ⟨b, o, none⟩) c.length c1) ∧ W.cell? ⟨bv, ov + i, none⟩ = some (.string y)) (by kernel_rfl) (⟨(HBq.out.below (Below.refl _ _).drew).bx.c.cell 0, cell_later HBVq.out.drew HY.out⟩) (fun hHeld => ?_)
          refine plI [(0, false), (1, false), (2, false), (3, false), (4, false)] ?_
          repeat ((first | ((with_reducible show Plan ((_, true) :: _) _); refine plF ?_) | (refine plR (v := ?_) ?_ ?_; rotate_left; focus (intro W hSW; (try dsimp only at hSW); go_simp; all_goals (with_reducible rfl)))); try simp only [Act.put, List.setIfInBounds_toArray, List.set_cons_zero, List.set_cons_succ])
          refine plE ?_
          refine wpAnyH_ready (rs := [5]) (by kernel_rfl) (by simp) ?_
          refine AllReadyH.cons (o := ⟨_, _, _, _, _, _⟩) rfl (fun K hK => ?_) AllReadyH.nil
          go_simp
          go_at_call 12; refine (kinds_any (HB0.out.trans (HBq.out.bx.b.drew.mono HB0.out.size)) HCV.out HL.out HSH.out y).mono ?_; rintro e u2 ⟨v3, rfl, hrow, hb⟩; have HB5 := Lib.hid ((HBq.out.below (Below.refl _ _).drew).below hb); have HBB := Lib.hid ((HBVq.out.drew).trans (hb.mono HBVq.out.drew.size)); have HS3 := Lib.hid (own_strs hrow); obtain ⟨A3, c3, rfl⟩ := own_val hrow; clear hrow hb
          refine hK.out _ _ (⟨HB5.out.bx.c.cell 0, cell_later HBB.out HY.out⟩) (fun hHeld => ?_)
          clear hK K
          try simp only [Act.put, List.setIfInBounds_toArray, List.set_cons_zero, List.set_cons_succ]
          refine plI [(6, false)] ?_
          repeat ((first | ((with_reducible show Plan ((_, true) :: _) _); refine plF ?_) | (refine plR (v := ?_) ?_ ?_; rotate_left; focus (intro W hSW; (try dsimp only at hSW); go_simp; all_goals (with_reducible rfl)))); try simp only [Act.put, List.setIfInBounds_toArray, List.set_cons_zero, List.set_cons_succ])
          refine plE ?_
          refine wpAnyH_done (by kernel_rfl) ?_ _
          clear hHeld
          go_wp2_with fail
          have HLM := Lib.hid (show (kindsU c y).length ≤ 60 from Nat.le_trans (kinds_len HCT.out y) HCL.out)
          have HSL := Lib.hid (HSr.out.below HBB.out)
          clear HBq HBVq HBB HY HY0
          generalize kindsU c y = l2 at *
          go_loopw [18] (fun k wq => ∃ q : Nat, k = .int .i64 q ∧ q ≤ l2.length ∧ Hid (B3 w (.slice (some ⟨b, o, none⟩) c.length c1) #[.string r.name, .string r.kind, .int .i64 r.cond.op, .string r.cond.name, .string r.cond.value, .int .i64 r.cond.n, .int .i64 r.cond.extra, .slice A r.cond.kids.length cc] gl (.slice (some ⟨b, o, none⟩) n c1) wq) ∧ Hid (Sl wq (.slice (some ⟨bv, ov, none⟩) l.length cw) l.length 1 (strF l)) ∧ Hid (Sl wq (.slice A3 l2.length c3) l2.length 1 (strF l2))) (fun k _ => l2.length - (intOf k).toNat)
          case atStart => exact ⟨0, rfl, Nat.zero_le _, HB5, HSL, HS3⟩
          case round =>
            obtain ⟨q, rfl, hq, HBk, HSk, HS2⟩ := hrel
            clear HB5 HSL HS3
            by_cases hlt2 : q < l2.length
            · have hqi : (q : Int) < (l2.length : Int) := by omega
              have hs4 : IntKind.i64.wrap ((q : Int) + 1) = (q : Int) + 1 := IntWalk.i64_in _ (by have := HLM.out; omega)
              have HMEM := Lib.hid (show inS l (l2.getD q ByteArray.empty) = true from (inS_iff _ _).2 (HYI.out _ (getD_mem l2 q ByteArray.empty hlt2)))
              obtain ⟨_, _, he, _, hc0⟩ := HS2.out
              injection he with e1 e2 e3
              subst e1
              subst e3
              obtain ⟨b6, o6, rfl, hcc⟩ : ∃ b o, A3 = some ⟨b, o, none⟩ ∧ ∀ j, j < l2.length * 1 → wr.cell? ⟨b, o + j, none⟩ = some (strF l2 j) := hc0.resolve_left (by omega)
              have hce : wr.cell? ⟨b6, o6 + q, none⟩ = some (.string (l2.getD q ByteArray.empty)) := hcc q (by omega)
              clear hcc e2 hc0
              generalize l2.getD q ByteArray.empty = x3 at *
              have HI := Lib.hid (in21_any (.slice (some ⟨bv, ov, none⟩) l.length cw) l x3 wr HSk.out (by have := HLL.out; omega))
              go_wp2_with (go_at_call 15; refine HI.out.mono ?_; (rw [HMEM.out]); rintro e w7 ⟨rfl, rfl⟩)
              go_roundw
              case rel => exact ⟨q + 1, by go_num, hlt2, HBk, HSk, HS2⟩
              case measure => simp [intOf]; omega
            · have hqi : ¬ (q : Int) < (l2.length : Int) := by omega
              go_wp2_with fail
              go_roundw
              case rel => exact ⟨i + 1, by go_num, hlt, HBk, HSk⟩
              case measure => simp [intOf]; omega
    · have hki : ¬ (i : Int) < (l.length : Int) := by omega
      clear hi HSr
      obtain ⟨dL, fL⟩ := HBr.out.l.facts
      obtain ⟨dR, fR⟩ := HBr.out.bx.r.facts
      cases his : (kfind (c.take n) r.kind).isSome with
      | false =>
        have HIS := Lib.hid his
        clear his
        go_wp2_with (go_at_call 14; refine (find_any w0 _ (c.take n) r.kind _ (HB0.out.trans (HBr.out.bx.b.mono HB0.out.size)) HLC.out HLT.out).mono ?_; rintro e w8 ⟨A5, c5, rfl, _, hb⟩; (rw [HIS.out]); have HB9 := Lib.hid ((HBr.out.below hb).below ((Below.refl _ _).alloc (Nat.le_refl _) (.cells #[.string ((kfind (c.take n) r.kind).getD noKd).name, .bool ((kfind (c.take n) r.kind).getD noKd).veh, .slice A5 ((kfind (c.take n) r.kind).getD noKd).slots.length c5] 38))); clear hb dL fL dR fR)
        generalize (w8.alloc (.cells #[.string ((kfind (c.take n) r.kind).getD noKd).name, .bool ((kfind (c.take n) r.kind).getD noKd).veh, .slice A5 ((kfind (c.take n) r.kind).getD noKd).slots.length c5] 38)) = w9 at *
        have HBd := Lib.hid (HB9.out.below (Below.refl _ _).drew)
        refine wp_region_held_drew (S := fun W => W.cell? ⟨w.heap.size, 0, none⟩ = some (.slice (some ⟨b, o, none⟩) c.length c1) ∧ W.cell? ⟨gl, 0, none⟩ = some (.slice (some ⟨b, o, none⟩) n c1) ∧ W.cell? ⟨w.heap.size + 1, 0, none⟩ = some (.string r.name) ∧ W.cell? ⟨w.heap.size + 1, 1, none⟩ = some (.string r.kind) ∧ W.cell? ⟨w.heap.size + 1, 2, none⟩ = some (.int .i64 r.cond.op) ∧ W.cell? ⟨w.heap.size + 1, 3, none⟩ = some (.string r.cond.name) ∧ W.cell? ⟨w.heap.size + 1, 4, none⟩ = some (.string r.cond.value) ∧ W.cell? ⟨w.heap.size + 1, 5, none⟩ = some (.int .i64 r.cond.n) ∧ W.cell? ⟨w.heap.size + 1, 6, none⟩ = some (.int .i64 r.cond.extra) ∧ W.cell? ⟨w.heap.size + 1, 7, none⟩ = some (.slice A r.cond.kids.length cc)) (by kernel_rfl) (⟨(HBd.out).bx.c.cell 0, (HBd.out).l.cell 0, (HBd.out).bx.r.cell 0, (HBd.out).bx.r.cell 1, (HBd.out).bx.r.cell 2, (HBd.out).bx.r.cell 3, (HBd.out).bx.r.cell 4, (HBd.out).bx.r.cell 5, (HBd.out).bx.r.cell 6, (HBd.out).bx.r.cell 7⟩) (fun hHeld => ?_)
        refine plI [(0, false), (1, false), (2, false), (3, false), (4, false), (5, true), (6, true), (7, true), (8, true), (9, true), (10, true), (11, true), (12, false), (13, false), (14, false)] ?_
        repeat ((first | ((with_reducible show Plan ((_, true) :: _) _); refine plF ?_) | (refine plR (v := ?_) ?_ ?_; rotate_left; focus (intro W hSW; (try dsimp only at hSW); go_simp; all_goals (with_reducible rfl)))); try simp only [Act.put, List.setIfInBounds_toArray, List.set_cons_zero, List.set_cons_succ])
        refine plE ?_
        refine wpAnyH_done (by kernel_rfl) ?_ _
        clear hHeld
        go_wp2_with fail
        go_ret
        exact ⟨rfl, HBd.out.bx.b⟩
      | true =>
        have HIS := Lib.hid his
        obtain ⟨z, hz⟩ : ∃ z, checkU c r = z := ⟨_, rfl⟩
        have HZ1 := Lib.hid hz
        have HZ2 := Lib.hid ((further_check HCT.out his).trans hz)
        clear his hz
        go_wp2_with (go_at_call 14; refine (find_any w0 _ (c.take n) r.kind _ (HB0.out.trans (HBr.out.bx.b.mono HB0.out.size)) HLC.out HLT.out).mono ?_; rintro e w8 ⟨A5, c5, rfl, _, hb⟩; (rw [HIS.out]); have HB9 := Lib.hid ((HBr.out.below hb).below ((Below.refl _ _).alloc (Nat.le_refl _) (.cells #[.string ((kfind (c.take n) r.kind).getD noKd).name, .bool ((kfind (c.take n) r.kind).getD noKd).veh, .slice A5 ((kfind (c.take n) r.kind).getD noKd).slots.length c5] 38))); clear hb dL fL dR fR)
        generalize (w8.alloc (.cells #[.string ((kfind (c.take n) r.kind).getD noKd).name, .bool ((kfind (c.take n) r.kind).getD noKd).veh, .slice A5 ((kfind (c.take n) r.kind).getD noKd).slots.length c5] 38)) = w9 at *
        have HBd := Lib.hid (HB9.out.below (Below.refl _ _).drew)
        refine wp_region_held_drew (S := fun W => W.cell? ⟨w.heap.size, 0, none⟩ = some (.slice (some ⟨b, o, none⟩) c.length c1) ∧ W.cell? ⟨gl, 0, none⟩ = some (.slice (some ⟨b, o, none⟩) n c1) ∧ W.cell? ⟨w.heap.size + 1, 0, none⟩ = some (.string r.name) ∧ W.cell? ⟨w.heap.size + 1, 1, none⟩ = some (.string r.kind) ∧ W.cell? ⟨w.heap.size + 1, 2, none⟩ = some (.int .i64 r.cond.op) ∧ W.cell? ⟨w.heap.size + 1, 3, none⟩ = some (.string r.cond.name) ∧ W.cell? ⟨w.heap.size + 1, 4, none⟩ = some (.string r.cond.value) ∧ W.cell? ⟨w.heap.size + 1, 5, none⟩ = some (.int .i64 r.cond.n) ∧ W.cell? ⟨w.heap.size + 1, 6, none⟩ = some (.int .i64 r.cond.extra) ∧ W.cell? ⟨w.heap.size + 1, 7, none⟩ = some (.slice A r.cond.kids.length cc)) (by kernel_rfl) (⟨(HBd.out).bx.c.cell 0, (HBd.out).l.cell 0, (HBd.out).bx.r.cell 0, (HBd.out).bx.r.cell 1, (HBd.out).bx.r.cell 2, (HBd.out).bx.r.cell 3, (HBd.out).bx.r.cell 4, (HBd.out).bx.r.cell 5, (HBd.out).bx.r.cell 6, (HBd.out).bx.r.cell 7⟩) (fun hHeld => ?_)
        refine plI [(0, false), (1, false), (2, false), (3, false), (4, false), (5, false), (6, false), (8, false), (9, false)] ?_
        repeat ((first | ((with_reducible show Plan ((_, true) :: _) _); refine plF ?_) | (refine plR (v := ?_) ?_ ?_; rotate_left; focus (intro W hSW; (try dsimp only at hSW); go_simp; all_goals (with_reducible rfl)))); try simp only [Act.put, List.setIfInBounds_toArray, List.set_cons_zero, List.set_cons_succ])
        refine plE ?_
        refine wpAnyH_ready (rs := [7]) (by kernel_rfl) (by simp) ?_
        refine AllReadyH.cons (o := ⟨_, _, _, _, _, _⟩) rfl (fun K hK => ?_) AllReadyH.nil
        go_simp
        go_at_call 9; refine (tcheck_any _ (HB0.out.trans (HBd.out.bx.b.mono HB0.out.size)) HCV.out HL.out HSH.out r (.slice A r.cond.kids.length cc) HCN.out HF.out HNM.out HKD.out HLY.out).mono ?_; rintro e u7 ⟨rfl, hb⟩; (rw [HZ1.out]); have HBd7 := Lib.hid (HBd.out.below hb); clear hb
        refine hK.out _ _ (⟨(HBd7.out).bx.c.cell 0, (HBd7.out).l.cell 0, (HBd7.out).bx.r.cell 0, (HBd7.out).bx.r.cell 1, (HBd7.out).bx.r.cell 2, (HBd7.out).bx.r.cell 3, (HBd7.out).bx.r.cell 4, (HBd7.out).bx.r.cell 5, (HBd7.out).bx.r.cell 6, (HBd7.out).bx.r.cell 7⟩) (fun hHeld => ?_)
        clear hK K
        try simp only [Act.put, List.setIfInBounds_toArray, List.set_cons_zero, List.set_cons_succ]
        refine wpAnyH_ready (rs := [10]) (by kernel_rfl) (by simp) ?_
        refine AllReadyH.cons (o := ⟨_, _, _, _, _, _⟩) rfl (fun K hK => ?_) AllReadyH.nil
        go_simp
        go_at_call 9; refine (tcheck_any _ (HB0.out.trans (HBd7.out.bx.b.mono HB0.out.size)) HLC.out HLT.out HST.out r (.slice A r.cond.kids.length cc) HCN.out HF.out HNM.out HKD.out HLY.out).mono ?_; rintro e u10 ⟨rfl, hb⟩; (rw [HZ2.out]); have HBd10 := Lib.hid (HBd7.out.below hb); clear hb
        refine hK.out _ _ (⟨(HBd10.out).bx.c.cell 0, (HBd10.out).l.cell 0, (HBd10.out).bx.r.cell 0, (HBd10.out).bx.r.cell 1, (HBd10.out).bx.r.cell 2, (HBd10.out).bx.r.cell 3, (HBd10.out).bx.r.cell 4, (HBd10.out).bx.r.cell 5, (HBd10.out).bx.r.cell 6, (HBd10.out).bx.r.cell 7⟩) (fun hHeld => ?_)
        clear hK K
        try simp only [Act.put, List.setIfInBounds_toArray, List.set_cons_zero, List.set_cons_succ]
        refine plI [(11, false), (12, false), (13, false), (14, false)] ?_
        repeat ((first | ((with_reducible show Plan ((_, true) :: _) _); refine plF ?_) | (refine plR (v := ?_) ?_ ?_; rotate_left; focus (intro W hSW; (try dsimp only at hSW); go_simp; all_goals (with_reducible rfl)))); try simp only [Act.put, List.setIfInBounds_toArray, List.set_cons_zero, List.set_cons_succ])
        refine plE ?_
        refine wpAnyH_done (by kernel_rfl) ?_ _
        clear hHeld
        go_wp2_with fail
        go_ret
        exact ⟨rfl, HBd10.out.bx.b⟩
theorem furth21_any (w0 : World) (hv : Evs w0) (cv : Value) (c : List Kd) (r : Ru) (kv : Value) (w : World) (hb0 : Below w0.heap.size w0 w) (hcv : Cat w0 cv c) (hlay : Lay w0 kv r.cond.kids) (rn ix : Nat) (hrn : rn ≤ 255) (hix : ix ≤ 255) (hf : FitE r.cond) (hnm : r.name.size ≤ maxLen) (hkd : r.kind.size ≤ maxLen) : Calls Tryz.prog 4 #[.agg #[cv], .agg (ruA r kv), .int .u8 rn, .int .u8 ix] w fun e w' => e = .returned (.bool true) ∧ Below w.heap.size w w' := by
  obtain ⟨A, cc, rfl, _⟩ := hlay.slice
  cases hfew : (fewCa c && fewU r) with
  | false => exact tf_few w0 hv cv c r A cc w hb0 hcv hlay rn ix hrn hix hfew
  | true =>
    cases hc : catB c with
    | false => exact tf_bad w0 hv cv c r A cc w hb0 hcv hlay rn ix hrn hix hf hnm hkd hfew hc
    | true =>
      rcases Nat.eq_zero_or_pos c.length with h0 | h0
      · exact tf_nil w0 hv cv c r A cc w hb0 hcv h0 hlay rn ix hrn hix hf hnm hkd hfew hc
      · obtain ⟨b, o, c1, _, rfl, hc1, _⟩ := RdL.get hcv h0 noKd
        exact tf_main w0 hv b o c1 c r A cc w hb0 hcv hlay rn ix hrn hix hf hnm hkd hfew hc h0 hc1
end Go.Proofs.YtcpakaiblelmlaaGreatDoor
