/- typing.Check, where the rule is checked. Condition: the catalog and the rule lie in memory. The head of bogielaw21 in plain words: its catalog, and its six texts. No condition. bogielaw21's catalog, and the error of a rule's text for it. Condition: the error variables of strconv hold something. -/
import Derived.Deep.RegionHeld3
import Derived.RegionTactic
import Derived.WalkKit
import Derived.Test.YtcpakaiblelmlaaGreatDoorU01
import Derived.Test.YtcpakaiblelmlaaGreatDoorU02
import Derived.Test.YtcpakaiblelmlaaGreatDoorU05
import Derived.Test.YtcpakaiblelmlaaGreatDoorU17
import Derived.Test.YtcpakaiblelmlaaGreatDoorU18
namespace Go.Proofs.YtcpakaiblelmlaaGreatDoor
open Go Go.RowKit
section
variable {w0 : World} {cv : Value} {c : List Kd}
theorem chr_good {x g : Nat} {code : Int} {W w' : World} {e : Ending} (hz : code = 0) (h : ChR w0 cv c x g code W e w') : e = .returned (.tuple #[]) ∧ Aw g g W w' := ⟨h.1.trans (if_pos hz), h.2.1⟩
theorem chr_bad {x g : Nat} {code : Int} {W w' : World} {e : Ending} (hz : code ≠ 0) (h : ChR w0 cv c x g code W e w') : e = errV code ∧ Aw g g W w' := ⟨h.1.trans (if_neg hz), h.2.1⟩
theorem ck_new {w W : World} {ra : Array Value} {e : Int} (hb : Below w0.heap.size w0 w) (h : Bx w cv ra e W) : Ck w0 cv c (W.heap.size + 1) W.heap.size [] ((W.alloc (.map #[] 0)).alloc (.cells #[cv, .map (some W.heap.size)] 56)) := by
  have hz : (W.alloc (.map #[] 0)).heap.size = W.heap.size + 1 := World.size_alloc _ _
  have hB := hb.trans (h.b.mono hb.size)
  have h0 := hB.size
  refine ⟨?_, (Mp.new W pairEnc).alloc _, fun p hp => (by cases hp), by omega, (hB.alloc h0 _).alloc (by omega) _, by omega, h0⟩
  rw [← hz]
  exact Has.new _ _ _
theorem ck_aw {w W : World} {ra : Array Value} {e : Int} (h : Bx w cv ra e W) : Bx w cv ra e ((W.alloc (.map #[] 0)).alloc (.cells #[cv, .map (some W.heap.size)] 56)) := by
  have hz : (W.alloc (.map #[] 0)).heap.size = W.heap.size + 1 := World.size_alloc _ _
  exact (h.below ((Below.refl _ _).alloc (Nat.le_refl _) _)).below ((Below.refl _ _).alloc (Nat.le_refl _) _)
set_option maxRecDepth 100000 in
set_option maxHeartbeats 8000000 in
theorem tcheck_good (w : World) (hb0 : Below w0.heap.size w0 w) (hcv : Cat w0 cv c) (hl : c.length ≤ 100000) (hsh : ∀ k ∈ c, k.short) (r : Ru) (kv : Value) (hn : cnt r.cond ≤ 1000000) (hf : FitE r.cond) (hnm : r.name.size ≤ maxLen) (hkd : r.kind.size ≤ maxLen) (hlay : Lay w0 kv r.cond.kids) (hc : catB c = true) (hr : ruleB r = true) (hk : (kfind c r.kind).isSome = true) (hz : condT c r.kind r.cond = 0) : Calls Tryz.prog 9 #[.agg #[cv], .agg (ruA r kv)] w fun e w' => e = .returned (.int .i64 (checkU c r)) ∧ Below w.heap.size w w' := by
  have HU := Lib.hid (show checkU c r = condT c r.kind r.cond by unfold checkU; rw [hc, hr, hk]; rfl)
  have HC60 := Lib.hid (show cnt r.cond ≤ 60 by have := (trule_iff r.name r.kind r.cond).1 hr; exact this.2.2.1)
  have hmm := @run_makeMap Tryz.prog
  have HB0 := Lib.hid hb0
  have HCV := Lib.hid hcv
  have HL := Lib.hid hl
  have HSH := Lib.hid hsh
  have HNN := Lib.hid hn
  have HF := Lib.hid hf
  have HNM := Lib.hid hnm
  have HKD := Lib.hid hkd
  have HLY := Lib.hid hlay
  have H0 := Lib.hid (Bx.start w cv #[.string r.name, .string r.kind, .int .i64 r.cond.op, .string r.cond.name, .string r.cond.value, .int .i64 r.cond.n, .int .i64 r.cond.extra, kv])
  show Calls _ _ #[.agg #[cv], .agg #[.string r.name, .string r.kind, .int .i64 r.cond.op, .string r.cond.name, .string r.cond.value, .int .i64 r.cond.n, .int .i64 r.cond.extra, kv]] _ _
  have hmf : ∀ (fn : Fn) (first cap : Array Value) (w : World), (Instr.makeFunc fn first cap).run Tryz.prog w = .ok (.func fn first cap) w := fun _ _ _ _ => rfl
  have HC := Lib.hid hc
  have HR := Lib.hid hr
  have HFD := Lib.hid hk
  have HZ := Lib.hid hz
  clear hz
  clear hc hr hk
  clear hb0 hcv hl hsh hn hf hnm hkd hlay
  go_enter_defers Tryz.func9, Tryz.ntmps9
  obtain ⟨dK, fK⟩ := H0.out.c.facts; obtain ⟨dR, fR⟩ := H0.out.r.facts; obtain ⟨dE, fE⟩ := H0.out.e.facts
  go_wp2_with (first | (go_at_call 10; refine (catValid_any w0 cv c _ (HB0.out.trans (H0.out.b.mono HB0.out.size)) HCV.out HL.out HSH.out).mono ?_; rintro e w1 ⟨rfl, hb⟩; (rw [HC.out]); have H1 := Lib.hid (H0.out.below hb); clear dK fK dR fR dE fE hb; obtain ⟨dK, fK⟩ := H1.out.c.facts; obtain ⟨dR, fR⟩ := H1.out.r.facts; obtain ⟨dE, fE⟩ := H1.out.e.facts) | (go_at_call 11; refine (valid_any r kv _ HNN.out HF.out HNM.out HKD.out (HLY.out.later ((HB0.out.trans (H1.out.b.mono HB0.out.size))))).mono ?_; rintro e w2 ⟨rfl, hb⟩; (rw [HR.out]); have H2 := Lib.hid (H1.out.below hb); clear dK fK dR fR dE fE hb; obtain ⟨dK, fK⟩ := H2.out.c.facts; obtain ⟨dR, fR⟩ := H2.out.r.facts; obtain ⟨dE, fE⟩ := H2.out.e.facts) | (go_at_call 14; refine (find_any w0 cv c r.kind _ (HB0.out.trans (H2.out.b.mono HB0.out.size)) HCV.out HL.out).mono ?_; rintro e w3 ⟨A2, c2, rfl, hrd, hb⟩; (rw [HFD.out]); have H3 := Lib.hid ((H2.out.below hb).below ((Below.refl _ _).alloc (Nat.le_refl _) (.cells #[.string ((kfind c r.kind).getD noKd).name, .bool ((kfind c r.kind).getD noKd).veh, .slice A2 ((kfind c r.kind).getD noKd).slots.length c2] 38))); have hz := (H2.out.below hb).lt; clear dK fK dR fR dE fE hb hrd; obtain ⟨dK3, fK3⟩ := H3.out.c.facts; obtain ⟨dR3, fR3⟩ := H3.out.r.facts; obtain ⟨dE3, fE3⟩ := H3.out.e.facts; have H4 := Lib.hid (show Bx w cv #[.string r.name, .string r.kind, .int .i64 r.cond.op, .string r.cond.name, .string r.cond.value, .int .i64 r.cond.n, .int .i64 r.cond.extra, kv] 0 (((w3.alloc (.cells #[.string ((kfind c r.kind).getD noKd).name, .bool ((kfind c r.kind).getD noKd).veh, .slice A2 ((kfind c r.kind).getD noKd).slots.length c2] 38)).alloc (.map #[] 0)).alloc (.cells #[cv, .map (some (w3.heap.size + 1))] 56)) from (by have := ck_aw (cv := cv) H3.out; rwa [World.size_alloc] at this)); have HCK := Lib.hid (show Ck w0 cv c (w3.heap.size + 1 + 1) (w3.heap.size + 1) [] (((w3.alloc (.cells #[.string ((kfind c r.kind).getD noKd).name, .bool ((kfind c r.kind).getD noKd).veh, .slice A2 ((kfind c r.kind).getD noKd).slots.length c2] 38)).alloc (.map #[] 0)).alloc (.cells #[cv, .map (some (w3.heap.size + 1))] 56)) from (by have := ck_new (cv := cv) (c := c) HB0.out H3.out; rwa [World.size_alloc] at this)); obtain ⟨dK4, fK4⟩ := H4.out.c.facts; obtain ⟨dR4, fR4⟩ := H4.out.r.facts; obtain ⟨dE4, fE4⟩ := H4.out.e.facts) | (go_at_call 26; clear dK3 fK3 dR3 fR3 dE3 fE3 dK4 fK4 dR4 fR4 dE4 fE4; refine (check_rec HCV.out HC.out HL.out HSH.out 60 r.cond r.kind kv _ [] HC60.out (by decide) HLY.out HCK.out).mono ?_; rintro e w5 hd; obtain ⟨rfl, ha⟩ := chr_good HZ.out hd; have H5 := Lib.hid (H4.out.aw ha (by omega)); clear hd ha; obtain ⟨dK, fK⟩ := H5.out.c.facts; obtain ⟨dR, fR⟩ := H5.out.r.facts; obtain ⟨dE, fE⟩ := H5.out.e.facts))
  have H6 := Lib.hid (H5.out.setE 0)
  change bodyPostD _ _ _ _ _ (w5.setCell ⟨w.heap.size + 2, 0, none⟩ (.int .i64 0))
  generalize w5.setCell ⟨w.heap.size + 2, 0, none⟩ (.int .i64 0) = W6 at *
  show Leaves _ _ _ _ _ _ _
  refine leaves_cons (f := 25) (args := #[.pointer (some ⟨w.heap.size + 1 + 1, 0, none⟩)]) (by simp) (by simp [go_sem]) ?_
  refine (tcatch_idle (w.heap.size + 1 + 1) _).mono ?_
  rintro e u' w9 ⟨rfl, rfl, rfl⟩
  obtain ⟨q, _⟩ := H6.out.e.facts
  show ∃ v, _ ∧ _
  exact ⟨.int .i64 0, by simp [results, Tryz.results9, go_sem, q], ⟨by rw [HU.out, HZ.out], H6.out.b⟩⟩
set_option maxRecDepth 100000 in
set_option maxHeartbeats 8000000 in
theorem tcheck_bad (w : World) (hb0 : Below w0.heap.size w0 w) (hcv : Cat w0 cv c) (hl : c.length ≤ 100000) (hsh : ∀ k ∈ c, k.short) (r : Ru) (kv : Value) (hn : cnt r.cond ≤ 1000000) (hf : FitE r.cond) (hnm : r.name.size ≤ maxLen) (hkd : r.kind.size ≤ maxLen) (hlay : Lay w0 kv r.cond.kids) (hc : catB c = true) (hr : ruleB r = true) (hk : (kfind c r.kind).isSome = true) (hz : condT c r.kind r.cond ≠ 0) : Calls Tryz.prog 9 #[.agg #[cv], .agg (ruA r kv)] w fun e w' => e = .returned (.int .i64 (checkU c r)) ∧ Below w.heap.size w w' := by
  have HU := Lib.hid (show checkU c r = condT c r.kind r.cond by unfold checkU; rw [hc, hr, hk]; rfl)
  have HC60 := Lib.hid (show cnt r.cond ≤ 60 by have := (trule_iff r.name r.kind r.cond).1 hr; exact this.2.2.1)
  have hmm := @run_makeMap Tryz.prog
  have HB0 := Lib.hid hb0
  have HCV := Lib.hid hcv
  have HL := Lib.hid hl
  have HSH := Lib.hid hsh
  have HNN := Lib.hid hn
  have HF := Lib.hid hf
  have HNM := Lib.hid hnm
  have HKD := Lib.hid hkd
  have HLY := Lib.hid hlay
  have H0 := Lib.hid (Bx.start w cv #[.string r.name, .string r.kind, .int .i64 r.cond.op, .string r.cond.name, .string r.cond.value, .int .i64 r.cond.n, .int .i64 r.cond.extra, kv])
  show Calls _ _ #[.agg #[cv], .agg #[.string r.name, .string r.kind, .int .i64 r.cond.op, .string r.cond.name, .string r.cond.value, .int .i64 r.cond.n, .int .i64 r.cond.extra, kv]] _ _
  have hmf : ∀ (fn : Fn) (first cap : Array Value) (w : World), (Instr.makeFunc fn first cap).run Tryz.prog w = .ok (.func fn first cap) w := fun _ _ _ _ => rfl
  have HC := Lib.hid hc
  have HR := Lib.hid hr
  have HFD := Lib.hid hk
  have HZ := Lib.hid hz
  clear hz
  clear hc hr hk
  clear hb0 hcv hl hsh hn hf hnm hkd hlay
  go_enter_defers Tryz.func9, Tryz.ntmps9
  obtain ⟨dK, fK⟩ := H0.out.c.facts; obtain ⟨dR, fR⟩ := H0.out.r.facts; obtain ⟨dE, fE⟩ := H0.out.e.facts
  go_wp2_with (first | (go_at_call 10; refine (catValid_any w0 cv c _ (HB0.out.trans (H0.out.b.mono HB0.out.size)) HCV.out HL.out HSH.out).mono ?_; rintro e w1 ⟨rfl, hb⟩; (rw [HC.out]); have H1 := Lib.hid (H0.out.below hb); clear dK fK dR fR dE fE hb; obtain ⟨dK, fK⟩ := H1.out.c.facts; obtain ⟨dR, fR⟩ := H1.out.r.facts; obtain ⟨dE, fE⟩ := H1.out.e.facts) | (go_at_call 11; refine (valid_any r kv _ HNN.out HF.out HNM.out HKD.out (HLY.out.later ((HB0.out.trans (H1.out.b.mono HB0.out.size))))).mono ?_; rintro e w2 ⟨rfl, hb⟩; (rw [HR.out]); have H2 := Lib.hid (H1.out.below hb); clear dK fK dR fR dE fE hb; obtain ⟨dK, fK⟩ := H2.out.c.facts; obtain ⟨dR, fR⟩ := H2.out.r.facts; obtain ⟨dE, fE⟩ := H2.out.e.facts) | (go_at_call 14; refine (find_any w0 cv c r.kind _ (HB0.out.trans (H2.out.b.mono HB0.out.size)) HCV.out HL.out).mono ?_; rintro e w3 ⟨A2, c2, rfl, hrd, hb⟩; (rw [HFD.out]); have H3 := Lib.hid ((H2.out.below hb).below ((Below.refl _ _).alloc (Nat.le_refl _) (.cells #[.string ((kfind c r.kind).getD noKd).name, .bool ((kfind c r.kind).getD noKd).veh, .slice A2 ((kfind c r.kind).getD noKd).slots.length c2] 38))); have hz := (H2.out.below hb).lt; clear dK fK dR fR dE fE hb hrd; obtain ⟨dK3, fK3⟩ := H3.out.c.facts; obtain ⟨dR3, fR3⟩ := H3.out.r.facts; obtain ⟨dE3, fE3⟩ := H3.out.e.facts; have H4 := Lib.hid (show Bx w cv #[.string r.name, .string r.kind, .int .i64 r.cond.op, .string r.cond.name, .string r.cond.value, .int .i64 r.cond.n, .int .i64 r.cond.extra, kv] 0 (((w3.alloc (.cells #[.string ((kfind c r.kind).getD noKd).name, .bool ((kfind c r.kind).getD noKd).veh, .slice A2 ((kfind c r.kind).getD noKd).slots.length c2] 38)).alloc (.map #[] 0)).alloc (.cells #[cv, .map (some (w3.heap.size + 1))] 56)) from (by have := ck_aw (cv := cv) H3.out; rwa [World.size_alloc] at this)); have HCK := Lib.hid (show Ck w0 cv c (w3.heap.size + 1 + 1) (w3.heap.size + 1) [] (((w3.alloc (.cells #[.string ((kfind c r.kind).getD noKd).name, .bool ((kfind c r.kind).getD noKd).veh, .slice A2 ((kfind c r.kind).getD noKd).slots.length c2] 38)).alloc (.map #[] 0)).alloc (.cells #[cv, .map (some (w3.heap.size + 1))] 56)) from (by have := ck_new (cv := cv) (c := c) HB0.out H3.out; rwa [World.size_alloc] at this)); obtain ⟨dK4, fK4⟩ := H4.out.c.facts; obtain ⟨dR4, fR4⟩ := H4.out.r.facts; obtain ⟨dE4, fE4⟩ := H4.out.e.facts) | (go_at_call 26; clear dK3 fK3 dR3 fR3 dE3 fE3 dK4 fK4 dR4 fR4 dE4 fE4; refine (check_rec HCV.out HC.out HL.out HSH.out 60 r.cond r.kind kv _ [] HC60.out (by decide) HLY.out HCK.out).mono ?_; rintro e w5 hd; obtain ⟨rfl, ha⟩ := chr_bad HZ.out hd; have H5 := Lib.hid (H4.out.aw ha (by omega)); clear hd ha))
  show Leaves _ _ _ _ _ _ _
  refine leaves_cons (f := 25) (args := #[.pointer (some ⟨w.heap.size + 1 + 1, 0, none⟩)]) (by simp) (by simp [go_sem]) ?_
  refine (tcatch_panic (w.heap.size + 1 + 1) (condT c r.kind r.cond) [] _ w5 H5.out.e).mono ?_
  rintro e u' w4 ⟨rfl, rfl, rfl⟩
  have H6 := Lib.hid (H5.out.setE (condT c r.kind r.cond))
  obtain ⟨q, _⟩ := H6.out.e.facts
  show ∃ v, _ ∧ _
  exact ⟨.int .i64 (condT c r.kind r.cond), by simp [results, Tryz.results9, go_sem, q], ⟨by rw [HU.out], H6.out.b⟩⟩
theorem tcheck_any (w : World) (hb0 : Below w0.heap.size w0 w) (hcv : Cat w0 cv c) (hl : c.length ≤ 100000) (hsh : ∀ k ∈ c, k.short) (r : Ru) (kv : Value) (hn : cnt r.cond ≤ 1000000) (hf : FitE r.cond) (hnm : r.name.size ≤ maxLen) (hkd : r.kind.size ≤ maxLen) (hlay : Lay w0 kv r.cond.kids) : Calls Tryz.prog 9 #[.agg #[cv], .agg (ruA r kv)] w fun e w' => e = .returned (.int .i64 (checkU c r)) ∧ Below w.heap.size w w' := by
  cases hc : catB c with
  | false => exact tcheck_cat w hb0 hcv hl hsh r kv hn hf hnm hkd hlay hc
  | true =>
    cases hr : ruleB r with
    | false => exact tcheck_rule w hb0 hcv hl hsh r kv hn hf hnm hkd hlay hc hr
    | true =>
      cases hk : (kfind c r.kind).isSome with
      | false => exact tcheck_kind w hb0 hcv hl hsh r kv hn hf hnm hkd hlay hc hr hk
      | true =>
        by_cases hz : condT c r.kind r.cond = 0
        · exact tcheck_good w hb0 hcv hl hsh r kv hn hf hnm hkd hlay hc hr hk hz
        · exact tcheck_bad w hb0 hcv hl hsh r kv hn hf hnm hkd hlay hc hr hk hz
end
end Go.Proofs.YtcpakaiblelmlaaGreatDoor
namespace Go.Proofs.YtcpakaiblelmlaaGreatDoor
open Go Go.RowKit
def exC : List Kd := [⟨⟨#[97, 120, 108, 101]⟩, false, []⟩, ⟨⟨#[98, 111, 103, 105, 101]⟩, false, [⟨⟨#[97]⟩, [⟨#[97, 120, 108, 101]⟩], 1⟩, ⟨⟨#[98]⟩, [⟨#[97, 120, 108, 101]⟩], 1⟩]⟩, ⟨⟨#[99, 111, 97, 99, 104]⟩, true, [⟨⟨#[102, 114, 111, 110, 116]⟩, [⟨#[98, 111, 103, 105, 101]⟩], 1⟩]⟩]
set_option maxRecDepth 100000 in
theorem exC_ok : catB exC = true := by decide +kernel
def tr1 : Ru := ⟨⟨#[114]⟩, ⟨#[99, 111, 97, 99, 104]⟩, .mk 12 ⟨#[97, 120, 108, 101]⟩ e0 2 0 []⟩
def tx1 : ByteArray := ⟨#[114, 117, 108, 101, 32, 114, 32, 102, 111, 114, 32, 99, 111, 97, 99, 104, 58, 32, 97, 116, 32, 108, 101, 97, 115, 116, 32, 50, 32, 97, 120, 108, 101, 59]⟩
def tt1 : List Fnd := [⟨1, ⟨#[114, 117, 108, 101]⟩, 0, 0⟩, ⟨1, ⟨#[114]⟩, 5, 0⟩, ⟨1, ⟨#[102, 111, 114]⟩, 7, 0⟩, ⟨1, ⟨#[99, 111, 97, 99, 104]⟩, 11, 0⟩, ⟨4, ⟨#[58]⟩, 16, 0⟩, ⟨1, ⟨#[97, 116]⟩, 18, 0⟩, ⟨1, ⟨#[108, 101, 97, 115, 116]⟩, 21, 0⟩, ⟨2, ⟨#[50]⟩, 27, 0⟩, ⟨1, ⟨#[97, 120, 108, 101]⟩, 29, 0⟩, ⟨4, ⟨#[59]⟩, 33, 0⟩]
set_option maxRecDepth 100000 in
theorem lex_t1 : lexL tx1 = (tt1, 0, 0) := by kernel_rfl
set_option maxRecDepth 100000 in
theorem rule_t1 : ruleP 34 tt1 = .ok tr1 [] := by kernel_rfl
theorem typ_q1 : parseU tx1 = (tr1, 0, 0) := by
  unfold parseU
  rw [lex_t1]
  show (match ruleP 34 tt1 with | .bad e a => (ru0, e, a) | .ok r _ => if 60 < cnt r.cond then (ru0, 7, 0) else (r, 0, 0)) = _
  rw [rule_t1]
  rfl
set_option maxRecDepth 100000 in
theorem typ_c1 : checkU exC tr1 = 0 := by kernel_rfl
def tr2 : Ru := ⟨⟨#[114]⟩, ⟨#[99, 111, 97, 99, 104]⟩, .mk 12 ⟨#[97, 120, 108, 101]⟩ e0 3 0 []⟩
def tx2 : ByteArray := ⟨#[114, 117, 108, 101, 32, 114, 32, 102, 111, 114, 32, 99, 111, 97, 99, 104, 58, 32, 97, 116, 32, 108, 101, 97, 115, 116, 32, 51, 32, 97, 120, 108, 101, 59]⟩
def tt2 : List Fnd := [⟨1, ⟨#[114, 117, 108, 101]⟩, 0, 0⟩, ⟨1, ⟨#[114]⟩, 5, 0⟩, ⟨1, ⟨#[102, 111, 114]⟩, 7, 0⟩, ⟨1, ⟨#[99, 111, 97, 99, 104]⟩, 11, 0⟩, ⟨4, ⟨#[58]⟩, 16, 0⟩, ⟨1, ⟨#[97, 116]⟩, 18, 0⟩, ⟨1, ⟨#[108, 101, 97, 115, 116]⟩, 21, 0⟩, ⟨2, ⟨#[51]⟩, 27, 0⟩, ⟨1, ⟨#[97, 120, 108, 101]⟩, 29, 0⟩, ⟨4, ⟨#[59]⟩, 33, 0⟩]
set_option maxRecDepth 100000 in
theorem lex_t2 : lexL tx2 = (tt2, 0, 0) := by kernel_rfl
set_option maxRecDepth 100000 in
theorem rule_t2 : ruleP 34 tt2 = .ok tr2 [] := by kernel_rfl
theorem typ_q2 : parseU tx2 = (tr2, 0, 0) := by
  unfold parseU
  rw [lex_t2]
  show (match ruleP 34 tt2 with | .bad e a => (ru0, e, a) | .ok r _ => if 60 < cnt r.cond then (ru0, 7, 0) else (r, 0, 0)) = _
  rw [rule_t2]
  rfl
set_option maxRecDepth 100000 in
theorem typ_c2 : checkU exC tr2 = 13 := by kernel_rfl
def tr3 : Ru := ⟨⟨#[114]⟩, ⟨#[99, 111, 97, 99, 104]⟩, .mk 10 ⟨#[97, 120, 108, 101]⟩ e0 0 0 [.mk 9 ⟨#[97]⟩ ⟨#[97, 120, 108, 101]⟩ 0 0 []]⟩
def tx3 : ByteArray := ⟨#[114, 117, 108, 101, 32, 114, 32, 102, 111, 114, 32, 99, 111, 97, 99, 104, 58, 32, 97, 108, 108, 32, 97, 120, 108, 101, 32, 40, 115, 108, 111, 116, 32, 97, 32, 105, 115, 32, 97, 120, 108, 101, 41, 59]⟩
def tt3 : List Fnd := [⟨1, ⟨#[114, 117, 108, 101]⟩, 0, 0⟩, ⟨1, ⟨#[114]⟩, 5, 0⟩, ⟨1, ⟨#[102, 111, 114]⟩, 7, 0⟩, ⟨1, ⟨#[99, 111, 97, 99, 104]⟩, 11, 0⟩, ⟨4, ⟨#[58]⟩, 16, 0⟩, ⟨1, ⟨#[97, 108, 108]⟩, 18, 0⟩, ⟨1, ⟨#[97, 120, 108, 101]⟩, 22, 0⟩, ⟨4, ⟨#[40]⟩, 27, 0⟩, ⟨1, ⟨#[115, 108, 111, 116]⟩, 28, 0⟩, ⟨1, ⟨#[97]⟩, 33, 0⟩, ⟨1, ⟨#[105, 115]⟩, 35, 0⟩, ⟨1, ⟨#[97, 120, 108, 101]⟩, 38, 0⟩, ⟨4, ⟨#[41]⟩, 42, 0⟩, ⟨4, ⟨#[59]⟩, 43, 0⟩]
set_option maxRecDepth 100000 in
theorem lex_t3 : lexL tx3 = (tt3, 0, 0) := by kernel_rfl
set_option maxRecDepth 100000 in
theorem rule_t3 : ruleP 44 tt3 = .ok tr3 [] := by kernel_rfl
theorem typ_q3 : parseU tx3 = (tr3, 0, 0) := by
  unfold parseU
  rw [lex_t3]
  show (match ruleP 44 tt3 with | .bad e a => (ru0, e, a) | .ok r _ => if 60 < cnt r.cond then (ru0, 7, 0) else (r, 0, 0)) = _
  rw [rule_t3]
  rfl
set_option maxRecDepth 100000 in
theorem typ_c3 : checkU exC tr3 = 15 := by kernel_rfl
def tr4 : Ru := ⟨⟨#[114]⟩, ⟨#[99, 111, 97, 99, 104]⟩, .mk 9 ⟨#[102, 114, 111, 110, 116]⟩ ⟨#[97, 120, 108, 101]⟩ 0 0 []⟩
def tx4 : ByteArray := ⟨#[114, 117, 108, 101, 32, 114, 32, 102, 111, 114, 32, 99, 111, 97, 99, 104, 58, 32, 115, 108, 111, 116, 32, 102, 114, 111, 110, 116, 32, 105, 115, 32, 97, 120, 108, 101, 59]⟩
def tt4 : List Fnd := [⟨1, ⟨#[114, 117, 108, 101]⟩, 0, 0⟩, ⟨1, ⟨#[114]⟩, 5, 0⟩, ⟨1, ⟨#[102, 111, 114]⟩, 7, 0⟩, ⟨1, ⟨#[99, 111, 97, 99, 104]⟩, 11, 0⟩, ⟨4, ⟨#[58]⟩, 16, 0⟩, ⟨1, ⟨#[115, 108, 111, 116]⟩, 18, 0⟩, ⟨1, ⟨#[102, 114, 111, 110, 116]⟩, 23, 0⟩, ⟨1, ⟨#[105, 115]⟩, 29, 0⟩, ⟨1, ⟨#[97, 120, 108, 101]⟩, 32, 0⟩, ⟨4, ⟨#[59]⟩, 36, 0⟩]
set_option maxRecDepth 100000 in
theorem lex_t4 : lexL tx4 = (tt4, 0, 0) := by kernel_rfl
set_option maxRecDepth 100000 in
theorem rule_t4 : ruleP 37 tt4 = .ok tr4 [] := by kernel_rfl
theorem typ_q4 : parseU tx4 = (tr4, 0, 0) := by
  unfold parseU
  rw [lex_t4]
  show (match ruleP 37 tt4 with | .bad e a => (ru0, e, a) | .ok r _ => if 60 < cnt r.cond then (ru0, 7, 0) else (r, 0, 0)) = _
  rw [rule_t4]
  rfl
set_option maxRecDepth 100000 in
theorem typ_c4 : checkU exC tr4 = 4 := by kernel_rfl
def tr5 : Ru := ⟨⟨#[114]⟩, ⟨#[99, 111, 97, 99, 104]⟩, .mk 6 ⟨#[109, 105, 108, 101, 115]⟩ e0 5 0 []⟩
def tx5 : ByteArray := ⟨#[114, 117, 108, 101, 32, 114, 32, 102, 111, 114, 32, 99, 111, 97, 99, 104, 58, 32, 111, 118, 101, 114, 32, 109, 105, 108, 101, 115, 32, 53, 59]⟩
def tt5 : List Fnd := [⟨1, ⟨#[114, 117, 108, 101]⟩, 0, 0⟩, ⟨1, ⟨#[114]⟩, 5, 0⟩, ⟨1, ⟨#[102, 111, 114]⟩, 7, 0⟩, ⟨1, ⟨#[99, 111, 97, 99, 104]⟩, 11, 0⟩, ⟨4, ⟨#[58]⟩, 16, 0⟩, ⟨1, ⟨#[111, 118, 101, 114]⟩, 18, 0⟩, ⟨1, ⟨#[109, 105, 108, 101, 115]⟩, 23, 0⟩, ⟨2, ⟨#[53]⟩, 29, 0⟩, ⟨4, ⟨#[59]⟩, 30, 0⟩]
set_option maxRecDepth 100000 in
theorem lex_t5 : lexL tx5 = (tt5, 0, 0) := by kernel_rfl
set_option maxRecDepth 100000 in
theorem rule_t5 : ruleP 31 tt5 = .ok tr5 [] := by kernel_rfl
theorem typ_q5 : parseU tx5 = (tr5, 0, 0) := by
  unfold parseU
  rw [lex_t5]
  show (match ruleP 31 tt5 with | .bad e a => (ru0, e, a) | .ok r _ => if 60 < cnt r.cond then (ru0, 7, 0) else (r, 0, 0)) = _
  rw [rule_t5]
  rfl
set_option maxRecDepth 100000 in
theorem typ_c5 : checkU exC tr5 = 15 := by kernel_rfl
def tr6 : Ru := ⟨⟨#[114]⟩, ⟨#[99, 111, 97, 99, 104]⟩, .mk 3 e0 e0 0 0 [.mk 11 ⟨#[98, 111, 103, 105, 101]⟩ e0 0 0 [.mk 9 ⟨#[98]⟩ ⟨#[97, 120, 108, 101]⟩ 0 0 []], .mk 6 ⟨#[107, 109]⟩ e0 5 0 []]⟩
def tx6 : ByteArray := ⟨#[114, 117, 108, 101, 32, 114, 32, 102, 111, 114, 32, 99, 111, 97, 99, 104, 58, 32, 97, 110, 121, 32, 98, 111, 103, 105, 101, 32, 40, 115, 108, 111, 116, 32, 98, 32, 105, 115, 32, 97, 120, 108, 101, 41, 32, 97, 110, 100, 32, 111, 118, 101, 114, 32, 107, 109, 32, 53, 59]⟩
def tt6 : List Fnd := [⟨1, ⟨#[114, 117, 108, 101]⟩, 0, 0⟩, ⟨1, ⟨#[114]⟩, 5, 0⟩, ⟨1, ⟨#[102, 111, 114]⟩, 7, 0⟩, ⟨1, ⟨#[99, 111, 97, 99, 104]⟩, 11, 0⟩, ⟨4, ⟨#[58]⟩, 16, 0⟩, ⟨1, ⟨#[97, 110, 121]⟩, 18, 0⟩, ⟨1, ⟨#[98, 111, 103, 105, 101]⟩, 22, 0⟩, ⟨4, ⟨#[40]⟩, 28, 0⟩, ⟨1, ⟨#[115, 108, 111, 116]⟩, 29, 0⟩, ⟨1, ⟨#[98]⟩, 34, 0⟩, ⟨1, ⟨#[105, 115]⟩, 36, 0⟩, ⟨1, ⟨#[97, 120, 108, 101]⟩, 39, 0⟩, ⟨4, ⟨#[41]⟩, 43, 0⟩, ⟨1, ⟨#[97, 110, 100]⟩, 45, 0⟩, ⟨1, ⟨#[111, 118, 101, 114]⟩, 49, 0⟩, ⟨1, ⟨#[107, 109]⟩, 54, 0⟩, ⟨2, ⟨#[53]⟩, 57, 0⟩, ⟨4, ⟨#[59]⟩, 58, 0⟩]
set_option maxRecDepth 100000 in
theorem lex_t6 : lexL tx6 = (tt6, 0, 0) := by kernel_rfl
set_option maxRecDepth 100000 in
theorem rule_t6 : ruleP 59 tt6 = .ok tr6 [] := by kernel_rfl
theorem typ_q6 : parseU tx6 = (tr6, 0, 0) := by
  unfold parseU
  rw [lex_t6]
  show (match ruleP 59 tt6 with | .bad e a => (ru0, e, a) | .ok r _ => if 60 < cnt r.cond then (ru0, 7, 0) else (r, 0, 0)) = _
  rw [rule_t6]
  rfl
set_option maxRecDepth 100000 in
theorem typ_c6 : checkU exC tr6 = 0 := by kernel_rfl
set_option maxRecDepth 100000 in
theorem nub_coach : nubL (insL exC ⟨#[99, 111, 97, 99, 104]⟩) = [⟨#[98, 111, 103, 105, 101]⟩, ⟨#[97, 120, 108, 101]⟩] := by kernel_rfl
theorem kinds_coach : kindsU exC ⟨#[99, 111, 97, 99, 104]⟩ = [⟨#[97, 120, 108, 101]⟩, ⟨#[98, 111, 103, 105, 101]⟩] := by
  unfold kindsU
  rw [exC_ok, if_pos rfl]
  unfold sortD
  rw [nub_coach, show ([⟨#[98, 111, 103, 105, 101]⟩, ⟨#[97, 120, 108, 101]⟩] : List ByteArray).map bytesL = [[98, 111, 103, 105, 101], [97, 120, 108, 101]] from rfl, mergeSort_of_perm (List.Perm.swap [97, 120, 108, 101] [98, 111, 103, 105, 101] []), List.mergeSort_of_pairwise (by decide +kernel)]
  rfl
set_option maxRecDepth 100000 in
theorem nub_axle : nubL (insL exC ⟨#[97, 120, 108, 101]⟩) = [] := by kernel_rfl
theorem kinds_axle : kindsU exC ⟨#[97, 120, 108, 101]⟩ = [] := by
  unfold kindsU
  rw [exC_ok, if_pos rfl]
  unfold sortD
  rw [nub_axle]
  simp
end Go.Proofs.YtcpakaiblelmlaaGreatDoor
namespace Go.Proofs.YtcpakaiblelmlaaGreatDoor
open Go Go.RowKit
theorem rd_rows {α : Type} {C : Nat} {R : World → List Value → α → Prop} {w : World} {g : Nat} {l : List α} (h : ∀ i a, l[i]? = some a → ∃ cs, R w cs a ∧ cs.length = C ∧ w.rangeAt g (0 + i * C) cs) : RdL C R w (.slice (some ⟨g, 0, none⟩) l.length l.length) l := ⟨_, _, rfl, Nat.le_refl _, .inr ⟨g, 0, rfl, h⟩⟩
theorem has_at {w : World} {g : Nat} {t : TypeId} {cs : Array Value} (h : Has w g t cs) (o : Nat) (l : List Value) (hl : ∀ j, j < l.length → cs[o + j]? = l[j]?) : w.rangeAt g o l := fun j v hv => by
  have hj : j < l.length := by
    rcases Nat.lt_or_ge j l.length with h | h
    · exact h
    · rw [List.getElem?_eq_none h] at hv; cases hv
  rw [h.cell, hl j hj]
  exact hv
/-- A slot that takes one kind; its list in a block of its own. -/
theorem slot_rd {w : World} {g : Nat} {name kind : ByteArray} (h : Has w g 9 #[.string kind]) : SkR w [.string name, .slice (some ⟨g, 0, none⟩) 1 1, .int .i64 1] ⟨name, [kind], 1⟩ :=
  ⟨_, rfl, _, _, rfl, Nat.le_refl _, .inr ⟨g, 0, rfl, fun j hj => by
    obtain rfl : j = 0 := by have h1 : j < 1 * 1 := hj; omega
    exact h.cell 0⟩⟩
theorem exSlot2_any (name kind : ByteArray) (w : World) :
    Calls Tryz.prog 45 #[.string name, .string kind] w fun e w' => e = .returned (.agg #[.string name, .slice (some ⟨w.heap.size + 1, 0, none⟩) 1 1, .int .i64 1]) ∧ Has w' (w.heap.size + 1) 9 #[.string kind] ∧ Below w.heap.size w w' := by
  have hz : ∀ cs, (w.alloc (.cells cs 60)).heap.size = w.heap.size + 1 := fun cs => World.size_alloc _ _
  have h1 := Has.new (w.alloc (.cells #[.string name, .slice (some ⟨w.heap.size + 1, 0, none⟩) 1 1, .int .i64 1] 60)) 9 #[.string kind]
  rw [hz] at h1
  have h0 := (Has.new w 60 #[.string name, .slice (some ⟨w.heap.size + 1, 0, none⟩) 1 1, .int .i64 1]).alloc (.cells #[.string kind] 9)
  have hb : Below w.heap.size w ((w.alloc (.cells #[.string name, .slice (some ⟨w.heap.size + 1, 0, none⟩) 1 1, .int .i64 1] 60)).alloc (.cells #[.string kind] 9)) := ((Below.refl _ _).alloc (Nat.le_refl _) _).alloc (by rw [hz]; omega) _
  have H1 := Lib.hid h1
  have HB := Lib.hid hb
  clear h1 hb hz
  go_enter Tryz.func45, Tryz.ntmps45
  go_wp2
  obtain ⟨c, f⟩ := h0.facts
  refine bodyPost_ret (v := .agg #[.string name, .slice (some ⟨w.heap.size + 1, 0, none⟩) 1 1, .int .i64 1]) (by simp [results, Tryz.results45, go_sem, c]) rfl ?_
  exact ⟨rfl, H1.out, HB.out⟩
set_option maxRecDepth 100000 in
set_option maxHeartbeats 8000000 in
theorem example21_any (w : World) :
    Calls Tryz.prog 21 #[] w fun e w' => ∃ g, e = .returned (.agg #[.slice (some ⟨g, 0, none⟩) 3 3]) ∧ Cat w' (.slice (some ⟨g, 0, none⟩) 3 3) exC ∧ Below w.heap.size w w' := by
  have H0 := Lib.hid (Has.new w 24 #[.slice none 0 0])
  have HB0 := Lib.hid ((Below.refl w.heap.size w).alloc (Nat.le_refl _) (.cells #[.slice none 0 0] 24))
  have hz0 : (w.alloc (.cells #[.slice none 0 0] 24)).heap.size = w.heap.size + 1 := World.size_alloc _ _
  have HZ0 := Lib.hid hz0
  clear hz0
  go_enter Tryz.func21, Tryz.ntmps21
  go_wp2_with (first
    | (go_at_call_of 45 (Value.string ⟨#[97]⟩); refine (exSlot2_any ⟨#[97]⟩ ⟨#[97, 120, 108, 101]⟩ _).mono ?_; rintro e w1 ⟨rfl, hr, hb⟩; (rw [HZ0.out] at hr); have HX1 := Lib.hid (H0.out.below hb H0.out.lt); have HA1 := Lib.hid hr; have HB1 := Lib.hid (HB0.out.trans (hb.mono HB0.out.size)); obtain ⟨x1, x2⟩ := HX1.out.facts; have z1 := HX1.out.lt; clear hb hr)
    | (go_at_call_of 45 (Value.string ⟨#[98]⟩); refine (exSlot2_any ⟨#[98]⟩ ⟨#[97, 120, 108, 101]⟩ _).mono ?_; rintro e w2 ⟨rfl, hr, hb⟩; have HX2 := Lib.hid (HX1.out.below hb HX1.out.lt); have HA2 := Lib.hid (HA1.out.below hb HA1.out.lt); have HC2 := Lib.hid hr; have HB2 := Lib.hid (HB1.out.trans (hb.mono HB1.out.size)); clear x1 x2; obtain ⟨x1, x2⟩ := HX2.out.facts; have z2 := HX2.out.lt; clear hb hr)
    | (go_at_call_of 45 (Value.string ⟨#[102, 114, 111, 110, 116]⟩); refine (exSlot2_any ⟨#[102, 114, 111, 110, 116]⟩ ⟨#[98, 111, 103, 105, 101]⟩ _).mono ?_; rintro e w4 ⟨rfl, hr, hb⟩; (rw [World.size_alloc] at hr); have HB4 := Lib.hid (show Below w2.heap.size w2 w4 from (((Below.refl w2.heap.size w2).alloc (Nat.le_refl _) (.cells #[.string ⟨#[97]⟩, .slice (some ⟨w.heap.size + 1 + 1, 0, none⟩) 1 1, .int .i64 1, .string ⟨#[98]⟩, .slice (some ⟨w1.heap.size + 1, 0, none⟩) 1 1, .int .i64 1] 60)).trans (hb.mono (by rw [World.size_alloc]; omega)))); have HD4 := Lib.hid (show Has w4 w2.heap.size 60 #[.string ⟨#[97]⟩, .slice (some ⟨w.heap.size + 1 + 1, 0, none⟩) 1 1, .int .i64 1, .string ⟨#[98]⟩, .slice (some ⟨w1.heap.size + 1, 0, none⟩) 1 1, .int .i64 1] from (Has.new w2 60 #[.string ⟨#[97]⟩, .slice (some ⟨w.heap.size + 1 + 1, 0, none⟩) 1 1, .int .i64 1, .string ⟨#[98]⟩, .slice (some ⟨w1.heap.size + 1, 0, none⟩) 1 1, .int .i64 1]).below hb (by rw [World.size_alloc]; omega)); have HE4 := Lib.hid hr; have HX5 := Lib.hid (((HX2.out.below HB4.out HX2.out.lt).alloc (.cells #[.string ⟨#[102, 114, 111, 110, 116]⟩, .slice (some ⟨w2.heap.size + 1 + 1, 0, none⟩) 1 1, .int .i64 1] 60)).alloc (.cells #[.string ⟨#[97, 120, 108, 101]⟩, .bool false, .slice none 0 0, .string ⟨#[98, 111, 103, 105, 101]⟩, .bool false, .slice (some ⟨w2.heap.size, 0, none⟩) 2 2, .string ⟨#[99, 111, 97, 99, 104]⟩, .bool true, .slice (some ⟨w4.heap.size, 0, none⟩) 1 1] 38)); obtain ⟨x3, x4⟩ := HX5.out.facts; clear hb hr))
  have z4 := HB4.out.size
  have z5 : (w4.alloc (.cells #[.string ⟨#[102, 114, 111, 110, 116]⟩, .slice (some ⟨w2.heap.size + 1 + 1, 0, none⟩) 1 1, .int .i64 1] 60)).heap.size = w4.heap.size + 1 := World.size_alloc _ _
  have h1 := (Has.new w4 60 #[.string ⟨#[102, 114, 111, 110, 116]⟩, .slice (some ⟨w2.heap.size + 1 + 1, 0, none⟩) 1 1, .int .i64 1]).alloc (.cells #[.string ⟨#[97, 120, 108, 101]⟩, .bool false, .slice none 0 0, .string ⟨#[98, 111, 103, 105, 101]⟩, .bool false, .slice (some ⟨w2.heap.size, 0, none⟩) 2 2, .string ⟨#[99, 111, 97, 99, 104]⟩, .bool true, .slice (some ⟨w4.heap.size, 0, none⟩) 1 1] 38)
  have h2 := Has.new (w4.alloc (.cells #[.string ⟨#[102, 114, 111, 110, 116]⟩, .slice (some ⟨w2.heap.size + 1 + 1, 0, none⟩) 1 1, .int .i64 1] 60)) 38 #[.string ⟨#[97, 120, 108, 101]⟩, .bool false, .slice none 0 0, .string ⟨#[98, 111, 103, 105, 101]⟩, .bool false, .slice (some ⟨w2.heap.size, 0, none⟩) 2 2, .string ⟨#[99, 111, 97, 99, 104]⟩, .bool true, .slice (some ⟨w4.heap.size, 0, none⟩) 1 1]
  rw [z5] at h2
  have hb5 : Below w2.heap.size w2 ((w4.alloc (.cells #[.string ⟨#[102, 114, 111, 110, 116]⟩, .slice (some ⟨w2.heap.size + 1 + 1, 0, none⟩) 1 1, .int .i64 1] 60)).alloc (.cells #[.string ⟨#[97, 120, 108, 101]⟩, .bool false, .slice none 0 0, .string ⟨#[98, 111, 103, 105, 101]⟩, .bool false, .slice (some ⟨w2.heap.size, 0, none⟩) 2 2, .string ⟨#[99, 111, 97, 99, 104]⟩, .bool true, .slice (some ⟨w4.heap.size, 0, none⟩) 1 1] 38)) := (HB4.out.alloc z4 _).alloc (by omega) _
  have hA := HA2.out.below hb5 HA2.out.lt
  have hC := HC2.out.below hb5 HC2.out.lt
  have hD := (HD4.out.alloc (.cells #[.string ⟨#[102, 114, 111, 110, 116]⟩, .slice (some ⟨w2.heap.size + 1 + 1, 0, none⟩) 1 1, .int .i64 1] 60)).alloc (.cells #[.string ⟨#[97, 120, 108, 101]⟩, .bool false, .slice none 0 0, .string ⟨#[98, 111, 103, 105, 101]⟩, .bool false, .slice (some ⟨w2.heap.size, 0, none⟩) 2 2, .string ⟨#[99, 111, 97, 99, 104]⟩, .bool true, .slice (some ⟨w4.heap.size, 0, none⟩) 1 1] 38)
  have hE := (HE4.out.alloc (.cells #[.string ⟨#[102, 114, 111, 110, 116]⟩, .slice (some ⟨w2.heap.size + 1 + 1, 0, none⟩) 1 1, .int .i64 1] 60)).alloc (.cells #[.string ⟨#[97, 120, 108, 101]⟩, .bool false, .slice none 0 0, .string ⟨#[98, 111, 103, 105, 101]⟩, .bool false, .slice (some ⟨w2.heap.size, 0, none⟩) 2 2, .string ⟨#[99, 111, 97, 99, 104]⟩, .bool true, .slice (some ⟨w4.heap.size, 0, none⟩) 1 1] 38)
  have hB := HB2.out.trans (hb5.mono HB2.out.size)
  have l1 := HA2.out.lt
  have l2 := HC2.out.lt
  have l3 := HE4.out.lt
  have lC := z1
  have hX := HX5.out
  clear x1 x2 x3 x4 HX5 HB4 HD4 HE4 HX2 HA2 HC2 HB2
  generalize ((w4.alloc (.cells #[.string ⟨#[102, 114, 111, 110, 116]⟩, .slice (some ⟨w2.heap.size + 1 + 1, 0, none⟩) 1 1, .int .i64 1] 60)).alloc (.cells #[.string ⟨#[97, 120, 108, 101]⟩, .bool false, .slice none 0 0, .string ⟨#[98, 111, 103, 105, 101]⟩, .bool false, .slice (some ⟨w2.heap.size, 0, none⟩) 2 2, .string ⟨#[99, 111, 97, 99, 104]⟩, .bool true, .slice (some ⟨w4.heap.size, 0, none⟩) 1 1] 38)) = V at *
  have f1 := h1.far ⟨w.heap.size, 0, none⟩ (by show w4.heap.size ≠ w.heap.size; omega) (.slice (some ⟨w4.heap.size + 1, 0, none⟩) 3 3)
  have f2 := h2.far ⟨w.heap.size, 0, none⟩ (by show w4.heap.size + 1 ≠ w.heap.size; omega) (.slice (some ⟨w4.heap.size + 1, 0, none⟩) 3 3)
  have fA := hA.far ⟨w.heap.size, 0, none⟩ (by show w.heap.size + 1 + 1 ≠ w.heap.size; omega) (.slice (some ⟨w4.heap.size + 1, 0, none⟩) 3 3)
  have fC := hC.far ⟨w.heap.size, 0, none⟩ (by show w1.heap.size + 1 ≠ w.heap.size; omega) (.slice (some ⟨w4.heap.size + 1, 0, none⟩) 3 3)
  have fD := hD.far ⟨w.heap.size, 0, none⟩ (by show w2.heap.size ≠ w.heap.size; omega) (.slice (some ⟨w4.heap.size + 1, 0, none⟩) 3 3)
  have fE := hE.far ⟨w.heap.size, 0, none⟩ (by show w2.heap.size + 1 + 1 ≠ w.heap.size; omega) (.slice (some ⟨w4.heap.size + 1, 0, none⟩) 3 3)
  have fX := hX.put 0 (.slice (some ⟨w4.heap.size + 1, 0, none⟩) 3 3)
  obtain ⟨cX, _⟩ := fX.facts
  refine bodyPost_ret (v := .agg #[.slice (some ⟨w4.heap.size + 1, 0, none⟩) 3 3]) (by simp [results, Tryz.results21, go_sem, cX]) rfl ?_
  refine ⟨_, rfl, ?_, hB.setCell (p := ⟨w.heap.size, 0, none⟩) (Nat.le_refl _) _⟩
  clear cX fX hX h1 h2 hA hC hD hE
  generalize V.setCell ⟨w.heap.size, 0, none⟩ (.slice (some ⟨w4.heap.size + 1, 0, none⟩) 3 3) = V6 at *
  have three : ∀ (g i : Nat) (cs : Array Value) (t : TypeId) (x y z : Value), Has V6 g t cs → cs[i]? = some x → cs[i + 1]? = some y → cs[i + 2]? = some z → V6.rangeAt g i [x, y, z] := fun g i cs t x y z h hx hy hz => has_at h i _ fun j hj => by
    match j, hj with
    | 0, _ => exact hx
    | 1, _ => exact hy
    | 2, _ => exact hz
  refine rd_rows (l := exC) fun i k hk => ?_
  match i, hk with
  | 0, hk =>
    have hk : k = _ := (Option.some.inj hk).symm
    subst hk
    exact ⟨[.string ⟨#[97, 120, 108, 101]⟩, .bool false, .slice none 0 0], ⟨_, rfl, RdL.nil none 0⟩, rfl, three _ _ _ _ _ _ _ f2 rfl rfl rfl⟩
  | 1, hk =>
    have hk : k = _ := (Option.some.inj hk).symm
    subst hk
    refine ⟨[.string ⟨#[98, 111, 103, 105, 101]⟩, .bool false, .slice (some ⟨w2.heap.size, 0, none⟩) 2 2], ⟨_, rfl, rd_rows (l := ([⟨⟨#[97]⟩, [⟨#[97, 120, 108, 101]⟩], 1⟩, ⟨⟨#[98]⟩, [⟨#[97, 120, 108, 101]⟩], 1⟩] : List Sk)) fun i s hs => ?_⟩, rfl, three _ _ _ _ _ _ _ f2 rfl rfl rfl⟩
    match i, hs with
    | 0, hs =>
      have hs : s = _ := (Option.some.inj hs).symm
      subst hs
      exact ⟨_, slot_rd fA, rfl, three _ _ _ _ _ _ _ fD rfl rfl rfl⟩
    | 1, hs =>
      have hs : s = _ := (Option.some.inj hs).symm
      subst hs
      exact ⟨_, slot_rd fC, rfl, three _ _ _ _ _ _ _ fD rfl rfl rfl⟩
    | n + 2, hs => cases hs
  | 2, hk =>
    have hk : k = _ := (Option.some.inj hk).symm
    subst hk
    refine ⟨[.string ⟨#[99, 111, 97, 99, 104]⟩, .bool true, .slice (some ⟨w4.heap.size, 0, none⟩) 1 1], ⟨_, rfl, rd_rows (l := ([⟨⟨#[102, 114, 111, 110, 116]⟩, [⟨#[98, 111, 103, 105, 101]⟩], 1⟩] : List Sk)) fun i s hs => ?_⟩, rfl, three _ _ _ _ _ _ _ f2 rfl rfl rfl⟩
    match i, hs with
    | 0, hs =>
      have hs : s = _ := (Option.some.inj hs).symm
      subst hs
      exact ⟨_, slot_rd fE, rfl, three _ _ _ _ _ _ _ f1 rfl rfl rfl⟩
    | n + 1, hs => cases hs
  | n + 3, hk => cases hk
theorem exC_short : ∀ k ∈ exC, k.short := by
  have h : ∀ n : Nat, n ≤ 100 → n ≤ maxLen := fun n h => Nat.le_trans h (by decide)
  intro k hk
  simp only [exC, List.mem_cons, List.not_mem_nil, or_false] at hk
  rcases hk with rfl | rfl | rfl
  · exact ⟨h _ (by decide), by decide, fun s hs => (by cases hs)⟩
  all_goals
    refine ⟨h _ (by decide), by decide, fun s hs => ?_⟩
    simp only [List.mem_cons, List.not_mem_nil, or_false] at hs
    first
      | (rcases hs with rfl | rfl <;> (refine ⟨h _ (by decide), by decide, fun x hx => ?_⟩; rw [List.mem_singleton] at hx; subst hx; exact h _ (by decide)))
      | (subst hs; refine ⟨h _ (by decide), by decide, fun x hx => ?_⟩; rw [List.mem_singleton] at hx; subst hx; exact h _ (by decide))
set_option maxRecDepth 100000 in
set_option maxHeartbeats 8000000 in
theorem checked_any (w0 : World) (hv : Evs w0) (s tx : ByteArray) (r : Ru) (htx : (⟨#[114, 117, 108, 101, 32, 114, 32, 102, 111, 114, 32, 99, 111, 97, 99, 104, 58, 32]⟩ : ByteArray) ++ s ++ (⟨#[59]⟩ : ByteArray) = tx) (hs : s.size ≤ 1000) (hp : parseU tx = (r, 0, 0)) (hn : cnt r.cond ≤ 1000000) (hf : FitE r.cond) (hnm : r.name.size ≤ maxLen) (hkd : r.kind.size ≤ maxLen) (w : World) (hb0 : Below w0.heap.size w0 w) :
    Calls Tryz.prog 22 #[.string s] w fun e w' => e = .returned (.int .i64 (checkU exC r)) ∧ Below w.heap.size w w' := by
  have hts : tx.size ≤ maxLen := by
    rw [← htx, ByteArray.size_append, ByteArray.size_append]
    have h1 : (⟨#[114, 117, 108, 101, 32, 114, 32, 102, 111, 114, 32, 99, 111, 97, 99, 104, 58, 32]⟩ : ByteArray).size = 18 := rfl
    have h2 : (⟨#[59]⟩ : ByteArray).size = 1 := rfl
    rw [h1, h2]
    unfold maxLen
    omega
  have HPA := Lib.hid ((parse_any w0 hv tx w hb0 hts).mono (R' := fun e w1 => ∃ A cc, e = .returned (.tuple #[.agg #[.string r.name, .string r.kind, .int .i64 r.cond.op, .string r.cond.name, .string r.cond.value, .int .i64 r.cond.n, .int .i64 r.cond.extra, .slice A r.cond.kids.length cc], .int .i64 0, .int .i64 0]) ∧ Lay w1 (.slice A r.cond.kids.length cc) r.cond.kids ∧ Below w.heap.size w w1) (by
    rintro e w1 ⟨kv, rfl, hl, hb⟩
    rw [hp] at hl ⊢
    obtain ⟨A, cc, rfl, _⟩ := hl.slice
    exact ⟨A, cc, rfl, hl.any, hb⟩))
  have HTX := Lib.hid htx
  have hsi : (s.size : Int) ≤ 1000 := by omega
  have HCN := Lib.hid hn
  have HFT := Lib.hid hf
  have HNM := Lib.hid hnm
  have HKD := Lib.hid hkd
  have hmx : Tryz.prog.follows .mixedOrders = true := by kernel_rfl
  clear htx hp hn hf hnm hkd hv hb0 hts
  go_enter Tryz.func22, Tryz.ntmps22
  go_wp2_with (go_at_call 46; (rw [HTX.out]); refine HPA.out.mono ?_; rintro e w1 ⟨A, cc, rfl, hl, hb⟩; have HB1 := Lib.hid hb; have HLY := Lib.hid hl; clear hl hb)
  have HX := Lib.hid (Has.new w1 29 #[.string r.name, .string r.kind, .int .i64 r.cond.op, .string r.cond.name, .string r.cond.value, .int .i64 r.cond.n, .int .i64 r.cond.extra, .slice A r.cond.kids.length cc])
  have HB5 := Lib.hid ((Below.refl w1.heap.size w1).alloc (Nat.le_refl _) (.cells #[.string r.name, .string r.kind, .int .i64 r.cond.op, .string r.cond.name, .string r.cond.value, .int .i64 r.cond.n, .int .i64 r.cond.extra, .slice A r.cond.kids.length cc] 29))
  have HBX := Lib.hid (HB1.out.trans (HB5.out.mono HB1.out.size))
  generalize (w1.alloc (.cells #[.string r.name, .string r.kind, .int .i64 r.cond.op, .string r.cond.name, .string r.cond.value, .int .i64 r.cond.n, .int .i64 r.cond.extra, .slice A r.cond.kids.length cc] 29)) = w5 at *
  refine wp_region_held_drew (S := fun W => W.cell? ⟨w1.heap.size, 0, none⟩ = some (.string r.name) ∧ W.cell? ⟨w1.heap.size, 1, none⟩ = some (.string r.kind) ∧ W.cell? ⟨w1.heap.size, 2, none⟩ = some (.int .i64 r.cond.op) ∧ W.cell? ⟨w1.heap.size, 3, none⟩ = some (.string r.cond.name) ∧ W.cell? ⟨w1.heap.size, 4, none⟩ = some (.string r.cond.value) ∧ W.cell? ⟨w1.heap.size, 5, none⟩ = some (.int .i64 r.cond.n) ∧ W.cell? ⟨w1.heap.size, 6, none⟩ = some (.int .i64 r.cond.extra) ∧ W.cell? ⟨w1.heap.size, 7, none⟩ = some (.slice A r.cond.kids.length cc)) (by kernel_rfl) (⟨(HX.out.drew).cell 0, (HX.out.drew).cell 1, (HX.out.drew).cell 2, (HX.out.drew).cell 3, (HX.out.drew).cell 4, (HX.out.drew).cell 5, (HX.out.drew).cell 6, (HX.out.drew).cell 7⟩) (fun hHeld => ?_)
  refine plI [(1, false)] ?_
  repeat ((first | ((with_reducible show Plan ((_, true) :: _) _); refine plF ?_) | (refine plR (v := ?_) ?_ ?_; rotate_left; focus (intro W hSW; (try dsimp only at hSW); go_simp; all_goals (with_reducible rfl)))); try simp only [Act.put, List.setIfInBounds_toArray, List.set_cons_zero, List.set_cons_succ])
  refine plE ?_
  refine wpAnyH_ready (rs := [0]) (by kernel_rfl) (by simp) ?_
  refine AllReadyH.cons (o := ⟨_, _, _, _, _, _⟩) rfl (fun K hK => ?_) AllReadyH.nil
  go_simp
  go_at_call 21; refine (example21_any _).mono ?_; rintro e u1 ⟨g, rfl, hcat, hb⟩; have HX1 := Lib.hid (HX.out.drew.below hb HX.out.drew.lt); have HCT := Lib.hid hcat; have HB1 := Lib.hid (HBX.out.drew.trans (hb.mono HBX.out.drew.size)); have HL1 := Lib.hid ((HLY.out.later HB5.out.drew).later hb); clear hcat hb
  refine hK.out _ _ (⟨(HX1.out).cell 0, (HX1.out).cell 1, (HX1.out).cell 2, (HX1.out).cell 3, (HX1.out).cell 4, (HX1.out).cell 5, (HX1.out).cell 6, (HX1.out).cell 7⟩) (fun hHeld => ?_)
  clear hK K
  try simp only [Act.put, List.setIfInBounds_toArray, List.set_cons_zero, List.set_cons_succ]
  refine wpAnyH_ready (rs := [2]) (by kernel_rfl) (by simp) ?_
  refine AllReadyH.cons (o := ⟨_, _, _, _, _, _⟩) rfl (fun K hK => ?_) AllReadyH.nil
  go_simp
  go_at_call 9; refine (tcheck_any u1 (Below.refl _ _) HCT.out (by decide) exC_short r (.slice A r.cond.kids.length cc) HCN.out HFT.out HNM.out HKD.out HL1.out).mono ?_; rintro e u2 ⟨rfl, hb⟩; have HX2 := Lib.hid (HX1.out.below hb HX1.out.lt); have HB2 := Lib.hid (HB1.out.trans (hb.mono HB1.out.size)); clear hb
  refine hK.out _ _ (⟨(HX2.out).cell 0, (HX2.out).cell 1, (HX2.out).cell 2, (HX2.out).cell 3, (HX2.out).cell 4, (HX2.out).cell 5, (HX2.out).cell 6, (HX2.out).cell 7⟩) (fun hHeld => ?_)
  clear hK K
  try simp only [Act.put, List.setIfInBounds_toArray, List.set_cons_zero, List.set_cons_succ]
  refine plI [(3, false)] ?_
  repeat ((first | ((with_reducible show Plan ((_, true) :: _) _); refine plF ?_) | (refine plR (v := ?_) ?_ ?_; rotate_left; focus (intro W hSW; (try dsimp only at hSW); go_simp; all_goals (with_reducible rfl)))); try simp only [Act.put, List.setIfInBounds_toArray, List.set_cons_zero, List.set_cons_succ])
  refine plE ?_
  refine wpAnyH_done (by kernel_rfl) ?_ _
  clear hHeld
  go_wp2_with fail
  go_ret
  exact ⟨rfl, HB2.out⟩
end Go.Proofs.YtcpakaiblelmlaaGreatDoor
