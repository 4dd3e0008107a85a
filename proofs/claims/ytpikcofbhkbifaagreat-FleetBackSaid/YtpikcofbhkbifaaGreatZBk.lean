/- bogielaw10.FleetBack returns true: the walk. For every catalog, state, event, text and day bogielaw10.FleetBack returns true, and leaves them alone. No condition of its own. -/
import Derived.Test.YtpikcofbhkbifaaGreatRows
import Derived.Test.YtpikcofbhkbifaaGreatU26
import Derived.Test.YtpikcofbhkbifaaGreatU27
namespace Go.Proofs.YtpikcofbhkbifaaGreat
open Go Go.RowKit
set_option maxRecDepth 100000 in
set_option maxHeartbeats 8000000 in
theorem back_e1 (cv sv : Value) (c : List Kd) (l : List Pa) (op day : Int) (part kind into slot key value : ByteArray) (ukl ukh ucl uch ull ulh : Int) (name : ByteArray) (day0 : Int) (w : World) (hcat : Cat w cv c) (hsta : Sta w sv l) (hl : l.length ≤ maxLen) (hps : ∀ p ∈ l, p.wide) (hev : Ev.short ⟨op, day, part, kind, into, slot, key, value, ukl, ukh, ucl, uch, ull, ulh⟩) (_hn0 : name.size ≤ big) (hfew : fewB c l [⟨op, day, part, kind, into, slot, key, value, ukl, ukh, ucl, uch, ull, ulh⟩] = false) :
    Calls Tryz.prog 6 #[.agg #[cv], .agg #[sv], .agg #[.int .i64 op, .int .i64 day, .string part, .string kind, .string into, .string slot, .string key, .string value, .int .i64 ukl, .int .i64 ukh, .int .i64 ucl, .int .i64 uch, .int .i64 ull, .int .i64 ulh], .string name, .int .i64 day0] w fun e w' => e = .returned (.bool true) ∧ Below w.heap.size w w' := by
  obtain ⟨A', cc, rfl, _⟩ := Rd.form hcat
  obtain ⟨A, cs, rfl, hn⟩ := Rd.form hsta
  have HST := Lib.hid hsta
  have HEV := Lib.hid hev
  have HFW := Lib.hid (fun W (h : Below w.heap.size w W) {g : Nat} (hv : Sl W (.slice (some ⟨g, 0, none⟩) 1 1) 1 14 (evF [⟨op, day, part, kind, into, slot, key, value, ukl, ukh, ucl, uch, ull, ulh⟩])) => few_any W (.slice A' c.length cc) (.slice A l.length cs) (.slice (some ⟨g, 0, none⟩) 1 1) c l [⟨op, day, part, kind, into, slot, key, value, ukl, ukh, ucl, uch, ull, ulh⟩] W (Below.refl _ _) (hcat.below h) (hsta.below h) hv hl hps (by simp [maxLen]))
  have HAP := Lib.hid (fun (h65 : c.length ≤ 65 ∧ ∀ k ∈ c, k.short) W0 (h0 : Below w.heap.size w W0) sv' l' (hs' : Sta W0 sv' l') (hl' : l'.length ≤ 20000) (hsh' : ∀ p ∈ l', p.short) ev t W (hr : applyL c l' ev = (t, 0)) (h : Below W0.heap.size W0 W) hev => apply_ok W0 (.slice A' c.length cc) sv' c l' ev t W hr h (hcat.below h0) (by omega) h65.2 hs' (by omega) hsh' hev)
  have HAN := Lib.hid (fun (h65 : c.length ≤ 65 ∧ ∀ k ∈ c, k.short) (h20 : l.length ≤ 20 ∧ ∀ p ∈ l, p.short) ev W (hr : (applyL c l ev).2 ≠ 0) (h : Below w.heap.size w W) hev => apply_no w (.slice A' c.length cc) (.slice A l.length cs) c l ev W hr h hcat (by omega) h65.2 hsta (by omega) h20.2 hev)
  have HVL := Lib.hid (fun (h65 : c.length ≤ 65 ∧ ∀ k ∈ c, k.short) (h20 : l.length ≤ 20 ∧ ∀ p ∈ l, p.short) W (h : Below w.heap.size w W) => fvalid_any w (.slice A' c.length cc) (.slice A l.length cs) c l W h hcat (by omega) h65.2 hsta (by omega) h20.2)
  have HFD := Lib.hid (fun (h20 : l.length ≤ 20) W (h : Below w.heap.size w W) => fpart_any w (.slice A l.length cs) l name W h hsta (by omega))
  have k1 := ((Has.new w 24 #[.slice A' c.length cc]).alloc (.cells #[.slice A l.length cs] 27)).alloc (.cells #[.int .i64 op, .int .i64 day, .string part, .string kind, .string into, .string slot, .string key, .string value, .int .i64 ukl, .int .i64 ukh, .int .i64 ucl, .int .i64 uch, .int .i64 ull, .int .i64 ulh] 33)
  have k2 := (Has.new (w.alloc (.cells #[.slice A' c.length cc] 24)) 27 #[.slice A l.length cs]).alloc (.cells #[.int .i64 op, .int .i64 day, .string part, .string kind, .string into, .string slot, .string key, .string value, .int .i64 ukl, .int .i64 ukh, .int .i64 ucl, .int .i64 uch, .int .i64 ull, .int .i64 ulh] 33)
  have k3 := Has.new ((w.alloc (.cells #[.slice A' c.length cc] 24)).alloc (.cells #[.slice A l.length cs] 27)) 33 #[.int .i64 op, .int .i64 day, .string part, .string kind, .string into, .string slot, .string key, .string value, .int .i64 ukl, .int .i64 ukh, .int .i64 ucl, .int .i64 uch, .int .i64 ull, .int .i64 ulh]
  simp only [World.size_alloc] at k2 k3
  have KC0 := Lib.hid k1
  have KS0 := Lib.hid k2
  have KE0 := Lib.hid k3
  have HB0 := Lib.hid ((((Below.refl w.heap.size w).alloc (Nat.le_refl _) (.cells #[.slice A' c.length cc] 24)).alloc (by simp) (.cells #[.slice A l.length cs] 27)).alloc (by simp; omega) (.cells #[.int .i64 op, .int .i64 day, .string part, .string kind, .string into, .string slot, .string key, .string value, .int .i64 ukl, .int .i64 ukh, .int .i64 ucl, .int .i64 uch, .int .i64 ull, .int .i64 ulh] 33))
  show Calls Tryz.prog 6 #[.agg #[.slice A' c.length cc], .agg #[.slice A l.length cs], .agg #[.int .i64 op, .int .i64 day, .string part, .string kind, .string into, .string slot, .string key, .string value, .int .i64 ukl, .int .i64 ukh, .int .i64 ucl, .int .i64 uch, .int .i64 ull, .int .i64 ulh], .string name, .int .i64 day0] w _
  clear hcat hsta hps k1 k2 k3
  have HFEW := Lib.hid hfew
  clear hfew HVL HAP HAN HFD HST HEV
  go_enter Tryz.func6, Tryz.ntmps6
  go_wp2_with fail
  refine (head_any _).mono ?_
  rintro e w1 ⟨rfl, hb1⟩
  have kC := (KC0.out).below hb1 (KC0.out).lt
  obtain ⟨xC1, yC1⟩ := kC.facts
  have zC1 := kC.lt
  have KC1 := Lib.hid kC
  have kS := (KS0.out).below hb1 (KS0.out).lt
  obtain ⟨xS1, yS1⟩ := kS.facts
  have zS1 := kS.lt
  have KS1 := Lib.hid kS
  have kE := (KE0.out).below hb1 (KE0.out).lt
  obtain ⟨xE1, yE1⟩ := kE.facts
  have zE1 := kE.lt
  have KE1 := Lib.hid kE
  have HB1 := Lib.hid ((HB0.out).trans (hb1.mono (HB0.out).size))
  clear hb1 kC kS kE
  go_wp2_with fail
  refine (HFW.out _ ((HB1.out).alloc (HB1.out).size _) (ev_sl (e := ⟨op, day, part, kind, into, slot, key, value, ukl, ukh, ucl, uch, ull, ulh⟩) (Has.new w1 33 #[.int .i64 op, .int .i64 day, .string part, .string kind, .string into, .string slot, .string key, .string value, .int .i64 ukl, .int .i64 ukh, .int .i64 ucl, .int .i64 uch, .int .i64 ull, .int .i64 ulh]))).mono ?_
  rintro e w2 ⟨rfl, hb2⟩
  rw [HFEW.out]
  clear xC1 yC1 zC1 xS1 yS1 zS1 xE1 yE1 zE1
  have kC := ((KC1.out).alloc _).below hb2 ((KC1.out).alloc _).lt
  obtain ⟨xC2, yC2⟩ := kC.facts
  have zC2 := kC.lt
  have KC2 := Lib.hid kC
  have kS := ((KS1.out).alloc _).below hb2 ((KS1.out).alloc _).lt
  obtain ⟨xS2, yS2⟩ := kS.facts
  have zS2 := kS.lt
  have KS2 := Lib.hid kS
  have kE := ((KE1.out).alloc _).below hb2 ((KE1.out).alloc _).lt
  obtain ⟨xE2, yE2⟩ := kE.facts
  have zE2 := kE.lt
  have KE2 := Lib.hid kE
  have HB2 := Lib.hid (((HB1.out).alloc (HB1.out).size _).trans (hb2.mono ((HB1.out).alloc (HB1.out).size _).size))
  clear hb2 kC kS kE
  go_wp2_with fail
  go_ret
  exact ⟨rfl, HB2.out⟩
set_option maxRecDepth 100000 in
set_option maxHeartbeats 8000000 in
theorem back_e2 (cv sv : Value) (c : List Kd) (l : List Pa) (op day : Int) (part kind into slot key value : ByteArray) (ukl ukh ucl uch ull ulh : Int) (name : ByteArray) (day0 : Int) (w : World) (hcat : Cat w cv c) (hsta : Sta w sv l) (hl : l.length ≤ maxLen) (hps : ∀ p ∈ l, p.wide) (hev : Ev.short ⟨op, day, part, kind, into, slot, key, value, ukl, ukh, ucl, uch, ull, ulh⟩) (_hn0 : name.size ≤ big) (hfew : fewB c l [⟨op, day, part, kind, into, slot, key, value, ukl, ukh, ucl, uch, ull, ulh⟩] = true) (h100 : (100 : Int) < (name.size : Int)) :
    Calls Tryz.prog 6 #[.agg #[cv], .agg #[sv], .agg #[.int .i64 op, .int .i64 day, .string part, .string kind, .string into, .string slot, .string key, .string value, .int .i64 ukl, .int .i64 ukh, .int .i64 ucl, .int .i64 uch, .int .i64 ull, .int .i64 ulh], .string name, .int .i64 day0] w fun e w' => e = .returned (.bool true) ∧ Below w.heap.size w w' := by
  obtain ⟨A', cc, rfl, _⟩ := Rd.form hcat
  obtain ⟨A, cs, rfl, hn⟩ := Rd.form hsta
  have HST := Lib.hid hsta
  have HEV := Lib.hid hev
  have HFW := Lib.hid (fun W (h : Below w.heap.size w W) {g : Nat} (hv : Sl W (.slice (some ⟨g, 0, none⟩) 1 1) 1 14 (evF [⟨op, day, part, kind, into, slot, key, value, ukl, ukh, ucl, uch, ull, ulh⟩])) => few_any W (.slice A' c.length cc) (.slice A l.length cs) (.slice (some ⟨g, 0, none⟩) 1 1) c l [⟨op, day, part, kind, into, slot, key, value, ukl, ukh, ucl, uch, ull, ulh⟩] W (Below.refl _ _) (hcat.below h) (hsta.below h) hv hl hps (by simp [maxLen]))
  have HAP := Lib.hid (fun (h65 : c.length ≤ 65 ∧ ∀ k ∈ c, k.short) W0 (h0 : Below w.heap.size w W0) sv' l' (hs' : Sta W0 sv' l') (hl' : l'.length ≤ 20000) (hsh' : ∀ p ∈ l', p.short) ev t W (hr : applyL c l' ev = (t, 0)) (h : Below W0.heap.size W0 W) hev => apply_ok W0 (.slice A' c.length cc) sv' c l' ev t W hr h (hcat.below h0) (by omega) h65.2 hs' (by omega) hsh' hev)
  have HAN := Lib.hid (fun (h65 : c.length ≤ 65 ∧ ∀ k ∈ c, k.short) (h20 : l.length ≤ 20 ∧ ∀ p ∈ l, p.short) ev W (hr : (applyL c l ev).2 ≠ 0) (h : Below w.heap.size w W) hev => apply_no w (.slice A' c.length cc) (.slice A l.length cs) c l ev W hr h hcat (by omega) h65.2 hsta (by omega) h20.2 hev)
  have HVL := Lib.hid (fun (h65 : c.length ≤ 65 ∧ ∀ k ∈ c, k.short) (h20 : l.length ≤ 20 ∧ ∀ p ∈ l, p.short) W (h : Below w.heap.size w W) => fvalid_any w (.slice A' c.length cc) (.slice A l.length cs) c l W h hcat (by omega) h65.2 hsta (by omega) h20.2)
  have HFD := Lib.hid (fun (h20 : l.length ≤ 20) W (h : Below w.heap.size w W) => fpart_any w (.slice A l.length cs) l name W h hsta (by omega))
  have k1 := ((Has.new w 24 #[.slice A' c.length cc]).alloc (.cells #[.slice A l.length cs] 27)).alloc (.cells #[.int .i64 op, .int .i64 day, .string part, .string kind, .string into, .string slot, .string key, .string value, .int .i64 ukl, .int .i64 ukh, .int .i64 ucl, .int .i64 uch, .int .i64 ull, .int .i64 ulh] 33)
  have k2 := (Has.new (w.alloc (.cells #[.slice A' c.length cc] 24)) 27 #[.slice A l.length cs]).alloc (.cells #[.int .i64 op, .int .i64 day, .string part, .string kind, .string into, .string slot, .string key, .string value, .int .i64 ukl, .int .i64 ukh, .int .i64 ucl, .int .i64 uch, .int .i64 ull, .int .i64 ulh] 33)
  have k3 := Has.new ((w.alloc (.cells #[.slice A' c.length cc] 24)).alloc (.cells #[.slice A l.length cs] 27)) 33 #[.int .i64 op, .int .i64 day, .string part, .string kind, .string into, .string slot, .string key, .string value, .int .i64 ukl, .int .i64 ukh, .int .i64 ucl, .int .i64 uch, .int .i64 ull, .int .i64 ulh]
  simp only [World.size_alloc] at k2 k3
  have KC0 := Lib.hid k1
  have KS0 := Lib.hid k2
  have KE0 := Lib.hid k3
  have HB0 := Lib.hid ((((Below.refl w.heap.size w).alloc (Nat.le_refl _) (.cells #[.slice A' c.length cc] 24)).alloc (by simp) (.cells #[.slice A l.length cs] 27)).alloc (by simp; omega) (.cells #[.int .i64 op, .int .i64 day, .string part, .string kind, .string into, .string slot, .string key, .string value, .int .i64 ukl, .int .i64 ukh, .int .i64 ucl, .int .i64 uch, .int .i64 ull, .int .i64 ulh] 33))
  show Calls Tryz.prog 6 #[.agg #[.slice A' c.length cc], .agg #[.slice A l.length cs], .agg #[.int .i64 op, .int .i64 day, .string part, .string kind, .string into, .string slot, .string key, .string value, .int .i64 ukl, .int .i64 ukh, .int .i64 ucl, .int .i64 uch, .int .i64 ull, .int .i64 ulh], .string name, .int .i64 day0] w _
  clear hcat hsta hps k1 k2 k3
  obtain ⟨h65, h20⟩ := fewB_take hfew
  have HVL := Lib.hid (HVL.out h65 h20)
  have HAP := Lib.hid (HAP.out h65)
  have HAN := Lib.hid (HAN.out h65 h20)
  have HFD := Lib.hid (HFD.out h20.1)
  have HL := Lib.hid (show l.length ≤ 20000 by omega)
  have HL6 := Lib.hid (show l.length ≤ 1000000 by omega)
  have HSH := Lib.hid h20.2
  have HPR := Lib.hid (fun p (hp : p ∈ l) => (h20.2 p hp).2.2.2.2.1)
  have HFEW := Lib.hid hfew
  clear hfew h65 h20
  clear HVL HAP HAN HFD HST HEV
  go_enter Tryz.func6, Tryz.ntmps6
  go_wp2_with fail
  refine (head_any _).mono ?_
  rintro e w1 ⟨rfl, hb1⟩
  have kC := (KC0.out).below hb1 (KC0.out).lt
  obtain ⟨xC1, yC1⟩ := kC.facts
  have zC1 := kC.lt
  have KC1 := Lib.hid kC
  have kS := (KS0.out).below hb1 (KS0.out).lt
  obtain ⟨xS1, yS1⟩ := kS.facts
  have zS1 := kS.lt
  have KS1 := Lib.hid kS
  have kE := (KE0.out).below hb1 (KE0.out).lt
  obtain ⟨xE1, yE1⟩ := kE.facts
  have zE1 := kE.lt
  have KE1 := Lib.hid kE
  have HB1 := Lib.hid ((HB0.out).trans (hb1.mono (HB0.out).size))
  clear hb1 kC kS kE
  go_wp2_with fail
  refine (HFW.out _ ((HB1.out).alloc (HB1.out).size _) (ev_sl (e := ⟨op, day, part, kind, into, slot, key, value, ukl, ukh, ucl, uch, ull, ulh⟩) (Has.new w1 33 #[.int .i64 op, .int .i64 day, .string part, .string kind, .string into, .string slot, .string key, .string value, .int .i64 ukl, .int .i64 ukh, .int .i64 ucl, .int .i64 uch, .int .i64 ull, .int .i64 ulh]))).mono ?_
  rintro e w2 ⟨rfl, hb2⟩
  rw [HFEW.out]
  clear xC1 yC1 zC1 xS1 yS1 zS1 xE1 yE1 zE1
  have kC := ((KC1.out).alloc _).below hb2 ((KC1.out).alloc _).lt
  obtain ⟨xC2, yC2⟩ := kC.facts
  have zC2 := kC.lt
  have KC2 := Lib.hid kC
  have kS := ((KS1.out).alloc _).below hb2 ((KS1.out).alloc _).lt
  obtain ⟨xS2, yS2⟩ := kS.facts
  have zS2 := kS.lt
  have KS2 := Lib.hid kS
  have kE := ((KE1.out).alloc _).below hb2 ((KE1.out).alloc _).lt
  obtain ⟨xE2, yE2⟩ := kE.facts
  have zE2 := kE.lt
  have KE2 := Lib.hid kE
  have HB2 := Lib.hid (((HB1.out).alloc (HB1.out).size _).trans (hb2.mono ((HB1.out).alloc (HB1.out).size _).size))
  clear hb2 kC kS kE
  go_wp2_with fail
  go_ret
  exact ⟨rfl, HB2.out⟩
set_option maxRecDepth 100000 in
set_option maxHeartbeats 8000000 in
theorem back_e3 (cv sv : Value) (c : List Kd) (l : List Pa) (op day : Int) (part kind into slot key value : ByteArray) (ukl ukh ucl uch ull ulh : Int) (name : ByteArray) (day0 : Int) (w : World) (hcat : Cat w cv c) (hsta : Sta w sv l) (hl : l.length ≤ maxLen) (hps : ∀ p ∈ l, p.wide) (hev : Ev.short ⟨op, day, part, kind, into, slot, key, value, ukl, ukh, ucl, uch, ull, ulh⟩) (_hn0 : name.size ≤ big) (hfew : fewB c l [⟨op, day, part, kind, into, slot, key, value, ukl, ukh, ucl, uch, ull, ulh⟩] = true) (h100 : (name.size : Int) ≤ 100) (hd0 : day0 < 0) :
    Calls Tryz.prog 6 #[.agg #[cv], .agg #[sv], .agg #[.int .i64 op, .int .i64 day, .string part, .string kind, .string into, .string slot, .string key, .string value, .int .i64 ukl, .int .i64 ukh, .int .i64 ucl, .int .i64 uch, .int .i64 ull, .int .i64 ulh], .string name, .int .i64 day0] w fun e w' => e = .returned (.bool true) ∧ Below w.heap.size w w' := by
  obtain ⟨A', cc, rfl, _⟩ := Rd.form hcat
  obtain ⟨A, cs, rfl, hn⟩ := Rd.form hsta
  have HST := Lib.hid hsta
  have HEV := Lib.hid hev
  have HFW := Lib.hid (fun W (h : Below w.heap.size w W) {g : Nat} (hv : Sl W (.slice (some ⟨g, 0, none⟩) 1 1) 1 14 (evF [⟨op, day, part, kind, into, slot, key, value, ukl, ukh, ucl, uch, ull, ulh⟩])) => few_any W (.slice A' c.length cc) (.slice A l.length cs) (.slice (some ⟨g, 0, none⟩) 1 1) c l [⟨op, day, part, kind, into, slot, key, value, ukl, ukh, ucl, uch, ull, ulh⟩] W (Below.refl _ _) (hcat.below h) (hsta.below h) hv hl hps (by simp [maxLen]))
  have HAP := Lib.hid (fun (h65 : c.length ≤ 65 ∧ ∀ k ∈ c, k.short) W0 (h0 : Below w.heap.size w W0) sv' l' (hs' : Sta W0 sv' l') (hl' : l'.length ≤ 20000) (hsh' : ∀ p ∈ l', p.short) ev t W (hr : applyL c l' ev = (t, 0)) (h : Below W0.heap.size W0 W) hev => apply_ok W0 (.slice A' c.length cc) sv' c l' ev t W hr h (hcat.below h0) (by omega) h65.2 hs' (by omega) hsh' hev)
  have HAN := Lib.hid (fun (h65 : c.length ≤ 65 ∧ ∀ k ∈ c, k.short) (h20 : l.length ≤ 20 ∧ ∀ p ∈ l, p.short) ev W (hr : (applyL c l ev).2 ≠ 0) (h : Below w.heap.size w W) hev => apply_no w (.slice A' c.length cc) (.slice A l.length cs) c l ev W hr h hcat (by omega) h65.2 hsta (by omega) h20.2 hev)
  have HVL := Lib.hid (fun (h65 : c.length ≤ 65 ∧ ∀ k ∈ c, k.short) (h20 : l.length ≤ 20 ∧ ∀ p ∈ l, p.short) W (h : Below w.heap.size w W) => fvalid_any w (.slice A' c.length cc) (.slice A l.length cs) c l W h hcat (by omega) h65.2 hsta (by omega) h20.2)
  have HFD := Lib.hid (fun (h20 : l.length ≤ 20) W (h : Below w.heap.size w W) => fpart_any w (.slice A l.length cs) l name W h hsta (by omega))
  have k1 := ((Has.new w 24 #[.slice A' c.length cc]).alloc (.cells #[.slice A l.length cs] 27)).alloc (.cells #[.int .i64 op, .int .i64 day, .string part, .string kind, .string into, .string slot, .string key, .string value, .int .i64 ukl, .int .i64 ukh, .int .i64 ucl, .int .i64 uch, .int .i64 ull, .int .i64 ulh] 33)
  have k2 := (Has.new (w.alloc (.cells #[.slice A' c.length cc] 24)) 27 #[.slice A l.length cs]).alloc (.cells #[.int .i64 op, .int .i64 day, .string part, .string kind, .string into, .string slot, .string key, .string value, .int .i64 ukl, .int .i64 ukh, .int .i64 ucl, .int .i64 uch, .int .i64 ull, .int .i64 ulh] 33)
  have k3 := Has.new ((w.alloc (.cells #[.slice A' c.length cc] 24)).alloc (.cells #[.slice A l.length cs] 27)) 33 #[.int .i64 op, .int .i64 day, .string part, .string kind, .string into, .string slot, .string key, .string value, .int .i64 ukl, .int .i64 ukh, .int .i64 ucl, .int .i64 uch, .int .i64 ull, .int .i64 ulh]
  simp only [World.size_alloc] at k2 k3
  have KC0 := Lib.hid k1
  have KS0 := Lib.hid k2
  have KE0 := Lib.hid k3
  have HB0 := Lib.hid ((((Below.refl w.heap.size w).alloc (Nat.le_refl _) (.cells #[.slice A' c.length cc] 24)).alloc (by simp) (.cells #[.slice A l.length cs] 27)).alloc (by simp; omega) (.cells #[.int .i64 op, .int .i64 day, .string part, .string kind, .string into, .string slot, .string key, .string value, .int .i64 ukl, .int .i64 ukh, .int .i64 ucl, .int .i64 uch, .int .i64 ull, .int .i64 ulh] 33))
  show Calls Tryz.prog 6 #[.agg #[.slice A' c.length cc], .agg #[.slice A l.length cs], .agg #[.int .i64 op, .int .i64 day, .string part, .string kind, .string into, .string slot, .string key, .string value, .int .i64 ukl, .int .i64 ukh, .int .i64 ucl, .int .i64 uch, .int .i64 ull, .int .i64 ulh], .string name, .int .i64 day0] w _
  clear hcat hsta hps k1 k2 k3
  obtain ⟨h65, h20⟩ := fewB_take hfew
  have HVL := Lib.hid (HVL.out h65 h20)
  have HAP := Lib.hid (HAP.out h65)
  have HAN := Lib.hid (HAN.out h65 h20)
  have HFD := Lib.hid (HFD.out h20.1)
  have HL := Lib.hid (show l.length ≤ 20000 by omega)
  have HL6 := Lib.hid (show l.length ≤ 1000000 by omega)
  have HSH := Lib.hid h20.2
  have HPR := Lib.hid (fun p (hp : p ∈ l) => (h20.2 p hp).2.2.2.2.1)
  have HFEW := Lib.hid hfew
  clear hfew h65 h20
  clear HVL HAP HAN HFD HST HEV
  go_enter Tryz.func6, Tryz.ntmps6
  go_wp2_with fail
  refine (head_any _).mono ?_
  rintro e w1 ⟨rfl, hb1⟩
  have kC := (KC0.out).below hb1 (KC0.out).lt
  obtain ⟨xC1, yC1⟩ := kC.facts
  have zC1 := kC.lt
  have KC1 := Lib.hid kC
  have kS := (KS0.out).below hb1 (KS0.out).lt
  obtain ⟨xS1, yS1⟩ := kS.facts
  have zS1 := kS.lt
  have KS1 := Lib.hid kS
  have kE := (KE0.out).below hb1 (KE0.out).lt
  obtain ⟨xE1, yE1⟩ := kE.facts
  have zE1 := kE.lt
  have KE1 := Lib.hid kE
  have HB1 := Lib.hid ((HB0.out).trans (hb1.mono (HB0.out).size))
  clear hb1 kC kS kE
  go_wp2_with fail
  refine (HFW.out _ ((HB1.out).alloc (HB1.out).size _) (ev_sl (e := ⟨op, day, part, kind, into, slot, key, value, ukl, ukh, ucl, uch, ull, ulh⟩) (Has.new w1 33 #[.int .i64 op, .int .i64 day, .string part, .string kind, .string into, .string slot, .string key, .string value, .int .i64 ukl, .int .i64 ukh, .int .i64 ucl, .int .i64 uch, .int .i64 ull, .int .i64 ulh]))).mono ?_
  rintro e w2 ⟨rfl, hb2⟩
  rw [HFEW.out]
  clear xC1 yC1 zC1 xS1 yS1 zS1 xE1 yE1 zE1
  have kC := ((KC1.out).alloc _).below hb2 ((KC1.out).alloc _).lt
  obtain ⟨xC2, yC2⟩ := kC.facts
  have zC2 := kC.lt
  have KC2 := Lib.hid kC
  have kS := ((KS1.out).alloc _).below hb2 ((KS1.out).alloc _).lt
  obtain ⟨xS2, yS2⟩ := kS.facts
  have zS2 := kS.lt
  have KS2 := Lib.hid kS
  have kE := ((KE1.out).alloc _).below hb2 ((KE1.out).alloc _).lt
  obtain ⟨xE2, yE2⟩ := kE.facts
  have zE2 := kE.lt
  have KE2 := Lib.hid kE
  have HB2 := Lib.hid (((HB1.out).alloc (HB1.out).size _).trans (hb2.mono ((HB1.out).alloc (HB1.out).size _).size))
  clear hb2 kC kS kE
  go_wp2_with fail
  go_ret
  exact ⟨rfl, HB2.out⟩
set_option maxRecDepth 100000 in
set_option maxHeartbeats 8000000 in
theorem back_e4 (cv sv : Value) (c : List Kd) (l : List Pa) (op day : Int) (part kind into slot key value : ByteArray) (ukl ukh ucl uch ull ulh : Int) (name : ByteArray) (day0 : Int) (w : World) (hcat : Cat w cv c) (hsta : Sta w sv l) (hl : l.length ≤ maxLen) (hps : ∀ p ∈ l, p.wide) (hev : Ev.short ⟨op, day, part, kind, into, slot, key, value, ukl, ukh, ucl, uch, ull, ulh⟩) (_hn0 : name.size ≤ big) (hfew : fewB c l [⟨op, day, part, kind, into, slot, key, value, ukl, ukh, ucl, uch, ull, ulh⟩] = true) (h100 : (name.size : Int) ≤ 100) (hd0 : 0 ≤ day0) (hd1 : 40000 < day0) :
    Calls Tryz.prog 6 #[.agg #[cv], .agg #[sv], .agg #[.int .i64 op, .int .i64 day, .string part, .string kind, .string into, .string slot, .string key, .string value, .int .i64 ukl, .int .i64 ukh, .int .i64 ucl, .int .i64 uch, .int .i64 ull, .int .i64 ulh], .string name, .int .i64 day0] w fun e w' => e = .returned (.bool true) ∧ Below w.heap.size w w' := by
  obtain ⟨A', cc, rfl, _⟩ := Rd.form hcat
  obtain ⟨A, cs, rfl, hn⟩ := Rd.form hsta
  have HST := Lib.hid hsta
  have HEV := Lib.hid hev
  have HFW := Lib.hid (fun W (h : Below w.heap.size w W) {g : Nat} (hv : Sl W (.slice (some ⟨g, 0, none⟩) 1 1) 1 14 (evF [⟨op, day, part, kind, into, slot, key, value, ukl, ukh, ucl, uch, ull, ulh⟩])) => few_any W (.slice A' c.length cc) (.slice A l.length cs) (.slice (some ⟨g, 0, none⟩) 1 1) c l [⟨op, day, part, kind, into, slot, key, value, ukl, ukh, ucl, uch, ull, ulh⟩] W (Below.refl _ _) (hcat.below h) (hsta.below h) hv hl hps (by simp [maxLen]))
  have HAP := Lib.hid (fun (h65 : c.length ≤ 65 ∧ ∀ k ∈ c, k.short) W0 (h0 : Below w.heap.size w W0) sv' l' (hs' : Sta W0 sv' l') (hl' : l'.length ≤ 20000) (hsh' : ∀ p ∈ l', p.short) ev t W (hr : applyL c l' ev = (t, 0)) (h : Below W0.heap.size W0 W) hev => apply_ok W0 (.slice A' c.length cc) sv' c l' ev t W hr h (hcat.below h0) (by omega) h65.2 hs' (by omega) hsh' hev)
  have HAN := Lib.hid (fun (h65 : c.length ≤ 65 ∧ ∀ k ∈ c, k.short) (h20 : l.length ≤ 20 ∧ ∀ p ∈ l, p.short) ev W (hr : (applyL c l ev).2 ≠ 0) (h : Below w.heap.size w W) hev => apply_no w (.slice A' c.length cc) (.slice A l.length cs) c l ev W hr h hcat (by omega) h65.2 hsta (by omega) h20.2 hev)
  have HVL := Lib.hid (fun (h65 : c.length ≤ 65 ∧ ∀ k ∈ c, k.short) (h20 : l.length ≤ 20 ∧ ∀ p ∈ l, p.short) W (h : Below w.heap.size w W) => fvalid_any w (.slice A' c.length cc) (.slice A l.length cs) c l W h hcat (by omega) h65.2 hsta (by omega) h20.2)
  have HFD := Lib.hid (fun (h20 : l.length ≤ 20) W (h : Below w.heap.size w W) => fpart_any w (.slice A l.length cs) l name W h hsta (by omega))
  have k1 := ((Has.new w 24 #[.slice A' c.length cc]).alloc (.cells #[.slice A l.length cs] 27)).alloc (.cells #[.int .i64 op, .int .i64 day, .string part, .string kind, .string into, .string slot, .string key, .string value, .int .i64 ukl, .int .i64 ukh, .int .i64 ucl, .int .i64 uch, .int .i64 ull, .int .i64 ulh] 33)
  have k2 := (Has.new (w.alloc (.cells #[.slice A' c.length cc] 24)) 27 #[.slice A l.length cs]).alloc (.cells #[.int .i64 op, .int .i64 day, .string part, .string kind, .string into, .string slot, .string key, .string value, .int .i64 ukl, .int .i64 ukh, .int .i64 ucl, .int .i64 uch, .int .i64 ull, .int .i64 ulh] 33)
  have k3 := Has.new ((w.alloc (.cells #[.slice A' c.length cc] 24)).alloc (.cells #[.slice A l.length cs] 27)) 33 #[.int .i64 op, .int .i64 day, .string part, .string kind, .string into, .string slot, .string key, .string value, .int .i64 ukl, .int .i64 ukh, .int .i64 ucl, .int .i64 uch, .int .i64 ull, .int .i64 ulh]
  simp only [World.size_alloc] at k2 k3
  have KC0 := Lib.hid k1
  have KS0 := Lib.hid k2
  have KE0 := Lib.hid k3
  have HB0 := Lib.hid ((((Below.refl w.heap.size w).alloc (Nat.le_refl _) (.cells #[.slice A' c.length cc] 24)).alloc (by simp) (.cells #[.slice A l.length cs] 27)).alloc (by simp; omega) (.cells #[.int .i64 op, .int .i64 day, .string part, .string kind, .string into, .string slot, .string key, .string value, .int .i64 ukl, .int .i64 ukh, .int .i64 ucl, .int .i64 uch, .int .i64 ull, .int .i64 ulh] 33))
  show Calls Tryz.prog 6 #[.agg #[.slice A' c.length cc], .agg #[.slice A l.length cs], .agg #[.int .i64 op, .int .i64 day, .string part, .string kind, .string into, .string slot, .string key, .string value, .int .i64 ukl, .int .i64 ukh, .int .i64 ucl, .int .i64 uch, .int .i64 ull, .int .i64 ulh], .string name, .int .i64 day0] w _
  clear hcat hsta hps k1 k2 k3
  obtain ⟨h65, h20⟩ := fewB_take hfew
  have HVL := Lib.hid (HVL.out h65 h20)
  have HAP := Lib.hid (HAP.out h65)
  have HAN := Lib.hid (HAN.out h65 h20)
  have HFD := Lib.hid (HFD.out h20.1)
  have HL := Lib.hid (show l.length ≤ 20000 by omega)
  have HL6 := Lib.hid (show l.length ≤ 1000000 by omega)
  have HSH := Lib.hid h20.2
  have HPR := Lib.hid (fun p (hp : p ∈ l) => (h20.2 p hp).2.2.2.2.1)
  have HFEW := Lib.hid hfew
  clear hfew h65 h20
  clear HVL HAP HAN HFD HST HEV
  go_enter Tryz.func6, Tryz.ntmps6
  go_wp2_with fail
  refine (head_any _).mono ?_
  rintro e w1 ⟨rfl, hb1⟩
  have kC := (KC0.out).below hb1 (KC0.out).lt
  obtain ⟨xC1, yC1⟩ := kC.facts
  have zC1 := kC.lt
  have KC1 := Lib.hid kC
  have kS := (KS0.out).below hb1 (KS0.out).lt
  obtain ⟨xS1, yS1⟩ := kS.facts
  have zS1 := kS.lt
  have KS1 := Lib.hid kS
  have kE := (KE0.out).below hb1 (KE0.out).lt
  obtain ⟨xE1, yE1⟩ := kE.facts
  have zE1 := kE.lt
  have KE1 := Lib.hid kE
  have HB1 := Lib.hid ((HB0.out).trans (hb1.mono (HB0.out).size))
  clear hb1 kC kS kE
  go_wp2_with fail
  refine (HFW.out _ ((HB1.out).alloc (HB1.out).size _) (ev_sl (e := ⟨op, day, part, kind, into, slot, key, value, ukl, ukh, ucl, uch, ull, ulh⟩) (Has.new w1 33 #[.int .i64 op, .int .i64 day, .string part, .string kind, .string into, .string slot, .string key, .string value, .int .i64 ukl, .int .i64 ukh, .int .i64 ucl, .int .i64 uch, .int .i64 ull, .int .i64 ulh]))).mono ?_
  rintro e w2 ⟨rfl, hb2⟩
  rw [HFEW.out]
  clear xC1 yC1 zC1 xS1 yS1 zS1 xE1 yE1 zE1
  have kC := ((KC1.out).alloc _).below hb2 ((KC1.out).alloc _).lt
  obtain ⟨xC2, yC2⟩ := kC.facts
  have zC2 := kC.lt
  have KC2 := Lib.hid kC
  have kS := ((KS1.out).alloc _).below hb2 ((KS1.out).alloc _).lt
  obtain ⟨xS2, yS2⟩ := kS.facts
  have zS2 := kS.lt
  have KS2 := Lib.hid kS
  have kE := ((KE1.out).alloc _).below hb2 ((KE1.out).alloc _).lt
  obtain ⟨xE2, yE2⟩ := kE.facts
  have zE2 := kE.lt
  have KE2 := Lib.hid kE
  have HB2 := Lib.hid (((HB1.out).alloc (HB1.out).size _).trans (hb2.mono ((HB1.out).alloc (HB1.out).size _).size))
  clear hb2 kC kS kE
  go_wp2_with fail
  go_ret
  exact ⟨rfl, HB2.out⟩
set_option maxRecDepth 100000 in
set_option maxHeartbeats 8000000 in
theorem back_A_none (cv sv : Value) (c : List Kd) (l : List Pa) (day : Int) (part kind into slot key value : ByteArray) (ukl ukh ucl uch ull ulh : Int) (name : ByteArray) (day0 : Int) (w : World) (hcat : Cat w cv c) (hsta : Sta w sv l) (hl : l.length ≤ maxLen) (hps : ∀ p ∈ l, p.wide) (hev : Ev.short ⟨2, day, part, kind, into, slot, key, value, ukl, ukh, ucl, uch, ull, ulh⟩) (hn0 : name.size ≤ big) (hfew : fewB c l [⟨2, day, part, kind, into, slot, key, value, ukl, ukh, ucl, uch, ull, ulh⟩] = true) (h100 : (name.size : Int) ≤ 100) (hd0 : 0 ≤ day0) (hd1 : day0 ≤ 40000) (t : List Pa) (hr : applyL c l ⟨2, day, part, kind, into, slot, key, value, ukl, ukh, ucl, uch, ull, ulh⟩ = (t, 0)) (hpf : pfind l name = none) :
    Calls Tryz.prog 6 #[.agg #[cv], .agg #[sv], .agg #[.int .i64 2, .int .i64 day, .string part, .string kind, .string into, .string slot, .string key, .string value, .int .i64 ukl, .int .i64 ukh, .int .i64 ucl, .int .i64 uch, .int .i64 ull, .int .i64 ulh], .string name, .int .i64 day0] w fun e w' => e = .returned (.bool true) ∧ Below w.heap.size w w' := by
  obtain ⟨A', cc, rfl, _⟩ := Rd.form hcat
  obtain ⟨A, cs, rfl, hn⟩ := Rd.form hsta
  have HST := Lib.hid hsta
  have HEV := Lib.hid hev
  have HFW := Lib.hid (fun W (h : Below w.heap.size w W) {g : Nat} (hv : Sl W (.slice (some ⟨g, 0, none⟩) 1 1) 1 14 (evF [⟨2, day, part, kind, into, slot, key, value, ukl, ukh, ucl, uch, ull, ulh⟩])) => few_any W (.slice A' c.length cc) (.slice A l.length cs) (.slice (some ⟨g, 0, none⟩) 1 1) c l [⟨2, day, part, kind, into, slot, key, value, ukl, ukh, ucl, uch, ull, ulh⟩] W (Below.refl _ _) (hcat.below h) (hsta.below h) hv hl hps (by simp [maxLen]))
  have HAP := Lib.hid (fun (h65 : c.length ≤ 65 ∧ ∀ k ∈ c, k.short) W0 (h0 : Below w.heap.size w W0) sv' l' (hs' : Sta W0 sv' l') (hl' : l'.length ≤ 20000) (hsh' : ∀ p ∈ l', p.short) ev t W (hr : applyL c l' ev = (t, 0)) (h : Below W0.heap.size W0 W) hev => apply_ok W0 (.slice A' c.length cc) sv' c l' ev t W hr h (hcat.below h0) (by omega) h65.2 hs' (by omega) hsh' hev)
  have HAN := Lib.hid (fun (h65 : c.length ≤ 65 ∧ ∀ k ∈ c, k.short) (h20 : l.length ≤ 20 ∧ ∀ p ∈ l, p.short) ev W (hr : (applyL c l ev).2 ≠ 0) (h : Below w.heap.size w W) hev => apply_no w (.slice A' c.length cc) (.slice A l.length cs) c l ev W hr h hcat (by omega) h65.2 hsta (by omega) h20.2 hev)
  have HVL := Lib.hid (fun (h65 : c.length ≤ 65 ∧ ∀ k ∈ c, k.short) (h20 : l.length ≤ 20 ∧ ∀ p ∈ l, p.short) W (h : Below w.heap.size w W) => fvalid_any w (.slice A' c.length cc) (.slice A l.length cs) c l W h hcat (by omega) h65.2 hsta (by omega) h20.2)
  have HFD := Lib.hid (fun (h20 : l.length ≤ 20) W (h : Below w.heap.size w W) => fpart_any w (.slice A l.length cs) l name W h hsta (by omega))
  have k1 := ((Has.new w 24 #[.slice A' c.length cc]).alloc (.cells #[.slice A l.length cs] 27)).alloc (.cells #[.int .i64 2, .int .i64 day, .string part, .string kind, .string into, .string slot, .string key, .string value, .int .i64 ukl, .int .i64 ukh, .int .i64 ucl, .int .i64 uch, .int .i64 ull, .int .i64 ulh] 33)
  have k2 := (Has.new (w.alloc (.cells #[.slice A' c.length cc] 24)) 27 #[.slice A l.length cs]).alloc (.cells #[.int .i64 2, .int .i64 day, .string part, .string kind, .string into, .string slot, .string key, .string value, .int .i64 ukl, .int .i64 ukh, .int .i64 ucl, .int .i64 uch, .int .i64 ull, .int .i64 ulh] 33)
  have k3 := Has.new ((w.alloc (.cells #[.slice A' c.length cc] 24)).alloc (.cells #[.slice A l.length cs] 27)) 33 #[.int .i64 2, .int .i64 day, .string part, .string kind, .string into, .string slot, .string key, .string value, .int .i64 ukl, .int .i64 ukh, .int .i64 ucl, .int .i64 uch, .int .i64 ull, .int .i64 ulh]
  simp only [World.size_alloc] at k2 k3
  have KC0 := Lib.hid k1
  have KS0 := Lib.hid k2
  have KE0 := Lib.hid k3
  have HB0 := Lib.hid ((((Below.refl w.heap.size w).alloc (Nat.le_refl _) (.cells #[.slice A' c.length cc] 24)).alloc (by simp) (.cells #[.slice A l.length cs] 27)).alloc (by simp; omega) (.cells #[.int .i64 2, .int .i64 day, .string part, .string kind, .string into, .string slot, .string key, .string value, .int .i64 ukl, .int .i64 ukh, .int .i64 ucl, .int .i64 uch, .int .i64 ull, .int .i64 ulh] 33))
  show Calls Tryz.prog 6 #[.agg #[.slice A' c.length cc], .agg #[.slice A l.length cs], .agg #[.int .i64 2, .int .i64 day, .string part, .string kind, .string into, .string slot, .string key, .string value, .int .i64 ukl, .int .i64 ukh, .int .i64 ucl, .int .i64 uch, .int .i64 ull, .int .i64 ulh], .string name, .int .i64 day0] w _
  clear hcat hsta hps k1 k2 k3
  obtain ⟨h65, h20⟩ := fewB_take hfew
  have HVL := Lib.hid (HVL.out h65 h20)
  have HAP := Lib.hid (HAP.out h65)
  have HAN := Lib.hid (HAN.out h65 h20)
  have HFD := Lib.hid (HFD.out h20.1)
  have HL := Lib.hid (show l.length ≤ 20000 by omega)
  have HL6 := Lib.hid (show l.length ≤ 1000000 by omega)
  have HSH := Lib.hid h20.2
  have HPR := Lib.hid (fun p (hp : p ∈ l) => (h20.2 p hp).2.2.2.2.1)
  have HFEW := Lib.hid hfew
  clear hfew h65 h20
  unfold big at hn0
  have hsn : (removeE day0 name).short := by unfold Ev.short; dsimp only [removeE]; unfold maxLen; exact ⟨by omega, by decide, by decide, by decide, by decide, by decide⟩
  have HSN := Lib.hid hsn
  have HSR := Lib.hid (show (removeE day0 part).short from ⟨HEV.out.1, eS_max, eS_max, eS_max, eS_max, eS_max⟩)
  clear hsn
  have HTL := Lib.hid (apply_short HSH.out HEV.out hr)
  have HOK := Lib.hid (fun W (h : Below w.heap.size w W) => HAP.out w (Below.refl _ _) (.slice A l.length cs) l HST.out HL.out HSH.out _ t W hr h HEV.out)
  have HBK := Lib.hid (back_remove hr rfl hd0 hd1)
  have HV := Lib.hid (apply_iff.1 hr).1
  clear hr
  rw [hpf] at HFD
  simp only [Option.getD_none, Option.isSome_none, noPa, List.length_nil] at HFD
  clear hpf
  go_enter Tryz.func6, Tryz.ntmps6
  go_wp2_with fail
  refine (head_any _).mono ?_
  rintro e w1 ⟨rfl, hb1⟩
  have kC := (KC0.out).below hb1 (KC0.out).lt
  obtain ⟨xC1, yC1⟩ := kC.facts
  have zC1 := kC.lt
  have KC1 := Lib.hid kC
  have kS := (KS0.out).below hb1 (KS0.out).lt
  obtain ⟨xS1, yS1⟩ := kS.facts
  have zS1 := kS.lt
  have KS1 := Lib.hid kS
  have kE := (KE0.out).below hb1 (KE0.out).lt
  obtain ⟨xE1, yE1⟩ := kE.facts
  have zE1 := kE.lt
  have KE1 := Lib.hid kE
  have HB1 := Lib.hid ((HB0.out).trans (hb1.mono (HB0.out).size))
  clear hb1 kC kS kE
  go_wp2_with fail
  refine (HFW.out _ ((HB1.out).alloc (HB1.out).size _) (ev_sl (e := ⟨2, day, part, kind, into, slot, key, value, ukl, ukh, ucl, uch, ull, ulh⟩) (Has.new w1 33 #[.int .i64 2, .int .i64 day, .string part, .string kind, .string into, .string slot, .string key, .string value, .int .i64 ukl, .int .i64 ukh, .int .i64 ucl, .int .i64 uch, .int .i64 ull, .int .i64 ulh]))).mono ?_
  rintro e w2 ⟨rfl, hb2⟩
  rw [HFEW.out]
  clear xC1 yC1 zC1 xS1 yS1 zS1 xE1 yE1 zE1
  have kC := ((KC1.out).alloc _).below hb2 ((KC1.out).alloc _).lt
  obtain ⟨xC2, yC2⟩ := kC.facts
  have zC2 := kC.lt
  have KC2 := Lib.hid kC
  have kS := ((KS1.out).alloc _).below hb2 ((KS1.out).alloc _).lt
  obtain ⟨xS2, yS2⟩ := kS.facts
  have zS2 := kS.lt
  have KS2 := Lib.hid kS
  have kE := ((KE1.out).alloc _).below hb2 ((KE1.out).alloc _).lt
  obtain ⟨xE2, yE2⟩ := kE.facts
  have zE2 := kE.lt
  have KE2 := Lib.hid kE
  have HB2 := Lib.hid (((HB1.out).alloc (HB1.out).size _).trans (hb2.mono ((HB1.out).alloc (HB1.out).size _).size))
  clear hb2 kC kS kE
  go_wp2_with fail
  refine (HOK.out _ (HB2.out)).mono ?_
  rintro e w3 ⟨A3, c3, rfl, hst3, hb3⟩
  have HST3 := Lib.hid hst3
  clear hst3
  clear xC2 yC2 zC2 xS2 yS2 zS2 xE2 yE2 zE2
  have kC := (KC2.out).below hb3 (KC2.out).lt
  obtain ⟨xC3, yC3⟩ := kC.facts
  have zC3 := kC.lt
  have KC3 := Lib.hid kC
  have kS := (KS2.out).below hb3 (KS2.out).lt
  obtain ⟨xS3, yS3⟩ := kS.facts
  have zS3 := kS.lt
  have KS3 := Lib.hid kS
  have kE := (KE2.out).below hb3 (KE2.out).lt
  obtain ⟨xE3, yE3⟩ := kE.facts
  have zE3 := kE.lt
  have KE3 := Lib.hid kE
  have HB3 := Lib.hid ((HB2.out).trans (hb3.mono (HB2.out).size))
  clear hb3 kC kS kE
  go_wp2_with fail
  refine (HAP.out w3 HB3.out (.slice A3 t.length c3) t HST3.out HTL.out.1 HTL.out.2 (removeE day0 part) l _ HBK.out ((Below.refl w3.heap.size w3).alloc (Nat.le_refl _) _) HSR.out).mono ?_
  rintro e w4 ⟨A4, c4, rfl, hst4, hb4⟩
  have HST4 := Lib.hid hst4
  clear hst4
  clear xC3 yC3 zC3 xS3 yS3 zS3 xE3 yE3 zE3
  have kC := ((KC3.out).alloc _).below hb4 ((KC3.out).alloc _).lt
  obtain ⟨xC4, yC4⟩ := kC.facts
  have zC4 := kC.lt
  have KC4 := Lib.hid kC
  have kS := ((KS3.out).alloc _).below hb4 ((KS3.out).alloc _).lt
  obtain ⟨xS4, yS4⟩ := kS.facts
  have zS4 := kS.lt
  have KS4 := Lib.hid kS
  have kE := ((KE3.out).alloc _).below hb4 ((KE3.out).alloc _).lt
  obtain ⟨xE4, yE4⟩ := kE.facts
  have zE4 := kE.lt
  have KE4 := Lib.hid kE
  have kT := (Has.new (w3) 27 #[.slice A3 t.length c3]).below hb4 (Has.new (w3) 27 #[.slice A3 t.length c3]).lt
  obtain ⟨xT4, yT4⟩ := kT.facts
  have zT4 := kT.lt
  have KT4 := Lib.hid kT
  have HB4 := Lib.hid (((HB3.out).alloc (HB3.out).size _).trans (hb4.mono ((HB3.out).alloc (HB3.out).size _).size))
  clear hb4 kC kS kE kT
  go_wp2_with fail
  refine (same10_any w4 (.slice A4 l.length c4) (.slice A l.length cs) l l _ ((Below.refl w4.heap.size w4).alloc (Nat.le_refl _) _) HST4.out (HST.out.below HB4.out) HL6.out HL6.out HPR.out HPR.out).mono ?_
  rintro e w5 ⟨rfl, hb5⟩
  rw [decide_eq_true rfl]
  clear xC4 yC4 zC4 xS4 yS4 zS4 xE4 yE4 zE4 xT4 yT4 zT4
  have kC := ((KC4.out).alloc _).below hb5 ((KC4.out).alloc _).lt
  obtain ⟨xC5, yC5⟩ := kC.facts
  have zC5 := kC.lt
  have KC5 := Lib.hid kC
  have kS := ((KS4.out).alloc _).below hb5 ((KS4.out).alloc _).lt
  obtain ⟨xS5, yS5⟩ := kS.facts
  have zS5 := kS.lt
  have KS5 := Lib.hid kS
  have kE := ((KE4.out).alloc _).below hb5 ((KE4.out).alloc _).lt
  obtain ⟨xE5, yE5⟩ := kE.facts
  have zE5 := kE.lt
  have KE5 := Lib.hid kE
  have HB5 := Lib.hid (((HB4.out).alloc (HB4.out).size _).trans (hb5.mono ((HB4.out).alloc (HB4.out).size _).size))
  clear hb5 kC kS kE
  go_wp2_with fail
  refine (HFD.out _ (HB5.out)).mono ?_
  rintro e w6 ⟨A2, m2, rfl, _, hb6⟩
  clear xC5 yC5 zC5 xS5 yS5 zS5 xE5 yE5 zE5
  have kC := (KC5.out).below hb6 (KC5.out).lt
  obtain ⟨xC6, yC6⟩ := kC.facts
  have zC6 := kC.lt
  have KC6 := Lib.hid kC
  have kS := (KS5.out).below hb6 (KS5.out).lt
  obtain ⟨xS6, yS6⟩ := kS.facts
  have zS6 := kS.lt
  have KS6 := Lib.hid kS
  have kE := (KE5.out).below hb6 (KE5.out).lt
  obtain ⟨xE6, yE6⟩ := kE.facts
  have zE6 := kE.lt
  have KE6 := Lib.hid kE
  have HB6 := Lib.hid ((HB5.out).trans (hb6.mono (HB5.out).size))
  clear hb6 kC kS kE
  go_wp2_with fail
  go_ret
  exact ⟨rfl, (HB6.out).alloc (HB6.out).size _⟩
set_option maxRecDepth 100000 in
set_option maxHeartbeats 8000000 in
theorem back_A_empty (cv sv : Value) (c : List Kd) (l : List Pa) (day : Int) (part kind into slot key value : ByteArray) (ukl ukh ucl uch ull ulh : Int) (name : ByteArray) (day0 : Int) (w : World) (hcat : Cat w cv c) (hsta : Sta w sv l) (hl : l.length ≤ maxLen) (hps : ∀ p ∈ l, p.wide) (hev : Ev.short ⟨2, day, part, kind, into, slot, key, value, ukl, ukh, ucl, uch, ull, ulh⟩) (hn0 : name.size ≤ big) (hfew : fewB c l [⟨2, day, part, kind, into, slot, key, value, ukl, ukh, ucl, uch, ull, ulh⟩] = true) (h100 : (name.size : Int) ≤ 100) (hd0 : 0 ≤ day0) (hd1 : day0 ≤ 40000) (t : List Pa) (hr : applyL c l ⟨2, day, part, kind, into, slot, key, value, ukl, ukh, ucl, uch, ull, ulh⟩ = (t, 0)) (pname pkind pinto pslot : ByteArray) (pmade psince : Int) (pgone : Bool) (pprops : List Pr) (pkl pkh pcl pch pdl pdh : Int) (hpf : pfind l name = some ⟨pname, pkind, pinto, pslot, pmade, psince, pgone, pprops, pkl, pkh, pcl, pch, pdl, pdh⟩) (hi : pinto.toList.isEmpty = true) :
    Calls Tryz.prog 6 #[.agg #[cv], .agg #[sv], .agg #[.int .i64 2, .int .i64 day, .string part, .string kind, .string into, .string slot, .string key, .string value, .int .i64 ukl, .int .i64 ukh, .int .i64 ucl, .int .i64 uch, .int .i64 ull, .int .i64 ulh], .string name, .int .i64 day0] w fun e w' => e = .returned (.bool true) ∧ Below w.heap.size w w' := by
  obtain ⟨A', cc, rfl, _⟩ := Rd.form hcat
  obtain ⟨A, cs, rfl, hn⟩ := Rd.form hsta
  have HST := Lib.hid hsta
  have HEV := Lib.hid hev
  have HFW := Lib.hid (fun W (h : Below w.heap.size w W) {g : Nat} (hv : Sl W (.slice (some ⟨g, 0, none⟩) 1 1) 1 14 (evF [⟨2, day, part, kind, into, slot, key, value, ukl, ukh, ucl, uch, ull, ulh⟩])) => few_any W (.slice A' c.length cc) (.slice A l.length cs) (.slice (some ⟨g, 0, none⟩) 1 1) c l [⟨2, day, part, kind, into, slot, key, value, ukl, ukh, ucl, uch, ull, ulh⟩] W (Below.refl _ _) (hcat.below h) (hsta.below h) hv hl hps (by simp [maxLen]))
  have HAP := Lib.hid (fun (h65 : c.length ≤ 65 ∧ ∀ k ∈ c, k.short) W0 (h0 : Below w.heap.size w W0) sv' l' (hs' : Sta W0 sv' l') (hl' : l'.length ≤ 20000) (hsh' : ∀ p ∈ l', p.short) ev t W (hr : applyL c l' ev = (t, 0)) (h : Below W0.heap.size W0 W) hev => apply_ok W0 (.slice A' c.length cc) sv' c l' ev t W hr h (hcat.below h0) (by omega) h65.2 hs' (by omega) hsh' hev)
  have HAN := Lib.hid (fun (h65 : c.length ≤ 65 ∧ ∀ k ∈ c, k.short) (h20 : l.length ≤ 20 ∧ ∀ p ∈ l, p.short) ev W (hr : (applyL c l ev).2 ≠ 0) (h : Below w.heap.size w W) hev => apply_no w (.slice A' c.length cc) (.slice A l.length cs) c l ev W hr h hcat (by omega) h65.2 hsta (by omega) h20.2 hev)
  have HVL := Lib.hid (fun (h65 : c.length ≤ 65 ∧ ∀ k ∈ c, k.short) (h20 : l.length ≤ 20 ∧ ∀ p ∈ l, p.short) W (h : Below w.heap.size w W) => fvalid_any w (.slice A' c.length cc) (.slice A l.length cs) c l W h hcat (by omega) h65.2 hsta (by omega) h20.2)
  have HFD := Lib.hid (fun (h20 : l.length ≤ 20) W (h : Below w.heap.size w W) => fpart_any w (.slice A l.length cs) l name W h hsta (by omega))
  have k1 := ((Has.new w 24 #[.slice A' c.length cc]).alloc (.cells #[.slice A l.length cs] 27)).alloc (.cells #[.int .i64 2, .int .i64 day, .string part, .string kind, .string into, .string slot, .string key, .string value, .int .i64 ukl, .int .i64 ukh, .int .i64 ucl, .int .i64 uch, .int .i64 ull, .int .i64 ulh] 33)
  have k2 := (Has.new (w.alloc (.cells #[.slice A' c.length cc] 24)) 27 #[.slice A l.length cs]).alloc (.cells #[.int .i64 2, .int .i64 day, .string part, .string kind, .string into, .string slot, .string key, .string value, .int .i64 ukl, .int .i64 ukh, .int .i64 ucl, .int .i64 uch, .int .i64 ull, .int .i64 ulh] 33)
  have k3 := Has.new ((w.alloc (.cells #[.slice A' c.length cc] 24)).alloc (.cells #[.slice A l.length cs] 27)) 33 #[.int .i64 2, .int .i64 day, .string part, .string kind, .string into, .string slot, .string key, .string value, .int .i64 ukl, .int .i64 ukh, .int .i64 ucl, .int .i64 uch, .int .i64 ull, .int .i64 ulh]
  simp only [World.size_alloc] at k2 k3
  have KC0 := Lib.hid k1
  have KS0 := Lib.hid k2
  have KE0 := Lib.hid k3
  have HB0 := Lib.hid ((((Below.refl w.heap.size w).alloc (Nat.le_refl _) (.cells #[.slice A' c.length cc] 24)).alloc (by simp) (.cells #[.slice A l.length cs] 27)).alloc (by simp; omega) (.cells #[.int .i64 2, .int .i64 day, .string part, .string kind, .string into, .string slot, .string key, .string value, .int .i64 ukl, .int .i64 ukh, .int .i64 ucl, .int .i64 uch, .int .i64 ull, .int .i64 ulh] 33))
  show Calls Tryz.prog 6 #[.agg #[.slice A' c.length cc], .agg #[.slice A l.length cs], .agg #[.int .i64 2, .int .i64 day, .string part, .string kind, .string into, .string slot, .string key, .string value, .int .i64 ukl, .int .i64 ukh, .int .i64 ucl, .int .i64 uch, .int .i64 ull, .int .i64 ulh], .string name, .int .i64 day0] w _
  clear hcat hsta hps k1 k2 k3
  obtain ⟨h65, h20⟩ := fewB_take hfew
  have HVL := Lib.hid (HVL.out h65 h20)
  have HAP := Lib.hid (HAP.out h65)
  have HAN := Lib.hid (HAN.out h65 h20)
  have HFD := Lib.hid (HFD.out h20.1)
  have HL := Lib.hid (show l.length ≤ 20000 by omega)
  have HL6 := Lib.hid (show l.length ≤ 1000000 by omega)
  have HSH := Lib.hid h20.2
  have HPR := Lib.hid (fun p (hp : p ∈ l) => (h20.2 p hp).2.2.2.2.1)
  have HFEW := Lib.hid hfew
  clear hfew h65 h20
  unfold big at hn0
  have hsn : (removeE day0 name).short := by unfold Ev.short; dsimp only [removeE]; unfold maxLen; exact ⟨by omega, by decide, by decide, by decide, by decide, by decide⟩
  have HSN := Lib.hid hsn
  have HSR := Lib.hid (show (removeE day0 part).short from ⟨HEV.out.1, eS_max, eS_max, eS_max, eS_max, eS_max⟩)
  clear hsn
  have HTL := Lib.hid (apply_short HSH.out HEV.out hr)
  have HOK := Lib.hid (fun W (h : Below w.heap.size w W) => HAP.out w (Below.refl _ _) (.slice A l.length cs) l HST.out HL.out HSH.out _ t W hr h HEV.out)
  have HBK := Lib.hid (back_remove hr rfl hd0 hd1)
  have HV := Lib.hid (apply_iff.1 hr).1
  clear hr
  obtain ⟨hpm, hpn⟩ := pfind_mem hpf
  rw [hpf] at HFD
  have HPM := Lib.hid hpm
  have HPN := Lib.hid hpn
  have HPSH := Lib.hid (HSH.out _ hpm)
  clear hpf hpm hpn
  simp only [Option.getD_some, Option.isSome_some] at HFD
  have hie := emp_iff pinto
  clear hie
  go_enter Tryz.func6, Tryz.ntmps6
  go_wp2_with fail
  refine (head_any _).mono ?_
  rintro e w1 ⟨rfl, hb1⟩
  have kC := (KC0.out).below hb1 (KC0.out).lt
  obtain ⟨xC1, yC1⟩ := kC.facts
  have zC1 := kC.lt
  have KC1 := Lib.hid kC
  have kS := (KS0.out).below hb1 (KS0.out).lt
  obtain ⟨xS1, yS1⟩ := kS.facts
  have zS1 := kS.lt
  have KS1 := Lib.hid kS
  have kE := (KE0.out).below hb1 (KE0.out).lt
  obtain ⟨xE1, yE1⟩ := kE.facts
  have zE1 := kE.lt
  have KE1 := Lib.hid kE
  have HB1 := Lib.hid ((HB0.out).trans (hb1.mono (HB0.out).size))
  clear hb1 kC kS kE
  go_wp2_with fail
  refine (HFW.out _ ((HB1.out).alloc (HB1.out).size _) (ev_sl (e := ⟨2, day, part, kind, into, slot, key, value, ukl, ukh, ucl, uch, ull, ulh⟩) (Has.new w1 33 #[.int .i64 2, .int .i64 day, .string part, .string kind, .string into, .string slot, .string key, .string value, .int .i64 ukl, .int .i64 ukh, .int .i64 ucl, .int .i64 uch, .int .i64 ull, .int .i64 ulh]))).mono ?_
  rintro e w2 ⟨rfl, hb2⟩
  rw [HFEW.out]
  clear xC1 yC1 zC1 xS1 yS1 zS1 xE1 yE1 zE1
  have kC := ((KC1.out).alloc _).below hb2 ((KC1.out).alloc _).lt
  obtain ⟨xC2, yC2⟩ := kC.facts
  have zC2 := kC.lt
  have KC2 := Lib.hid kC
  have kS := ((KS1.out).alloc _).below hb2 ((KS1.out).alloc _).lt
  obtain ⟨xS2, yS2⟩ := kS.facts
  have zS2 := kS.lt
  have KS2 := Lib.hid kS
  have kE := ((KE1.out).alloc _).below hb2 ((KE1.out).alloc _).lt
  obtain ⟨xE2, yE2⟩ := kE.facts
  have zE2 := kE.lt
  have KE2 := Lib.hid kE
  have HB2 := Lib.hid (((HB1.out).alloc (HB1.out).size _).trans (hb2.mono ((HB1.out).alloc (HB1.out).size _).size))
  clear hb2 kC kS kE
  go_wp2_with fail
  refine (HOK.out _ (HB2.out)).mono ?_
  rintro e w3 ⟨A3, c3, rfl, hst3, hb3⟩
  have HST3 := Lib.hid hst3
  clear hst3
  clear xC2 yC2 zC2 xS2 yS2 zS2 xE2 yE2 zE2
  have kC := (KC2.out).below hb3 (KC2.out).lt
  obtain ⟨xC3, yC3⟩ := kC.facts
  have zC3 := kC.lt
  have KC3 := Lib.hid kC
  have kS := (KS2.out).below hb3 (KS2.out).lt
  obtain ⟨xS3, yS3⟩ := kS.facts
  have zS3 := kS.lt
  have KS3 := Lib.hid kS
  have kE := (KE2.out).below hb3 (KE2.out).lt
  obtain ⟨xE3, yE3⟩ := kE.facts
  have zE3 := kE.lt
  have KE3 := Lib.hid kE
  have HB3 := Lib.hid ((HB2.out).trans (hb3.mono (HB2.out).size))
  clear hb3 kC kS kE
  go_wp2_with fail
  refine (HAP.out w3 HB3.out (.slice A3 t.length c3) t HST3.out HTL.out.1 HTL.out.2 (removeE day0 part) l _ HBK.out ((Below.refl w3.heap.size w3).alloc (Nat.le_refl _) _) HSR.out).mono ?_
  rintro e w4 ⟨A4, c4, rfl, hst4, hb4⟩
  have HST4 := Lib.hid hst4
  clear hst4
  clear xC3 yC3 zC3 xS3 yS3 zS3 xE3 yE3 zE3
  have kC := ((KC3.out).alloc _).below hb4 ((KC3.out).alloc _).lt
  obtain ⟨xC4, yC4⟩ := kC.facts
  have zC4 := kC.lt
  have KC4 := Lib.hid kC
  have kS := ((KS3.out).alloc _).below hb4 ((KS3.out).alloc _).lt
  obtain ⟨xS4, yS4⟩ := kS.facts
  have zS4 := kS.lt
  have KS4 := Lib.hid kS
  have kE := ((KE3.out).alloc _).below hb4 ((KE3.out).alloc _).lt
  obtain ⟨xE4, yE4⟩ := kE.facts
  have zE4 := kE.lt
  have KE4 := Lib.hid kE
  have kT := (Has.new (w3) 27 #[.slice A3 t.length c3]).below hb4 (Has.new (w3) 27 #[.slice A3 t.length c3]).lt
  obtain ⟨xT4, yT4⟩ := kT.facts
  have zT4 := kT.lt
  have KT4 := Lib.hid kT
  have HB4 := Lib.hid (((HB3.out).alloc (HB3.out).size _).trans (hb4.mono ((HB3.out).alloc (HB3.out).size _).size))
  clear hb4 kC kS kE kT
  go_wp2_with fail
  refine (same10_any w4 (.slice A4 l.length c4) (.slice A l.length cs) l l _ ((Below.refl w4.heap.size w4).alloc (Nat.le_refl _) _) HST4.out (HST.out.below HB4.out) HL6.out HL6.out HPR.out HPR.out).mono ?_
  rintro e w5 ⟨rfl, hb5⟩
  rw [decide_eq_true rfl]
  clear xC4 yC4 zC4 xS4 yS4 zS4 xE4 yE4 zE4 xT4 yT4 zT4
  have kC := ((KC4.out).alloc _).below hb5 ((KC4.out).alloc _).lt
  obtain ⟨xC5, yC5⟩ := kC.facts
  have zC5 := kC.lt
  have KC5 := Lib.hid kC
  have kS := ((KS4.out).alloc _).below hb5 ((KS4.out).alloc _).lt
  obtain ⟨xS5, yS5⟩ := kS.facts
  have zS5 := kS.lt
  have KS5 := Lib.hid kS
  have kE := ((KE4.out).alloc _).below hb5 ((KE4.out).alloc _).lt
  obtain ⟨xE5, yE5⟩ := kE.facts
  have zE5 := kE.lt
  have KE5 := Lib.hid kE
  have HB5 := Lib.hid (((HB4.out).alloc (HB4.out).size _).trans (hb5.mono ((HB4.out).alloc (HB4.out).size _).size))
  clear hb5 kC kS kE
  go_wp2_with fail
  refine (HFD.out _ (HB5.out)).mono ?_
  rintro e w6 ⟨A2, m2, rfl, _, hb6⟩
  clear xC5 yC5 zC5 xS5 yS5 zS5 xE5 yE5 zE5
  have kC := (KC5.out).below hb6 (KC5.out).lt
  obtain ⟨xC6, yC6⟩ := kC.facts
  have zC6 := kC.lt
  have KC6 := Lib.hid kC
  have kS := (KS5.out).below hb6 (KS5.out).lt
  obtain ⟨xS6, yS6⟩ := kS.facts
  have zS6 := kS.lt
  have KS6 := Lib.hid kS
  have kE := (KE5.out).below hb6 (KE5.out).lt
  obtain ⟨xE6, yE6⟩ := kE.facts
  have zE6 := kE.lt
  have KE6 := Lib.hid kE
  have HB6 := Lib.hid ((HB5.out).trans (hb6.mono (HB5.out).size))
  clear hb6 kC kS kE
  go_wp2_with fail
  go_ret
  exact ⟨rfl, (HB6.out).alloc (HB6.out).size _⟩
set_option maxRecDepth 100000 in
set_option maxHeartbeats 8000000 in
theorem back_A_full (cv sv : Value) (c : List Kd) (l : List Pa) (day : Int) (part kind into slot key value : ByteArray) (ukl ukh ucl uch ull ulh : Int) (name : ByteArray) (day0 : Int) (w : World) (hcat : Cat w cv c) (hsta : Sta w sv l) (hl : l.length ≤ maxLen) (hps : ∀ p ∈ l, p.wide) (hev : Ev.short ⟨2, day, part, kind, into, slot, key, value, ukl, ukh, ucl, uch, ull, ulh⟩) (hn0 : name.size ≤ big) (hfew : fewB c l [⟨2, day, part, kind, into, slot, key, value, ukl, ukh, ucl, uch, ull, ulh⟩] = true) (h100 : (name.size : Int) ≤ 100) (hd0 : 0 ≤ day0) (hd1 : day0 ≤ 40000) (t : List Pa) (hr : applyL c l ⟨2, day, part, kind, into, slot, key, value, ukl, ukh, ucl, uch, ull, ulh⟩ = (t, 0)) (pname pkind pinto pslot : ByteArray) (pmade psince : Int) (pgone : Bool) (pprops : List Pr) (pkl pkh pcl pch pdl pdh : Int) (hpf : pfind l name = some ⟨pname, pkind, pinto, pslot, pmade, psince, pgone, pprops, pkl, pkh, pcl, pch, pdl, pdh⟩) (hi : pinto.toList.isEmpty = false) :
    Calls Tryz.prog 6 #[.agg #[cv], .agg #[sv], .agg #[.int .i64 2, .int .i64 day, .string part, .string kind, .string into, .string slot, .string key, .string value, .int .i64 ukl, .int .i64 ukh, .int .i64 ucl, .int .i64 uch, .int .i64 ull, .int .i64 ulh], .string name, .int .i64 day0] w fun e w' => e = .returned (.bool true) ∧ Below w.heap.size w w' := by
  obtain ⟨A', cc, rfl, _⟩ := Rd.form hcat
  obtain ⟨A, cs, rfl, hn⟩ := Rd.form hsta
  have HST := Lib.hid hsta
  have HEV := Lib.hid hev
  have HFW := Lib.hid (fun W (h : Below w.heap.size w W) {g : Nat} (hv : Sl W (.slice (some ⟨g, 0, none⟩) 1 1) 1 14 (evF [⟨2, day, part, kind, into, slot, key, value, ukl, ukh, ucl, uch, ull, ulh⟩])) => few_any W (.slice A' c.length cc) (.slice A l.length cs) (.slice (some ⟨g, 0, none⟩) 1 1) c l [⟨2, day, part, kind, into, slot, key, value, ukl, ukh, ucl, uch, ull, ulh⟩] W (Below.refl _ _) (hcat.below h) (hsta.below h) hv hl hps (by simp [maxLen]))
  have HAP := Lib.hid (fun (h65 : c.length ≤ 65 ∧ ∀ k ∈ c, k.short) W0 (h0 : Below w.heap.size w W0) sv' l' (hs' : Sta W0 sv' l') (hl' : l'.length ≤ 20000) (hsh' : ∀ p ∈ l', p.short) ev t W (hr : applyL c l' ev = (t, 0)) (h : Below W0.heap.size W0 W) hev => apply_ok W0 (.slice A' c.length cc) sv' c l' ev t W hr h (hcat.below h0) (by omega) h65.2 hs' (by omega) hsh' hev)
  have HAN := Lib.hid (fun (h65 : c.length ≤ 65 ∧ ∀ k ∈ c, k.short) (h20 : l.length ≤ 20 ∧ ∀ p ∈ l, p.short) ev W (hr : (applyL c l ev).2 ≠ 0) (h : Below w.heap.size w W) hev => apply_no w (.slice A' c.length cc) (.slice A l.length cs) c l ev W hr h hcat (by omega) h65.2 hsta (by omega) h20.2 hev)
  have HVL := Lib.hid (fun (h65 : c.length ≤ 65 ∧ ∀ k ∈ c, k.short) (h20 : l.length ≤ 20 ∧ ∀ p ∈ l, p.short) W (h : Below w.heap.size w W) => fvalid_any w (.slice A' c.length cc) (.slice A l.length cs) c l W h hcat (by omega) h65.2 hsta (by omega) h20.2)
  have HFD := Lib.hid (fun (h20 : l.length ≤ 20) W (h : Below w.heap.size w W) => fpart_any w (.slice A l.length cs) l name W h hsta (by omega))
  have k1 := ((Has.new w 24 #[.slice A' c.length cc]).alloc (.cells #[.slice A l.length cs] 27)).alloc (.cells #[.int .i64 2, .int .i64 day, .string part, .string kind, .string into, .string slot, .string key, .string value, .int .i64 ukl, .int .i64 ukh, .int .i64 ucl, .int .i64 uch, .int .i64 ull, .int .i64 ulh] 33)
  have k2 := (Has.new (w.alloc (.cells #[.slice A' c.length cc] 24)) 27 #[.slice A l.length cs]).alloc (.cells #[.int .i64 2, .int .i64 day, .string part, .string kind, .string into, .string slot, .string key, .string value, .int .i64 ukl, .int .i64 ukh, .int .i64 ucl, .int .i64 uch, .int .i64 ull, .int .i64 ulh] 33)
  have k3 := Has.new ((w.alloc (.cells #[.slice A' c.length cc] 24)).alloc (.cells #[.slice A l.length cs] 27)) 33 #[.int .i64 2, .int .i64 day, .string part, .string kind, .string into, .string slot, .string key, .string value, .int .i64 ukl, .int .i64 ukh, .int .i64 ucl, .int .i64 uch, .int .i64 ull, .int .i64 ulh]
  simp only [World.size_alloc] at k2 k3
  have KC0 := Lib.hid k1
  have KS0 := Lib.hid k2
  have KE0 := Lib.hid k3
  have HB0 := Lib.hid ((((Below.refl w.heap.size w).alloc (Nat.le_refl _) (.cells #[.slice A' c.length cc] 24)).alloc (by simp) (.cells #[.slice A l.length cs] 27)).alloc (by simp; omega) (.cells #[.int .i64 2, .int .i64 day, .string part, .string kind, .string into, .string slot, .string key, .string value, .int .i64 ukl, .int .i64 ukh, .int .i64 ucl, .int .i64 uch, .int .i64 ull, .int .i64 ulh] 33))
  show Calls Tryz.prog 6 #[.agg #[.slice A' c.length cc], .agg #[.slice A l.length cs], .agg #[.int .i64 2, .int .i64 day, .string part, .string kind, .string into, .string slot, .string key, .string value, .int .i64 ukl, .int .i64 ukh, .int .i64 ucl, .int .i64 uch, .int .i64 ull, .int .i64 ulh], .string name, .int .i64 day0] w _
  clear hcat hsta hps k1 k2 k3
  obtain ⟨h65, h20⟩ := fewB_take hfew
  have HVL := Lib.hid (HVL.out h65 h20)
  have HAP := Lib.hid (HAP.out h65)
  have HAN := Lib.hid (HAN.out h65 h20)
  have HFD := Lib.hid (HFD.out h20.1)
  have HL := Lib.hid (show l.length ≤ 20000 by omega)
  have HL6 := Lib.hid (show l.length ≤ 1000000 by omega)
  have HSH := Lib.hid h20.2
  have HPR := Lib.hid (fun p (hp : p ∈ l) => (h20.2 p hp).2.2.2.2.1)
  have HFEW := Lib.hid hfew
  clear hfew h65 h20
  unfold big at hn0
  have hsn : (removeE day0 name).short := by unfold Ev.short; dsimp only [removeE]; unfold maxLen; exact ⟨by omega, by decide, by decide, by decide, by decide, by decide⟩
  have HSN := Lib.hid hsn
  have HSR := Lib.hid (show (removeE day0 part).short from ⟨HEV.out.1, eS_max, eS_max, eS_max, eS_max, eS_max⟩)
  clear hsn
  have HTL := Lib.hid (apply_short HSH.out HEV.out hr)
  have HOK := Lib.hid (fun W (h : Below w.heap.size w W) => HAP.out w (Below.refl _ _) (.slice A l.length cs) l HST.out HL.out HSH.out _ t W hr h HEV.out)
  have HBK := Lib.hid (back_remove hr rfl hd0 hd1)
  have HV := Lib.hid (apply_iff.1 hr).1
  clear hr
  obtain ⟨hpm, hpn⟩ := pfind_mem hpf
  rw [hpf] at HFD
  have HPM := Lib.hid hpm
  have HPN := Lib.hid hpn
  have HPSH := Lib.hid (HSH.out _ hpm)
  clear hpf hpm hpn
  simp only [Option.getD_some, Option.isSome_some] at HFD
  have hie := emp_iff pinto
  have HNE2 := Lib.hid (show pinto ≠ eS from fun e => by rw [hi, decide_eq_true e] at hie; cases hie)
  clear hie
  obtain ⟨hr1, hr2⟩ := back_fit HV.out HPM.out HNE2.out hd0 hd1
  have ht2 := apply_short HSH.out (by rw [HPN.out]; exact HSN.out) hr1
  dsimp only at hr1 hr2 ht2
  have hpn2 : pname = name := HPN.out
  have HSF := Lib.hid (show (fitD day0 name pinto pslot).short from ⟨HSN.out.1, eS_max, HPSH.out.2.2.1, HPSH.out.2.2.2.1, eS_max, eS_max⟩)
  generalize putP l _ = t2 at hr1 hr2 ht2
  rw [hpn2] at hr1 hr2
  have HR1 := Lib.hid hr1
  have HR2 := Lib.hid hr2
  have HT2 := Lib.hid ht2
  clear hr1 hr2 ht2 hpn2
  go_enter Tryz.func6, Tryz.ntmps6
  go_wp2_with fail
  refine (head_any _).mono ?_
  rintro e w1 ⟨rfl, hb1⟩
  have kC := (KC0.out).below hb1 (KC0.out).lt
  obtain ⟨xC1, yC1⟩ := kC.facts
  have zC1 := kC.lt
  have KC1 := Lib.hid kC
  have kS := (KS0.out).below hb1 (KS0.out).lt
  obtain ⟨xS1, yS1⟩ := kS.facts
  have zS1 := kS.lt
  have KS1 := Lib.hid kS
  have kE := (KE0.out).below hb1 (KE0.out).lt
  obtain ⟨xE1, yE1⟩ := kE.facts
  have zE1 := kE.lt
  have KE1 := Lib.hid kE
  have HB1 := Lib.hid ((HB0.out).trans (hb1.mono (HB0.out).size))
  clear hb1 kC kS kE
  go_wp2_with fail
  refine (HFW.out _ ((HB1.out).alloc (HB1.out).size _) (ev_sl (e := ⟨2, day, part, kind, into, slot, key, value, ukl, ukh, ucl, uch, ull, ulh⟩) (Has.new w1 33 #[.int .i64 2, .int .i64 day, .string part, .string kind, .string into, .string slot, .string key, .string value, .int .i64 ukl, .int .i64 ukh, .int .i64 ucl, .int .i64 uch, .int .i64 ull, .int .i64 ulh]))).mono ?_
  rintro e w2 ⟨rfl, hb2⟩
  rw [HFEW.out]
  clear xC1 yC1 zC1 xS1 yS1 zS1 xE1 yE1 zE1
  have kC := ((KC1.out).alloc _).below hb2 ((KC1.out).alloc _).lt
  obtain ⟨xC2, yC2⟩ := kC.facts
  have zC2 := kC.lt
  have KC2 := Lib.hid kC
  have kS := ((KS1.out).alloc _).below hb2 ((KS1.out).alloc _).lt
  obtain ⟨xS2, yS2⟩ := kS.facts
  have zS2 := kS.lt
  have KS2 := Lib.hid kS
  have kE := ((KE1.out).alloc _).below hb2 ((KE1.out).alloc _).lt
  obtain ⟨xE2, yE2⟩ := kE.facts
  have zE2 := kE.lt
  have KE2 := Lib.hid kE
  have HB2 := Lib.hid (((HB1.out).alloc (HB1.out).size _).trans (hb2.mono ((HB1.out).alloc (HB1.out).size _).size))
  clear hb2 kC kS kE
  go_wp2_with fail
  refine (HOK.out _ (HB2.out)).mono ?_
  rintro e w3 ⟨A3, c3, rfl, hst3, hb3⟩
  have HST3 := Lib.hid hst3
  clear hst3
  clear xC2 yC2 zC2 xS2 yS2 zS2 xE2 yE2 zE2
  have kC := (KC2.out).below hb3 (KC2.out).lt
  obtain ⟨xC3, yC3⟩ := kC.facts
  have zC3 := kC.lt
  have KC3 := Lib.hid kC
  have kS := (KS2.out).below hb3 (KS2.out).lt
  obtain ⟨xS3, yS3⟩ := kS.facts
  have zS3 := kS.lt
  have KS3 := Lib.hid kS
  have kE := (KE2.out).below hb3 (KE2.out).lt
  obtain ⟨xE3, yE3⟩ := kE.facts
  have zE3 := kE.lt
  have KE3 := Lib.hid kE
  have HB3 := Lib.hid ((HB2.out).trans (hb3.mono (HB2.out).size))
  clear hb3 kC kS kE
  go_wp2_with fail
  refine (HAP.out w3 HB3.out (.slice A3 t.length c3) t HST3.out HTL.out.1 HTL.out.2 (removeE day0 part) l _ HBK.out ((Below.refl w3.heap.size w3).alloc (Nat.le_refl _) _) HSR.out).mono ?_
  rintro e w4 ⟨A4, c4, rfl, hst4, hb4⟩
  have HST4 := Lib.hid hst4
  clear hst4
  clear xC3 yC3 zC3 xS3 yS3 zS3 xE3 yE3 zE3
  have kC := ((KC3.out).alloc _).below hb4 ((KC3.out).alloc _).lt
  obtain ⟨xC4, yC4⟩ := kC.facts
  have zC4 := kC.lt
  have KC4 := Lib.hid kC
  have kS := ((KS3.out).alloc _).below hb4 ((KS3.out).alloc _).lt
  obtain ⟨xS4, yS4⟩ := kS.facts
  have zS4 := kS.lt
  have KS4 := Lib.hid kS
  have kE := ((KE3.out).alloc _).below hb4 ((KE3.out).alloc _).lt
  obtain ⟨xE4, yE4⟩ := kE.facts
  have zE4 := kE.lt
  have KE4 := Lib.hid kE
  have kT := (Has.new (w3) 27 #[.slice A3 t.length c3]).below hb4 (Has.new (w3) 27 #[.slice A3 t.length c3]).lt
  obtain ⟨xT4, yT4⟩ := kT.facts
  have zT4 := kT.lt
  have KT4 := Lib.hid kT
  have HB4 := Lib.hid (((HB3.out).alloc (HB3.out).size _).trans (hb4.mono ((HB3.out).alloc (HB3.out).size _).size))
  clear hb4 kC kS kE kT
  go_wp2_with fail
  refine (same10_any w4 (.slice A4 l.length c4) (.slice A l.length cs) l l _ ((Below.refl w4.heap.size w4).alloc (Nat.le_refl _) _) HST4.out (HST.out.below HB4.out) HL6.out HL6.out HPR.out HPR.out).mono ?_
  rintro e w5 ⟨rfl, hb5⟩
  rw [decide_eq_true rfl]
  clear xC4 yC4 zC4 xS4 yS4 zS4 xE4 yE4 zE4 xT4 yT4 zT4
  have kC := ((KC4.out).alloc _).below hb5 ((KC4.out).alloc _).lt
  obtain ⟨xC5, yC5⟩ := kC.facts
  have zC5 := kC.lt
  have KC5 := Lib.hid kC
  have kS := ((KS4.out).alloc _).below hb5 ((KS4.out).alloc _).lt
  obtain ⟨xS5, yS5⟩ := kS.facts
  have zS5 := kS.lt
  have KS5 := Lib.hid kS
  have kE := ((KE4.out).alloc _).below hb5 ((KE4.out).alloc _).lt
  obtain ⟨xE5, yE5⟩ := kE.facts
  have zE5 := kE.lt
  have KE5 := Lib.hid kE
  have HB5 := Lib.hid (((HB4.out).alloc (HB4.out).size _).trans (hb5.mono ((HB4.out).alloc (HB4.out).size _).size))
  clear hb5 kC kS kE
  go_wp2_with fail
  refine (HFD.out _ (HB5.out)).mono ?_
  rintro e w6 ⟨A2, m2, rfl, _, hb6⟩
  clear xC5 yC5 zC5 xS5 yS5 zS5 xE5 yE5 zE5
  have kC := (KC5.out).below hb6 (KC5.out).lt
  obtain ⟨xC6, yC6⟩ := kC.facts
  have zC6 := kC.lt
  have KC6 := Lib.hid kC
  have kS := (KS5.out).below hb6 (KS5.out).lt
  obtain ⟨xS6, yS6⟩ := kS.facts
  have zS6 := kS.lt
  have KS6 := Lib.hid kS
  have kE := (KE5.out).below hb6 (KE5.out).lt
  obtain ⟨xE6, yE6⟩ := kE.facts
  have zE6 := kE.lt
  have KE6 := Lib.hid kE
  have HB6 := Lib.hid ((HB5.out).trans (hb6.mono (HB5.out).size))
  clear hb6 kC kS kE
  go_wp2_with fail
  refine (HVL.out _ ((HB6.out).alloc (HB6.out).size _)).mono ?_
  rintro e w7 ⟨rfl, hb7⟩
  rw [HV.out]
  clear xC6 yC6 zC6 xS6 yS6 zS6 xE6 yE6 zE6
  have kC := ((KC6.out).alloc _).below hb7 ((KC6.out).alloc _).lt
  obtain ⟨xC7, yC7⟩ := kC.facts
  have zC7 := kC.lt
  have KC7 := Lib.hid kC
  have kS := ((KS6.out).alloc _).below hb7 ((KS6.out).alloc _).lt
  obtain ⟨xS7, yS7⟩ := kS.facts
  have zS7 := kS.lt
  have KS7 := Lib.hid kS
  have kE := ((KE6.out).alloc _).below hb7 ((KE6.out).alloc _).lt
  obtain ⟨xE7, yE7⟩ := kE.facts
  have zE7 := kE.lt
  have KE7 := Lib.hid kE
  have kP := (Has.new (w6) 47 #[.string pname, .string pkind, .string pinto, .string pslot, .int .i64 pmade, .int .i64 psince, .bool pgone, .slice A2 pprops.length m2, .int .i64 pkl, .int .i64 pkh, .int .i64 pcl, .int .i64 pch, .int .i64 pdl, .int .i64 pdh]).below hb7 (Has.new (w6) 47 #[.string pname, .string pkind, .string pinto, .string pslot, .int .i64 pmade, .int .i64 psince, .bool pgone, .slice A2 pprops.length m2, .int .i64 pkl, .int .i64 pkh, .int .i64 pcl, .int .i64 pch, .int .i64 pdl, .int .i64 pdh]).lt
  obtain ⟨xP7, yP7⟩ := kP.facts
  have zP7 := kP.lt
  have KP7 := Lib.hid kP
  have HB7 := Lib.hid (((HB6.out).alloc (HB6.out).size _).trans (hb7.mono ((HB6.out).alloc (HB6.out).size _).size))
  clear hb7 kC kS kE kP
  go_wp2_with fail
  refine (HAP.out w (Below.refl _ _) (.slice A l.length cs) l HST.out HL.out HSH.out (removeE day0 name) t2 _ HR1.out (HB7.out) HSN.out).mono ?_
  rintro e w8 ⟨A8, c8, rfl, hst8, hb8⟩
  have HST8 := Lib.hid hst8
  clear hst8
  clear xC7 yC7 zC7 xS7 yS7 zS7 xE7 yE7 zE7 xP7 yP7 zP7
  have kC := (KC7.out).below hb8 (KC7.out).lt
  obtain ⟨xC8, yC8⟩ := kC.facts
  have zC8 := kC.lt
  have KC8 := Lib.hid kC
  have kS := (KS7.out).below hb8 (KS7.out).lt
  obtain ⟨xS8, yS8⟩ := kS.facts
  have zS8 := kS.lt
  have KS8 := Lib.hid kS
  have kE := (KE7.out).below hb8 (KE7.out).lt
  obtain ⟨xE8, yE8⟩ := kE.facts
  have zE8 := kE.lt
  have KE8 := Lib.hid kE
  have kP := (KP7.out).below hb8 (KP7.out).lt
  obtain ⟨xP8, yP8⟩ := kP.facts
  have zP8 := kP.lt
  have KP8 := Lib.hid kP
  have HB8 := Lib.hid ((HB7.out).trans (hb8.mono (HB7.out).size))
  clear hb8 kC kS kE kP
  go_wp2_with fail
  refine (HAP.out w8 HB8.out (.slice A8 t2.length c8) t2 HST8.out HT2.out.1 HT2.out.2 (fitD day0 name pinto pslot) l _ HR2.out ((Below.refl w8.heap.size w8).alloc (Nat.le_refl _) _) HSF.out).mono ?_
  rintro e w9 ⟨A9, c9, rfl, hst9, hb9⟩
  have HST9 := Lib.hid hst9
  clear hst9
  clear xC8 yC8 zC8 xS8 yS8 zS8 xE8 yE8 zE8 xP8 yP8 zP8
  have kC := ((KC8.out).alloc _).below hb9 ((KC8.out).alloc _).lt
  obtain ⟨xC9, yC9⟩ := kC.facts
  have zC9 := kC.lt
  have KC9 := Lib.hid kC
  have kS := ((KS8.out).alloc _).below hb9 ((KS8.out).alloc _).lt
  obtain ⟨xS9, yS9⟩ := kS.facts
  have zS9 := kS.lt
  have KS9 := Lib.hid kS
  have kE := ((KE8.out).alloc _).below hb9 ((KE8.out).alloc _).lt
  obtain ⟨xE9, yE9⟩ := kE.facts
  have zE9 := kE.lt
  have KE9 := Lib.hid kE
  have kP := ((KP8.out).alloc _).below hb9 ((KP8.out).alloc _).lt
  obtain ⟨xP9, yP9⟩ := kP.facts
  have zP9 := kP.lt
  have KP9 := Lib.hid kP
  have kT := (Has.new (w8) 27 #[.slice A8 t2.length c8]).below hb9 (Has.new (w8) 27 #[.slice A8 t2.length c8]).lt
  obtain ⟨xT9, yT9⟩ := kT.facts
  have zT9 := kT.lt
  have KT9 := Lib.hid kT
  have HB9 := Lib.hid (((HB8.out).alloc (HB8.out).size _).trans (hb9.mono ((HB8.out).alloc (HB8.out).size _).size))
  clear hb9 kC kS kE kP kT
  go_wp2_with fail
  refine (same10_any w9 (.slice A9 l.length c9) (.slice A l.length cs) l l _ ((Below.refl w9.heap.size w9).alloc (Nat.le_refl _) _) HST9.out (HST.out.below HB9.out) HL6.out HL6.out HPR.out HPR.out).mono ?_
  rintro e w10 ⟨rfl, hb10⟩
  rw [decide_eq_true rfl]
  clear xC9 yC9 zC9 xS9 yS9 zS9 xE9 yE9 zE9 xP9 yP9 zP9 xT9 yT9 zT9
  have kC := ((KC9.out).alloc _).below hb10 ((KC9.out).alloc _).lt
  obtain ⟨xC10, yC10⟩ := kC.facts
  have zC10 := kC.lt
  have KC10 := Lib.hid kC
  have kS := ((KS9.out).alloc _).below hb10 ((KS9.out).alloc _).lt
  obtain ⟨xS10, yS10⟩ := kS.facts
  have zS10 := kS.lt
  have KS10 := Lib.hid kS
  have kE := ((KE9.out).alloc _).below hb10 ((KE9.out).alloc _).lt
  obtain ⟨xE10, yE10⟩ := kE.facts
  have zE10 := kE.lt
  have KE10 := Lib.hid kE
  have kP := ((KP9.out).alloc _).below hb10 ((KP9.out).alloc _).lt
  obtain ⟨xP10, yP10⟩ := kP.facts
  have zP10 := kP.lt
  have KP10 := Lib.hid kP
  have HB10 := Lib.hid (((HB9.out).alloc (HB9.out).size _).trans (hb10.mono ((HB9.out).alloc (HB9.out).size _).size))
  clear hb10 kC kS kE kP
  go_wp2_with fail
  go_ret
  exact ⟨rfl, HB10.out⟩
set_option maxRecDepth 100000 in
set_option maxHeartbeats 8000000 in
theorem back_B_none (cv sv : Value) (c : List Kd) (l : List Pa) (op day : Int) (part kind into slot key value : ByteArray) (ukl ukh ucl uch ull ulh : Int) (name : ByteArray) (day0 : Int) (w : World) (hcat : Cat w cv c) (hsta : Sta w sv l) (hl : l.length ≤ maxLen) (hps : ∀ p ∈ l, p.wide) (hev : Ev.short ⟨op, day, part, kind, into, slot, key, value, ukl, ukh, ucl, uch, ull, ulh⟩) (hn0 : name.size ≤ big) (hfew : fewB c l [⟨op, day, part, kind, into, slot, key, value, ukl, ukh, ucl, uch, ull, ulh⟩] = true) (h100 : (name.size : Int) ≤ 100) (hd0 : 0 ≤ day0) (hd1 : day0 ≤ 40000) (t : List Pa) (hr : applyL c l ⟨op, day, part, kind, into, slot, key, value, ukl, ukh, ucl, uch, ull, ulh⟩ = (t, 0)) (hop : ¬ op = 2) (hpf : pfind l name = none) :
    Calls Tryz.prog 6 #[.agg #[cv], .agg #[sv], .agg #[.int .i64 op, .int .i64 day, .string part, .string kind, .string into, .string slot, .string key, .string value, .int .i64 ukl, .int .i64 ukh, .int .i64 ucl, .int .i64 uch, .int .i64 ull, .int .i64 ulh], .string name, .int .i64 day0] w fun e w' => e = .returned (.bool true) ∧ Below w.heap.size w w' := by
  obtain ⟨A', cc, rfl, _⟩ := Rd.form hcat
  obtain ⟨A, cs, rfl, hn⟩ := Rd.form hsta
  have HST := Lib.hid hsta
  have HEV := Lib.hid hev
  have HFW := Lib.hid (fun W (h : Below w.heap.size w W) {g : Nat} (hv : Sl W (.slice (some ⟨g, 0, none⟩) 1 1) 1 14 (evF [⟨op, day, part, kind, into, slot, key, value, ukl, ukh, ucl, uch, ull, ulh⟩])) => few_any W (.slice A' c.length cc) (.slice A l.length cs) (.slice (some ⟨g, 0, none⟩) 1 1) c l [⟨op, day, part, kind, into, slot, key, value, ukl, ukh, ucl, uch, ull, ulh⟩] W (Below.refl _ _) (hcat.below h) (hsta.below h) hv hl hps (by simp [maxLen]))
  have HAP := Lib.hid (fun (h65 : c.length ≤ 65 ∧ ∀ k ∈ c, k.short) W0 (h0 : Below w.heap.size w W0) sv' l' (hs' : Sta W0 sv' l') (hl' : l'.length ≤ 20000) (hsh' : ∀ p ∈ l', p.short) ev t W (hr : applyL c l' ev = (t, 0)) (h : Below W0.heap.size W0 W) hev => apply_ok W0 (.slice A' c.length cc) sv' c l' ev t W hr h (hcat.below h0) (by omega) h65.2 hs' (by omega) hsh' hev)
  have HAN := Lib.hid (fun (h65 : c.length ≤ 65 ∧ ∀ k ∈ c, k.short) (h20 : l.length ≤ 20 ∧ ∀ p ∈ l, p.short) ev W (hr : (applyL c l ev).2 ≠ 0) (h : Below w.heap.size w W) hev => apply_no w (.slice A' c.length cc) (.slice A l.length cs) c l ev W hr h hcat (by omega) h65.2 hsta (by omega) h20.2 hev)
  have HVL := Lib.hid (fun (h65 : c.length ≤ 65 ∧ ∀ k ∈ c, k.short) (h20 : l.length ≤ 20 ∧ ∀ p ∈ l, p.short) W (h : Below w.heap.size w W) => fvalid_any w (.slice A' c.length cc) (.slice A l.length cs) c l W h hcat (by omega) h65.2 hsta (by omega) h20.2)
  have HFD := Lib.hid (fun (h20 : l.length ≤ 20) W (h : Below w.heap.size w W) => fpart_any w (.slice A l.length cs) l name W h hsta (by omega))
  have k1 := ((Has.new w 24 #[.slice A' c.length cc]).alloc (.cells #[.slice A l.length cs] 27)).alloc (.cells #[.int .i64 op, .int .i64 day, .string part, .string kind, .string into, .string slot, .string key, .string value, .int .i64 ukl, .int .i64 ukh, .int .i64 ucl, .int .i64 uch, .int .i64 ull, .int .i64 ulh] 33)
  have k2 := (Has.new (w.alloc (.cells #[.slice A' c.length cc] 24)) 27 #[.slice A l.length cs]).alloc (.cells #[.int .i64 op, .int .i64 day, .string part, .string kind, .string into, .string slot, .string key, .string value, .int .i64 ukl, .int .i64 ukh, .int .i64 ucl, .int .i64 uch, .int .i64 ull, .int .i64 ulh] 33)
  have k3 := Has.new ((w.alloc (.cells #[.slice A' c.length cc] 24)).alloc (.cells #[.slice A l.length cs] 27)) 33 #[.int .i64 op, .int .i64 day, .string part, .string kind, .string into, .string slot, .string key, .string value, .int .i64 ukl, .int .i64 ukh, .int .i64 ucl, .int .i64 uch, .int .i64 ull, .int .i64 ulh]
  simp only [World.size_alloc] at k2 k3
  have KC0 := Lib.hid k1
  have KS0 := Lib.hid k2
  have KE0 := Lib.hid k3
  have HB0 := Lib.hid ((((Below.refl w.heap.size w).alloc (Nat.le_refl _) (.cells #[.slice A' c.length cc] 24)).alloc (by simp) (.cells #[.slice A l.length cs] 27)).alloc (by simp; omega) (.cells #[.int .i64 op, .int .i64 day, .string part, .string kind, .string into, .string slot, .string key, .string value, .int .i64 ukl, .int .i64 ukh, .int .i64 ucl, .int .i64 uch, .int .i64 ull, .int .i64 ulh] 33))
  show Calls Tryz.prog 6 #[.agg #[.slice A' c.length cc], .agg #[.slice A l.length cs], .agg #[.int .i64 op, .int .i64 day, .string part, .string kind, .string into, .string slot, .string key, .string value, .int .i64 ukl, .int .i64 ukh, .int .i64 ucl, .int .i64 uch, .int .i64 ull, .int .i64 ulh], .string name, .int .i64 day0] w _
  clear hcat hsta hps k1 k2 k3
  obtain ⟨h65, h20⟩ := fewB_take hfew
  have HVL := Lib.hid (HVL.out h65 h20)
  have HAP := Lib.hid (HAP.out h65)
  have HAN := Lib.hid (HAN.out h65 h20)
  have HFD := Lib.hid (HFD.out h20.1)
  have HL := Lib.hid (show l.length ≤ 20000 by omega)
  have HL6 := Lib.hid (show l.length ≤ 1000000 by omega)
  have HSH := Lib.hid h20.2
  have HPR := Lib.hid (fun p (hp : p ∈ l) => (h20.2 p hp).2.2.2.2.1)
  have HFEW := Lib.hid hfew
  clear hfew h65 h20
  unfold big at hn0
  have hsn : (removeE day0 name).short := by unfold Ev.short; dsimp only [removeE]; unfold maxLen; exact ⟨by omega, by decide, by decide, by decide, by decide, by decide⟩
  have HSN := Lib.hid hsn
  have HSR := Lib.hid (show (removeE day0 part).short from ⟨HEV.out.1, eS_max, eS_max, eS_max, eS_max, eS_max⟩)
  clear hsn
  have HTL := Lib.hid (apply_short HSH.out HEV.out hr)
  have HOK := Lib.hid (fun W (h : Below w.heap.size w W) => HAP.out w (Below.refl _ _) (.slice A l.length cs) l HST.out HL.out HSH.out _ t W hr h HEV.out)
  have hob : (op == 2) = false := by simpa using hop
  clear hr hop
  rw [hpf] at HFD
  simp only [Option.getD_none, Option.isSome_none, noPa, List.length_nil] at HFD
  clear hpf
  go_enter Tryz.func6, Tryz.ntmps6
  go_wp2_with fail
  refine (head_any _).mono ?_
  rintro e w1 ⟨rfl, hb1⟩
  have kC := (KC0.out).below hb1 (KC0.out).lt
  obtain ⟨xC1, yC1⟩ := kC.facts
  have zC1 := kC.lt
  have KC1 := Lib.hid kC
  have kS := (KS0.out).below hb1 (KS0.out).lt
  obtain ⟨xS1, yS1⟩ := kS.facts
  have zS1 := kS.lt
  have KS1 := Lib.hid kS
  have kE := (KE0.out).below hb1 (KE0.out).lt
  obtain ⟨xE1, yE1⟩ := kE.facts
  have zE1 := kE.lt
  have KE1 := Lib.hid kE
  have HB1 := Lib.hid ((HB0.out).trans (hb1.mono (HB0.out).size))
  clear hb1 kC kS kE
  go_wp2_with fail
  refine (HFW.out _ ((HB1.out).alloc (HB1.out).size _) (ev_sl (e := ⟨op, day, part, kind, into, slot, key, value, ukl, ukh, ucl, uch, ull, ulh⟩) (Has.new w1 33 #[.int .i64 op, .int .i64 day, .string part, .string kind, .string into, .string slot, .string key, .string value, .int .i64 ukl, .int .i64 ukh, .int .i64 ucl, .int .i64 uch, .int .i64 ull, .int .i64 ulh]))).mono ?_
  rintro e w2 ⟨rfl, hb2⟩
  rw [HFEW.out]
  clear xC1 yC1 zC1 xS1 yS1 zS1 xE1 yE1 zE1
  have kC := ((KC1.out).alloc _).below hb2 ((KC1.out).alloc _).lt
  obtain ⟨xC2, yC2⟩ := kC.facts
  have zC2 := kC.lt
  have KC2 := Lib.hid kC
  have kS := ((KS1.out).alloc _).below hb2 ((KS1.out).alloc _).lt
  obtain ⟨xS2, yS2⟩ := kS.facts
  have zS2 := kS.lt
  have KS2 := Lib.hid kS
  have kE := ((KE1.out).alloc _).below hb2 ((KE1.out).alloc _).lt
  obtain ⟨xE2, yE2⟩ := kE.facts
  have zE2 := kE.lt
  have KE2 := Lib.hid kE
  have HB2 := Lib.hid (((HB1.out).alloc (HB1.out).size _).trans (hb2.mono ((HB1.out).alloc (HB1.out).size _).size))
  clear hb2 kC kS kE
  go_wp2_with fail
  refine (HOK.out _ (HB2.out)).mono ?_
  rintro e w3 ⟨A3, c3, rfl, hst3, hb3⟩
  have HST3 := Lib.hid hst3
  clear hst3
  clear xC2 yC2 zC2 xS2 yS2 zS2 xE2 yE2 zE2
  have kC := (KC2.out).below hb3 (KC2.out).lt
  obtain ⟨xC3, yC3⟩ := kC.facts
  have zC3 := kC.lt
  have KC3 := Lib.hid kC
  have kS := (KS2.out).below hb3 (KS2.out).lt
  obtain ⟨xS3, yS3⟩ := kS.facts
  have zS3 := kS.lt
  have KS3 := Lib.hid kS
  have kE := (KE2.out).below hb3 (KE2.out).lt
  obtain ⟨xE3, yE3⟩ := kE.facts
  have zE3 := kE.lt
  have KE3 := Lib.hid kE
  have HB3 := Lib.hid ((HB2.out).trans (hb3.mono (HB2.out).size))
  clear hb3 kC kS kE
  go_wp2_with fail
  refine (HFD.out _ ((HB3.out).alloc (HB3.out).size _)).mono ?_
  rintro e w4 ⟨A2, m2, rfl, _, hb4⟩
  clear xC3 yC3 zC3 xS3 yS3 zS3 xE3 yE3 zE3
  have kC := ((KC3.out).alloc _).below hb4 ((KC3.out).alloc _).lt
  obtain ⟨xC4, yC4⟩ := kC.facts
  have zC4 := kC.lt
  have KC4 := Lib.hid kC
  have kS := ((KS3.out).alloc _).below hb4 ((KS3.out).alloc _).lt
  obtain ⟨xS4, yS4⟩ := kS.facts
  have zS4 := kS.lt
  have KS4 := Lib.hid kS
  have kE := ((KE3.out).alloc _).below hb4 ((KE3.out).alloc _).lt
  obtain ⟨xE4, yE4⟩ := kE.facts
  have zE4 := kE.lt
  have KE4 := Lib.hid kE
  have HB4 := Lib.hid (((HB3.out).alloc (HB3.out).size _).trans (hb4.mono ((HB3.out).alloc (HB3.out).size _).size))
  clear hb4 kC kS kE
  go_wp2_with fail
  go_ret
  exact ⟨rfl, (HB4.out).alloc (HB4.out).size _⟩
set_option maxRecDepth 100000 in
set_option maxHeartbeats 8000000 in
theorem back_B_empty (cv sv : Value) (c : List Kd) (l : List Pa) (op day : Int) (part kind into slot key value : ByteArray) (ukl ukh ucl uch ull ulh : Int) (name : ByteArray) (day0 : Int) (w : World) (hcat : Cat w cv c) (hsta : Sta w sv l) (hl : l.length ≤ maxLen) (hps : ∀ p ∈ l, p.wide) (hev : Ev.short ⟨op, day, part, kind, into, slot, key, value, ukl, ukh, ucl, uch, ull, ulh⟩) (hn0 : name.size ≤ big) (hfew : fewB c l [⟨op, day, part, kind, into, slot, key, value, ukl, ukh, ucl, uch, ull, ulh⟩] = true) (h100 : (name.size : Int) ≤ 100) (hd0 : 0 ≤ day0) (hd1 : day0 ≤ 40000) (t : List Pa) (hr : applyL c l ⟨op, day, part, kind, into, slot, key, value, ukl, ukh, ucl, uch, ull, ulh⟩ = (t, 0)) (hop : ¬ op = 2) (pname pkind pinto pslot : ByteArray) (pmade psince : Int) (pgone : Bool) (pprops : List Pr) (pkl pkh pcl pch pdl pdh : Int) (hpf : pfind l name = some ⟨pname, pkind, pinto, pslot, pmade, psince, pgone, pprops, pkl, pkh, pcl, pch, pdl, pdh⟩) (hi : pinto.toList.isEmpty = true) :
    Calls Tryz.prog 6 #[.agg #[cv], .agg #[sv], .agg #[.int .i64 op, .int .i64 day, .string part, .string kind, .string into, .string slot, .string key, .string value, .int .i64 ukl, .int .i64 ukh, .int .i64 ucl, .int .i64 uch, .int .i64 ull, .int .i64 ulh], .string name, .int .i64 day0] w fun e w' => e = .returned (.bool true) ∧ Below w.heap.size w w' := by
  obtain ⟨A', cc, rfl, _⟩ := Rd.form hcat
  obtain ⟨A, cs, rfl, hn⟩ := Rd.form hsta
  have HST := Lib.hid hsta
  have HEV := Lib.hid hev
  have HFW := Lib.hid (fun W (h : Below w.heap.size w W) {g : Nat} (hv : Sl W (.slice (some ⟨g, 0, none⟩) 1 1) 1 14 (evF [⟨op, day, part, kind, into, slot, key, value, ukl, ukh, ucl, uch, ull, ulh⟩])) => few_any W (.slice A' c.length cc) (.slice A l.length cs) (.slice (some ⟨g, 0, none⟩) 1 1) c l [⟨op, day, part, kind, into, slot, key, value, ukl, ukh, ucl, uch, ull, ulh⟩] W (Below.refl _ _) (hcat.below h) (hsta.below h) hv hl hps (by simp [maxLen]))
  have HAP := Lib.hid (fun (h65 : c.length ≤ 65 ∧ ∀ k ∈ c, k.short) W0 (h0 : Below w.heap.size w W0) sv' l' (hs' : Sta W0 sv' l') (hl' : l'.length ≤ 20000) (hsh' : ∀ p ∈ l', p.short) ev t W (hr : applyL c l' ev = (t, 0)) (h : Below W0.heap.size W0 W) hev => apply_ok W0 (.slice A' c.length cc) sv' c l' ev t W hr h (hcat.below h0) (by omega) h65.2 hs' (by omega) hsh' hev)
  have HAN := Lib.hid (fun (h65 : c.length ≤ 65 ∧ ∀ k ∈ c, k.short) (h20 : l.length ≤ 20 ∧ ∀ p ∈ l, p.short) ev W (hr : (applyL c l ev).2 ≠ 0) (h : Below w.heap.size w W) hev => apply_no w (.slice A' c.length cc) (.slice A l.length cs) c l ev W hr h hcat (by omega) h65.2 hsta (by omega) h20.2 hev)
  have HVL := Lib.hid (fun (h65 : c.length ≤ 65 ∧ ∀ k ∈ c, k.short) (h20 : l.length ≤ 20 ∧ ∀ p ∈ l, p.short) W (h : Below w.heap.size w W) => fvalid_any w (.slice A' c.length cc) (.slice A l.length cs) c l W h hcat (by omega) h65.2 hsta (by omega) h20.2)
  have HFD := Lib.hid (fun (h20 : l.length ≤ 20) W (h : Below w.heap.size w W) => fpart_any w (.slice A l.length cs) l name W h hsta (by omega))
  have k1 := ((Has.new w 24 #[.slice A' c.length cc]).alloc (.cells #[.slice A l.length cs] 27)).alloc (.cells #[.int .i64 op, .int .i64 day, .string part, .string kind, .string into, .string slot, .string key, .string value, .int .i64 ukl, .int .i64 ukh, .int .i64 ucl, .int .i64 uch, .int .i64 ull, .int .i64 ulh] 33)
  have k2 := (Has.new (w.alloc (.cells #[.slice A' c.length cc] 24)) 27 #[.slice A l.length cs]).alloc (.cells #[.int .i64 op, .int .i64 day, .string part, .string kind, .string into, .string slot, .string key, .string value, .int .i64 ukl, .int .i64 ukh, .int .i64 ucl, .int .i64 uch, .int .i64 ull, .int .i64 ulh] 33)
  have k3 := Has.new ((w.alloc (.cells #[.slice A' c.length cc] 24)).alloc (.cells #[.slice A l.length cs] 27)) 33 #[.int .i64 op, .int .i64 day, .string part, .string kind, .string into, .string slot, .string key, .string value, .int .i64 ukl, .int .i64 ukh, .int .i64 ucl, .int .i64 uch, .int .i64 ull, .int .i64 ulh]
  simp only [World.size_alloc] at k2 k3
  have KC0 := Lib.hid k1
  have KS0 := Lib.hid k2
  have KE0 := Lib.hid k3
  have HB0 := Lib.hid ((((Below.refl w.heap.size w).alloc (Nat.le_refl _) (.cells #[.slice A' c.length cc] 24)).alloc (by simp) (.cells #[.slice A l.length cs] 27)).alloc (by simp; omega) (.cells #[.int .i64 op, .int .i64 day, .string part, .string kind, .string into, .string slot, .string key, .string value, .int .i64 ukl, .int .i64 ukh, .int .i64 ucl, .int .i64 uch, .int .i64 ull, .int .i64 ulh] 33))
  show Calls Tryz.prog 6 #[.agg #[.slice A' c.length cc], .agg #[.slice A l.length cs], .agg #[.int .i64 op, .int .i64 day, .string part, .string kind, .string into, .string slot, .string key, .string value, .int .i64 ukl, .int .i64 ukh, .int .i64 ucl, .int .i64 uch, .int .i64 ull, .int .i64 ulh], .string name, .int .i64 day0] w _
  clear hcat hsta hps k1 k2 k3
  obtain ⟨h65, h20⟩ := fewB_take hfew
  have HVL := Lib.hid (HVL.out h65 h20)
  have HAP := Lib.hid (HAP.out h65)
  have HAN := Lib.hid (HAN.out h65 h20)
  have HFD := Lib.hid (HFD.out h20.1)
  have HL := Lib.hid (show l.length ≤ 20000 by omega)
  have HL6 := Lib.hid (show l.length ≤ 1000000 by omega)
  have HSH := Lib.hid h20.2
  have HPR := Lib.hid (fun p (hp : p ∈ l) => (h20.2 p hp).2.2.2.2.1)
  have HFEW := Lib.hid hfew
  clear hfew h65 h20
  unfold big at hn0
  have hsn : (removeE day0 name).short := by unfold Ev.short; dsimp only [removeE]; unfold maxLen; exact ⟨by omega, by decide, by decide, by decide, by decide, by decide⟩
  have HSN := Lib.hid hsn
  have HSR := Lib.hid (show (removeE day0 part).short from ⟨HEV.out.1, eS_max, eS_max, eS_max, eS_max, eS_max⟩)
  clear hsn
  have HTL := Lib.hid (apply_short HSH.out HEV.out hr)
  have HOK := Lib.hid (fun W (h : Below w.heap.size w W) => HAP.out w (Below.refl _ _) (.slice A l.length cs) l HST.out HL.out HSH.out _ t W hr h HEV.out)
  have hob : (op == 2) = false := by simpa using hop
  clear hr hop
  obtain ⟨hpm, hpn⟩ := pfind_mem hpf
  rw [hpf] at HFD
  have HPM := Lib.hid hpm
  have HPN := Lib.hid hpn
  have HPSH := Lib.hid (HSH.out _ hpm)
  clear hpf hpm hpn
  simp only [Option.getD_some, Option.isSome_some] at HFD
  have hie := emp_iff pinto
  clear hie
  go_enter Tryz.func6, Tryz.ntmps6
  go_wp2_with fail
  refine (head_any _).mono ?_
  rintro e w1 ⟨rfl, hb1⟩
  have kC := (KC0.out).below hb1 (KC0.out).lt
  obtain ⟨xC1, yC1⟩ := kC.facts
  have zC1 := kC.lt
  have KC1 := Lib.hid kC
  have kS := (KS0.out).below hb1 (KS0.out).lt
  obtain ⟨xS1, yS1⟩ := kS.facts
  have zS1 := kS.lt
  have KS1 := Lib.hid kS
  have kE := (KE0.out).below hb1 (KE0.out).lt
  obtain ⟨xE1, yE1⟩ := kE.facts
  have zE1 := kE.lt
  have KE1 := Lib.hid kE
  have HB1 := Lib.hid ((HB0.out).trans (hb1.mono (HB0.out).size))
  clear hb1 kC kS kE
  go_wp2_with fail
  refine (HFW.out _ ((HB1.out).alloc (HB1.out).size _) (ev_sl (e := ⟨op, day, part, kind, into, slot, key, value, ukl, ukh, ucl, uch, ull, ulh⟩) (Has.new w1 33 #[.int .i64 op, .int .i64 day, .string part, .string kind, .string into, .string slot, .string key, .string value, .int .i64 ukl, .int .i64 ukh, .int .i64 ucl, .int .i64 uch, .int .i64 ull, .int .i64 ulh]))).mono ?_
  rintro e w2 ⟨rfl, hb2⟩
  rw [HFEW.out]
  clear xC1 yC1 zC1 xS1 yS1 zS1 xE1 yE1 zE1
  have kC := ((KC1.out).alloc _).below hb2 ((KC1.out).alloc _).lt
  obtain ⟨xC2, yC2⟩ := kC.facts
  have zC2 := kC.lt
  have KC2 := Lib.hid kC
  have kS := ((KS1.out).alloc _).below hb2 ((KS1.out).alloc _).lt
  obtain ⟨xS2, yS2⟩ := kS.facts
  have zS2 := kS.lt
  have KS2 := Lib.hid kS
  have kE := ((KE1.out).alloc _).below hb2 ((KE1.out).alloc _).lt
  obtain ⟨xE2, yE2⟩ := kE.facts
  have zE2 := kE.lt
  have KE2 := Lib.hid kE
  have HB2 := Lib.hid (((HB1.out).alloc (HB1.out).size _).trans (hb2.mono ((HB1.out).alloc (HB1.out).size _).size))
  clear hb2 kC kS kE
  go_wp2_with fail
  refine (HOK.out _ (HB2.out)).mono ?_
  rintro e w3 ⟨A3, c3, rfl, hst3, hb3⟩
  have HST3 := Lib.hid hst3
  clear hst3
  clear xC2 yC2 zC2 xS2 yS2 zS2 xE2 yE2 zE2
  have kC := (KC2.out).below hb3 (KC2.out).lt
  obtain ⟨xC3, yC3⟩ := kC.facts
  have zC3 := kC.lt
  have KC3 := Lib.hid kC
  have kS := (KS2.out).below hb3 (KS2.out).lt
  obtain ⟨xS3, yS3⟩ := kS.facts
  have zS3 := kS.lt
  have KS3 := Lib.hid kS
  have kE := (KE2.out).below hb3 (KE2.out).lt
  obtain ⟨xE3, yE3⟩ := kE.facts
  have zE3 := kE.lt
  have KE3 := Lib.hid kE
  have HB3 := Lib.hid ((HB2.out).trans (hb3.mono (HB2.out).size))
  clear hb3 kC kS kE
  go_wp2_with fail
  refine (HFD.out _ ((HB3.out).alloc (HB3.out).size _)).mono ?_
  rintro e w4 ⟨A2, m2, rfl, _, hb4⟩
  clear xC3 yC3 zC3 xS3 yS3 zS3 xE3 yE3 zE3
  have kC := ((KC3.out).alloc _).below hb4 ((KC3.out).alloc _).lt
  obtain ⟨xC4, yC4⟩ := kC.facts
  have zC4 := kC.lt
  have KC4 := Lib.hid kC
  have kS := ((KS3.out).alloc _).below hb4 ((KS3.out).alloc _).lt
  obtain ⟨xS4, yS4⟩ := kS.facts
  have zS4 := kS.lt
  have KS4 := Lib.hid kS
  have kE := ((KE3.out).alloc _).below hb4 ((KE3.out).alloc _).lt
  obtain ⟨xE4, yE4⟩ := kE.facts
  have zE4 := kE.lt
  have KE4 := Lib.hid kE
  have HB4 := Lib.hid (((HB3.out).alloc (HB3.out).size _).trans (hb4.mono ((HB3.out).alloc (HB3.out).size _).size))
  clear hb4 kC kS kE
  go_wp2_with fail
  go_ret
  exact ⟨rfl, (HB4.out).alloc (HB4.out).size _⟩
set_option maxRecDepth 100000 in
set_option maxHeartbeats 8000000 in
theorem back_B_invalid (cv sv : Value) (c : List Kd) (l : List Pa) (op day : Int) (part kind into slot key value : ByteArray) (ukl ukh ucl uch ull ulh : Int) (name : ByteArray) (day0 : Int) (w : World) (hcat : Cat w cv c) (hsta : Sta w sv l) (hl : l.length ≤ maxLen) (hps : ∀ p ∈ l, p.wide) (hev : Ev.short ⟨op, day, part, kind, into, slot, key, value, ukl, ukh, ucl, uch, ull, ulh⟩) (hn0 : name.size ≤ big) (hfew : fewB c l [⟨op, day, part, kind, into, slot, key, value, ukl, ukh, ucl, uch, ull, ulh⟩] = true) (h100 : (name.size : Int) ≤ 100) (hd0 : 0 ≤ day0) (hd1 : day0 ≤ 40000) (t : List Pa) (hr : applyL c l ⟨op, day, part, kind, into, slot, key, value, ukl, ukh, ucl, uch, ull, ulh⟩ = (t, 0)) (hop : ¬ op = 2) (pname pkind pinto pslot : ByteArray) (pmade psince : Int) (pgone : Bool) (pprops : List Pr) (pkl pkh pcl pch pdl pdh : Int) (hpf : pfind l name = some ⟨pname, pkind, pinto, pslot, pmade, psince, pgone, pprops, pkl, pkh, pcl, pch, pdl, pdh⟩) (hi : pinto.toList.isEmpty = false) (hv : validB c l = false) :
    Calls Tryz.prog 6 #[.agg #[cv], .agg #[sv], .agg #[.int .i64 op, .int .i64 day, .string part, .string kind, .string into, .string slot, .string key, .string value, .int .i64 ukl, .int .i64 ukh, .int .i64 ucl, .int .i64 uch, .int .i64 ull, .int .i64 ulh], .string name, .int .i64 day0] w fun e w' => e = .returned (.bool true) ∧ Below w.heap.size w w' := by
  obtain ⟨A', cc, rfl, _⟩ := Rd.form hcat
  obtain ⟨A, cs, rfl, hn⟩ := Rd.form hsta
  have HST := Lib.hid hsta
  have HEV := Lib.hid hev
  have HFW := Lib.hid (fun W (h : Below w.heap.size w W) {g : Nat} (hv : Sl W (.slice (some ⟨g, 0, none⟩) 1 1) 1 14 (evF [⟨op, day, part, kind, into, slot, key, value, ukl, ukh, ucl, uch, ull, ulh⟩])) => few_any W (.slice A' c.length cc) (.slice A l.length cs) (.slice (some ⟨g, 0, none⟩) 1 1) c l [⟨op, day, part, kind, into, slot, key, value, ukl, ukh, ucl, uch, ull, ulh⟩] W (Below.refl _ _) (hcat.below h) (hsta.below h) hv hl hps (by simp [maxLen]))
  have HAP := Lib.hid (fun (h65 : c.length ≤ 65 ∧ ∀ k ∈ c, k.short) W0 (h0 : Below w.heap.size w W0) sv' l' (hs' : Sta W0 sv' l') (hl' : l'.length ≤ 20000) (hsh' : ∀ p ∈ l', p.short) ev t W (hr : applyL c l' ev = (t, 0)) (h : Below W0.heap.size W0 W) hev => apply_ok W0 (.slice A' c.length cc) sv' c l' ev t W hr h (hcat.below h0) (by omega) h65.2 hs' (by omega) hsh' hev)
  have HAN := Lib.hid (fun (h65 : c.length ≤ 65 ∧ ∀ k ∈ c, k.short) (h20 : l.length ≤ 20 ∧ ∀ p ∈ l, p.short) ev W (hr : (applyL c l ev).2 ≠ 0) (h : Below w.heap.size w W) hev => apply_no w (.slice A' c.length cc) (.slice A l.length cs) c l ev W hr h hcat (by omega) h65.2 hsta (by omega) h20.2 hev)
  have HVL := Lib.hid (fun (h65 : c.length ≤ 65 ∧ ∀ k ∈ c, k.short) (h20 : l.length ≤ 20 ∧ ∀ p ∈ l, p.short) W (h : Below w.heap.size w W) => fvalid_any w (.slice A' c.length cc) (.slice A l.length cs) c l W h hcat (by omega) h65.2 hsta (by omega) h20.2)
  have HFD := Lib.hid (fun (h20 : l.length ≤ 20) W (h : Below w.heap.size w W) => fpart_any w (.slice A l.length cs) l name W h hsta (by omega))
  have k1 := ((Has.new w 24 #[.slice A' c.length cc]).alloc (.cells #[.slice A l.length cs] 27)).alloc (.cells #[.int .i64 op, .int .i64 day, .string part, .string kind, .string into, .string slot, .string key, .string value, .int .i64 ukl, .int .i64 ukh, .int .i64 ucl, .int .i64 uch, .int .i64 ull, .int .i64 ulh] 33)
  have k2 := (Has.new (w.alloc (.cells #[.slice A' c.length cc] 24)) 27 #[.slice A l.length cs]).alloc (.cells #[.int .i64 op, .int .i64 day, .string part, .string kind, .string into, .string slot, .string key, .string value, .int .i64 ukl, .int .i64 ukh, .int .i64 ucl, .int .i64 uch, .int .i64 ull, .int .i64 ulh] 33)
  have k3 := Has.new ((w.alloc (.cells #[.slice A' c.length cc] 24)).alloc (.cells #[.slice A l.length cs] 27)) 33 #[.int .i64 op, .int .i64 day, .string part, .string kind, .string into, .string slot, .string key, .string value, .int .i64 ukl, .int .i64 ukh, .int .i64 ucl, .int .i64 uch, .int .i64 ull, .int .i64 ulh]
  simp only [World.size_alloc] at k2 k3
  have KC0 := Lib.hid k1
  have KS0 := Lib.hid k2
  have KE0 := Lib.hid k3
  have HB0 := Lib.hid ((((Below.refl w.heap.size w).alloc (Nat.le_refl _) (.cells #[.slice A' c.length cc] 24)).alloc (by simp) (.cells #[.slice A l.length cs] 27)).alloc (by simp; omega) (.cells #[.int .i64 op, .int .i64 day, .string part, .string kind, .string into, .string slot, .string key, .string value, .int .i64 ukl, .int .i64 ukh, .int .i64 ucl, .int .i64 uch, .int .i64 ull, .int .i64 ulh] 33))
  show Calls Tryz.prog 6 #[.agg #[.slice A' c.length cc], .agg #[.slice A l.length cs], .agg #[.int .i64 op, .int .i64 day, .string part, .string kind, .string into, .string slot, .string key, .string value, .int .i64 ukl, .int .i64 ukh, .int .i64 ucl, .int .i64 uch, .int .i64 ull, .int .i64 ulh], .string name, .int .i64 day0] w _
  clear hcat hsta hps k1 k2 k3
  obtain ⟨h65, h20⟩ := fewB_take hfew
  have HVL := Lib.hid (HVL.out h65 h20)
  have HAP := Lib.hid (HAP.out h65)
  have HAN := Lib.hid (HAN.out h65 h20)
  have HFD := Lib.hid (HFD.out h20.1)
  have HL := Lib.hid (show l.length ≤ 20000 by omega)
  have HL6 := Lib.hid (show l.length ≤ 1000000 by omega)
  have HSH := Lib.hid h20.2
  have HPR := Lib.hid (fun p (hp : p ∈ l) => (h20.2 p hp).2.2.2.2.1)
  have HFEW := Lib.hid hfew
  clear hfew h65 h20
  unfold big at hn0
  have hsn : (removeE day0 name).short := by unfold Ev.short; dsimp only [removeE]; unfold maxLen; exact ⟨by omega, by decide, by decide, by decide, by decide, by decide⟩
  have HSN := Lib.hid hsn
  have HSR := Lib.hid (show (removeE day0 part).short from ⟨HEV.out.1, eS_max, eS_max, eS_max, eS_max, eS_max⟩)
  clear hsn
  have HTL := Lib.hid (apply_short HSH.out HEV.out hr)
  have HOK := Lib.hid (fun W (h : Below w.heap.size w W) => HAP.out w (Below.refl _ _) (.slice A l.length cs) l HST.out HL.out HSH.out _ t W hr h HEV.out)
  have hob : (op == 2) = false := by simpa using hop
  clear hr hop
  obtain ⟨hpm, hpn⟩ := pfind_mem hpf
  rw [hpf] at HFD
  have HPM := Lib.hid hpm
  have HPN := Lib.hid hpn
  have HPSH := Lib.hid (HSH.out _ hpm)
  clear hpf hpm hpn
  simp only [Option.getD_some, Option.isSome_some] at HFD
  have hie := emp_iff pinto
  have HNE2 := Lib.hid (show pinto ≠ eS from fun e => by rw [hi, decide_eq_true e] at hie; cases hie)
  clear hie
  have HV := Lib.hid hv
  clear hv
  go_enter Tryz.func6, Tryz.ntmps6
  go_wp2_with fail
  refine (head_any _).mono ?_
  rintro e w1 ⟨rfl, hb1⟩
  have kC := (KC0.out).below hb1 (KC0.out).lt
  obtain ⟨xC1, yC1⟩ := kC.facts
  have zC1 := kC.lt
  have KC1 := Lib.hid kC
  have kS := (KS0.out).below hb1 (KS0.out).lt
  obtain ⟨xS1, yS1⟩ := kS.facts
  have zS1 := kS.lt
  have KS1 := Lib.hid kS
  have kE := (KE0.out).below hb1 (KE0.out).lt
  obtain ⟨xE1, yE1⟩ := kE.facts
  have zE1 := kE.lt
  have KE1 := Lib.hid kE
  have HB1 := Lib.hid ((HB0.out).trans (hb1.mono (HB0.out).size))
  clear hb1 kC kS kE
  go_wp2_with fail
  refine (HFW.out _ ((HB1.out).alloc (HB1.out).size _) (ev_sl (e := ⟨op, day, part, kind, into, slot, key, value, ukl, ukh, ucl, uch, ull, ulh⟩) (Has.new w1 33 #[.int .i64 op, .int .i64 day, .string part, .string kind, .string into, .string slot, .string key, .string value, .int .i64 ukl, .int .i64 ukh, .int .i64 ucl, .int .i64 uch, .int .i64 ull, .int .i64 ulh]))).mono ?_
  rintro e w2 ⟨rfl, hb2⟩
  rw [HFEW.out]
  clear xC1 yC1 zC1 xS1 yS1 zS1 xE1 yE1 zE1
  have kC := ((KC1.out).alloc _).below hb2 ((KC1.out).alloc _).lt
  obtain ⟨xC2, yC2⟩ := kC.facts
  have zC2 := kC.lt
  have KC2 := Lib.hid kC
  have kS := ((KS1.out).alloc _).below hb2 ((KS1.out).alloc _).lt
  obtain ⟨xS2, yS2⟩ := kS.facts
  have zS2 := kS.lt
  have KS2 := Lib.hid kS
  have kE := ((KE1.out).alloc _).below hb2 ((KE1.out).alloc _).lt
  obtain ⟨xE2, yE2⟩ := kE.facts
  have zE2 := kE.lt
  have KE2 := Lib.hid kE
  have HB2 := Lib.hid (((HB1.out).alloc (HB1.out).size _).trans (hb2.mono ((HB1.out).alloc (HB1.out).size _).size))
  clear hb2 kC kS kE
  go_wp2_with fail
  refine (HOK.out _ (HB2.out)).mono ?_
  rintro e w3 ⟨A3, c3, rfl, hst3, hb3⟩
  have HST3 := Lib.hid hst3
  clear hst3
  clear xC2 yC2 zC2 xS2 yS2 zS2 xE2 yE2 zE2
  have kC := (KC2.out).below hb3 (KC2.out).lt
  obtain ⟨xC3, yC3⟩ := kC.facts
  have zC3 := kC.lt
  have KC3 := Lib.hid kC
  have kS := (KS2.out).below hb3 (KS2.out).lt
  obtain ⟨xS3, yS3⟩ := kS.facts
  have zS3 := kS.lt
  have KS3 := Lib.hid kS
  have kE := (KE2.out).below hb3 (KE2.out).lt
  obtain ⟨xE3, yE3⟩ := kE.facts
  have zE3 := kE.lt
  have KE3 := Lib.hid kE
  have HB3 := Lib.hid ((HB2.out).trans (hb3.mono (HB2.out).size))
  clear hb3 kC kS kE
  go_wp2_with fail
  refine (HFD.out _ ((HB3.out).alloc (HB3.out).size _)).mono ?_
  rintro e w4 ⟨A2, m2, rfl, _, hb4⟩
  clear xC3 yC3 zC3 xS3 yS3 zS3 xE3 yE3 zE3
  have kC := ((KC3.out).alloc _).below hb4 ((KC3.out).alloc _).lt
  obtain ⟨xC4, yC4⟩ := kC.facts
  have zC4 := kC.lt
  have KC4 := Lib.hid kC
  have kS := ((KS3.out).alloc _).below hb4 ((KS3.out).alloc _).lt
  obtain ⟨xS4, yS4⟩ := kS.facts
  have zS4 := kS.lt
  have KS4 := Lib.hid kS
  have kE := ((KE3.out).alloc _).below hb4 ((KE3.out).alloc _).lt
  obtain ⟨xE4, yE4⟩ := kE.facts
  have zE4 := kE.lt
  have KE4 := Lib.hid kE
  have HB4 := Lib.hid (((HB3.out).alloc (HB3.out).size _).trans (hb4.mono ((HB3.out).alloc (HB3.out).size _).size))
  clear hb4 kC kS kE
  go_wp2_with fail
  refine (HVL.out _ ((HB4.out).alloc (HB4.out).size _)).mono ?_
  rintro e w5 ⟨rfl, hb5⟩
  rw [HV.out]
  clear xC4 yC4 zC4 xS4 yS4 zS4 xE4 yE4 zE4
  have kC := ((KC4.out).alloc _).below hb5 ((KC4.out).alloc _).lt
  obtain ⟨xC5, yC5⟩ := kC.facts
  have zC5 := kC.lt
  have KC5 := Lib.hid kC
  have kS := ((KS4.out).alloc _).below hb5 ((KS4.out).alloc _).lt
  obtain ⟨xS5, yS5⟩ := kS.facts
  have zS5 := kS.lt
  have KS5 := Lib.hid kS
  have kE := ((KE4.out).alloc _).below hb5 ((KE4.out).alloc _).lt
  obtain ⟨xE5, yE5⟩ := kE.facts
  have zE5 := kE.lt
  have KE5 := Lib.hid kE
  have kP := (Has.new (w4) 47 #[.string pname, .string pkind, .string pinto, .string pslot, .int .i64 pmade, .int .i64 psince, .bool pgone, .slice A2 pprops.length m2, .int .i64 pkl, .int .i64 pkh, .int .i64 pcl, .int .i64 pch, .int .i64 pdl, .int .i64 pdh]).below hb5 (Has.new (w4) 47 #[.string pname, .string pkind, .string pinto, .string pslot, .int .i64 pmade, .int .i64 psince, .bool pgone, .slice A2 pprops.length m2, .int .i64 pkl, .int .i64 pkh, .int .i64 pcl, .int .i64 pch, .int .i64 pdl, .int .i64 pdh]).lt
  obtain ⟨xP5, yP5⟩ := kP.facts
  have zP5 := kP.lt
  have KP5 := Lib.hid kP
  have HB5 := Lib.hid (((HB4.out).alloc (HB4.out).size _).trans (hb5.mono ((HB4.out).alloc (HB4.out).size _).size))
  clear hb5 kC kS kE kP
  go_wp2_with fail
  go_ret
  exact ⟨rfl, HB5.out⟩
set_option maxRecDepth 100000 in
set_option maxHeartbeats 8000000 in
theorem back_B_full (cv sv : Value) (c : List Kd) (l : List Pa) (op day : Int) (part kind into slot key value : ByteArray) (ukl ukh ucl uch ull ulh : Int) (name : ByteArray) (day0 : Int) (w : World) (hcat : Cat w cv c) (hsta : Sta w sv l) (hl : l.length ≤ maxLen) (hps : ∀ p ∈ l, p.wide) (hev : Ev.short ⟨op, day, part, kind, into, slot, key, value, ukl, ukh, ucl, uch, ull, ulh⟩) (hn0 : name.size ≤ big) (hfew : fewB c l [⟨op, day, part, kind, into, slot, key, value, ukl, ukh, ucl, uch, ull, ulh⟩] = true) (h100 : (name.size : Int) ≤ 100) (hd0 : 0 ≤ day0) (hd1 : day0 ≤ 40000) (t : List Pa) (hr : applyL c l ⟨op, day, part, kind, into, slot, key, value, ukl, ukh, ucl, uch, ull, ulh⟩ = (t, 0)) (hop : ¬ op = 2) (pname pkind pinto pslot : ByteArray) (pmade psince : Int) (pgone : Bool) (pprops : List Pr) (pkl pkh pcl pch pdl pdh : Int) (hpf : pfind l name = some ⟨pname, pkind, pinto, pslot, pmade, psince, pgone, pprops, pkl, pkh, pcl, pch, pdl, pdh⟩) (hi : pinto.toList.isEmpty = false) (hv : validB c l = true) :
    Calls Tryz.prog 6 #[.agg #[cv], .agg #[sv], .agg #[.int .i64 op, .int .i64 day, .string part, .string kind, .string into, .string slot, .string key, .string value, .int .i64 ukl, .int .i64 ukh, .int .i64 ucl, .int .i64 uch, .int .i64 ull, .int .i64 ulh], .string name, .int .i64 day0] w fun e w' => e = .returned (.bool true) ∧ Below w.heap.size w w' := by
  obtain ⟨A', cc, rfl, _⟩ := Rd.form hcat
  obtain ⟨A, cs, rfl, hn⟩ := Rd.form hsta
  have HST := Lib.hid hsta
  have HEV := Lib.hid hev
  have HFW := Lib.hid (fun W (h : Below w.heap.size w W) {g : Nat} (hv : Sl W (.slice (some ⟨g, 0, none⟩) 1 1) 1 14 (evF [⟨op, day, part, kind, into, slot, key, value, ukl, ukh, ucl, uch, ull, ulh⟩])) => few_any W (.slice A' c.length cc) (.slice A l.length cs) (.slice (some ⟨g, 0, none⟩) 1 1) c l [⟨op, day, part, kind, into, slot, key, value, ukl, ukh, ucl, uch, ull, ulh⟩] W (Below.refl _ _) (hcat.below h) (hsta.below h) hv hl hps (by simp [maxLen]))
  have HAP := Lib.hid (fun (h65 : c.length ≤ 65 ∧ ∀ k ∈ c, k.short) W0 (h0 : Below w.heap.size w W0) sv' l' (hs' : Sta W0 sv' l') (hl' : l'.length ≤ 20000) (hsh' : ∀ p ∈ l', p.short) ev t W (hr : applyL c l' ev = (t, 0)) (h : Below W0.heap.size W0 W) hev => apply_ok W0 (.slice A' c.length cc) sv' c l' ev t W hr h (hcat.below h0) (by omega) h65.2 hs' (by omega) hsh' hev)
  have HAN := Lib.hid (fun (h65 : c.length ≤ 65 ∧ ∀ k ∈ c, k.short) (h20 : l.length ≤ 20 ∧ ∀ p ∈ l, p.short) ev W (hr : (applyL c l ev).2 ≠ 0) (h : Below w.heap.size w W) hev => apply_no w (.slice A' c.length cc) (.slice A l.length cs) c l ev W hr h hcat (by omega) h65.2 hsta (by omega) h20.2 hev)
  have HVL := Lib.hid (fun (h65 : c.length ≤ 65 ∧ ∀ k ∈ c, k.short) (h20 : l.length ≤ 20 ∧ ∀ p ∈ l, p.short) W (h : Below w.heap.size w W) => fvalid_any w (.slice A' c.length cc) (.slice A l.length cs) c l W h hcat (by omega) h65.2 hsta (by omega) h20.2)
  have HFD := Lib.hid (fun (h20 : l.length ≤ 20) W (h : Below w.heap.size w W) => fpart_any w (.slice A l.length cs) l name W h hsta (by omega))
  have k1 := ((Has.new w 24 #[.slice A' c.length cc]).alloc (.cells #[.slice A l.length cs] 27)).alloc (.cells #[.int .i64 op, .int .i64 day, .string part, .string kind, .string into, .string slot, .string key, .string value, .int .i64 ukl, .int .i64 ukh, .int .i64 ucl, .int .i64 uch, .int .i64 ull, .int .i64 ulh] 33)
  have k2 := (Has.new (w.alloc (.cells #[.slice A' c.length cc] 24)) 27 #[.slice A l.length cs]).alloc (.cells #[.int .i64 op, .int .i64 day, .string part, .string kind, .string into, .string slot, .string key, .string value, .int .i64 ukl, .int .i64 ukh, .int .i64 ucl, .int .i64 uch, .int .i64 ull, .int .i64 ulh] 33)
  have k3 := Has.new ((w.alloc (.cells #[.slice A' c.length cc] 24)).alloc (.cells #[.slice A l.length cs] 27)) 33 #[.int .i64 op, .int .i64 day, .string part, .string kind, .string into, .string slot, .string key, .string value, .int .i64 ukl, .int .i64 ukh, .int .i64 ucl, .int .i64 uch, .int .i64 ull, .int .i64 ulh]
  simp only [World.size_alloc] at k2 k3
  have KC0 := Lib.hid k1
  have KS0 := Lib.hid k2
  have KE0 := Lib.hid k3
  have HB0 := Lib.hid ((((Below.refl w.heap.size w).alloc (Nat.le_refl _) (.cells #[.slice A' c.length cc] 24)).alloc (by simp) (.cells #[.slice A l.length cs] 27)).alloc (by simp; omega) (.cells #[.int .i64 op, .int .i64 day, .string part, .string kind, .string into, .string slot, .string key, .string value, .int .i64 ukl, .int .i64 ukh, .int .i64 ucl, .int .i64 uch, .int .i64 ull, .int .i64 ulh] 33))
  show Calls Tryz.prog 6 #[.agg #[.slice A' c.length cc], .agg #[.slice A l.length cs], .agg #[.int .i64 op, .int .i64 day, .string part, .string kind, .string into, .string slot, .string key, .string value, .int .i64 ukl, .int .i64 ukh, .int .i64 ucl, .int .i64 uch, .int .i64 ull, .int .i64 ulh], .string name, .int .i64 day0] w _
  clear hcat hsta hps k1 k2 k3
  obtain ⟨h65, h20⟩ := fewB_take hfew
  have HVL := Lib.hid (HVL.out h65 h20)
  have HAP := Lib.hid (HAP.out h65)
  have HAN := Lib.hid (HAN.out h65 h20)
  have HFD := Lib.hid (HFD.out h20.1)
  have HL := Lib.hid (show l.length ≤ 20000 by omega)
  have HL6 := Lib.hid (show l.length ≤ 1000000 by omega)
  have HSH := Lib.hid h20.2
  have HPR := Lib.hid (fun p (hp : p ∈ l) => (h20.2 p hp).2.2.2.2.1)
  have HFEW := Lib.hid hfew
  clear hfew h65 h20
  unfold big at hn0
  have hsn : (removeE day0 name).short := by unfold Ev.short; dsimp only [removeE]; unfold maxLen; exact ⟨by omega, by decide, by decide, by decide, by decide, by decide⟩
  have HSN := Lib.hid hsn
  have HSR := Lib.hid (show (removeE day0 part).short from ⟨HEV.out.1, eS_max, eS_max, eS_max, eS_max, eS_max⟩)
  clear hsn
  have HTL := Lib.hid (apply_short HSH.out HEV.out hr)
  have HOK := Lib.hid (fun W (h : Below w.heap.size w W) => HAP.out w (Below.refl _ _) (.slice A l.length cs) l HST.out HL.out HSH.out _ t W hr h HEV.out)
  have hob : (op == 2) = false := by simpa using hop
  clear hr hop
  obtain ⟨hpm, hpn⟩ := pfind_mem hpf
  rw [hpf] at HFD
  have HPM := Lib.hid hpm
  have HPN := Lib.hid hpn
  have HPSH := Lib.hid (HSH.out _ hpm)
  clear hpf hpm hpn
  simp only [Option.getD_some, Option.isSome_some] at HFD
  have hie := emp_iff pinto
  have HNE2 := Lib.hid (show pinto ≠ eS from fun e => by rw [hi, decide_eq_true e] at hie; cases hie)
  clear hie
  have HV := Lib.hid hv
  clear hv
  obtain ⟨hr1, hr2⟩ := back_fit HV.out HPM.out HNE2.out hd0 hd1
  have ht2 := apply_short HSH.out (by rw [HPN.out]; exact HSN.out) hr1
  dsimp only at hr1 hr2 ht2
  have hpn2 : pname = name := HPN.out
  have HSF := Lib.hid (show (fitD day0 name pinto pslot).short from ⟨HSN.out.1, eS_max, HPSH.out.2.2.1, HPSH.out.2.2.2.1, eS_max, eS_max⟩)
  generalize putP l _ = t2 at hr1 hr2 ht2
  rw [hpn2] at hr1 hr2
  have HR1 := Lib.hid hr1
  have HR2 := Lib.hid hr2
  have HT2 := Lib.hid ht2
  clear hr1 hr2 ht2 hpn2
  go_enter Tryz.func6, Tryz.ntmps6
  go_wp2_with fail
  refine (head_any _).mono ?_
  rintro e w1 ⟨rfl, hb1⟩
  have kC := (KC0.out).below hb1 (KC0.out).lt
  obtain ⟨xC1, yC1⟩ := kC.facts
  have zC1 := kC.lt
  have KC1 := Lib.hid kC
  have kS := (KS0.out).below hb1 (KS0.out).lt
  obtain ⟨xS1, yS1⟩ := kS.facts
  have zS1 := kS.lt
  have KS1 := Lib.hid kS
  have kE := (KE0.out).below hb1 (KE0.out).lt
  obtain ⟨xE1, yE1⟩ := kE.facts
  have zE1 := kE.lt
  have KE1 := Lib.hid kE
  have HB1 := Lib.hid ((HB0.out).trans (hb1.mono (HB0.out).size))
  clear hb1 kC kS kE
  go_wp2_with fail
  refine (HFW.out _ ((HB1.out).alloc (HB1.out).size _) (ev_sl (e := ⟨op, day, part, kind, into, slot, key, value, ukl, ukh, ucl, uch, ull, ulh⟩) (Has.new w1 33 #[.int .i64 op, .int .i64 day, .string part, .string kind, .string into, .string slot, .string key, .string value, .int .i64 ukl, .int .i64 ukh, .int .i64 ucl, .int .i64 uch, .int .i64 ull, .int .i64 ulh]))).mono ?_
  rintro e w2 ⟨rfl, hb2⟩
  rw [HFEW.out]
  clear xC1 yC1 zC1 xS1 yS1 zS1 xE1 yE1 zE1
  have kC := ((KC1.out).alloc _).below hb2 ((KC1.out).alloc _).lt
  obtain ⟨xC2, yC2⟩ := kC.facts
  have zC2 := kC.lt
  have KC2 := Lib.hid kC
  have kS := ((KS1.out).alloc _).below hb2 ((KS1.out).alloc _).lt
  obtain ⟨xS2, yS2⟩ := kS.facts
  have zS2 := kS.lt
  have KS2 := Lib.hid kS
  have kE := ((KE1.out).alloc _).below hb2 ((KE1.out).alloc _).lt
  obtain ⟨xE2, yE2⟩ := kE.facts
  have zE2 := kE.lt
  have KE2 := Lib.hid kE
  have HB2 := Lib.hid (((HB1.out).alloc (HB1.out).size _).trans (hb2.mono ((HB1.out).alloc (HB1.out).size _).size))
  clear hb2 kC kS kE
  go_wp2_with fail
  refine (HOK.out _ (HB2.out)).mono ?_
  rintro e w3 ⟨A3, c3, rfl, hst3, hb3⟩
  have HST3 := Lib.hid hst3
  clear hst3
  clear xC2 yC2 zC2 xS2 yS2 zS2 xE2 yE2 zE2
  have kC := (KC2.out).below hb3 (KC2.out).lt
  obtain ⟨xC3, yC3⟩ := kC.facts
  have zC3 := kC.lt
  have KC3 := Lib.hid kC
  have kS := (KS2.out).below hb3 (KS2.out).lt
  obtain ⟨xS3, yS3⟩ := kS.facts
  have zS3 := kS.lt
  have KS3 := Lib.hid kS
  have kE := (KE2.out).below hb3 (KE2.out).lt
  obtain ⟨xE3, yE3⟩ := kE.facts
  have zE3 := kE.lt
  have KE3 := Lib.hid kE
  have HB3 := Lib.hid ((HB2.out).trans (hb3.mono (HB2.out).size))
  clear hb3 kC kS kE
  go_wp2_with fail
  refine (HFD.out _ ((HB3.out).alloc (HB3.out).size _)).mono ?_
  rintro e w4 ⟨A2, m2, rfl, _, hb4⟩
  clear xC3 yC3 zC3 xS3 yS3 zS3 xE3 yE3 zE3
  have kC := ((KC3.out).alloc _).below hb4 ((KC3.out).alloc _).lt
  obtain ⟨xC4, yC4⟩ := kC.facts
  have zC4 := kC.lt
  have KC4 := Lib.hid kC
  have kS := ((KS3.out).alloc _).below hb4 ((KS3.out).alloc _).lt
  obtain ⟨xS4, yS4⟩ := kS.facts
  have zS4 := kS.lt
  have KS4 := Lib.hid kS
  have kE := ((KE3.out).alloc _).below hb4 ((KE3.out).alloc _).lt
  obtain ⟨xE4, yE4⟩ := kE.facts
  have zE4 := kE.lt
  have KE4 := Lib.hid kE
  have HB4 := Lib.hid (((HB3.out).alloc (HB3.out).size _).trans (hb4.mono ((HB3.out).alloc (HB3.out).size _).size))
  clear hb4 kC kS kE
  go_wp2_with fail
  refine (HVL.out _ ((HB4.out).alloc (HB4.out).size _)).mono ?_
  rintro e w5 ⟨rfl, hb5⟩
  rw [HV.out]
  clear xC4 yC4 zC4 xS4 yS4 zS4 xE4 yE4 zE4
  have kC := ((KC4.out).alloc _).below hb5 ((KC4.out).alloc _).lt
  obtain ⟨xC5, yC5⟩ := kC.facts
  have zC5 := kC.lt
  have KC5 := Lib.hid kC
  have kS := ((KS4.out).alloc _).below hb5 ((KS4.out).alloc _).lt
  obtain ⟨xS5, yS5⟩ := kS.facts
  have zS5 := kS.lt
  have KS5 := Lib.hid kS
  have kE := ((KE4.out).alloc _).below hb5 ((KE4.out).alloc _).lt
  obtain ⟨xE5, yE5⟩ := kE.facts
  have zE5 := kE.lt
  have KE5 := Lib.hid kE
  have kP := (Has.new (w4) 47 #[.string pname, .string pkind, .string pinto, .string pslot, .int .i64 pmade, .int .i64 psince, .bool pgone, .slice A2 pprops.length m2, .int .i64 pkl, .int .i64 pkh, .int .i64 pcl, .int .i64 pch, .int .i64 pdl, .int .i64 pdh]).below hb5 (Has.new (w4) 47 #[.string pname, .string pkind, .string pinto, .string pslot, .int .i64 pmade, .int .i64 psince, .bool pgone, .slice A2 pprops.length m2, .int .i64 pkl, .int .i64 pkh, .int .i64 pcl, .int .i64 pch, .int .i64 pdl, .int .i64 pdh]).lt
  obtain ⟨xP5, yP5⟩ := kP.facts
  have zP5 := kP.lt
  have KP5 := Lib.hid kP
  have HB5 := Lib.hid (((HB4.out).alloc (HB4.out).size _).trans (hb5.mono ((HB4.out).alloc (HB4.out).size _).size))
  clear hb5 kC kS kE kP
  go_wp2_with fail
  refine (HAP.out w (Below.refl _ _) (.slice A l.length cs) l HST.out HL.out HSH.out (removeE day0 name) t2 _ HR1.out (HB5.out) HSN.out).mono ?_
  rintro e w6 ⟨A8, c8, rfl, hst8, hb6⟩
  have HST8 := Lib.hid hst8
  clear hst8
  clear xC5 yC5 zC5 xS5 yS5 zS5 xE5 yE5 zE5 xP5 yP5 zP5
  have kC := (KC5.out).below hb6 (KC5.out).lt
  obtain ⟨xC6, yC6⟩ := kC.facts
  have zC6 := kC.lt
  have KC6 := Lib.hid kC
  have kS := (KS5.out).below hb6 (KS5.out).lt
  obtain ⟨xS6, yS6⟩ := kS.facts
  have zS6 := kS.lt
  have KS6 := Lib.hid kS
  have kE := (KE5.out).below hb6 (KE5.out).lt
  obtain ⟨xE6, yE6⟩ := kE.facts
  have zE6 := kE.lt
  have KE6 := Lib.hid kE
  have kP := (KP5.out).below hb6 (KP5.out).lt
  obtain ⟨xP6, yP6⟩ := kP.facts
  have zP6 := kP.lt
  have KP6 := Lib.hid kP
  have HB6 := Lib.hid ((HB5.out).trans (hb6.mono (HB5.out).size))
  clear hb6 kC kS kE kP
  go_wp2_with fail
  refine (HAP.out w6 HB6.out (.slice A8 t2.length c8) t2 HST8.out HT2.out.1 HT2.out.2 (fitD day0 name pinto pslot) l _ HR2.out ((Below.refl w6.heap.size w6).alloc (Nat.le_refl _) _) HSF.out).mono ?_
  rintro e w7 ⟨A9, c9, rfl, hst9, hb7⟩
  have HST9 := Lib.hid hst9
  clear hst9
  clear xC6 yC6 zC6 xS6 yS6 zS6 xE6 yE6 zE6 xP6 yP6 zP6
  have kC := ((KC6.out).alloc _).below hb7 ((KC6.out).alloc _).lt
  obtain ⟨xC7, yC7⟩ := kC.facts
  have zC7 := kC.lt
  have KC7 := Lib.hid kC
  have kS := ((KS6.out).alloc _).below hb7 ((KS6.out).alloc _).lt
  obtain ⟨xS7, yS7⟩ := kS.facts
  have zS7 := kS.lt
  have KS7 := Lib.hid kS
  have kE := ((KE6.out).alloc _).below hb7 ((KE6.out).alloc _).lt
  obtain ⟨xE7, yE7⟩ := kE.facts
  have zE7 := kE.lt
  have KE7 := Lib.hid kE
  have kP := ((KP6.out).alloc _).below hb7 ((KP6.out).alloc _).lt
  obtain ⟨xP7, yP7⟩ := kP.facts
  have zP7 := kP.lt
  have KP7 := Lib.hid kP
  have kT := (Has.new (w6) 27 #[.slice A8 t2.length c8]).below hb7 (Has.new (w6) 27 #[.slice A8 t2.length c8]).lt
  obtain ⟨xT7, yT7⟩ := kT.facts
  have zT7 := kT.lt
  have KT7 := Lib.hid kT
  have HB7 := Lib.hid (((HB6.out).alloc (HB6.out).size _).trans (hb7.mono ((HB6.out).alloc (HB6.out).size _).size))
  clear hb7 kC kS kE kP kT
  go_wp2_with fail
  refine (same10_any w7 (.slice A9 l.length c9) (.slice A l.length cs) l l _ ((Below.refl w7.heap.size w7).alloc (Nat.le_refl _) _) HST9.out (HST.out.below HB7.out) HL6.out HL6.out HPR.out HPR.out).mono ?_
  rintro e w8 ⟨rfl, hb8⟩
  rw [decide_eq_true rfl]
  clear xC7 yC7 zC7 xS7 yS7 zS7 xE7 yE7 zE7 xP7 yP7 zP7 xT7 yT7 zT7
  have kC := ((KC7.out).alloc _).below hb8 ((KC7.out).alloc _).lt
  obtain ⟨xC8, yC8⟩ := kC.facts
  have zC8 := kC.lt
  have KC8 := Lib.hid kC
  have kS := ((KS7.out).alloc _).below hb8 ((KS7.out).alloc _).lt
  obtain ⟨xS8, yS8⟩ := kS.facts
  have zS8 := kS.lt
  have KS8 := Lib.hid kS
  have kE := ((KE7.out).alloc _).below hb8 ((KE7.out).alloc _).lt
  obtain ⟨xE8, yE8⟩ := kE.facts
  have zE8 := kE.lt
  have KE8 := Lib.hid kE
  have kP := ((KP7.out).alloc _).below hb8 ((KP7.out).alloc _).lt
  obtain ⟨xP8, yP8⟩ := kP.facts
  have zP8 := kP.lt
  have KP8 := Lib.hid kP
  have HB8 := Lib.hid (((HB7.out).alloc (HB7.out).size _).trans (hb8.mono ((HB7.out).alloc (HB7.out).size _).size))
  clear hb8 kC kS kE kP
  go_wp2_with fail
  go_ret
  exact ⟨rfl, HB8.out⟩
set_option maxRecDepth 100000 in
set_option maxHeartbeats 8000000 in
theorem back_C_none (cv sv : Value) (c : List Kd) (l : List Pa) (op day : Int) (part kind into slot key value : ByteArray) (ukl ukh ucl uch ull ulh : Int) (name : ByteArray) (day0 : Int) (w : World) (hcat : Cat w cv c) (hsta : Sta w sv l) (hl : l.length ≤ maxLen) (hps : ∀ p ∈ l, p.wide) (hev : Ev.short ⟨op, day, part, kind, into, slot, key, value, ukl, ukh, ucl, uch, ull, ulh⟩) (hn0 : name.size ≤ big) (hfew : fewB c l [⟨op, day, part, kind, into, slot, key, value, ukl, ukh, ucl, uch, ull, ulh⟩] = true) (h100 : (name.size : Int) ≤ 100) (hd0 : 0 ≤ day0) (hd1 : day0 ≤ 40000) (t : List Pa) (re : Int) (hr : applyL c l ⟨op, day, part, kind, into, slot, key, value, ukl, ukh, ucl, uch, ull, ulh⟩ = (t, re)) (hre : ¬ re = 0) (hpf : pfind l name = none) :
    Calls Tryz.prog 6 #[.agg #[cv], .agg #[sv], .agg #[.int .i64 op, .int .i64 day, .string part, .string kind, .string into, .string slot, .string key, .string value, .int .i64 ukl, .int .i64 ukh, .int .i64 ucl, .int .i64 uch, .int .i64 ull, .int .i64 ulh], .string name, .int .i64 day0] w fun e w' => e = .returned (.bool true) ∧ Below w.heap.size w w' := by
  obtain ⟨A', cc, rfl, _⟩ := Rd.form hcat
  obtain ⟨A, cs, rfl, hn⟩ := Rd.form hsta
  have HST := Lib.hid hsta
  have HEV := Lib.hid hev
  have HFW := Lib.hid (fun W (h : Below w.heap.size w W) {g : Nat} (hv : Sl W (.slice (some ⟨g, 0, none⟩) 1 1) 1 14 (evF [⟨op, day, part, kind, into, slot, key, value, ukl, ukh, ucl, uch, ull, ulh⟩])) => few_any W (.slice A' c.length cc) (.slice A l.length cs) (.slice (some ⟨g, 0, none⟩) 1 1) c l [⟨op, day, part, kind, into, slot, key, value, ukl, ukh, ucl, uch, ull, ulh⟩] W (Below.refl _ _) (hcat.below h) (hsta.below h) hv hl hps (by simp [maxLen]))
  have HAP := Lib.hid (fun (h65 : c.length ≤ 65 ∧ ∀ k ∈ c, k.short) W0 (h0 : Below w.heap.size w W0) sv' l' (hs' : Sta W0 sv' l') (hl' : l'.length ≤ 20000) (hsh' : ∀ p ∈ l', p.short) ev t W (hr : applyL c l' ev = (t, 0)) (h : Below W0.heap.size W0 W) hev => apply_ok W0 (.slice A' c.length cc) sv' c l' ev t W hr h (hcat.below h0) (by omega) h65.2 hs' (by omega) hsh' hev)
  have HAN := Lib.hid (fun (h65 : c.length ≤ 65 ∧ ∀ k ∈ c, k.short) (h20 : l.length ≤ 20 ∧ ∀ p ∈ l, p.short) ev W (hr : (applyL c l ev).2 ≠ 0) (h : Below w.heap.size w W) hev => apply_no w (.slice A' c.length cc) (.slice A l.length cs) c l ev W hr h hcat (by omega) h65.2 hsta (by omega) h20.2 hev)
  have HVL := Lib.hid (fun (h65 : c.length ≤ 65 ∧ ∀ k ∈ c, k.short) (h20 : l.length ≤ 20 ∧ ∀ p ∈ l, p.short) W (h : Below w.heap.size w W) => fvalid_any w (.slice A' c.length cc) (.slice A l.length cs) c l W h hcat (by omega) h65.2 hsta (by omega) h20.2)
  have HFD := Lib.hid (fun (h20 : l.length ≤ 20) W (h : Below w.heap.size w W) => fpart_any w (.slice A l.length cs) l name W h hsta (by omega))
  have k1 := ((Has.new w 24 #[.slice A' c.length cc]).alloc (.cells #[.slice A l.length cs] 27)).alloc (.cells #[.int .i64 op, .int .i64 day, .string part, .string kind, .string into, .string slot, .string key, .string value, .int .i64 ukl, .int .i64 ukh, .int .i64 ucl, .int .i64 uch, .int .i64 ull, .int .i64 ulh] 33)
  have k2 := (Has.new (w.alloc (.cells #[.slice A' c.length cc] 24)) 27 #[.slice A l.length cs]).alloc (.cells #[.int .i64 op, .int .i64 day, .string part, .string kind, .string into, .string slot, .string key, .string value, .int .i64 ukl, .int .i64 ukh, .int .i64 ucl, .int .i64 uch, .int .i64 ull, .int .i64 ulh] 33)
  have k3 := Has.new ((w.alloc (.cells #[.slice A' c.length cc] 24)).alloc (.cells #[.slice A l.length cs] 27)) 33 #[.int .i64 op, .int .i64 day, .string part, .string kind, .string into, .string slot, .string key, .string value, .int .i64 ukl, .int .i64 ukh, .int .i64 ucl, .int .i64 uch, .int .i64 ull, .int .i64 ulh]
  simp only [World.size_alloc] at k2 k3
  have KC0 := Lib.hid k1
  have KS0 := Lib.hid k2
  have KE0 := Lib.hid k3
  have HB0 := Lib.hid ((((Below.refl w.heap.size w).alloc (Nat.le_refl _) (.cells #[.slice A' c.length cc] 24)).alloc (by simp) (.cells #[.slice A l.length cs] 27)).alloc (by simp; omega) (.cells #[.int .i64 op, .int .i64 day, .string part, .string kind, .string into, .string slot, .string key, .string value, .int .i64 ukl, .int .i64 ukh, .int .i64 ucl, .int .i64 uch, .int .i64 ull, .int .i64 ulh] 33))
  show Calls Tryz.prog 6 #[.agg #[.slice A' c.length cc], .agg #[.slice A l.length cs], .agg #[.int .i64 op, .int .i64 day, .string part, .string kind, .string into, .string slot, .string key, .string value, .int .i64 ukl, .int .i64 ukh, .int .i64 ucl, .int .i64 uch, .int .i64 ull, .int .i64 ulh], .string name, .int .i64 day0] w _
  clear hcat hsta hps k1 k2 k3
  obtain ⟨h65, h20⟩ := fewB_take hfew
  have HVL := Lib.hid (HVL.out h65 h20)
  have HAP := Lib.hid (HAP.out h65)
  have HAN := Lib.hid (HAN.out h65 h20)
  have HFD := Lib.hid (HFD.out h20.1)
  have HL := Lib.hid (show l.length ≤ 20000 by omega)
  have HL6 := Lib.hid (show l.length ≤ 1000000 by omega)
  have HSH := Lib.hid h20.2
  have HPR := Lib.hid (fun p (hp : p ∈ l) => (h20.2 p hp).2.2.2.2.1)
  have HFEW := Lib.hid hfew
  clear hfew h65 h20
  unfold big at hn0
  have hsn : (removeE day0 name).short := by unfold Ev.short; dsimp only [removeE]; unfold maxLen; exact ⟨by omega, by decide, by decide, by decide, by decide, by decide⟩
  have HSN := Lib.hid hsn
  have HSR := Lib.hid (show (removeE day0 part).short from ⟨HEV.out.1, eS_max, eS_max, eS_max, eS_max, eS_max⟩)
  clear hsn
  have HNE := Lib.hid hre
  have HNO := Lib.hid (fun W (h : Below w.heap.size w W) => HAN.out _ W (by rw [hr]; exact hre) h HEV.out)
  rw [hr] at HNO
  have hrb : (re == 0) = false := by simpa using hre
  clear hr hre
  rw [hpf] at HFD
  simp only [Option.getD_none, Option.isSome_none, noPa, List.length_nil] at HFD
  clear hpf
  go_enter Tryz.func6, Tryz.ntmps6
  go_wp2_with fail
  refine (head_any _).mono ?_
  rintro e w1 ⟨rfl, hb1⟩
  have kC := (KC0.out).below hb1 (KC0.out).lt
  obtain ⟨xC1, yC1⟩ := kC.facts
  have zC1 := kC.lt
  have KC1 := Lib.hid kC
  have kS := (KS0.out).below hb1 (KS0.out).lt
  obtain ⟨xS1, yS1⟩ := kS.facts
  have zS1 := kS.lt
  have KS1 := Lib.hid kS
  have kE := (KE0.out).below hb1 (KE0.out).lt
  obtain ⟨xE1, yE1⟩ := kE.facts
  have zE1 := kE.lt
  have KE1 := Lib.hid kE
  have HB1 := Lib.hid ((HB0.out).trans (hb1.mono (HB0.out).size))
  clear hb1 kC kS kE
  go_wp2_with fail
  refine (HFW.out _ ((HB1.out).alloc (HB1.out).size _) (ev_sl (e := ⟨op, day, part, kind, into, slot, key, value, ukl, ukh, ucl, uch, ull, ulh⟩) (Has.new w1 33 #[.int .i64 op, .int .i64 day, .string part, .string kind, .string into, .string slot, .string key, .string value, .int .i64 ukl, .int .i64 ukh, .int .i64 ucl, .int .i64 uch, .int .i64 ull, .int .i64 ulh]))).mono ?_
  rintro e w2 ⟨rfl, hb2⟩
  rw [HFEW.out]
  clear xC1 yC1 zC1 xS1 yS1 zS1 xE1 yE1 zE1
  have kC := ((KC1.out).alloc _).below hb2 ((KC1.out).alloc _).lt
  obtain ⟨xC2, yC2⟩ := kC.facts
  have zC2 := kC.lt
  have KC2 := Lib.hid kC
  have kS := ((KS1.out).alloc _).below hb2 ((KS1.out).alloc _).lt
  obtain ⟨xS2, yS2⟩ := kS.facts
  have zS2 := kS.lt
  have KS2 := Lib.hid kS
  have kE := ((KE1.out).alloc _).below hb2 ((KE1.out).alloc _).lt
  obtain ⟨xE2, yE2⟩ := kE.facts
  have zE2 := kE.lt
  have KE2 := Lib.hid kE
  have HB2 := Lib.hid (((HB1.out).alloc (HB1.out).size _).trans (hb2.mono ((HB1.out).alloc (HB1.out).size _).size))
  clear hb2 kC kS kE
  go_wp2_with fail
  refine (HNO.out _ (HB2.out)).mono ?_
  rintro e w3 ⟨A3, c3, rfl, hb3⟩
  clear xC2 yC2 zC2 xS2 yS2 zS2 xE2 yE2 zE2
  have kC := (KC2.out).below hb3 (KC2.out).lt
  obtain ⟨xC3, yC3⟩ := kC.facts
  have zC3 := kC.lt
  have KC3 := Lib.hid kC
  have kS := (KS2.out).below hb3 (KS2.out).lt
  obtain ⟨xS3, yS3⟩ := kS.facts
  have zS3 := kS.lt
  have KS3 := Lib.hid kS
  have kE := (KE2.out).below hb3 (KE2.out).lt
  obtain ⟨xE3, yE3⟩ := kE.facts
  have zE3 := kE.lt
  have KE3 := Lib.hid kE
  have HB3 := Lib.hid ((HB2.out).trans (hb3.mono (HB2.out).size))
  clear hb3 kC kS kE
  go_wp2_with fail
  refine (HFD.out _ ((HB3.out).alloc (HB3.out).size _)).mono ?_
  rintro e w4 ⟨A2, m2, rfl, _, hb4⟩
  clear xC3 yC3 zC3 xS3 yS3 zS3 xE3 yE3 zE3
  have kC := ((KC3.out).alloc _).below hb4 ((KC3.out).alloc _).lt
  obtain ⟨xC4, yC4⟩ := kC.facts
  have zC4 := kC.lt
  have KC4 := Lib.hid kC
  have kS := ((KS3.out).alloc _).below hb4 ((KS3.out).alloc _).lt
  obtain ⟨xS4, yS4⟩ := kS.facts
  have zS4 := kS.lt
  have KS4 := Lib.hid kS
  have kE := ((KE3.out).alloc _).below hb4 ((KE3.out).alloc _).lt
  obtain ⟨xE4, yE4⟩ := kE.facts
  have zE4 := kE.lt
  have KE4 := Lib.hid kE
  have HB4 := Lib.hid (((HB3.out).alloc (HB3.out).size _).trans (hb4.mono ((HB3.out).alloc (HB3.out).size _).size))
  clear hb4 kC kS kE
  go_wp2_with fail
  go_ret
  exact ⟨rfl, (HB4.out).alloc (HB4.out).size _⟩
set_option maxRecDepth 100000 in
set_option maxHeartbeats 8000000 in
theorem back_C_empty (cv sv : Value) (c : List Kd) (l : List Pa) (op day : Int) (part kind into slot key value : ByteArray) (ukl ukh ucl uch ull ulh : Int) (name : ByteArray) (day0 : Int) (w : World) (hcat : Cat w cv c) (hsta : Sta w sv l) (hl : l.length ≤ maxLen) (hps : ∀ p ∈ l, p.wide) (hev : Ev.short ⟨op, day, part, kind, into, slot, key, value, ukl, ukh, ucl, uch, ull, ulh⟩) (hn0 : name.size ≤ big) (hfew : fewB c l [⟨op, day, part, kind, into, slot, key, value, ukl, ukh, ucl, uch, ull, ulh⟩] = true) (h100 : (name.size : Int) ≤ 100) (hd0 : 0 ≤ day0) (hd1 : day0 ≤ 40000) (t : List Pa) (re : Int) (hr : applyL c l ⟨op, day, part, kind, into, slot, key, value, ukl, ukh, ucl, uch, ull, ulh⟩ = (t, re)) (hre : ¬ re = 0) (pname pkind pinto pslot : ByteArray) (pmade psince : Int) (pgone : Bool) (pprops : List Pr) (pkl pkh pcl pch pdl pdh : Int) (hpf : pfind l name = some ⟨pname, pkind, pinto, pslot, pmade, psince, pgone, pprops, pkl, pkh, pcl, pch, pdl, pdh⟩) (hi : pinto.toList.isEmpty = true) :
    Calls Tryz.prog 6 #[.agg #[cv], .agg #[sv], .agg #[.int .i64 op, .int .i64 day, .string part, .string kind, .string into, .string slot, .string key, .string value, .int .i64 ukl, .int .i64 ukh, .int .i64 ucl, .int .i64 uch, .int .i64 ull, .int .i64 ulh], .string name, .int .i64 day0] w fun e w' => e = .returned (.bool true) ∧ Below w.heap.size w w' := by
  obtain ⟨A', cc, rfl, _⟩ := Rd.form hcat
  obtain ⟨A, cs, rfl, hn⟩ := Rd.form hsta
  have HST := Lib.hid hsta
  have HEV := Lib.hid hev
  have HFW := Lib.hid (fun W (h : Below w.heap.size w W) {g : Nat} (hv : Sl W (.slice (some ⟨g, 0, none⟩) 1 1) 1 14 (evF [⟨op, day, part, kind, into, slot, key, value, ukl, ukh, ucl, uch, ull, ulh⟩])) => few_any W (.slice A' c.length cc) (.slice A l.length cs) (.slice (some ⟨g, 0, none⟩) 1 1) c l [⟨op, day, part, kind, into, slot, key, value, ukl, ukh, ucl, uch, ull, ulh⟩] W (Below.refl _ _) (hcat.below h) (hsta.below h) hv hl hps (by simp [maxLen]))
  have HAP := Lib.hid (fun (h65 : c.length ≤ 65 ∧ ∀ k ∈ c, k.short) W0 (h0 : Below w.heap.size w W0) sv' l' (hs' : Sta W0 sv' l') (hl' : l'.length ≤ 20000) (hsh' : ∀ p ∈ l', p.short) ev t W (hr : applyL c l' ev = (t, 0)) (h : Below W0.heap.size W0 W) hev => apply_ok W0 (.slice A' c.length cc) sv' c l' ev t W hr h (hcat.below h0) (by omega) h65.2 hs' (by omega) hsh' hev)
  have HAN := Lib.hid (fun (h65 : c.length ≤ 65 ∧ ∀ k ∈ c, k.short) (h20 : l.length ≤ 20 ∧ ∀ p ∈ l, p.short) ev W (hr : (applyL c l ev).2 ≠ 0) (h : Below w.heap.size w W) hev => apply_no w (.slice A' c.length cc) (.slice A l.length cs) c l ev W hr h hcat (by omega) h65.2 hsta (by omega) h20.2 hev)
  have HVL := Lib.hid (fun (h65 : c.length ≤ 65 ∧ ∀ k ∈ c, k.short) (h20 : l.length ≤ 20 ∧ ∀ p ∈ l, p.short) W (h : Below w.heap.size w W) => fvalid_any w (.slice A' c.length cc) (.slice A l.length cs) c l W h hcat (by omega) h65.2 hsta (by omega) h20.2)
  have HFD := Lib.hid (fun (h20 : l.length ≤ 20) W (h : Below w.heap.size w W) => fpart_any w (.slice A l.length cs) l name W h hsta (by omega))
  have k1 := ((Has.new w 24 #[.slice A' c.length cc]).alloc (.cells #[.slice A l.length cs] 27)).alloc (.cells #[.int .i64 op, .int .i64 day, .string part, .string kind, .string into, .string slot, .string key, .string value, .int .i64 ukl, .int .i64 ukh, .int .i64 ucl, .int .i64 uch, .int .i64 ull, .int .i64 ulh] 33)
  have k2 := (Has.new (w.alloc (.cells #[.slice A' c.length cc] 24)) 27 #[.slice A l.length cs]).alloc (.cells #[.int .i64 op, .int .i64 day, .string part, .string kind, .string into, .string slot, .string key, .string value, .int .i64 ukl, .int .i64 ukh, .int .i64 ucl, .int .i64 uch, .int .i64 ull, .int .i64 ulh] 33)
  have k3 := Has.new ((w.alloc (.cells #[.slice A' c.length cc] 24)).alloc (.cells #[.slice A l.length cs] 27)) 33 #[.int .i64 op, .int .i64 day, .string part, .string kind, .string into, .string slot, .string key, .string value, .int .i64 ukl, .int .i64 ukh, .int .i64 ucl, .int .i64 uch, .int .i64 ull, .int .i64 ulh]
  simp only [World.size_alloc] at k2 k3
  have KC0 := Lib.hid k1
  have KS0 := Lib.hid k2
  have KE0 := Lib.hid k3
  have HB0 := Lib.hid ((((Below.refl w.heap.size w).alloc (Nat.le_refl _) (.cells #[.slice A' c.length cc] 24)).alloc (by simp) (.cells #[.slice A l.length cs] 27)).alloc (by simp; omega) (.cells #[.int .i64 op, .int .i64 day, .string part, .string kind, .string into, .string slot, .string key, .string value, .int .i64 ukl, .int .i64 ukh, .int .i64 ucl, .int .i64 uch, .int .i64 ull, .int .i64 ulh] 33))
  show Calls Tryz.prog 6 #[.agg #[.slice A' c.length cc], .agg #[.slice A l.length cs], .agg #[.int .i64 op, .int .i64 day, .string part, .string kind, .string into, .string slot, .string key, .string value, .int .i64 ukl, .int .i64 ukh, .int .i64 ucl, .int .i64 uch, .int .i64 ull, .int .i64 ulh], .string name, .int .i64 day0] w _
  clear hcat hsta hps k1 k2 k3
  obtain ⟨h65, h20⟩ := fewB_take hfew
  have HVL := Lib.hid (HVL.out h65 h20)
  have HAP := Lib.hid (HAP.out h65)
  have HAN := Lib.hid (HAN.out h65 h20)
  have HFD := Lib.hid (HFD.out h20.1)
  have HL := Lib.hid (show l.length ≤ 20000 by omega)
  have HL6 := Lib.hid (show l.length ≤ 1000000 by omega)
  have HSH := Lib.hid h20.2
  have HPR := Lib.hid (fun p (hp : p ∈ l) => (h20.2 p hp).2.2.2.2.1)
  have HFEW := Lib.hid hfew
  clear hfew h65 h20
  unfold big at hn0
  have hsn : (removeE day0 name).short := by unfold Ev.short; dsimp only [removeE]; unfold maxLen; exact ⟨by omega, by decide, by decide, by decide, by decide, by decide⟩
  have HSN := Lib.hid hsn
  have HSR := Lib.hid (show (removeE day0 part).short from ⟨HEV.out.1, eS_max, eS_max, eS_max, eS_max, eS_max⟩)
  clear hsn
  have HNE := Lib.hid hre
  have HNO := Lib.hid (fun W (h : Below w.heap.size w W) => HAN.out _ W (by rw [hr]; exact hre) h HEV.out)
  rw [hr] at HNO
  have hrb : (re == 0) = false := by simpa using hre
  clear hr hre
  obtain ⟨hpm, hpn⟩ := pfind_mem hpf
  rw [hpf] at HFD
  have HPM := Lib.hid hpm
  have HPN := Lib.hid hpn
  have HPSH := Lib.hid (HSH.out _ hpm)
  clear hpf hpm hpn
  simp only [Option.getD_some, Option.isSome_some] at HFD
  have hie := emp_iff pinto
  clear hie
  go_enter Tryz.func6, Tryz.ntmps6
  go_wp2_with fail
  refine (head_any _).mono ?_
  rintro e w1 ⟨rfl, hb1⟩
  have kC := (KC0.out).below hb1 (KC0.out).lt
  obtain ⟨xC1, yC1⟩ := kC.facts
  have zC1 := kC.lt
  have KC1 := Lib.hid kC
  have kS := (KS0.out).below hb1 (KS0.out).lt
  obtain ⟨xS1, yS1⟩ := kS.facts
  have zS1 := kS.lt
  have KS1 := Lib.hid kS
  have kE := (KE0.out).below hb1 (KE0.out).lt
  obtain ⟨xE1, yE1⟩ := kE.facts
  have zE1 := kE.lt
  have KE1 := Lib.hid kE
  have HB1 := Lib.hid ((HB0.out).trans (hb1.mono (HB0.out).size))
  clear hb1 kC kS kE
  go_wp2_with fail
  refine (HFW.out _ ((HB1.out).alloc (HB1.out).size _) (ev_sl (e := ⟨op, day, part, kind, into, slot, key, value, ukl, ukh, ucl, uch, ull, ulh⟩) (Has.new w1 33 #[.int .i64 op, .int .i64 day, .string part, .string kind, .string into, .string slot, .string key, .string value, .int .i64 ukl, .int .i64 ukh, .int .i64 ucl, .int .i64 uch, .int .i64 ull, .int .i64 ulh]))).mono ?_
  rintro e w2 ⟨rfl, hb2⟩
  rw [HFEW.out]
  clear xC1 yC1 zC1 xS1 yS1 zS1 xE1 yE1 zE1
  have kC := ((KC1.out).alloc _).below hb2 ((KC1.out).alloc _).lt
  obtain ⟨xC2, yC2⟩ := kC.facts
  have zC2 := kC.lt
  have KC2 := Lib.hid kC
  have kS := ((KS1.out).alloc _).below hb2 ((KS1.out).alloc _).lt
  obtain ⟨xS2, yS2⟩ := kS.facts
  have zS2 := kS.lt
  have KS2 := Lib.hid kS
  have kE := ((KE1.out).alloc _).below hb2 ((KE1.out).alloc _).lt
  obtain ⟨xE2, yE2⟩ := kE.facts
  have zE2 := kE.lt
  have KE2 := Lib.hid kE
  have HB2 := Lib.hid (((HB1.out).alloc (HB1.out).size _).trans (hb2.mono ((HB1.out).alloc (HB1.out).size _).size))
  clear hb2 kC kS kE
  go_wp2_with fail
  refine (HNO.out _ (HB2.out)).mono ?_
  rintro e w3 ⟨A3, c3, rfl, hb3⟩
  clear xC2 yC2 zC2 xS2 yS2 zS2 xE2 yE2 zE2
  have kC := (KC2.out).below hb3 (KC2.out).lt
  obtain ⟨xC3, yC3⟩ := kC.facts
  have zC3 := kC.lt
  have KC3 := Lib.hid kC
  have kS := (KS2.out).below hb3 (KS2.out).lt
  obtain ⟨xS3, yS3⟩ := kS.facts
  have zS3 := kS.lt
  have KS3 := Lib.hid kS
  have kE := (KE2.out).below hb3 (KE2.out).lt
  obtain ⟨xE3, yE3⟩ := kE.facts
  have zE3 := kE.lt
  have KE3 := Lib.hid kE
  have HB3 := Lib.hid ((HB2.out).trans (hb3.mono (HB2.out).size))
  clear hb3 kC kS kE
  go_wp2_with fail
  refine (HFD.out _ ((HB3.out).alloc (HB3.out).size _)).mono ?_
  rintro e w4 ⟨A2, m2, rfl, _, hb4⟩
  clear xC3 yC3 zC3 xS3 yS3 zS3 xE3 yE3 zE3
  have kC := ((KC3.out).alloc _).below hb4 ((KC3.out).alloc _).lt
  obtain ⟨xC4, yC4⟩ := kC.facts
  have zC4 := kC.lt
  have KC4 := Lib.hid kC
  have kS := ((KS3.out).alloc _).below hb4 ((KS3.out).alloc _).lt
  obtain ⟨xS4, yS4⟩ := kS.facts
  have zS4 := kS.lt
  have KS4 := Lib.hid kS
  have kE := ((KE3.out).alloc _).below hb4 ((KE3.out).alloc _).lt
  obtain ⟨xE4, yE4⟩ := kE.facts
  have zE4 := kE.lt
  have KE4 := Lib.hid kE
  have HB4 := Lib.hid (((HB3.out).alloc (HB3.out).size _).trans (hb4.mono ((HB3.out).alloc (HB3.out).size _).size))
  clear hb4 kC kS kE
  go_wp2_with fail
  go_ret
  exact ⟨rfl, (HB4.out).alloc (HB4.out).size _⟩
set_option maxRecDepth 100000 in
set_option maxHeartbeats 8000000 in
theorem back_C_invalid (cv sv : Value) (c : List Kd) (l : List Pa) (op day : Int) (part kind into slot key value : ByteArray) (ukl ukh ucl uch ull ulh : Int) (name : ByteArray) (day0 : Int) (w : World) (hcat : Cat w cv c) (hsta : Sta w sv l) (hl : l.length ≤ maxLen) (hps : ∀ p ∈ l, p.wide) (hev : Ev.short ⟨op, day, part, kind, into, slot, key, value, ukl, ukh, ucl, uch, ull, ulh⟩) (hn0 : name.size ≤ big) (hfew : fewB c l [⟨op, day, part, kind, into, slot, key, value, ukl, ukh, ucl, uch, ull, ulh⟩] = true) (h100 : (name.size : Int) ≤ 100) (hd0 : 0 ≤ day0) (hd1 : day0 ≤ 40000) (t : List Pa) (re : Int) (hr : applyL c l ⟨op, day, part, kind, into, slot, key, value, ukl, ukh, ucl, uch, ull, ulh⟩ = (t, re)) (hre : ¬ re = 0) (pname pkind pinto pslot : ByteArray) (pmade psince : Int) (pgone : Bool) (pprops : List Pr) (pkl pkh pcl pch pdl pdh : Int) (hpf : pfind l name = some ⟨pname, pkind, pinto, pslot, pmade, psince, pgone, pprops, pkl, pkh, pcl, pch, pdl, pdh⟩) (hi : pinto.toList.isEmpty = false) (hv : validB c l = false) :
    Calls Tryz.prog 6 #[.agg #[cv], .agg #[sv], .agg #[.int .i64 op, .int .i64 day, .string part, .string kind, .string into, .string slot, .string key, .string value, .int .i64 ukl, .int .i64 ukh, .int .i64 ucl, .int .i64 uch, .int .i64 ull, .int .i64 ulh], .string name, .int .i64 day0] w fun e w' => e = .returned (.bool true) ∧ Below w.heap.size w w' := by
  obtain ⟨A', cc, rfl, _⟩ := Rd.form hcat
  obtain ⟨A, cs, rfl, hn⟩ := Rd.form hsta
  have HST := Lib.hid hsta
  have HEV := Lib.hid hev
  have HFW := Lib.hid (fun W (h : Below w.heap.size w W) {g : Nat} (hv : Sl W (.slice (some ⟨g, 0, none⟩) 1 1) 1 14 (evF [⟨op, day, part, kind, into, slot, key, value, ukl, ukh, ucl, uch, ull, ulh⟩])) => few_any W (.slice A' c.length cc) (.slice A l.length cs) (.slice (some ⟨g, 0, none⟩) 1 1) c l [⟨op, day, part, kind, into, slot, key, value, ukl, ukh, ucl, uch, ull, ulh⟩] W (Below.refl _ _) (hcat.below h) (hsta.below h) hv hl hps (by simp [maxLen]))
  have HAP := Lib.hid (fun (h65 : c.length ≤ 65 ∧ ∀ k ∈ c, k.short) W0 (h0 : Below w.heap.size w W0) sv' l' (hs' : Sta W0 sv' l') (hl' : l'.length ≤ 20000) (hsh' : ∀ p ∈ l', p.short) ev t W (hr : applyL c l' ev = (t, 0)) (h : Below W0.heap.size W0 W) hev => apply_ok W0 (.slice A' c.length cc) sv' c l' ev t W hr h (hcat.below h0) (by omega) h65.2 hs' (by omega) hsh' hev)
  have HAN := Lib.hid (fun (h65 : c.length ≤ 65 ∧ ∀ k ∈ c, k.short) (h20 : l.length ≤ 20 ∧ ∀ p ∈ l, p.short) ev W (hr : (applyL c l ev).2 ≠ 0) (h : Below w.heap.size w W) hev => apply_no w (.slice A' c.length cc) (.slice A l.length cs) c l ev W hr h hcat (by omega) h65.2 hsta (by omega) h20.2 hev)
  have HVL := Lib.hid (fun (h65 : c.length ≤ 65 ∧ ∀ k ∈ c, k.short) (h20 : l.length ≤ 20 ∧ ∀ p ∈ l, p.short) W (h : Below w.heap.size w W) => fvalid_any w (.slice A' c.length cc) (.slice A l.length cs) c l W h hcat (by omega) h65.2 hsta (by omega) h20.2)
  have HFD := Lib.hid (fun (h20 : l.length ≤ 20) W (h : Below w.heap.size w W) => fpart_any w (.slice A l.length cs) l name W h hsta (by omega))
  have k1 := ((Has.new w 24 #[.slice A' c.length cc]).alloc (.cells #[.slice A l.length cs] 27)).alloc (.cells #[.int .i64 op, .int .i64 day, .string part, .string kind, .string into, .string slot, .string key, .string value, .int .i64 ukl, .int .i64 ukh, .int .i64 ucl, .int .i64 uch, .int .i64 ull, .int .i64 ulh] 33)
  have k2 := (Has.new (w.alloc (.cells #[.slice A' c.length cc] 24)) 27 #[.slice A l.length cs]).alloc (.cells #[.int .i64 op, .int .i64 day, .string part, .string kind, .string into, .string slot, .string key, .string value, .int .i64 ukl, .int .i64 ukh, .int .i64 ucl, .int .i64 uch, .int .i64 ull, .int .i64 ulh] 33)
  have k3 := Has.new ((w.alloc (.cells #[.slice A' c.length cc] 24)).alloc (.cells #[.slice A l.length cs] 27)) 33 #[.int .i64 op, .int .i64 day, .string part, .string kind, .string into, .string slot, .string key, .string value, .int .i64 ukl, .int .i64 ukh, .int .i64 ucl, .int .i64 uch, .int .i64 ull, .int .i64 ulh]
  simp only [World.size_alloc] at k2 k3
  have KC0 := Lib.hid k1
  have KS0 := Lib.hid k2
  have KE0 := Lib.hid k3
  have HB0 := Lib.hid ((((Below.refl w.heap.size w).alloc (Nat.le_refl _) (.cells #[.slice A' c.length cc] 24)).alloc (by simp) (.cells #[.slice A l.length cs] 27)).alloc (by simp; omega) (.cells #[.int .i64 op, .int .i64 day, .string part, .string kind, .string into, .string slot, .string key, .string value, .int .i64 ukl, .int .i64 ukh, .int .i64 ucl, .int .i64 uch, .int .i64 ull, .int .i64 ulh] 33))
  show Calls Tryz.prog 6 #[.agg #[.slice A' c.length cc], .agg #[.slice A l.length cs], .agg #[.int .i64 op, .int .i64 day, .string part, .string kind, .string into, .string slot, .string key, .string value, .int .i64 ukl, .int .i64 ukh, .int .i64 ucl, .int .i64 uch, .int .i64 ull, .int .i64 ulh], .string name, .int .i64 day0] w _
  clear hcat hsta hps k1 k2 k3
  obtain ⟨h65, h20⟩ := fewB_take hfew
  have HVL := Lib.hid (HVL.out h65 h20)
  have HAP := Lib.hid (HAP.out h65)
  have HAN := Lib.hid (HAN.out h65 h20)
  have HFD := Lib.hid (HFD.out h20.1)
  have HL := Lib.hid (show l.length ≤ 20000 by omega)
  have HL6 := Lib.hid (show l.length ≤ 1000000 by omega)
  have HSH := Lib.hid h20.2
  have HPR := Lib.hid (fun p (hp : p ∈ l) => (h20.2 p hp).2.2.2.2.1)
  have HFEW := Lib.hid hfew
  clear hfew h65 h20
  unfold big at hn0
  have hsn : (removeE day0 name).short := by unfold Ev.short; dsimp only [removeE]; unfold maxLen; exact ⟨by omega, by decide, by decide, by decide, by decide, by decide⟩
  have HSN := Lib.hid hsn
  have HSR := Lib.hid (show (removeE day0 part).short from ⟨HEV.out.1, eS_max, eS_max, eS_max, eS_max, eS_max⟩)
  clear hsn
  have HNE := Lib.hid hre
  have HNO := Lib.hid (fun W (h : Below w.heap.size w W) => HAN.out _ W (by rw [hr]; exact hre) h HEV.out)
  rw [hr] at HNO
  have hrb : (re == 0) = false := by simpa using hre
  clear hr hre
  obtain ⟨hpm, hpn⟩ := pfind_mem hpf
  rw [hpf] at HFD
  have HPM := Lib.hid hpm
  have HPN := Lib.hid hpn
  have HPSH := Lib.hid (HSH.out _ hpm)
  clear hpf hpm hpn
  simp only [Option.getD_some, Option.isSome_some] at HFD
  have hie := emp_iff pinto
  have HNE2 := Lib.hid (show pinto ≠ eS from fun e => by rw [hi, decide_eq_true e] at hie; cases hie)
  clear hie
  have HV := Lib.hid hv
  clear hv
  go_enter Tryz.func6, Tryz.ntmps6
  go_wp2_with fail
  refine (head_any _).mono ?_
  rintro e w1 ⟨rfl, hb1⟩
  have kC := (KC0.out).below hb1 (KC0.out).lt
  obtain ⟨xC1, yC1⟩ := kC.facts
  have zC1 := kC.lt
  have KC1 := Lib.hid kC
  have kS := (KS0.out).below hb1 (KS0.out).lt
  obtain ⟨xS1, yS1⟩ := kS.facts
  have zS1 := kS.lt
  have KS1 := Lib.hid kS
  have kE := (KE0.out).below hb1 (KE0.out).lt
  obtain ⟨xE1, yE1⟩ := kE.facts
  have zE1 := kE.lt
  have KE1 := Lib.hid kE
  have HB1 := Lib.hid ((HB0.out).trans (hb1.mono (HB0.out).size))
  clear hb1 kC kS kE
  go_wp2_with fail
  refine (HFW.out _ ((HB1.out).alloc (HB1.out).size _) (ev_sl (e := ⟨op, day, part, kind, into, slot, key, value, ukl, ukh, ucl, uch, ull, ulh⟩) (Has.new w1 33 #[.int .i64 op, .int .i64 day, .string part, .string kind, .string into, .string slot, .string key, .string value, .int .i64 ukl, .int .i64 ukh, .int .i64 ucl, .int .i64 uch, .int .i64 ull, .int .i64 ulh]))).mono ?_
  rintro e w2 ⟨rfl, hb2⟩
  rw [HFEW.out]
  clear xC1 yC1 zC1 xS1 yS1 zS1 xE1 yE1 zE1
  have kC := ((KC1.out).alloc _).below hb2 ((KC1.out).alloc _).lt
  obtain ⟨xC2, yC2⟩ := kC.facts
  have zC2 := kC.lt
  have KC2 := Lib.hid kC
  have kS := ((KS1.out).alloc _).below hb2 ((KS1.out).alloc _).lt
  obtain ⟨xS2, yS2⟩ := kS.facts
  have zS2 := kS.lt
  have KS2 := Lib.hid kS
  have kE := ((KE1.out).alloc _).below hb2 ((KE1.out).alloc _).lt
  obtain ⟨xE2, yE2⟩ := kE.facts
  have zE2 := kE.lt
  have KE2 := Lib.hid kE
  have HB2 := Lib.hid (((HB1.out).alloc (HB1.out).size _).trans (hb2.mono ((HB1.out).alloc (HB1.out).size _).size))
  clear hb2 kC kS kE
  go_wp2_with fail
  refine (HNO.out _ (HB2.out)).mono ?_
  rintro e w3 ⟨A3, c3, rfl, hb3⟩
  clear xC2 yC2 zC2 xS2 yS2 zS2 xE2 yE2 zE2
  have kC := (KC2.out).below hb3 (KC2.out).lt
  obtain ⟨xC3, yC3⟩ := kC.facts
  have zC3 := kC.lt
  have KC3 := Lib.hid kC
  have kS := (KS2.out).below hb3 (KS2.out).lt
  obtain ⟨xS3, yS3⟩ := kS.facts
  have zS3 := kS.lt
  have KS3 := Lib.hid kS
  have kE := (KE2.out).below hb3 (KE2.out).lt
  obtain ⟨xE3, yE3⟩ := kE.facts
  have zE3 := kE.lt
  have KE3 := Lib.hid kE
  have HB3 := Lib.hid ((HB2.out).trans (hb3.mono (HB2.out).size))
  clear hb3 kC kS kE
  go_wp2_with fail
  refine (HFD.out _ ((HB3.out).alloc (HB3.out).size _)).mono ?_
  rintro e w4 ⟨A2, m2, rfl, _, hb4⟩
  clear xC3 yC3 zC3 xS3 yS3 zS3 xE3 yE3 zE3
  have kC := ((KC3.out).alloc _).below hb4 ((KC3.out).alloc _).lt
  obtain ⟨xC4, yC4⟩ := kC.facts
  have zC4 := kC.lt
  have KC4 := Lib.hid kC
  have kS := ((KS3.out).alloc _).below hb4 ((KS3.out).alloc _).lt
  obtain ⟨xS4, yS4⟩ := kS.facts
  have zS4 := kS.lt
  have KS4 := Lib.hid kS
  have kE := ((KE3.out).alloc _).below hb4 ((KE3.out).alloc _).lt
  obtain ⟨xE4, yE4⟩ := kE.facts
  have zE4 := kE.lt
  have KE4 := Lib.hid kE
  have HB4 := Lib.hid (((HB3.out).alloc (HB3.out).size _).trans (hb4.mono ((HB3.out).alloc (HB3.out).size _).size))
  clear hb4 kC kS kE
  go_wp2_with fail
  refine (HVL.out _ ((HB4.out).alloc (HB4.out).size _)).mono ?_
  rintro e w5 ⟨rfl, hb5⟩
  rw [HV.out]
  clear xC4 yC4 zC4 xS4 yS4 zS4 xE4 yE4 zE4
  have kC := ((KC4.out).alloc _).below hb5 ((KC4.out).alloc _).lt
  obtain ⟨xC5, yC5⟩ := kC.facts
  have zC5 := kC.lt
  have KC5 := Lib.hid kC
  have kS := ((KS4.out).alloc _).below hb5 ((KS4.out).alloc _).lt
  obtain ⟨xS5, yS5⟩ := kS.facts
  have zS5 := kS.lt
  have KS5 := Lib.hid kS
  have kE := ((KE4.out).alloc _).below hb5 ((KE4.out).alloc _).lt
  obtain ⟨xE5, yE5⟩ := kE.facts
  have zE5 := kE.lt
  have KE5 := Lib.hid kE
  have kP := (Has.new (w4) 47 #[.string pname, .string pkind, .string pinto, .string pslot, .int .i64 pmade, .int .i64 psince, .bool pgone, .slice A2 pprops.length m2, .int .i64 pkl, .int .i64 pkh, .int .i64 pcl, .int .i64 pch, .int .i64 pdl, .int .i64 pdh]).below hb5 (Has.new (w4) 47 #[.string pname, .string pkind, .string pinto, .string pslot, .int .i64 pmade, .int .i64 psince, .bool pgone, .slice A2 pprops.length m2, .int .i64 pkl, .int .i64 pkh, .int .i64 pcl, .int .i64 pch, .int .i64 pdl, .int .i64 pdh]).lt
  obtain ⟨xP5, yP5⟩ := kP.facts
  have zP5 := kP.lt
  have KP5 := Lib.hid kP
  have HB5 := Lib.hid (((HB4.out).alloc (HB4.out).size _).trans (hb5.mono ((HB4.out).alloc (HB4.out).size _).size))
  clear hb5 kC kS kE kP
  go_wp2_with fail
  go_ret
  exact ⟨rfl, HB5.out⟩
set_option maxRecDepth 100000 in
set_option maxHeartbeats 8000000 in
theorem back_C_full (cv sv : Value) (c : List Kd) (l : List Pa) (op day : Int) (part kind into slot key value : ByteArray) (ukl ukh ucl uch ull ulh : Int) (name : ByteArray) (day0 : Int) (w : World) (hcat : Cat w cv c) (hsta : Sta w sv l) (hl : l.length ≤ maxLen) (hps : ∀ p ∈ l, p.wide) (hev : Ev.short ⟨op, day, part, kind, into, slot, key, value, ukl, ukh, ucl, uch, ull, ulh⟩) (hn0 : name.size ≤ big) (hfew : fewB c l [⟨op, day, part, kind, into, slot, key, value, ukl, ukh, ucl, uch, ull, ulh⟩] = true) (h100 : (name.size : Int) ≤ 100) (hd0 : 0 ≤ day0) (hd1 : day0 ≤ 40000) (t : List Pa) (re : Int) (hr : applyL c l ⟨op, day, part, kind, into, slot, key, value, ukl, ukh, ucl, uch, ull, ulh⟩ = (t, re)) (hre : ¬ re = 0) (pname pkind pinto pslot : ByteArray) (pmade psince : Int) (pgone : Bool) (pprops : List Pr) (pkl pkh pcl pch pdl pdh : Int) (hpf : pfind l name = some ⟨pname, pkind, pinto, pslot, pmade, psince, pgone, pprops, pkl, pkh, pcl, pch, pdl, pdh⟩) (hi : pinto.toList.isEmpty = false) (hv : validB c l = true) :
    Calls Tryz.prog 6 #[.agg #[cv], .agg #[sv], .agg #[.int .i64 op, .int .i64 day, .string part, .string kind, .string into, .string slot, .string key, .string value, .int .i64 ukl, .int .i64 ukh, .int .i64 ucl, .int .i64 uch, .int .i64 ull, .int .i64 ulh], .string name, .int .i64 day0] w fun e w' => e = .returned (.bool true) ∧ Below w.heap.size w w' := by
  obtain ⟨A', cc, rfl, _⟩ := Rd.form hcat
  obtain ⟨A, cs, rfl, hn⟩ := Rd.form hsta
  have HST := Lib.hid hsta
  have HEV := Lib.hid hev
  have HFW := Lib.hid (fun W (h : Below w.heap.size w W) {g : Nat} (hv : Sl W (.slice (some ⟨g, 0, none⟩) 1 1) 1 14 (evF [⟨op, day, part, kind, into, slot, key, value, ukl, ukh, ucl, uch, ull, ulh⟩])) => few_any W (.slice A' c.length cc) (.slice A l.length cs) (.slice (some ⟨g, 0, none⟩) 1 1) c l [⟨op, day, part, kind, into, slot, key, value, ukl, ukh, ucl, uch, ull, ulh⟩] W (Below.refl _ _) (hcat.below h) (hsta.below h) hv hl hps (by simp [maxLen]))
  have HAP := Lib.hid (fun (h65 : c.length ≤ 65 ∧ ∀ k ∈ c, k.short) W0 (h0 : Below w.heap.size w W0) sv' l' (hs' : Sta W0 sv' l') (hl' : l'.length ≤ 20000) (hsh' : ∀ p ∈ l', p.short) ev t W (hr : applyL c l' ev = (t, 0)) (h : Below W0.heap.size W0 W) hev => apply_ok W0 (.slice A' c.length cc) sv' c l' ev t W hr h (hcat.below h0) (by omega) h65.2 hs' (by omega) hsh' hev)
  have HAN := Lib.hid (fun (h65 : c.length ≤ 65 ∧ ∀ k ∈ c, k.short) (h20 : l.length ≤ 20 ∧ ∀ p ∈ l, p.short) ev W (hr : (applyL c l ev).2 ≠ 0) (h : Below w.heap.size w W) hev => apply_no w (.slice A' c.length cc) (.slice A l.length cs) c l ev W hr h hcat (by omega) h65.2 hsta (by omega) h20.2 hev)
  have HVL := Lib.hid (fun (h65 : c.length ≤ 65 ∧ ∀ k ∈ c, k.short) (h20 : l.length ≤ 20 ∧ ∀ p ∈ l, p.short) W (h : Below w.heap.size w W) => fvalid_any w (.slice A' c.length cc) (.slice A l.length cs) c l W h hcat (by omega) h65.2 hsta (by omega) h20.2)
  have HFD := Lib.hid (fun (h20 : l.length ≤ 20) W (h : Below w.heap.size w W) => fpart_any w (.slice A l.length cs) l name W h hsta (by omega))
  have k1 := ((Has.new w 24 #[.slice A' c.length cc]).alloc (.cells #[.slice A l.length cs] 27)).alloc (.cells #[.int .i64 op, .int .i64 day, .string part, .string kind, .string into, .string slot, .string key, .string value, .int .i64 ukl, .int .i64 ukh, .int .i64 ucl, .int .i64 uch, .int .i64 ull, .int .i64 ulh] 33)
  have k2 := (Has.new (w.alloc (.cells #[.slice A' c.length cc] 24)) 27 #[.slice A l.length cs]).alloc (.cells #[.int .i64 op, .int .i64 day, .string part, .string kind, .string into, .string slot, .string key, .string value, .int .i64 ukl, .int .i64 ukh, .int .i64 ucl, .int .i64 uch, .int .i64 ull, .int .i64 ulh] 33)
  have k3 := Has.new ((w.alloc (.cells #[.slice A' c.length cc] 24)).alloc (.cells #[.slice A l.length cs] 27)) 33 #[.int .i64 op, .int .i64 day, .string part, .string kind, .string into, .string slot, .string key, .string value, .int .i64 ukl, .int .i64 ukh, .int .i64 ucl, .int .i64 uch, .int .i64 ull, .int .i64 ulh]
  simp only [World.size_alloc] at k2 k3
  have KC0 := Lib.hid k1
  have KS0 := Lib.hid k2
  have KE0 := Lib.hid k3
  have HB0 := Lib.hid ((((Below.refl w.heap.size w).alloc (Nat.le_refl _) (.cells #[.slice A' c.length cc] 24)).alloc (by simp) (.cells #[.slice A l.length cs] 27)).alloc (by simp; omega) (.cells #[.int .i64 op, .int .i64 day, .string part, .string kind, .string into, .string slot, .string key, .string value, .int .i64 ukl, .int .i64 ukh, .int .i64 ucl, .int .i64 uch, .int .i64 ull, .int .i64 ulh] 33))
  show Calls Tryz.prog 6 #[.agg #[.slice A' c.length cc], .agg #[.slice A l.length cs], .agg #[.int .i64 op, .int .i64 day, .string part, .string kind, .string into, .string slot, .string key, .string value, .int .i64 ukl, .int .i64 ukh, .int .i64 ucl, .int .i64 uch, .int .i64 ull, .int .i64 ulh], .string name, .int .i64 day0] w _
  clear hcat hsta hps k1 k2 k3
  obtain ⟨h65, h20⟩ := fewB_take hfew
  have HVL := Lib.hid (HVL.out h65 h20)
  have HAP := Lib.hid (HAP.out h65)
  have HAN := Lib.hid (HAN.out h65 h20)
  have HFD := Lib.hid (HFD.out h20.1)
  have HL := Lib.hid (show l.length ≤ 20000 by omega)
  have HL6 := Lib.hid (show l.length ≤ 1000000 by omega)
  have HSH := Lib.hid h20.2
  have HPR := Lib.hid (fun p (hp : p ∈ l) => (h20.2 p hp).2.2.2.2.1)
  have HFEW := Lib.hid hfew
  clear hfew h65 h20
  unfold big at hn0
  have hsn : (removeE day0 name).short := by unfold Ev.short; dsimp only [removeE]; unfold maxLen; exact ⟨by omega, by decide, by decide, by decide, by decide, by decide⟩
  have HSN := Lib.hid hsn
  have HSR := Lib.hid (show (removeE day0 part).short from ⟨HEV.out.1, eS_max, eS_max, eS_max, eS_max, eS_max⟩)
  clear hsn
  have HNE := Lib.hid hre
  have HNO := Lib.hid (fun W (h : Below w.heap.size w W) => HAN.out _ W (by rw [hr]; exact hre) h HEV.out)
  rw [hr] at HNO
  have hrb : (re == 0) = false := by simpa using hre
  clear hr hre
  obtain ⟨hpm, hpn⟩ := pfind_mem hpf
  rw [hpf] at HFD
  have HPM := Lib.hid hpm
  have HPN := Lib.hid hpn
  have HPSH := Lib.hid (HSH.out _ hpm)
  clear hpf hpm hpn
  simp only [Option.getD_some, Option.isSome_some] at HFD
  have hie := emp_iff pinto
  have HNE2 := Lib.hid (show pinto ≠ eS from fun e => by rw [hi, decide_eq_true e] at hie; cases hie)
  clear hie
  have HV := Lib.hid hv
  clear hv
  obtain ⟨hr1, hr2⟩ := back_fit HV.out HPM.out HNE2.out hd0 hd1
  have ht2 := apply_short HSH.out (by rw [HPN.out]; exact HSN.out) hr1
  dsimp only at hr1 hr2 ht2
  have hpn2 : pname = name := HPN.out
  have HSF := Lib.hid (show (fitD day0 name pinto pslot).short from ⟨HSN.out.1, eS_max, HPSH.out.2.2.1, HPSH.out.2.2.2.1, eS_max, eS_max⟩)
  generalize putP l _ = t2 at hr1 hr2 ht2
  rw [hpn2] at hr1 hr2
  have HR1 := Lib.hid hr1
  have HR2 := Lib.hid hr2
  have HT2 := Lib.hid ht2
  clear hr1 hr2 ht2 hpn2
  go_enter Tryz.func6, Tryz.ntmps6
  go_wp2_with fail
  refine (head_any _).mono ?_
  rintro e w1 ⟨rfl, hb1⟩
  have kC := (KC0.out).below hb1 (KC0.out).lt
  obtain ⟨xC1, yC1⟩ := kC.facts
  have zC1 := kC.lt
  have KC1 := Lib.hid kC
  have kS := (KS0.out).below hb1 (KS0.out).lt
  obtain ⟨xS1, yS1⟩ := kS.facts
  have zS1 := kS.lt
  have KS1 := Lib.hid kS
  have kE := (KE0.out).below hb1 (KE0.out).lt
  obtain ⟨xE1, yE1⟩ := kE.facts
  have zE1 := kE.lt
  have KE1 := Lib.hid kE
  have HB1 := Lib.hid ((HB0.out).trans (hb1.mono (HB0.out).size))
  clear hb1 kC kS kE
  go_wp2_with fail
  refine (HFW.out _ ((HB1.out).alloc (HB1.out).size _) (ev_sl (e := ⟨op, day, part, kind, into, slot, key, value, ukl, ukh, ucl, uch, ull, ulh⟩) (Has.new w1 33 #[.int .i64 op, .int .i64 day, .string part, .string kind, .string into, .string slot, .string key, .string value, .int .i64 ukl, .int .i64 ukh, .int .i64 ucl, .int .i64 uch, .int .i64 ull, .int .i64 ulh]))).mono ?_
  rintro e w2 ⟨rfl, hb2⟩
  rw [HFEW.out]
  clear xC1 yC1 zC1 xS1 yS1 zS1 xE1 yE1 zE1
  have kC := ((KC1.out).alloc _).below hb2 ((KC1.out).alloc _).lt
  obtain ⟨xC2, yC2⟩ := kC.facts
  have zC2 := kC.lt
  have KC2 := Lib.hid kC
  have kS := ((KS1.out).alloc _).below hb2 ((KS1.out).alloc _).lt
  obtain ⟨xS2, yS2⟩ := kS.facts
  have zS2 := kS.lt
  have KS2 := Lib.hid kS
  have kE := ((KE1.out).alloc _).below hb2 ((KE1.out).alloc _).lt
  obtain ⟨xE2, yE2⟩ := kE.facts
  have zE2 := kE.lt
  have KE2 := Lib.hid kE
  have HB2 := Lib.hid (((HB1.out).alloc (HB1.out).size _).trans (hb2.mono ((HB1.out).alloc (HB1.out).size _).size))
  clear hb2 kC kS kE
  go_wp2_with fail
  refine (HNO.out _ (HB2.out)).mono ?_
  rintro e w3 ⟨A3, c3, rfl, hb3⟩
  clear xC2 yC2 zC2 xS2 yS2 zS2 xE2 yE2 zE2
  have kC := (KC2.out).below hb3 (KC2.out).lt
  obtain ⟨xC3, yC3⟩ := kC.facts
  have zC3 := kC.lt
  have KC3 := Lib.hid kC
  have kS := (KS2.out).below hb3 (KS2.out).lt
  obtain ⟨xS3, yS3⟩ := kS.facts
  have zS3 := kS.lt
  have KS3 := Lib.hid kS
  have kE := (KE2.out).below hb3 (KE2.out).lt
  obtain ⟨xE3, yE3⟩ := kE.facts
  have zE3 := kE.lt
  have KE3 := Lib.hid kE
  have HB3 := Lib.hid ((HB2.out).trans (hb3.mono (HB2.out).size))
  clear hb3 kC kS kE
  go_wp2_with fail
  refine (HFD.out _ ((HB3.out).alloc (HB3.out).size _)).mono ?_
  rintro e w4 ⟨A2, m2, rfl, _, hb4⟩
  clear xC3 yC3 zC3 xS3 yS3 zS3 xE3 yE3 zE3
  have kC := ((KC3.out).alloc _).below hb4 ((KC3.out).alloc _).lt
  obtain ⟨xC4, yC4⟩ := kC.facts
  have zC4 := kC.lt
  have KC4 := Lib.hid kC
  have kS := ((KS3.out).alloc _).below hb4 ((KS3.out).alloc _).lt
  obtain ⟨xS4, yS4⟩ := kS.facts
  have zS4 := kS.lt
  have KS4 := Lib.hid kS
  have kE := ((KE3.out).alloc _).below hb4 ((KE3.out).alloc _).lt
  obtain ⟨xE4, yE4⟩ := kE.facts
  have zE4 := kE.lt
  have KE4 := Lib.hid kE
  have HB4 := Lib.hid (((HB3.out).alloc (HB3.out).size _).trans (hb4.mono ((HB3.out).alloc (HB3.out).size _).size))
  clear hb4 kC kS kE
  go_wp2_with fail
  refine (HVL.out _ ((HB4.out).alloc (HB4.out).size _)).mono ?_
  rintro e w5 ⟨rfl, hb5⟩
  rw [HV.out]
  clear xC4 yC4 zC4 xS4 yS4 zS4 xE4 yE4 zE4
  have kC := ((KC4.out).alloc _).below hb5 ((KC4.out).alloc _).lt
  obtain ⟨xC5, yC5⟩ := kC.facts
  have zC5 := kC.lt
  have KC5 := Lib.hid kC
  have kS := ((KS4.out).alloc _).below hb5 ((KS4.out).alloc _).lt
  obtain ⟨xS5, yS5⟩ := kS.facts
  have zS5 := kS.lt
  have KS5 := Lib.hid kS
  have kE := ((KE4.out).alloc _).below hb5 ((KE4.out).alloc _).lt
  obtain ⟨xE5, yE5⟩ := kE.facts
  have zE5 := kE.lt
  have KE5 := Lib.hid kE
  have kP := (Has.new (w4) 47 #[.string pname, .string pkind, .string pinto, .string pslot, .int .i64 pmade, .int .i64 psince, .bool pgone, .slice A2 pprops.length m2, .int .i64 pkl, .int .i64 pkh, .int .i64 pcl, .int .i64 pch, .int .i64 pdl, .int .i64 pdh]).below hb5 (Has.new (w4) 47 #[.string pname, .string pkind, .string pinto, .string pslot, .int .i64 pmade, .int .i64 psince, .bool pgone, .slice A2 pprops.length m2, .int .i64 pkl, .int .i64 pkh, .int .i64 pcl, .int .i64 pch, .int .i64 pdl, .int .i64 pdh]).lt
  obtain ⟨xP5, yP5⟩ := kP.facts
  have zP5 := kP.lt
  have KP5 := Lib.hid kP
  have HB5 := Lib.hid (((HB4.out).alloc (HB4.out).size _).trans (hb5.mono ((HB4.out).alloc (HB4.out).size _).size))
  clear hb5 kC kS kE kP
  go_wp2_with fail
  refine (HAP.out w (Below.refl _ _) (.slice A l.length cs) l HST.out HL.out HSH.out (removeE day0 name) t2 _ HR1.out (HB5.out) HSN.out).mono ?_
  rintro e w6 ⟨A8, c8, rfl, hst8, hb6⟩
  have HST8 := Lib.hid hst8
  clear hst8
  clear xC5 yC5 zC5 xS5 yS5 zS5 xE5 yE5 zE5 xP5 yP5 zP5
  have kC := (KC5.out).below hb6 (KC5.out).lt
  obtain ⟨xC6, yC6⟩ := kC.facts
  have zC6 := kC.lt
  have KC6 := Lib.hid kC
  have kS := (KS5.out).below hb6 (KS5.out).lt
  obtain ⟨xS6, yS6⟩ := kS.facts
  have zS6 := kS.lt
  have KS6 := Lib.hid kS
  have kE := (KE5.out).below hb6 (KE5.out).lt
  obtain ⟨xE6, yE6⟩ := kE.facts
  have zE6 := kE.lt
  have KE6 := Lib.hid kE
  have kP := (KP5.out).below hb6 (KP5.out).lt
  obtain ⟨xP6, yP6⟩ := kP.facts
  have zP6 := kP.lt
  have KP6 := Lib.hid kP
  have HB6 := Lib.hid ((HB5.out).trans (hb6.mono (HB5.out).size))
  clear hb6 kC kS kE kP
  go_wp2_with fail
  refine (HAP.out w6 HB6.out (.slice A8 t2.length c8) t2 HST8.out HT2.out.1 HT2.out.2 (fitD day0 name pinto pslot) l _ HR2.out ((Below.refl w6.heap.size w6).alloc (Nat.le_refl _) _) HSF.out).mono ?_
  rintro e w7 ⟨A9, c9, rfl, hst9, hb7⟩
  have HST9 := Lib.hid hst9
  clear hst9
  clear xC6 yC6 zC6 xS6 yS6 zS6 xE6 yE6 zE6 xP6 yP6 zP6
  have kC := ((KC6.out).alloc _).below hb7 ((KC6.out).alloc _).lt
  obtain ⟨xC7, yC7⟩ := kC.facts
  have zC7 := kC.lt
  have KC7 := Lib.hid kC
  have kS := ((KS6.out).alloc _).below hb7 ((KS6.out).alloc _).lt
  obtain ⟨xS7, yS7⟩ := kS.facts
  have zS7 := kS.lt
  have KS7 := Lib.hid kS
  have kE := ((KE6.out).alloc _).below hb7 ((KE6.out).alloc _).lt
  obtain ⟨xE7, yE7⟩ := kE.facts
  have zE7 := kE.lt
  have KE7 := Lib.hid kE
  have kP := ((KP6.out).alloc _).below hb7 ((KP6.out).alloc _).lt
  obtain ⟨xP7, yP7⟩ := kP.facts
  have zP7 := kP.lt
  have KP7 := Lib.hid kP
  have kT := (Has.new (w6) 27 #[.slice A8 t2.length c8]).below hb7 (Has.new (w6) 27 #[.slice A8 t2.length c8]).lt
  obtain ⟨xT7, yT7⟩ := kT.facts
  have zT7 := kT.lt
  have KT7 := Lib.hid kT
  have HB7 := Lib.hid (((HB6.out).alloc (HB6.out).size _).trans (hb7.mono ((HB6.out).alloc (HB6.out).size _).size))
  clear hb7 kC kS kE kP kT
  go_wp2_with fail
  refine (same10_any w7 (.slice A9 l.length c9) (.slice A l.length cs) l l _ ((Below.refl w7.heap.size w7).alloc (Nat.le_refl _) _) HST9.out (HST.out.below HB7.out) HL6.out HL6.out HPR.out HPR.out).mono ?_
  rintro e w8 ⟨rfl, hb8⟩
  rw [decide_eq_true rfl]
  clear xC7 yC7 zC7 xS7 yS7 zS7 xE7 yE7 zE7 xP7 yP7 zP7 xT7 yT7 zT7
  have kC := ((KC7.out).alloc _).below hb8 ((KC7.out).alloc _).lt
  obtain ⟨xC8, yC8⟩ := kC.facts
  have zC8 := kC.lt
  have KC8 := Lib.hid kC
  have kS := ((KS7.out).alloc _).below hb8 ((KS7.out).alloc _).lt
  obtain ⟨xS8, yS8⟩ := kS.facts
  have zS8 := kS.lt
  have KS8 := Lib.hid kS
  have kE := ((KE7.out).alloc _).below hb8 ((KE7.out).alloc _).lt
  obtain ⟨xE8, yE8⟩ := kE.facts
  have zE8 := kE.lt
  have KE8 := Lib.hid kE
  have kP := ((KP7.out).alloc _).below hb8 ((KP7.out).alloc _).lt
  obtain ⟨xP8, yP8⟩ := kP.facts
  have zP8 := kP.lt
  have KP8 := Lib.hid kP
  have HB8 := Lib.hid (((HB7.out).alloc (HB7.out).size _).trans (hb8.mono ((HB7.out).alloc (HB7.out).size _).size))
  clear hb8 kC kS kE kP
  go_wp2_with fail
  go_ret
  exact ⟨rfl, HB8.out⟩
theorem back_any (cv sv : Value) (c : List Kd) (l : List Pa) (ev : Ev) (name : ByteArray) (day0 : Int) (w : World) (hcat : Cat w cv c) (hsta : Sta w sv l) (hl : l.length ≤ maxLen) (hps : ∀ p ∈ l, p.wide) (hev : ev.short) (hn0 : name.size ≤ big) :
    Calls Tryz.prog 6 #[.agg #[cv], .agg #[sv], .agg ev.cells, .string name, .int .i64 day0] w fun e w' => e = .returned (.bool true) ∧ Below w.heap.size w w' := by
  obtain ⟨op, day, part, kind, into, slot, key, value, ukl, ukh, ucl, uch, ull, ulh⟩ := ev
  cases hfew : fewB c l [⟨op, day, part, kind, into, slot, key, value, ukl, ukh, ucl, uch, ull, ulh⟩]
  · exact back_e1 cv sv c l op day part kind into slot key value ukl ukh ucl uch ull ulh name day0 w hcat hsta hl hps hev hn0 hfew
  by_cases h100 : (100 : Int) < (name.size : Int)
  · exact back_e2 cv sv c l op day part kind into slot key value ukl ukh ucl uch ull ulh name day0 w hcat hsta hl hps hev hn0 hfew h100
  have h100 : (name.size : Int) ≤ 100 := by omega
  by_cases hd0 : day0 < 0
  · exact back_e3 cv sv c l op day part kind into slot key value ukl ukh ucl uch ull ulh name day0 w hcat hsta hl hps hev hn0 hfew h100 hd0
  have hd0 : 0 ≤ day0 := by omega
  by_cases hd1 : 40000 < day0
  · exact back_e4 cv sv c l op day part kind into slot key value ukl ukh ucl uch ull ulh name day0 w hcat hsta hl hps hev hn0 hfew h100 hd0 hd1
  have hd1 : day0 ≤ 40000 := by omega
  obtain ⟨t, re, hr⟩ : ∃ t re, applyL c l ⟨op, day, part, kind, into, slot, key, value, ukl, ukh, ucl, uch, ull, ulh⟩ = (t, re) := ⟨_, _, rfl⟩
  by_cases hre : re = 0
  · subst hre
    by_cases hop : op = 2
    · subst hop
      cases hpf : pfind l name with
      | none => exact back_A_none cv sv c l day part kind into slot key value ukl ukh ucl uch ull ulh name day0 w hcat hsta hl hps hev hn0 hfew h100 hd0 hd1 t hr hpf
      | some p =>
        obtain ⟨pname, pkind, pinto, pslot, pmade, psince, pgone, pprops, pkl, pkh, pcl, pch, pdl, pdh⟩ := p
        cases hi : pinto.toList.isEmpty
        · exact back_A_full cv sv c l day part kind into slot key value ukl ukh ucl uch ull ulh name day0 w hcat hsta hl hps hev hn0 hfew h100 hd0 hd1 t hr pname pkind pinto pslot pmade psince pgone pprops pkl pkh pcl pch pdl pdh hpf hi
        · exact back_A_empty cv sv c l day part kind into slot key value ukl ukh ucl uch ull ulh name day0 w hcat hsta hl hps hev hn0 hfew h100 hd0 hd1 t hr pname pkind pinto pslot pmade psince pgone pprops pkl pkh pcl pch pdl pdh hpf hi
    cases hpf : pfind l name with
    | none => exact back_B_none cv sv c l op day part kind into slot key value ukl ukh ucl uch ull ulh name day0 w hcat hsta hl hps hev hn0 hfew h100 hd0 hd1 t hr hop hpf
    | some p =>
      obtain ⟨pname, pkind, pinto, pslot, pmade, psince, pgone, pprops, pkl, pkh, pcl, pch, pdl, pdh⟩ := p
      cases hi : pinto.toList.isEmpty
      · cases hv : validB c l
        · exact back_B_invalid cv sv c l op day part kind into slot key value ukl ukh ucl uch ull ulh name day0 w hcat hsta hl hps hev hn0 hfew h100 hd0 hd1 t hr hop pname pkind pinto pslot pmade psince pgone pprops pkl pkh pcl pch pdl pdh hpf hi hv
        · exact back_B_full cv sv c l op day part kind into slot key value ukl ukh ucl uch ull ulh name day0 w hcat hsta hl hps hev hn0 hfew h100 hd0 hd1 t hr hop pname pkind pinto pslot pmade psince pgone pprops pkl pkh pcl pch pdl pdh hpf hi hv
      · exact back_B_empty cv sv c l op day part kind into slot key value ukl ukh ucl uch ull ulh name day0 w hcat hsta hl hps hev hn0 hfew h100 hd0 hd1 t hr hop pname pkind pinto pslot pmade psince pgone pprops pkl pkh pcl pch pdl pdh hpf hi
  cases hpf : pfind l name with
  | none => exact back_C_none cv sv c l op day part kind into slot key value ukl ukh ucl uch ull ulh name day0 w hcat hsta hl hps hev hn0 hfew h100 hd0 hd1 t re hr hre hpf
  | some p =>
    obtain ⟨pname, pkind, pinto, pslot, pmade, psince, pgone, pprops, pkl, pkh, pcl, pch, pdl, pdh⟩ := p
    cases hi : pinto.toList.isEmpty
    · cases hv : validB c l
      · exact back_C_invalid cv sv c l op day part kind into slot key value ukl ukh ucl uch ull ulh name day0 w hcat hsta hl hps hev hn0 hfew h100 hd0 hd1 t re hr hre pname pkind pinto pslot pmade psince pgone pprops pkl pkh pcl pch pdl pdh hpf hi hv
      · exact back_C_full cv sv c l op day part kind into slot key value ukl ukh ucl uch ull ulh name day0 w hcat hsta hl hps hev hn0 hfew h100 hd0 hd1 t re hr hre pname pkind pinto pslot pmade psince pgone pprops pkl pkh pcl pch pdl pdh hpf hi hv
    · exact back_C_empty cv sv c l op day part kind into slot key value ukl ukh ucl uch ull ulh name day0 w hcat hsta hl hps hev hn0 hfew h100 hd0 hd1 t re hr hre pname pkind pinto pslot pmade psince pgone pprops pkl pkh pcl pch pdl pdh hpf hi
end Go.Proofs.YtpikcofbhkbifaaGreat
namespace Go.Proofs.YtpikcofbhkbifaaGreat.back
open Go Go.RowKit Go.ChangeShapes Go.WideShapes Go.ChangeAt
set_option maxRecDepth 100000 in
theorem contract (H : Type) (enc : TypeId × Value → H) (W : World) (base : Nat) (args : Array Value) (ds gs : List (DataW H)) (before : List MemPlace)
    (hval : ∀ (j : Nat) t v, Tryz.f6.params[j]? = some t → args[j]? = some v → Value.okWide Tryz.prog W .any base t v)
    (hW : DataW.Whole enc Tryz.prog Tryz.f6.params.toList Rows.fleetBackSpec.vars false W args.toList ds gs before)
    (hZ : (DataW.weightsEach Tryz.prog (Tryz.f6.params.toList ++ (OpenSpec.ofChange Rows.fleetBackSpec).bare.plain.varTypes Tryz.prog) (ds ++ gs)).all (· ≤ reachBytes) = true) :
    Calls Tryz.prog 6 args W fun e W' => ∃ v, e = .returned v ∧ Rows.fleetBackSpec.post enc Tryz.prog Tryz.f6 false true false false W args v W' := by
  have hW' := hW
  obtain ⟨p, q, hA0, hV, rfl, hfz, hnd⟩ := hW
  have hA : DataW.TrodAll enc Tryz.prog W 0 (fun _ => true) true Tryz.f6.params.toList args.toList ds p := hA0
  rw [Tryz.params6] at hA hval hZ
  obtain ⟨w0, vs0, d0, ds0, p0, q0, hargs, rfl, rfl, t0, r0⟩ := trodAll_cons hA
  obtain ⟨w1, vs1, d1, ds1, p1, q1, rfl, rfl, rfl, t1, r1⟩ := trodAll_cons r0
  obtain ⟨w2, vs2, d2, ds2, p2, q2, rfl, rfl, rfl, t2, r2⟩ := trodAll_cons r1
  obtain ⟨w3, vs3, d3, ds3, p3, q3, rfl, rfl, rfl, t3, r3⟩ := trodAll_cons r2
  obtain ⟨w4, vs4, d4, ds4, p4, q4, rfl, rfl, rfl, t4, r4⟩ := trodAll_cons r3
  obtain ⟨rfl, rfl, rfl⟩ := trodAll_nil r4
  obtain rfl : args = #[w0, w1, w2, w3, w4] := by cases args; simp_all
  obtain ⟨rfl, rfl⟩ := trodVars_none hV
  have g0 : Light Tryz.prog 24 d0 := light_of hZ (j := 0) rfl rfl
  obtain ⟨cs0, rfl, hz0, m0, t0⟩ := struct_cells Tryz.underlying24 (hval 0 _ w0 rfl rfl) t0
  obtain ⟨v0, c0, hcs0, h0⟩ := open_cat t0 g0 (by rw [Array.length_toList, hz0]; kernel_rfl)
  obtain rfl : cs0 = #[v0] := by cases cs0; simp_all
  have g1 : Light Tryz.prog 27 d1 := light_of hZ (j := 1) rfl rfl
  obtain ⟨cs1, rfl, hz1, m1, t1⟩ := struct_cells Tryz.underlying27 (hval 1 _ w1 rfl rfl) t1
  obtain ⟨v1, l1, hcs1, h1, hl1, hw1⟩ := open_sta t1 g1 (by rw [Array.length_toList, hz1]; kernel_rfl)
  obtain rfl : cs1 = #[v1] := by cases cs1; simp_all
  have g2 : Light Tryz.prog 33 d2 := light_of hZ (j := 2) rfl rfl
  obtain ⟨cs2, rfl, hz2, m2, t2⟩ := struct_cells Tryz.underlying33 (hval 2 _ w2 rfl rfl) t2
  obtain ⟨e2, hcs2, hs2⟩ := open_evF t2 g2 (by rw [Array.length_toList, hz2]; kernel_rfl)
  obtain rfl : cs2 = e2.cells := by cases cs2; cases hce : e2.cells; simp_all
  have g3 : Light Tryz.prog 9 d3 := light_of hZ (j := 3) rfl rfl
  obtain ⟨s3, rfl, hb3⟩ := string_cellsW Tryz.underlying9 (hval 3 _ w3 rfl rfl) t3 g3
  obtain ⟨n4, rfl, _, _, hn4⟩ := open_int Tryz.underlying3 (hval 4 _ w4 rfl rfl) t4
  refine (back_any v0 v1 c0 l1 e2 s3 n4 W h0 h1 hl1 hw1 hs2 hb3).mono ?_
  rintro e W' ⟨rfl, hb⟩
  exact ⟨_, rfl, law_post (s := Rows.fleetBackSpec) rfl laidOut (by kernel_rfl) (by kernel_rfl) Tryz.underlying4 hW' rfl hb⟩
def wargs : Array Value := #[.agg #[.slice none 0 0], .agg #[.slice none 0 0], .agg #[.int .i64 0, .int .i64 0, .string ⟨#[]⟩, .string ⟨#[]⟩, .string ⟨#[]⟩, .string ⟨#[]⟩, .string ⟨#[]⟩, .string ⟨#[]⟩, .int .i64 0, .int .i64 0, .int .i64 0, .int .i64 0, .int .i64 0, .int .i64 0], .string ⟨#[]⟩, .int .i64 0]
set_option maxRecDepth 100000 in
theorem reads (os : Os) {H : Type} (enc : TypeId × Value → H) : ∃ places, DataW.whole enc Tryz.prog ((World.holding Tryz.prog os ⟨#[], #[], []⟩).forCall (fun _ _ => 0) ⟨#[], wargs, []⟩).memory Tryz.f6.params.toList Rows.fleetBackSpec.vars false wargs.toList 8 = some ([.agg [.nil], .agg [.nil], .agg [.lit (.int .i64 0), .lit (.int .i64 0), .lit (.string []), .lit (.string []), .lit (.string []), .lit (.string []), .lit (.string []), .lit (.string []), .agg [.agg [.lit (.int .i64 0), .lit (.int .i64 0)], .agg [.lit (.int .i64 0), .lit (.int .i64 0)], .agg [.lit (.int .i64 0), .lit (.int .i64 0)]]], .lit (.string []), .lit (.int .i64 0)], [], places) :=
  ⟨[], by kernel_rfl⟩
set_option maxRecDepth 100000 in
theorem laid_met (os : Os) : laidMet Tryz.prog Rows.fleetBackRow.laid ((World.holding Tryz.prog os ⟨#[], #[], []⟩).forCall (fun _ _ => 0) ⟨#[], wargs, []⟩).memory :=
  laidMet_of_run' 8 (by kernel_rfl) (by kernel_rfl)
set_option maxRecDepth 100000 in
theorem lifted (os : Os) (started : os.Started) (H : Type) (enc : TypeId × Value → H) (F : Stop.Interp) :
    ReturnsInHanded {} Tryz.checked os 6 .any ((OpenSpec.ofChange Rows.fleetBackSpec).preRow enc Tryz.prog Tryz.f6 Rows.fleetBackRow.domain false Rows.fleetBackRow.laid) (((OpenSpec.ofChange Rows.fleetBackSpec).at F).post enc Tryz.prog Tryz.f6 false true false false) := by
  obtain ⟨places, hx⟩ := reads os enc
  refine returnsInHanded_of_row (C := Tryz.checked) (s := OpenSpec.ofChange Rows.fleetBackSpec) own started (by kernel_rfl) Tryz.func6
    (witness_row_at (enc := enc) (C := Tryz.checked) false (World.holding Tryz.prog os ⟨#[], #[], []⟩) wargs rfl (by kernel_rfl) (by kernel_rfl) (by kernel_rfl)
      (OpenSpec.preRow_of_cond 8 hx (by kernel_rfl) (fun k hk => by cases hk) (by kernel_rfl) (laid_met os))) ?_
  intro W base args ds gs before hval hW _ _ hZ _ _ _
  exact contract H enc W base args ds gs before hval hW hZ
theorem said : Rows.FleetBackSaid :=
  OpenClaim.holds_of_cond 6 Tryz.f6 rfl rfl rfl rfl rfl rfl rfl ⟨rfl, rfl, rfl, rfl, rfl⟩ rfl rfl rfl rfl rfl (by kernel_rfl) Tryz.func6 (by kernel_rfl)
    (of_decide_eq_true (by kernel_rfl)) (by unfold Func.isWrapper; first | (rw [if_pos (by decide +kernel)]; kernel_rfl) | (rw [if_neg (by decide +kernel)]; exact ⟨rfl, rfl⟩))
    (fun os started H enc _ F => by rw [OpenClaim.pre_eq_preRow]; exact lifted os started H enc F)
#print axioms said
end Go.Proofs.YtpikcofbhkbifaaGreat.back
