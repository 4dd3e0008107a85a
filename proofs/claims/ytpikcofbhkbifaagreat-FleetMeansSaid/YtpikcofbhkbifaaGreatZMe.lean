/- bogielaw10.FleetMeans returns true: the walk. -/
import Derived.Test.YtpikcofbhkbifaaGreatU26
import Derived.Test.YtpikcofbhkbifaaGreatU27
namespace Go.Proofs.YtpikcofbhkbifaaGreat
open Go Go.RowKit
theorem put2 {w W : World} {g t B g1 t1 g2 t2 : Nat} {cs cs1 cs2 : Array Value} (h : Has W g t cs) (h1 : Has W g1 t1 cs1) (h2 : Has W g2 t2 cs2) (hb : Below B w W) (hg : B ≤ g) (n1 : g1 ≠ g) (n2 : g2 ≠ g) (i j : Nat) (u v : Value) :
    ∃ W', (W.setCell ⟨g, i, none⟩ u).setCell ⟨g, j, none⟩ v = W' ∧ Has W' g t ((cs.setIfInBounds i u).setIfInBounds j v) ∧ Has W' g1 t1 cs1 ∧ Has W' g2 t2 cs2 ∧ Below B w W' :=
  ⟨_, rfl, (h.put i u).put j v, (h1.far _ n1 u).far _ n1 v, (h2.far _ n2 u).far _ n2 v, (hb.setCell hg u).setCell hg v⟩
set_option maxRecDepth 100000 in
set_option maxHeartbeats 8000000 in
theorem mean_e1 (cv sv : Value) (c : List Kd) (l : List Pa) (op day : Int) (part kind into slot key value : ByteArray) (ukl ukh ucl uch ull ulh : Int) (w : World) (hcat : Cat w cv c) (hsta : Sta w sv l) (hl : l.length ≤ maxLen) (hps : ∀ p ∈ l, p.wide) (hev : Ev.short ⟨op, day, part, kind, into, slot, key, value, ukl, ukh, ucl, uch, ull, ulh⟩) (hfew : fewB c l [⟨op, day, part, kind, into, slot, key, value, ukl, ukh, ucl, uch, ull, ulh⟩] = false) :
    Calls Tryz.prog 5 #[.agg #[cv], .agg #[sv], .agg #[.int .i64 op, .int .i64 day, .string part, .string kind, .string into, .string slot, .string key, .string value, .int .i64 ukl, .int .i64 ukh, .int .i64 ucl, .int .i64 uch, .int .i64 ull, .int .i64 ulh]] w fun e w' => e = .returned (.bool true) ∧ Below w.heap.size w w' := by
  obtain ⟨A', cc, rfl, _⟩ := Rd.form hcat
  obtain ⟨A, cs, rfl, hn⟩ := Rd.form hsta
  have HST := Lib.hid hsta
  have HCAT := Lib.hid hcat
  have HEV := Lib.hid hev
  have HFW := Lib.hid (fun W (h : Below w.heap.size w W) {g : Nat} (hv : Sl W (.slice (some ⟨g, 0, none⟩) 1 1) 1 14 (evF [⟨op, day, part, kind, into, slot, key, value, ukl, ukh, ucl, uch, ull, ulh⟩])) => few_any W (.slice A' c.length cc) (.slice A l.length cs) (.slice (some ⟨g, 0, none⟩) 1 1) c l [⟨op, day, part, kind, into, slot, key, value, ukl, ukh, ucl, uch, ull, ulh⟩] W (Below.refl _ _) (hcat.below h) (hsta.below h) hv hl hps (by simp [maxLen]))
  have HAP := Lib.hid (fun (h65 : c.length ≤ 65 ∧ ∀ k ∈ c, k.short) W0 (h0 : Below w.heap.size w W0) sv' l' (hs' : Sta W0 sv' l') (hl' : l'.length ≤ 20000) (hsh' : ∀ p ∈ l', p.short) ev t W (hr : applyL c l' ev = (t, 0)) (h : Below W0.heap.size W0 W) hev => apply_ok W0 (.slice A' c.length cc) sv' c l' ev t W hr h (hcat.below h0) (by omega) h65.2 hs' (by omega) hsh' hev)
  have HAN := Lib.hid (fun (h65 : c.length ≤ 65 ∧ ∀ k ∈ c, k.short) (h20 : l.length ≤ 20 ∧ ∀ p ∈ l, p.short) ev W (hr : (applyL c l ev).2 ≠ 0) (h : Below w.heap.size w W) hev => apply_no w (.slice A' c.length cc) (.slice A l.length cs) c l ev W hr h hcat (by omega) h65.2 hsta (by omega) h20.2 hev)
  have HVL := Lib.hid (fun (h65 : c.length ≤ 65 ∧ ∀ k ∈ c, k.short) sv' l' W0 (h0 : Below w.heap.size w W0) (hs : Sta W0 sv' l') (hl' : l'.length ≤ 100000) (hps' : ∀ p ∈ l', p.short) W (h : Below W0.heap.size W0 W) => fvalid_any W0 (.slice A' c.length cc) sv' c l' W h (hcat.below h0) (by omega) h65.2 hs hl' hps')
  have k1 := ((Has.new w 24 #[.slice A' c.length cc]).alloc (.cells #[.slice A l.length cs] 27)).alloc (.cells #[.int .i64 op, .int .i64 day, .string part, .string kind, .string into, .string slot, .string key, .string value, .int .i64 ukl, .int .i64 ukh, .int .i64 ucl, .int .i64 uch, .int .i64 ull, .int .i64 ulh] 33)
  have k2 := (Has.new (w.alloc (.cells #[.slice A' c.length cc] 24)) 27 #[.slice A l.length cs]).alloc (.cells #[.int .i64 op, .int .i64 day, .string part, .string kind, .string into, .string slot, .string key, .string value, .int .i64 ukl, .int .i64 ukh, .int .i64 ucl, .int .i64 uch, .int .i64 ull, .int .i64 ulh] 33)
  have k3 := Has.new ((w.alloc (.cells #[.slice A' c.length cc] 24)).alloc (.cells #[.slice A l.length cs] 27)) 33 #[.int .i64 op, .int .i64 day, .string part, .string kind, .string into, .string slot, .string key, .string value, .int .i64 ukl, .int .i64 ukh, .int .i64 ucl, .int .i64 uch, .int .i64 ull, .int .i64 ulh]
  simp only [World.size_alloc] at k2 k3
  have KC0 := Lib.hid k1
  have KS0 := Lib.hid k2
  have KE0 := Lib.hid k3
  have HB0 := Lib.hid ((((Below.refl w.heap.size w).alloc (Nat.le_refl _) (.cells #[.slice A' c.length cc] 24)).alloc (by simp) (.cells #[.slice A l.length cs] 27)).alloc (by simp; omega) (.cells #[.int .i64 op, .int .i64 day, .string part, .string kind, .string into, .string slot, .string key, .string value, .int .i64 ukl, .int .i64 ukh, .int .i64 ucl, .int .i64 uch, .int .i64 ull, .int .i64 ulh] 33))
  clear hcat hsta hps hev k1 k2 k3
  have HFEW := Lib.hid hfew
  clear hfew HAP HAN HST HCAT HEV HVL
  go_enter Tryz.func5, Tryz.ntmps5
  go_wp2_with fail
  refine (head_any _).mono ?_
  rintro e w1 ⟨rfl, hb1⟩
  have kC := (KC0.out).below hb1 (KC0.out).lt
  obtain ⟨xC1, yC1⟩ := kC.facts
  have zC1 := kC.lt
  have KC1 := Lib.hid kC
  have kS := (KS0.out).below hb1 (KS0.out).lt
  obtain ⟨xS1, yS1⟩ := kS.facts
  have zS1 := kS.lt
  have KS1 := Lib.hid kS
  have kE := (KE0.out).below hb1 (KE0.out).lt
  obtain ⟨xE1, yE1⟩ := kE.facts
  have zE1 := kE.lt
  have KE1 := Lib.hid kE
  have HB1 := Lib.hid ((HB0.out).trans (hb1.mono (HB0.out).size))
  clear hb1 kC kS kE
  go_wp2_with fail
  refine (HFW.out _ ((HB1.out).alloc (HB1.out).size _) (ev_sl (e := ⟨op, day, part, kind, into, slot, key, value, ukl, ukh, ucl, uch, ull, ulh⟩) (Has.new w1 33 #[.int .i64 op, .int .i64 day, .string part, .string kind, .string into, .string slot, .string key, .string value, .int .i64 ukl, .int .i64 ukh, .int .i64 ucl, .int .i64 uch, .int .i64 ull, .int .i64 ulh]))).mono ?_
  rintro e w2 ⟨rfl, hb2⟩
  rw [HFEW.out]
  clear xC1 yC1 zC1 xS1 yS1 zS1 xE1 yE1 zE1
  have kC := ((KC1.out).alloc _).below hb2 ((KC1.out).alloc _).lt
  obtain ⟨xC2, yC2⟩ := kC.facts
  have zC2 := kC.lt
  have KC2 := Lib.hid kC
  have kS := ((KS1.out).alloc _).below hb2 ((KS1.out).alloc _).lt
  obtain ⟨xS2, yS2⟩ := kS.facts
  have zS2 := kS.lt
  have KS2 := Lib.hid kS
  have kE := ((KE1.out).alloc _).below hb2 ((KE1.out).alloc _).lt
  obtain ⟨xE2, yE2⟩ := kE.facts
  have zE2 := kE.lt
  have KE2 := Lib.hid kE
  have HB2 := Lib.hid (((HB1.out).alloc (HB1.out).size _).trans (hb2.mono ((HB1.out).alloc (HB1.out).size _).size))
  clear hb2 kC kS kE
  go_wp2_with fail
  go_ret
  exact ⟨rfl, HB2.out⟩
set_option maxRecDepth 100000 in
set_option maxHeartbeats 8000000 in
theorem mean_e2 (cv sv : Value) (c : List Kd) (l : List Pa) (day : Int) (part kind into slot key value : ByteArray) (ukl ukh ucl uch ull ulh : Int) (w : World) (hcat : Cat w cv c) (hsta : Sta w sv l) (hl : l.length ≤ maxLen) (hps : ∀ p ∈ l, p.wide) (hev : Ev.short ⟨1, day, part, kind, into, slot, key, value, ukl, ukh, ucl, uch, ull, ulh⟩) (hfew : fewB c l [⟨1, day, part, kind, into, slot, key, value, ukl, ukh, ucl, uch, ull, ulh⟩] = true) :
    Calls Tryz.prog 5 #[.agg #[cv], .agg #[sv], .agg #[.int .i64 1, .int .i64 day, .string part, .string kind, .string into, .string slot, .string key, .string value, .int .i64 ukl, .int .i64 ukh, .int .i64 ucl, .int .i64 uch, .int .i64 ull, .int .i64 ulh]] w fun e w' => e = .returned (.bool true) ∧ Below w.heap.size w w' := by
  obtain ⟨A', cc, rfl, _⟩ := Rd.form hcat
  obtain ⟨A, cs, rfl, hn⟩ := Rd.form hsta
  have HST := Lib.hid hsta
  have HCAT := Lib.hid hcat
  have HEV := Lib.hid hev
  have HFW := Lib.hid (fun W (h : Below w.heap.size w W) {g : Nat} (hv : Sl W (.slice (some ⟨g, 0, none⟩) 1 1) 1 14 (evF [⟨1, day, part, kind, into, slot, key, value, ukl, ukh, ucl, uch, ull, ulh⟩])) => few_any W (.slice A' c.length cc) (.slice A l.length cs) (.slice (some ⟨g, 0, none⟩) 1 1) c l [⟨1, day, part, kind, into, slot, key, value, ukl, ukh, ucl, uch, ull, ulh⟩] W (Below.refl _ _) (hcat.below h) (hsta.below h) hv hl hps (by simp [maxLen]))
  have HAP := Lib.hid (fun (h65 : c.length ≤ 65 ∧ ∀ k ∈ c, k.short) W0 (h0 : Below w.heap.size w W0) sv' l' (hs' : Sta W0 sv' l') (hl' : l'.length ≤ 20000) (hsh' : ∀ p ∈ l', p.short) ev t W (hr : applyL c l' ev = (t, 0)) (h : Below W0.heap.size W0 W) hev => apply_ok W0 (.slice A' c.length cc) sv' c l' ev t W hr h (hcat.below h0) (by omega) h65.2 hs' (by omega) hsh' hev)
  have HAN := Lib.hid (fun (h65 : c.length ≤ 65 ∧ ∀ k ∈ c, k.short) (h20 : l.length ≤ 20 ∧ ∀ p ∈ l, p.short) ev W (hr : (applyL c l ev).2 ≠ 0) (h : Below w.heap.size w W) hev => apply_no w (.slice A' c.length cc) (.slice A l.length cs) c l ev W hr h hcat (by omega) h65.2 hsta (by omega) h20.2 hev)
  have HVL := Lib.hid (fun (h65 : c.length ≤ 65 ∧ ∀ k ∈ c, k.short) sv' l' W0 (h0 : Below w.heap.size w W0) (hs : Sta W0 sv' l') (hl' : l'.length ≤ 100000) (hps' : ∀ p ∈ l', p.short) W (h : Below W0.heap.size W0 W) => fvalid_any W0 (.slice A' c.length cc) sv' c l' W h (hcat.below h0) (by omega) h65.2 hs hl' hps')
  have k1 := ((Has.new w 24 #[.slice A' c.length cc]).alloc (.cells #[.slice A l.length cs] 27)).alloc (.cells #[.int .i64 1, .int .i64 day, .string part, .string kind, .string into, .string slot, .string key, .string value, .int .i64 ukl, .int .i64 ukh, .int .i64 ucl, .int .i64 uch, .int .i64 ull, .int .i64 ulh] 33)
  have k2 := (Has.new (w.alloc (.cells #[.slice A' c.length cc] 24)) 27 #[.slice A l.length cs]).alloc (.cells #[.int .i64 1, .int .i64 day, .string part, .string kind, .string into, .string slot, .string key, .string value, .int .i64 ukl, .int .i64 ukh, .int .i64 ucl, .int .i64 uch, .int .i64 ull, .int .i64 ulh] 33)
  have k3 := Has.new ((w.alloc (.cells #[.slice A' c.length cc] 24)).alloc (.cells #[.slice A l.length cs] 27)) 33 #[.int .i64 1, .int .i64 day, .string part, .string kind, .string into, .string slot, .string key, .string value, .int .i64 ukl, .int .i64 ukh, .int .i64 ucl, .int .i64 uch, .int .i64 ull, .int .i64 ulh]
  simp only [World.size_alloc] at k2 k3
  have KC0 := Lib.hid k1
  have KS0 := Lib.hid k2
  have KE0 := Lib.hid k3
  have HB0 := Lib.hid ((((Below.refl w.heap.size w).alloc (Nat.le_refl _) (.cells #[.slice A' c.length cc] 24)).alloc (by simp) (.cells #[.slice A l.length cs] 27)).alloc (by simp; omega) (.cells #[.int .i64 1, .int .i64 day, .string part, .string kind, .string into, .string slot, .string key, .string value, .int .i64 ukl, .int .i64 ukh, .int .i64 ucl, .int .i64 uch, .int .i64 ull, .int .i64 ulh] 33))
  clear hcat hsta hps hev k1 k2 k3
  obtain ⟨h65, h20⟩ := fewB_take hfew
  have HVL := Lib.hid (HVL.out h65)
  have HAP := Lib.hid (HAP.out h65)
  have HAN := Lib.hid (HAN.out h65 h20)
  have HL := Lib.hid (show l.length ≤ 20000 by omega)
  have HL5 := Lib.hid (show l.length ≤ 100000 by omega)
  have HL6 := Lib.hid (show l.length ≤ 1000000 by omega)
  have HSH := Lib.hid h20.2
  have HFEW := Lib.hid hfew
  clear hfew h65 h20
  clear HAP HAN HST HCAT HVL
  go_enter Tryz.func5, Tryz.ntmps5
  go_wp2_with fail
  refine (head_any _).mono ?_
  rintro e w1 ⟨rfl, hb1⟩
  have kC := (KC0.out).below hb1 (KC0.out).lt
  obtain ⟨xC1, yC1⟩ := kC.facts
  have zC1 := kC.lt
  have KC1 := Lib.hid kC
  have kS := (KS0.out).below hb1 (KS0.out).lt
  obtain ⟨xS1, yS1⟩ := kS.facts
  have zS1 := kS.lt
  have KS1 := Lib.hid kS
  have kE := (KE0.out).below hb1 (KE0.out).lt
  obtain ⟨xE1, yE1⟩ := kE.facts
  have zE1 := kE.lt
  have KE1 := Lib.hid kE
  have HB1 := Lib.hid ((HB0.out).trans (hb1.mono (HB0.out).size))
  clear hb1 kC kS kE
  go_wp2_with fail
  refine (HFW.out _ ((HB1.out).alloc (HB1.out).size _) (ev_sl (e := ⟨1, day, part, kind, into, slot, key, value, ukl, ukh, ucl, uch, ull, ulh⟩) (Has.new w1 33 #[.int .i64 1, .int .i64 day, .string part, .string kind, .string into, .string slot, .string key, .string value, .int .i64 ukl, .int .i64 ukh, .int .i64 ucl, .int .i64 uch, .int .i64 ull, .int .i64 ulh]))).mono ?_
  rintro e w2 ⟨rfl, hb2⟩
  rw [HFEW.out]
  clear xC1 yC1 zC1 xS1 yS1 zS1 xE1 yE1 zE1
  have kC := ((KC1.out).alloc _).below hb2 ((KC1.out).alloc _).lt
  obtain ⟨xC2, yC2⟩ := kC.facts
  have zC2 := kC.lt
  have KC2 := Lib.hid kC
  have kS := ((KS1.out).alloc _).below hb2 ((KS1.out).alloc _).lt
  obtain ⟨xS2, yS2⟩ := kS.facts
  have zS2 := kS.lt
  have KS2 := Lib.hid kS
  have kE := ((KE1.out).alloc _).below hb2 ((KE1.out).alloc _).lt
  obtain ⟨xE2, yE2⟩ := kE.facts
  have zE2 := kE.lt
  have KE2 := Lib.hid kE
  have HB2 := Lib.hid (((HB1.out).alloc (HB1.out).size _).trans (hb2.mono ((HB1.out).alloc (HB1.out).size _).size))
  clear hb2 kC kS kE
  go_wp2_with fail
  go_ret
  exact ⟨rfl, HB2.out⟩
set_option maxRecDepth 100000 in
set_option maxHeartbeats 8000000 in
theorem mean_e3 (cv sv : Value) (c : List Kd) (l : List Pa) (op day : Int) (part kind into slot key value : ByteArray) (ukl ukh ucl uch ull ulh : Int) (w : World) (hcat : Cat w cv c) (hsta : Sta w sv l) (hl : l.length ≤ maxLen) (hps : ∀ p ∈ l, p.wide) (hev : Ev.short ⟨op, day, part, kind, into, slot, key, value, ukl, ukh, ucl, uch, ull, ulh⟩) (hfew : fewB c l [⟨op, day, part, kind, into, slot, key, value, ukl, ukh, ucl, uch, ull, ulh⟩] = true) (t : List Pa) (re : Int) (hr : applyL c l ⟨op, day, part, kind, into, slot, key, value, ukl, ukh, ucl, uch, ull, ulh⟩ = (t, re)) (hre : ¬ re = 0) (ho : ¬ op = 1) :
    Calls Tryz.prog 5 #[.agg #[cv], .agg #[sv], .agg #[.int .i64 op, .int .i64 day, .string part, .string kind, .string into, .string slot, .string key, .string value, .int .i64 ukl, .int .i64 ukh, .int .i64 ucl, .int .i64 uch, .int .i64 ull, .int .i64 ulh]] w fun e w' => e = .returned (.bool true) ∧ Below w.heap.size w w' := by
  obtain ⟨A', cc, rfl, _⟩ := Rd.form hcat
  obtain ⟨A, cs, rfl, hn⟩ := Rd.form hsta
  have HST := Lib.hid hsta
  have HCAT := Lib.hid hcat
  have HEV := Lib.hid hev
  have HFW := Lib.hid (fun W (h : Below w.heap.size w W) {g : Nat} (hv : Sl W (.slice (some ⟨g, 0, none⟩) 1 1) 1 14 (evF [⟨op, day, part, kind, into, slot, key, value, ukl, ukh, ucl, uch, ull, ulh⟩])) => few_any W (.slice A' c.length cc) (.slice A l.length cs) (.slice (some ⟨g, 0, none⟩) 1 1) c l [⟨op, day, part, kind, into, slot, key, value, ukl, ukh, ucl, uch, ull, ulh⟩] W (Below.refl _ _) (hcat.below h) (hsta.below h) hv hl hps (by simp [maxLen]))
  have HAP := Lib.hid (fun (h65 : c.length ≤ 65 ∧ ∀ k ∈ c, k.short) W0 (h0 : Below w.heap.size w W0) sv' l' (hs' : Sta W0 sv' l') (hl' : l'.length ≤ 20000) (hsh' : ∀ p ∈ l', p.short) ev t W (hr : applyL c l' ev = (t, 0)) (h : Below W0.heap.size W0 W) hev => apply_ok W0 (.slice A' c.length cc) sv' c l' ev t W hr h (hcat.below h0) (by omega) h65.2 hs' (by omega) hsh' hev)
  have HAN := Lib.hid (fun (h65 : c.length ≤ 65 ∧ ∀ k ∈ c, k.short) (h20 : l.length ≤ 20 ∧ ∀ p ∈ l, p.short) ev W (hr : (applyL c l ev).2 ≠ 0) (h : Below w.heap.size w W) hev => apply_no w (.slice A' c.length cc) (.slice A l.length cs) c l ev W hr h hcat (by omega) h65.2 hsta (by omega) h20.2 hev)
  have HVL := Lib.hid (fun (h65 : c.length ≤ 65 ∧ ∀ k ∈ c, k.short) sv' l' W0 (h0 : Below w.heap.size w W0) (hs : Sta W0 sv' l') (hl' : l'.length ≤ 100000) (hps' : ∀ p ∈ l', p.short) W (h : Below W0.heap.size W0 W) => fvalid_any W0 (.slice A' c.length cc) sv' c l' W h (hcat.below h0) (by omega) h65.2 hs hl' hps')
  have k1 := ((Has.new w 24 #[.slice A' c.length cc]).alloc (.cells #[.slice A l.length cs] 27)).alloc (.cells #[.int .i64 op, .int .i64 day, .string part, .string kind, .string into, .string slot, .string key, .string value, .int .i64 ukl, .int .i64 ukh, .int .i64 ucl, .int .i64 uch, .int .i64 ull, .int .i64 ulh] 33)
  have k2 := (Has.new (w.alloc (.cells #[.slice A' c.length cc] 24)) 27 #[.slice A l.length cs]).alloc (.cells #[.int .i64 op, .int .i64 day, .string part, .string kind, .string into, .string slot, .string key, .string value, .int .i64 ukl, .int .i64 ukh, .int .i64 ucl, .int .i64 uch, .int .i64 ull, .int .i64 ulh] 33)
  have k3 := Has.new ((w.alloc (.cells #[.slice A' c.length cc] 24)).alloc (.cells #[.slice A l.length cs] 27)) 33 #[.int .i64 op, .int .i64 day, .string part, .string kind, .string into, .string slot, .string key, .string value, .int .i64 ukl, .int .i64 ukh, .int .i64 ucl, .int .i64 uch, .int .i64 ull, .int .i64 ulh]
  simp only [World.size_alloc] at k2 k3
  have KC0 := Lib.hid k1
  have KS0 := Lib.hid k2
  have KE0 := Lib.hid k3
  have HB0 := Lib.hid ((((Below.refl w.heap.size w).alloc (Nat.le_refl _) (.cells #[.slice A' c.length cc] 24)).alloc (by simp) (.cells #[.slice A l.length cs] 27)).alloc (by simp; omega) (.cells #[.int .i64 op, .int .i64 day, .string part, .string kind, .string into, .string slot, .string key, .string value, .int .i64 ukl, .int .i64 ukh, .int .i64 ucl, .int .i64 uch, .int .i64 ull, .int .i64 ulh] 33))
  clear hcat hsta hps hev k1 k2 k3
  obtain ⟨h65, h20⟩ := fewB_take hfew
  have HVL := Lib.hid (HVL.out h65)
  have HAP := Lib.hid (HAP.out h65)
  have HAN := Lib.hid (HAN.out h65 h20)
  have HL := Lib.hid (show l.length ≤ 20000 by omega)
  have HL5 := Lib.hid (show l.length ≤ 100000 by omega)
  have HL6 := Lib.hid (show l.length ≤ 1000000 by omega)
  have HSH := Lib.hid h20.2
  have HFEW := Lib.hid hfew
  clear hfew h65 h20
  have HNO := Lib.hid (fun W (h : Below w.heap.size w W) => HAN.out _ W (by rw [hr]; exact hre) h HEV.out)
  rw [hr] at HNO
  have hr1 : (re != 0) = true := by simpa using hre
  have hr2 : (re == 0) = false := by simpa using hre
  have ho1 : (op == 1) = false := by simpa using ho
  clear hr hre ho HAP HVL HCAT HST
  go_enter Tryz.func5, Tryz.ntmps5
  go_wp2_with fail
  refine (head_any _).mono ?_
  rintro e w1 ⟨rfl, hb1⟩
  have kC := (KC0.out).below hb1 (KC0.out).lt
  obtain ⟨xC1, yC1⟩ := kC.facts
  have zC1 := kC.lt
  have KC1 := Lib.hid kC
  have kS := (KS0.out).below hb1 (KS0.out).lt
  obtain ⟨xS1, yS1⟩ := kS.facts
  have zS1 := kS.lt
  have KS1 := Lib.hid kS
  have kE := (KE0.out).below hb1 (KE0.out).lt
  obtain ⟨xE1, yE1⟩ := kE.facts
  have zE1 := kE.lt
  have KE1 := Lib.hid kE
  have HB1 := Lib.hid ((HB0.out).trans (hb1.mono (HB0.out).size))
  clear hb1 kC kS kE
  go_wp2_with fail
  refine (HFW.out _ ((HB1.out).alloc (HB1.out).size _) (ev_sl (e := ⟨op, day, part, kind, into, slot, key, value, ukl, ukh, ucl, uch, ull, ulh⟩) (Has.new w1 33 #[.int .i64 op, .int .i64 day, .string part, .string kind, .string into, .string slot, .string key, .string value, .int .i64 ukl, .int .i64 ukh, .int .i64 ucl, .int .i64 uch, .int .i64 ull, .int .i64 ulh]))).mono ?_
  rintro e w2 ⟨rfl, hb2⟩
  rw [HFEW.out]
  clear xC1 yC1 zC1 xS1 yS1 zS1 xE1 yE1 zE1
  have kC := ((KC1.out).alloc _).below hb2 ((KC1.out).alloc _).lt
  obtain ⟨xC2, yC2⟩ := kC.facts
  have zC2 := kC.lt
  have KC2 := Lib.hid kC
  have kS := ((KS1.out).alloc _).below hb2 ((KS1.out).alloc _).lt
  obtain ⟨xS2, yS2⟩ := kS.facts
  have zS2 := kS.lt
  have KS2 := Lib.hid kS
  have kE := ((KE1.out).alloc _).below hb2 ((KE1.out).alloc _).lt
  obtain ⟨xE2, yE2⟩ := kE.facts
  have zE2 := kE.lt
  have KE2 := Lib.hid kE
  have HB2 := Lib.hid (((HB1.out).alloc (HB1.out).size _).trans (hb2.mono ((HB1.out).alloc (HB1.out).size _).size))
  clear hb2 kC kS kE
  go_wp2_with fail
  refine (HNO.out _ (HB2.out)).mono ?_
  rintro e w3 ⟨A3, c3, rfl, hb3⟩
  clear xC2 yC2 zC2 xS2 yS2 zS2 xE2 yE2 zE2
  have kC := (KC2.out).below hb3 (KC2.out).lt
  obtain ⟨xC3, yC3⟩ := kC.facts
  have zC3 := kC.lt
  have KC3 := Lib.hid kC
  have kS := (KS2.out).below hb3 (KS2.out).lt
  obtain ⟨xS3, yS3⟩ := kS.facts
  have zS3 := kS.lt
  have KS3 := Lib.hid kS
  have kE := (KE2.out).below hb3 (KE2.out).lt
  obtain ⟨xE3, yE3⟩ := kE.facts
  have zE3 := kE.lt
  have KE3 := Lib.hid kE
  have HB3 := Lib.hid ((HB2.out).trans (hb3.mono (HB2.out).size))
  clear hb3 kC kS kE
  go_wp2_with fail
  go_ret
  exact ⟨rfl, (HB3.out).alloc (HB3.out).size _⟩
set_option maxRecDepth 100000 in
set_option maxHeartbeats 8000000 in
theorem mean_4 (cv sv : Value) (c : List Kd) (l : List Pa) (day : Int) (part kind into slot key value : ByteArray) (ukl ukh ucl uch ull ulh : Int) (w : World) (hcat : Cat w cv c) (hsta : Sta w sv l) (hl : l.length ≤ maxLen) (hps : ∀ p ∈ l, p.wide) (hev : Ev.short ⟨4, day, part, kind, into, slot, key, value, ukl, ukh, ucl, uch, ull, ulh⟩) (hfew : fewB c l [⟨4, day, part, kind, into, slot, key, value, ukl, ukh, ucl, uch, ull, ulh⟩] = true) (t : List Pa) (hr : applyL c l ⟨4, day, part, kind, into, slot, key, value, ukl, ukh, ucl, uch, ull, ulh⟩ = (t, 0)) :
    Calls Tryz.prog 5 #[.agg #[cv], .agg #[sv], .agg #[.int .i64 4, .int .i64 day, .string part, .string kind, .string into, .string slot, .string key, .string value, .int .i64 ukl, .int .i64 ukh, .int .i64 ucl, .int .i64 uch, .int .i64 ull, .int .i64 ulh]] w fun e w' => e = .returned (.bool true) ∧ Below w.heap.size w w' := by
  obtain ⟨A', cc, rfl, _⟩ := Rd.form hcat
  obtain ⟨A, cs, rfl, hn⟩ := Rd.form hsta
  have HST := Lib.hid hsta
  have HCAT := Lib.hid hcat
  have HEV := Lib.hid hev
  have HFW := Lib.hid (fun W (h : Below w.heap.size w W) {g : Nat} (hv : Sl W (.slice (some ⟨g, 0, none⟩) 1 1) 1 14 (evF [⟨4, day, part, kind, into, slot, key, value, ukl, ukh, ucl, uch, ull, ulh⟩])) => few_any W (.slice A' c.length cc) (.slice A l.length cs) (.slice (some ⟨g, 0, none⟩) 1 1) c l [⟨4, day, part, kind, into, slot, key, value, ukl, ukh, ucl, uch, ull, ulh⟩] W (Below.refl _ _) (hcat.below h) (hsta.below h) hv hl hps (by simp [maxLen]))
  have HAP := Lib.hid (fun (h65 : c.length ≤ 65 ∧ ∀ k ∈ c, k.short) W0 (h0 : Below w.heap.size w W0) sv' l' (hs' : Sta W0 sv' l') (hl' : l'.length ≤ 20000) (hsh' : ∀ p ∈ l', p.short) ev t W (hr : applyL c l' ev = (t, 0)) (h : Below W0.heap.size W0 W) hev => apply_ok W0 (.slice A' c.length cc) sv' c l' ev t W hr h (hcat.below h0) (by omega) h65.2 hs' (by omega) hsh' hev)
  have HAN := Lib.hid (fun (h65 : c.length ≤ 65 ∧ ∀ k ∈ c, k.short) (h20 : l.length ≤ 20 ∧ ∀ p ∈ l, p.short) ev W (hr : (applyL c l ev).2 ≠ 0) (h : Below w.heap.size w W) hev => apply_no w (.slice A' c.length cc) (.slice A l.length cs) c l ev W hr h hcat (by omega) h65.2 hsta (by omega) h20.2 hev)
  have HVL := Lib.hid (fun (h65 : c.length ≤ 65 ∧ ∀ k ∈ c, k.short) sv' l' W0 (h0 : Below w.heap.size w W0) (hs : Sta W0 sv' l') (hl' : l'.length ≤ 100000) (hps' : ∀ p ∈ l', p.short) W (h : Below W0.heap.size W0 W) => fvalid_any W0 (.slice A' c.length cc) sv' c l' W h (hcat.below h0) (by omega) h65.2 hs hl' hps')
  have k1 := ((Has.new w 24 #[.slice A' c.length cc]).alloc (.cells #[.slice A l.length cs] 27)).alloc (.cells #[.int .i64 4, .int .i64 day, .string part, .string kind, .string into, .string slot, .string key, .string value, .int .i64 ukl, .int .i64 ukh, .int .i64 ucl, .int .i64 uch, .int .i64 ull, .int .i64 ulh] 33)
  have k2 := (Has.new (w.alloc (.cells #[.slice A' c.length cc] 24)) 27 #[.slice A l.length cs]).alloc (.cells #[.int .i64 4, .int .i64 day, .string part, .string kind, .string into, .string slot, .string key, .string value, .int .i64 ukl, .int .i64 ukh, .int .i64 ucl, .int .i64 uch, .int .i64 ull, .int .i64 ulh] 33)
  have k3 := Has.new ((w.alloc (.cells #[.slice A' c.length cc] 24)).alloc (.cells #[.slice A l.length cs] 27)) 33 #[.int .i64 4, .int .i64 day, .string part, .string kind, .string into, .string slot, .string key, .string value, .int .i64 ukl, .int .i64 ukh, .int .i64 ucl, .int .i64 uch, .int .i64 ull, .int .i64 ulh]
  simp only [World.size_alloc] at k2 k3
  have KC0 := Lib.hid k1
  have KS0 := Lib.hid k2
  have KE0 := Lib.hid k3
  have HB0 := Lib.hid ((((Below.refl w.heap.size w).alloc (Nat.le_refl _) (.cells #[.slice A' c.length cc] 24)).alloc (by simp) (.cells #[.slice A l.length cs] 27)).alloc (by simp; omega) (.cells #[.int .i64 4, .int .i64 day, .string part, .string kind, .string into, .string slot, .string key, .string value, .int .i64 ukl, .int .i64 ukh, .int .i64 ucl, .int .i64 uch, .int .i64 ull, .int .i64 ulh] 33))
  clear hcat hsta hps hev k1 k2 k3
  obtain ⟨h65, h20⟩ := fewB_take hfew
  have HVL := Lib.hid (HVL.out h65)
  have HAP := Lib.hid (HAP.out h65)
  have HAN := Lib.hid (HAN.out h65 h20)
  have HL := Lib.hid (show l.length ≤ 20000 by omega)
  have HL5 := Lib.hid (show l.length ≤ 100000 by omega)
  have HL6 := Lib.hid (show l.length ≤ 1000000 by omega)
  have HSH := Lib.hid h20.2
  have HFEW := Lib.hid hfew
  clear hfew h65 h20
  have HTL := Lib.hid (apply_short HSH.out HEV.out hr)
  have HOK := Lib.hid (fun W (h : Below w.heap.size w W) => HAP.out w (Below.refl _ _) (.slice A l.length cs) l HST.out HL.out HSH.out _ t W hr h HEV.out)
  have HF1 := Lib.hid (fun W (h : Below w.heap.size w W) => fpart_any w (.slice A l.length cs) l part W h HST.out HL6.out)
  have HF2 := Lib.hid (fun W0 A3 c3 (hs : Sta W0 (.slice A3 t.length c3) t) W (h : Below W0.heap.size W0 W) => fpart_any W0 (.slice A3 t.length c3) t part W h hs (by have := HTL.out.1; omega))
  obtain ⟨pp, hh, rr, hpm, hpf, hrf, htr, ht, htl, hrn⟩ := turn_parts hr (by dsimp only; omega)
  obtain ⟨pname, pkind, pinto, pslot, pmade, psince, pgone, pprops, pkl, pkh, pcl, pch, pdl, pdh⟩ := pp
  have hrr : rr = ⟨pname, pkind, pinto, pslot, pmade, psince, pgone, pprops, pkl, pkh, pcl, pch, pdl, pdh⟩ := by
    rcases htr with ⟨a, _, _, _, _, h⟩ | ⟨a, _, h⟩ | ⟨a, _, h⟩ | ⟨a, h⟩ | ⟨a, _, h⟩ | ⟨a, _, _, h⟩
    all_goals first | exact h | (dsimp only at a; omega)
  have HPL := Lib.hid (show pprops.length ≤ 100000 from (HSH.out _ hpm).2.2.2.2.1)
  rw [hpf] at HF1
  rw [hrf, hrr] at HF2
  simp only [Option.getD_some, Option.isSome_some] at HF1 HF2
  clear hpf hrf hrr htr ht htl hrn hpm hr
  go_enter Tryz.func5, Tryz.ntmps5
  go_wp2_with fail
  refine (head_any _).mono ?_
  rintro e w1 ⟨rfl, hb1⟩
  have kC := (KC0.out).below hb1 (KC0.out).lt
  obtain ⟨xC1, yC1⟩ := kC.facts
  have zC1 := kC.lt
  have KC1 := Lib.hid kC
  have kS := (KS0.out).below hb1 (KS0.out).lt
  obtain ⟨xS1, yS1⟩ := kS.facts
  have zS1 := kS.lt
  have KS1 := Lib.hid kS
  have kE := (KE0.out).below hb1 (KE0.out).lt
  obtain ⟨xE1, yE1⟩ := kE.facts
  have zE1 := kE.lt
  have KE1 := Lib.hid kE
  have HB1 := Lib.hid ((HB0.out).trans (hb1.mono (HB0.out).size))
  clear hb1 kC kS kE
  go_wp2_with fail
  refine (HFW.out _ ((HB1.out).alloc (HB1.out).size _) (ev_sl (e := ⟨4, day, part, kind, into, slot, key, value, ukl, ukh, ucl, uch, ull, ulh⟩) (Has.new w1 33 #[.int .i64 4, .int .i64 day, .string part, .string kind, .string into, .string slot, .string key, .string value, .int .i64 ukl, .int .i64 ukh, .int .i64 ucl, .int .i64 uch, .int .i64 ull, .int .i64 ulh]))).mono ?_
  rintro e w2 ⟨rfl, hb2⟩
  rw [HFEW.out]
  clear xC1 yC1 zC1 xS1 yS1 zS1 xE1 yE1 zE1
  have kC := ((KC1.out).alloc _).below hb2 ((KC1.out).alloc _).lt
  obtain ⟨xC2, yC2⟩ := kC.facts
  have zC2 := kC.lt
  have KC2 := Lib.hid kC
  have kS := ((KS1.out).alloc _).below hb2 ((KS1.out).alloc _).lt
  obtain ⟨xS2, yS2⟩ := kS.facts
  have zS2 := kS.lt
  have KS2 := Lib.hid kS
  have kE := ((KE1.out).alloc _).below hb2 ((KE1.out).alloc _).lt
  obtain ⟨xE2, yE2⟩ := kE.facts
  have zE2 := kE.lt
  have KE2 := Lib.hid kE
  have HB2 := Lib.hid (((HB1.out).alloc (HB1.out).size _).trans (hb2.mono ((HB1.out).alloc (HB1.out).size _).size))
  clear hb2 kC kS kE
  go_wp2_with fail
  refine (HOK.out _ (HB2.out)).mono ?_
  rintro e w3 ⟨A3, c3, rfl, hst3, hb3⟩
  have HST3 := Lib.hid hst3
  clear hst3
  clear xC2 yC2 zC2 xS2 yS2 zS2 xE2 yE2 zE2
  have kC := (KC2.out).below hb3 (KC2.out).lt
  obtain ⟨xC3, yC3⟩ := kC.facts
  have zC3 := kC.lt
  have KC3 := Lib.hid kC
  have kS := (KS2.out).below hb3 (KS2.out).lt
  obtain ⟨xS3, yS3⟩ := kS.facts
  have zS3 := kS.lt
  have KS3 := Lib.hid kS
  have kE := (KE2.out).below hb3 (KE2.out).lt
  obtain ⟨xE3, yE3⟩ := kE.facts
  have zE3 := kE.lt
  have KE3 := Lib.hid kE
  have HB3 := Lib.hid ((HB2.out).trans (hb3.mono (HB2.out).size))
  clear hb3 kC kS kE
  go_wp2_with fail
  refine (HF1.out _ ((HB3.out).alloc (HB3.out).size _)).mono ?_
  rintro e w4 ⟨A4, m4, rfl, hpr4, hb4⟩
  have HPR4 := Lib.hid hpr4
  have HBZ := Lib.hid (((Below.refl w3.heap.size w3).alloc (Nat.le_refl _) _).trans (hb4.mono (by simp)) : Below w3.heap.size w3 w4)
  clear hpr4
  clear xC3 yC3 zC3 xS3 yS3 zS3 xE3 yE3 zE3
  have kC := ((KC3.out).alloc _).below hb4 ((KC3.out).alloc _).lt
  obtain ⟨xC4, yC4⟩ := kC.facts
  have zC4 := kC.lt
  have KC4 := Lib.hid kC
  have kS := ((KS3.out).alloc _).below hb4 ((KS3.out).alloc _).lt
  obtain ⟨xS4, yS4⟩ := kS.facts
  have zS4 := kS.lt
  have KS4 := Lib.hid kS
  have kE := ((KE3.out).alloc _).below hb4 ((KE3.out).alloc _).lt
  obtain ⟨xE4, yE4⟩ := kE.facts
  have zE4 := kE.lt
  have KE4 := Lib.hid kE
  have kT := (Has.new (w3) 27 #[.slice A3 t.length c3]).below hb4 (Has.new (w3) 27 #[.slice A3 t.length c3]).lt
  obtain ⟨xT4, yT4⟩ := kT.facts
  have zT4 := kT.lt
  have KT4 := Lib.hid kT
  have HB4 := Lib.hid (((HB3.out).alloc (HB3.out).size _).trans (hb4.mono ((HB3.out).alloc (HB3.out).size _).size))
  clear hb4 kC kS kE kT
  go_wp2_with fail
  refine (HF2.out w3 A3 c3 HST3.out _ (HBZ.out.alloc HBZ.out.size _)).mono ?_
  rintro e w5 ⟨A5, m5, rfl, hpr5, hb5⟩
  have HPR5 := Lib.hid hpr5
  have HBY := Lib.hid ((HBZ.out.alloc HBZ.out.size _).trans (hb5.mono (HBZ.out.alloc HBZ.out.size _).size))
  clear hpr5
  clear xC4 yC4 zC4 xS4 yS4 zS4 xE4 yE4 zE4 xT4 yT4 zT4
  have kC := ((KC4.out).alloc _).below hb5 ((KC4.out).alloc _).lt
  obtain ⟨xC5, yC5⟩ := kC.facts
  have zC5 := kC.lt
  have KC5 := Lib.hid kC
  have kS := ((KS4.out).alloc _).below hb5 ((KS4.out).alloc _).lt
  obtain ⟨xS5, yS5⟩ := kS.facts
  have zS5 := kS.lt
  have KS5 := Lib.hid kS
  have kE := ((KE4.out).alloc _).below hb5 ((KE4.out).alloc _).lt
  obtain ⟨xE5, yE5⟩ := kE.facts
  have zE5 := kE.lt
  have KE5 := Lib.hid kE
  have kT := ((KT4.out).alloc _).below hb5 ((KT4.out).alloc _).lt
  obtain ⟨xT5, yT5⟩ := kT.facts
  have zT5 := kT.lt
  have KT5 := Lib.hid kT
  have kP1 := (Has.new (w4) 47 #[.string pname, .string pkind, .string pinto, .string pslot, .int .i64 pmade, .int .i64 psince, .bool pgone, .slice A4 pprops.length m4, .int .i64 pkl, .int .i64 pkh, .int .i64 pcl, .int .i64 pch, .int .i64 pdl, .int .i64 pdh]).below hb5 (Has.new (w4) 47 #[.string pname, .string pkind, .string pinto, .string pslot, .int .i64 pmade, .int .i64 psince, .bool pgone, .slice A4 pprops.length m4, .int .i64 pkl, .int .i64 pkh, .int .i64 pcl, .int .i64 pch, .int .i64 pdl, .int .i64 pdh]).lt
  obtain ⟨xP15, yP15⟩ := kP1.facts
  have zP15 := kP1.lt
  have KP15 := Lib.hid kP1
  have HB5 := Lib.hid (((HB4.out).alloc (HB4.out).size _).trans (hb5.mono ((HB4.out).alloc (HB4.out).size _).size))
  clear hb5 kC kS kE kT kP1
  go_wp2_with fail
  have HBW := Lib.hid ((HBY.out.alloc HBY.out.size (.cells #[.string pname, .string pkind, .string pinto, .string pslot, .int .i64 pmade, .int .i64 psince, .bool pgone, .slice A5 pprops.length m5, .int .i64 pkl, .int .i64 pkh, .int .i64 pcl, .int .i64 pch, .int .i64 pdl, .int .i64 pdh] 47)).alloc (HBY.out.alloc HBY.out.size _).size (.cells #[.string pname, .string pkind, .string pinto, .string pslot, .int .i64 pmade, .int .i64 psince, .bool pgone, .slice A4 pprops.length m4, .int .i64 pkl, .int .i64 pkh, .int .i64 pcl, .int .i64 pch, .int .i64 pdl, .int .i64 pdh] 47))
  refine (samePart_any pname pkind pinto pslot pmade psince pgone pprops pkl pkh pcl pch pdl pdh pname pkind pinto pslot pmade psince pgone pprops pkl pkh pcl pch pdl pdh A5 A4 m5 m4 _ (HPR5.out.below PrR.stays HBW.out) (HPR4.out.below PrR.stays (HB3.out.trans (HBW.out.mono HB3.out.size))) HPL.out HPL.out).mono ?_
  rintro e w6 ⟨rfl, hb6⟩
  rw [decide_eq_true rfl]
  have HB6 := Lib.hid ((HB3.out.trans (HBW.out.mono HB3.out.size)).trans (hb6.mono (HB3.out.trans (HBW.out.mono HB3.out.size)).size))
  clear hb6
  go_wp2_with fail
  go_ret
  exact ⟨rfl, HB6.out⟩
set_option maxRecDepth 100000 in
set_option maxHeartbeats 8000000 in
theorem mean_3 (cv sv : Value) (c : List Kd) (l : List Pa) (day : Int) (part kind into slot key value : ByteArray) (ukl ukh ucl uch ull ulh : Int) (w : World) (hcat : Cat w cv c) (hsta : Sta w sv l) (hl : l.length ≤ maxLen) (hps : ∀ p ∈ l, p.wide) (hev : Ev.short ⟨3, day, part, kind, into, slot, key, value, ukl, ukh, ucl, uch, ull, ulh⟩) (hfew : fewB c l [⟨3, day, part, kind, into, slot, key, value, ukl, ukh, ucl, uch, ull, ulh⟩] = true) (t : List Pa) (hr : applyL c l ⟨3, day, part, kind, into, slot, key, value, ukl, ukh, ucl, uch, ull, ulh⟩ = (t, 0)) :
    Calls Tryz.prog 5 #[.agg #[cv], .agg #[sv], .agg #[.int .i64 3, .int .i64 day, .string part, .string kind, .string into, .string slot, .string key, .string value, .int .i64 ukl, .int .i64 ukh, .int .i64 ucl, .int .i64 uch, .int .i64 ull, .int .i64 ulh]] w fun e w' => e = .returned (.bool true) ∧ Below w.heap.size w w' := by
  obtain ⟨A', cc, rfl, _⟩ := Rd.form hcat
  obtain ⟨A, cs, rfl, hn⟩ := Rd.form hsta
  have HST := Lib.hid hsta
  have HCAT := Lib.hid hcat
  have HEV := Lib.hid hev
  have HFW := Lib.hid (fun W (h : Below w.heap.size w W) {g : Nat} (hv : Sl W (.slice (some ⟨g, 0, none⟩) 1 1) 1 14 (evF [⟨3, day, part, kind, into, slot, key, value, ukl, ukh, ucl, uch, ull, ulh⟩])) => few_any W (.slice A' c.length cc) (.slice A l.length cs) (.slice (some ⟨g, 0, none⟩) 1 1) c l [⟨3, day, part, kind, into, slot, key, value, ukl, ukh, ucl, uch, ull, ulh⟩] W (Below.refl _ _) (hcat.below h) (hsta.below h) hv hl hps (by simp [maxLen]))
  have HAP := Lib.hid (fun (h65 : c.length ≤ 65 ∧ ∀ k ∈ c, k.short) W0 (h0 : Below w.heap.size w W0) sv' l' (hs' : Sta W0 sv' l') (hl' : l'.length ≤ 20000) (hsh' : ∀ p ∈ l', p.short) ev t W (hr : applyL c l' ev = (t, 0)) (h : Below W0.heap.size W0 W) hev => apply_ok W0 (.slice A' c.length cc) sv' c l' ev t W hr h (hcat.below h0) (by omega) h65.2 hs' (by omega) hsh' hev)
  have HAN := Lib.hid (fun (h65 : c.length ≤ 65 ∧ ∀ k ∈ c, k.short) (h20 : l.length ≤ 20 ∧ ∀ p ∈ l, p.short) ev W (hr : (applyL c l ev).2 ≠ 0) (h : Below w.heap.size w W) hev => apply_no w (.slice A' c.length cc) (.slice A l.length cs) c l ev W hr h hcat (by omega) h65.2 hsta (by omega) h20.2 hev)
  have HVL := Lib.hid (fun (h65 : c.length ≤ 65 ∧ ∀ k ∈ c, k.short) sv' l' W0 (h0 : Below w.heap.size w W0) (hs : Sta W0 sv' l') (hl' : l'.length ≤ 100000) (hps' : ∀ p ∈ l', p.short) W (h : Below W0.heap.size W0 W) => fvalid_any W0 (.slice A' c.length cc) sv' c l' W h (hcat.below h0) (by omega) h65.2 hs hl' hps')
  have k1 := ((Has.new w 24 #[.slice A' c.length cc]).alloc (.cells #[.slice A l.length cs] 27)).alloc (.cells #[.int .i64 3, .int .i64 day, .string part, .string kind, .string into, .string slot, .string key, .string value, .int .i64 ukl, .int .i64 ukh, .int .i64 ucl, .int .i64 uch, .int .i64 ull, .int .i64 ulh] 33)
  have k2 := (Has.new (w.alloc (.cells #[.slice A' c.length cc] 24)) 27 #[.slice A l.length cs]).alloc (.cells #[.int .i64 3, .int .i64 day, .string part, .string kind, .string into, .string slot, .string key, .string value, .int .i64 ukl, .int .i64 ukh, .int .i64 ucl, .int .i64 uch, .int .i64 ull, .int .i64 ulh] 33)
  have k3 := Has.new ((w.alloc (.cells #[.slice A' c.length cc] 24)).alloc (.cells #[.slice A l.length cs] 27)) 33 #[.int .i64 3, .int .i64 day, .string part, .string kind, .string into, .string slot, .string key, .string value, .int .i64 ukl, .int .i64 ukh, .int .i64 ucl, .int .i64 uch, .int .i64 ull, .int .i64 ulh]
  simp only [World.size_alloc] at k2 k3
  have KC0 := Lib.hid k1
  have KS0 := Lib.hid k2
  have KE0 := Lib.hid k3
  have HB0 := Lib.hid ((((Below.refl w.heap.size w).alloc (Nat.le_refl _) (.cells #[.slice A' c.length cc] 24)).alloc (by simp) (.cells #[.slice A l.length cs] 27)).alloc (by simp; omega) (.cells #[.int .i64 3, .int .i64 day, .string part, .string kind, .string into, .string slot, .string key, .string value, .int .i64 ukl, .int .i64 ukh, .int .i64 ucl, .int .i64 uch, .int .i64 ull, .int .i64 ulh] 33))
  clear hcat hsta hps hev k1 k2 k3
  obtain ⟨h65, h20⟩ := fewB_take hfew
  have HVL := Lib.hid (HVL.out h65)
  have HAP := Lib.hid (HAP.out h65)
  have HAN := Lib.hid (HAN.out h65 h20)
  have HL := Lib.hid (show l.length ≤ 20000 by omega)
  have HL5 := Lib.hid (show l.length ≤ 100000 by omega)
  have HL6 := Lib.hid (show l.length ≤ 1000000 by omega)
  have HSH := Lib.hid h20.2
  have HFEW := Lib.hid hfew
  clear hfew h65 h20
  have HTL := Lib.hid (apply_short HSH.out HEV.out hr)
  have HOK := Lib.hid (fun W (h : Below w.heap.size w W) => HAP.out w (Below.refl _ _) (.slice A l.length cs) l HST.out HL.out HSH.out _ t W hr h HEV.out)
  have HF1 := Lib.hid (fun W (h : Below w.heap.size w W) => fpart_any w (.slice A l.length cs) l part W h HST.out HL6.out)
  have HF2 := Lib.hid (fun W0 A3 c3 (hs : Sta W0 (.slice A3 t.length c3) t) W (h : Below W0.heap.size W0 W) => fpart_any W0 (.slice A3 t.length c3) t part W h hs (by have := HTL.out.1; omega))
  obtain ⟨pp, hh, rr, hpm, hpf, hrf, htr, ht, htl, hrn⟩ := turn_parts hr (by dsimp only; omega)
  obtain ⟨pname, pkind, pinto, pslot, pmade, psince, pgone, pprops, pkl, pkh, pcl, pch, pdl, pdh⟩ := pp
  have hrr : rr = ⟨pname, pkind, ⟨#[]⟩, ⟨#[]⟩, pmade, psince, pgone, pprops, pkl, pkh, pcl, pch, pdl, pdh⟩ := by
    rcases htr with ⟨a, _, _, _, _, h⟩ | ⟨a, _, h⟩ | ⟨a, _, h⟩ | ⟨a, h⟩ | ⟨a, _, h⟩ | ⟨a, _, _, h⟩
    all_goals first | exact h | (dsimp only at a; omega)
  have HPL := Lib.hid (show pprops.length ≤ 100000 from (HSH.out _ hpm).2.2.2.2.1)
  rw [hpf] at HF1
  rw [hrf, hrr] at HF2
  simp only [Option.getD_some, Option.isSome_some] at HF1 HF2
  clear hpf hrf hrr htr ht htl hrn hpm hr
  go_enter Tryz.func5, Tryz.ntmps5
  go_wp2_with fail
  refine (head_any _).mono ?_
  rintro e w1 ⟨rfl, hb1⟩
  have kC := (KC0.out).below hb1 (KC0.out).lt
  obtain ⟨xC1, yC1⟩ := kC.facts
  have zC1 := kC.lt
  have KC1 := Lib.hid kC
  have kS := (KS0.out).below hb1 (KS0.out).lt
  obtain ⟨xS1, yS1⟩ := kS.facts
  have zS1 := kS.lt
  have KS1 := Lib.hid kS
  have kE := (KE0.out).below hb1 (KE0.out).lt
  obtain ⟨xE1, yE1⟩ := kE.facts
  have zE1 := kE.lt
  have KE1 := Lib.hid kE
  have HB1 := Lib.hid ((HB0.out).trans (hb1.mono (HB0.out).size))
  clear hb1 kC kS kE
  go_wp2_with fail
  refine (HFW.out _ ((HB1.out).alloc (HB1.out).size _) (ev_sl (e := ⟨3, day, part, kind, into, slot, key, value, ukl, ukh, ucl, uch, ull, ulh⟩) (Has.new w1 33 #[.int .i64 3, .int .i64 day, .string part, .string kind, .string into, .string slot, .string key, .string value, .int .i64 ukl, .int .i64 ukh, .int .i64 ucl, .int .i64 uch, .int .i64 ull, .int .i64 ulh]))).mono ?_
  rintro e w2 ⟨rfl, hb2⟩
  rw [HFEW.out]
  clear xC1 yC1 zC1 xS1 yS1 zS1 xE1 yE1 zE1
  have kC := ((KC1.out).alloc _).below hb2 ((KC1.out).alloc _).lt
  obtain ⟨xC2, yC2⟩ := kC.facts
  have zC2 := kC.lt
  have KC2 := Lib.hid kC
  have kS := ((KS1.out).alloc _).below hb2 ((KS1.out).alloc _).lt
  obtain ⟨xS2, yS2⟩ := kS.facts
  have zS2 := kS.lt
  have KS2 := Lib.hid kS
  have kE := ((KE1.out).alloc _).below hb2 ((KE1.out).alloc _).lt
  obtain ⟨xE2, yE2⟩ := kE.facts
  have zE2 := kE.lt
  have KE2 := Lib.hid kE
  have HB2 := Lib.hid (((HB1.out).alloc (HB1.out).size _).trans (hb2.mono ((HB1.out).alloc (HB1.out).size _).size))
  clear hb2 kC kS kE
  go_wp2_with fail
  refine (HOK.out _ (HB2.out)).mono ?_
  rintro e w3 ⟨A3, c3, rfl, hst3, hb3⟩
  have HST3 := Lib.hid hst3
  clear hst3
  clear xC2 yC2 zC2 xS2 yS2 zS2 xE2 yE2 zE2
  have kC := (KC2.out).below hb3 (KC2.out).lt
  obtain ⟨xC3, yC3⟩ := kC.facts
  have zC3 := kC.lt
  have KC3 := Lib.hid kC
  have kS := (KS2.out).below hb3 (KS2.out).lt
  obtain ⟨xS3, yS3⟩ := kS.facts
  have zS3 := kS.lt
  have KS3 := Lib.hid kS
  have kE := (KE2.out).below hb3 (KE2.out).lt
  obtain ⟨xE3, yE3⟩ := kE.facts
  have zE3 := kE.lt
  have KE3 := Lib.hid kE
  have HB3 := Lib.hid ((HB2.out).trans (hb3.mono (HB2.out).size))
  clear hb3 kC kS kE
  go_wp2_with fail
  refine (HF1.out _ ((HB3.out).alloc (HB3.out).size _)).mono ?_
  rintro e w4 ⟨A4, m4, rfl, hpr4, hb4⟩
  have HPR4 := Lib.hid hpr4
  have HBZ := Lib.hid (((Below.refl w3.heap.size w3).alloc (Nat.le_refl _) _).trans (hb4.mono (by simp)) : Below w3.heap.size w3 w4)
  clear hpr4
  clear xC3 yC3 zC3 xS3 yS3 zS3 xE3 yE3 zE3
  have kC := ((KC3.out).alloc _).below hb4 ((KC3.out).alloc _).lt
  obtain ⟨xC4, yC4⟩ := kC.facts
  have zC4 := kC.lt
  have KC4 := Lib.hid kC
  have kS := ((KS3.out).alloc _).below hb4 ((KS3.out).alloc _).lt
  obtain ⟨xS4, yS4⟩ := kS.facts
  have zS4 := kS.lt
  have KS4 := Lib.hid kS
  have kE := ((KE3.out).alloc _).below hb4 ((KE3.out).alloc _).lt
  obtain ⟨xE4, yE4⟩ := kE.facts
  have zE4 := kE.lt
  have KE4 := Lib.hid kE
  have kT := (Has.new (w3) 27 #[.slice A3 t.length c3]).below hb4 (Has.new (w3) 27 #[.slice A3 t.length c3]).lt
  obtain ⟨xT4, yT4⟩ := kT.facts
  have zT4 := kT.lt
  have KT4 := Lib.hid kT
  have HB4 := Lib.hid (((HB3.out).alloc (HB3.out).size _).trans (hb4.mono ((HB3.out).alloc (HB3.out).size _).size))
  clear hb4 kC kS kE kT
  go_wp2_with fail
  refine (HF2.out w3 A3 c3 HST3.out _ (HBZ.out.alloc HBZ.out.size _)).mono ?_
  rintro e w5 ⟨A5, m5, rfl, hpr5, hb5⟩
  have HPR5 := Lib.hid hpr5
  have HBY := Lib.hid ((HBZ.out.alloc HBZ.out.size _).trans (hb5.mono (HBZ.out.alloc HBZ.out.size _).size))
  clear hpr5
  clear xC4 yC4 zC4 xS4 yS4 zS4 xE4 yE4 zE4 xT4 yT4 zT4
  have kC := ((KC4.out).alloc _).below hb5 ((KC4.out).alloc _).lt
  obtain ⟨xC5, yC5⟩ := kC.facts
  have zC5 := kC.lt
  have KC5 := Lib.hid kC
  have kS := ((KS4.out).alloc _).below hb5 ((KS4.out).alloc _).lt
  obtain ⟨xS5, yS5⟩ := kS.facts
  have zS5 := kS.lt
  have KS5 := Lib.hid kS
  have kE := ((KE4.out).alloc _).below hb5 ((KE4.out).alloc _).lt
  obtain ⟨xE5, yE5⟩ := kE.facts
  have zE5 := kE.lt
  have KE5 := Lib.hid kE
  have kT := ((KT4.out).alloc _).below hb5 ((KT4.out).alloc _).lt
  obtain ⟨xT5, yT5⟩ := kT.facts
  have zT5 := kT.lt
  have KT5 := Lib.hid kT
  have kP1 := (Has.new (w4) 47 #[.string pname, .string pkind, .string pinto, .string pslot, .int .i64 pmade, .int .i64 psince, .bool pgone, .slice A4 pprops.length m4, .int .i64 pkl, .int .i64 pkh, .int .i64 pcl, .int .i64 pch, .int .i64 pdl, .int .i64 pdh]).below hb5 (Has.new (w4) 47 #[.string pname, .string pkind, .string pinto, .string pslot, .int .i64 pmade, .int .i64 psince, .bool pgone, .slice A4 pprops.length m4, .int .i64 pkl, .int .i64 pkh, .int .i64 pcl, .int .i64 pch, .int .i64 pdl, .int .i64 pdh]).lt
  obtain ⟨xP15, yP15⟩ := kP1.facts
  have zP15 := kP1.lt
  have KP15 := Lib.hid kP1
  have HB5 := Lib.hid (((HB4.out).alloc (HB4.out).size _).trans (hb5.mono ((HB4.out).alloc (HB4.out).size _).size))
  clear hb5 kC kS kE kT kP1
  go_wp2_with fail
  have HBW := Lib.hid ((HBY.out.alloc HBY.out.size (.cells #[.string pname, .string pkind, .string ⟨#[]⟩, .string ⟨#[]⟩, .int .i64 pmade, .int .i64 psince, .bool pgone, .slice A5 pprops.length m5, .int .i64 pkl, .int .i64 pkh, .int .i64 pcl, .int .i64 pch, .int .i64 pdl, .int .i64 pdh] 47)).alloc (HBY.out.alloc HBY.out.size _).size (.cells #[.string pname, .string pkind, .string ⟨#[]⟩, .string ⟨#[]⟩, .int .i64 pmade, .int .i64 psince, .bool pgone, .slice A4 pprops.length m4, .int .i64 pkl, .int .i64 pkh, .int .i64 pcl, .int .i64 pch, .int .i64 pdl, .int .i64 pdh] 47))
  refine (samePart_any pname pkind ⟨#[]⟩ ⟨#[]⟩ pmade psince pgone pprops pkl pkh pcl pch pdl pdh pname pkind ⟨#[]⟩ ⟨#[]⟩ pmade psince pgone pprops pkl pkh pcl pch pdl pdh A5 A4 m5 m4 _ (HPR5.out.below PrR.stays HBW.out) (HPR4.out.below PrR.stays (HB3.out.trans (HBW.out.mono HB3.out.size))) HPL.out HPL.out).mono ?_
  rintro e w6 ⟨rfl, hb6⟩
  rw [decide_eq_true rfl]
  have HB6 := Lib.hid ((HB3.out.trans (HBW.out.mono HB3.out.size)).trans (hb6.mono (HB3.out.trans (HBW.out.mono HB3.out.size)).size))
  clear hb6
  go_wp2_with fail
  go_ret
  exact ⟨rfl, HB6.out⟩
set_option maxRecDepth 100000 in
set_option maxHeartbeats 8000000 in
theorem mean_7 (cv sv : Value) (c : List Kd) (l : List Pa) (day : Int) (part kind into slot key value : ByteArray) (ukl ukh ucl uch ull ulh : Int) (w : World) (hcat : Cat w cv c) (hsta : Sta w sv l) (hl : l.length ≤ maxLen) (hps : ∀ p ∈ l, p.wide) (hev : Ev.short ⟨7, day, part, kind, into, slot, key, value, ukl, ukh, ucl, uch, ull, ulh⟩) (hfew : fewB c l [⟨7, day, part, kind, into, slot, key, value, ukl, ukh, ucl, uch, ull, ulh⟩] = true) (t : List Pa) (hr : applyL c l ⟨7, day, part, kind, into, slot, key, value, ukl, ukh, ucl, uch, ull, ulh⟩ = (t, 0)) :
    Calls Tryz.prog 5 #[.agg #[cv], .agg #[sv], .agg #[.int .i64 7, .int .i64 day, .string part, .string kind, .string into, .string slot, .string key, .string value, .int .i64 ukl, .int .i64 ukh, .int .i64 ucl, .int .i64 uch, .int .i64 ull, .int .i64 ulh]] w fun e w' => e = .returned (.bool true) ∧ Below w.heap.size w w' := by
  obtain ⟨A', cc, rfl, _⟩ := Rd.form hcat
  obtain ⟨A, cs, rfl, hn⟩ := Rd.form hsta
  have HST := Lib.hid hsta
  have HCAT := Lib.hid hcat
  have HEV := Lib.hid hev
  have HFW := Lib.hid (fun W (h : Below w.heap.size w W) {g : Nat} (hv : Sl W (.slice (some ⟨g, 0, none⟩) 1 1) 1 14 (evF [⟨7, day, part, kind, into, slot, key, value, ukl, ukh, ucl, uch, ull, ulh⟩])) => few_any W (.slice A' c.length cc) (.slice A l.length cs) (.slice (some ⟨g, 0, none⟩) 1 1) c l [⟨7, day, part, kind, into, slot, key, value, ukl, ukh, ucl, uch, ull, ulh⟩] W (Below.refl _ _) (hcat.below h) (hsta.below h) hv hl hps (by simp [maxLen]))
  have HAP := Lib.hid (fun (h65 : c.length ≤ 65 ∧ ∀ k ∈ c, k.short) W0 (h0 : Below w.heap.size w W0) sv' l' (hs' : Sta W0 sv' l') (hl' : l'.length ≤ 20000) (hsh' : ∀ p ∈ l', p.short) ev t W (hr : applyL c l' ev = (t, 0)) (h : Below W0.heap.size W0 W) hev => apply_ok W0 (.slice A' c.length cc) sv' c l' ev t W hr h (hcat.below h0) (by omega) h65.2 hs' (by omega) hsh' hev)
  have HAN := Lib.hid (fun (h65 : c.length ≤ 65 ∧ ∀ k ∈ c, k.short) (h20 : l.length ≤ 20 ∧ ∀ p ∈ l, p.short) ev W (hr : (applyL c l ev).2 ≠ 0) (h : Below w.heap.size w W) hev => apply_no w (.slice A' c.length cc) (.slice A l.length cs) c l ev W hr h hcat (by omega) h65.2 hsta (by omega) h20.2 hev)
  have HVL := Lib.hid (fun (h65 : c.length ≤ 65 ∧ ∀ k ∈ c, k.short) sv' l' W0 (h0 : Below w.heap.size w W0) (hs : Sta W0 sv' l') (hl' : l'.length ≤ 100000) (hps' : ∀ p ∈ l', p.short) W (h : Below W0.heap.size W0 W) => fvalid_any W0 (.slice A' c.length cc) sv' c l' W h (hcat.below h0) (by omega) h65.2 hs hl' hps')
  have k1 := ((Has.new w 24 #[.slice A' c.length cc]).alloc (.cells #[.slice A l.length cs] 27)).alloc (.cells #[.int .i64 7, .int .i64 day, .string part, .string kind, .string into, .string slot, .string key, .string value, .int .i64 ukl, .int .i64 ukh, .int .i64 ucl, .int .i64 uch, .int .i64 ull, .int .i64 ulh] 33)
  have k2 := (Has.new (w.alloc (.cells #[.slice A' c.length cc] 24)) 27 #[.slice A l.length cs]).alloc (.cells #[.int .i64 7, .int .i64 day, .string part, .string kind, .string into, .string slot, .string key, .string value, .int .i64 ukl, .int .i64 ukh, .int .i64 ucl, .int .i64 uch, .int .i64 ull, .int .i64 ulh] 33)
  have k3 := Has.new ((w.alloc (.cells #[.slice A' c.length cc] 24)).alloc (.cells #[.slice A l.length cs] 27)) 33 #[.int .i64 7, .int .i64 day, .string part, .string kind, .string into, .string slot, .string key, .string value, .int .i64 ukl, .int .i64 ukh, .int .i64 ucl, .int .i64 uch, .int .i64 ull, .int .i64 ulh]
  simp only [World.size_alloc] at k2 k3
  have KC0 := Lib.hid k1
  have KS0 := Lib.hid k2
  have KE0 := Lib.hid k3
  have HB0 := Lib.hid ((((Below.refl w.heap.size w).alloc (Nat.le_refl _) (.cells #[.slice A' c.length cc] 24)).alloc (by simp) (.cells #[.slice A l.length cs] 27)).alloc (by simp; omega) (.cells #[.int .i64 7, .int .i64 day, .string part, .string kind, .string into, .string slot, .string key, .string value, .int .i64 ukl, .int .i64 ukh, .int .i64 ucl, .int .i64 uch, .int .i64 ull, .int .i64 ulh] 33))
  clear hcat hsta hps hev k1 k2 k3
  obtain ⟨h65, h20⟩ := fewB_take hfew
  have HVL := Lib.hid (HVL.out h65)
  have HAP := Lib.hid (HAP.out h65)
  have HAN := Lib.hid (HAN.out h65 h20)
  have HL := Lib.hid (show l.length ≤ 20000 by omega)
  have HL5 := Lib.hid (show l.length ≤ 100000 by omega)
  have HL6 := Lib.hid (show l.length ≤ 1000000 by omega)
  have HSH := Lib.hid h20.2
  have HFEW := Lib.hid hfew
  clear hfew h65 h20
  have HTL := Lib.hid (apply_short HSH.out HEV.out hr)
  have HOK := Lib.hid (fun W (h : Below w.heap.size w W) => HAP.out w (Below.refl _ _) (.slice A l.length cs) l HST.out HL.out HSH.out _ t W hr h HEV.out)
  have HF1 := Lib.hid (fun W (h : Below w.heap.size w W) => fpart_any w (.slice A l.length cs) l part W h HST.out HL6.out)
  have HF2 := Lib.hid (fun W0 A3 c3 (hs : Sta W0 (.slice A3 t.length c3) t) W (h : Below W0.heap.size W0 W) => fpart_any W0 (.slice A3 t.length c3) t part W h hs (by have := HTL.out.1; omega))
  obtain ⟨pp, hh, rr, hpm, hpf, hrf, htr, ht, htl, hrn⟩ := turn_parts hr (by dsimp only; omega)
  obtain ⟨pname, pkind, pinto, pslot, pmade, psince, pgone, pprops, pkl, pkh, pcl, pch, pdl, pdh⟩ := pp
  have hrr : rr = ⟨pname, pkind, pinto, pslot, pmade, psince, true, pprops, pkl, pkh, pcl, pch, pdl, pdh⟩ := by
    rcases htr with ⟨a, _, _, _, _, h⟩ | ⟨a, _, h⟩ | ⟨a, _, h⟩ | ⟨a, h⟩ | ⟨a, _, h⟩ | ⟨a, _, _, h⟩
    all_goals first | exact h | (dsimp only at a; omega)
  have HPL := Lib.hid (show pprops.length ≤ 100000 from (HSH.out _ hpm).2.2.2.2.1)
  rw [hpf] at HF1
  rw [hrf, hrr] at HF2
  simp only [Option.getD_some, Option.isSome_some] at HF1 HF2
  clear hpf hrf hrr htr ht htl hrn hpm hr
  go_enter Tryz.func5, Tryz.ntmps5
  go_wp2_with fail
  refine (head_any _).mono ?_
  rintro e w1 ⟨rfl, hb1⟩
  have kC := (KC0.out).below hb1 (KC0.out).lt
  obtain ⟨xC1, yC1⟩ := kC.facts
  have zC1 := kC.lt
  have KC1 := Lib.hid kC
  have kS := (KS0.out).below hb1 (KS0.out).lt
  obtain ⟨xS1, yS1⟩ := kS.facts
  have zS1 := kS.lt
  have KS1 := Lib.hid kS
  have kE := (KE0.out).below hb1 (KE0.out).lt
  obtain ⟨xE1, yE1⟩ := kE.facts
  have zE1 := kE.lt
  have KE1 := Lib.hid kE
  have HB1 := Lib.hid ((HB0.out).trans (hb1.mono (HB0.out).size))
  clear hb1 kC kS kE
  go_wp2_with fail
  refine (HFW.out _ ((HB1.out).alloc (HB1.out).size _) (ev_sl (e := ⟨7, day, part, kind, into, slot, key, value, ukl, ukh, ucl, uch, ull, ulh⟩) (Has.new w1 33 #[.int .i64 7, .int .i64 day, .string part, .string kind, .string into, .string slot, .string key, .string value, .int .i64 ukl, .int .i64 ukh, .int .i64 ucl, .int .i64 uch, .int .i64 ull, .int .i64 ulh]))).mono ?_
  rintro e w2 ⟨rfl, hb2⟩
  rw [HFEW.out]
  clear xC1 yC1 zC1 xS1 yS1 zS1 xE1 yE1 zE1
  have kC := ((KC1.out).alloc _).below hb2 ((KC1.out).alloc _).lt
  obtain ⟨xC2, yC2⟩ := kC.facts
  have zC2 := kC.lt
  have KC2 := Lib.hid kC
  have kS := ((KS1.out).alloc _).below hb2 ((KS1.out).alloc _).lt
  obtain ⟨xS2, yS2⟩ := kS.facts
  have zS2 := kS.lt
  have KS2 := Lib.hid kS
  have kE := ((KE1.out).alloc _).below hb2 ((KE1.out).alloc _).lt
  obtain ⟨xE2, yE2⟩ := kE.facts
  have zE2 := kE.lt
  have KE2 := Lib.hid kE
  have HB2 := Lib.hid (((HB1.out).alloc (HB1.out).size _).trans (hb2.mono ((HB1.out).alloc (HB1.out).size _).size))
  clear hb2 kC kS kE
  go_wp2_with fail
  refine (HOK.out _ (HB2.out)).mono ?_
  rintro e w3 ⟨A3, c3, rfl, hst3, hb3⟩
  have HST3 := Lib.hid hst3
  clear hst3
  clear xC2 yC2 zC2 xS2 yS2 zS2 xE2 yE2 zE2
  have kC := (KC2.out).below hb3 (KC2.out).lt
  obtain ⟨xC3, yC3⟩ := kC.facts
  have zC3 := kC.lt
  have KC3 := Lib.hid kC
  have kS := (KS2.out).below hb3 (KS2.out).lt
  obtain ⟨xS3, yS3⟩ := kS.facts
  have zS3 := kS.lt
  have KS3 := Lib.hid kS
  have kE := (KE2.out).below hb3 (KE2.out).lt
  obtain ⟨xE3, yE3⟩ := kE.facts
  have zE3 := kE.lt
  have KE3 := Lib.hid kE
  have HB3 := Lib.hid ((HB2.out).trans (hb3.mono (HB2.out).size))
  clear hb3 kC kS kE
  go_wp2_with fail
  refine (HF1.out _ ((HB3.out).alloc (HB3.out).size _)).mono ?_
  rintro e w4 ⟨A4, m4, rfl, hpr4, hb4⟩
  have HPR4 := Lib.hid hpr4
  have HBZ := Lib.hid (((Below.refl w3.heap.size w3).alloc (Nat.le_refl _) _).trans (hb4.mono (by simp)) : Below w3.heap.size w3 w4)
  clear hpr4
  clear xC3 yC3 zC3 xS3 yS3 zS3 xE3 yE3 zE3
  have kC := ((KC3.out).alloc _).below hb4 ((KC3.out).alloc _).lt
  obtain ⟨xC4, yC4⟩ := kC.facts
  have zC4 := kC.lt
  have KC4 := Lib.hid kC
  have kS := ((KS3.out).alloc _).below hb4 ((KS3.out).alloc _).lt
  obtain ⟨xS4, yS4⟩ := kS.facts
  have zS4 := kS.lt
  have KS4 := Lib.hid kS
  have kE := ((KE3.out).alloc _).below hb4 ((KE3.out).alloc _).lt
  obtain ⟨xE4, yE4⟩ := kE.facts
  have zE4 := kE.lt
  have KE4 := Lib.hid kE
  have kT := (Has.new (w3) 27 #[.slice A3 t.length c3]).below hb4 (Has.new (w3) 27 #[.slice A3 t.length c3]).lt
  obtain ⟨xT4, yT4⟩ := kT.facts
  have zT4 := kT.lt
  have KT4 := Lib.hid kT
  have HB4 := Lib.hid (((HB3.out).alloc (HB3.out).size _).trans (hb4.mono ((HB3.out).alloc (HB3.out).size _).size))
  clear hb4 kC kS kE kT
  go_wp2_with fail
  refine (HF2.out w3 A3 c3 HST3.out _ (HBZ.out.alloc HBZ.out.size _)).mono ?_
  rintro e w5 ⟨A5, m5, rfl, hpr5, hb5⟩
  have HPR5 := Lib.hid hpr5
  have HBY := Lib.hid ((HBZ.out.alloc HBZ.out.size _).trans (hb5.mono (HBZ.out.alloc HBZ.out.size _).size))
  clear hpr5
  clear xC4 yC4 zC4 xS4 yS4 zS4 xE4 yE4 zE4 xT4 yT4 zT4
  have kC := ((KC4.out).alloc _).below hb5 ((KC4.out).alloc _).lt
  obtain ⟨xC5, yC5⟩ := kC.facts
  have zC5 := kC.lt
  have KC5 := Lib.hid kC
  have kS := ((KS4.out).alloc _).below hb5 ((KS4.out).alloc _).lt
  obtain ⟨xS5, yS5⟩ := kS.facts
  have zS5 := kS.lt
  have KS5 := Lib.hid kS
  have kE := ((KE4.out).alloc _).below hb5 ((KE4.out).alloc _).lt
  obtain ⟨xE5, yE5⟩ := kE.facts
  have zE5 := kE.lt
  have KE5 := Lib.hid kE
  have kT := ((KT4.out).alloc _).below hb5 ((KT4.out).alloc _).lt
  obtain ⟨xT5, yT5⟩ := kT.facts
  have zT5 := kT.lt
  have KT5 := Lib.hid kT
  have kP1 := (Has.new (w4) 47 #[.string pname, .string pkind, .string pinto, .string pslot, .int .i64 pmade, .int .i64 psince, .bool pgone, .slice A4 pprops.length m4, .int .i64 pkl, .int .i64 pkh, .int .i64 pcl, .int .i64 pch, .int .i64 pdl, .int .i64 pdh]).below hb5 (Has.new (w4) 47 #[.string pname, .string pkind, .string pinto, .string pslot, .int .i64 pmade, .int .i64 psince, .bool pgone, .slice A4 pprops.length m4, .int .i64 pkl, .int .i64 pkh, .int .i64 pcl, .int .i64 pch, .int .i64 pdl, .int .i64 pdh]).lt
  obtain ⟨xP15, yP15⟩ := kP1.facts
  have zP15 := kP1.lt
  have KP15 := Lib.hid kP1
  have HB5 := Lib.hid (((HB4.out).alloc (HB4.out).size _).trans (hb5.mono ((HB4.out).alloc (HB4.out).size _).size))
  clear hb5 kC kS kE kT kP1
  go_wp2_with fail
  have HBW := Lib.hid ((HBY.out.alloc HBY.out.size (.cells #[.string pname, .string pkind, .string pinto, .string pslot, .int .i64 pmade, .int .i64 psince, .bool true, .slice A5 pprops.length m5, .int .i64 pkl, .int .i64 pkh, .int .i64 pcl, .int .i64 pch, .int .i64 pdl, .int .i64 pdh] 47)).alloc (HBY.out.alloc HBY.out.size _).size (.cells #[.string pname, .string pkind, .string pinto, .string pslot, .int .i64 pmade, .int .i64 psince, .bool true, .slice A4 pprops.length m4, .int .i64 pkl, .int .i64 pkh, .int .i64 pcl, .int .i64 pch, .int .i64 pdl, .int .i64 pdh] 47))
  refine (samePart_any pname pkind pinto pslot pmade psince true pprops pkl pkh pcl pch pdl pdh pname pkind pinto pslot pmade psince true pprops pkl pkh pcl pch pdl pdh A5 A4 m5 m4 _ (HPR5.out.below PrR.stays HBW.out) (HPR4.out.below PrR.stays (HB3.out.trans (HBW.out.mono HB3.out.size))) HPL.out HPL.out).mono ?_
  rintro e w6 ⟨rfl, hb6⟩
  rw [decide_eq_true rfl]
  have HB6 := Lib.hid ((HB3.out.trans (HBW.out.mono HB3.out.size)).trans (hb6.mono (HB3.out.trans (HBW.out.mono HB3.out.size)).size))
  clear hb6
  go_wp2_with fail
  go_ret
  exact ⟨rfl, HB6.out⟩
set_option maxRecDepth 100000 in
set_option maxHeartbeats 8000000 in
theorem mean_5 (cv sv : Value) (c : List Kd) (l : List Pa) (day : Int) (part kind into slot key value : ByteArray) (ukl ukh ucl uch ull ulh : Int) (w : World) (hcat : Cat w cv c) (hsta : Sta w sv l) (hl : l.length ≤ maxLen) (hps : ∀ p ∈ l, p.wide) (hev : Ev.short ⟨5, day, part, kind, into, slot, key, value, ukl, ukh, ucl, uch, ull, ulh⟩) (hfew : fewB c l [⟨5, day, part, kind, into, slot, key, value, ukl, ukh, ucl, uch, ull, ulh⟩] = true) (t : List Pa) (hr : applyL c l ⟨5, day, part, kind, into, slot, key, value, ukl, ukh, ucl, uch, ull, ulh⟩ = (t, 0)) :
    Calls Tryz.prog 5 #[.agg #[cv], .agg #[sv], .agg #[.int .i64 5, .int .i64 day, .string part, .string kind, .string into, .string slot, .string key, .string value, .int .i64 ukl, .int .i64 ukh, .int .i64 ucl, .int .i64 uch, .int .i64 ull, .int .i64 ulh]] w fun e w' => e = .returned (.bool true) ∧ Below w.heap.size w w' := by
  obtain ⟨A', cc, rfl, _⟩ := Rd.form hcat
  obtain ⟨A, cs, rfl, hn⟩ := Rd.form hsta
  have HST := Lib.hid hsta
  have HCAT := Lib.hid hcat
  have HEV := Lib.hid hev
  have HFW := Lib.hid (fun W (h : Below w.heap.size w W) {g : Nat} (hv : Sl W (.slice (some ⟨g, 0, none⟩) 1 1) 1 14 (evF [⟨5, day, part, kind, into, slot, key, value, ukl, ukh, ucl, uch, ull, ulh⟩])) => few_any W (.slice A' c.length cc) (.slice A l.length cs) (.slice (some ⟨g, 0, none⟩) 1 1) c l [⟨5, day, part, kind, into, slot, key, value, ukl, ukh, ucl, uch, ull, ulh⟩] W (Below.refl _ _) (hcat.below h) (hsta.below h) hv hl hps (by simp [maxLen]))
  have HAP := Lib.hid (fun (h65 : c.length ≤ 65 ∧ ∀ k ∈ c, k.short) W0 (h0 : Below w.heap.size w W0) sv' l' (hs' : Sta W0 sv' l') (hl' : l'.length ≤ 20000) (hsh' : ∀ p ∈ l', p.short) ev t W (hr : applyL c l' ev = (t, 0)) (h : Below W0.heap.size W0 W) hev => apply_ok W0 (.slice A' c.length cc) sv' c l' ev t W hr h (hcat.below h0) (by omega) h65.2 hs' (by omega) hsh' hev)
  have HAN := Lib.hid (fun (h65 : c.length ≤ 65 ∧ ∀ k ∈ c, k.short) (h20 : l.length ≤ 20 ∧ ∀ p ∈ l, p.short) ev W (hr : (applyL c l ev).2 ≠ 0) (h : Below w.heap.size w W) hev => apply_no w (.slice A' c.length cc) (.slice A l.length cs) c l ev W hr h hcat (by omega) h65.2 hsta (by omega) h20.2 hev)
  have HVL := Lib.hid (fun (h65 : c.length ≤ 65 ∧ ∀ k ∈ c, k.short) sv' l' W0 (h0 : Below w.heap.size w W0) (hs : Sta W0 sv' l') (hl' : l'.length ≤ 100000) (hps' : ∀ p ∈ l', p.short) W (h : Below W0.heap.size W0 W) => fvalid_any W0 (.slice A' c.length cc) sv' c l' W h (hcat.below h0) (by omega) h65.2 hs hl' hps')
  have k1 := ((Has.new w 24 #[.slice A' c.length cc]).alloc (.cells #[.slice A l.length cs] 27)).alloc (.cells #[.int .i64 5, .int .i64 day, .string part, .string kind, .string into, .string slot, .string key, .string value, .int .i64 ukl, .int .i64 ukh, .int .i64 ucl, .int .i64 uch, .int .i64 ull, .int .i64 ulh] 33)
  have k2 := (Has.new (w.alloc (.cells #[.slice A' c.length cc] 24)) 27 #[.slice A l.length cs]).alloc (.cells #[.int .i64 5, .int .i64 day, .string part, .string kind, .string into, .string slot, .string key, .string value, .int .i64 ukl, .int .i64 ukh, .int .i64 ucl, .int .i64 uch, .int .i64 ull, .int .i64 ulh] 33)
  have k3 := Has.new ((w.alloc (.cells #[.slice A' c.length cc] 24)).alloc (.cells #[.slice A l.length cs] 27)) 33 #[.int .i64 5, .int .i64 day, .string part, .string kind, .string into, .string slot, .string key, .string value, .int .i64 ukl, .int .i64 ukh, .int .i64 ucl, .int .i64 uch, .int .i64 ull, .int .i64 ulh]
  simp only [World.size_alloc] at k2 k3
  have KC0 := Lib.hid k1
  have KS0 := Lib.hid k2
  have KE0 := Lib.hid k3
  have HB0 := Lib.hid ((((Below.refl w.heap.size w).alloc (Nat.le_refl _) (.cells #[.slice A' c.length cc] 24)).alloc (by simp) (.cells #[.slice A l.length cs] 27)).alloc (by simp; omega) (.cells #[.int .i64 5, .int .i64 day, .string part, .string kind, .string into, .string slot, .string key, .string value, .int .i64 ukl, .int .i64 ukh, .int .i64 ucl, .int .i64 uch, .int .i64 ull, .int .i64 ulh] 33))
  clear hcat hsta hps hev k1 k2 k3
  obtain ⟨h65, h20⟩ := fewB_take hfew
  have HVL := Lib.hid (HVL.out h65)
  have HAP := Lib.hid (HAP.out h65)
  have HAN := Lib.hid (HAN.out h65 h20)
  have HL := Lib.hid (show l.length ≤ 20000 by omega)
  have HL5 := Lib.hid (show l.length ≤ 100000 by omega)
  have HL6 := Lib.hid (show l.length ≤ 1000000 by omega)
  have HSH := Lib.hid h20.2
  have HFEW := Lib.hid hfew
  clear hfew h65 h20
  have HTL := Lib.hid (apply_short HSH.out HEV.out hr)
  have HOK := Lib.hid (fun W (h : Below w.heap.size w W) => HAP.out w (Below.refl _ _) (.slice A l.length cs) l HST.out HL.out HSH.out _ t W hr h HEV.out)
  have HF1 := Lib.hid (fun W (h : Below w.heap.size w W) => fpart_any w (.slice A l.length cs) l part W h HST.out HL6.out)
  have HF2 := Lib.hid (fun W0 A3 c3 (hs : Sta W0 (.slice A3 t.length c3) t) W (h : Below W0.heap.size W0 W) => fpart_any W0 (.slice A3 t.length c3) t part W h hs (by have := HTL.out.1; omega))
  obtain ⟨pp, hh, rr, hpm, hpf, hrf, htr, ht, htl, hrn⟩ := turn_parts hr (by dsimp only; omega)
  obtain ⟨pname, pkind, pinto, pslot, pmade, psince, pgone, pprops, pkl, pkh, pcl, pch, pdl, pdh⟩ := pp
  have hrr : rr = ⟨pname, pkind, pinto, pslot, pmade, max psince day, pgone, pprops, 0, 0, 0, 0, 0, 0⟩ := by
    rcases htr with ⟨a, _, _, _, _, h⟩ | ⟨a, _, h⟩ | ⟨a, _, h⟩ | ⟨a, h⟩ | ⟨a, _, h⟩ | ⟨a, _, _, h⟩
    all_goals first | exact h | (dsimp only at a; omega)
  have HPL := Lib.hid (show pprops.length ≤ 100000 from (HSH.out _ hpm).2.2.2.2.1)
  rw [hpf] at HF1
  rw [hrf, hrr] at HF2
  simp only [Option.getD_some, Option.isSome_some] at HF1 HF2
  clear hpf hrf hrr htr ht htl hrn hpm hr
  go_enter Tryz.func5, Tryz.ntmps5
  go_wp2_with fail
  refine (head_any _).mono ?_
  rintro e w1 ⟨rfl, hb1⟩
  have kC := (KC0.out).below hb1 (KC0.out).lt
  obtain ⟨xC1, yC1⟩ := kC.facts
  have zC1 := kC.lt
  have KC1 := Lib.hid kC
  have kS := (KS0.out).below hb1 (KS0.out).lt
  obtain ⟨xS1, yS1⟩ := kS.facts
  have zS1 := kS.lt
  have KS1 := Lib.hid kS
  have kE := (KE0.out).below hb1 (KE0.out).lt
  obtain ⟨xE1, yE1⟩ := kE.facts
  have zE1 := kE.lt
  have KE1 := Lib.hid kE
  have HB1 := Lib.hid ((HB0.out).trans (hb1.mono (HB0.out).size))
  clear hb1 kC kS kE
  go_wp2_with fail
  refine (HFW.out _ ((HB1.out).alloc (HB1.out).size _) (ev_sl (e := ⟨5, day, part, kind, into, slot, key, value, ukl, ukh, ucl, uch, ull, ulh⟩) (Has.new w1 33 #[.int .i64 5, .int .i64 day, .string part, .string kind, .string into, .string slot, .string key, .string value, .int .i64 ukl, .int .i64 ukh, .int .i64 ucl, .int .i64 uch, .int .i64 ull, .int .i64 ulh]))).mono ?_
  rintro e w2 ⟨rfl, hb2⟩
  rw [HFEW.out]
  clear xC1 yC1 zC1 xS1 yS1 zS1 xE1 yE1 zE1
  have kC := ((KC1.out).alloc _).below hb2 ((KC1.out).alloc _).lt
  obtain ⟨xC2, yC2⟩ := kC.facts
  have zC2 := kC.lt
  have KC2 := Lib.hid kC
  have kS := ((KS1.out).alloc _).below hb2 ((KS1.out).alloc _).lt
  obtain ⟨xS2, yS2⟩ := kS.facts
  have zS2 := kS.lt
  have KS2 := Lib.hid kS
  have kE := ((KE1.out).alloc _).below hb2 ((KE1.out).alloc _).lt
  obtain ⟨xE2, yE2⟩ := kE.facts
  have zE2 := kE.lt
  have KE2 := Lib.hid kE
  have HB2 := Lib.hid (((HB1.out).alloc (HB1.out).size _).trans (hb2.mono ((HB1.out).alloc (HB1.out).size _).size))
  clear hb2 kC kS kE
  go_wp2_with fail
  refine (HOK.out _ (HB2.out)).mono ?_
  rintro e w3 ⟨A3, c3, rfl, hst3, hb3⟩
  have HST3 := Lib.hid hst3
  clear hst3
  clear xC2 yC2 zC2 xS2 yS2 zS2 xE2 yE2 zE2
  have kC := (KC2.out).below hb3 (KC2.out).lt
  obtain ⟨xC3, yC3⟩ := kC.facts
  have zC3 := kC.lt
  have KC3 := Lib.hid kC
  have kS := (KS2.out).below hb3 (KS2.out).lt
  obtain ⟨xS3, yS3⟩ := kS.facts
  have zS3 := kS.lt
  have KS3 := Lib.hid kS
  have kE := (KE2.out).below hb3 (KE2.out).lt
  obtain ⟨xE3, yE3⟩ := kE.facts
  have zE3 := kE.lt
  have KE3 := Lib.hid kE
  have HB3 := Lib.hid ((HB2.out).trans (hb3.mono (HB2.out).size))
  clear hb3 kC kS kE
  go_wp2_with fail
  refine (HF1.out _ ((HB3.out).alloc (HB3.out).size _)).mono ?_
  rintro e w4 ⟨A4, m4, rfl, hpr4, hb4⟩
  have HPR4 := Lib.hid hpr4
  have HBZ := Lib.hid (((Below.refl w3.heap.size w3).alloc (Nat.le_refl _) _).trans (hb4.mono (by simp)) : Below w3.heap.size w3 w4)
  clear hpr4
  clear xC3 yC3 zC3 xS3 yS3 zS3 xE3 yE3 zE3
  have kC := ((KC3.out).alloc _).below hb4 ((KC3.out).alloc _).lt
  obtain ⟨xC4, yC4⟩ := kC.facts
  have zC4 := kC.lt
  have KC4 := Lib.hid kC
  have kS := ((KS3.out).alloc _).below hb4 ((KS3.out).alloc _).lt
  obtain ⟨xS4, yS4⟩ := kS.facts
  have zS4 := kS.lt
  have KS4 := Lib.hid kS
  have kE := ((KE3.out).alloc _).below hb4 ((KE3.out).alloc _).lt
  obtain ⟨xE4, yE4⟩ := kE.facts
  have zE4 := kE.lt
  have KE4 := Lib.hid kE
  have kT := (Has.new (w3) 27 #[.slice A3 t.length c3]).below hb4 (Has.new (w3) 27 #[.slice A3 t.length c3]).lt
  obtain ⟨xT4, yT4⟩ := kT.facts
  have zT4 := kT.lt
  have KT4 := Lib.hid kT
  have HB4 := Lib.hid (((HB3.out).alloc (HB3.out).size _).trans (hb4.mono ((HB3.out).alloc (HB3.out).size _).size))
  clear hb4 kC kS kE kT
  go_wp2_with fail
  refine (HF2.out w3 A3 c3 HST3.out _ (HBZ.out.alloc HBZ.out.size _)).mono ?_
  rintro e w5 ⟨A5, m5, rfl, hpr5, hb5⟩
  have HPR5 := Lib.hid hpr5
  have HBY := Lib.hid ((HBZ.out.alloc HBZ.out.size _).trans (hb5.mono (HBZ.out.alloc HBZ.out.size _).size))
  clear hpr5
  clear xC4 yC4 zC4 xS4 yS4 zS4 xE4 yE4 zE4 xT4 yT4 zT4
  have kC := ((KC4.out).alloc _).below hb5 ((KC4.out).alloc _).lt
  obtain ⟨xC5, yC5⟩ := kC.facts
  have zC5 := kC.lt
  have KC5 := Lib.hid kC
  have kS := ((KS4.out).alloc _).below hb5 ((KS4.out).alloc _).lt
  obtain ⟨xS5, yS5⟩ := kS.facts
  have zS5 := kS.lt
  have KS5 := Lib.hid kS
  have kE := ((KE4.out).alloc _).below hb5 ((KE4.out).alloc _).lt
  obtain ⟨xE5, yE5⟩ := kE.facts
  have zE5 := kE.lt
  have KE5 := Lib.hid kE
  have kT := ((KT4.out).alloc _).below hb5 ((KT4.out).alloc _).lt
  obtain ⟨xT5, yT5⟩ := kT.facts
  have zT5 := kT.lt
  have KT5 := Lib.hid kT
  have kP1 := (Has.new (w4) 47 #[.string pname, .string pkind, .string pinto, .string pslot, .int .i64 pmade, .int .i64 psince, .bool pgone, .slice A4 pprops.length m4, .int .i64 pkl, .int .i64 pkh, .int .i64 pcl, .int .i64 pch, .int .i64 pdl, .int .i64 pdh]).below hb5 (Has.new (w4) 47 #[.string pname, .string pkind, .string pinto, .string pslot, .int .i64 pmade, .int .i64 psince, .bool pgone, .slice A4 pprops.length m4, .int .i64 pkl, .int .i64 pkh, .int .i64 pcl, .int .i64 pch, .int .i64 pdl, .int .i64 pdh]).lt
  obtain ⟨xP15, yP15⟩ := kP1.facts
  have zP15 := kP1.lt
  have KP15 := Lib.hid kP1
  have HB5 := Lib.hid (((HB4.out).alloc (HB4.out).size _).trans (hb5.mono ((HB4.out).alloc (HB4.out).size _).size))
  clear hb5 kC kS kE kT kP1
  go_wp2_with fail
  have HBW := Lib.hid ((HBY.out.alloc HBY.out.size (.cells #[.string pname, .string pkind, .string pinto, .string pslot, .int .i64 pmade, .int .i64 (max psince day), .bool pgone, .slice A5 pprops.length m5, .int .i64 0, .int .i64 0, .int .i64 0, .int .i64 0, .int .i64 0, .int .i64 0] 47)).alloc (HBY.out.alloc HBY.out.size _).size (.cells #[.string pname, .string pkind, .string pinto, .string pslot, .int .i64 pmade, .int .i64 (max psince day), .bool pgone, .slice A4 pprops.length m4, .int .i64 0, .int .i64 0, .int .i64 0, .int .i64 0, .int .i64 0, .int .i64 0] 47))
  refine (samePart_any pname pkind pinto pslot pmade (max psince day) pgone pprops 0 0 0 0 0 0 pname pkind pinto pslot pmade (max psince day) pgone pprops 0 0 0 0 0 0 A5 A4 m5 m4 _ (HPR5.out.below PrR.stays HBW.out) (HPR4.out.below PrR.stays (HB3.out.trans (HBW.out.mono HB3.out.size))) HPL.out HPL.out).mono ?_
  rintro e w6 ⟨rfl, hb6⟩
  rw [decide_eq_true rfl]
  have HB6 := Lib.hid ((HB3.out.trans (HBW.out.mono HB3.out.size)).trans (hb6.mono (HB3.out.trans (HBW.out.mono HB3.out.size)).size))
  clear hb6
  go_wp2_with fail
  go_ret
  exact ⟨rfl, HB6.out⟩
set_option maxRecDepth 100000 in
set_option maxHeartbeats 8000000 in
theorem mean_2 (cv sv : Value) (c : List Kd) (l : List Pa) (day : Int) (part kind into slot key value : ByteArray) (ukl ukh ucl uch ull ulh : Int) (w : World) (hcat : Cat w cv c) (hsta : Sta w sv l) (hl : l.length ≤ maxLen) (hps : ∀ p ∈ l, p.wide) (hev : Ev.short ⟨2, day, part, kind, into, slot, key, value, ukl, ukh, ucl, uch, ull, ulh⟩) (hfew : fewB c l [⟨2, day, part, kind, into, slot, key, value, ukl, ukh, ucl, uch, ull, ulh⟩] = true) (t : List Pa) (hr : applyL c l ⟨2, day, part, kind, into, slot, key, value, ukl, ukh, ucl, uch, ull, ulh⟩ = (t, 0)) :
    Calls Tryz.prog 5 #[.agg #[cv], .agg #[sv], .agg #[.int .i64 2, .int .i64 day, .string part, .string kind, .string into, .string slot, .string key, .string value, .int .i64 ukl, .int .i64 ukh, .int .i64 ucl, .int .i64 uch, .int .i64 ull, .int .i64 ulh]] w fun e w' => e = .returned (.bool true) ∧ Below w.heap.size w w' := by
  obtain ⟨A', cc, rfl, _⟩ := Rd.form hcat
  obtain ⟨A, cs, rfl, hn⟩ := Rd.form hsta
  have HST := Lib.hid hsta
  have HCAT := Lib.hid hcat
  have HEV := Lib.hid hev
  have HFW := Lib.hid (fun W (h : Below w.heap.size w W) {g : Nat} (hv : Sl W (.slice (some ⟨g, 0, none⟩) 1 1) 1 14 (evF [⟨2, day, part, kind, into, slot, key, value, ukl, ukh, ucl, uch, ull, ulh⟩])) => few_any W (.slice A' c.length cc) (.slice A l.length cs) (.slice (some ⟨g, 0, none⟩) 1 1) c l [⟨2, day, part, kind, into, slot, key, value, ukl, ukh, ucl, uch, ull, ulh⟩] W (Below.refl _ _) (hcat.below h) (hsta.below h) hv hl hps (by simp [maxLen]))
  have HAP := Lib.hid (fun (h65 : c.length ≤ 65 ∧ ∀ k ∈ c, k.short) W0 (h0 : Below w.heap.size w W0) sv' l' (hs' : Sta W0 sv' l') (hl' : l'.length ≤ 20000) (hsh' : ∀ p ∈ l', p.short) ev t W (hr : applyL c l' ev = (t, 0)) (h : Below W0.heap.size W0 W) hev => apply_ok W0 (.slice A' c.length cc) sv' c l' ev t W hr h (hcat.below h0) (by omega) h65.2 hs' (by omega) hsh' hev)
  have HAN := Lib.hid (fun (h65 : c.length ≤ 65 ∧ ∀ k ∈ c, k.short) (h20 : l.length ≤ 20 ∧ ∀ p ∈ l, p.short) ev W (hr : (applyL c l ev).2 ≠ 0) (h : Below w.heap.size w W) hev => apply_no w (.slice A' c.length cc) (.slice A l.length cs) c l ev W hr h hcat (by omega) h65.2 hsta (by omega) h20.2 hev)
  have HVL := Lib.hid (fun (h65 : c.length ≤ 65 ∧ ∀ k ∈ c, k.short) sv' l' W0 (h0 : Below w.heap.size w W0) (hs : Sta W0 sv' l') (hl' : l'.length ≤ 100000) (hps' : ∀ p ∈ l', p.short) W (h : Below W0.heap.size W0 W) => fvalid_any W0 (.slice A' c.length cc) sv' c l' W h (hcat.below h0) (by omega) h65.2 hs hl' hps')
  have k1 := ((Has.new w 24 #[.slice A' c.length cc]).alloc (.cells #[.slice A l.length cs] 27)).alloc (.cells #[.int .i64 2, .int .i64 day, .string part, .string kind, .string into, .string slot, .string key, .string value, .int .i64 ukl, .int .i64 ukh, .int .i64 ucl, .int .i64 uch, .int .i64 ull, .int .i64 ulh] 33)
  have k2 := (Has.new (w.alloc (.cells #[.slice A' c.length cc] 24)) 27 #[.slice A l.length cs]).alloc (.cells #[.int .i64 2, .int .i64 day, .string part, .string kind, .string into, .string slot, .string key, .string value, .int .i64 ukl, .int .i64 ukh, .int .i64 ucl, .int .i64 uch, .int .i64 ull, .int .i64 ulh] 33)
  have k3 := Has.new ((w.alloc (.cells #[.slice A' c.length cc] 24)).alloc (.cells #[.slice A l.length cs] 27)) 33 #[.int .i64 2, .int .i64 day, .string part, .string kind, .string into, .string slot, .string key, .string value, .int .i64 ukl, .int .i64 ukh, .int .i64 ucl, .int .i64 uch, .int .i64 ull, .int .i64 ulh]
  simp only [World.size_alloc] at k2 k3
  have KC0 := Lib.hid k1
  have KS0 := Lib.hid k2
  have KE0 := Lib.hid k3
  have HB0 := Lib.hid ((((Below.refl w.heap.size w).alloc (Nat.le_refl _) (.cells #[.slice A' c.length cc] 24)).alloc (by simp) (.cells #[.slice A l.length cs] 27)).alloc (by simp; omega) (.cells #[.int .i64 2, .int .i64 day, .string part, .string kind, .string into, .string slot, .string key, .string value, .int .i64 ukl, .int .i64 ukh, .int .i64 ucl, .int .i64 uch, .int .i64 ull, .int .i64 ulh] 33))
  clear hcat hsta hps hev k1 k2 k3
  obtain ⟨h65, h20⟩ := fewB_take hfew
  have HVL := Lib.hid (HVL.out h65)
  have HAP := Lib.hid (HAP.out h65)
  have HAN := Lib.hid (HAN.out h65 h20)
  have HL := Lib.hid (show l.length ≤ 20000 by omega)
  have HL5 := Lib.hid (show l.length ≤ 100000 by omega)
  have HL6 := Lib.hid (show l.length ≤ 1000000 by omega)
  have HSH := Lib.hid h20.2
  have HFEW := Lib.hid hfew
  clear hfew h65 h20
  have HTL := Lib.hid (apply_short HSH.out HEV.out hr)
  have HOK := Lib.hid (fun W (h : Below w.heap.size w W) => HAP.out w (Below.refl _ _) (.slice A l.length cs) l HST.out HL.out HSH.out _ t W hr h HEV.out)
  have HF1 := Lib.hid (fun W (h : Below w.heap.size w W) => fpart_any w (.slice A l.length cs) l part W h HST.out HL6.out)
  have HF2 := Lib.hid (fun W0 A3 c3 (hs : Sta W0 (.slice A3 t.length c3) t) W (h : Below W0.heap.size W0 W) => fpart_any W0 (.slice A3 t.length c3) t part W h hs (by have := HTL.out.1; omega))
  obtain ⟨pp, hh, rr, hpm, hpf, hrf, htr, ht, htl, hrn⟩ := turn_parts hr (by dsimp only; omega)
  obtain ⟨pname, pkind, pinto, pslot, pmade, psince, pgone, pprops, pkl, pkh, pcl, pch, pdl, pdh⟩ := pp
  have hrr : rr = ⟨pname, pkind, into, slot, pmade, psince, pgone, pprops, pkl, pkh, pcl, pch, pdl, pdh⟩ := by
    rcases htr with ⟨a, _, _, _, _, h⟩ | ⟨a, _, h⟩ | ⟨a, _, h⟩ | ⟨a, h⟩ | ⟨a, _, h⟩ | ⟨a, _, _, h⟩
    all_goals first | exact h | (dsimp only at a; omega)
  have HPL := Lib.hid (show pprops.length ≤ 100000 from (HSH.out _ hpm).2.2.2.2.1)
  rw [hpf] at HF1
  rw [hrf, hrr] at HF2
  simp only [Option.getD_some, Option.isSome_some] at HF1 HF2
  clear hpf hrf hrr htr ht htl hrn hpm hr
  go_enter Tryz.func5, Tryz.ntmps5
  go_wp2_with fail
  refine (head_any _).mono ?_
  rintro e w1 ⟨rfl, hb1⟩
  have kC := (KC0.out).below hb1 (KC0.out).lt
  obtain ⟨xC1, yC1⟩ := kC.facts
  have zC1 := kC.lt
  have KC1 := Lib.hid kC
  have kS := (KS0.out).below hb1 (KS0.out).lt
  obtain ⟨xS1, yS1⟩ := kS.facts
  have zS1 := kS.lt
  have KS1 := Lib.hid kS
  have kE := (KE0.out).below hb1 (KE0.out).lt
  obtain ⟨xE1, yE1⟩ := kE.facts
  have zE1 := kE.lt
  have KE1 := Lib.hid kE
  have HB1 := Lib.hid ((HB0.out).trans (hb1.mono (HB0.out).size))
  clear hb1 kC kS kE
  go_wp2_with fail
  refine (HFW.out _ ((HB1.out).alloc (HB1.out).size _) (ev_sl (e := ⟨2, day, part, kind, into, slot, key, value, ukl, ukh, ucl, uch, ull, ulh⟩) (Has.new w1 33 #[.int .i64 2, .int .i64 day, .string part, .string kind, .string into, .string slot, .string key, .string value, .int .i64 ukl, .int .i64 ukh, .int .i64 ucl, .int .i64 uch, .int .i64 ull, .int .i64 ulh]))).mono ?_
  rintro e w2 ⟨rfl, hb2⟩
  rw [HFEW.out]
  clear xC1 yC1 zC1 xS1 yS1 zS1 xE1 yE1 zE1
  have kC := ((KC1.out).alloc _).below hb2 ((KC1.out).alloc _).lt
  obtain ⟨xC2, yC2⟩ := kC.facts
  have zC2 := kC.lt
  have KC2 := Lib.hid kC
  have kS := ((KS1.out).alloc _).below hb2 ((KS1.out).alloc _).lt
  obtain ⟨xS2, yS2⟩ := kS.facts
  have zS2 := kS.lt
  have KS2 := Lib.hid kS
  have kE := ((KE1.out).alloc _).below hb2 ((KE1.out).alloc _).lt
  obtain ⟨xE2, yE2⟩ := kE.facts
  have zE2 := kE.lt
  have KE2 := Lib.hid kE
  have HB2 := Lib.hid (((HB1.out).alloc (HB1.out).size _).trans (hb2.mono ((HB1.out).alloc (HB1.out).size _).size))
  clear hb2 kC kS kE
  go_wp2_with fail
  refine (HOK.out _ (HB2.out)).mono ?_
  rintro e w3 ⟨A3, c3, rfl, hst3, hb3⟩
  have HST3 := Lib.hid hst3
  clear hst3
  clear xC2 yC2 zC2 xS2 yS2 zS2 xE2 yE2 zE2
  have kC := (KC2.out).below hb3 (KC2.out).lt
  obtain ⟨xC3, yC3⟩ := kC.facts
  have zC3 := kC.lt
  have KC3 := Lib.hid kC
  have kS := (KS2.out).below hb3 (KS2.out).lt
  obtain ⟨xS3, yS3⟩ := kS.facts
  have zS3 := kS.lt
  have KS3 := Lib.hid kS
  have kE := (KE2.out).below hb3 (KE2.out).lt
  obtain ⟨xE3, yE3⟩ := kE.facts
  have zE3 := kE.lt
  have KE3 := Lib.hid kE
  have HB3 := Lib.hid ((HB2.out).trans (hb3.mono (HB2.out).size))
  clear hb3 kC kS kE
  go_wp2_with fail
  refine (HF1.out _ ((HB3.out).alloc (HB3.out).size _)).mono ?_
  rintro e w4 ⟨A4, m4, rfl, hpr4, hb4⟩
  have HPR4 := Lib.hid hpr4
  have HBZ := Lib.hid (((Below.refl w3.heap.size w3).alloc (Nat.le_refl _) _).trans (hb4.mono (by simp)) : Below w3.heap.size w3 w4)
  clear hpr4
  clear xC3 yC3 zC3 xS3 yS3 zS3 xE3 yE3 zE3
  have kC := ((KC3.out).alloc _).below hb4 ((KC3.out).alloc _).lt
  obtain ⟨xC4, yC4⟩ := kC.facts
  have zC4 := kC.lt
  have KC4 := Lib.hid kC
  have kS := ((KS3.out).alloc _).below hb4 ((KS3.out).alloc _).lt
  obtain ⟨xS4, yS4⟩ := kS.facts
  have zS4 := kS.lt
  have KS4 := Lib.hid kS
  have kE := ((KE3.out).alloc _).below hb4 ((KE3.out).alloc _).lt
  obtain ⟨xE4, yE4⟩ := kE.facts
  have zE4 := kE.lt
  have KE4 := Lib.hid kE
  have kT := (Has.new (w3) 27 #[.slice A3 t.length c3]).below hb4 (Has.new (w3) 27 #[.slice A3 t.length c3]).lt
  obtain ⟨xT4, yT4⟩ := kT.facts
  have zT4 := kT.lt
  have KT4 := Lib.hid kT
  have HB4 := Lib.hid (((HB3.out).alloc (HB3.out).size _).trans (hb4.mono ((HB3.out).alloc (HB3.out).size _).size))
  clear hb4 kC kS kE kT
  go_wp2_with fail
  refine (HF2.out w3 A3 c3 HST3.out _ (HBZ.out.alloc HBZ.out.size _)).mono ?_
  rintro e w5 ⟨A5, m5, rfl, hpr5, hb5⟩
  have HPR5 := Lib.hid hpr5
  have HBY := Lib.hid ((HBZ.out.alloc HBZ.out.size _).trans (hb5.mono (HBZ.out.alloc HBZ.out.size _).size))
  clear hpr5
  clear xC4 yC4 zC4 xS4 yS4 zS4 xE4 yE4 zE4 xT4 yT4 zT4
  have kC := ((KC4.out).alloc _).below hb5 ((KC4.out).alloc _).lt
  obtain ⟨xC5, yC5⟩ := kC.facts
  have zC5 := kC.lt
  have KC5 := Lib.hid kC
  have kS := ((KS4.out).alloc _).below hb5 ((KS4.out).alloc _).lt
  obtain ⟨xS5, yS5⟩ := kS.facts
  have zS5 := kS.lt
  have KS5 := Lib.hid kS
  have kE := ((KE4.out).alloc _).below hb5 ((KE4.out).alloc _).lt
  obtain ⟨xE5, yE5⟩ := kE.facts
  have zE5 := kE.lt
  have KE5 := Lib.hid kE
  have kT := ((KT4.out).alloc _).below hb5 ((KT4.out).alloc _).lt
  obtain ⟨xT5, yT5⟩ := kT.facts
  have zT5 := kT.lt
  have KT5 := Lib.hid kT
  have kP1 := (Has.new (w4) 47 #[.string pname, .string pkind, .string pinto, .string pslot, .int .i64 pmade, .int .i64 psince, .bool pgone, .slice A4 pprops.length m4, .int .i64 pkl, .int .i64 pkh, .int .i64 pcl, .int .i64 pch, .int .i64 pdl, .int .i64 pdh]).below hb5 (Has.new (w4) 47 #[.string pname, .string pkind, .string pinto, .string pslot, .int .i64 pmade, .int .i64 psince, .bool pgone, .slice A4 pprops.length m4, .int .i64 pkl, .int .i64 pkh, .int .i64 pcl, .int .i64 pch, .int .i64 pdl, .int .i64 pdh]).lt
  obtain ⟨xP15, yP15⟩ := kP1.facts
  have zP15 := kP1.lt
  have KP15 := Lib.hid kP1
  have HB5 := Lib.hid (((HB4.out).alloc (HB4.out).size _).trans (hb5.mono ((HB4.out).alloc (HB4.out).size _).size))
  clear hb5 kC kS kE kT kP1
  go_wp2_with fail
  obtain ⟨w6, hw6, hx2, hx3, hbw6⟩ : ∃ W, ((w5.alloc (.cells #[.string pname, .string pkind, .string into, .string slot, .int .i64 pmade, .int .i64 psince, .bool pgone, .slice A5 pprops.length m5, .int .i64 pkl, .int .i64 pkh, .int .i64 pcl, .int .i64 pch, .int .i64 pdl, .int .i64 pdh] 47)).alloc (.cells #[.string pname, .string pkind, .string pinto, .string pslot, .int .i64 pmade, .int .i64 psince, .bool pgone, .slice A4 pprops.length m4, .int .i64 pkl, .int .i64 pkh, .int .i64 pcl, .int .i64 pch, .int .i64 pdl, .int .i64 pdh] 47)) = W ∧ Has W w5.heap.size 47 #[.string pname, .string pkind, .string into, .string slot, .int .i64 pmade, .int .i64 psince, .bool pgone, .slice A5 pprops.length m5, .int .i64 pkl, .int .i64 pkh, .int .i64 pcl, .int .i64 pch, .int .i64 pdl, .int .i64 pdh] ∧ Has W (w5.heap.size + 1) 47 #[.string pname, .string pkind, .string pinto, .string pslot, .int .i64 pmade, .int .i64 psince, .bool pgone, .slice A4 pprops.length m4, .int .i64 pkl, .int .i64 pkh, .int .i64 pcl, .int .i64 pch, .int .i64 pdl, .int .i64 pdh] ∧ Below w5.heap.size w5 W := ⟨_, rfl, (Has.new w5 47 #[.string pname, .string pkind, .string into, .string slot, .int .i64 pmade, .int .i64 psince, .bool pgone, .slice A5 pprops.length m5, .int .i64 pkl, .int .i64 pkh, .int .i64 pcl, .int .i64 pch, .int .i64 pdl, .int .i64 pdh]).alloc _, by have := Has.new (w5.alloc (.cells #[.string pname, .string pkind, .string into, .string slot, .int .i64 pmade, .int .i64 psince, .bool pgone, .slice A5 pprops.length m5, .int .i64 pkl, .int .i64 pkh, .int .i64 pcl, .int .i64 pch, .int .i64 pdl, .int .i64 pdh] 47)) 47 #[.string pname, .string pkind, .string pinto, .string pslot, .int .i64 pmade, .int .i64 psince, .bool pgone, .slice A4 pprops.length m4, .int .i64 pkl, .int .i64 pkh, .int .i64 pcl, .int .i64 pch, .int .i64 pdl, .int .i64 pdh]; simpa only [World.size_alloc] using this, ((Below.refl w5.heap.size w5).alloc (Nat.le_refl _) _).alloc (by simp) _⟩
  rw [hw6]
  have HE6 := Lib.hid (KE5.out.below hbw6 KE5.out.lt)
  obtain ⟨xE6, yE6⟩ := HE6.out.facts
  obtain ⟨x36, y36⟩ := hx3.facts
  have hgE : w.heap.size + 1 + 1 ≠ w5.heap.size + 1 := by have := KE5.out.lt; omega
  have hg25 : w5.heap.size ≠ w5.heap.size + 1 := by omega
  have hlz : w5.heap.size + 1 < w6.heap.size := hx3.lt
  have HBY6 := Lib.hid (HBY.out.trans (hbw6.mono HBY.out.size))
  have hpz : w3.heap.size ≤ w5.heap.size + 1 := by have := HBY.out.size; omega
  have HKr := Lib.hid (fun W (hE : Has W (w.heap.size + 1 + 1) 33 #[.int .i64 2, .int .i64 day, .string part, .string kind, .string into, .string slot, .string key, .string value, .int .i64 ukl, .int .i64 ukh, .int .i64 ucl, .int .i64 uch, .int .i64 ull, .int .i64 ulh]) => (hE.facts.1 : ∀ o, World.cell? W ⟨w.heap.size + 1 + 1, o, none⟩ = (#[.int .i64 2, .int .i64 day, .string part, .string kind, .string into, .string slot, .string key, .string value, .int .i64 ukl, .int .i64 ukh, .int .i64 ucl, .int .i64 uch, .int .i64 ull, .int .i64 ulh] : Array Value)[o]?))
  obtain ⟨w7, hw7, hx73, hx72, hE7, hb7⟩ := put2 hx3 hx2 HE6.out HBY6.out hpz hg25 hgE 2 3 (.string into) (.string slot)
  refine wp_region_held_drew (S := fun W => ∀ o, World.cell? W ⟨w.heap.size + 1 + 1, o, none⟩ = (#[.int .i64 2, .int .i64 day, .string part, .string kind, .string into, .string slot, .string key, .string value, .int .i64 ukl, .int .i64 ukh, .int .i64 ucl, .int .i64 uch, .int .i64 ull, .int .i64 ulh] : Array Value)[o]?) (by kernel_rfl) (HKr.out _ HE6.out.drew) (fun hHeld => ?_)
  refine wpAnyH_take (i := 0) (oi := ⟨_, _, _, _, _, _⟩) (v := ?_) rfl (by kernel_rfl) (by kernel_rfl) (by kernel_rfl) (fun _ _ _ h => h) (Or.inl ⟨by rfl, ?_⟩) (by assumption) ?_
  rotate_left
  · intro W hSW; (try dsimp only at hSW); go_simp; all_goals (with_reducible rfl)
  try simp only [Act.put, List.setIfInBounds_toArray, List.set_cons_zero, List.set_cons_succ]
  refine wpAnyH_take (i := 1) (oi := ⟨_, _, _, _, _, _⟩) (v := ?_) rfl (by kernel_rfl) (by kernel_rfl) (by kernel_rfl) (fun _ _ _ h => h) (Or.inl ⟨by rfl, ?_⟩) (by assumption) ?_
  rotate_left
  · intro W hSW; (try dsimp only at hSW); go_simp; all_goals (with_reducible rfl)
  try simp only [Act.put, List.setIfInBounds_toArray, List.set_cons_zero, List.set_cons_succ]
  refine wpAnyH_take (i := 2) (oi := ⟨_, _, _, _, _, _⟩) (v := ?_) rfl (by kernel_rfl) (by kernel_rfl) (by kernel_rfl) (fun _ _ _ h => h) (Or.inl ⟨by rfl, ?_⟩) (by assumption) ?_
  rotate_left
  · intro W hSW; (try dsimp only at hSW); go_simp; all_goals (with_reducible rfl)
  try simp only [Act.put, List.setIfInBounds_toArray, List.set_cons_zero, List.set_cons_succ]
  refine wpAnyH_take (i := 3) (oi := ⟨_, _, _, _, _, _⟩) (v := ?_) rfl (by kernel_rfl) (by kernel_rfl) (by kernel_rfl) (fun _ _ _ h => h) (Or.inl ⟨by rfl, ?_⟩) (by assumption) ?_
  rotate_left
  · intro W hSW; (try dsimp only at hSW); go_simp; all_goals (with_reducible rfl)
  try simp only [Act.put, List.setIfInBounds_toArray, List.set_cons_zero, List.set_cons_succ]
  refine wpAnyH_take (i := 4) (oi := ⟨_, _, _, _, _, _⟩) (v := ?_) rfl (by kernel_rfl) (by kernel_rfl) (by kernel_rfl) (fun _ _ _ h => h) (Or.inl ⟨by rfl, ?_⟩) (by assumption) ?_
  rotate_left
  · intro W hSW; (try dsimp only at hSW); go_simp; all_goals (with_reducible rfl)
  try simp only [Act.put, List.setIfInBounds_toArray, List.set_cons_zero, List.set_cons_succ]
  refine wpAnyH_ready (rs := [5]) (by kernel_rfl) (by simp) ?_
  refine AllReadyH.cons (o := ⟨_, _, _, _, _, _⟩) rfl (fun K hK => ?_) AllReadyH.nil
  go_simp
  refine hK.out _ _ (HKr.out _ (HE6.out.drew.far ⟨w5.heap.size + 1, 2, none⟩ hgE _)) (fun hHeld => ?_)
  clear hK K
  try simp only [Act.put, List.setIfInBounds_toArray, List.set_cons_zero, List.set_cons_succ]
  refine wpAnyH_take (i := 6) (oi := ⟨_, _, _, _, _, _⟩) (v := ?_) rfl (by kernel_rfl) (by kernel_rfl) (by kernel_rfl) (fun _ _ _ h => h) (Or.inl ⟨by rfl, ?_⟩) (by assumption) ?_
  rotate_left
  · intro W hSW; (try dsimp only at hSW); go_simp; all_goals (with_reducible rfl)
  try simp only [Act.put, List.setIfInBounds_toArray, List.set_cons_zero, List.set_cons_succ]
  refine wpAnyH_ready (rs := [7]) (by kernel_rfl) (by simp) ?_
  refine AllReadyH.cons (o := ⟨_, _, _, _, _, _⟩) rfl (fun K hK => ?_) AllReadyH.nil
  go_simp
  refine hK.out _ _ (HKr.out _ hE7.drew) (fun hHeld => ?_)
  clear hK K
  try simp only [Act.put, List.setIfInBounds_toArray, List.set_cons_zero, List.set_cons_succ]
  refine wpAnyH_done (by kernel_rfl) ?_ _
  replace hx73 : Has w7 (w5.heap.size + 1) 47 #[.string pname, .string pkind, .string into, .string slot, .int .i64 pmade, .int .i64 psince, .bool pgone, .slice A4 pprops.length m4, .int .i64 pkl, .int .i64 pkh, .int .i64 pcl, .int .i64 pch, .int .i64 pdl, .int .i64 pdh] := hx73
  obtain ⟨x73, y73⟩ := hx73.facts
  obtain ⟨x72, y72⟩ := hx72.facts
  have HBW := Lib.hid hb7.drew
  clear hw7 x36 y36 xE6 yE6
  go_wp2_with fail
  refine (samePart_any pname pkind into slot pmade psince pgone pprops pkl pkh pcl pch pdl pdh pname pkind into slot pmade psince pgone pprops pkl pkh pcl pch pdl pdh A5 A4 m5 m4 _ (HPR5.out.below PrR.stays HBW.out) (HPR4.out.below PrR.stays (HB3.out.trans (HBW.out.mono HB3.out.size))) HPL.out HPL.out).mono ?_
  rintro e w8 ⟨rfl, hb8⟩
  rw [decide_eq_true rfl]
  have HB8 := Lib.hid ((HB3.out.trans (HBW.out.mono HB3.out.size)).trans (hb8.mono (HB3.out.trans (HBW.out.mono HB3.out.size)).size))
  clear hb8
  go_wp2_with fail
  go_ret
  exact ⟨rfl, HB8.out⟩
end Go.Proofs.YtpikcofbhkbifaaGreat
