/- bogielaw10.FleetChanges returns true: the walk. -/
import Derived.Test.YtpikcofbhkbifaaGreatU26
import Derived.Test.YtpikcofbhkbifaaGreatU27
namespace Go.Proofs.YtpikcofbhkbifaaGreat
open Go Go.RowKit
set_option maxRecDepth 100000 in
set_option maxHeartbeats 8000000 in
theorem chg_e1 (cv sv : Value) (c : List Kd) (l : List Pa) (op day : Int) (part kind into slot key value : ByteArray) (ukl ukh ucl uch ull ulh : Int) (w : World) (hcat : Cat w cv c) (hsta : Sta w sv l) (hl : l.length ≤ maxLen) (hps : ∀ p ∈ l, p.wide) (hev : Ev.short ⟨op, day, part, kind, into, slot, key, value, ukl, ukh, ucl, uch, ull, ulh⟩) (hfew : fewB c l [⟨op, day, part, kind, into, slot, key, value, ukl, ukh, ucl, uch, ull, ulh⟩] = false) :
    Calls Tryz.prog 4 #[.agg #[cv], .agg #[sv], .agg #[.int .i64 op, .int .i64 day, .string part, .string kind, .string into, .string slot, .string key, .string value, .int .i64 ukl, .int .i64 ukh, .int .i64 ucl, .int .i64 uch, .int .i64 ull, .int .i64 ulh]] w fun e w' => e = .returned (.bool true) ∧ Below w.heap.size w w' := by
  obtain ⟨A', cc, rfl, _⟩ := Rd.form hcat
  obtain ⟨A, cs, rfl, hn⟩ := Rd.form hsta
  have HST := Lib.hid hsta
  have HCAT := Lib.hid hcat
  have HEV := Lib.hid hev
  have HFW := Lib.hid (fun W (h : Below w.heap.size w W) {g : Nat} (hv : Sl W (.slice (some ⟨g, 0, none⟩) 1 1) 1 14 (evF [⟨op, day, part, kind, into, slot, key, value, ukl, ukh, ucl, uch, ull, ulh⟩])) => few_any W (.slice A' c.length cc) (.slice A l.length cs) (.slice (some ⟨g, 0, none⟩) 1 1) c l [⟨op, day, part, kind, into, slot, key, value, ukl, ukh, ucl, uch, ull, ulh⟩] W (Below.refl _ _) (hcat.below h) (hsta.below h) hv hl hps (by simp [maxLen]))
  have HAP := Lib.hid (fun (h65 : c.length ≤ 65 ∧ ∀ k ∈ c, k.short) W0 (h0 : Below w.heap.size w W0) sv' l' (hs' : Sta W0 sv' l') (hl' : l'.length ≤ 20000) (hsh' : ∀ p ∈ l', p.short) ev t W (hr : applyL c l' ev = (t, 0)) (h : Below W0.heap.size W0 W) hev => apply_ok W0 (.slice A' c.length cc) sv' c l' ev t W hr h (hcat.below h0) (by omega) h65.2 hs' (by omega) hsh' hev)
  have HAN := Lib.hid (fun (h65 : c.length ≤ 65 ∧ ∀ k ∈ c, k.short) (h20 : l.length ≤ 20 ∧ ∀ p ∈ l, p.short) ev W (hr : (applyL c l ev).2 ≠ 0) (h : Below w.heap.size w W) hev => apply_no w (.slice A' c.length cc) (.slice A l.length cs) c l ev W hr h hcat (by omega) h65.2 hsta (by omega) h20.2 hev)
  have HVL := Lib.hid (fun (h65 : c.length ≤ 65 ∧ ∀ k ∈ c, k.short) sv' l' W0 (h0 : Below w.heap.size w W0) (hs : Sta W0 sv' l') (hl' : l'.length ≤ 100000) (hps' : ∀ p ∈ l', p.short) W (h : Below W0.heap.size W0 W) => fvalid_any W0 (.slice A' c.length cc) sv' c l' W h (hcat.below h0) (by omega) h65.2 hs hl' hps')
  have k1 := ((Has.new w 24 #[.slice A' c.length cc]).alloc (.cells #[.slice A l.length cs] 27)).alloc (.cells #[.int .i64 op, .int .i64 day, .string part, .string kind, .string into, .string slot, .string key, .string value, .int .i64 ukl, .int .i64 ukh, .int .i64 ucl, .int .i64 uch, .int .i64 ull, .int .i64 ulh] 33)
  have k2 := (Has.new (w.alloc (.cells #[.slice A' c.length cc] 24)) 27 #[.slice A l.length cs]).alloc (.cells #[.int .i64 op, .int .i64 day, .string part, .string kind, .string into, .string slot, .string key, .string value, .int .i64 ukl, .int .i64 ukh, .int .i64 ucl, .int .i64 uch, .int .i64 ull, .int .i64 ulh] 33)
  have k3 := Has.new ((w.alloc (.cells #[.slice A' c.length cc] 24)).alloc (.cells #[.slice A l.length cs] 27)) 33 #[.int .i64 op, .int .i64 day, .string part, .string kind, .string into, .string slot, .string key, .string value, .int .i64 ukl, .int .i64 ukh, .int .i64 ucl, .int .i64 uch, .int .i64 ull, .int .i64 ulh]
  simp only [World.size_alloc] at k2 k3
  have KC0 := Lib.hid k1
  have KS0 := Lib.hid k2
  have KE0 := Lib.hid k3
  have HB0 := Lib.hid ((((Below.refl w.heap.size w).alloc (Nat.le_refl _) (.cells #[.slice A' c.length cc] 24)).alloc (by simp) (.cells #[.slice A l.length cs] 27)).alloc (by simp; omega) (.cells #[.int .i64 op, .int .i64 day, .string part, .string kind, .string into, .string slot, .string key, .string value, .int .i64 ukl, .int .i64 ukh, .int .i64 ucl, .int .i64 uch, .int .i64 ull, .int .i64 ulh] 33))
  clear hcat hsta hps hev k1 k2 k3
  have HFEW := Lib.hid hfew
  clear hfew HAP HAN HST HCAT HEV HVL
  go_enter Tryz.func4, Tryz.ntmps4
  go_wp2_with fail
  refine (head_any _).mono ?_
  rintro e w1 ⟨rfl, hb1⟩
  have kC := (KC0.out).below hb1 (KC0.out).lt
  obtain ⟨xC1, yC1⟩ := kC.facts
  have zC1 := kC.lt
  have KC1 := Lib.hid kC
  have kS := (KS0.out).below hb1 (KS0.out).lt
  obtain ⟨xS1, yS1⟩ := kS.facts
  have zS1 := kS.lt
  have KS1 := Lib.hid kS
  have kE := (KE0.out).below hb1 (KE0.out).lt
  obtain ⟨xE1, yE1⟩ := kE.facts
  have zE1 := kE.lt
  have KE1 := Lib.hid kE
  have HB1 := Lib.hid ((HB0.out).trans (hb1.mono (HB0.out).size))
  clear hb1 kC kS kE
  go_wp2_with fail
  refine (HFW.out _ ((HB1.out).alloc (HB1.out).size _) (ev_sl (e := ⟨op, day, part, kind, into, slot, key, value, ukl, ukh, ucl, uch, ull, ulh⟩) (Has.new w1 33 #[.int .i64 op, .int .i64 day, .string part, .string kind, .string into, .string slot, .string key, .string value, .int .i64 ukl, .int .i64 ukh, .int .i64 ucl, .int .i64 uch, .int .i64 ull, .int .i64 ulh]))).mono ?_
  rintro e w2 ⟨rfl, hb2⟩
  rw [HFEW.out]
  clear xC1 yC1 zC1 xS1 yS1 zS1 xE1 yE1 zE1
  have kC := ((KC1.out).alloc _).below hb2 ((KC1.out).alloc _).lt
  obtain ⟨xC2, yC2⟩ := kC.facts
  have zC2 := kC.lt
  have KC2 := Lib.hid kC
  have kS := ((KS1.out).alloc _).below hb2 ((KS1.out).alloc _).lt
  obtain ⟨xS2, yS2⟩ := kS.facts
  have zS2 := kS.lt
  have KS2 := Lib.hid kS
  have kE := ((KE1.out).alloc _).below hb2 ((KE1.out).alloc _).lt
  obtain ⟨xE2, yE2⟩ := kE.facts
  have zE2 := kE.lt
  have KE2 := Lib.hid kE
  have HB2 := Lib.hid (((HB1.out).alloc (HB1.out).size _).trans (hb2.mono ((HB1.out).alloc (HB1.out).size _).size))
  clear hb2 kC kS kE
  go_wp2_with fail
  go_ret
  exact ⟨rfl, HB2.out⟩
set_option maxRecDepth 100000 in
set_option maxHeartbeats 8000000 in
theorem chg_e2 (cv sv : Value) (c : List Kd) (l : List Pa) (op day : Int) (part kind into slot key value : ByteArray) (ukl ukh ucl uch ull ulh : Int) (w : World) (hcat : Cat w cv c) (hsta : Sta w sv l) (hl : l.length ≤ maxLen) (hps : ∀ p ∈ l, p.wide) (hev : Ev.short ⟨op, day, part, kind, into, slot, key, value, ukl, ukh, ucl, uch, ull, ulh⟩) (hfew : fewB c l [⟨op, day, part, kind, into, slot, key, value, ukl, ukh, ucl, uch, ull, ulh⟩] = true) (t : List Pa) (re : Int) (hr : applyL c l ⟨op, day, part, kind, into, slot, key, value, ukl, ukh, ucl, uch, ull, ulh⟩ = (t, re)) (hre : ¬ re = 0) :
    Calls Tryz.prog 4 #[.agg #[cv], .agg #[sv], .agg #[.int .i64 op, .int .i64 day, .string part, .string kind, .string into, .string slot, .string key, .string value, .int .i64 ukl, .int .i64 ukh, .int .i64 ucl, .int .i64 uch, .int .i64 ull, .int .i64 ulh]] w fun e w' => e = .returned (.bool true) ∧ Below w.heap.size w w' := by
  obtain ⟨A', cc, rfl, _⟩ := Rd.form hcat
  obtain ⟨A, cs, rfl, hn⟩ := Rd.form hsta
  have HST := Lib.hid hsta
  have HCAT := Lib.hid hcat
  have HEV := Lib.hid hev
  have HFW := Lib.hid (fun W (h : Below w.heap.size w W) {g : Nat} (hv : Sl W (.slice (some ⟨g, 0, none⟩) 1 1) 1 14 (evF [⟨op, day, part, kind, into, slot, key, value, ukl, ukh, ucl, uch, ull, ulh⟩])) => few_any W (.slice A' c.length cc) (.slice A l.length cs) (.slice (some ⟨g, 0, none⟩) 1 1) c l [⟨op, day, part, kind, into, slot, key, value, ukl, ukh, ucl, uch, ull, ulh⟩] W (Below.refl _ _) (hcat.below h) (hsta.below h) hv hl hps (by simp [maxLen]))
  have HAP := Lib.hid (fun (h65 : c.length ≤ 65 ∧ ∀ k ∈ c, k.short) W0 (h0 : Below w.heap.size w W0) sv' l' (hs' : Sta W0 sv' l') (hl' : l'.length ≤ 20000) (hsh' : ∀ p ∈ l', p.short) ev t W (hr : applyL c l' ev = (t, 0)) (h : Below W0.heap.size W0 W) hev => apply_ok W0 (.slice A' c.length cc) sv' c l' ev t W hr h (hcat.below h0) (by omega) h65.2 hs' (by omega) hsh' hev)
  have HAN := Lib.hid (fun (h65 : c.length ≤ 65 ∧ ∀ k ∈ c, k.short) (h20 : l.length ≤ 20 ∧ ∀ p ∈ l, p.short) ev W (hr : (applyL c l ev).2 ≠ 0) (h : Below w.heap.size w W) hev => apply_no w (.slice A' c.length cc) (.slice A l.length cs) c l ev W hr h hcat (by omega) h65.2 hsta (by omega) h20.2 hev)
  have HVL := Lib.hid (fun (h65 : c.length ≤ 65 ∧ ∀ k ∈ c, k.short) sv' l' W0 (h0 : Below w.heap.size w W0) (hs : Sta W0 sv' l') (hl' : l'.length ≤ 100000) (hps' : ∀ p ∈ l', p.short) W (h : Below W0.heap.size W0 W) => fvalid_any W0 (.slice A' c.length cc) sv' c l' W h (hcat.below h0) (by omega) h65.2 hs hl' hps')
  have k1 := ((Has.new w 24 #[.slice A' c.length cc]).alloc (.cells #[.slice A l.length cs] 27)).alloc (.cells #[.int .i64 op, .int .i64 day, .string part, .string kind, .string into, .string slot, .string key, .string value, .int .i64 ukl, .int .i64 ukh, .int .i64 ucl, .int .i64 uch, .int .i64 ull, .int .i64 ulh] 33)
  have k2 := (Has.new (w.alloc (.cells #[.slice A' c.length cc] 24)) 27 #[.slice A l.length cs]).alloc (.cells #[.int .i64 op, .int .i64 day, .string part, .string kind, .string into, .string slot, .string key, .string value, .int .i64 ukl, .int .i64 ukh, .int .i64 ucl, .int .i64 uch, .int .i64 ull, .int .i64 ulh] 33)
  have k3 := Has.new ((w.alloc (.cells #[.slice A' c.length cc] 24)).alloc (.cells #[.slice A l.length cs] 27)) 33 #[.int .i64 op, .int .i64 day, .string part, .string kind, .string into, .string slot, .string key, .string value, .int .i64 ukl, .int .i64 ukh, .int .i64 ucl, .int .i64 uch, .int .i64 ull, .int .i64 ulh]
  simp only [World.size_alloc] at k2 k3
  have KC0 := Lib.hid k1
  have KS0 := Lib.hid k2
  have KE0 := Lib.hid k3
  have HB0 := Lib.hid ((((Below.refl w.heap.size w).alloc (Nat.le_refl _) (.cells #[.slice A' c.length cc] 24)).alloc (by simp) (.cells #[.slice A l.length cs] 27)).alloc (by simp; omega) (.cells #[.int .i64 op, .int .i64 day, .string part, .string kind, .string into, .string slot, .string key, .string value, .int .i64 ukl, .int .i64 ukh, .int .i64 ucl, .int .i64 uch, .int .i64 ull, .int .i64 ulh] 33))
  clear hcat hsta hps hev k1 k2 k3
  obtain ⟨h65, h20⟩ := fewB_take hfew
  have HVL := Lib.hid (HVL.out h65)
  have HAP := Lib.hid (HAP.out h65)
  have HAN := Lib.hid (HAN.out h65 h20)
  have HL := Lib.hid (show l.length ≤ 20000 by omega)
  have HL5 := Lib.hid (show l.length ≤ 100000 by omega)
  have HL6 := Lib.hid (show l.length ≤ 1000000 by omega)
  have HSH := Lib.hid h20.2
  have HFEW := Lib.hid hfew
  clear hfew h65 h20
  have HNO := Lib.hid (fun W (h : Below w.heap.size w W) => HAN.out _ W (by rw [hr]; exact hre) h HEV.out)
  rw [hr] at HNO
  have hr1 : (re != 0) = true := by simpa using hre
  have hr2 : (re == 0) = false := by simpa using hre
  clear hr hre HAP HVL HCAT HST
  go_enter Tryz.func4, Tryz.ntmps4
  go_wp2_with fail
  refine (head_any _).mono ?_
  rintro e w1 ⟨rfl, hb1⟩
  have kC := (KC0.out).below hb1 (KC0.out).lt
  obtain ⟨xC1, yC1⟩ := kC.facts
  have zC1 := kC.lt
  have KC1 := Lib.hid kC
  have kS := (KS0.out).below hb1 (KS0.out).lt
  obtain ⟨xS1, yS1⟩ := kS.facts
  have zS1 := kS.lt
  have KS1 := Lib.hid kS
  have kE := (KE0.out).below hb1 (KE0.out).lt
  obtain ⟨xE1, yE1⟩ := kE.facts
  have zE1 := kE.lt
  have KE1 := Lib.hid kE
  have HB1 := Lib.hid ((HB0.out).trans (hb1.mono (HB0.out).size))
  clear hb1 kC kS kE
  go_wp2_with fail
  refine (HFW.out _ ((HB1.out).alloc (HB1.out).size _) (ev_sl (e := ⟨op, day, part, kind, into, slot, key, value, ukl, ukh, ucl, uch, ull, ulh⟩) (Has.new w1 33 #[.int .i64 op, .int .i64 day, .string part, .string kind, .string into, .string slot, .string key, .string value, .int .i64 ukl, .int .i64 ukh, .int .i64 ucl, .int .i64 uch, .int .i64 ull, .int .i64 ulh]))).mono ?_
  rintro e w2 ⟨rfl, hb2⟩
  rw [HFEW.out]
  clear xC1 yC1 zC1 xS1 yS1 zS1 xE1 yE1 zE1
  have kC := ((KC1.out).alloc _).below hb2 ((KC1.out).alloc _).lt
  obtain ⟨xC2, yC2⟩ := kC.facts
  have zC2 := kC.lt
  have KC2 := Lib.hid kC
  have kS := ((KS1.out).alloc _).below hb2 ((KS1.out).alloc _).lt
  obtain ⟨xS2, yS2⟩ := kS.facts
  have zS2 := kS.lt
  have KS2 := Lib.hid kS
  have kE := ((KE1.out).alloc _).below hb2 ((KE1.out).alloc _).lt
  obtain ⟨xE2, yE2⟩ := kE.facts
  have zE2 := kE.lt
  have KE2 := Lib.hid kE
  have HB2 := Lib.hid (((HB1.out).alloc (HB1.out).size _).trans (hb2.mono ((HB1.out).alloc (HB1.out).size _).size))
  clear hb2 kC kS kE
  go_wp2_with fail
  refine (HNO.out _ (HB2.out)).mono ?_
  rintro e w3 ⟨A3, c3, rfl, hb3⟩
  clear xC2 yC2 zC2 xS2 yS2 zS2 xE2 yE2 zE2
  have kC := (KC2.out).below hb3 (KC2.out).lt
  obtain ⟨xC3, yC3⟩ := kC.facts
  have zC3 := kC.lt
  have KC3 := Lib.hid kC
  have kS := (KS2.out).below hb3 (KS2.out).lt
  obtain ⟨xS3, yS3⟩ := kS.facts
  have zS3 := kS.lt
  have KS3 := Lib.hid kS
  have kE := (KE2.out).below hb3 (KE2.out).lt
  obtain ⟨xE3, yE3⟩ := kE.facts
  have zE3 := kE.lt
  have KE3 := Lib.hid kE
  have HB3 := Lib.hid ((HB2.out).trans (hb3.mono (HB2.out).size))
  clear hb3 kC kS kE
  go_wp2_with fail
  go_ret
  exact ⟨rfl, (HB3.out).alloc (HB3.out).size _⟩
set_option maxRecDepth 100000 in
set_option maxHeartbeats 8000000 in
theorem chg_make (cv sv : Value) (c : List Kd) (l : List Pa) (op day : Int) (part kind into slot key value : ByteArray) (ukl ukh ucl uch ull ulh : Int) (w : World) (hcat : Cat w cv c) (hsta : Sta w sv l) (hl : l.length ≤ maxLen) (hps : ∀ p ∈ l, p.wide) (hev : Ev.short ⟨op, day, part, kind, into, slot, key, value, ukl, ukh, ucl, uch, ull, ulh⟩) (hfew : fewB c l [⟨op, day, part, kind, into, slot, key, value, ukl, ukh, ucl, uch, ull, ulh⟩] = true) (t : List Pa) (hr : applyL c l ⟨op, day, part, kind, into, slot, key, value, ukl, ukh, ucl, uch, ull, ulh⟩ = (t, 0)) (ho : op = 1) :
    Calls Tryz.prog 4 #[.agg #[cv], .agg #[sv], .agg #[.int .i64 op, .int .i64 day, .string part, .string kind, .string into, .string slot, .string key, .string value, .int .i64 ukl, .int .i64 ukh, .int .i64 ucl, .int .i64 uch, .int .i64 ull, .int .i64 ulh]] w fun e w' => e = .returned (.bool true) ∧ Below w.heap.size w w' := by
  obtain ⟨A', cc, rfl, _⟩ := Rd.form hcat
  obtain ⟨A, cs, rfl, hn⟩ := Rd.form hsta
  have HST := Lib.hid hsta
  have HCAT := Lib.hid hcat
  have HEV := Lib.hid hev
  have HFW := Lib.hid (fun W (h : Below w.heap.size w W) {g : Nat} (hv : Sl W (.slice (some ⟨g, 0, none⟩) 1 1) 1 14 (evF [⟨op, day, part, kind, into, slot, key, value, ukl, ukh, ucl, uch, ull, ulh⟩])) => few_any W (.slice A' c.length cc) (.slice A l.length cs) (.slice (some ⟨g, 0, none⟩) 1 1) c l [⟨op, day, part, kind, into, slot, key, value, ukl, ukh, ucl, uch, ull, ulh⟩] W (Below.refl _ _) (hcat.below h) (hsta.below h) hv hl hps (by simp [maxLen]))
  have HAP := Lib.hid (fun (h65 : c.length ≤ 65 ∧ ∀ k ∈ c, k.short) W0 (h0 : Below w.heap.size w W0) sv' l' (hs' : Sta W0 sv' l') (hl' : l'.length ≤ 20000) (hsh' : ∀ p ∈ l', p.short) ev t W (hr : applyL c l' ev = (t, 0)) (h : Below W0.heap.size W0 W) hev => apply_ok W0 (.slice A' c.length cc) sv' c l' ev t W hr h (hcat.below h0) (by omega) h65.2 hs' (by omega) hsh' hev)
  have HAN := Lib.hid (fun (h65 : c.length ≤ 65 ∧ ∀ k ∈ c, k.short) (h20 : l.length ≤ 20 ∧ ∀ p ∈ l, p.short) ev W (hr : (applyL c l ev).2 ≠ 0) (h : Below w.heap.size w W) hev => apply_no w (.slice A' c.length cc) (.slice A l.length cs) c l ev W hr h hcat (by omega) h65.2 hsta (by omega) h20.2 hev)
  have HVL := Lib.hid (fun (h65 : c.length ≤ 65 ∧ ∀ k ∈ c, k.short) sv' l' W0 (h0 : Below w.heap.size w W0) (hs : Sta W0 sv' l') (hl' : l'.length ≤ 100000) (hps' : ∀ p ∈ l', p.short) W (h : Below W0.heap.size W0 W) => fvalid_any W0 (.slice A' c.length cc) sv' c l' W h (hcat.below h0) (by omega) h65.2 hs hl' hps')
  have k1 := ((Has.new w 24 #[.slice A' c.length cc]).alloc (.cells #[.slice A l.length cs] 27)).alloc (.cells #[.int .i64 op, .int .i64 day, .string part, .string kind, .string into, .string slot, .string key, .string value, .int .i64 ukl, .int .i64 ukh, .int .i64 ucl, .int .i64 uch, .int .i64 ull, .int .i64 ulh] 33)
  have k2 := (Has.new (w.alloc (.cells #[.slice A' c.length cc] 24)) 27 #[.slice A l.length cs]).alloc (.cells #[.int .i64 op, .int .i64 day, .string part, .string kind, .string into, .string slot, .string key, .string value, .int .i64 ukl, .int .i64 ukh, .int .i64 ucl, .int .i64 uch, .int .i64 ull, .int .i64 ulh] 33)
  have k3 := Has.new ((w.alloc (.cells #[.slice A' c.length cc] 24)).alloc (.cells #[.slice A l.length cs] 27)) 33 #[.int .i64 op, .int .i64 day, .string part, .string kind, .string into, .string slot, .string key, .string value, .int .i64 ukl, .int .i64 ukh, .int .i64 ucl, .int .i64 uch, .int .i64 ull, .int .i64 ulh]
  simp only [World.size_alloc] at k2 k3
  have KC0 := Lib.hid k1
  have KS0 := Lib.hid k2
  have KE0 := Lib.hid k3
  have HB0 := Lib.hid ((((Below.refl w.heap.size w).alloc (Nat.le_refl _) (.cells #[.slice A' c.length cc] 24)).alloc (by simp) (.cells #[.slice A l.length cs] 27)).alloc (by simp; omega) (.cells #[.int .i64 op, .int .i64 day, .string part, .string kind, .string into, .string slot, .string key, .string value, .int .i64 ukl, .int .i64 ukh, .int .i64 ucl, .int .i64 uch, .int .i64 ull, .int .i64 ulh] 33))
  clear hcat hsta hps hev k1 k2 k3
  obtain ⟨h65, h20⟩ := fewB_take hfew
  have HVL := Lib.hid (HVL.out h65)
  have HAP := Lib.hid (HAP.out h65)
  have HAN := Lib.hid (HAN.out h65 h20)
  have HL := Lib.hid (show l.length ≤ 20000 by omega)
  have HL5 := Lib.hid (show l.length ≤ 100000 by omega)
  have HL6 := Lib.hid (show l.length ≤ 1000000 by omega)
  have HSH := Lib.hid h20.2
  have HFEW := Lib.hid hfew
  clear hfew h65 h20
  have HTL := Lib.hid (apply_short HSH.out HEV.out hr)
  have HTL5 := Lib.hid (show t.length ≤ 100000 by have := HTL.out.1; omega)
  have HOK := Lib.hid (fun W (h : Below w.heap.size w W) => HAP.out w (Below.refl _ _) (.slice A l.length cs) l HST.out HL.out HSH.out _ t W hr h HEV.out)
  have HV := Lib.hid (apply_iff.1 hr).1
  have HOKE := Lib.hid (apply_iff.1 hr).2.1
  have HVT := Lib.hid (apply_valid hr)
  have HV0 := Lib.hid (valid_nil (vld_iff.1 HV.out).cat)
  have HCH := Lib.hid (fun p (hp : p ∈ l) => changes_parts hr hp)
  have HPR := Lib.hid (fun p (hp : p ∈ l) => (HSH.out p hp).2.2.2.2.1)
  have hlc := changes_make hr ho
  have ho1 : (op == 1) = true := by simp [ho]
  have HLC := Lib.hid hlc
  clear hlc ho hr
  go_enter Tryz.func4, Tryz.ntmps4
  go_wp2_with fail
  refine (head_any _).mono ?_
  rintro e w1 ⟨rfl, hb1⟩
  have kC := (KC0.out).below hb1 (KC0.out).lt
  obtain ⟨xC1, yC1⟩ := kC.facts
  have zC1 := kC.lt
  have KC1 := Lib.hid kC
  have kS := (KS0.out).below hb1 (KS0.out).lt
  obtain ⟨xS1, yS1⟩ := kS.facts
  have zS1 := kS.lt
  have KS1 := Lib.hid kS
  have kE := (KE0.out).below hb1 (KE0.out).lt
  obtain ⟨xE1, yE1⟩ := kE.facts
  have zE1 := kE.lt
  have KE1 := Lib.hid kE
  have HB1 := Lib.hid ((HB0.out).trans (hb1.mono (HB0.out).size))
  clear hb1 kC kS kE
  go_wp2_with fail
  refine (HFW.out _ ((HB1.out).alloc (HB1.out).size _) (ev_sl (e := ⟨op, day, part, kind, into, slot, key, value, ukl, ukh, ucl, uch, ull, ulh⟩) (Has.new w1 33 #[.int .i64 op, .int .i64 day, .string part, .string kind, .string into, .string slot, .string key, .string value, .int .i64 ukl, .int .i64 ukh, .int .i64 ucl, .int .i64 uch, .int .i64 ull, .int .i64 ulh]))).mono ?_
  rintro e w2 ⟨rfl, hb2⟩
  rw [HFEW.out]
  clear xC1 yC1 zC1 xS1 yS1 zS1 xE1 yE1 zE1
  have kC := ((KC1.out).alloc _).below hb2 ((KC1.out).alloc _).lt
  obtain ⟨xC2, yC2⟩ := kC.facts
  have zC2 := kC.lt
  have KC2 := Lib.hid kC
  have kS := ((KS1.out).alloc _).below hb2 ((KS1.out).alloc _).lt
  obtain ⟨xS2, yS2⟩ := kS.facts
  have zS2 := kS.lt
  have KS2 := Lib.hid kS
  have kE := ((KE1.out).alloc _).below hb2 ((KE1.out).alloc _).lt
  obtain ⟨xE2, yE2⟩ := kE.facts
  have zE2 := kE.lt
  have KE2 := Lib.hid kE
  have HB2 := Lib.hid (((HB1.out).alloc (HB1.out).size _).trans (hb2.mono ((HB1.out).alloc (HB1.out).size _).size))
  clear hb2 kC kS kE
  go_wp2_with fail
  refine (HOK.out _ (HB2.out)).mono ?_
  rintro e w3 ⟨A3, c3, rfl, hst3, hb3⟩
  have HST3 := Lib.hid hst3
  clear hst3
  clear xC2 yC2 zC2 xS2 yS2 zS2 xE2 yE2 zE2
  have kC := (KC2.out).below hb3 (KC2.out).lt
  obtain ⟨xC3, yC3⟩ := kC.facts
  have zC3 := kC.lt
  have KC3 := Lib.hid kC
  have kS := (KS2.out).below hb3 (KS2.out).lt
  obtain ⟨xS3, yS3⟩ := kS.facts
  have zS3 := kS.lt
  have KS3 := Lib.hid kS
  have kE := (KE2.out).below hb3 (KE2.out).lt
  obtain ⟨xE3, yE3⟩ := kE.facts
  have zE3 := kE.lt
  have KE3 := Lib.hid kE
  have HB3 := Lib.hid ((HB2.out).trans (hb3.mono (HB2.out).size))
  clear hb3 kC kS kE
  go_wp2_with fail
  refine (HVL.out (.slice A l.length cs) l w (Below.refl _ _) HST.out HL5.out HSH.out _ ((HB3.out).alloc (HB3.out).size _)).mono ?_
  rintro e w4 ⟨rfl, hb4⟩
  rw [HV.out]
  have HST3 := Lib.hid (HST3.out.below (((Below.refl w3.heap.size w3).alloc (Nat.le_refl _) _).trans (hb4.mono (by simp))))
  clear xC3 yC3 zC3 xS3 yS3 zS3 xE3 yE3 zE3
  have kC := ((KC3.out).alloc _).below hb4 ((KC3.out).alloc _).lt
  obtain ⟨xC4, yC4⟩ := kC.facts
  have zC4 := kC.lt
  have KC4 := Lib.hid kC
  have kS := ((KS3.out).alloc _).below hb4 ((KS3.out).alloc _).lt
  obtain ⟨xS4, yS4⟩ := kS.facts
  have zS4 := kS.lt
  have KS4 := Lib.hid kS
  have kE := ((KE3.out).alloc _).below hb4 ((KE3.out).alloc _).lt
  obtain ⟨xE4, yE4⟩ := kE.facts
  have zE4 := kE.lt
  have KE4 := Lib.hid kE
  have kT := (Has.new (w3) 27 #[.slice A3 t.length c3]).below hb4 (Has.new (w3) 27 #[.slice A3 t.length c3]).lt
  obtain ⟨xT4, yT4⟩ := kT.facts
  have zT4 := kT.lt
  have KT4 := Lib.hid kT
  have HB4 := Lib.hid (((HB3.out).alloc (HB3.out).size _).trans (hb4.mono ((HB3.out).alloc (HB3.out).size _).size))
  clear hb4 kC kS kE kT
  go_wp2_with fail
  refine (valid_any ⟨op, day, part, kind, into, slot, key, value, ukl, ukh, ucl, uch, ull, ulh⟩ _ HEV.out).mono ?_
  rintro e w5 ⟨rfl, hb5⟩
  rw [HOKE.out]
  have HST3 := Lib.hid (HST3.out.below hb5)
  clear xC4 yC4 zC4 xS4 yS4 zS4 xE4 yE4 zE4 xT4 yT4 zT4
  have kC := (KC4.out).below hb5 (KC4.out).lt
  obtain ⟨xC5, yC5⟩ := kC.facts
  have zC5 := kC.lt
  have KC5 := Lib.hid kC
  have kS := (KS4.out).below hb5 (KS4.out).lt
  obtain ⟨xS5, yS5⟩ := kS.facts
  have zS5 := kS.lt
  have KS5 := Lib.hid kS
  have kE := (KE4.out).below hb5 (KE4.out).lt
  obtain ⟨xE5, yE5⟩ := kE.facts
  have zE5 := kE.lt
  have KE5 := Lib.hid kE
  have kT := (KT4.out).below hb5 (KT4.out).lt
  obtain ⟨xT5, yT5⟩ := kT.facts
  have zT5 := kT.lt
  have KT5 := Lib.hid kT
  have HB5 := Lib.hid ((HB4.out).trans (hb5.mono (HB4.out).size))
  clear hb5 kC kS kE kT
  go_wp2_with fail
  refine (HVL.out (.slice A3 t.length c3) t w5 HB5.out HST3.out HTL5.out HTL.out.2 _ (Below.refl _ _)).mono ?_
  rintro e w6 ⟨rfl, hb6⟩
  rw [HVT.out]
  have HST3 := Lib.hid (HST3.out.below hb6)
  clear xC5 yC5 zC5 xS5 yS5 zS5 xE5 yE5 zE5 xT5 yT5 zT5
  have kC := (KC5.out).below hb6 (KC5.out).lt
  obtain ⟨xC6, yC6⟩ := kC.facts
  have zC6 := kC.lt
  have KC6 := Lib.hid kC
  have kS := (KS5.out).below hb6 (KS5.out).lt
  obtain ⟨xS6, yS6⟩ := kS.facts
  have zS6 := kS.lt
  have KS6 := Lib.hid kS
  have kE := (KE5.out).below hb6 (KE5.out).lt
  obtain ⟨xE6, yE6⟩ := kE.facts
  have zE6 := kE.lt
  have KE6 := Lib.hid kE
  have kT := (KT5.out).below hb6 (KT5.out).lt
  obtain ⟨xT6, yT6⟩ := kT.facts
  have zT6 := kT.lt
  have KT6 := Lib.hid kT
  have HB6 := Lib.hid ((HB5.out).trans (hb6.mono (HB5.out).size))
  clear hb6 kC kS kE kT
  go_wp2_with fail
  refine (HVL.out (.slice none 0 0) [] w6 HB6.out (Rd.nil none 0) (by simp) (fun _ h => absurd h List.not_mem_nil) _ (Below.refl _ _)).mono ?_
  rintro e w7 ⟨rfl, hb7⟩
  rw [HV0.out]
  have HST3 := Lib.hid (HST3.out.below hb7)
  clear xC6 yC6 zC6 xS6 yS6 zS6 xE6 yE6 zE6 xT6 yT6 zT6
  have kC := (KC6.out).below hb7 (KC6.out).lt
  obtain ⟨xC7, yC7⟩ := kC.facts
  have zC7 := kC.lt
  have KC7 := Lib.hid kC
  have kS := (KS6.out).below hb7 (KS6.out).lt
  obtain ⟨xS7, yS7⟩ := kS.facts
  have zS7 := kS.lt
  have KS7 := Lib.hid kS
  have kE := (KE6.out).below hb7 (KE6.out).lt
  obtain ⟨xE7, yE7⟩ := kE.facts
  have zE7 := kE.lt
  have KE7 := Lib.hid kE
  have kT := (KT6.out).below hb7 (KT6.out).lt
  obtain ⟨xT7, yT7⟩ := kT.facts
  have zT7 := kT.lt
  have KT7 := Lib.hid kT
  have HB7 := Lib.hid ((HB6.out).trans (hb7.mono (HB6.out).size))
  clear hb7 kC kS kE kT
  go_wp2_with fail
  have HFT := Lib.hid (fun x W (h : Below w7.heap.size w7 W) => fpart_any w7 (.slice A3 t.length c3) t x W h HST3.out (by have := HTL.out.1; omega))
  clear xC7 yC7 zC7 xS7 yS7 zS7 xE7 yE7 zE7 xT7 yT7 zT7
  go_loopw [10] (fun i wr => ∃ k : Nat, k ≤ l.length ∧ i = .int .i64 k ∧ Hid (Has wr (w.heap.size + 1) 27 #[.slice A l.length cs]) ∧ Hid (Has wr (w.heap.size + 1 + 1) 33 #[.int .i64 op, .int .i64 day, .string part, .string kind, .string into, .string slot, .string key, .string value, .int .i64 ukl, .int .i64 ukh, .int .i64 ucl, .int .i64 uch, .int .i64 ull, .int .i64 ulh]) ∧ Hid (Has wr (w3.heap.size) 27 #[.slice A3 t.length c3]) ∧ Hid (Below w7.heap.size w7 wr)) (fun i _ => l.length - (intOf i).toNat)
  case atStart => exact ⟨0, Nat.zero_le _, rfl, KS7.out, KE7.out, KT7.out, Below.refl _ _⟩
  case round =>
    obtain ⟨k, hk, rfl, KS8, KE8, KT8, HBB⟩ := hrel
    obtain ⟨w8, rfl⟩ : ∃ w8, w8 = wr := ⟨_, rfl⟩
    have HB8 := Lib.hid (HB7.out.trans (HBB.out.mono HB7.out.size))
    obtain ⟨xS8, yS8⟩ := KS8.out.facts
    obtain ⟨xE8, yE8⟩ := KE8.out.facts
    obtain ⟨xT8, yT8⟩ := KT8.out.facts
    by_cases hlt : k < l.length
    · obtain ⟨b0, o0, c', cs', he, _, ⟨sv', rfl, hp1⟩, _, hrg⟩ := HST.out.get hlt noPa
      injection he with e1 e2 e3
      subst e1; subst e3
      obtain ⟨A2, c2, rfl, hn2⟩ := hp1.form
      have hmem := getD_mem l k noPa hlt
      have hki : (k : Int) < (l.length : Int) := by omega
      have hk0 : (0 : Int) ≤ (k : Int) := by omega
      have hl20 : l.length ≤ 20000 := HL.out
      have HPQ := Lib.hid hp1
      have HRG := Lib.hid hrg
      obtain ⟨qq, hq1, hq2⟩ := HCH.out _ hmem
      have HQ2 := Lib.hid hq2
      have HPP := Lib.hid (HPR.out _ hmem)
      have HF := Lib.hid (fun W h => HFT.out (l.getD k noPa).name W h)
      rw [hq1] at HF
      clear hp1 hrg hq1 hq2 hmem
      generalize l.getD k noPa = pp at *
      obtain ⟨pname, pkind, pinto, pslot, pmade, psince, pgone, pprops, pkl, pkh, pcl, pch, pdl, pdh⟩ := pp
      obtain ⟨qname, qkind, qinto, qslot, qmade, qsince, qgone, qprops, qkl, qkh, qcl, qch, qdl, qdh⟩ := qq
      simp only [Option.getD_some, Option.isSome_some] at HF
      dsimp only at HPP HQ2 HPQ hn2
      have hrg8 : w8.rangeAt b0 (o0 + k * 14) [.string pname, .string pkind, .string pinto, .string pslot, .int .i64 pmade, .int .i64 psince, .bool pgone, .slice A2 pprops.length c2, .int .i64 pkl, .int .i64 pkh, .int .i64 pcl, .int .i64 pch, .int .i64 pdl, .int .i64 pdh] := range_later HRG.out HB8.out
      obtain ⟨y0, y1, y2, y3, y4, y5, y6, y7, y8, y9, y10, y11, y12, y13⟩ := part_facts hrg8
      clear hrg8
      cases hne : (pname.toList != part.toList)
      · have hne2 : (pname.toList == part.toList) = true := by simpa using hne
        have HKr := Lib.hid (fun W (h : Below w8.heap.size w8 W) => (⟨h, (KT8.out.below h KT8.out.lt).facts.1, (KS8.out.below h KS8.out.lt).facts.1, cell_later h y0⟩ : Below w8.heap.size w8 W ∧ (∀ o, World.cell? W ⟨w3.heap.size, o, none⟩ = (#[.slice A3 t.length c3] : Array Value)[o]?) ∧ (∀ o, World.cell? W ⟨w.heap.size + 1, o, none⟩ = (#[.slice (some ⟨b0, o0, none⟩) l.length cs] : Array Value)[o]?) ∧ World.cell? W ⟨b0, o0 + k * 14, none⟩ = some (.string pname)))
        have hbr : Below w8.heap.size w8 w8.drew := (Below.refl _ _).drew
        go_wp2_with fail
        refine wp_region_held_drew (S := fun W => Below w8.heap.size w8 W ∧ (∀ o, World.cell? W ⟨w3.heap.size, o, none⟩ = (#[.slice A3 t.length c3] : Array Value)[o]?) ∧ (∀ o, World.cell? W ⟨w.heap.size + 1, o, none⟩ = (#[.slice (some ⟨b0, o0, none⟩) l.length cs] : Array Value)[o]?) ∧ World.cell? W ⟨b0, o0 + k * 14, none⟩ = some (.string pname)) (by kernel_rfl) (HKr.out _ hbr) (fun hHeld => ?_)
        refine wpAnyH_take (i := 0) (oi := ⟨_, _, _, _, _, _⟩) (v := ?_) rfl (by kernel_rfl) (by kernel_rfl) (by kernel_rfl) (fun _ _ _ h => h) (Or.inl ⟨by rfl, ?_⟩) (by assumption) ?_
        rotate_left
        · intro W hSW; (try dsimp only at hSW); go_simp; all_goals (with_reducible rfl)
        try simp only [Act.put, List.setIfInBounds_toArray, List.set_cons_zero, List.set_cons_succ]
        refine wpAnyH_take (i := 1) (oi := ⟨_, _, _, _, _, _⟩) (v := ?_) rfl (by kernel_rfl) (by kernel_rfl) (by kernel_rfl) (fun _ _ _ h => h) (Or.inl ⟨by rfl, ?_⟩) (by assumption) ?_
        rotate_left
        · intro W hSW; (try dsimp only at hSW); go_simp; all_goals (with_reducible rfl)
        try simp only [Act.put, List.setIfInBounds_toArray, List.set_cons_zero, List.set_cons_succ]
        refine wpAnyH_take (i := 2) (oi := ⟨_, _, _, _, _, _⟩) (v := ?_) rfl (by kernel_rfl) (by kernel_rfl) (by kernel_rfl) (fun _ _ _ h => h) (Or.inl ⟨by rfl, ?_⟩) (by assumption) ?_
        rotate_left
        · intro W hSW; (try dsimp only at hSW); go_simp; all_goals (with_reducible rfl)
        try simp only [Act.put, List.setIfInBounds_toArray, List.set_cons_zero, List.set_cons_succ]
        refine wpAnyH_take (i := 3) (oi := ⟨_, _, _, _, _, _⟩) (v := ?_) rfl (by kernel_rfl) (by kernel_rfl) (by kernel_rfl) (fun _ _ _ h => h) (Or.inl ⟨by rfl, ?_⟩) (by assumption) ?_
        rotate_left
        · intro W hSW; (try dsimp only at hSW); go_simp; all_goals (with_reducible rfl)
        try simp only [Act.put, List.setIfInBounds_toArray, List.set_cons_zero, List.set_cons_succ]
        refine wpAnyH_take (i := 4) (oi := ⟨_, _, _, _, _, _⟩) (v := ?_) rfl (by kernel_rfl) (by kernel_rfl) (by kernel_rfl) (fun _ _ _ h => h) (Or.inl ⟨by rfl, ?_⟩) (by assumption) ?_
        rotate_left
        · intro W hSW; (try dsimp only at hSW); go_simp; all_goals (with_reducible rfl)
        try simp only [Act.put, List.setIfInBounds_toArray, List.set_cons_zero, List.set_cons_succ]
        refine wpAnyH_take (i := 5) (oi := ⟨_, _, _, _, _, _⟩) (v := ?_) rfl (by kernel_rfl) (by kernel_rfl) (by kernel_rfl) (fun _ _ _ h => h) (Or.inl ⟨by rfl, ?_⟩) (by assumption) ?_
        rotate_left
        · intro W hSW; (try dsimp only at hSW); go_simp; all_goals (with_reducible rfl)
        try simp only [Act.put, List.setIfInBounds_toArray, List.set_cons_zero, List.set_cons_succ]
        refine wpAnyH_take (i := 6) (oi := ⟨_, _, _, _, _, _⟩) (v := ?_) rfl (by kernel_rfl) (by kernel_rfl) (by kernel_rfl) (fun _ _ _ h => h) (Or.inl ⟨by rfl, ?_⟩) (by assumption) ?_
        rotate_left
        · intro W hSW; (try dsimp only at hSW); go_simp; all_goals (with_reducible rfl)
        try simp only [Act.put, List.setIfInBounds_toArray, List.set_cons_zero, List.set_cons_succ]
        refine wpAnyH_ready (rs := [7, 11]) (by kernel_rfl) (by simp) ?_
        refine AllReadyH.cons (o := ⟨_, _, _, _, _, _⟩) rfl (fun K hK => ?_) ?_
        · go_simp
          refine (HF.out _ (HBB.out.trans (hbr.mono HBB.out.size))).mono ?_
          rintro e w9 ⟨A4, m4, rfl, hpr9, hb9⟩
          have HPR9 := Lib.hid hpr9
          have hbw9 : Below w8.heap.size w8 w9 := hbr.trans hb9
          clear hb9 hpr9
          refine hK.out _ _ (HKr.out _ hbw9) (fun hHeld => ?_)
          clear hK K
          try simp only [Act.put, List.setIfInBounds_toArray, List.set_cons_zero, List.set_cons_succ]
          refine wpAnyH_take (i := 8) (oi := ⟨_, _, _, _, _, _⟩) (v := ?_) rfl (by kernel_rfl) (by kernel_rfl) (by kernel_rfl) (fun _ _ _ h => h) (Or.inl ⟨by rfl, ?_⟩) (by assumption) ?_
          rotate_left
          · intro W hSW; (try dsimp only at hSW); go_simp; all_goals (with_reducible rfl)
          try simp only [Act.put, List.setIfInBounds_toArray, List.set_cons_zero, List.set_cons_succ]
          refine wpAnyH_take (i := 9) (oi := ⟨_, _, _, _, _, _⟩) (v := ?_) rfl (by kernel_rfl) (by kernel_rfl) (by kernel_rfl) (fun _ _ _ h => h) (Or.inl ⟨by rfl, ?_⟩) (by assumption) ?_
          rotate_left
          · intro W hSW; (try dsimp only at hSW); go_simp; all_goals (with_reducible rfl)
          try simp only [Act.put, List.setIfInBounds_toArray, List.set_cons_zero, List.set_cons_succ]
          refine wpAnyH_take (i := 10) (oi := ⟨_, _, _, _, _, _⟩) (v := ?_) rfl (by kernel_rfl) (by kernel_rfl) (by kernel_rfl) (fun _ _ _ h => h) (Or.inl ⟨by rfl, ?_⟩) (by assumption) ?_
          rotate_left
          · intro W hSW; (try dsimp only at hSW); go_simp; all_goals (with_reducible rfl)
          try simp only [Act.put, List.setIfInBounds_toArray, List.set_cons_zero, List.set_cons_succ]
          refine wpAnyH_ready (rs := [11]) (by kernel_rfl) (by simp) ?_
          refine AllReadyH.cons (o := ⟨_, _, _, _, _, _⟩) rfl (fun K hK => ?_) AllReadyH.nil
          go_simp
          refine hK.out _ _ (HKr.out _ (hbw9.alloc hbw9.size (.cells #[.string ⟨#[]⟩, .string ⟨#[]⟩, .string ⟨#[]⟩, .string ⟨#[]⟩, .int .i64 0, .int .i64 0, .bool false, .slice none 0 0, .int .i64 0, .int .i64 0, .int .i64 0, .int .i64 0, .int .i64 0, .int .i64 0] 47))) (fun hHeld => ?_)
          clear hK K
          try simp only [Act.put, List.setIfInBounds_toArray, List.set_cons_zero, List.set_cons_succ]
          refine wpAnyH_ready (rs := [12]) (by kernel_rfl) (by simp) ?_
          refine AllReadyH.cons (o := ⟨_, _, _, _, _, _⟩) rfl (fun K hK => ?_) AllReadyH.nil
          have HT9 := Lib.hid (thereH (n := 14) (Has.new w9 47 #[.string ⟨#[]⟩, .string ⟨#[]⟩, .string ⟨#[]⟩, .string ⟨#[]⟩, .int .i64 0, .int .i64 0, .bool false, .slice none 0 0, .int .i64 0, .int .i64 0, .int .i64 0, .int .i64 0, .int .i64 0, .int .i64 0]) (by simp))
          obtain ⟨w10, hWe, hW10, hB10⟩ := stored (Has.new w9 47 #[.string ⟨#[]⟩, .string ⟨#[]⟩, .string ⟨#[]⟩, .string ⟨#[]⟩, .int .i64 0, .int .i64 0, .bool false, .slice none 0 0, .int .i64 0, .int .i64 0, .int .i64 0, .int .i64 0, .int .i64 0, .int .i64 0]) (hbw9.alloc hbw9.size (.cells #[.string ⟨#[]⟩, .string ⟨#[]⟩, .string ⟨#[]⟩, .string ⟨#[]⟩, .int .i64 0, .int .i64 0, .bool false, .slice none 0 0, .int .i64 0, .int .i64 0, .int .i64 0, .int .i64 0, .int .i64 0, .int .i64 0] 47)) hbw9.size #[.string qname, .string qkind, .string qinto, .string qslot, .int .i64 qmade, .int .i64 qsince, .bool qgone, .slice A4 qprops.length m4, .int .i64 qkl, .int .i64 qkh, .int .i64 qcl, .int .i64 qch, .int .i64 qdl, .int .i64 qdh] rfl
          rw [if_pos (by rfl)]
          refine wp_store_mid 47 _ _ rfl w9.heap.size 0 #[.string qname, .string qkind, .string qinto, .string qslot, .int .i64 qmade, .int .i64 qsince, .bool qgone, .slice A4 qprops.length m4, .int .i64 qkl, .int .i64 qkh, .int .i64 qcl, .int .i64 qch, .int .i64 qdl, .int .i64 qdh] rfl rfl HT9.out sizePt (onePt ..) ?_
          rw [hWe]
          simp only [Act.put]
          refine hK.out _ _ (HKr.out _ hB10) (fun hHeld => ?_)
          clear hK K
          try simp only [Act.put, List.setIfInBounds_toArray, List.set_cons_zero, List.set_cons_succ]
          refine wpAnyH_take (i := 13) (oi := ⟨_, _, _, _, _, _⟩) (v := ?_) rfl (by kernel_rfl) (by kernel_rfl) (by kernel_rfl) (fun _ _ _ h => h) (Or.inl ⟨by rfl, ?_⟩) (by assumption) ?_
          rotate_left
          · intro W hSW; (try dsimp only at hSW); go_simp; all_goals (with_reducible rfl)
          try simp only [Act.put, List.setIfInBounds_toArray, List.set_cons_zero, List.set_cons_succ]
          refine wpAnyH_done (by kernel_rfl) ?_ _
          have HP10 := Lib.hid hW10
          have HB10 := Lib.hid hB10
          clear hW10 hB10 HKr hbr
          obtain ⟨xP, yP⟩ := HP10.out.facts
          have HS10 := Lib.hid (KS8.out.below HB10.out KS8.out.lt)
          have HE10 := Lib.hid (KE8.out.below HB10.out KE8.out.lt)
          obtain ⟨xS9, yS9⟩ := HS10.out.facts
          obtain ⟨xE9, yE9⟩ := HE10.out.facts
          obtain ⟨z0, z1, z2, z3, z4, z5, z6, z7, z8, z9, z10, z11, z12, z13⟩ := part_facts (range_later HRG.out (HB8.out.trans (HB10.out.mono HB8.out.size)))
          clear xS8 yS8 xE8 yE8 xT8 yT8 y0 y1 y2 y3 y4 y5 y6 y7 y8 y9 y10 y11 y12 y13
          have HKs := Lib.hid (fun W (h : Below w10.heap.size w10 W) => (⟨HB10.out.trans (h.mono HB10.out.size), (HS10.out.below h HS10.out.lt).facts.1, (HE10.out.below h HE10.out.lt).facts.1, (HP10.out.below h HP10.out.lt).facts.1, cell_later h z0, cell_later h z1, cell_later h z2, cell_later h z3, cell_later h z4, cell_later h z5, cell_later h z6, cell_later h z7, cell_later h z8, cell_later h z9, cell_later h z10, cell_later h z11, cell_later h z12, cell_later h z13⟩ : Below w8.heap.size w8 W ∧ (∀ o, World.cell? W ⟨w.heap.size + 1, o, none⟩ = (#[.slice (some ⟨b0, o0, none⟩) l.length cs] : Array Value)[o]?) ∧ (∀ o, World.cell? W ⟨w.heap.size + 1 + 1, o, none⟩ = (#[.int .i64 op, .int .i64 day, .string part, .string kind, .string into, .string slot, .string key, .string value, .int .i64 ukl, .int .i64 ukh, .int .i64 ucl, .int .i64 uch, .int .i64 ull, .int .i64 ulh] : Array Value)[o]?) ∧ (∀ o, World.cell? W ⟨w9.heap.size, o, none⟩ = (#[.string qname, .string qkind, .string qinto, .string qslot, .int .i64 qmade, .int .i64 qsince, .bool qgone, .slice A4 qprops.length m4, .int .i64 qkl, .int .i64 qkh, .int .i64 qcl, .int .i64 qch, .int .i64 qdl, .int .i64 qdh] : Array Value)[o]?) ∧ World.cell? W ⟨b0, o0 + k * 14, none⟩ = some (.string pname) ∧ World.cell? W ⟨b0, o0 + k * 14 + 1, none⟩ = some (.string pkind) ∧ World.cell? W ⟨b0, o0 + k * 14 + 2, none⟩ = some (.string pinto) ∧ World.cell? W ⟨b0, o0 + k * 14 + 3, none⟩ = some (.string pslot) ∧ World.cell? W ⟨b0, o0 + k * 14 + 4, none⟩ = some (.int .i64 pmade) ∧ World.cell? W ⟨b0, o0 + k * 14 + 5, none⟩ = some (.int .i64 psince) ∧ World.cell? W ⟨b0, o0 + k * 14 + 6, none⟩ = some (.bool pgone) ∧ World.cell? W ⟨b0, o0 + k * 14 + 7, none⟩ = some (.slice A2 pprops.length c2) ∧ World.cell? W ⟨b0, o0 + k * 14 + 8, none⟩ = some (.int .i64 pkl) ∧ World.cell? W ⟨b0, o0 + k * 14 + 9, none⟩ = some (.int .i64 pkh) ∧ World.cell? W ⟨b0, o0 + k * 14 + 10, none⟩ = some (.int .i64 pcl) ∧ World.cell? W ⟨b0, o0 + k * 14 + 11, none⟩ = some (.int .i64 pch) ∧ World.cell? W ⟨b0, o0 + k * 14 + 12, none⟩ = some (.int .i64 pdl) ∧ World.cell? W ⟨b0, o0 + k * 14 + 13, none⟩ = some (.int .i64 pdh)))
          go_wp2_with fail
          refine wp_region_held_drew (S := fun W => Below w8.heap.size w8 W ∧ (∀ o, World.cell? W ⟨w.heap.size + 1, o, none⟩ = (#[.slice (some ⟨b0, o0, none⟩) l.length cs] : Array Value)[o]?) ∧ (∀ o, World.cell? W ⟨w.heap.size + 1 + 1, o, none⟩ = (#[.int .i64 op, .int .i64 day, .string part, .string kind, .string into, .string slot, .string key, .string value, .int .i64 ukl, .int .i64 ukh, .int .i64 ucl, .int .i64 uch, .int .i64 ull, .int .i64 ulh] : Array Value)[o]?) ∧ (∀ o, World.cell? W ⟨w9.heap.size, o, none⟩ = (#[.string qname, .string qkind, .string qinto, .string qslot, .int .i64 qmade, .int .i64 qsince, .bool qgone, .slice A4 qprops.length m4, .int .i64 qkl, .int .i64 qkh, .int .i64 qcl, .int .i64 qch, .int .i64 qdl, .int .i64 qdh] : Array Value)[o]?) ∧ World.cell? W ⟨b0, o0 + k * 14, none⟩ = some (.string pname) ∧ World.cell? W ⟨b0, o0 + k * 14 + 1, none⟩ = some (.string pkind) ∧ World.cell? W ⟨b0, o0 + k * 14 + 2, none⟩ = some (.string pinto) ∧ World.cell? W ⟨b0, o0 + k * 14 + 3, none⟩ = some (.string pslot) ∧ World.cell? W ⟨b0, o0 + k * 14 + 4, none⟩ = some (.int .i64 pmade) ∧ World.cell? W ⟨b0, o0 + k * 14 + 5, none⟩ = some (.int .i64 psince) ∧ World.cell? W ⟨b0, o0 + k * 14 + 6, none⟩ = some (.bool pgone) ∧ World.cell? W ⟨b0, o0 + k * 14 + 7, none⟩ = some (.slice A2 pprops.length c2) ∧ World.cell? W ⟨b0, o0 + k * 14 + 8, none⟩ = some (.int .i64 pkl) ∧ World.cell? W ⟨b0, o0 + k * 14 + 9, none⟩ = some (.int .i64 pkh) ∧ World.cell? W ⟨b0, o0 + k * 14 + 10, none⟩ = some (.int .i64 pcl) ∧ World.cell? W ⟨b0, o0 + k * 14 + 11, none⟩ = some (.int .i64 pch) ∧ World.cell? W ⟨b0, o0 + k * 14 + 12, none⟩ = some (.int .i64 pdl) ∧ World.cell? W ⟨b0, o0 + k * 14 + 13, none⟩ = some (.int .i64 pdh)) (by kernel_rfl) (HKs.out _ (Below.refl w10.heap.size w10).drew) (fun hHeld => ?_)
          refine wpAnyH_take (i := 0) (oi := ⟨_, _, _, _, _, _⟩) (v := ?_) rfl (by kernel_rfl) (by kernel_rfl) (by kernel_rfl) (fun _ _ _ h => h) (Or.inl ⟨by rfl, ?_⟩) (by assumption) ?_
          rotate_left
          · intro W hSW; (try dsimp only at hSW); go_simp; all_goals (with_reducible rfl)
          try simp only [Act.put, List.setIfInBounds_toArray, List.set_cons_zero, List.set_cons_succ]
          refine wpAnyH_take (i := 1) (oi := ⟨_, _, _, _, _, _⟩) (v := ?_) rfl (by kernel_rfl) (by kernel_rfl) (by kernel_rfl) (fun _ _ _ h => h) (Or.inl ⟨by rfl, ?_⟩) (by assumption) ?_
          rotate_left
          · intro W hSW; (try dsimp only at hSW); go_simp; all_goals (with_reducible rfl)
          try simp only [Act.put, List.setIfInBounds_toArray, List.set_cons_zero, List.set_cons_succ]
          refine wpAnyH_take (i := 2) (oi := ⟨_, _, _, _, _, _⟩) (v := ?_) rfl (by kernel_rfl) (by kernel_rfl) (by kernel_rfl) (fun _ _ _ h => h) (Or.inl ⟨by rfl, ?_⟩) (by assumption) ?_
          rotate_left
          · intro W hSW; (try dsimp only at hSW); go_simp; all_goals (with_reducible rfl)
          try simp only [Act.put, List.setIfInBounds_toArray, List.set_cons_zero, List.set_cons_succ]
          refine wpAnyH_take (i := 3) (oi := ⟨_, _, _, _, _, _⟩) (v := ?_) rfl (by kernel_rfl) (by kernel_rfl) (by kernel_rfl) (fun _ _ _ h => h) (Or.inl ⟨by rfl, ?_⟩) (by assumption) ?_
          rotate_left
          · intro W hSW; (try dsimp only at hSW); go_simp; all_goals (with_reducible rfl)
          try simp only [Act.put, List.setIfInBounds_toArray, List.set_cons_zero, List.set_cons_succ]
          refine wpAnyH_take (i := 4) (oi := ⟨_, _, _, _, _, _⟩) (v := ?_) rfl (by kernel_rfl) (by kernel_rfl) (by kernel_rfl) (fun _ _ _ h => h) (Or.inl ⟨by rfl, ?_⟩) (by assumption) ?_
          rotate_left
          · intro W hSW; (try dsimp only at hSW); go_simp; all_goals (with_reducible rfl)
          try simp only [Act.put, List.setIfInBounds_toArray, List.set_cons_zero, List.set_cons_succ]
          refine wpAnyH_take (i := 5) (oi := ⟨_, _, _, _, _, _⟩) (v := ?_) rfl (by kernel_rfl) (by kernel_rfl) (by kernel_rfl) (fun _ _ _ h => h) (Or.inl ⟨by rfl, ?_⟩) (by assumption) ?_
          rotate_left
          · intro W hSW; (try dsimp only at hSW); go_simp; all_goals (with_reducible rfl)
          try simp only [Act.put, List.setIfInBounds_toArray, List.set_cons_zero, List.set_cons_succ]
          refine wpAnyH_take (i := 6) (oi := ⟨_, _, _, _, _, _⟩) (v := ?_) rfl (by kernel_rfl) (by kernel_rfl) (by kernel_rfl) (fun _ _ _ h => h) (Or.inl ⟨by rfl, ?_⟩) (by assumption) ?_
          rotate_left
          · intro W hSW; (try dsimp only at hSW); go_simp; all_goals (with_reducible rfl)
          try simp only [Act.put, List.setIfInBounds_toArray, List.set_cons_zero, List.set_cons_succ]
          refine wpAnyH_take (i := 7) (oi := ⟨_, _, _, _, _, _⟩) (v := ?_) rfl (by kernel_rfl) (by kernel_rfl) (by kernel_rfl) (fun _ _ _ h => h) (Or.inl ⟨by rfl, ?_⟩) (by assumption) ?_
          rotate_left
          · intro W hSW; (try dsimp only at hSW); go_simp; all_goals (with_reducible rfl)
          try simp only [Act.put, List.setIfInBounds_toArray, List.set_cons_zero, List.set_cons_succ]
          refine wpAnyH_take (i := 8) (oi := ⟨_, _, _, _, _, _⟩) (v := ?_) rfl (by kernel_rfl) (by kernel_rfl) (by kernel_rfl) (fun _ _ _ h => h) (Or.inl ⟨by rfl, ?_⟩) (by assumption) ?_
          rotate_left
          · intro W hSW; (try dsimp only at hSW); go_simp; all_goals (with_reducible rfl)
          try simp only [Act.put, List.setIfInBounds_toArray, List.set_cons_zero, List.set_cons_succ]
          refine wpAnyH_take (i := 9) (oi := ⟨_, _, _, _, _, _⟩) (v := ?_) rfl (by kernel_rfl) (by kernel_rfl) (by kernel_rfl) (fun _ _ _ h => h) (Or.inl ⟨by rfl, ?_⟩) (by assumption) ?_
          rotate_left
          · intro W hSW; (try dsimp only at hSW); go_simp; all_goals (with_reducible rfl)
          try simp only [Act.put, List.setIfInBounds_toArray, List.set_cons_zero, List.set_cons_succ]
          refine wpAnyH_take (i := 10) (oi := ⟨_, _, _, _, _, _⟩) (v := ?_) rfl (by kernel_rfl) (by kernel_rfl) (by kernel_rfl) (fun _ _ _ h => h) (Or.inl ⟨by rfl, ?_⟩) (by assumption) ?_
          rotate_left
          · intro W hSW; (try dsimp only at hSW); go_simp; all_goals (with_reducible rfl)
          try simp only [Act.put, List.setIfInBounds_toArray, List.set_cons_zero, List.set_cons_succ]
          refine wpAnyH_take (i := 11) (oi := ⟨_, _, _, _, _, _⟩) (v := ?_) rfl (by kernel_rfl) (by kernel_rfl) (by kernel_rfl) (fun _ _ _ h => h) (Or.inl ⟨by rfl, ?_⟩) (by assumption) ?_
          rotate_left
          · intro W hSW; (try dsimp only at hSW); go_simp; all_goals (with_reducible rfl)
          try simp only [Act.put, List.setIfInBounds_toArray, List.set_cons_zero, List.set_cons_succ]
          refine wpAnyH_take (i := 12) (oi := ⟨_, _, _, _, _, _⟩) (v := ?_) rfl (by kernel_rfl) (by kernel_rfl) (by kernel_rfl) (fun _ _ _ h => h) (Or.inl ⟨by rfl, ?_⟩) (by assumption) ?_
          rotate_left
          · intro W hSW; (try dsimp only at hSW); go_simp; all_goals (with_reducible rfl)
          try simp only [Act.put, List.setIfInBounds_toArray, List.set_cons_zero, List.set_cons_succ]
          refine wpAnyH_take (i := 13) (oi := ⟨_, _, _, _, _, _⟩) (v := undef) rfl (by kernel_rfl) (by kernel_rfl) (by kernel_rfl) (fun _ _ _ h => h) (Or.inr ⟨by kernel_rfl, rfl⟩) (by assumption) ?_
          try simp only [Act.put, List.setIfInBounds_toArray, List.set_cons_zero, List.set_cons_succ]
          refine wpAnyH_take (i := 14) (oi := ⟨_, _, _, _, _, _⟩) (v := undef) rfl (by kernel_rfl) (by kernel_rfl) (by kernel_rfl) (fun _ _ _ h => h) (Or.inr ⟨by kernel_rfl, rfl⟩) (by assumption) ?_
          try simp only [Act.put, List.setIfInBounds_toArray, List.set_cons_zero, List.set_cons_succ]
          refine wpAnyH_take (i := 15) (oi := ⟨_, _, _, _, _, _⟩) (v := undef) rfl (by kernel_rfl) (by kernel_rfl) (by kernel_rfl) (fun _ _ _ h => h) (Or.inr ⟨by kernel_rfl, rfl⟩) (by assumption) ?_
          try simp only [Act.put, List.setIfInBounds_toArray, List.set_cons_zero, List.set_cons_succ]
          refine wpAnyH_take (i := 16) (oi := ⟨_, _, _, _, _, _⟩) (v := undef) rfl (by kernel_rfl) (by kernel_rfl) (by kernel_rfl) (fun _ _ _ h => h) (Or.inr ⟨by kernel_rfl, rfl⟩) (by assumption) ?_
          try simp only [Act.put, List.setIfInBounds_toArray, List.set_cons_zero, List.set_cons_succ]
          refine wpAnyH_take (i := 17) (oi := ⟨_, _, _, _, _, _⟩) (v := undef) rfl (by kernel_rfl) (by kernel_rfl) (by kernel_rfl) (fun _ _ _ h => h) (Or.inr ⟨by kernel_rfl, rfl⟩) (by assumption) ?_
          try simp only [Act.put, List.setIfInBounds_toArray, List.set_cons_zero, List.set_cons_succ]
          refine wpAnyH_take (i := 18) (oi := ⟨_, _, _, _, _, _⟩) (v := undef) rfl (by kernel_rfl) (by kernel_rfl) (by kernel_rfl) (fun _ _ _ h => h) (Or.inr ⟨by kernel_rfl, rfl⟩) (by assumption) ?_
          try simp only [Act.put, List.setIfInBounds_toArray, List.set_cons_zero, List.set_cons_succ]
          refine wpAnyH_take (i := 19) (oi := ⟨_, _, _, _, _, _⟩) (v := undef) rfl (by kernel_rfl) (by kernel_rfl) (by kernel_rfl) (fun _ _ _ h => h) (Or.inr ⟨by kernel_rfl, rfl⟩) (by assumption) ?_
          try simp only [Act.put, List.setIfInBounds_toArray, List.set_cons_zero, List.set_cons_succ]
          refine wpAnyH_take (i := 20) (oi := ⟨_, _, _, _, _, _⟩) (v := undef) rfl (by kernel_rfl) (by kernel_rfl) (by kernel_rfl) (fun _ _ _ h => h) (Or.inr ⟨by kernel_rfl, rfl⟩) (by assumption) ?_
          try simp only [Act.put, List.setIfInBounds_toArray, List.set_cons_zero, List.set_cons_succ]
          refine wpAnyH_take (i := 21) (oi := ⟨_, _, _, _, _, _⟩) (v := ?_) rfl (by kernel_rfl) (by kernel_rfl) (by kernel_rfl) (fun _ _ _ h => h) (Or.inl ⟨by rfl, ?_⟩) (by assumption) ?_
          rotate_left
          · intro W hSW; (try dsimp only at hSW); go_simp; all_goals (with_reducible rfl)
          try simp only [Act.put, List.setIfInBounds_toArray, List.set_cons_zero, List.set_cons_succ]
          refine wpAnyH_take (i := 22) (oi := ⟨_, _, _, _, _, _⟩) (v := ?_) rfl (by kernel_rfl) (by kernel_rfl) (by kernel_rfl) (fun _ _ _ h => h) (Or.inl ⟨by rfl, ?_⟩) (by assumption) ?_
          rotate_left
          · intro W hSW; (try dsimp only at hSW); go_simp; all_goals (with_reducible rfl)
          try simp only [Act.put, List.setIfInBounds_toArray, List.set_cons_zero, List.set_cons_succ]
          refine wpAnyH_done (by kernel_rfl) ?_ _
          have HB11 := Lib.hid (HB10.out.trans (Below.mono ((Below.refl w10.heap.size w10).drew) HB10.out.size))
          go_wp2_with fail
          go_roundw
          case rel => exact ⟨k + 1, by omega, by go_num, KS8.out.below HB11.out KS8.out.lt, KE8.out.below HB11.out KE8.out.lt, KT8.out.below HB11.out KT8.out.lt, HBB.out.trans (HB11.out.mono HBB.out.size)⟩
          case measure => simp [intOf]; omega
        refine AllReadyH.cons (o := ⟨_, _, _, _, _, _⟩) rfl (fun K hK => ?_) AllReadyH.nil
        go_simp
        refine hK.out _ _ (HKr.out _ (hbr.alloc (Nat.le_refl _) (.cells #[.string ⟨#[]⟩, .string ⟨#[]⟩, .string ⟨#[]⟩, .string ⟨#[]⟩, .int .i64 0, .int .i64 0, .bool false, .slice none 0 0, .int .i64 0, .int .i64 0, .int .i64 0, .int .i64 0, .int .i64 0, .int .i64 0] 47))) (fun hHeld => ?_)
        clear hK K
        try simp only [Act.put, List.setIfInBounds_toArray, List.set_cons_zero, List.set_cons_succ]
        refine wpAnyH_ready (rs := [7]) (by kernel_rfl) (by simp) ?_
        refine AllReadyH.cons (o := ⟨_, _, _, _, _, _⟩) rfl (fun K hK => ?_) AllReadyH.nil
        go_simp
        refine (HF.out _ (HBB.out.trans ((hbr.alloc (Nat.le_refl _) (.cells #[.string ⟨#[]⟩, .string ⟨#[]⟩, .string ⟨#[]⟩, .string ⟨#[]⟩, .int .i64 0, .int .i64 0, .bool false, .slice none 0 0, .int .i64 0, .int .i64 0, .int .i64 0, .int .i64 0, .int .i64 0, .int .i64 0] 47)).mono HBB.out.size))).mono ?_
        rintro e w9 ⟨A4, m4, rfl, hpr9, hb9⟩
        have HPR9 := Lib.hid hpr9
        have HN9 : Hid (Has w9 w8.heap.size 47 #[.string ⟨#[]⟩, .string ⟨#[]⟩, .string ⟨#[]⟩, .string ⟨#[]⟩, .int .i64 0, .int .i64 0, .bool false, .slice none 0 0, .int .i64 0, .int .i64 0, .int .i64 0, .int .i64 0, .int .i64 0, .int .i64 0]) := (Has.new w8.drew 47 #[.string ⟨#[]⟩, .string ⟨#[]⟩, .string ⟨#[]⟩, .string ⟨#[]⟩, .int .i64 0, .int .i64 0, .bool false, .slice none 0 0, .int .i64 0, .int .i64 0, .int .i64 0, .int .i64 0, .int .i64 0, .int .i64 0]).below hb9 (Has.new w8.drew 47 #[.string ⟨#[]⟩, .string ⟨#[]⟩, .string ⟨#[]⟩, .string ⟨#[]⟩, .int .i64 0, .int .i64 0, .bool false, .slice none 0 0, .int .i64 0, .int .i64 0, .int .i64 0, .int .i64 0, .int .i64 0, .int .i64 0]).lt
        have hbw9 : Below w8.heap.size w8 w9 := (hbr.alloc (Nat.le_refl _) (.cells #[.string ⟨#[]⟩, .string ⟨#[]⟩, .string ⟨#[]⟩, .string ⟨#[]⟩, .int .i64 0, .int .i64 0, .bool false, .slice none 0 0, .int .i64 0, .int .i64 0, .int .i64 0, .int .i64 0, .int .i64 0, .int .i64 0] 47)).trans (hb9.mono (by simp))
        clear hb9 hpr9
        refine hK.out _ _ (HKr.out _ hbw9) (fun hHeld => ?_)
        clear hK K
        try simp only [Act.put, List.setIfInBounds_toArray, List.set_cons_zero, List.set_cons_succ]
        refine wpAnyH_take (i := 8) (oi := ⟨_, _, _, _, _, _⟩) (v := ?_) rfl (by kernel_rfl) (by kernel_rfl) (by kernel_rfl) (fun _ _ _ h => h) (Or.inl ⟨by rfl, ?_⟩) (by assumption) ?_
        rotate_left
        · intro W hSW; (try dsimp only at hSW); go_simp; all_goals (with_reducible rfl)
        try simp only [Act.put, List.setIfInBounds_toArray, List.set_cons_zero, List.set_cons_succ]
        refine wpAnyH_take (i := 9) (oi := ⟨_, _, _, _, _, _⟩) (v := ?_) rfl (by kernel_rfl) (by kernel_rfl) (by kernel_rfl) (fun _ _ _ h => h) (Or.inl ⟨by rfl, ?_⟩) (by assumption) ?_
        rotate_left
        · intro W hSW; (try dsimp only at hSW); go_simp; all_goals (with_reducible rfl)
        try simp only [Act.put, List.setIfInBounds_toArray, List.set_cons_zero, List.set_cons_succ]
        refine wpAnyH_take (i := 10) (oi := ⟨_, _, _, _, _, _⟩) (v := ?_) rfl (by kernel_rfl) (by kernel_rfl) (by kernel_rfl) (fun _ _ _ h => h) (Or.inl ⟨by rfl, ?_⟩) (by assumption) ?_
        rotate_left
        · intro W hSW; (try dsimp only at hSW); go_simp; all_goals (with_reducible rfl)
        try simp only [Act.put, List.setIfInBounds_toArray, List.set_cons_zero, List.set_cons_succ]
        refine wpAnyH_ready (rs := [12]) (by kernel_rfl) (by simp) ?_
        refine AllReadyH.cons (o := ⟨_, _, _, _, _, _⟩) rfl (fun K hK => ?_) AllReadyH.nil
        have HT9 := Lib.hid (thereH (n := 14) HN9.out (by simp))
        obtain ⟨w10, hWe, hW10, hB10⟩ := stored HN9.out hbw9 (Nat.le_refl _) #[.string qname, .string qkind, .string qinto, .string qslot, .int .i64 qmade, .int .i64 qsince, .bool qgone, .slice A4 qprops.length m4, .int .i64 qkl, .int .i64 qkh, .int .i64 qcl, .int .i64 qch, .int .i64 qdl, .int .i64 qdh] rfl
        rw [if_pos (by rfl)]
        refine wp_store_mid 47 _ _ rfl w8.heap.size 0 #[.string qname, .string qkind, .string qinto, .string qslot, .int .i64 qmade, .int .i64 qsince, .bool qgone, .slice A4 qprops.length m4, .int .i64 qkl, .int .i64 qkh, .int .i64 qcl, .int .i64 qch, .int .i64 qdl, .int .i64 qdh] rfl rfl HT9.out sizePt (onePt ..) ?_
        rw [hWe]
        simp only [Act.put]
        refine hK.out _ _ (HKr.out _ hB10) (fun hHeld => ?_)
        clear hK K
        try simp only [Act.put, List.setIfInBounds_toArray, List.set_cons_zero, List.set_cons_succ]
        refine wpAnyH_take (i := 13) (oi := ⟨_, _, _, _, _, _⟩) (v := ?_) rfl (by kernel_rfl) (by kernel_rfl) (by kernel_rfl) (fun _ _ _ h => h) (Or.inl ⟨by rfl, ?_⟩) (by assumption) ?_
        rotate_left
        · intro W hSW; (try dsimp only at hSW); go_simp; all_goals (with_reducible rfl)
        try simp only [Act.put, List.setIfInBounds_toArray, List.set_cons_zero, List.set_cons_succ]
        refine wpAnyH_done (by kernel_rfl) ?_ _
        have HP10 := Lib.hid hW10
        have HB10 := Lib.hid hB10
        clear hW10 hB10 HKr hbr
        obtain ⟨xP, yP⟩ := HP10.out.facts
        have HS10 := Lib.hid (KS8.out.below HB10.out KS8.out.lt)
        have HE10 := Lib.hid (KE8.out.below HB10.out KE8.out.lt)
        obtain ⟨xS9, yS9⟩ := HS10.out.facts
        obtain ⟨xE9, yE9⟩ := HE10.out.facts
        obtain ⟨z0, z1, z2, z3, z4, z5, z6, z7, z8, z9, z10, z11, z12, z13⟩ := part_facts (range_later HRG.out (HB8.out.trans (HB10.out.mono HB8.out.size)))
        clear xS8 yS8 xE8 yE8 xT8 yT8 y0 y1 y2 y3 y4 y5 y6 y7 y8 y9 y10 y11 y12 y13
        have HKs := Lib.hid (fun W (h : Below w10.heap.size w10 W) => (⟨HB10.out.trans (h.mono HB10.out.size), (HS10.out.below h HS10.out.lt).facts.1, (HE10.out.below h HE10.out.lt).facts.1, (HP10.out.below h HP10.out.lt).facts.1, cell_later h z0, cell_later h z1, cell_later h z2, cell_later h z3, cell_later h z4, cell_later h z5, cell_later h z6, cell_later h z7, cell_later h z8, cell_later h z9, cell_later h z10, cell_later h z11, cell_later h z12, cell_later h z13⟩ : Below w8.heap.size w8 W ∧ (∀ o, World.cell? W ⟨w.heap.size + 1, o, none⟩ = (#[.slice (some ⟨b0, o0, none⟩) l.length cs] : Array Value)[o]?) ∧ (∀ o, World.cell? W ⟨w.heap.size + 1 + 1, o, none⟩ = (#[.int .i64 op, .int .i64 day, .string part, .string kind, .string into, .string slot, .string key, .string value, .int .i64 ukl, .int .i64 ukh, .int .i64 ucl, .int .i64 uch, .int .i64 ull, .int .i64 ulh] : Array Value)[o]?) ∧ (∀ o, World.cell? W ⟨w8.heap.size, o, none⟩ = (#[.string qname, .string qkind, .string qinto, .string qslot, .int .i64 qmade, .int .i64 qsince, .bool qgone, .slice A4 qprops.length m4, .int .i64 qkl, .int .i64 qkh, .int .i64 qcl, .int .i64 qch, .int .i64 qdl, .int .i64 qdh] : Array Value)[o]?) ∧ World.cell? W ⟨b0, o0 + k * 14, none⟩ = some (.string pname) ∧ World.cell? W ⟨b0, o0 + k * 14 + 1, none⟩ = some (.string pkind) ∧ World.cell? W ⟨b0, o0 + k * 14 + 2, none⟩ = some (.string pinto) ∧ World.cell? W ⟨b0, o0 + k * 14 + 3, none⟩ = some (.string pslot) ∧ World.cell? W ⟨b0, o0 + k * 14 + 4, none⟩ = some (.int .i64 pmade) ∧ World.cell? W ⟨b0, o0 + k * 14 + 5, none⟩ = some (.int .i64 psince) ∧ World.cell? W ⟨b0, o0 + k * 14 + 6, none⟩ = some (.bool pgone) ∧ World.cell? W ⟨b0, o0 + k * 14 + 7, none⟩ = some (.slice A2 pprops.length c2) ∧ World.cell? W ⟨b0, o0 + k * 14 + 8, none⟩ = some (.int .i64 pkl) ∧ World.cell? W ⟨b0, o0 + k * 14 + 9, none⟩ = some (.int .i64 pkh) ∧ World.cell? W ⟨b0, o0 + k * 14 + 10, none⟩ = some (.int .i64 pcl) ∧ World.cell? W ⟨b0, o0 + k * 14 + 11, none⟩ = some (.int .i64 pch) ∧ World.cell? W ⟨b0, o0 + k * 14 + 12, none⟩ = some (.int .i64 pdl) ∧ World.cell? W ⟨b0, o0 + k * 14 + 13, none⟩ = some (.int .i64 pdh)))
        go_wp2_with fail
        refine wp_region_held_drew (S := fun W => Below w8.heap.size w8 W ∧ (∀ o, World.cell? W ⟨w.heap.size + 1, o, none⟩ = (#[.slice (some ⟨b0, o0, none⟩) l.length cs] : Array Value)[o]?) ∧ (∀ o, World.cell? W ⟨w.heap.size + 1 + 1, o, none⟩ = (#[.int .i64 op, .int .i64 day, .string part, .string kind, .string into, .string slot, .string key, .string value, .int .i64 ukl, .int .i64 ukh, .int .i64 ucl, .int .i64 uch, .int .i64 ull, .int .i64 ulh] : Array Value)[o]?) ∧ (∀ o, World.cell? W ⟨w8.heap.size, o, none⟩ = (#[.string qname, .string qkind, .string qinto, .string qslot, .int .i64 qmade, .int .i64 qsince, .bool qgone, .slice A4 qprops.length m4, .int .i64 qkl, .int .i64 qkh, .int .i64 qcl, .int .i64 qch, .int .i64 qdl, .int .i64 qdh] : Array Value)[o]?) ∧ World.cell? W ⟨b0, o0 + k * 14, none⟩ = some (.string pname) ∧ World.cell? W ⟨b0, o0 + k * 14 + 1, none⟩ = some (.string pkind) ∧ World.cell? W ⟨b0, o0 + k * 14 + 2, none⟩ = some (.string pinto) ∧ World.cell? W ⟨b0, o0 + k * 14 + 3, none⟩ = some (.string pslot) ∧ World.cell? W ⟨b0, o0 + k * 14 + 4, none⟩ = some (.int .i64 pmade) ∧ World.cell? W ⟨b0, o0 + k * 14 + 5, none⟩ = some (.int .i64 psince) ∧ World.cell? W ⟨b0, o0 + k * 14 + 6, none⟩ = some (.bool pgone) ∧ World.cell? W ⟨b0, o0 + k * 14 + 7, none⟩ = some (.slice A2 pprops.length c2) ∧ World.cell? W ⟨b0, o0 + k * 14 + 8, none⟩ = some (.int .i64 pkl) ∧ World.cell? W ⟨b0, o0 + k * 14 + 9, none⟩ = some (.int .i64 pkh) ∧ World.cell? W ⟨b0, o0 + k * 14 + 10, none⟩ = some (.int .i64 pcl) ∧ World.cell? W ⟨b0, o0 + k * 14 + 11, none⟩ = some (.int .i64 pch) ∧ World.cell? W ⟨b0, o0 + k * 14 + 12, none⟩ = some (.int .i64 pdl) ∧ World.cell? W ⟨b0, o0 + k * 14 + 13, none⟩ = some (.int .i64 pdh)) (by kernel_rfl) (HKs.out _ (Below.refl w10.heap.size w10).drew) (fun hHeld => ?_)
        refine wpAnyH_take (i := 0) (oi := ⟨_, _, _, _, _, _⟩) (v := ?_) rfl (by kernel_rfl) (by kernel_rfl) (by kernel_rfl) (fun _ _ _ h => h) (Or.inl ⟨by rfl, ?_⟩) (by assumption) ?_
        rotate_left
        · intro W hSW; (try dsimp only at hSW); go_simp; all_goals (with_reducible rfl)
        try simp only [Act.put, List.setIfInBounds_toArray, List.set_cons_zero, List.set_cons_succ]
        refine wpAnyH_take (i := 1) (oi := ⟨_, _, _, _, _, _⟩) (v := ?_) rfl (by kernel_rfl) (by kernel_rfl) (by kernel_rfl) (fun _ _ _ h => h) (Or.inl ⟨by rfl, ?_⟩) (by assumption) ?_
        rotate_left
        · intro W hSW; (try dsimp only at hSW); go_simp; all_goals (with_reducible rfl)
        try simp only [Act.put, List.setIfInBounds_toArray, List.set_cons_zero, List.set_cons_succ]
        refine wpAnyH_take (i := 2) (oi := ⟨_, _, _, _, _, _⟩) (v := ?_) rfl (by kernel_rfl) (by kernel_rfl) (by kernel_rfl) (fun _ _ _ h => h) (Or.inl ⟨by rfl, ?_⟩) (by assumption) ?_
        rotate_left
        · intro W hSW; (try dsimp only at hSW); go_simp; all_goals (with_reducible rfl)
        try simp only [Act.put, List.setIfInBounds_toArray, List.set_cons_zero, List.set_cons_succ]
        refine wpAnyH_take (i := 3) (oi := ⟨_, _, _, _, _, _⟩) (v := ?_) rfl (by kernel_rfl) (by kernel_rfl) (by kernel_rfl) (fun _ _ _ h => h) (Or.inl ⟨by rfl, ?_⟩) (by assumption) ?_
        rotate_left
        · intro W hSW; (try dsimp only at hSW); go_simp; all_goals (with_reducible rfl)
        try simp only [Act.put, List.setIfInBounds_toArray, List.set_cons_zero, List.set_cons_succ]
        refine wpAnyH_take (i := 4) (oi := ⟨_, _, _, _, _, _⟩) (v := ?_) rfl (by kernel_rfl) (by kernel_rfl) (by kernel_rfl) (fun _ _ _ h => h) (Or.inl ⟨by rfl, ?_⟩) (by assumption) ?_
        rotate_left
        · intro W hSW; (try dsimp only at hSW); go_simp; all_goals (with_reducible rfl)
        try simp only [Act.put, List.setIfInBounds_toArray, List.set_cons_zero, List.set_cons_succ]
        refine wpAnyH_take (i := 5) (oi := ⟨_, _, _, _, _, _⟩) (v := ?_) rfl (by kernel_rfl) (by kernel_rfl) (by kernel_rfl) (fun _ _ _ h => h) (Or.inl ⟨by rfl, ?_⟩) (by assumption) ?_
        rotate_left
        · intro W hSW; (try dsimp only at hSW); go_simp; all_goals (with_reducible rfl)
        try simp only [Act.put, List.setIfInBounds_toArray, List.set_cons_zero, List.set_cons_succ]
        refine wpAnyH_take (i := 6) (oi := ⟨_, _, _, _, _, _⟩) (v := ?_) rfl (by kernel_rfl) (by kernel_rfl) (by kernel_rfl) (fun _ _ _ h => h) (Or.inl ⟨by rfl, ?_⟩) (by assumption) ?_
        rotate_left
        · intro W hSW; (try dsimp only at hSW); go_simp; all_goals (with_reducible rfl)
        try simp only [Act.put, List.setIfInBounds_toArray, List.set_cons_zero, List.set_cons_succ]
        refine wpAnyH_take (i := 7) (oi := ⟨_, _, _, _, _, _⟩) (v := ?_) rfl (by kernel_rfl) (by kernel_rfl) (by kernel_rfl) (fun _ _ _ h => h) (Or.inl ⟨by rfl, ?_⟩) (by assumption) ?_
        rotate_left
        · intro W hSW; (try dsimp only at hSW); go_simp; all_goals (with_reducible rfl)
        try simp only [Act.put, List.setIfInBounds_toArray, List.set_cons_zero, List.set_cons_succ]
        refine wpAnyH_take (i := 8) (oi := ⟨_, _, _, _, _, _⟩) (v := ?_) rfl (by kernel_rfl) (by kernel_rfl) (by kernel_rfl) (fun _ _ _ h => h) (Or.inl ⟨by rfl, ?_⟩) (by assumption) ?_
        rotate_left
        · intro W hSW; (try dsimp only at hSW); go_simp; all_goals (with_reducible rfl)
        try simp only [Act.put, List.setIfInBounds_toArray, List.set_cons_zero, List.set_cons_succ]
        refine wpAnyH_take (i := 9) (oi := ⟨_, _, _, _, _, _⟩) (v := ?_) rfl (by kernel_rfl) (by kernel_rfl) (by kernel_rfl) (fun _ _ _ h => h) (Or.inl ⟨by rfl, ?_⟩) (by assumption) ?_
        rotate_left
        · intro W hSW; (try dsimp only at hSW); go_simp; all_goals (with_reducible rfl)
        try simp only [Act.put, List.setIfInBounds_toArray, List.set_cons_zero, List.set_cons_succ]
        refine wpAnyH_take (i := 10) (oi := ⟨_, _, _, _, _, _⟩) (v := ?_) rfl (by kernel_rfl) (by kernel_rfl) (by kernel_rfl) (fun _ _ _ h => h) (Or.inl ⟨by rfl, ?_⟩) (by assumption) ?_
        rotate_left
        · intro W hSW; (try dsimp only at hSW); go_simp; all_goals (with_reducible rfl)
        try simp only [Act.put, List.setIfInBounds_toArray, List.set_cons_zero, List.set_cons_succ]
        refine wpAnyH_take (i := 11) (oi := ⟨_, _, _, _, _, _⟩) (v := ?_) rfl (by kernel_rfl) (by kernel_rfl) (by kernel_rfl) (fun _ _ _ h => h) (Or.inl ⟨by rfl, ?_⟩) (by assumption) ?_
        rotate_left
        · intro W hSW; (try dsimp only at hSW); go_simp; all_goals (with_reducible rfl)
        try simp only [Act.put, List.setIfInBounds_toArray, List.set_cons_zero, List.set_cons_succ]
        refine wpAnyH_take (i := 12) (oi := ⟨_, _, _, _, _, _⟩) (v := ?_) rfl (by kernel_rfl) (by kernel_rfl) (by kernel_rfl) (fun _ _ _ h => h) (Or.inl ⟨by rfl, ?_⟩) (by assumption) ?_
        rotate_left
        · intro W hSW; (try dsimp only at hSW); go_simp; all_goals (with_reducible rfl)
        try simp only [Act.put, List.setIfInBounds_toArray, List.set_cons_zero, List.set_cons_succ]
        refine wpAnyH_take (i := 13) (oi := ⟨_, _, _, _, _, _⟩) (v := undef) rfl (by kernel_rfl) (by kernel_rfl) (by kernel_rfl) (fun _ _ _ h => h) (Or.inr ⟨by kernel_rfl, rfl⟩) (by assumption) ?_
        try simp only [Act.put, List.setIfInBounds_toArray, List.set_cons_zero, List.set_cons_succ]
        refine wpAnyH_take (i := 14) (oi := ⟨_, _, _, _, _, _⟩) (v := undef) rfl (by kernel_rfl) (by kernel_rfl) (by kernel_rfl) (fun _ _ _ h => h) (Or.inr ⟨by kernel_rfl, rfl⟩) (by assumption) ?_
        try simp only [Act.put, List.setIfInBounds_toArray, List.set_cons_zero, List.set_cons_succ]
        refine wpAnyH_take (i := 15) (oi := ⟨_, _, _, _, _, _⟩) (v := undef) rfl (by kernel_rfl) (by kernel_rfl) (by kernel_rfl) (fun _ _ _ h => h) (Or.inr ⟨by kernel_rfl, rfl⟩) (by assumption) ?_
        try simp only [Act.put, List.setIfInBounds_toArray, List.set_cons_zero, List.set_cons_succ]
        refine wpAnyH_take (i := 16) (oi := ⟨_, _, _, _, _, _⟩) (v := undef) rfl (by kernel_rfl) (by kernel_rfl) (by kernel_rfl) (fun _ _ _ h => h) (Or.inr ⟨by kernel_rfl, rfl⟩) (by assumption) ?_
        try simp only [Act.put, List.setIfInBounds_toArray, List.set_cons_zero, List.set_cons_succ]
        refine wpAnyH_take (i := 17) (oi := ⟨_, _, _, _, _, _⟩) (v := undef) rfl (by kernel_rfl) (by kernel_rfl) (by kernel_rfl) (fun _ _ _ h => h) (Or.inr ⟨by kernel_rfl, rfl⟩) (by assumption) ?_
        try simp only [Act.put, List.setIfInBounds_toArray, List.set_cons_zero, List.set_cons_succ]
        refine wpAnyH_take (i := 18) (oi := ⟨_, _, _, _, _, _⟩) (v := undef) rfl (by kernel_rfl) (by kernel_rfl) (by kernel_rfl) (fun _ _ _ h => h) (Or.inr ⟨by kernel_rfl, rfl⟩) (by assumption) ?_
        try simp only [Act.put, List.setIfInBounds_toArray, List.set_cons_zero, List.set_cons_succ]
        refine wpAnyH_take (i := 19) (oi := ⟨_, _, _, _, _, _⟩) (v := undef) rfl (by kernel_rfl) (by kernel_rfl) (by kernel_rfl) (fun _ _ _ h => h) (Or.inr ⟨by kernel_rfl, rfl⟩) (by assumption) ?_
        try simp only [Act.put, List.setIfInBounds_toArray, List.set_cons_zero, List.set_cons_succ]
        refine wpAnyH_take (i := 20) (oi := ⟨_, _, _, _, _, _⟩) (v := undef) rfl (by kernel_rfl) (by kernel_rfl) (by kernel_rfl) (fun _ _ _ h => h) (Or.inr ⟨by kernel_rfl, rfl⟩) (by assumption) ?_
        try simp only [Act.put, List.setIfInBounds_toArray, List.set_cons_zero, List.set_cons_succ]
        refine wpAnyH_take (i := 21) (oi := ⟨_, _, _, _, _, _⟩) (v := ?_) rfl (by kernel_rfl) (by kernel_rfl) (by kernel_rfl) (fun _ _ _ h => h) (Or.inl ⟨by rfl, ?_⟩) (by assumption) ?_
        rotate_left
        · intro W hSW; (try dsimp only at hSW); go_simp; all_goals (with_reducible rfl)
        try simp only [Act.put, List.setIfInBounds_toArray, List.set_cons_zero, List.set_cons_succ]
        refine wpAnyH_take (i := 22) (oi := ⟨_, _, _, _, _, _⟩) (v := ?_) rfl (by kernel_rfl) (by kernel_rfl) (by kernel_rfl) (fun _ _ _ h => h) (Or.inl ⟨by rfl, ?_⟩) (by assumption) ?_
        rotate_left
        · intro W hSW; (try dsimp only at hSW); go_simp; all_goals (with_reducible rfl)
        try simp only [Act.put, List.setIfInBounds_toArray, List.set_cons_zero, List.set_cons_succ]
        refine wpAnyH_done (by kernel_rfl) ?_ _
        have HB11 := Lib.hid (HB10.out.trans (Below.mono ((Below.refl w10.heap.size w10).drew) HB10.out.size))
        go_wp2_with fail
        go_roundw
        case rel => exact ⟨k + 1, by omega, by go_num, KS8.out.below HB11.out KS8.out.lt, KE8.out.below HB11.out KE8.out.lt, KT8.out.below HB11.out KT8.out.lt, HBB.out.trans (HB11.out.mono HBB.out.size)⟩
        case measure => simp [intOf]; omega
      · have hne2 : (pname.toList == part.toList) = false := by simpa using hne
        have HKr := Lib.hid (fun W (h : Below w8.heap.size w8 W) => (⟨h, (KT8.out.below h KT8.out.lt).facts.1, (KS8.out.below h KS8.out.lt).facts.1, cell_later h y0⟩ : Below w8.heap.size w8 W ∧ (∀ o, World.cell? W ⟨w3.heap.size, o, none⟩ = (#[.slice A3 t.length c3] : Array Value)[o]?) ∧ (∀ o, World.cell? W ⟨w.heap.size + 1, o, none⟩ = (#[.slice (some ⟨b0, o0, none⟩) l.length cs] : Array Value)[o]?) ∧ World.cell? W ⟨b0, o0 + k * 14, none⟩ = some (.string pname)))
        have hbr : Below w8.heap.size w8 w8.drew := (Below.refl _ _).drew
        go_wp2_with fail
        refine wp_region_held_drew (S := fun W => Below w8.heap.size w8 W ∧ (∀ o, World.cell? W ⟨w3.heap.size, o, none⟩ = (#[.slice A3 t.length c3] : Array Value)[o]?) ∧ (∀ o, World.cell? W ⟨w.heap.size + 1, o, none⟩ = (#[.slice (some ⟨b0, o0, none⟩) l.length cs] : Array Value)[o]?) ∧ World.cell? W ⟨b0, o0 + k * 14, none⟩ = some (.string pname)) (by kernel_rfl) (HKr.out _ hbr) (fun hHeld => ?_)
        refine wpAnyH_take (i := 0) (oi := ⟨_, _, _, _, _, _⟩) (v := ?_) rfl (by kernel_rfl) (by kernel_rfl) (by kernel_rfl) (fun _ _ _ h => h) (Or.inl ⟨by rfl, ?_⟩) (by assumption) ?_
        rotate_left
        · intro W hSW; (try dsimp only at hSW); go_simp; all_goals (with_reducible rfl)
        try simp only [Act.put, List.setIfInBounds_toArray, List.set_cons_zero, List.set_cons_succ]
        refine wpAnyH_take (i := 1) (oi := ⟨_, _, _, _, _, _⟩) (v := ?_) rfl (by kernel_rfl) (by kernel_rfl) (by kernel_rfl) (fun _ _ _ h => h) (Or.inl ⟨by rfl, ?_⟩) (by assumption) ?_
        rotate_left
        · intro W hSW; (try dsimp only at hSW); go_simp; all_goals (with_reducible rfl)
        try simp only [Act.put, List.setIfInBounds_toArray, List.set_cons_zero, List.set_cons_succ]
        refine wpAnyH_take (i := 2) (oi := ⟨_, _, _, _, _, _⟩) (v := ?_) rfl (by kernel_rfl) (by kernel_rfl) (by kernel_rfl) (fun _ _ _ h => h) (Or.inl ⟨by rfl, ?_⟩) (by assumption) ?_
        rotate_left
        · intro W hSW; (try dsimp only at hSW); go_simp; all_goals (with_reducible rfl)
        try simp only [Act.put, List.setIfInBounds_toArray, List.set_cons_zero, List.set_cons_succ]
        refine wpAnyH_take (i := 3) (oi := ⟨_, _, _, _, _, _⟩) (v := ?_) rfl (by kernel_rfl) (by kernel_rfl) (by kernel_rfl) (fun _ _ _ h => h) (Or.inl ⟨by rfl, ?_⟩) (by assumption) ?_
        rotate_left
        · intro W hSW; (try dsimp only at hSW); go_simp; all_goals (with_reducible rfl)
        try simp only [Act.put, List.setIfInBounds_toArray, List.set_cons_zero, List.set_cons_succ]
        refine wpAnyH_take (i := 4) (oi := ⟨_, _, _, _, _, _⟩) (v := ?_) rfl (by kernel_rfl) (by kernel_rfl) (by kernel_rfl) (fun _ _ _ h => h) (Or.inl ⟨by rfl, ?_⟩) (by assumption) ?_
        rotate_left
        · intro W hSW; (try dsimp only at hSW); go_simp; all_goals (with_reducible rfl)
        try simp only [Act.put, List.setIfInBounds_toArray, List.set_cons_zero, List.set_cons_succ]
        refine wpAnyH_take (i := 5) (oi := ⟨_, _, _, _, _, _⟩) (v := ?_) rfl (by kernel_rfl) (by kernel_rfl) (by kernel_rfl) (fun _ _ _ h => h) (Or.inl ⟨by rfl, ?_⟩) (by assumption) ?_
        rotate_left
        · intro W hSW; (try dsimp only at hSW); go_simp; all_goals (with_reducible rfl)
        try simp only [Act.put, List.setIfInBounds_toArray, List.set_cons_zero, List.set_cons_succ]
        refine wpAnyH_take (i := 6) (oi := ⟨_, _, _, _, _, _⟩) (v := ?_) rfl (by kernel_rfl) (by kernel_rfl) (by kernel_rfl) (fun _ _ _ h => h) (Or.inl ⟨by rfl, ?_⟩) (by assumption) ?_
        rotate_left
        · intro W hSW; (try dsimp only at hSW); go_simp; all_goals (with_reducible rfl)
        try simp only [Act.put, List.setIfInBounds_toArray, List.set_cons_zero, List.set_cons_succ]
        refine wpAnyH_ready (rs := [7, 11]) (by kernel_rfl) (by simp) ?_
        refine AllReadyH.cons (o := ⟨_, _, _, _, _, _⟩) rfl (fun K hK => ?_) ?_
        · go_simp
          refine (HF.out _ (HBB.out.trans (hbr.mono HBB.out.size))).mono ?_
          rintro e w9 ⟨A4, m4, rfl, hpr9, hb9⟩
          have HPR9 := Lib.hid hpr9
          have hbw9 : Below w8.heap.size w8 w9 := hbr.trans hb9
          clear hb9 hpr9
          refine hK.out _ _ (HKr.out _ hbw9) (fun hHeld => ?_)
          clear hK K
          try simp only [Act.put, List.setIfInBounds_toArray, List.set_cons_zero, List.set_cons_succ]
          refine wpAnyH_take (i := 8) (oi := ⟨_, _, _, _, _, _⟩) (v := ?_) rfl (by kernel_rfl) (by kernel_rfl) (by kernel_rfl) (fun _ _ _ h => h) (Or.inl ⟨by rfl, ?_⟩) (by assumption) ?_
          rotate_left
          · intro W hSW; (try dsimp only at hSW); go_simp; all_goals (with_reducible rfl)
          try simp only [Act.put, List.setIfInBounds_toArray, List.set_cons_zero, List.set_cons_succ]
          refine wpAnyH_take (i := 9) (oi := ⟨_, _, _, _, _, _⟩) (v := ?_) rfl (by kernel_rfl) (by kernel_rfl) (by kernel_rfl) (fun _ _ _ h => h) (Or.inl ⟨by rfl, ?_⟩) (by assumption) ?_
          rotate_left
          · intro W hSW; (try dsimp only at hSW); go_simp; all_goals (with_reducible rfl)
          try simp only [Act.put, List.setIfInBounds_toArray, List.set_cons_zero, List.set_cons_succ]
          refine wpAnyH_take (i := 10) (oi := ⟨_, _, _, _, _, _⟩) (v := ?_) rfl (by kernel_rfl) (by kernel_rfl) (by kernel_rfl) (fun _ _ _ h => h) (Or.inl ⟨by rfl, ?_⟩) (by assumption) ?_
          rotate_left
          · intro W hSW; (try dsimp only at hSW); go_simp; all_goals (with_reducible rfl)
          try simp only [Act.put, List.setIfInBounds_toArray, List.set_cons_zero, List.set_cons_succ]
          refine wpAnyH_ready (rs := [11]) (by kernel_rfl) (by simp) ?_
          refine AllReadyH.cons (o := ⟨_, _, _, _, _, _⟩) rfl (fun K hK => ?_) AllReadyH.nil
          go_simp
          refine hK.out _ _ (HKr.out _ (hbw9.alloc hbw9.size (.cells #[.string ⟨#[]⟩, .string ⟨#[]⟩, .string ⟨#[]⟩, .string ⟨#[]⟩, .int .i64 0, .int .i64 0, .bool false, .slice none 0 0, .int .i64 0, .int .i64 0, .int .i64 0, .int .i64 0, .int .i64 0, .int .i64 0] 47))) (fun hHeld => ?_)
          clear hK K
          try simp only [Act.put, List.setIfInBounds_toArray, List.set_cons_zero, List.set_cons_succ]
          refine wpAnyH_ready (rs := [12]) (by kernel_rfl) (by simp) ?_
          refine AllReadyH.cons (o := ⟨_, _, _, _, _, _⟩) rfl (fun K hK => ?_) AllReadyH.nil
          have HT9 := Lib.hid (thereH (n := 14) (Has.new w9 47 #[.string ⟨#[]⟩, .string ⟨#[]⟩, .string ⟨#[]⟩, .string ⟨#[]⟩, .int .i64 0, .int .i64 0, .bool false, .slice none 0 0, .int .i64 0, .int .i64 0, .int .i64 0, .int .i64 0, .int .i64 0, .int .i64 0]) (by simp))
          obtain ⟨w10, hWe, hW10, hB10⟩ := stored (Has.new w9 47 #[.string ⟨#[]⟩, .string ⟨#[]⟩, .string ⟨#[]⟩, .string ⟨#[]⟩, .int .i64 0, .int .i64 0, .bool false, .slice none 0 0, .int .i64 0, .int .i64 0, .int .i64 0, .int .i64 0, .int .i64 0, .int .i64 0]) (hbw9.alloc hbw9.size (.cells #[.string ⟨#[]⟩, .string ⟨#[]⟩, .string ⟨#[]⟩, .string ⟨#[]⟩, .int .i64 0, .int .i64 0, .bool false, .slice none 0 0, .int .i64 0, .int .i64 0, .int .i64 0, .int .i64 0, .int .i64 0, .int .i64 0] 47)) hbw9.size #[.string qname, .string qkind, .string qinto, .string qslot, .int .i64 qmade, .int .i64 qsince, .bool qgone, .slice A4 qprops.length m4, .int .i64 qkl, .int .i64 qkh, .int .i64 qcl, .int .i64 qch, .int .i64 qdl, .int .i64 qdh] rfl
          rw [if_pos (by rfl)]
          refine wp_store_mid 47 _ _ rfl w9.heap.size 0 #[.string qname, .string qkind, .string qinto, .string qslot, .int .i64 qmade, .int .i64 qsince, .bool qgone, .slice A4 qprops.length m4, .int .i64 qkl, .int .i64 qkh, .int .i64 qcl, .int .i64 qch, .int .i64 qdl, .int .i64 qdh] rfl rfl HT9.out sizePt (onePt ..) ?_
          rw [hWe]
          simp only [Act.put]
          refine hK.out _ _ (HKr.out _ hB10) (fun hHeld => ?_)
          clear hK K
          try simp only [Act.put, List.setIfInBounds_toArray, List.set_cons_zero, List.set_cons_succ]
          refine wpAnyH_take (i := 13) (oi := ⟨_, _, _, _, _, _⟩) (v := ?_) rfl (by kernel_rfl) (by kernel_rfl) (by kernel_rfl) (fun _ _ _ h => h) (Or.inl ⟨by rfl, ?_⟩) (by assumption) ?_
          rotate_left
          · intro W hSW; (try dsimp only at hSW); go_simp; all_goals (with_reducible rfl)
          try simp only [Act.put, List.setIfInBounds_toArray, List.set_cons_zero, List.set_cons_succ]
          refine wpAnyH_done (by kernel_rfl) ?_ _
          have HP10 := Lib.hid hW10
          have HB10 := Lib.hid hB10
          clear hW10 hB10 HKr hbr
          obtain ⟨xP, yP⟩ := HP10.out.facts
          have HS10 := Lib.hid (KS8.out.below HB10.out KS8.out.lt)
          have HE10 := Lib.hid (KE8.out.below HB10.out KE8.out.lt)
          obtain ⟨xS9, yS9⟩ := HS10.out.facts
          obtain ⟨xE9, yE9⟩ := HE10.out.facts
          obtain ⟨z0, z1, z2, z3, z4, z5, z6, z7, z8, z9, z10, z11, z12, z13⟩ := part_facts (range_later HRG.out (HB8.out.trans (HB10.out.mono HB8.out.size)))
          clear xS8 yS8 xE8 yE8 xT8 yT8 y0 y1 y2 y3 y4 y5 y6 y7 y8 y9 y10 y11 y12 y13
          have HKs := Lib.hid (fun W (h : Below w10.heap.size w10 W) => (⟨HB10.out.trans (h.mono HB10.out.size), (HS10.out.below h HS10.out.lt).facts.1, (HE10.out.below h HE10.out.lt).facts.1, (HP10.out.below h HP10.out.lt).facts.1, cell_later h z0, cell_later h z1, cell_later h z2, cell_later h z3, cell_later h z4, cell_later h z5, cell_later h z6, cell_later h z7, cell_later h z8, cell_later h z9, cell_later h z10, cell_later h z11, cell_later h z12, cell_later h z13⟩ : Below w8.heap.size w8 W ∧ (∀ o, World.cell? W ⟨w.heap.size + 1, o, none⟩ = (#[.slice (some ⟨b0, o0, none⟩) l.length cs] : Array Value)[o]?) ∧ (∀ o, World.cell? W ⟨w.heap.size + 1 + 1, o, none⟩ = (#[.int .i64 op, .int .i64 day, .string part, .string kind, .string into, .string slot, .string key, .string value, .int .i64 ukl, .int .i64 ukh, .int .i64 ucl, .int .i64 uch, .int .i64 ull, .int .i64 ulh] : Array Value)[o]?) ∧ (∀ o, World.cell? W ⟨w9.heap.size, o, none⟩ = (#[.string qname, .string qkind, .string qinto, .string qslot, .int .i64 qmade, .int .i64 qsince, .bool qgone, .slice A4 qprops.length m4, .int .i64 qkl, .int .i64 qkh, .int .i64 qcl, .int .i64 qch, .int .i64 qdl, .int .i64 qdh] : Array Value)[o]?) ∧ World.cell? W ⟨b0, o0 + k * 14, none⟩ = some (.string pname) ∧ World.cell? W ⟨b0, o0 + k * 14 + 1, none⟩ = some (.string pkind) ∧ World.cell? W ⟨b0, o0 + k * 14 + 2, none⟩ = some (.string pinto) ∧ World.cell? W ⟨b0, o0 + k * 14 + 3, none⟩ = some (.string pslot) ∧ World.cell? W ⟨b0, o0 + k * 14 + 4, none⟩ = some (.int .i64 pmade) ∧ World.cell? W ⟨b0, o0 + k * 14 + 5, none⟩ = some (.int .i64 psince) ∧ World.cell? W ⟨b0, o0 + k * 14 + 6, none⟩ = some (.bool pgone) ∧ World.cell? W ⟨b0, o0 + k * 14 + 7, none⟩ = some (.slice A2 pprops.length c2) ∧ World.cell? W ⟨b0, o0 + k * 14 + 8, none⟩ = some (.int .i64 pkl) ∧ World.cell? W ⟨b0, o0 + k * 14 + 9, none⟩ = some (.int .i64 pkh) ∧ World.cell? W ⟨b0, o0 + k * 14 + 10, none⟩ = some (.int .i64 pcl) ∧ World.cell? W ⟨b0, o0 + k * 14 + 11, none⟩ = some (.int .i64 pch) ∧ World.cell? W ⟨b0, o0 + k * 14 + 12, none⟩ = some (.int .i64 pdl) ∧ World.cell? W ⟨b0, o0 + k * 14 + 13, none⟩ = some (.int .i64 pdh)))
          have hqe : (⟨qname, qkind, qinto, qslot, qmade, qsince, qgone, qprops, qkl, qkh, qcl, qch, qdl, qdh⟩ : Pa) = ⟨pname, pkind, pinto, pslot, pmade, psince, pgone, pprops, pkl, pkh, pcl, pch, pdl, pdh⟩ := HQ2.out (by intro e; simp [e] at hne)
          have HSP := Lib.hid (fun W (h : Below w8.heap.size w8 W) => samePart_any qname qkind qinto qslot qmade qsince qgone qprops qkl qkh qcl qch qdl qdh pname pkind pinto pslot pmade psince pgone pprops pkl pkh pcl pch pdl pdh A4 A2 m4 c2 W (HPR9.out.below PrR.stays (HBB.out.trans (h.mono HBB.out.size))) (HPQ.out.below PrR.stays (HB8.out.trans (h.mono HB8.out.size))) (by have := HPP.out; rw [show qprops = pprops by injection hqe]; exact this) HPP.out)
          rw [decide_eq_true hqe] at HSP
          clear hqe
          go_wp2_with fail
          refine wp_region_held_drew (S := fun W => Below w8.heap.size w8 W ∧ (∀ o, World.cell? W ⟨w.heap.size + 1, o, none⟩ = (#[.slice (some ⟨b0, o0, none⟩) l.length cs] : Array Value)[o]?) ∧ (∀ o, World.cell? W ⟨w.heap.size + 1 + 1, o, none⟩ = (#[.int .i64 op, .int .i64 day, .string part, .string kind, .string into, .string slot, .string key, .string value, .int .i64 ukl, .int .i64 ukh, .int .i64 ucl, .int .i64 uch, .int .i64 ull, .int .i64 ulh] : Array Value)[o]?) ∧ (∀ o, World.cell? W ⟨w9.heap.size, o, none⟩ = (#[.string qname, .string qkind, .string qinto, .string qslot, .int .i64 qmade, .int .i64 qsince, .bool qgone, .slice A4 qprops.length m4, .int .i64 qkl, .int .i64 qkh, .int .i64 qcl, .int .i64 qch, .int .i64 qdl, .int .i64 qdh] : Array Value)[o]?) ∧ World.cell? W ⟨b0, o0 + k * 14, none⟩ = some (.string pname) ∧ World.cell? W ⟨b0, o0 + k * 14 + 1, none⟩ = some (.string pkind) ∧ World.cell? W ⟨b0, o0 + k * 14 + 2, none⟩ = some (.string pinto) ∧ World.cell? W ⟨b0, o0 + k * 14 + 3, none⟩ = some (.string pslot) ∧ World.cell? W ⟨b0, o0 + k * 14 + 4, none⟩ = some (.int .i64 pmade) ∧ World.cell? W ⟨b0, o0 + k * 14 + 5, none⟩ = some (.int .i64 psince) ∧ World.cell? W ⟨b0, o0 + k * 14 + 6, none⟩ = some (.bool pgone) ∧ World.cell? W ⟨b0, o0 + k * 14 + 7, none⟩ = some (.slice A2 pprops.length c2) ∧ World.cell? W ⟨b0, o0 + k * 14 + 8, none⟩ = some (.int .i64 pkl) ∧ World.cell? W ⟨b0, o0 + k * 14 + 9, none⟩ = some (.int .i64 pkh) ∧ World.cell? W ⟨b0, o0 + k * 14 + 10, none⟩ = some (.int .i64 pcl) ∧ World.cell? W ⟨b0, o0 + k * 14 + 11, none⟩ = some (.int .i64 pch) ∧ World.cell? W ⟨b0, o0 + k * 14 + 12, none⟩ = some (.int .i64 pdl) ∧ World.cell? W ⟨b0, o0 + k * 14 + 13, none⟩ = some (.int .i64 pdh)) (by kernel_rfl) (HKs.out _ (Below.refl w10.heap.size w10).drew) (fun hHeld => ?_)
          refine wpAnyH_take (i := 0) (oi := ⟨_, _, _, _, _, _⟩) (v := ?_) rfl (by kernel_rfl) (by kernel_rfl) (by kernel_rfl) (fun _ _ _ h => h) (Or.inl ⟨by rfl, ?_⟩) (by assumption) ?_
          rotate_left
          · intro W hSW; (try dsimp only at hSW); go_simp; all_goals (with_reducible rfl)
          try simp only [Act.put, List.setIfInBounds_toArray, List.set_cons_zero, List.set_cons_succ]
          refine wpAnyH_take (i := 1) (oi := ⟨_, _, _, _, _, _⟩) (v := ?_) rfl (by kernel_rfl) (by kernel_rfl) (by kernel_rfl) (fun _ _ _ h => h) (Or.inl ⟨by rfl, ?_⟩) (by assumption) ?_
          rotate_left
          · intro W hSW; (try dsimp only at hSW); go_simp; all_goals (with_reducible rfl)
          try simp only [Act.put, List.setIfInBounds_toArray, List.set_cons_zero, List.set_cons_succ]
          refine wpAnyH_take (i := 2) (oi := ⟨_, _, _, _, _, _⟩) (v := ?_) rfl (by kernel_rfl) (by kernel_rfl) (by kernel_rfl) (fun _ _ _ h => h) (Or.inl ⟨by rfl, ?_⟩) (by assumption) ?_
          rotate_left
          · intro W hSW; (try dsimp only at hSW); go_simp; all_goals (with_reducible rfl)
          try simp only [Act.put, List.setIfInBounds_toArray, List.set_cons_zero, List.set_cons_succ]
          refine wpAnyH_take (i := 3) (oi := ⟨_, _, _, _, _, _⟩) (v := ?_) rfl (by kernel_rfl) (by kernel_rfl) (by kernel_rfl) (fun _ _ _ h => h) (Or.inl ⟨by rfl, ?_⟩) (by assumption) ?_
          rotate_left
          · intro W hSW; (try dsimp only at hSW); go_simp; all_goals (with_reducible rfl)
          try simp only [Act.put, List.setIfInBounds_toArray, List.set_cons_zero, List.set_cons_succ]
          refine wpAnyH_take (i := 4) (oi := ⟨_, _, _, _, _, _⟩) (v := ?_) rfl (by kernel_rfl) (by kernel_rfl) (by kernel_rfl) (fun _ _ _ h => h) (Or.inl ⟨by rfl, ?_⟩) (by assumption) ?_
          rotate_left
          · intro W hSW; (try dsimp only at hSW); go_simp; all_goals (with_reducible rfl)
          try simp only [Act.put, List.setIfInBounds_toArray, List.set_cons_zero, List.set_cons_succ]
          refine wpAnyH_take (i := 5) (oi := ⟨_, _, _, _, _, _⟩) (v := ?_) rfl (by kernel_rfl) (by kernel_rfl) (by kernel_rfl) (fun _ _ _ h => h) (Or.inl ⟨by rfl, ?_⟩) (by assumption) ?_
          rotate_left
          · intro W hSW; (try dsimp only at hSW); go_simp; all_goals (with_reducible rfl)
          try simp only [Act.put, List.setIfInBounds_toArray, List.set_cons_zero, List.set_cons_succ]
          refine wpAnyH_take (i := 6) (oi := ⟨_, _, _, _, _, _⟩) (v := ?_) rfl (by kernel_rfl) (by kernel_rfl) (by kernel_rfl) (fun _ _ _ h => h) (Or.inl ⟨by rfl, ?_⟩) (by assumption) ?_
          rotate_left
          · intro W hSW; (try dsimp only at hSW); go_simp; all_goals (with_reducible rfl)
          try simp only [Act.put, List.setIfInBounds_toArray, List.set_cons_zero, List.set_cons_succ]
          refine wpAnyH_take (i := 7) (oi := ⟨_, _, _, _, _, _⟩) (v := ?_) rfl (by kernel_rfl) (by kernel_rfl) (by kernel_rfl) (fun _ _ _ h => h) (Or.inl ⟨by rfl, ?_⟩) (by assumption) ?_
          rotate_left
          · intro W hSW; (try dsimp only at hSW); go_simp; all_goals (with_reducible rfl)
          try simp only [Act.put, List.setIfInBounds_toArray, List.set_cons_zero, List.set_cons_succ]
          refine wpAnyH_take (i := 8) (oi := ⟨_, _, _, _, _, _⟩) (v := ?_) rfl (by kernel_rfl) (by kernel_rfl) (by kernel_rfl) (fun _ _ _ h => h) (Or.inl ⟨by rfl, ?_⟩) (by assumption) ?_
          rotate_left
          · intro W hSW; (try dsimp only at hSW); go_simp; all_goals (with_reducible rfl)
          try simp only [Act.put, List.setIfInBounds_toArray, List.set_cons_zero, List.set_cons_succ]
          refine wpAnyH_take (i := 9) (oi := ⟨_, _, _, _, _, _⟩) (v := ?_) rfl (by kernel_rfl) (by kernel_rfl) (by kernel_rfl) (fun _ _ _ h => h) (Or.inl ⟨by rfl, ?_⟩) (by assumption) ?_
          rotate_left
          · intro W hSW; (try dsimp only at hSW); go_simp; all_goals (with_reducible rfl)
          try simp only [Act.put, List.setIfInBounds_toArray, List.set_cons_zero, List.set_cons_succ]
          refine wpAnyH_take (i := 10) (oi := ⟨_, _, _, _, _, _⟩) (v := ?_) rfl (by kernel_rfl) (by kernel_rfl) (by kernel_rfl) (fun _ _ _ h => h) (Or.inl ⟨by rfl, ?_⟩) (by assumption) ?_
          rotate_left
          · intro W hSW; (try dsimp only at hSW); go_simp; all_goals (with_reducible rfl)
          try simp only [Act.put, List.setIfInBounds_toArray, List.set_cons_zero, List.set_cons_succ]
          refine wpAnyH_take (i := 11) (oi := ⟨_, _, _, _, _, _⟩) (v := ?_) rfl (by kernel_rfl) (by kernel_rfl) (by kernel_rfl) (fun _ _ _ h => h) (Or.inl ⟨by rfl, ?_⟩) (by assumption) ?_
          rotate_left
          · intro W hSW; (try dsimp only at hSW); go_simp; all_goals (with_reducible rfl)
          try simp only [Act.put, List.setIfInBounds_toArray, List.set_cons_zero, List.set_cons_succ]
          refine wpAnyH_take (i := 12) (oi := ⟨_, _, _, _, _, _⟩) (v := ?_) rfl (by kernel_rfl) (by kernel_rfl) (by kernel_rfl) (fun _ _ _ h => h) (Or.inl ⟨by rfl, ?_⟩) (by assumption) ?_
          rotate_left
          · intro W hSW; (try dsimp only at hSW); go_simp; all_goals (with_reducible rfl)
          try simp only [Act.put, List.setIfInBounds_toArray, List.set_cons_zero, List.set_cons_succ]
          refine wpAnyH_take (i := 13) (oi := ⟨_, _, _, _, _, _⟩) (v := ?_) rfl (by kernel_rfl) (by kernel_rfl) (by kernel_rfl) (fun _ _ _ h => h) (Or.inl ⟨by rfl, ?_⟩) (by assumption) ?_
          rotate_left
          · intro W hSW; (try dsimp only at hSW); go_simp; all_goals (with_reducible rfl)
          try simp only [Act.put, List.setIfInBounds_toArray, List.set_cons_zero, List.set_cons_succ]
          refine wpAnyH_take (i := 14) (oi := ⟨_, _, _, _, _, _⟩) (v := ?_) rfl (by kernel_rfl) (by kernel_rfl) (by kernel_rfl) (fun _ _ _ h => h) (Or.inl ⟨by rfl, ?_⟩) (by assumption) ?_
          rotate_left
          · intro W hSW; (try dsimp only at hSW); go_simp; all_goals (with_reducible rfl)
          try simp only [Act.put, List.setIfInBounds_toArray, List.set_cons_zero, List.set_cons_succ]
          refine wpAnyH_take (i := 15) (oi := ⟨_, _, _, _, _, _⟩) (v := ?_) rfl (by kernel_rfl) (by kernel_rfl) (by kernel_rfl) (fun _ _ _ h => h) (Or.inl ⟨by rfl, ?_⟩) (by assumption) ?_
          rotate_left
          · intro W hSW; (try dsimp only at hSW); go_simp; all_goals (with_reducible rfl)
          try simp only [Act.put, List.setIfInBounds_toArray, List.set_cons_zero, List.set_cons_succ]
          refine wpAnyH_take (i := 16) (oi := ⟨_, _, _, _, _, _⟩) (v := ?_) rfl (by kernel_rfl) (by kernel_rfl) (by kernel_rfl) (fun _ _ _ h => h) (Or.inl ⟨by rfl, ?_⟩) (by assumption) ?_
          rotate_left
          · intro W hSW; (try dsimp only at hSW); go_simp; all_goals (with_reducible rfl)
          try simp only [Act.put, List.setIfInBounds_toArray, List.set_cons_zero, List.set_cons_succ]
          refine wpAnyH_take (i := 17) (oi := ⟨_, _, _, _, _, _⟩) (v := ?_) rfl (by kernel_rfl) (by kernel_rfl) (by kernel_rfl) (fun _ _ _ h => h) (Or.inl ⟨by rfl, ?_⟩) (by assumption) ?_
          rotate_left
          · intro W hSW; (try dsimp only at hSW); go_simp; all_goals (with_reducible rfl)
          try simp only [Act.put, List.setIfInBounds_toArray, List.set_cons_zero, List.set_cons_succ]
          refine wpAnyH_take (i := 18) (oi := ⟨_, _, _, _, _, _⟩) (v := ?_) rfl (by kernel_rfl) (by kernel_rfl) (by kernel_rfl) (fun _ _ _ h => h) (Or.inl ⟨by rfl, ?_⟩) (by assumption) ?_
          rotate_left
          · intro W hSW; (try dsimp only at hSW); go_simp; all_goals (with_reducible rfl)
          try simp only [Act.put, List.setIfInBounds_toArray, List.set_cons_zero, List.set_cons_succ]
          refine wpAnyH_ready (rs := [19]) (by kernel_rfl) (by simp) ?_
          refine AllReadyH.cons (o := ⟨_, _, _, _, _, _⟩) rfl (fun K hK => ?_) AllReadyH.nil
          go_simp
          refine (HSP.out _ (HKs.out _ (Below.refl w10.heap.size w10).drew).1).mono ?_
          rintro e w11 ⟨rfl, hb11⟩
          have hbw11 : Below w10.heap.size w10 w11 := ((Below.refl w10.heap.size w10).drew).trans hb11
          clear hb11
          refine hK.out _ _ (HKs.out _ hbw11) (fun hHeld => ?_)
          clear hK K
          try simp only [Act.put, List.setIfInBounds_toArray, List.set_cons_zero, List.set_cons_succ]
          refine wpAnyH_take (i := 20) (oi := ⟨_, _, _, _, _, _⟩) (v := ?_) rfl (by kernel_rfl) (by kernel_rfl) (by kernel_rfl) (fun _ _ _ h => h) (Or.inl ⟨by rfl, ?_⟩) (by assumption) ?_
          rotate_left
          · intro W hSW; (try dsimp only at hSW); go_simp; all_goals (with_reducible rfl)
          try simp only [Act.put, List.setIfInBounds_toArray, List.set_cons_zero, List.set_cons_succ]
          refine wpAnyH_take (i := 21) (oi := ⟨_, _, _, _, _, _⟩) (v := ?_) rfl (by kernel_rfl) (by kernel_rfl) (by kernel_rfl) (fun _ _ _ h => h) (Or.inl ⟨by rfl, ?_⟩) (by assumption) ?_
          rotate_left
          · intro W hSW; (try dsimp only at hSW); go_simp; all_goals (with_reducible rfl)
          try simp only [Act.put, List.setIfInBounds_toArray, List.set_cons_zero, List.set_cons_succ]
          refine wpAnyH_take (i := 22) (oi := ⟨_, _, _, _, _, _⟩) (v := ?_) rfl (by kernel_rfl) (by kernel_rfl) (by kernel_rfl) (fun _ _ _ h => h) (Or.inl ⟨by rfl, ?_⟩) (by assumption) ?_
          rotate_left
          · intro W hSW; (try dsimp only at hSW); go_simp; all_goals (with_reducible rfl)
          try simp only [Act.put, List.setIfInBounds_toArray, List.set_cons_zero, List.set_cons_succ]
          refine wpAnyH_done (by kernel_rfl) ?_ _
          have HB11 := Lib.hid (HB10.out.trans (Below.mono hbw11 HB10.out.size))
          go_wp2_with fail
          go_roundw
          case rel => exact ⟨k + 1, by omega, by go_num, KS8.out.below HB11.out KS8.out.lt, KE8.out.below HB11.out KE8.out.lt, KT8.out.below HB11.out KT8.out.lt, HBB.out.trans (HB11.out.mono HBB.out.size)⟩
          case measure => simp [intOf]; omega
        refine AllReadyH.cons (o := ⟨_, _, _, _, _, _⟩) rfl (fun K hK => ?_) AllReadyH.nil
        go_simp
        refine hK.out _ _ (HKr.out _ (hbr.alloc (Nat.le_refl _) (.cells #[.string ⟨#[]⟩, .string ⟨#[]⟩, .string ⟨#[]⟩, .string ⟨#[]⟩, .int .i64 0, .int .i64 0, .bool false, .slice none 0 0, .int .i64 0, .int .i64 0, .int .i64 0, .int .i64 0, .int .i64 0, .int .i64 0] 47))) (fun hHeld => ?_)
        clear hK K
        try simp only [Act.put, List.setIfInBounds_toArray, List.set_cons_zero, List.set_cons_succ]
        refine wpAnyH_ready (rs := [7]) (by kernel_rfl) (by simp) ?_
        refine AllReadyH.cons (o := ⟨_, _, _, _, _, _⟩) rfl (fun K hK => ?_) AllReadyH.nil
        go_simp
        refine (HF.out _ (HBB.out.trans ((hbr.alloc (Nat.le_refl _) (.cells #[.string ⟨#[]⟩, .string ⟨#[]⟩, .string ⟨#[]⟩, .string ⟨#[]⟩, .int .i64 0, .int .i64 0, .bool false, .slice none 0 0, .int .i64 0, .int .i64 0, .int .i64 0, .int .i64 0, .int .i64 0, .int .i64 0] 47)).mono HBB.out.size))).mono ?_
        rintro e w9 ⟨A4, m4, rfl, hpr9, hb9⟩
        have HPR9 := Lib.hid hpr9
        have HN9 : Hid (Has w9 w8.heap.size 47 #[.string ⟨#[]⟩, .string ⟨#[]⟩, .string ⟨#[]⟩, .string ⟨#[]⟩, .int .i64 0, .int .i64 0, .bool false, .slice none 0 0, .int .i64 0, .int .i64 0, .int .i64 0, .int .i64 0, .int .i64 0, .int .i64 0]) := (Has.new w8.drew 47 #[.string ⟨#[]⟩, .string ⟨#[]⟩, .string ⟨#[]⟩, .string ⟨#[]⟩, .int .i64 0, .int .i64 0, .bool false, .slice none 0 0, .int .i64 0, .int .i64 0, .int .i64 0, .int .i64 0, .int .i64 0, .int .i64 0]).below hb9 (Has.new w8.drew 47 #[.string ⟨#[]⟩, .string ⟨#[]⟩, .string ⟨#[]⟩, .string ⟨#[]⟩, .int .i64 0, .int .i64 0, .bool false, .slice none 0 0, .int .i64 0, .int .i64 0, .int .i64 0, .int .i64 0, .int .i64 0, .int .i64 0]).lt
        have hbw9 : Below w8.heap.size w8 w9 := (hbr.alloc (Nat.le_refl _) (.cells #[.string ⟨#[]⟩, .string ⟨#[]⟩, .string ⟨#[]⟩, .string ⟨#[]⟩, .int .i64 0, .int .i64 0, .bool false, .slice none 0 0, .int .i64 0, .int .i64 0, .int .i64 0, .int .i64 0, .int .i64 0, .int .i64 0] 47)).trans (hb9.mono (by simp))
        clear hb9 hpr9
        refine hK.out _ _ (HKr.out _ hbw9) (fun hHeld => ?_)
        clear hK K
        try simp only [Act.put, List.setIfInBounds_toArray, List.set_cons_zero, List.set_cons_succ]
        refine wpAnyH_take (i := 8) (oi := ⟨_, _, _, _, _, _⟩) (v := ?_) rfl (by kernel_rfl) (by kernel_rfl) (by kernel_rfl) (fun _ _ _ h => h) (Or.inl ⟨by rfl, ?_⟩) (by assumption) ?_
        rotate_left
        · intro W hSW; (try dsimp only at hSW); go_simp; all_goals (with_reducible rfl)
        try simp only [Act.put, List.setIfInBounds_toArray, List.set_cons_zero, List.set_cons_succ]
        refine wpAnyH_take (i := 9) (oi := ⟨_, _, _, _, _, _⟩) (v := ?_) rfl (by kernel_rfl) (by kernel_rfl) (by kernel_rfl) (fun _ _ _ h => h) (Or.inl ⟨by rfl, ?_⟩) (by assumption) ?_
        rotate_left
        · intro W hSW; (try dsimp only at hSW); go_simp; all_goals (with_reducible rfl)
        try simp only [Act.put, List.setIfInBounds_toArray, List.set_cons_zero, List.set_cons_succ]
        refine wpAnyH_take (i := 10) (oi := ⟨_, _, _, _, _, _⟩) (v := ?_) rfl (by kernel_rfl) (by kernel_rfl) (by kernel_rfl) (fun _ _ _ h => h) (Or.inl ⟨by rfl, ?_⟩) (by assumption) ?_
        rotate_left
        · intro W hSW; (try dsimp only at hSW); go_simp; all_goals (with_reducible rfl)
        try simp only [Act.put, List.setIfInBounds_toArray, List.set_cons_zero, List.set_cons_succ]
        refine wpAnyH_ready (rs := [12]) (by kernel_rfl) (by simp) ?_
        refine AllReadyH.cons (o := ⟨_, _, _, _, _, _⟩) rfl (fun K hK => ?_) AllReadyH.nil
        have HT9 := Lib.hid (thereH (n := 14) HN9.out (by simp))
        obtain ⟨w10, hWe, hW10, hB10⟩ := stored HN9.out hbw9 (Nat.le_refl _) #[.string qname, .string qkind, .string qinto, .string qslot, .int .i64 qmade, .int .i64 qsince, .bool qgone, .slice A4 qprops.length m4, .int .i64 qkl, .int .i64 qkh, .int .i64 qcl, .int .i64 qch, .int .i64 qdl, .int .i64 qdh] rfl
        rw [if_pos (by rfl)]
        refine wp_store_mid 47 _ _ rfl w8.heap.size 0 #[.string qname, .string qkind, .string qinto, .string qslot, .int .i64 qmade, .int .i64 qsince, .bool qgone, .slice A4 qprops.length m4, .int .i64 qkl, .int .i64 qkh, .int .i64 qcl, .int .i64 qch, .int .i64 qdl, .int .i64 qdh] rfl rfl HT9.out sizePt (onePt ..) ?_
        rw [hWe]
        simp only [Act.put]
        refine hK.out _ _ (HKr.out _ hB10) (fun hHeld => ?_)
        clear hK K
        try simp only [Act.put, List.setIfInBounds_toArray, List.set_cons_zero, List.set_cons_succ]
        refine wpAnyH_take (i := 13) (oi := ⟨_, _, _, _, _, _⟩) (v := ?_) rfl (by kernel_rfl) (by kernel_rfl) (by kernel_rfl) (fun _ _ _ h => h) (Or.inl ⟨by rfl, ?_⟩) (by assumption) ?_
        rotate_left
        · intro W hSW; (try dsimp only at hSW); go_simp; all_goals (with_reducible rfl)
        try simp only [Act.put, List.setIfInBounds_toArray, List.set_cons_zero, List.set_cons_succ]
        refine wpAnyH_done (by kernel_rfl) ?_ _
        have HP10 := Lib.hid hW10
        have HB10 := Lib.hid hB10
        clear hW10 hB10 HKr hbr
        obtain ⟨xP, yP⟩ := HP10.out.facts
        have HS10 := Lib.hid (KS8.out.below HB10.out KS8.out.lt)
        have HE10 := Lib.hid (KE8.out.below HB10.out KE8.out.lt)
        obtain ⟨xS9, yS9⟩ := HS10.out.facts
        obtain ⟨xE9, yE9⟩ := HE10.out.facts
        obtain ⟨z0, z1, z2, z3, z4, z5, z6, z7, z8, z9, z10, z11, z12, z13⟩ := part_facts (range_later HRG.out (HB8.out.trans (HB10.out.mono HB8.out.size)))
        clear xS8 yS8 xE8 yE8 xT8 yT8 y0 y1 y2 y3 y4 y5 y6 y7 y8 y9 y10 y11 y12 y13
        have HKs := Lib.hid (fun W (h : Below w10.heap.size w10 W) => (⟨HB10.out.trans (h.mono HB10.out.size), (HS10.out.below h HS10.out.lt).facts.1, (HE10.out.below h HE10.out.lt).facts.1, (HP10.out.below h HP10.out.lt).facts.1, cell_later h z0, cell_later h z1, cell_later h z2, cell_later h z3, cell_later h z4, cell_later h z5, cell_later h z6, cell_later h z7, cell_later h z8, cell_later h z9, cell_later h z10, cell_later h z11, cell_later h z12, cell_later h z13⟩ : Below w8.heap.size w8 W ∧ (∀ o, World.cell? W ⟨w.heap.size + 1, o, none⟩ = (#[.slice (some ⟨b0, o0, none⟩) l.length cs] : Array Value)[o]?) ∧ (∀ o, World.cell? W ⟨w.heap.size + 1 + 1, o, none⟩ = (#[.int .i64 op, .int .i64 day, .string part, .string kind, .string into, .string slot, .string key, .string value, .int .i64 ukl, .int .i64 ukh, .int .i64 ucl, .int .i64 uch, .int .i64 ull, .int .i64 ulh] : Array Value)[o]?) ∧ (∀ o, World.cell? W ⟨w8.heap.size, o, none⟩ = (#[.string qname, .string qkind, .string qinto, .string qslot, .int .i64 qmade, .int .i64 qsince, .bool qgone, .slice A4 qprops.length m4, .int .i64 qkl, .int .i64 qkh, .int .i64 qcl, .int .i64 qch, .int .i64 qdl, .int .i64 qdh] : Array Value)[o]?) ∧ World.cell? W ⟨b0, o0 + k * 14, none⟩ = some (.string pname) ∧ World.cell? W ⟨b0, o0 + k * 14 + 1, none⟩ = some (.string pkind) ∧ World.cell? W ⟨b0, o0 + k * 14 + 2, none⟩ = some (.string pinto) ∧ World.cell? W ⟨b0, o0 + k * 14 + 3, none⟩ = some (.string pslot) ∧ World.cell? W ⟨b0, o0 + k * 14 + 4, none⟩ = some (.int .i64 pmade) ∧ World.cell? W ⟨b0, o0 + k * 14 + 5, none⟩ = some (.int .i64 psince) ∧ World.cell? W ⟨b0, o0 + k * 14 + 6, none⟩ = some (.bool pgone) ∧ World.cell? W ⟨b0, o0 + k * 14 + 7, none⟩ = some (.slice A2 pprops.length c2) ∧ World.cell? W ⟨b0, o0 + k * 14 + 8, none⟩ = some (.int .i64 pkl) ∧ World.cell? W ⟨b0, o0 + k * 14 + 9, none⟩ = some (.int .i64 pkh) ∧ World.cell? W ⟨b0, o0 + k * 14 + 10, none⟩ = some (.int .i64 pcl) ∧ World.cell? W ⟨b0, o0 + k * 14 + 11, none⟩ = some (.int .i64 pch) ∧ World.cell? W ⟨b0, o0 + k * 14 + 12, none⟩ = some (.int .i64 pdl) ∧ World.cell? W ⟨b0, o0 + k * 14 + 13, none⟩ = some (.int .i64 pdh)))
        have hqe : (⟨qname, qkind, qinto, qslot, qmade, qsince, qgone, qprops, qkl, qkh, qcl, qch, qdl, qdh⟩ : Pa) = ⟨pname, pkind, pinto, pslot, pmade, psince, pgone, pprops, pkl, pkh, pcl, pch, pdl, pdh⟩ := HQ2.out (by intro e; simp [e] at hne)
        have HSP := Lib.hid (fun W (h : Below w8.heap.size w8 W) => samePart_any qname qkind qinto qslot qmade qsince qgone qprops qkl qkh qcl qch qdl qdh pname pkind pinto pslot pmade psince pgone pprops pkl pkh pcl pch pdl pdh A4 A2 m4 c2 W (HPR9.out.below PrR.stays (HBB.out.trans (h.mono HBB.out.size))) (HPQ.out.below PrR.stays (HB8.out.trans (h.mono HB8.out.size))) (by have := HPP.out; rw [show qprops = pprops by injection hqe]; exact this) HPP.out)
        rw [decide_eq_true hqe] at HSP
        clear hqe
        go_wp2_with fail
        refine wp_region_held_drew (S := fun W => Below w8.heap.size w8 W ∧ (∀ o, World.cell? W ⟨w.heap.size + 1, o, none⟩ = (#[.slice (some ⟨b0, o0, none⟩) l.length cs] : Array Value)[o]?) ∧ (∀ o, World.cell? W ⟨w.heap.size + 1 + 1, o, none⟩ = (#[.int .i64 op, .int .i64 day, .string part, .string kind, .string into, .string slot, .string key, .string value, .int .i64 ukl, .int .i64 ukh, .int .i64 ucl, .int .i64 uch, .int .i64 ull, .int .i64 ulh] : Array Value)[o]?) ∧ (∀ o, World.cell? W ⟨w8.heap.size, o, none⟩ = (#[.string qname, .string qkind, .string qinto, .string qslot, .int .i64 qmade, .int .i64 qsince, .bool qgone, .slice A4 qprops.length m4, .int .i64 qkl, .int .i64 qkh, .int .i64 qcl, .int .i64 qch, .int .i64 qdl, .int .i64 qdh] : Array Value)[o]?) ∧ World.cell? W ⟨b0, o0 + k * 14, none⟩ = some (.string pname) ∧ World.cell? W ⟨b0, o0 + k * 14 + 1, none⟩ = some (.string pkind) ∧ World.cell? W ⟨b0, o0 + k * 14 + 2, none⟩ = some (.string pinto) ∧ World.cell? W ⟨b0, o0 + k * 14 + 3, none⟩ = some (.string pslot) ∧ World.cell? W ⟨b0, o0 + k * 14 + 4, none⟩ = some (.int .i64 pmade) ∧ World.cell? W ⟨b0, o0 + k * 14 + 5, none⟩ = some (.int .i64 psince) ∧ World.cell? W ⟨b0, o0 + k * 14 + 6, none⟩ = some (.bool pgone) ∧ World.cell? W ⟨b0, o0 + k * 14 + 7, none⟩ = some (.slice A2 pprops.length c2) ∧ World.cell? W ⟨b0, o0 + k * 14 + 8, none⟩ = some (.int .i64 pkl) ∧ World.cell? W ⟨b0, o0 + k * 14 + 9, none⟩ = some (.int .i64 pkh) ∧ World.cell? W ⟨b0, o0 + k * 14 + 10, none⟩ = some (.int .i64 pcl) ∧ World.cell? W ⟨b0, o0 + k * 14 + 11, none⟩ = some (.int .i64 pch) ∧ World.cell? W ⟨b0, o0 + k * 14 + 12, none⟩ = some (.int .i64 pdl) ∧ World.cell? W ⟨b0, o0 + k * 14 + 13, none⟩ = some (.int .i64 pdh)) (by kernel_rfl) (HKs.out _ (Below.refl w10.heap.size w10).drew) (fun hHeld => ?_)
        refine wpAnyH_take (i := 0) (oi := ⟨_, _, _, _, _, _⟩) (v := ?_) rfl (by kernel_rfl) (by kernel_rfl) (by kernel_rfl) (fun _ _ _ h => h) (Or.inl ⟨by rfl, ?_⟩) (by assumption) ?_
        rotate_left
        · intro W hSW; (try dsimp only at hSW); go_simp; all_goals (with_reducible rfl)
        try simp only [Act.put, List.setIfInBounds_toArray, List.set_cons_zero, List.set_cons_succ]
        refine wpAnyH_take (i := 1) (oi := ⟨_, _, _, _, _, _⟩) (v := ?_) rfl (by kernel_rfl) (by kernel_rfl) (by kernel_rfl) (fun _ _ _ h => h) (Or.inl ⟨by rfl, ?_⟩) (by assumption) ?_
        rotate_left
        · intro W hSW; (try dsimp only at hSW); go_simp; all_goals (with_reducible rfl)
        try simp only [Act.put, List.setIfInBounds_toArray, List.set_cons_zero, List.set_cons_succ]
        refine wpAnyH_take (i := 2) (oi := ⟨_, _, _, _, _, _⟩) (v := ?_) rfl (by kernel_rfl) (by kernel_rfl) (by kernel_rfl) (fun _ _ _ h => h) (Or.inl ⟨by rfl, ?_⟩) (by assumption) ?_
        rotate_left
        · intro W hSW; (try dsimp only at hSW); go_simp; all_goals (with_reducible rfl)
        try simp only [Act.put, List.setIfInBounds_toArray, List.set_cons_zero, List.set_cons_succ]
        refine wpAnyH_take (i := 3) (oi := ⟨_, _, _, _, _, _⟩) (v := ?_) rfl (by kernel_rfl) (by kernel_rfl) (by kernel_rfl) (fun _ _ _ h => h) (Or.inl ⟨by rfl, ?_⟩) (by assumption) ?_
        rotate_left
        · intro W hSW; (try dsimp only at hSW); go_simp; all_goals (with_reducible rfl)
        try simp only [Act.put, List.setIfInBounds_toArray, List.set_cons_zero, List.set_cons_succ]
        refine wpAnyH_take (i := 4) (oi := ⟨_, _, _, _, _, _⟩) (v := ?_) rfl (by kernel_rfl) (by kernel_rfl) (by kernel_rfl) (fun _ _ _ h => h) (Or.inl ⟨by rfl, ?_⟩) (by assumption) ?_
        rotate_left
        · intro W hSW; (try dsimp only at hSW); go_simp; all_goals (with_reducible rfl)
        try simp only [Act.put, List.setIfInBounds_toArray, List.set_cons_zero, List.set_cons_succ]
        refine wpAnyH_take (i := 5) (oi := ⟨_, _, _, _, _, _⟩) (v := ?_) rfl (by kernel_rfl) (by kernel_rfl) (by kernel_rfl) (fun _ _ _ h => h) (Or.inl ⟨by rfl, ?_⟩) (by assumption) ?_
        rotate_left
        · intro W hSW; (try dsimp only at hSW); go_simp; all_goals (with_reducible rfl)
        try simp only [Act.put, List.setIfInBounds_toArray, List.set_cons_zero, List.set_cons_succ]
        refine wpAnyH_take (i := 6) (oi := ⟨_, _, _, _, _, _⟩) (v := ?_) rfl (by kernel_rfl) (by kernel_rfl) (by kernel_rfl) (fun _ _ _ h => h) (Or.inl ⟨by rfl, ?_⟩) (by assumption) ?_
        rotate_left
        · intro W hSW; (try dsimp only at hSW); go_simp; all_goals (with_reducible rfl)
        try simp only [Act.put, List.setIfInBounds_toArray, List.set_cons_zero, List.set_cons_succ]
        refine wpAnyH_take (i := 7) (oi := ⟨_, _, _, _, _, _⟩) (v := ?_) rfl (by kernel_rfl) (by kernel_rfl) (by kernel_rfl) (fun _ _ _ h => h) (Or.inl ⟨by rfl, ?_⟩) (by assumption) ?_
        rotate_left
        · intro W hSW; (try dsimp only at hSW); go_simp; all_goals (with_reducible rfl)
        try simp only [Act.put, List.setIfInBounds_toArray, List.set_cons_zero, List.set_cons_succ]
        refine wpAnyH_take (i := 8) (oi := ⟨_, _, _, _, _, _⟩) (v := ?_) rfl (by kernel_rfl) (by kernel_rfl) (by kernel_rfl) (fun _ _ _ h => h) (Or.inl ⟨by rfl, ?_⟩) (by assumption) ?_
        rotate_left
        · intro W hSW; (try dsimp only at hSW); go_simp; all_goals (with_reducible rfl)
        try simp only [Act.put, List.setIfInBounds_toArray, List.set_cons_zero, List.set_cons_succ]
        refine wpAnyH_take (i := 9) (oi := ⟨_, _, _, _, _, _⟩) (v := ?_) rfl (by kernel_rfl) (by kernel_rfl) (by kernel_rfl) (fun _ _ _ h => h) (Or.inl ⟨by rfl, ?_⟩) (by assumption) ?_
        rotate_left
        · intro W hSW; (try dsimp only at hSW); go_simp; all_goals (with_reducible rfl)
        try simp only [Act.put, List.setIfInBounds_toArray, List.set_cons_zero, List.set_cons_succ]
        refine wpAnyH_take (i := 10) (oi := ⟨_, _, _, _, _, _⟩) (v := ?_) rfl (by kernel_rfl) (by kernel_rfl) (by kernel_rfl) (fun _ _ _ h => h) (Or.inl ⟨by rfl, ?_⟩) (by assumption) ?_
        rotate_left
        · intro W hSW; (try dsimp only at hSW); go_simp; all_goals (with_reducible rfl)
        try simp only [Act.put, List.setIfInBounds_toArray, List.set_cons_zero, List.set_cons_succ]
        refine wpAnyH_take (i := 11) (oi := ⟨_, _, _, _, _, _⟩) (v := ?_) rfl (by kernel_rfl) (by kernel_rfl) (by kernel_rfl) (fun _ _ _ h => h) (Or.inl ⟨by rfl, ?_⟩) (by assumption) ?_
        rotate_left
        · intro W hSW; (try dsimp only at hSW); go_simp; all_goals (with_reducible rfl)
        try simp only [Act.put, List.setIfInBounds_toArray, List.set_cons_zero, List.set_cons_succ]
        refine wpAnyH_take (i := 12) (oi := ⟨_, _, _, _, _, _⟩) (v := ?_) rfl (by kernel_rfl) (by kernel_rfl) (by kernel_rfl) (fun _ _ _ h => h) (Or.inl ⟨by rfl, ?_⟩) (by assumption) ?_
        rotate_left
        · intro W hSW; (try dsimp only at hSW); go_simp; all_goals (with_reducible rfl)
        try simp only [Act.put, List.setIfInBounds_toArray, List.set_cons_zero, List.set_cons_succ]
        refine wpAnyH_take (i := 13) (oi := ⟨_, _, _, _, _, _⟩) (v := ?_) rfl (by kernel_rfl) (by kernel_rfl) (by kernel_rfl) (fun _ _ _ h => h) (Or.inl ⟨by rfl, ?_⟩) (by assumption) ?_
        rotate_left
        · intro W hSW; (try dsimp only at hSW); go_simp; all_goals (with_reducible rfl)
        try simp only [Act.put, List.setIfInBounds_toArray, List.set_cons_zero, List.set_cons_succ]
        refine wpAnyH_take (i := 14) (oi := ⟨_, _, _, _, _, _⟩) (v := ?_) rfl (by kernel_rfl) (by kernel_rfl) (by kernel_rfl) (fun _ _ _ h => h) (Or.inl ⟨by rfl, ?_⟩) (by assumption) ?_
        rotate_left
        · intro W hSW; (try dsimp only at hSW); go_simp; all_goals (with_reducible rfl)
        try simp only [Act.put, List.setIfInBounds_toArray, List.set_cons_zero, List.set_cons_succ]
        refine wpAnyH_take (i := 15) (oi := ⟨_, _, _, _, _, _⟩) (v := ?_) rfl (by kernel_rfl) (by kernel_rfl) (by kernel_rfl) (fun _ _ _ h => h) (Or.inl ⟨by rfl, ?_⟩) (by assumption) ?_
        rotate_left
        · intro W hSW; (try dsimp only at hSW); go_simp; all_goals (with_reducible rfl)
        try simp only [Act.put, List.setIfInBounds_toArray, List.set_cons_zero, List.set_cons_succ]
        refine wpAnyH_take (i := 16) (oi := ⟨_, _, _, _, _, _⟩) (v := ?_) rfl (by kernel_rfl) (by kernel_rfl) (by kernel_rfl) (fun _ _ _ h => h) (Or.inl ⟨by rfl, ?_⟩) (by assumption) ?_
        rotate_left
        · intro W hSW; (try dsimp only at hSW); go_simp; all_goals (with_reducible rfl)
        try simp only [Act.put, List.setIfInBounds_toArray, List.set_cons_zero, List.set_cons_succ]
        refine wpAnyH_take (i := 17) (oi := ⟨_, _, _, _, _, _⟩) (v := ?_) rfl (by kernel_rfl) (by kernel_rfl) (by kernel_rfl) (fun _ _ _ h => h) (Or.inl ⟨by rfl, ?_⟩) (by assumption) ?_
        rotate_left
        · intro W hSW; (try dsimp only at hSW); go_simp; all_goals (with_reducible rfl)
        try simp only [Act.put, List.setIfInBounds_toArray, List.set_cons_zero, List.set_cons_succ]
        refine wpAnyH_take (i := 18) (oi := ⟨_, _, _, _, _, _⟩) (v := ?_) rfl (by kernel_rfl) (by kernel_rfl) (by kernel_rfl) (fun _ _ _ h => h) (Or.inl ⟨by rfl, ?_⟩) (by assumption) ?_
        rotate_left
        · intro W hSW; (try dsimp only at hSW); go_simp; all_goals (with_reducible rfl)
        try simp only [Act.put, List.setIfInBounds_toArray, List.set_cons_zero, List.set_cons_succ]
        refine wpAnyH_ready (rs := [19]) (by kernel_rfl) (by simp) ?_
        refine AllReadyH.cons (o := ⟨_, _, _, _, _, _⟩) rfl (fun K hK => ?_) AllReadyH.nil
        go_simp
        refine (HSP.out _ (HKs.out _ (Below.refl w10.heap.size w10).drew).1).mono ?_
        rintro e w11 ⟨rfl, hb11⟩
        have hbw11 : Below w10.heap.size w10 w11 := ((Below.refl w10.heap.size w10).drew).trans hb11
        clear hb11
        refine hK.out _ _ (HKs.out _ hbw11) (fun hHeld => ?_)
        clear hK K
        try simp only [Act.put, List.setIfInBounds_toArray, List.set_cons_zero, List.set_cons_succ]
        refine wpAnyH_take (i := 20) (oi := ⟨_, _, _, _, _, _⟩) (v := ?_) rfl (by kernel_rfl) (by kernel_rfl) (by kernel_rfl) (fun _ _ _ h => h) (Or.inl ⟨by rfl, ?_⟩) (by assumption) ?_
        rotate_left
        · intro W hSW; (try dsimp only at hSW); go_simp; all_goals (with_reducible rfl)
        try simp only [Act.put, List.setIfInBounds_toArray, List.set_cons_zero, List.set_cons_succ]
        refine wpAnyH_take (i := 21) (oi := ⟨_, _, _, _, _, _⟩) (v := ?_) rfl (by kernel_rfl) (by kernel_rfl) (by kernel_rfl) (fun _ _ _ h => h) (Or.inl ⟨by rfl, ?_⟩) (by assumption) ?_
        rotate_left
        · intro W hSW; (try dsimp only at hSW); go_simp; all_goals (with_reducible rfl)
        try simp only [Act.put, List.setIfInBounds_toArray, List.set_cons_zero, List.set_cons_succ]
        refine wpAnyH_take (i := 22) (oi := ⟨_, _, _, _, _, _⟩) (v := ?_) rfl (by kernel_rfl) (by kernel_rfl) (by kernel_rfl) (fun _ _ _ h => h) (Or.inl ⟨by rfl, ?_⟩) (by assumption) ?_
        rotate_left
        · intro W hSW; (try dsimp only at hSW); go_simp; all_goals (with_reducible rfl)
        try simp only [Act.put, List.setIfInBounds_toArray, List.set_cons_zero, List.set_cons_succ]
        refine wpAnyH_done (by kernel_rfl) ?_ _
        have HB11 := Lib.hid (HB10.out.trans (Below.mono hbw11 HB10.out.size))
        go_wp2_with fail
        go_roundw
        case rel => exact ⟨k + 1, by omega, by go_num, KS8.out.below HB11.out KS8.out.lt, KE8.out.below HB11.out KE8.out.lt, KT8.out.below HB11.out KT8.out.lt, HBB.out.trans (HB11.out.mono HBB.out.size)⟩
        case measure => simp [intOf]; omega
    · obtain rfl : k = l.length := by omega
      have HF1 := Lib.hid (HFT.out part)
      rw [HLC.out.2] at HF1
      simp only [Option.getD_some, Option.isSome_some, newPa, List.length_nil] at HF1
      have hlt1 : (t.length : Int) = (l.length : Int) + 1 := by have := HLC.out.1; omega
      have hlw : IntKind.i64.wrap ((l.length : Int) + 1) = (t.length : Int) := by have h2 := HL.out; rw [IntKind.wrap_i64]; omega
      have hle : ((t.length : Int) == IntKind.i64.wrap ((l.length : Int) + 1)) = true := by rw [hlw]; simp
      clear hlt1
      have zS8 := KS8.out.lt
      have zE8 := KE8.out.lt
      have zT8 := KT8.out.lt
      go_wp2_with fail
      refine (HF1.out _ HBB.out).mono ?_
      rintro e w9 ⟨A5, m5, rfl, hpr9, hb9⟩
      have HBy := Lib.hid (HBB.out.trans (hb9.mono HBB.out.size))
      clear hpr9
      clear xS8 yS8 zS8 xE8 yE8 zE8 xT8 yT8 zT8
      have kS := (KS8.out).below hb9 (KS8.out).lt
      obtain ⟨xS9, yS9⟩ := kS.facts
      have zS9 := kS.lt
      have KS9 := Lib.hid kS
      have kE := (KE8.out).below hb9 (KE8.out).lt
      obtain ⟨xE9, yE9⟩ := kE.facts
      have zE9 := kE.lt
      have KE9 := Lib.hid kE
      have kT := (KT8.out).below hb9 (KT8.out).lt
      obtain ⟨xT9, yT9⟩ := kT.facts
      have zT9 := kT.lt
      have KT9 := Lib.hid kT
      have HB9 := Lib.hid ((HB8.out).trans (hb9.mono (HB8.out).size))
      clear hb9 kS kE kT
      go_wp2_with fail
      refine (samePart_any part kind ⟨#[]⟩ ⟨#[]⟩ day day false [] 0 0 0 0 0 0 part kind ⟨#[]⟩ ⟨#[]⟩ day day false [] 0 0 0 0 0 0 A5 none m5 0 _ (Rd.nil _ _) (Rd.nil _ _) (by simp) (by simp)).mono ?_
      rintro e w10 ⟨rfl, hb10⟩
      rw [decide_eq_true rfl]
      clear xS9 yS9 zS9 xE9 yE9 zE9 xT9 yT9 zT9
      have kS := ((KS9.out).alloc _).below hb10 ((KS9.out).alloc _).lt
      obtain ⟨xS10, yS10⟩ := kS.facts
      have zS10 := kS.lt
      have KS10 := Lib.hid kS
      have kE := ((KE9.out).alloc _).below hb10 ((KE9.out).alloc _).lt
      obtain ⟨xE10, yE10⟩ := kE.facts
      have zE10 := kE.lt
      have KE10 := Lib.hid kE
      have kT := ((KT9.out).alloc _).below hb10 ((KT9.out).alloc _).lt
      obtain ⟨xT10, yT10⟩ := kT.facts
      have zT10 := kT.lt
      have KT10 := Lib.hid kT
      have kP := (Has.new (w9) 47 #[.string part, .string kind, .string ⟨#[]⟩, .string ⟨#[]⟩, .int .i64 day, .int .i64 day, .bool false, .slice A5 0 m5, .int .i64 0, .int .i64 0, .int .i64 0, .int .i64 0, .int .i64 0, .int .i64 0]).below hb10 (Has.new (w9) 47 #[.string part, .string kind, .string ⟨#[]⟩, .string ⟨#[]⟩, .int .i64 day, .int .i64 day, .bool false, .slice A5 0 m5, .int .i64 0, .int .i64 0, .int .i64 0, .int .i64 0, .int .i64 0, .int .i64 0]).lt
      obtain ⟨xP10, yP10⟩ := kP.facts
      have zP10 := kP.lt
      have KP10 := Lib.hid kP
      have HB10 := Lib.hid (((HB9.out).alloc (HB9.out).size _).trans (hb10.mono ((HB9.out).alloc (HB9.out).size _).size))
      clear hb10 kS kE kT kP
      go_wp2_with fail
      go_ret
      exact ⟨rfl, HB10.out⟩
end Go.Proofs.YtpikcofbhkbifaaGreat
