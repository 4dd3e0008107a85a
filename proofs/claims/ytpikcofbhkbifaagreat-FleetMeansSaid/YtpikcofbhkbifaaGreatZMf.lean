/- bogielaw10.FleetMeans returns true: the walk for a note. For every catalog, state and event bogielaw10.FleetMeans returns true, and leaves them alone. No condition of its own. -/
import Derived.Test.YtpikcofbhkbifaaGreatRows
import Derived.Test.YtpikcofbhkbifaaGreatU26
import Derived.Test.YtpikcofbhkbifaaGreatU27
import Derived.Test.YtpikcofbhkbifaaGreatZMe
namespace Go.Proofs.YtpikcofbhkbifaaGreat
open Go Go.RowKit
def cntK (l : List Pr) (key : ByteArray) (k : Nat) : Nat := ((l.take k).filter fun x => decide (x.key = key)).length
theorem cntK_succ {l : List Pr} {key : ByteArray} {k : Nat} (h : k < l.length) : cntK l key (k + 1) = cntK l key k + (if (l.getD k noPr).key = key then 1 else 0) := by
  unfold cntK
  rw [take_getD l k noPr h, List.filter_append, List.length_append]
  congr 1
  generalize l.getD k noPr = x
  by_cases hk : x.key = key
  · simp [hk]
  · simp [hk]
theorem cntK_le (l : List Pr) (key : ByteArray) (k : Nat) : cntK l key k ≤ k := by
  unfold cntK
  exact Nat.le_trans (List.length_filter_le _ _) (by rw [List.length_take]; omega)
theorem lastV_succ {l : List Pr} {x : ByteArray} {q : Nat} (h : q < l.length) : lastV (l.take (q + 1)) x = if (l.getD q noPr).key = x then (l.getD q noPr).val else lastV (l.take q) x := by
  unfold lastV
  rw [take_getD l q noPr h, List.foldl_append]; rfl
set_option maxRecDepth 100000 in
set_option maxHeartbeats 8000000 in
theorem mean_6 (cv sv : Value) (c : List Kd) (l : List Pa) (day : Int) (part kind into slot key value : ByteArray) (ukl ukh ucl uch ull ulh : Int) (w : World) (hcat : Cat w cv c) (hsta : Sta w sv l) (hl : l.length ≤ maxLen) (hps : ∀ p ∈ l, p.wide) (hev : Ev.short ⟨6, day, part, kind, into, slot, key, value, ukl, ukh, ucl, uch, ull, ulh⟩) (hfew : fewB c l [⟨6, day, part, kind, into, slot, key, value, ukl, ukh, ucl, uch, ull, ulh⟩] = true) (t : List Pa) (hr : applyL c l ⟨6, day, part, kind, into, slot, key, value, ukl, ukh, ucl, uch, ull, ulh⟩ = (t, 0)) :
    Calls Tryz.prog 5 #[.agg #[cv], .agg #[sv], .agg #[.int .i64 6, .int .i64 day, .string part, .string kind, .string into, .string slot, .string key, .string value, .int .i64 ukl, .int .i64 ukh, .int .i64 ucl, .int .i64 uch, .int .i64 ull, .int .i64 ulh]] w fun e w' => e = .returned (.bool true) ∧ Below w.heap.size w w' := by
  obtain ⟨A', cc, rfl, _⟩ := Rd.form hcat
  obtain ⟨A, cs, rfl, hn⟩ := Rd.form hsta
  have HST := Lib.hid hsta
  have HCAT := Lib.hid hcat
  have HEV := Lib.hid hev
  have HFW := Lib.hid (fun W (h : Below w.heap.size w W) {g : Nat} (hv : Sl W (.slice (some ⟨g, 0, none⟩) 1 1) 1 14 (evF [⟨6, day, part, kind, into, slot, key, value, ukl, ukh, ucl, uch, ull, ulh⟩])) => few_any W (.slice A' c.length cc) (.slice A l.length cs) (.slice (some ⟨g, 0, none⟩) 1 1) c l [⟨6, day, part, kind, into, slot, key, value, ukl, ukh, ucl, uch, ull, ulh⟩] W (Below.refl _ _) (hcat.below h) (hsta.below h) hv hl hps (by simp [maxLen]))
  have HAP := Lib.hid (fun (h65 : c.length ≤ 65 ∧ ∀ k ∈ c, k.short) W0 (h0 : Below w.heap.size w W0) sv' l' (hs' : Sta W0 sv' l') (hl' : l'.length ≤ 20000) (hsh' : ∀ p ∈ l', p.short) ev t W (hr : applyL c l' ev = (t, 0)) (h : Below W0.heap.size W0 W) hev => apply_ok W0 (.slice A' c.length cc) sv' c l' ev t W hr h (hcat.below h0) (by omega) h65.2 hs' (by omega) hsh' hev)
  have HAN := Lib.hid (fun (h65 : c.length ≤ 65 ∧ ∀ k ∈ c, k.short) (h20 : l.length ≤ 20 ∧ ∀ p ∈ l, p.short) ev W (hr : (applyL c l ev).2 ≠ 0) (h : Below w.heap.size w W) hev => apply_no w (.slice A' c.length cc) (.slice A l.length cs) c l ev W hr h hcat (by omega) h65.2 hsta (by omega) h20.2 hev)
  have HVL := Lib.hid (fun (h65 : c.length ≤ 65 ∧ ∀ k ∈ c, k.short) sv' l' W0 (h0 : Below w.heap.size w W0) (hs : Sta W0 sv' l') (hl' : l'.length ≤ 100000) (hps' : ∀ p ∈ l', p.short) W (h : Below W0.heap.size W0 W) => fvalid_any W0 (.slice A' c.length cc) sv' c l' W h (hcat.below h0) (by omega) h65.2 hs hl' hps')
  have k1 := ((Has.new w 24 #[.slice A' c.length cc]).alloc (.cells #[.slice A l.length cs] 27)).alloc (.cells #[.int .i64 6, .int .i64 day, .string part, .string kind, .string into, .string slot, .string key, .string value, .int .i64 ukl, .int .i64 ukh, .int .i64 ucl, .int .i64 uch, .int .i64 ull, .int .i64 ulh] 33)
  have k2 := (Has.new (w.alloc (.cells #[.slice A' c.length cc] 24)) 27 #[.slice A l.length cs]).alloc (.cells #[.int .i64 6, .int .i64 day, .string part, .string kind, .string into, .string slot, .string key, .string value, .int .i64 ukl, .int .i64 ukh, .int .i64 ucl, .int .i64 uch, .int .i64 ull, .int .i64 ulh] 33)
  have k3 := Has.new ((w.alloc (.cells #[.slice A' c.length cc] 24)).alloc (.cells #[.slice A l.length cs] 27)) 33 #[.int .i64 6, .int .i64 day, .string part, .string kind, .string into, .string slot, .string key, .string value, .int .i64 ukl, .int .i64 ukh, .int .i64 ucl, .int .i64 uch, .int .i64 ull, .int .i64 ulh]
  simp only [World.size_alloc] at k2 k3
  have KC0 := Lib.hid k1
  have KS0 := Lib.hid k2
  have KE0 := Lib.hid k3
  have HB0 := Lib.hid ((((Below.refl w.heap.size w).alloc (Nat.le_refl _) (.cells #[.slice A' c.length cc] 24)).alloc (by simp) (.cells #[.slice A l.length cs] 27)).alloc (by simp; omega) (.cells #[.int .i64 6, .int .i64 day, .string part, .string kind, .string into, .string slot, .string key, .string value, .int .i64 ukl, .int .i64 ukh, .int .i64 ucl, .int .i64 uch, .int .i64 ull, .int .i64 ulh] 33))
  clear hcat hsta hps hev k1 k2 k3
  obtain ⟨h65, h20⟩ := fewB_take hfew
  have HVL := Lib.hid (HVL.out h65)
  have HAP := Lib.hid (HAP.out h65)
  have HAN := Lib.hid (HAN.out h65 h20)
  have HL := Lib.hid (show l.length ≤ 20000 by omega)
  have HL5 := Lib.hid (show l.length ≤ 100000 by omega)
  have HL6 := Lib.hid (show l.length ≤ 1000000 by omega)
  have HSH := Lib.hid h20.2
  have HFEW := Lib.hid hfew
  clear hfew h65 h20
  have HTL := Lib.hid (apply_short HSH.out HEV.out hr)
  have HOK := Lib.hid (fun W (h : Below w.heap.size w W) => HAP.out w (Below.refl _ _) (.slice A l.length cs) l HST.out HL.out HSH.out _ t W hr h HEV.out)
  have HF1 := Lib.hid (fun W (h : Below w.heap.size w W) => fpart_any w (.slice A l.length cs) l part W h HST.out HL6.out)
  have HF2 := Lib.hid (fun W0 A3 c3 (hs : Sta W0 (.slice A3 t.length c3) t) W (h : Below W0.heap.size W0 W) => fpart_any W0 (.slice A3 t.length c3) t part W h hs (by have := HTL.out.1; omega))
  obtain ⟨pp, hh, rr, hpm, hpf, hrf, htr, ht, htl, hrn⟩ := turn_parts hr (by dsimp only; omega)
  have hord := (right_iff.1 (part_iff.1 ((vld_iff.1 (apply_iff.1 hr).1).right pp hpm)).1).2.2.1
  obtain ⟨pname, pkind, pinto, pslot, pmade, psince, pgone, pprops, pkl, pkh, pcl, pch, pdl, pdh⟩ := pp
  have hrr : pprops.length ≤ 100000 ∧ (putX pprops ⟨key, value⟩).length ≤ 60 ∧ rr = ⟨pname, pkind, pinto, pslot, pmade, psince, pgone, putX pprops ⟨key, value⟩, pkl, pkh, pcl, pch, pdl, pdh⟩ := by
    refine ⟨(HSH.out _ hpm).2.2.2.2.1, ?_⟩
    rcases htr with ⟨a, _, _, _, _, h⟩ | ⟨a, _, h⟩ | ⟨a, _, h⟩ | ⟨a, h⟩ | ⟨a, h60, h⟩ | ⟨a, _, _, h⟩
    all_goals first | exact ⟨h60, h⟩ | (dsimp only at a; omega)
  obtain ⟨hpl, h60, hrr⟩ := hrr
  dsimp only at hord
  obtain ⟨hv1, hv2, hv3, hv4⟩ := note_vals (k := key) (v := value) hord
  rw [hpf] at HF1
  rw [hrf, hrr] at HF2
  generalize putX pprops ⟨key, value⟩ = xprops at HF2 hv1 hv2 hv3 hv4 h60
  simp only [Option.getD_some, Option.isSome_some] at HF1 HF2
  have HV1 := Lib.hid hv1
  have HV2 := Lib.hid (show cntK xprops key xprops.length = 1 by unfold cntK; rw [List.take_length]; exact hv2)
  have HV3 := Lib.hid hv3
  have HV4 := Lib.hid hv4
  have HX60 := Lib.hid h60
  have HPL := Lib.hid hpl
  have HXL := Lib.hid (show xprops.length ≤ 100000 by omega)
  clear hpf hrf hrr htr ht htl hrn hpm hr hord hv1 hv2 hv3 hv4 h60 hpl
  go_enter Tryz.func5, Tryz.ntmps5
  go_wp2_with fail
  refine (head_any _).mono ?_
  rintro e w1 ⟨rfl, hb1⟩
  have kC := (KC0.out).below hb1 (KC0.out).lt
  obtain ⟨xC1, yC1⟩ := kC.facts
  have zC1 := kC.lt
  have KC1 := Lib.hid kC
  have kS := (KS0.out).below hb1 (KS0.out).lt
  obtain ⟨xS1, yS1⟩ := kS.facts
  have zS1 := kS.lt
  have KS1 := Lib.hid kS
  have kE := (KE0.out).below hb1 (KE0.out).lt
  obtain ⟨xE1, yE1⟩ := kE.facts
  have zE1 := kE.lt
  have KE1 := Lib.hid kE
  have HB1 := Lib.hid ((HB0.out).trans (hb1.mono (HB0.out).size))
  clear hb1 kC kS kE
  go_wp2_with fail
  refine (HFW.out _ ((HB1.out).alloc (HB1.out).size _) (ev_sl (e := ⟨6, day, part, kind, into, slot, key, value, ukl, ukh, ucl, uch, ull, ulh⟩) (Has.new w1 33 #[.int .i64 6, .int .i64 day, .string part, .string kind, .string into, .string slot, .string key, .string value, .int .i64 ukl, .int .i64 ukh, .int .i64 ucl, .int .i64 uch, .int .i64 ull, .int .i64 ulh]))).mono ?_
  rintro e w2 ⟨rfl, hb2⟩
  rw [HFEW.out]
  clear xC1 yC1 zC1 xS1 yS1 zS1 xE1 yE1 zE1
  have kC := ((KC1.out).alloc _).below hb2 ((KC1.out).alloc _).lt
  obtain ⟨xC2, yC2⟩ := kC.facts
  have zC2 := kC.lt
  have KC2 := Lib.hid kC
  have kS := ((KS1.out).alloc _).below hb2 ((KS1.out).alloc _).lt
  obtain ⟨xS2, yS2⟩ := kS.facts
  have zS2 := kS.lt
  have KS2 := Lib.hid kS
  have kE := ((KE1.out).alloc _).below hb2 ((KE1.out).alloc _).lt
  obtain ⟨xE2, yE2⟩ := kE.facts
  have zE2 := kE.lt
  have KE2 := Lib.hid kE
  have HB2 := Lib.hid (((HB1.out).alloc (HB1.out).size _).trans (hb2.mono ((HB1.out).alloc (HB1.out).size _).size))
  clear hb2 kC kS kE
  go_wp2_with fail
  refine (HOK.out _ (HB2.out)).mono ?_
  rintro e w3 ⟨A3, c3, rfl, hst3, hb3⟩
  have HST3 := Lib.hid hst3
  clear hst3
  clear xC2 yC2 zC2 xS2 yS2 zS2 xE2 yE2 zE2
  have kC := (KC2.out).below hb3 (KC2.out).lt
  obtain ⟨xC3, yC3⟩ := kC.facts
  have zC3 := kC.lt
  have KC3 := Lib.hid kC
  have kS := (KS2.out).below hb3 (KS2.out).lt
  obtain ⟨xS3, yS3⟩ := kS.facts
  have zS3 := kS.lt
  have KS3 := Lib.hid kS
  have kE := (KE2.out).below hb3 (KE2.out).lt
  obtain ⟨xE3, yE3⟩ := kE.facts
  have zE3 := kE.lt
  have KE3 := Lib.hid kE
  have HB3 := Lib.hid ((HB2.out).trans (hb3.mono (HB2.out).size))
  clear hb3 kC kS kE
  go_wp2_with fail
  refine (HF1.out _ ((HB3.out).alloc (HB3.out).size _)).mono ?_
  rintro e w4 ⟨A4, m4, rfl, hpr4, hb4⟩
  have HPR4 := Lib.hid hpr4
  have HBZ := Lib.hid (((Below.refl w3.heap.size w3).alloc (Nat.le_refl _) _).trans (hb4.mono (by simp)) : Below w3.heap.size w3 w4)
  clear hpr4
  clear xC3 yC3 zC3 xS3 yS3 zS3 xE3 yE3 zE3
  have kC := ((KC3.out).alloc _).below hb4 ((KC3.out).alloc _).lt
  obtain ⟨xC4, yC4⟩ := kC.facts
  have zC4 := kC.lt
  have KC4 := Lib.hid kC
  have kS := ((KS3.out).alloc _).below hb4 ((KS3.out).alloc _).lt
  obtain ⟨xS4, yS4⟩ := kS.facts
  have zS4 := kS.lt
  have KS4 := Lib.hid kS
  have kE := ((KE3.out).alloc _).below hb4 ((KE3.out).alloc _).lt
  obtain ⟨xE4, yE4⟩ := kE.facts
  have zE4 := kE.lt
  have KE4 := Lib.hid kE
  have kT := (Has.new (w3) 27 #[.slice A3 t.length c3]).below hb4 (Has.new (w3) 27 #[.slice A3 t.length c3]).lt
  obtain ⟨xT4, yT4⟩ := kT.facts
  have zT4 := kT.lt
  have KT4 := Lib.hid kT
  have HB4 := Lib.hid (((HB3.out).alloc (HB3.out).size _).trans (hb4.mono ((HB3.out).alloc (HB3.out).size _).size))
  clear hb4 kC kS kE kT
  go_wp2_with fail
  refine (HF2.out w3 A3 c3 HST3.out _ (HBZ.out.alloc HBZ.out.size _)).mono ?_
  rintro e w5 ⟨A5, m5, rfl, hpr5, hb5⟩
  have HPR5 := Lib.hid hpr5
  have HBY := Lib.hid ((HBZ.out.alloc HBZ.out.size _).trans (hb5.mono (HBZ.out.alloc HBZ.out.size _).size))
  clear hpr5
  clear xC4 yC4 zC4 xS4 yS4 zS4 xE4 yE4 zE4 xT4 yT4 zT4
  have kC := ((KC4.out).alloc _).below hb5 ((KC4.out).alloc _).lt
  obtain ⟨xC5, yC5⟩ := kC.facts
  have zC5 := kC.lt
  have KC5 := Lib.hid kC
  have kS := ((KS4.out).alloc _).below hb5 ((KS4.out).alloc _).lt
  obtain ⟨xS5, yS5⟩ := kS.facts
  have zS5 := kS.lt
  have KS5 := Lib.hid kS
  have kE := ((KE4.out).alloc _).below hb5 ((KE4.out).alloc _).lt
  obtain ⟨xE5, yE5⟩ := kE.facts
  have zE5 := kE.lt
  have KE5 := Lib.hid kE
  have kT := ((KT4.out).alloc _).below hb5 ((KT4.out).alloc _).lt
  obtain ⟨xT5, yT5⟩ := kT.facts
  have zT5 := kT.lt
  have KT5 := Lib.hid kT
  have kP1 := (Has.new (w4) 47 #[.string pname, .string pkind, .string pinto, .string pslot, .int .i64 pmade, .int .i64 psince, .bool pgone, .slice A4 pprops.length m4, .int .i64 pkl, .int .i64 pkh, .int .i64 pcl, .int .i64 pch, .int .i64 pdl, .int .i64 pdh]).below hb5 (Has.new (w4) 47 #[.string pname, .string pkind, .string pinto, .string pslot, .int .i64 pmade, .int .i64 psince, .bool pgone, .slice A4 pprops.length m4, .int .i64 pkl, .int .i64 pkh, .int .i64 pcl, .int .i64 pch, .int .i64 pdl, .int .i64 pdh]).lt
  obtain ⟨xP15, yP15⟩ := kP1.facts
  have zP15 := kP1.lt
  have KP15 := Lib.hid kP1
  have HB5 := Lib.hid (((HB4.out).alloc (HB4.out).size _).trans (hb5.mono ((HB4.out).alloc (HB4.out).size _).size))
  clear hb5 kC kS kE kT kP1
  go_wp2_with fail
  obtain ⟨w6, hw6, hx2, hx3, hbw6⟩ : ∃ W, ((w5.alloc (.cells #[.string pname, .string pkind, .string pinto, .string pslot, .int .i64 pmade, .int .i64 psince, .bool pgone, .slice A5 xprops.length m5, .int .i64 pkl, .int .i64 pkh, .int .i64 pcl, .int .i64 pch, .int .i64 pdl, .int .i64 pdh] 47)).alloc (.cells #[.string pname, .string pkind, .string pinto, .string pslot, .int .i64 pmade, .int .i64 psince, .bool pgone, .slice A4 pprops.length m4, .int .i64 pkl, .int .i64 pkh, .int .i64 pcl, .int .i64 pch, .int .i64 pdl, .int .i64 pdh] 47)) = W ∧ Has W w5.heap.size 47 #[.string pname, .string pkind, .string pinto, .string pslot, .int .i64 pmade, .int .i64 psince, .bool pgone, .slice A5 xprops.length m5, .int .i64 pkl, .int .i64 pkh, .int .i64 pcl, .int .i64 pch, .int .i64 pdl, .int .i64 pdh] ∧ Has W (w5.heap.size + 1) 47 #[.string pname, .string pkind, .string pinto, .string pslot, .int .i64 pmade, .int .i64 psince, .bool pgone, .slice A4 pprops.length m4, .int .i64 pkl, .int .i64 pkh, .int .i64 pcl, .int .i64 pch, .int .i64 pdl, .int .i64 pdh] ∧ Below w5.heap.size w5 W := ⟨_, rfl, (Has.new w5 47 #[.string pname, .string pkind, .string pinto, .string pslot, .int .i64 pmade, .int .i64 psince, .bool pgone, .slice A5 xprops.length m5, .int .i64 pkl, .int .i64 pkh, .int .i64 pcl, .int .i64 pch, .int .i64 pdl, .int .i64 pdh]).alloc _, by have := Has.new (w5.alloc (.cells #[.string pname, .string pkind, .string pinto, .string pslot, .int .i64 pmade, .int .i64 psince, .bool pgone, .slice A5 xprops.length m5, .int .i64 pkl, .int .i64 pkh, .int .i64 pcl, .int .i64 pch, .int .i64 pdl, .int .i64 pdh] 47)) 47 #[.string pname, .string pkind, .string pinto, .string pslot, .int .i64 pmade, .int .i64 psince, .bool pgone, .slice A4 pprops.length m4, .int .i64 pkl, .int .i64 pkh, .int .i64 pcl, .int .i64 pch, .int .i64 pdl, .int .i64 pdh]; simpa only [World.size_alloc] using this, ((Below.refl w5.heap.size w5).alloc (Nat.le_refl _) _).alloc (by simp) _⟩
  rw [hw6]
  have HBY6 := Lib.hid (HBY.out.trans (hbw6.mono HBY.out.size))
  have HP1 := Lib.hid (KP15.out.below hbw6 KP15.out.lt)
  have HE6 := Lib.hid (KE5.out.below hbw6 KE5.out.lt)
  have HP2 := Lib.hid hx2
  have HP3 := Lib.hid hx3
  clear hw6 hx2 hx3 hbw6 xC5 yC5 zC5 xS5 yS5 zS5 xE5 yE5 zE5 xT5 yT5 zT5 xP15 yP15 zP15
  go_loopw [15, 16] (fun n i wr => ∃ k : Nat, k ≤ xprops.length ∧ i = .int .i64 k ∧ n = .int .i64 (cntK xprops key k) ∧ Hid (Below w6.heap.size w6 wr)) (fun _ i _ => xprops.length - (intOf i).toNat)
  case atStart => exact ⟨0, Nat.zero_le _, rfl, by simp [cntK], Below.refl _ _⟩
  case round =>
    obtain ⟨k, hk, rfl, rfl, HB7⟩ := hrel
    obtain ⟨w7, rfl⟩ : ∃ w7, w7 = wr := ⟨_, rfl⟩
    have hx60 : xprops.length ≤ 60 := HX60.out
    have hcl := cntK_le xprops key k
    obtain ⟨xe7, ye7⟩ := (HE6.out.below HB7.out HE6.out.lt).facts
    obtain ⟨xp7, yp7⟩ := (HP1.out.below HB7.out HP1.out.lt).facts
    obtain ⟨xq7, yq7⟩ := (HP2.out.below HB7.out HP2.out.lt).facts
    by_cases hlt : k < xprops.length
    · obtain ⟨b5, o5, c', csx, he, _, hpr, _, hrg⟩ := HPR5.out.get hlt noPr
      injection he with e1 e2 e3
      subst e1; subst e3
      unfold PrR at hpr
      subst hpr
      have hval := HV1.out _ (getD_mem xprops k noPr hlt)
      have hcnt := Lib.hid (cntK_succ (key := key) hlt)
      have hki : (k : Int) < (xprops.length : Int) := by omega
      have hk0 : (0 : Int) ≤ (k : Int) := by omega
      generalize xprops.getD k noPr = X at *
      obtain ⟨xk, xv⟩ := X
      have HRX := Lib.hid hrg
      have HVAL := Lib.hid hval
      clear hrg hval
      dsimp only at HRX HVAL hcnt
      go_wp2_with fail
      go_loopw [17, 18] (fun o j wq => ∃ q : Nat, q ≤ pprops.length ∧ j = .int .i64 q ∧ o = .string (lastV (pprops.take q) xk) ∧ Hid (Below w6.heap.size w6 wq)) (fun _ j _ => pprops.length - (intOf j).toNat)
      case atStart => exact ⟨0, Nat.zero_le _, rfl, rfl, HB7.out⟩
      case round =>
        obtain ⟨q, hq, rfl, rfl, HB8⟩ := hrel
        obtain ⟨w8, rfl⟩ : ∃ w8, w8 = wr := ⟨_, rfl⟩
        clear xe7 ye7 xp7 yp7 xq7 yq7
        have hpl : pprops.length ≤ 100000 := HPL.out
        obtain ⟨xe8, ye8⟩ := (HE6.out.below HB8.out HE6.out.lt).facts
        obtain ⟨xp8, yp8⟩ := (HP1.out.below HB8.out HP1.out.lt).facts
        obtain ⟨xq8, yq8⟩ := (HP2.out.below HB8.out HP2.out.lt).facts
        have r0 : w8.cell? ⟨b5, o5 + k * 2, none⟩ = some (.string xk) := range_later HRX.out (HBY6.out.trans (HB8.out.mono HBY6.out.size)) 0 _ rfl
        have r1 : w8.cell? ⟨b5, o5 + k * 2 + 1, none⟩ = some (.string xv) := range_later HRX.out (HBY6.out.trans (HB8.out.mono HBY6.out.size)) 1 _ rfl
        by_cases hlt2 : q < pprops.length
        · obtain ⟨b4, o4, c'', csy, he, _, hpr, _, hrg⟩ := HPR4.out.get hlt2 noPr
          injection he with e1 e2 e3
          subst e1; subst e3
          unfold PrR at hpr
          subst hpr
          have hls := Lib.hid (lastV_succ (x := xk) hlt2)
          have hqi : (q : Int) < (pprops.length : Int) := by omega
          have hq0 : (0 : Int) ≤ (q : Int) := by omega
          generalize pprops.getD q noPr = Y at *
          obtain ⟨yk, yv⟩ := Y
          dsimp only at hls hrg
          have s0 : w8.cell? ⟨b4, o4 + q * 2, none⟩ = some (.string yk) := range_later hrg (HB3.out.trans ((HBY6.out.trans (HB8.out.mono HBY6.out.size)).mono HB3.out.size)) 0 _ rfl
          have s1 : w8.cell? ⟨b4, o4 + q * 2 + 1, none⟩ = some (.string yv) := range_later hrg (HB3.out.trans ((HBY6.out.trans (HB8.out.mono HBY6.out.size)).mono HB3.out.size)) 1 _ rfl
          clear hrg
          cases hb : (yk.toList == xk.toList)
          · have HL2 := Lib.hid (show lastV (pprops.take (q + 1)) xk = lastV (pprops.take q) xk by rw [hls.out, if_neg]; intro e; rw [e] at hb; simp at hb)
            go_wp2_with fail
            go_quiet (fail)
            go_wp2_with fail
            go_roundw
            case rel => exact ⟨q + 1, by omega, by go_num, by rw [HL2.out], below_drewN HB8.out _⟩
            case measure => simp [intOf]; omega
          · have HL2 := Lib.hid (show lastV (pprops.take (q + 1)) xk = yv by rw [hls.out, if_pos]; rw [bytes_beq] at hb; exact of_decide_eq_true hb)
            go_wp2_with fail
            go_quiet (fail)
            go_wp2_with fail
            go_roundw
            case rel => exact ⟨q + 1, by omega, by go_num, by rw [HL2.out], below_drewN HB8.out _⟩
            case measure => simp [intOf]; omega
        · obtain rfl : q = pprops.length := by omega
          rw [List.take_length]
          cases hb : (xk.toList == key.toList)
          · have hxv : lastV pprops xk = xv := by rw [← HVAL.out, if_neg]; intro e; rw [e] at hb; simp at hb
            have HC := Lib.hid (show cntK xprops key (k + 1) = cntK xprops key k by rw [hcnt.out, if_neg (by intro e; rw [e] at hb; simp at hb), Nat.add_zero])
            rw [hxv]
            have hvv : (xv.toList != xv.toList) = false := by simp
            go_wp2_with fail
            go_quiet (fail)
            go_wp2_with fail
            go_roundw
            case rel => exact ⟨k + 1, by omega, by go_num, by rw [HC.out], below_drewN HB8.out _⟩
            case measure => simp [intOf]; omega
          · have hxk : xk = key := by rw [bytes_beq] at hb; exact of_decide_eq_true hb
            have hxv : value = xv := by rw [← HVAL.out, if_pos hxk]
            have HC := Lib.hid (show cntK xprops key (k + 1) = cntK xprops key k + 1 by rw [hcnt.out, if_pos hxk])
            clear hxk HVAL
            subst hxv
            go_wp2_with fail
            go_quiet (fail)
            go_wp2_with fail
            go_roundw
            case rel => exact ⟨k + 1, by omega, by go_num, by rw [HC.out]; go_num, below_drewN HB8.out _⟩
            case measure => simp [intOf]; omega
    · obtain rfl : k = xprops.length := by omega
      rw [HV2.out]
      have hv3 := HV3.out
      have hv4 := HV4.out
      have hpl : pprops.length ≤ 100000 := HPL.out
      have hd1 : decide ((xprops.length : Int) < (pprops.length : Int)) = false := by rw [decide_eq_false_iff_not]; omega
      have hwr1 : IntKind.i64.wrap ((pprops.length : Int) + 1) = (pprops.length : Int) + 1 := by rw [IntKind.wrap_i64]; omega
      have hd2 : decide ((pprops.length : Int) + 1 < (xprops.length : Int)) = false := by rw [decide_eq_false_iff_not]; omega
      have H37 := Lib.hid (HP3.out.below HB7.out HP3.out.lt)
      obtain ⟨x37, y37⟩ := H37.out.facts
      have hpz : w3.heap.size ≤ w5.heap.size + 1 := by have := HBY.out.size; omega
      have HBW := Lib.hid ((HBY6.out.trans (HB7.out.mono HBY6.out.size)).setCell (p := ⟨w5.heap.size + 1, 7, none⟩) hpz (.slice A5 xprops.length m5))
      clear hv3 hv4 hcl hx60
      go_wp2_with fail

      refine (samePart_any pname pkind pinto pslot pmade psince pgone xprops pkl pkh pcl pch pdl pdh pname pkind pinto pslot pmade psince pgone xprops pkl pkh pcl pch pdl pdh A5 A5 m5 m5 _ (HPR5.out.below PrR.stays HBW.out) (HPR5.out.below PrR.stays HBW.out) HXL.out HXL.out).mono ?_
      rintro e w9 ⟨rfl, hb9⟩
      rw [decide_eq_true rfl]
      have HB9 := Lib.hid ((HB3.out.trans (HBW.out.mono HB3.out.size)).trans (hb9.mono (HB3.out.trans (HBW.out.mono HB3.out.size)).size))
      clear hb9
      go_wp2_with fail
      go_ret
      exact ⟨rfl, HB9.out⟩
theorem means_any (cv sv : Value) (c : List Kd) (l : List Pa) (ev : Ev) (w : World) (hcat : Cat w cv c) (hsta : Sta w sv l) (hl : l.length ≤ maxLen) (hps : ∀ p ∈ l, p.wide) (hev : ev.short) :
    Calls Tryz.prog 5 #[.agg #[cv], .agg #[sv], .agg ev.cells] w fun e w' => e = .returned (.bool true) ∧ Below w.heap.size w w' := by
  obtain ⟨op, day, part, kind, into, slot, key, value, ukl, ukh, ucl, uch, ull, ulh⟩ := ev
  cases hfew : fewB c l [⟨op, day, part, kind, into, slot, key, value, ukl, ukh, ucl, uch, ull, ulh⟩]
  · exact mean_e1 cv sv c l op day part kind into slot key value ukl ukh ucl uch ull ulh w hcat hsta hl hps hev hfew
  by_cases ho : op = 1
  · subst ho; exact mean_e2 cv sv c l day part kind into slot key value ukl ukh ucl uch ull ulh w hcat hsta hl hps hev hfew
  obtain ⟨t, re, hr⟩ : ∃ t re, applyL c l ⟨op, day, part, kind, into, slot, key, value, ukl, ukh, ucl, uch, ull, ulh⟩ = (t, re) := ⟨_, _, rfl⟩
  by_cases hre : re = 0
  · subst hre
    have h := (evOk_iff.1 (apply_iff.1 hr).2.1).1
    dsimp only at h
    have hc : op = 2 ∨ op = 3 ∨ op = 4 ∨ op = 5 ∨ op = 6 ∨ op = 7 := by omega
    rcases hc with rfl | rfl | rfl | rfl | rfl | rfl
    · exact mean_2 cv sv c l day part kind into slot key value ukl ukh ucl uch ull ulh w hcat hsta hl hps hev hfew t hr
    · exact mean_3 cv sv c l day part kind into slot key value ukl ukh ucl uch ull ulh w hcat hsta hl hps hev hfew t hr
    · exact mean_4 cv sv c l day part kind into slot key value ukl ukh ucl uch ull ulh w hcat hsta hl hps hev hfew t hr
    · exact mean_5 cv sv c l day part kind into slot key value ukl ukh ucl uch ull ulh w hcat hsta hl hps hev hfew t hr
    · exact mean_6 cv sv c l day part kind into slot key value ukl ukh ucl uch ull ulh w hcat hsta hl hps hev hfew t hr
    · exact mean_7 cv sv c l day part kind into slot key value ukl ukh ucl uch ull ulh w hcat hsta hl hps hev hfew t hr
  · exact mean_e3 cv sv c l op day part kind into slot key value ukl ukh ucl uch ull ulh w hcat hsta hl hps hev hfew t re hr hre ho
end Go.Proofs.YtpikcofbhkbifaaGreat
namespace Go.Proofs.YtpikcofbhkbifaaGreat.means
open Go Go.RowKit Go.ChangeShapes Go.WideShapes Go.ChangeAt
set_option maxRecDepth 100000 in
theorem contract (H : Type) (enc : TypeId × Value → H) (W : World) (base : Nat) (args : Array Value) (ds gs : List (DataW H)) (before : List MemPlace)
    (hval : ∀ (j : Nat) t v, Tryz.f5.params[j]? = some t → args[j]? = some v → Value.okWide Tryz.prog W .any base t v)
    (hW : DataW.Whole enc Tryz.prog Tryz.f5.params.toList Rows.fleetMeansSpec.vars false W args.toList ds gs before)
    (hZ : (DataW.weightsEach Tryz.prog (Tryz.f5.params.toList ++ (OpenSpec.ofChange Rows.fleetMeansSpec).bare.plain.varTypes Tryz.prog) (ds ++ gs)).all (· ≤ reachBytes) = true) :
    Calls Tryz.prog 5 args W fun e W' => ∃ v, e = .returned v ∧ Rows.fleetMeansSpec.post enc Tryz.prog Tryz.f5 false true false false W args v W' := by
  have hW' := hW
  obtain ⟨p, q, hA0, hV, rfl, hfz, hnd⟩ := hW
  have hA : DataW.TrodAll enc Tryz.prog W 0 (fun _ => true) true Tryz.f5.params.toList args.toList ds p := hA0
  rw [Tryz.params5] at hA hval hZ
  obtain ⟨w0, vs0, d0, ds0, p0, q0, hargs, rfl, rfl, t0, r0⟩ := trodAll_cons hA
  obtain ⟨w1, vs1, d1, ds1, p1, q1, rfl, rfl, rfl, t1, r1⟩ := trodAll_cons r0
  obtain ⟨w2, vs2, d2, ds2, p2, q2, rfl, rfl, rfl, t2, r2⟩ := trodAll_cons r1
  obtain ⟨rfl, rfl, rfl⟩ := trodAll_nil r2
  obtain rfl : args = #[w0, w1, w2] := by cases args; simp_all
  obtain ⟨rfl, rfl⟩ := trodVars_none hV
  have g0 : Light Tryz.prog 24 d0 := light_of hZ (j := 0) rfl rfl
  obtain ⟨cs0, rfl, hz0, m0, t0⟩ := struct_cells Tryz.underlying24 (hval 0 _ w0 rfl rfl) t0
  obtain ⟨v0, c0, hcs0, h0⟩ := open_cat t0 g0 (by rw [Array.length_toList, hz0]; kernel_rfl)
  obtain rfl : cs0 = #[v0] := by cases cs0; simp_all
  have g1 : Light Tryz.prog 27 d1 := light_of hZ (j := 1) rfl rfl
  obtain ⟨cs1, rfl, hz1, m1, t1⟩ := struct_cells Tryz.underlying27 (hval 1 _ w1 rfl rfl) t1
  obtain ⟨v1, l1, hcs1, h1, hl1, hw1⟩ := open_sta t1 g1 (by rw [Array.length_toList, hz1]; kernel_rfl)
  obtain rfl : cs1 = #[v1] := by cases cs1; simp_all
  have g2 : Light Tryz.prog 33 d2 := light_of hZ (j := 2) rfl rfl
  obtain ⟨cs2, rfl, hz2, m2, t2⟩ := struct_cells Tryz.underlying33 (hval 2 _ w2 rfl rfl) t2
  obtain ⟨e2, hcs2, hs2⟩ := open_evF t2 g2 (by rw [Array.length_toList, hz2]; kernel_rfl)
  obtain rfl : cs2 = e2.cells := by cases cs2; cases hce : e2.cells; simp_all
  refine (means_any v0 v1 c0 l1 e2 W h0 h1 hl1 hw1 hs2).mono ?_
  rintro e W' ⟨rfl, hb⟩
  exact ⟨_, rfl, law_post (s := Rows.fleetMeansSpec) rfl laidOut (by kernel_rfl) (by kernel_rfl) Tryz.underlying4 hW' rfl hb⟩
def wargs : Array Value := #[.agg #[.slice none 0 0], .agg #[.slice none 0 0], .agg #[.int .i64 0, .int .i64 0, .string ⟨#[]⟩, .string ⟨#[]⟩, .string ⟨#[]⟩, .string ⟨#[]⟩, .string ⟨#[]⟩, .string ⟨#[]⟩, .int .i64 0, .int .i64 0, .int .i64 0, .int .i64 0, .int .i64 0, .int .i64 0]]
set_option maxRecDepth 100000 in
theorem reads (os : Os) {H : Type} (enc : TypeId × Value → H) : ∃ places, DataW.whole enc Tryz.prog ((World.holding Tryz.prog os ⟨#[], #[], []⟩).forCall (fun _ _ => 0) ⟨#[], wargs, []⟩).memory Tryz.f5.params.toList Rows.fleetMeansSpec.vars false wargs.toList 8 = some ([.agg [.nil], .agg [.nil], .agg [.lit (.int .i64 0), .lit (.int .i64 0), .lit (.string []), .lit (.string []), .lit (.string []), .lit (.string []), .lit (.string []), .lit (.string []), .agg [.agg [.lit (.int .i64 0), .lit (.int .i64 0)], .agg [.lit (.int .i64 0), .lit (.int .i64 0)], .agg [.lit (.int .i64 0), .lit (.int .i64 0)]]]], [], places) :=
  ⟨[], by kernel_rfl⟩
set_option maxRecDepth 100000 in
theorem laid_met (os : Os) : laidMet Tryz.prog Rows.fleetMeansRow.laid ((World.holding Tryz.prog os ⟨#[], #[], []⟩).forCall (fun _ _ => 0) ⟨#[], wargs, []⟩).memory :=
  laidMet_of_run' 8 (by kernel_rfl) (by kernel_rfl)
set_option maxRecDepth 100000 in
theorem lifted (os : Os) (started : os.Started) (H : Type) (enc : TypeId × Value → H) (F : Stop.Interp) :
    ReturnsInHanded {} Tryz.checked os 5 .any ((OpenSpec.ofChange Rows.fleetMeansSpec).preRow enc Tryz.prog Tryz.f5 Rows.fleetMeansRow.domain false Rows.fleetMeansRow.laid) (((OpenSpec.ofChange Rows.fleetMeansSpec).at F).post enc Tryz.prog Tryz.f5 false true false false) := by
  obtain ⟨places, hx⟩ := reads os enc
  refine returnsInHanded_of_row (C := Tryz.checked) (s := OpenSpec.ofChange Rows.fleetMeansSpec) own started (by kernel_rfl) Tryz.func5
    (witness_row_at (enc := enc) (C := Tryz.checked) false (World.holding Tryz.prog os ⟨#[], #[], []⟩) wargs rfl (by kernel_rfl) (by kernel_rfl) (by kernel_rfl)
      (OpenSpec.preRow_of_cond 8 hx (by kernel_rfl) (fun k hk => by cases hk) (by kernel_rfl) (laid_met os))) ?_
  intro W base args ds gs before hval hW _ _ hZ _ _ _
  exact contract H enc W base args ds gs before hval hW hZ
theorem said : Rows.FleetMeansSaid :=
  OpenClaim.holds_of_cond 5 Tryz.f5 rfl rfl rfl rfl rfl rfl rfl ⟨rfl, rfl, rfl, rfl, rfl⟩ rfl rfl rfl rfl rfl (by kernel_rfl) Tryz.func5 (by kernel_rfl)
    (of_decide_eq_true (by kernel_rfl)) (by unfold Func.isWrapper; first | (rw [if_pos (by decide +kernel)]; kernel_rfl) | (rw [if_neg (by decide +kernel)]; exact ⟨rfl, rfl⟩))
    (fun os started H enc _ F => by rw [OpenClaim.pre_eq_preRow]; exact lifted os started H enc F)
#print axioms said
end Go.Proofs.YtpikcofbhkbifaaGreat.means
