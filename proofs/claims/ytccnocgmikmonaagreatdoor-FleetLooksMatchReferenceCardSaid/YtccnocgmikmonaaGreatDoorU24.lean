/- fleet.Apply at OpFit: it is fitted. fleet.Apply at every catalog, state and event. The chapter's example: its catalog, its events. The cells of a row of events. No condition. -/
import Derived.Test.YtccnocgmikmonaaGreatDoorU02
import Derived.Test.YtccnocgmikmonaaGreatDoorU13
import Derived.Test.YtccnocgmikmonaaGreatDoorU14
import Derived.Test.YtccnocgmikmonaaGreatDoorU15
import Derived.Test.YtccnocgmikmonaaGreatDoorU16
import Derived.Test.YtccnocgmikmonaaGreatDoorU17
import Derived.Test.YtccnocgmikmonaaGreatDoorU18
import Derived.Test.YtccnocgmikmonaaGreatDoorU19
import Derived.Test.YtccnocgmikmonaaGreatDoorU20
import Derived.Test.YtccnocgmikmonaaGreatDoorU21
import Derived.Test.YtccnocgmikmonaaGreatDoorU22
import Derived.Test.YtccnocgmikmonaaGreatDoorU23
namespace Go.Proofs.YtccnocgmikmonaaGreatDoor
open Go Go.RowKit
set_option maxRecDepth 100000 in
set_option maxHeartbeats 16000000 in
theorem fit_ok (w0 : World) (cv sv : Value) (c : List Kd) (l : List Pa) (op day : Int) (part kind into slot key value : ByteArray) (ukl ukh ucl uch ull ulh : Int) (w : World) (hb0 : Below w0.heap.size w0 w) (hcat : Cat w0 cv c) (hcl : c.length ≤ 100000) (hks : ∀ k ∈ c, k.short) (hsta : Sta w0 sv l) (hl : l.length ≤ 99999) (hps : ∀ p ∈ l, p.short) (hev : Ev.short ⟨op, day, part, kind, into, slot, key, value, ukl, ukh, ucl, uch, ull, ulh⟩) (hvb : validB c l = true) (hok : evOk ⟨op, day, part, kind, into, slot, key, value, ukl, ukh, ucl, uch, ull, ulh⟩ = true) (hop : op = 2) (p : Pa) (hpf : pfind l part = some p) (h : Pa) (hhf : pfind l into = some h) (hgo : p.gone = false) (hhg : h.gone = false) (hve : ((kfind c p.kind).getD noKd).veh = false) (htb : takesB c h.kind slot p.kind = true) (hin : p.into = eS) (hhd : heldAt l into slot = false) :
    Calls Tryz.prog 27 #[.agg #[cv], .agg #[sv], .agg #[.int .i64 op, .int .i64 day, .string part, .string kind, .string into, .string slot, .string key, .string value, .int .i64 ukl, .int .i64 ukh, .int .i64 ucl, .int .i64 uch, .int .i64 ull, .int .i64 ulh]] w fun r w' => ∃ v', r = .returned (.tuple #[.agg #[v'], .int .i64 (applyL c l ⟨op, day, part, kind, into, slot, key, value, ukl, ukh, ucl, uch, ull, ulh⟩).2]) ∧ Sta w' v' (applyL c l ⟨op, day, part, kind, into, slot, key, value, ukl, ukh, ucl, uch, ull, ulh⟩).1 ∧ Below w.heap.size w w' := by
  obtain ⟨A', cc, rfl, hn⟩ := Rd.form hcat
  obtain ⟨A, cs0, rfl, hn0⟩ := Rd.form hsta
  have HB0 := Lib.hid hb0
  have hsz0 := hb0.size
  have B0 := Lib.hid (ApB.new w A' c.length cc A l.length cs0 #[.int .i64 op, .int .i64 day, .string part, .string kind, .string into, .string slot, .string key, .string value, .int .i64 ukl, .int .i64 ukh, .int .i64 ucl, .int .i64 uch, .int .i64 ull, .int .i64 ulh])
  have HV := Lib.hid hsta
  have HFV := Lib.hid (fun W (h : Below w0.heap.size w0 W) => fvalid_any w0 _ _ c l W h hcat hcl hks hsta (by omega) hps)
  have HF := Lib.hid (fun x W (h : Below w0.heap.size w0 W) => find_any w0 _ c x W h hcat hcl)
  have HTK := Lib.hid (fun x y z W (h : Below w0.heap.size w0 W) => takes_any w0 _ c x y z W h hcat hcl hks)
  have HOF := Lib.hid (fun W (h : Below w0.heap.size w0 W) => of_any w0 _ l W h hsta (by omega))
  have HGT := Lib.hid (fun g x W (h : Below w0.heap.size w0 W) hM => get_any w0 _ l g x W h hsta hM)
  have HPS := Lib.hid hps
  clear hb0 hcat hks hsta hps
  have HVB := Lib.hid hvb
  have HOK := Lib.hid hok
  have HSO := Lib.hid (validB_sorted hvb)
  have HG1 := Lib.hid (fun g W h hM => HGT.out g part W h hM)
  have HST : Hid (applyL c l ⟨op, day, part, kind, into, slot, key, value, ukl, ukh, ucl, uch, ull, ulh⟩ = stepL c l ⟨op, day, part, kind, into, slot, key, value, ukl, ukh, ucl, uch, ull, ulh⟩) := by show applyL c l ⟨op, day, part, kind, into, slot, key, value, ukl, ukh, ucl, uch, ull, ulh⟩ = stepL c l ⟨op, day, part, kind, into, slot, key, value, ukl, ukh, ucl, uch, ull, ulh⟩; unfold applyL; rw [hvb, hok]; rfl
  clear hvb hok
  subst hop
  have HG2 := Lib.hid (fun g W h hM => HGT.out g into W h hM)
  have HPF := Lib.hid hpf
  rw [hpf] at HG1
  obtain ⟨pname, pkind, pinto, pslot, pmade, psince, pgone, pprops, pkl, pkh, pcl, pch, pdl, pdh⟩ := p
  simp only [Option.getD_some, Option.isSome_some] at HG1
  clear hpf
  have HHF := Lib.hid hhf
  rw [hhf] at HG2
  obtain ⟨hname, hkind, hinto, hslot, hmade, hsince, hgone, hprops, hkl, hkh, hcl', hch, hdl, hdh⟩ := h
  simp only [Option.getD_some, Option.isSome_some] at HG2
  clear hhf
  obtain rfl : pgone = false := hgo
  obtain rfl : hgone = false := hhg
  change ((kfind c pkind).getD noKd).veh = false at hve
  have HFK := Lib.hid (fun W h => HF.out pkind W h)
  have HKE : Hid (((kfind c pkind).getD noKd).veh = ((kfind c pkind).getD noKd).veh) := rfl
  generalize hfk : (kfind c pkind).getD noKd = fk at *
  have HFKE := Lib.hid hfk
  clear hfk HKE
  generalize (kfind c pkind).isSome = kb at *
  obtain ⟨fn, fv, fs⟩ := fk
  obtain rfl : fv = false := hve
  change takesB c hkind slot pkind = true at htb
  have HTB := Lib.hid htb
  clear htb
  change pinto = eS at hin
  have hi : pinto.toList.isEmpty = true := (emp_iff pinto).trans (decide_eq_true hin)
  have HIN := Lib.hid hin
  clear hin
  have hhe : (l.any fun q => (q.into.toList == into.toList) && (q.slot.toList == slot.toList)) = heldAt l into slot := by unfold heldAt; simp only [bytes_beq]
  have HHD := Lib.hid (hhe.trans hhd)
  have HHE := Lib.hid hhd
  clear hhe hhd
  go_enter Tryz.func27, Tryz.ntmps27
  go_wp2_with (first | (go_at_call 28; refine (HFV.out _ (HB0.out.trans (B0.out.b.mono hsz0))).mono ?_; rintro e w1 ⟨rfl, hb1⟩; rw [HVB.out]; have B1 := Lib.hid (B0.out.below hb1); obtain ⟨f1, f2, f3, f4, f5⟩ := B1.out.cells; clear hb1) | (go_at_call 50; refine (valid_any ⟨_, day, part, kind, into, slot, key, value, ukl, ukh, ucl, uch, ull, ulh⟩ _ hev).mono ?_; rintro e w2 ⟨rfl, hb2⟩; rw [HOK.out]; have B2 := Lib.hid (B1.out.below hb2); obtain ⟨g1, g2, g3, g4, g5⟩ := B2.out.cells; clear hb2) | (go_at_call 30; refine (HOF.out _ (HB0.out.trans (B2.out.b.mono hsz0))).mono ?_; rintro e w3 ⟨gi, rfl, hM3, hgi, hb3⟩; have hgil := hM3.lt; have hz3 := (B2.out.below hb3).z; have B3 := Lib.hid ((B2.out.below hb3).alloc (.cells #[.slice A l.length cs0, .map (some gi)] 69)); obtain ⟨a1, a2, a3, a4, a5⟩ := B3.out.cells; have HM3 := Lib.hid (hM3.alloc (.cells #[.slice A l.length cs0, .map (some gi)] 69)); have hY3 := Has.new w3 69 #[.slice A l.length cs0, .map (some gi)]; obtain ⟨y1, y2⟩ := hY3.facts; have HY3 := Lib.hid hY3; clear hb3 hM3 hY3) | (go_at_call_of 31 (Value.string part); refine (HG1.out gi _ (HB0.out.trans (B3.out.b.mono hsz0)) HM3.out).mono ?_; rintro e w4 ⟨A1, m1, rfl, hr1, hb4⟩; have B4 := Lib.hid ((B3.out.below hb4).alloc (.cells #[.string pname, .string pkind, .string pinto, .string pslot, .int .i64 pmade, .int .i64 psince, .bool false, .slice A1 pprops.length m1, .int .i64 pkl, .int .i64 pkh, .int .i64 pcl, .int .i64 pch, .int .i64 pdl, .int .i64 pdh] 33)); obtain ⟨b1, b2, b3, b4, b5⟩ := B4.out.cells; have hP4 := Has.new w4 33 #[.string pname, .string pkind, .string pinto, .string pslot, .int .i64 pmade, .int .i64 psince, .bool false, .slice A1 pprops.length m1, .int .i64 pkl, .int .i64 pkh, .int .i64 pcl, .int .i64 pch, .int .i64 pdl, .int .i64 pdh]; obtain ⟨q1, q2⟩ := hP4.facts; have HP4 := Lib.hid hP4; have HR1 := Lib.hid hr1; have z4 := hb4.size; have HY4 := Lib.hid ((HY3.out.below hb4 (by simp)).alloc (.cells #[.string pname, .string pkind, .string pinto, .string pslot, .int .i64 pmade, .int .i64 psince, .bool false, .slice A1 pprops.length m1, .int .i64 pkl, .int .i64 pkh, .int .i64 pcl, .int .i64 pch, .int .i64 pdl, .int .i64 pdh] 33)); obtain ⟨y3, y4⟩ := ((HY3.out.below hb4 (by simp)).alloc (.cells #[.string pname, .string pkind, .string pinto, .string pslot, .int .i64 pmade, .int .i64 psince, .bool false, .slice A1 pprops.length m1, .int .i64 pkl, .int .i64 pkh, .int .i64 pcl, .int .i64 pch, .int .i64 pdl, .int .i64 pdh] 33)).facts; have HM4 := Lib.hid ((HM3.out.below hb4 (by simp; omega)).alloc (.cells #[.string pname, .string pkind, .string pinto, .string pslot, .int .i64 pmade, .int .i64 psince, .bool false, .slice A1 pprops.length m1, .int .i64 pkl, .int .i64 pkh, .int .i64 pcl, .int .i64 pch, .int .i64 pdl, .int .i64 pdh] 33)); have B5 := Lib.hid (B4.out.alloc (.cells #[.string pname, .string pkind, .string pinto, .string pslot, .int .i64 pmade, .int .i64 psince, .bool false, .slice A1 pprops.length m1, .int .i64 pkl, .int .i64 pkh, .int .i64 pcl, .int .i64 pch, .int .i64 pdl, .int .i64 pdh] 33)); obtain ⟨d1, d2, d3, d4, d5⟩ := B5.out.cells; obtain ⟨q3, q4⟩ := (HP4.out.alloc (.cells #[.string pname, .string pkind, .string pinto, .string pslot, .int .i64 pmade, .int .i64 psince, .bool false, .slice A1 pprops.length m1, .int .i64 pkl, .int .i64 pkh, .int .i64 pcl, .int .i64 pch, .int .i64 pdl, .int .i64 pdh] 33)).facts; have HP5 := Lib.hid (HP4.out.alloc (.cells #[.string pname, .string pkind, .string pinto, .string pslot, .int .i64 pmade, .int .i64 psince, .bool false, .slice A1 pprops.length m1, .int .i64 pkl, .int .i64 pkh, .int .i64 pcl, .int .i64 pch, .int .i64 pdl, .int .i64 pdh] 33)); have hH5 := Has.new (w4.alloc (.cells #[.string pname, .string pkind, .string pinto, .string pslot, .int .i64 pmade, .int .i64 psince, .bool false, .slice A1 pprops.length m1, .int .i64 pkl, .int .i64 pkh, .int .i64 pcl, .int .i64 pch, .int .i64 pdl, .int .i64 pdh] 33)) 33 #[.string pname, .string pkind, .string pinto, .string pslot, .int .i64 pmade, .int .i64 psince, .bool false, .slice A1 pprops.length m1, .int .i64 pkl, .int .i64 pkh, .int .i64 pcl, .int .i64 pch, .int .i64 pdl, .int .i64 pdh]; simp only [World.size_alloc] at hH5; obtain ⟨q5, q6⟩ := hH5.facts; have HH5 := Lib.hid hH5; have hPz : w.heap.size + 1 + 1 + 1 < w4.heap.size := (by have := B3.out.z; omega); have HM5 := Lib.hid ((HM4.out.alloc (.cells #[.string pname, .string pkind, .string pinto, .string pslot, .int .i64 pmade, .int .i64 psince, .bool false, .slice A1 pprops.length m1, .int .i64 pkl, .int .i64 pkh, .int .i64 pcl, .int .i64 pch, .int .i64 pdl, .int .i64 pdh] 33))); have HY5 := Lib.hid (HY4.out.alloc (.cells #[.string pname, .string pkind, .string pinto, .string pslot, .int .i64 pmade, .int .i64 psince, .bool false, .slice A1 pprops.length m1, .int .i64 pkl, .int .i64 pkh, .int .i64 pcl, .int .i64 pch, .int .i64 pdl, .int .i64 pdh] 33)); obtain ⟨y5, y6⟩ := (HY4.out.alloc (.cells #[.string pname, .string pkind, .string pinto, .string pslot, .int .i64 pmade, .int .i64 psince, .bool false, .slice A1 pprops.length m1, .int .i64 pkl, .int .i64 pkh, .int .i64 pcl, .int .i64 pch, .int .i64 pdl, .int .i64 pdh] 33)).facts; clear hb4 hP4 hr1 hH5) | (go_at_call_of 31 (Value.string into); refine (HG2.out gi _ (HB0.out.trans (B5.out.b.mono hsz0)) HM5.out).mono ?_; rintro e w7 ⟨A2, m2, rfl, hr2, hb7⟩; have z7 := hb7.size; simp only [World.size_alloc] at z7; have HH6 := Lib.hid (HH5.out.below hb7 (by simp)); have hP7 := (HP5.out.below hb7 (by simp; omega)).setFar (g' := w4.heap.size + 1) (by omega) 0 [.string hname, .string hkind, .string hinto, .string hslot, .int .i64 hmade, .int .i64 hsince, .bool false, .slice A2 hprops.length m2, .int .i64 hkl, .int .i64 hkh, .int .i64 hcl', .int .i64 hch, .int .i64 hdl, .int .i64 hdh]; obtain ⟨t1, t2⟩ := hP7.facts; have HP7 := Lib.hid hP7; have hH7 := HH6.out.setAll [.string hname, .string hkind, .string hinto, .string hslot, .int .i64 hmade, .int .i64 hsince, .bool false, .slice A2 hprops.length m2, .int .i64 hkl, .int .i64 hkh, .int .i64 hcl', .int .i64 hch, .int .i64 hdl, .int .i64 hdh] rfl; obtain ⟨t3, t4⟩ := hH7.facts; have HH7 := Lib.hid hH7; have B7 := Lib.hid ((B5.out.below hb7).setCells (g := w4.heap.size + 1) (by omega) 0 [.string hname, .string hkind, .string hinto, .string hslot, .int .i64 hmade, .int .i64 hsince, .bool false, .slice A2 hprops.length m2, .int .i64 hkl, .int .i64 hkh, .int .i64 hcl', .int .i64 hch, .int .i64 hdl, .int .i64 hdh]); obtain ⟨u1, u2, u3, u4, u5⟩ := B7.out.cells; have HT7 := Lib.hid (there_of_has (n := 14) HH6.out (Nat.le_refl 14)); clear hb7 hP7 hH7 hr2) | ((with_reducible show wpList _ _ _ (Oper.mk none (Op.store 33 _ _) _ _ _ _ :: _) _ _); refine wpList_store_mid rfl 33 _ _ rfl (w4.heap.size + 1) 0 #[.string hname, .string hkind, .string hinto, .string hslot, .int .i64 hmade, .int .i64 hsince, .bool false, .slice A2 hprops.length m2, .int .i64 hkl, .int .i64 hkh, .int .i64 hcl', .int .i64 hch, .int .i64 hdl, .int .i64 hdh] rfl rfl HT7.out sizeP (all_oneCell_toArray (by intro u hu; simp only [List.mem_cons, List.mem_nil_iff, or_false] at hu; rcases hu with rfl | rfl | rfl | rfl | rfl | rfl | rfl | rfl | rfl | rfl | rfl | rfl | rfl | rfl <;> rfl)) ?_) | (go_at_call 55; refine (HFK.out _ (HB0.out.trans (B7.out.b.mono hsz0))).mono ?_; rintro e w6 ⟨A6, m6, rfl, hr6, hb6⟩; have z6 := hb6.size; rw [size_setCells] at z6; have B6 := Lib.hid ((B7.out.below hb6).alloc (.cells #[.string fn, .bool false, .slice A6 fs.length m6] 98)); obtain ⟨h1, h2, h3, h4, h5⟩ := B6.out.cells; have hP6 := (HP7.out.below hb6 (by rw [size_setCells]; omega)).alloc (.cells #[.string fn, .bool false, .slice A6 fs.length m6] 98); obtain ⟨r1, r2⟩ := hP6.facts; have HP6 := Lib.hid hP6; have hK6 := Has.new w6 98 #[.string fn, .bool false, .slice A6 fs.length m6]; obtain ⟨k1, k2⟩ := hK6.facts; have HH8 := Lib.hid ((HH7.out.below hb6 (by rw [size_setCells]; omega)).alloc (.cells #[.string fn, .bool false, .slice A6 fs.length m6] 98)); obtain ⟨t5, t6⟩ := HH8.out.facts; clear hb6 hP6 hK6 hr6) | (go_at_call 58; refine (HTK.out hkind slot pkind _ (HB0.out.trans (B6.out.b.mono hsz0))).mono ?_; rintro e w8 ⟨rfl, hb8⟩; rw [HTB.out]; have B8 := Lib.hid (B6.out.below hb8); obtain ⟨v1, v2, v3, v4, v5⟩ := B8.out.cells; have hP8 := HP6.out.below hb8 (by simp; omega); obtain ⟨s1, s2⟩ := hP8.facts; have HP8 := Lib.hid hP8; have z8 := hb8.size; simp only [World.size_alloc] at z8; clear hb8 hP8) | (go_at_call 56; refine (holdsA_any w0 _ l ⟨2, day, part, kind, into, slot, key, value, ukl, ukh, ucl, uch, ull, ulh⟩ (w.heap.size + 1 + 1) (w.heap.size + 1) _ (HB0.out.trans (B8.out.b.mono hsz0)) HV.out (by omega) B8.out.e B8.out.s).mono ?_; rintro e w9 ⟨rfl, hb9⟩; rw [HHD.out]; have B9 := Lib.hid (B8.out.below hb9); obtain ⟨x1, x2, x3, x4, x5⟩ := B9.out.cells; have hP9 := HP8.out.below hb9 (by omega); obtain ⟨s3, s4⟩ := hP9.facts; have HP9 := Lib.hid hP9; clear hb9 hP9))
  have B10 := Lib.hid ((B9.out.drew.setCell hPz 2 (.string into)).setCell hPz 3 (.string slot))
  have B11 := Lib.hid ((B9.out.drew.setCell hPz 3 (.string slot)).setCell hPz 2 (.string into))
  go_region
  all_goals go_wp2_with (first | (go_at_call 51; refine (next_any _ l pname pkind into slot pmade psince false pprops A1 m1 pkl pkh pcl pch pdl pdh (w.heap.size + 1) _ (HV.out.below (HB0.out.trans (B10.out.b.mono hsz0))) hl HSO.out (HR1.out.below PrR.stays (HB0.out.trans (B10.out.b.mono hsz0))) B10.out.s).mono ?_; rintro e wn ⟨v9, rfl, hr9, hbn⟩; obtain ⟨A9, c9, hf9, _⟩ := Rd.form hr9; subst hf9; have HR9 := Lib.hid hr9; have BN := Lib.hid (B10.out.below hbn); obtain ⟨n1, n2, n3, n4, n5⟩ := BN.out.cells; clear hbn hr9) | (go_at_call 51; refine (next_any _ l pname pkind into slot pmade psince false pprops A1 m1 pkl pkh pcl pch pdl pdh (w.heap.size + 1) _ (HV.out.below (HB0.out.trans (B11.out.b.mono hsz0))) hl HSO.out (HR1.out.below PrR.stays (HB0.out.trans (B11.out.b.mono hsz0))) B11.out.s).mono ?_; rintro e wn ⟨v9, rfl, hr9, hbn⟩; obtain ⟨A9, c9, hf9, _⟩ := Rd.form hr9; subst hf9; have HR9 := Lib.hid hr9; have BN := Lib.hid (B11.out.below hbn); obtain ⟨n1, n2, n3, n4, n5⟩ := BN.out.cells; clear hbn hr9))
  all_goals
    refine bodyPost_ret (v := .tuple #[.agg #[.slice A9 (putP l ⟨pname, pkind, into, slot, pmade, psince, false, pprops, pkl, pkh, pcl, pch, pdl, pdh⟩).length c9], .int .i64 0]) (by simp [results, Tryz.results27, go_sem, n4]) rfl ?_
    have hres : applyL c l ⟨2, day, part, kind, into, slot, key, value, ukl, ukh, ucl, uch, ull, ulh⟩ = (putP l ⟨pname, pkind, into, slot, pmade, psince, false, pprops, pkl, pkh, pcl, pch, pdl, pdh⟩, 0) := by
      rw [HST.out]; unfold stepL; simp [HPF.out, HHF.out, turnL, HFKE.out, HTB.out, HIN.out, HHE.out]
    rw [hres]
    have hB := BN.out.b
    have hz := BN.out.z
    exact ⟨_, rfl, Sta.far1 HR9.out _ BN.out.r, by go_grown⟩
end Go.Proofs.YtccnocgmikmonaaGreatDoor
namespace Go.Proofs.YtccnocgmikmonaaGreatDoor
open Go Go.RowKit
theorem valid_right {c : List Kd} {l : List Pa} (h : validB c l = true) {p : Pa} (hp : p ∈ l) : partOk c l p = true := by
  unfold validB okTo at h
  simp only [Bool.and_eq_true, List.take_length] at h
  exact List.all_eq_true.1 h.2.1 p hp
theorem right_props {c : List Kd} {l : List Pa} {p : Pa} (h : partOk c l p = true) : p.props.length ≤ 60 ∧ sortedB (p.props.map Pr.key) = true := by
  unfold partOk rightB at h
  simp only [Bool.and_eq_true, decide_eq_true_eq] at h
  exact ⟨h.1.1.2, h.1.2.2.1⟩
theorem apply_any (w0 : World) (cv sv : Value) (c : List Kd) (l : List Pa) (ev : Ev) (w : World) (hb0 : Below w0.heap.size w0 w) (hcat : Cat w0 cv c) (hcl : c.length ≤ 100000) (hks : ∀ k ∈ c, k.short) (hsta : Sta w0 sv l) (hl : l.length ≤ 99999) (hps : ∀ p ∈ l, p.short) (hev : ev.short) :
    Calls Tryz.prog 27 #[.agg #[cv], .agg #[sv], .agg ev.cells] w fun r w' => ∃ v', r = .returned (.tuple #[.agg #[v'], .int .i64 (applyL c l ev).2]) ∧ Sta w' v' (applyL c l ev).1 ∧ Below w.heap.size w w' := by
  obtain ⟨op, day, part, kind, into, slot, key, value, ukl, ukh, ucl, uch, ull, ulh⟩ := ev
  cases hvb : validB c l
  · exact apply_e1 w0 cv sv c l op day part kind into slot key value ukl ukh ucl uch ull ulh w hb0 hcat hcl hks hsta hl hps hev hvb
  cases hok : evOk ⟨op, day, part, kind, into, slot, key, value, ukl, ukh, ucl, uch, ull, ulh⟩
  · exact apply_e2 w0 cv sv c l op day part kind into slot key value ukl ukh ucl uch ull ulh w hb0 hcat hcl hks hsta hl hps hev hvb hok
  have ho := evOk_op hok
  change 1 ≤ op ∧ op ≤ 7 at ho
  by_cases h1 : op = 1
  · cases hpf : pfind l part with
    | some p => exact make_twice w0 cv sv c l op day part kind into slot key value ukl ukh ucl uch ull ulh w hb0 hcat hcl hks hsta hl hps hev hvb hok h1 p hpf
    | none =>
      cases hkf : kfind c kind with
      | none => exact make_kind w0 cv sv c l op day part kind into slot key value ukl ukh ucl uch ull ulh w hb0 hcat hcl hks hsta hl hps hev hvb hok h1 hpf hkf
      | some fk =>
        by_cases h20 : l.length = 20000
        · exact make_limit w0 cv sv c l op day part kind into slot key value ukl ukh ucl uch ull ulh w hb0 hcat hcl hks hsta hl hps hev hvb hok h1 hpf fk hkf h20
        · exact make_ok w0 cv sv c l op day part kind into slot key value ukl ukh ucl uch ull ulh w hb0 hcat hcl hks hsta hl hps hev hvb hok h1 hpf fk hkf h20
  by_cases h2 : op = 2
  · cases hpf : pfind l part with
    | none =>
      cases hhf : pfind l into with
      | none => exact fit_nn w0 cv sv c l op day part kind into slot key value ukl ukh ucl uch ull ulh w hb0 hcat hcl hks hsta hl hps hev hvb hok h2 hpf hhf
      | some h => exact fit_ns w0 cv sv c l op day part kind into slot key value ukl ukh ucl uch ull ulh w hb0 hcat hcl hks hsta hl hps hev hvb hok h2 hpf h hhf
    | some p =>
      cases hhf : pfind l into with
      | none => exact fit_sn w0 cv sv c l op day part kind into slot key value ukl ukh ucl uch ull ulh w hb0 hcat hcl hks hsta hl hps hev hvb hok h2 p hpf hhf
      | some h =>
        cases hgo : p.gone with
        | true => exact fit_gone w0 cv sv c l op day part kind into slot key value ukl ukh ucl uch ull ulh w hb0 hcat hcl hks hsta hl hps hev hvb hok h2 p hpf h hhf hgo
        | false =>
          cases hhg : h.gone with
          | true => exact fit_hgone w0 cv sv c l op day part kind into slot key value ukl ukh ucl uch ull ulh w hb0 hcat hcl hks hsta hl hps hev hvb hok h2 p hpf h hhf hgo hhg
          | false =>
            cases hve : ((kfind c p.kind).getD noKd).veh with
            | true => exact fit_veh w0 cv sv c l op day part kind into slot key value ukl ukh ucl uch ull ulh w hb0 hcat hcl hks hsta hl hps hev hvb hok h2 p hpf h hhf hgo hhg hve
            | false =>
              cases htb : takesB c h.kind slot p.kind with
              | false => exact fit_not w0 cv sv c l op day part kind into slot key value ukl ukh ucl uch ull ulh w hb0 hcat hcl hks hsta hl hps hev hvb hok h2 p hpf h hhf hgo hhg hve htb
              | true =>
                by_cases hin : p.into = eS
                · cases hhd : heldAt l into slot with
                  | true => exact fit_full w0 cv sv c l op day part kind into slot key value ukl ukh ucl uch ull ulh w hb0 hcat hcl hks hsta hl hps hev hvb hok h2 p hpf h hhf hgo hhg hve htb hin hhd
                  | false => exact fit_ok w0 cv sv c l op day part kind into slot key value ukl ukh ucl uch ull ulh w hb0 hcat hcl hks hsta hl hps hev hvb hok h2 p hpf h hhf hgo hhg hve htb hin hhd
                · exact fit_in w0 cv sv c l op day part kind into slot key value ukl ukh ucl uch ull ulh w hb0 hcat hcl hks hsta hl hps hev hvb hok h2 p hpf h hhf hgo hhg hve htb hin
  cases hpf : pfind l part with
  | none => exact apply_none w0 cv sv c l op day part kind into slot key value ukl ukh ucl uch ull ulh w hb0 hcat hcl hks hsta hl hps hev hvb hok h1 h2 hpf
  | some p =>
    cases hgo : p.gone with
    | true => exact apply_gone w0 cv sv c l op day part kind into slot key value ukl ukh ucl uch ull ulh w hb0 hcat hcl hks hsta hl hps hev hvb hok h1 h2 p hpf hgo
    | false =>
      have hops : op = 3 ∨ op = 4 ∨ op = 5 ∨ op = 6 ∨ op = 7 := by omega
      rcases hops with h | h | h | h | h
      · exact apply_remove w0 cv sv c l op day part kind into slot key value ukl ukh ucl uch ull ulh w hb0 hcat hcl hks hsta hl hps hev hvb hok h p hpf hgo
      · exact apply_run w0 cv sv c l op day part kind into slot key value ukl ukh ucl uch ull ulh w hb0 hcat hcl hks hsta hl hps hev hvb hok h p hpf hgo
      · exact apply_overhaul w0 cv sv c l op day part kind into slot key value ukl ukh ucl uch ull ulh w hb0 hcat hcl hks hsta hl hps hev hvb hok h p hpf hgo
      · obtain ⟨q1, q2⟩ := right_props (valid_right hvb (List.mem_of_find?_eq_some hpf))
        exact apply_note w0 cv sv c l op day part kind into slot key value ukl ukh ucl uch ull ulh w hb0 hcat hcl hks hsta hl hps hev hvb hok h p hpf hgo q1 q2
      · exact apply_scrap w0 cv sv c l op day part kind into slot key value ukl ukh ucl uch ull ulh w hb0 hcat hcl hks hsta hl hps hev hvb hok h p hpf hgo
end Go.Proofs.YtccnocgmikmonaaGreatDoor
namespace Go.Proofs.YtccnocgmikmonaaGreatDoor
open Go Go.RowKit
def sAxle : ByteArray := ⟨#[97, 120, 108, 101]⟩
def sWheel : ByteArray := ⟨#[119, 104, 101, 101, 108, 115, 101, 116]⟩
def sCoach : ByteArray := ⟨#[99, 111, 97, 99, 104]⟩
def sFront : ByteArray := ⟨#[102, 114, 111, 110, 116]⟩
def exC : List Kd := [⟨sAxle, false, []⟩, ⟨sWheel, false, [⟨sAxle, [sAxle], 1⟩]⟩, ⟨sCoach, true, [⟨sFront, [sWheel], 1⟩]⟩]
theorem rd_one {α : Type} {C : Nat} {R : World → List Value → α → Prop} {w : World} {g : Nat} {cs : List Value} {a : α} (h : R w cs a) (hc : cs.length = C) (hr : w.rangeAt g 0 cs) : Rd C R w (.slice (some ⟨g, 0, none⟩) 1 1) [a] :=
  ⟨_, _, rfl, Nat.le_refl _, .inr ⟨g, 0, rfl, fun i b hi => by
    match i, hi with
    | 0, hi =>
      obtain rfl : a = b := by simpa using hi
      exact ⟨cs, h, hc, by simpa using hr⟩⟩⟩
theorem has_range {w : World} {g : Nat} {t : TypeId} {cs : Array Value} (h : Has w g t cs) : w.rangeAt g 0 cs.toList := by
  intro j v hv
  have h1 := h.facts.1 j
  rw [Nat.zero_add, h1]
  simpa using hv
/-- A slice of one slot of one kind, in blocks of its own. -/
structure Slot1 (w : World) (g h : Nat) (name kind : ByteArray) : Prop where
  a : Has w g 9 #[.string kind]
  b : Has w h 95 #[.string name, .slice (some ⟨g, 0, none⟩) 1 1, .int .i64 1]
theorem Slot1.rd {w : World} {g h : Nat} {name kind : ByteArray} (s : Slot1 w g h name kind) : Rd 3 SkR w (.slice (some ⟨h, 0, none⟩) 1 1) [⟨name, [kind], 1⟩] := by
  refine rd_one (cs := [.string name, .slice (some ⟨g, 0, none⟩) 1 1, .int .i64 1]) ⟨_, rfl, ?_⟩ rfl (has_range s.b)
  refine ⟨_, _, rfl, Nat.le_refl _, .inr ⟨g, 0, rfl, fun j hj => ?_⟩⟩
  obtain rfl : j = 0 := by simp at hj; omega
  rw [s.a.facts.1]; rfl
theorem Slot1.below {w w' : World} {g h B : Nat} {name kind : ByteArray} (s : Slot1 w g h name kind) (hb : Below B w w') (h1 : g < B) (h2 : h < B) : Slot1 w' g h name kind := ⟨s.a.below hb h1, s.b.below hb h2⟩
theorem Slot1.alloc {w : World} {g h : Nat} {name kind : ByteArray} (s : Slot1 w g h name kind) (o : Obj) : Slot1 (w.alloc o) g h name kind := ⟨s.a.alloc o, s.b.alloc o⟩
theorem Slot1.far {w : World} {g h k : Nat} {name kind : ByteArray} (s : Slot1 w g h name kind) (h1 : g ≠ k) (h2 : h ≠ k) (i : Nat) (u : Value) : Slot1 (w.setCell ⟨k, i, none⟩ u) g h name kind := ⟨s.a.far _ h1 u, s.b.far _ h2 u⟩
set_option maxRecDepth 100000 in
set_option maxHeartbeats 1000000 in
theorem exSlot_any (name kind : ByteArray) (w : World) :
    Calls Tryz.prog 49 #[.string name, .string kind] w fun e w' => e = .returned (.slice (some ⟨w.heap.size + 1, 0, none⟩) 1 1) ∧ Slot1 w' w.heap.size (w.heap.size + 1) name kind ∧ Below w.heap.size w w' ∧ w'.heap.size = w.heap.size + 2 := by
  have h1 := Has.new w 9 #[.string kind]
  have h2 := Has.new (w.alloc (.cells #[.string kind] 9)) 95 #[.string name, .slice (some ⟨w.heap.size, 0, none⟩) 1 1, .int .i64 1]
  simp only [World.size_alloc] at h2
  have H2 := Lib.hid h2
  have H1 := Lib.hid (h1.alloc (.cells #[.string name, .slice (some ⟨w.heap.size, 0, none⟩) 1 1, .int .i64 1] 95))
  have HB := Lib.hid (((Below.refl w.heap.size w).alloc (Nat.le_refl _) (.cells #[.string kind] 9)).alloc (by simp) (.cells #[.string name, .slice (some ⟨w.heap.size, 0, none⟩) 1 1, .int .i64 1] 95))
  clear h1 h2
  go_enter Tryz.func49, Tryz.ntmps49
  go_wp2
  go_ret
  exact ⟨rfl, ⟨H1.out, H2.out⟩, HB.out, by simp⟩
theorem three_range {w : World} {g : Nat} {t : TypeId} {a0 a1 a2 b0 b1 b2 c0 c1 c2 : Value} (h : Has w g t #[a0, a1, a2, b0, b1, b2, c0, c1, c2]) :
    w.rangeAt g 0 [a0, a1, a2] ∧ w.rangeAt g 3 [b0, b1, b2] ∧ w.rangeAt g 6 [c0, c1, c2] := by
  have hf := h.facts.1
  refine ⟨fun j v hv => ?_, fun j v hv => ?_, fun j v hv => ?_⟩ <;>
    (rw [hf]; match j, hv with
      | 0, hv => exact hv
      | 1, hv => exact hv
      | 2, hv => exact hv
      | j + 3, hv => simp at hv)
set_option maxRecDepth 100000 in
set_option maxHeartbeats 2000000 in
theorem example_any (w : World) :
    Calls Tryz.prog 26 #[] w fun e w' => ∃ g, e = .returned (.agg #[.slice (some ⟨g, 0, none⟩) 3 3]) ∧ Cat w' (.slice (some ⟨g, 0, none⟩) 3 3) exC ∧ Below w.heap.size w w' := by
  have H0 := Lib.hid (Has.new w 60 #[.slice none 0 0])
  have HB0 := Lib.hid ((Below.refl w.heap.size w).alloc (Nat.le_refl _) (.cells #[.slice none 0 0] 60))
  go_enter Tryz.func26, Tryz.ntmps26
  go_wp2_with (first | (go_at_call_of 49 (Value.string ⟨#[97, 120, 108, 101]⟩); refine (exSlot_any sAxle sAxle _).mono ?_; rintro e w1 ⟨rfl, hr1, hb1, hw1⟩; simp only [World.size_alloc] at hw1 hr1; have z1 := hb1.size; have HX1 := Lib.hid (H0.out.below hb1 (by simp)); obtain ⟨x1, x2⟩ := HX1.out.facts; have HR1 := Lib.hid hr1; have HB1 := Lib.hid hb1; have HW1 := Lib.hid hw1; clear hr1 hb1 hw1) | (go_at_call_of 49 (Value.string ⟨#[102, 114, 111, 110, 116]⟩); refine (exSlot_any sFront sWheel _).mono ?_; rintro e w2 ⟨rfl, hr2, hb2, hw2⟩; have z2 := hb2.size; have hz2 : w.heap.size < w2.heap.size := (by simp at z1; omega); have HX2 := Lib.hid (HX1.out.below hb2 (by simp at z1; omega)); obtain ⟨x3, x4⟩ := HX2.out.facts; have HR2 := Lib.hid hr2; have HB2 := Lib.hid hb2; have HW2 := Lib.hid hw2; clear hr2 hb2 hw2))
  have hw1 := HW1.out
  have hw2 := HW2.out
  obtain ⟨v1, hv1⟩ : ∃ v1 : Value, v1 = .slice (some ⟨w2.heap.size, 0, none⟩) 3 3 := ⟨_, rfl⟩
  have h9 := Has.new (w2.setCell ⟨w.heap.size, 0, none⟩ (.slice (some ⟨w2.heap.size, 0, none⟩) 3 3)) 98 #[.string ⟨#[97, 120, 108, 101]⟩, .bool false, .slice none 0 0, .string ⟨#[119, 104, 101, 101, 108, 115, 101, 116]⟩, .bool false, .slice (some ⟨w.heap.size + 1 + 1, 0, none⟩) 1 1, .string ⟨#[99, 111, 97, 99, 104]⟩, .bool true, .slice (some ⟨w1.heap.size + 1, 0, none⟩) 1 1]
  simp only [World.size_setCell] at h9
  obtain ⟨r1, r2, r3⟩ := three_range h9
  have hx := (HX2.out.put 0 (.slice (some ⟨w2.heap.size, 0, none⟩) 3 3)).alloc (.cells #[.string ⟨#[97, 120, 108, 101]⟩, .bool false, .slice none 0 0, .string ⟨#[119, 104, 101, 101, 108, 115, 101, 116]⟩, .bool false, .slice (some ⟨w.heap.size + 1 + 1, 0, none⟩) 1 1, .string ⟨#[99, 111, 97, 99, 104]⟩, .bool true, .slice (some ⟨w1.heap.size + 1, 0, none⟩) 1 1] 98)
  obtain ⟨n4, n5⟩ := hx.facts
  have s1 := ((HR1.out.below HB2.out (by omega) (by omega)).far (k := w.heap.size) (by omega) (by omega) 0 (.slice (some ⟨w2.heap.size, 0, none⟩) 3 3)).alloc (.cells #[.string ⟨#[97, 120, 108, 101]⟩, .bool false, .slice none 0 0, .string ⟨#[119, 104, 101, 101, 108, 115, 101, 116]⟩, .bool false, .slice (some ⟨w.heap.size + 1 + 1, 0, none⟩) 1 1, .string ⟨#[99, 111, 97, 99, 104]⟩, .bool true, .slice (some ⟨w1.heap.size + 1, 0, none⟩) 1 1] 98)
  have s2 := (HR2.out.far (k := w.heap.size) (by omega) (by omega) 0 (.slice (some ⟨w2.heap.size, 0, none⟩) 3 3)).alloc (.cells #[.string ⟨#[97, 120, 108, 101]⟩, .bool false, .slice none 0 0, .string ⟨#[119, 104, 101, 101, 108, 115, 101, 116]⟩, .bool false, .slice (some ⟨w.heap.size + 1 + 1, 0, none⟩) 1 1, .string ⟨#[99, 111, 97, 99, 104]⟩, .bool true, .slice (some ⟨w1.heap.size + 1, 0, none⟩) 1 1] 98)
  have hB : Below w.heap.size w ((w2.setCell ⟨w.heap.size, 0, none⟩ (.slice (some ⟨w2.heap.size, 0, none⟩) 3 3)).alloc (.cells #[.string ⟨#[97, 120, 108, 101]⟩, .bool false, .slice none 0 0, .string ⟨#[119, 104, 101, 101, 108, 115, 101, 116]⟩, .bool false, .slice (some ⟨w.heap.size + 1 + 1, 0, none⟩) 1 1, .string ⟨#[99, 111, 97, 99, 104]⟩, .bool true, .slice (some ⟨w1.heap.size + 1, 0, none⟩) 1 1] 98)) := by
    have b1 := HB0.out.trans (HB1.out.mono (by simp))
    have b2 := b1.trans (HB2.out.mono (by omega))
    go_grown
  refine bodyPost_ret (v := .agg #[.slice (some ⟨w2.heap.size, 0, none⟩) 3 3]) (by simp [results, Tryz.results26, go_sem, n4]) rfl ?_
  refine ⟨_, rfl, ⟨_, _, rfl, Nat.le_refl _, .inr ⟨w2.heap.size, 0, rfl, fun i a hi => ?_⟩⟩, hB⟩
  match i, hi with
  | 0, hi =>
    obtain rfl : (⟨sAxle, false, []⟩ : Kd) = a := by simpa [exC] using hi
    exact ⟨_, ⟨_, rfl, Rd.nil none 0⟩, rfl, r1⟩
  | 1, hi =>
    obtain rfl : (⟨sWheel, false, [⟨sAxle, [sAxle], 1⟩]⟩ : Kd) = a := by simpa [exC] using hi
    exact ⟨_, ⟨_, rfl, s1.rd⟩, rfl, r2⟩
  | 2, hi =>
    obtain rfl : (⟨sCoach, true, [⟨sFront, [sWheel], 1⟩]⟩ : Kd) = a := by simpa [exC] using hi
    exact ⟨_, ⟨_, rfl, s2.rd⟩, rfl, r3⟩
  | i + 3, hi => simp [exC] at hi
end Go.Proofs.YtccnocgmikmonaaGreatDoor
namespace Go.Proofs.YtccnocgmikmonaaGreatDoor
open Go Go.RowKit
def noEv : Ev := ⟨0, 0, ⟨#[]⟩, ⟨#[]⟩, ⟨#[]⟩, ⟨#[]⟩, ⟨#[]⟩, ⟨#[]⟩, 0, 0, 0, 0, 0, 0⟩
def evF (l : List Ev) (j : Nat) : Value := ((l.getD (j / 14) noEv).cells[j % 14]?).getD undef
theorem evF_at (l : List Ev) (i j : Nat) (hj : j < 14) : evF l (i * 14 + j) = ((l.getD i noEv).cells[j]?).getD undef := by
  unfold evF
  rw [show (i * 14 + j) / 14 = i by omega, show (i * 14 + j) % 14 = j by omega]
/-- Element i of a slice of events lies there. -/
theorem ev_range {w : World} {b o n : Nat} {l : List Ev} (h : ∀ j, j < n * 14 → w.cell? ⟨b, o + j, none⟩ = some (evF l j)) {i : Nat} (hi : i < n) :
    w.rangeAt b (o + i * 14) (l.getD i noEv).cells.toList := by
  intro j v hv
  have hj : j < 14 := by
    rcases Nat.lt_or_ge j 14 with h1 | h1
    · exact h1
    · rw [List.getElem?_eq_none (by simpa [Ev.cells] using h1)] at hv; cases hv
  have := h (i * 14 + j) (by omega)
  rw [evF_at l i j hj] at this
  rw [Nat.add_assoc, this]
  rw [Array.getElem?_toList] at hv
  rw [hv]; rfl
end Go.Proofs.YtccnocgmikmonaaGreatDoor
