/- fleet.Apply at OpOverhaul. -/
import Derived.Test.YtccnocgmikmonaaGreatDoorU14
namespace Go.Proofs.YtccnocgmikmonaaGreatDoor
open Go Go.RowKit
set_option maxRecDepth 100000 in
set_option maxHeartbeats 16000000 in
theorem apply_overhaul (w0 : World) (cv sv : Value) (c : List Kd) (l : List Pa) (op day : Int) (part kind into slot key value : ByteArray) (ukl ukh ucl uch ull ulh : Int) (w : World) (hb0 : Below w0.heap.size w0 w) (hcat : Cat w0 cv c) (hcl : c.length ≤ 100000) (hks : ∀ k ∈ c, k.short) (hsta : Sta w0 sv l) (hl : l.length ≤ 99999) (hps : ∀ p ∈ l, p.short) (hev : Ev.short ⟨op, day, part, kind, into, slot, key, value, ukl, ukh, ucl, uch, ull, ulh⟩) (hvb : validB c l = true) (hok : evOk ⟨op, day, part, kind, into, slot, key, value, ukl, ukh, ucl, uch, ull, ulh⟩ = true) (hop : op = 5) (p : Pa) (hpf : pfind l part = some p) (hgo : p.gone = false) :
    Calls Tryz.prog 27 #[.agg #[cv], .agg #[sv], .agg #[.int .i64 op, .int .i64 day, .string part, .string kind, .string into, .string slot, .string key, .string value, .int .i64 ukl, .int .i64 ukh, .int .i64 ucl, .int .i64 uch, .int .i64 ull, .int .i64 ulh]] w fun r w' => ∃ v', r = .returned (.tuple #[.agg #[v'], .int .i64 (applyL c l ⟨op, day, part, kind, into, slot, key, value, ukl, ukh, ucl, uch, ull, ulh⟩).2]) ∧ Sta w' v' (applyL c l ⟨op, day, part, kind, into, slot, key, value, ukl, ukh, ucl, uch, ull, ulh⟩).1 ∧ Below w.heap.size w w' := by
  obtain ⟨A', cc, rfl, hn⟩ := Rd.form hcat
  obtain ⟨A, cs0, rfl, hn0⟩ := Rd.form hsta
  have HB0 := Lib.hid hb0
  have hsz0 := hb0.size
  have B0 := Lib.hid (ApB.new w A' c.length cc A l.length cs0 #[.int .i64 op, .int .i64 day, .string part, .string kind, .string into, .string slot, .string key, .string value, .int .i64 ukl, .int .i64 ukh, .int .i64 ucl, .int .i64 uch, .int .i64 ull, .int .i64 ulh])
  have HV := Lib.hid hsta
  have HFV := Lib.hid (fun W (h : Below w0.heap.size w0 W) => fvalid_any w0 _ _ c l W h hcat hcl hks hsta (by omega) hps)
  have HF := Lib.hid (fun x W (h : Below w0.heap.size w0 W) => find_any w0 _ c x W h hcat hcl)
  have HTK := Lib.hid (fun x y z W (h : Below w0.heap.size w0 W) => takes_any w0 _ c x y z W h hcat hcl hks)
  have HOF := Lib.hid (fun W (h : Below w0.heap.size w0 W) => of_any w0 _ l W h hsta (by omega))
  have HGT := Lib.hid (fun g x W (h : Below w0.heap.size w0 W) hM => get_any w0 _ l g x W h hsta hM)
  have HPS := Lib.hid hps
  clear hb0 hcat hks hsta hps
  have HVB := Lib.hid hvb
  have HOK := Lib.hid hok
  have HSO := Lib.hid (validB_sorted hvb)
  have HG1 := Lib.hid (fun g W h hM => HGT.out g part W h hM)
  have HST : Hid (applyL c l ⟨op, day, part, kind, into, slot, key, value, ukl, ukh, ucl, uch, ull, ulh⟩ = stepL c l ⟨op, day, part, kind, into, slot, key, value, ukl, ukh, ucl, uch, ull, ulh⟩) := by show applyL c l ⟨op, day, part, kind, into, slot, key, value, ukl, ukh, ucl, uch, ull, ulh⟩ = stepL c l ⟨op, day, part, kind, into, slot, key, value, ukl, ukh, ucl, uch, ull, ulh⟩; unfold applyL; rw [hvb, hok]; rfl
  clear hvb hok
  subst hop
  have HPF := Lib.hid hpf
  rw [hpf] at HG1
  obtain ⟨pname, pkind, pinto, pslot, pmade, psince, pgone, pprops, pkl, pkh, pcl, pch, pdl, pdh⟩ := p
  simp only [Option.getD_some, Option.isSome_some] at HG1
  clear hpf
  obtain rfl : pgone = false := hgo
  have HFK := Lib.hid (fun W h => HF.out pkind W h)
  have HKE : Hid (((kfind c pkind).getD noKd).veh = ((kfind c pkind).getD noKd).veh) := rfl
  generalize hfk : (kfind c pkind).getD noKd = fk at *
  have HFKE := Lib.hid hfk
  clear hfk HKE
  generalize (kfind c pkind).isSome = kb at *
  obtain ⟨fn, fv, fs⟩ := fk
  go_enter Tryz.func27, Tryz.ntmps27
  go_wp2_with (first | (go_at_call 28; refine (HFV.out _ (HB0.out.trans (B0.out.b.mono hsz0))).mono ?_; rintro e w1 ⟨rfl, hb1⟩; rw [HVB.out]; have B1 := Lib.hid (B0.out.below hb1); obtain ⟨f1, f2, f3, f4, f5⟩ := B1.out.cells; clear hb1) | (go_at_call 50; refine (valid_any ⟨_, day, part, kind, into, slot, key, value, ukl, ukh, ucl, uch, ull, ulh⟩ _ hev).mono ?_; rintro e w2 ⟨rfl, hb2⟩; rw [HOK.out]; have B2 := Lib.hid (B1.out.below hb2); obtain ⟨g1, g2, g3, g4, g5⟩ := B2.out.cells; clear hb2) | (go_at_call 30; refine (HOF.out _ (HB0.out.trans (B2.out.b.mono hsz0))).mono ?_; rintro e w3 ⟨gi, rfl, hM3, hgi, hb3⟩; have hgil := hM3.lt; have hz3 := (B2.out.below hb3).z; have B3 := Lib.hid ((B2.out.below hb3).alloc (.cells #[.slice A l.length cs0, .map (some gi)] 69)); obtain ⟨a1, a2, a3, a4, a5⟩ := B3.out.cells; have HM3 := Lib.hid (hM3.alloc (.cells #[.slice A l.length cs0, .map (some gi)] 69)); have hY3 := Has.new w3 69 #[.slice A l.length cs0, .map (some gi)]; obtain ⟨y1, y2⟩ := hY3.facts; have HY3 := Lib.hid hY3; clear hb3 hM3 hY3) | (go_at_call_of 31 (Value.string part); refine (HG1.out gi _ (HB0.out.trans (B3.out.b.mono hsz0)) HM3.out).mono ?_; rintro e w4 ⟨A1, m1, rfl, hr1, hb4⟩; have B4 := Lib.hid ((B3.out.below hb4).alloc (.cells #[.string pname, .string pkind, .string pinto, .string pslot, .int .i64 pmade, .int .i64 psince, .bool false, .slice A1 pprops.length m1, .int .i64 pkl, .int .i64 pkh, .int .i64 pcl, .int .i64 pch, .int .i64 pdl, .int .i64 pdh] 33)); obtain ⟨b1, b2, b3, b4, b5⟩ := B4.out.cells; have hP4 := Has.new w4 33 #[.string pname, .string pkind, .string pinto, .string pslot, .int .i64 pmade, .int .i64 psince, .bool false, .slice A1 pprops.length m1, .int .i64 pkl, .int .i64 pkh, .int .i64 pcl, .int .i64 pch, .int .i64 pdl, .int .i64 pdh]; obtain ⟨q1, q2⟩ := hP4.facts; have HP4 := Lib.hid hP4; have HR1 := Lib.hid hr1; have z4 := hb4.size; have HY4 := Lib.hid ((HY3.out.below hb4 (by simp)).alloc (.cells #[.string pname, .string pkind, .string pinto, .string pslot, .int .i64 pmade, .int .i64 psince, .bool false, .slice A1 pprops.length m1, .int .i64 pkl, .int .i64 pkh, .int .i64 pcl, .int .i64 pch, .int .i64 pdl, .int .i64 pdh] 33)); obtain ⟨y3, y4⟩ := ((HY3.out.below hb4 (by simp)).alloc (.cells #[.string pname, .string pkind, .string pinto, .string pslot, .int .i64 pmade, .int .i64 psince, .bool false, .slice A1 pprops.length m1, .int .i64 pkl, .int .i64 pkh, .int .i64 pcl, .int .i64 pch, .int .i64 pdl, .int .i64 pdh] 33)).facts; have HM4 := Lib.hid ((HM3.out.below hb4 (by simp; omega)).alloc (.cells #[.string pname, .string pkind, .string pinto, .string pslot, .int .i64 pmade, .int .i64 psince, .bool false, .slice A1 pprops.length m1, .int .i64 pkl, .int .i64 pkh, .int .i64 pcl, .int .i64 pch, .int .i64 pdl, .int .i64 pdh] 33)); have B5 := Lib.hid (B4.out.alloc (.cells #[.string pname, .string pkind, .string pinto, .string pslot, .int .i64 pmade, .int .i64 psince, .bool false, .slice A1 pprops.length m1, .int .i64 pkl, .int .i64 pkh, .int .i64 pcl, .int .i64 pch, .int .i64 pdl, .int .i64 pdh] 33)); obtain ⟨d1, d2, d3, d4, d5⟩ := B5.out.cells; obtain ⟨q3, q4⟩ := (HP4.out.alloc (.cells #[.string pname, .string pkind, .string pinto, .string pslot, .int .i64 pmade, .int .i64 psince, .bool false, .slice A1 pprops.length m1, .int .i64 pkl, .int .i64 pkh, .int .i64 pcl, .int .i64 pch, .int .i64 pdl, .int .i64 pdh] 33)).facts; have HP5 := Lib.hid (HP4.out.alloc (.cells #[.string pname, .string pkind, .string pinto, .string pslot, .int .i64 pmade, .int .i64 psince, .bool false, .slice A1 pprops.length m1, .int .i64 pkl, .int .i64 pkh, .int .i64 pcl, .int .i64 pch, .int .i64 pdl, .int .i64 pdh] 33)); have hH5 := Has.new (w4.alloc (.cells #[.string pname, .string pkind, .string pinto, .string pslot, .int .i64 pmade, .int .i64 psince, .bool false, .slice A1 pprops.length m1, .int .i64 pkl, .int .i64 pkh, .int .i64 pcl, .int .i64 pch, .int .i64 pdl, .int .i64 pdh] 33)) 33 #[.string pname, .string pkind, .string pinto, .string pslot, .int .i64 pmade, .int .i64 psince, .bool false, .slice A1 pprops.length m1, .int .i64 pkl, .int .i64 pkh, .int .i64 pcl, .int .i64 pch, .int .i64 pdl, .int .i64 pdh]; simp only [World.size_alloc] at hH5; obtain ⟨q5, q6⟩ := hH5.facts; have HH5 := Lib.hid hH5; have hPz : w.heap.size + 1 + 1 + 1 < w4.heap.size := (by have := B3.out.z; omega); clear hb4 hP4 hr1 hH5) | (go_at_call 55; refine (HFK.out _ (HB0.out.trans (B5.out.b.mono hsz0))).mono ?_; rintro e w6 ⟨A6, m6, rfl, hr6, hb6⟩; have z6 := hb6.size; simp only [World.size_alloc] at z6; have B6 := Lib.hid ((B5.out.below hb6).alloc (.cells #[.string fn, .bool fv, .slice A6 fs.length m6] 98)); obtain ⟨h1, h2, h3, h4, h5⟩ := B6.out.cells; have hP6 := (HP5.out.below hb6 (by simp; omega)).alloc (.cells #[.string fn, .bool fv, .slice A6 fs.length m6] 98); obtain ⟨r1, r2⟩ := hP6.facts; have HP6 := Lib.hid hP6; have hK6 := Has.new w6 98 #[.string fn, .bool fv, .slice A6 fs.length m6]; obtain ⟨k1, k2⟩ := hK6.facts; have B7 := Lib.hid (((((((B6.out.setCell hPz 5 (.int .i64 (max psince day))).setCell hPz 8 (.int .i64 0)).setCell hPz 9 (.int .i64 0)).setCell hPz 10 (.int .i64 0)).setCell hPz 11 (.int .i64 0)).setCell hPz 12 (.int .i64 0)).setCell hPz 13 (.int .i64 0)); clear hb6 hP6 hK6 hr6) | (go_at_call 51; refine (next_any _ l pname pkind pinto pslot pmade (max psince day) false pprops A1 m1 0 0 0 0 0 0 (w.heap.size + 1) _ (HV.out.below (HB0.out.trans (B7.out.b.mono hsz0))) hl HSO.out (HR1.out.below PrR.stays (HB0.out.trans (B7.out.b.mono hsz0))) B7.out.s).mono ?_; rintro e wn ⟨v9, rfl, hr9, hbn⟩; obtain ⟨A9, c9, hf9, _⟩ := Rd.form hr9; subst hf9; have HR9 := Lib.hid hr9; have BN := Lib.hid (B7.out.below hbn); obtain ⟨n1, n2, n3, n4, n5⟩ := BN.out.cells; clear hbn hr9))
  refine bodyPost_ret (v := .tuple #[.agg #[.slice A9 (putP l ⟨pname, pkind, pinto, pslot, pmade, max psince day, false, pprops, 0, 0, 0, 0, 0, 0⟩).length c9], .int .i64 0]) (by simp [results, Tryz.results27, go_sem, n4]) rfl ?_
  have hres : applyL c l ⟨5, day, part, kind, into, slot, key, value, ukl, ukh, ucl, uch, ull, ulh⟩ = (putP l ⟨pname, pkind, pinto, pslot, pmade, max psince day, false, pprops, 0, 0, 0, 0, 0, 0⟩, 0) := by
    rw [HST.out]; unfold stepL; simp only [HPF.out]; unfold turnL; rfl
  rw [hres]
  have hB := BN.out.b
  have hz := BN.out.z
  exact ⟨_, rfl, Sta.far1 HR9.out _ BN.out.r, by go_grown⟩
end Go.Proofs.YtccnocgmikmonaaGreatDoor
