/- fleet.Apply at OpMake. Stores into a block behind the boxes of Apply's call. -/
import Derived.Test.YtccnocgmikmonaaGreatDoorU13
namespace Go.Proofs.YtccnocgmikmonaaGreatDoor
open Go Go.RowKit
set_option maxRecDepth 100000 in
set_option maxHeartbeats 16000000 in
theorem make_twice (w0 : World) (cv sv : Value) (c : List Kd) (l : List Pa) (op day : Int) (part kind into slot key value : ByteArray) (ukl ukh ucl uch ull ulh : Int) (w : World) (hb0 : Below w0.heap.size w0 w) (hcat : Cat w0 cv c) (hcl : c.length ≤ 100000) (hks : ∀ k ∈ c, k.short) (hsta : Sta w0 sv l) (hl : l.length ≤ 99999) (hps : ∀ p ∈ l, p.short) (hev : Ev.short ⟨op, day, part, kind, into, slot, key, value, ukl, ukh, ucl, uch, ull, ulh⟩) (hvb : validB c l = true) (hok : evOk ⟨op, day, part, kind, into, slot, key, value, ukl, ukh, ucl, uch, ull, ulh⟩ = true) (hop : op = 1) (p : Pa) (hpf : pfind l part = some p) :
    Calls Tryz.prog 27 #[.agg #[cv], .agg #[sv], .agg #[.int .i64 op, .int .i64 day, .string part, .string kind, .string into, .string slot, .string key, .string value, .int .i64 ukl, .int .i64 ukh, .int .i64 ucl, .int .i64 uch, .int .i64 ull, .int .i64 ulh]] w fun r w' => ∃ v', r = .returned (.tuple #[.agg #[v'], .int .i64 (applyL c l ⟨op, day, part, kind, into, slot, key, value, ukl, ukh, ucl, uch, ull, ulh⟩).2]) ∧ Sta w' v' (applyL c l ⟨op, day, part, kind, into, slot, key, value, ukl, ukh, ucl, uch, ull, ulh⟩).1 ∧ Below w.heap.size w w' := by
  obtain ⟨A', cc, rfl, hn⟩ := Rd.form hcat
  obtain ⟨A, cs0, rfl, hn0⟩ := Rd.form hsta
  have HB0 := Lib.hid hb0
  have hsz0 := hb0.size
  have B0 := Lib.hid (ApB.new w A' c.length cc A l.length cs0 #[.int .i64 op, .int .i64 day, .string part, .string kind, .string into, .string slot, .string key, .string value, .int .i64 ukl, .int .i64 ukh, .int .i64 ucl, .int .i64 uch, .int .i64 ull, .int .i64 ulh])
  have HV := Lib.hid hsta
  have HFV := Lib.hid (fun W (h : Below w0.heap.size w0 W) => fvalid_any w0 _ _ c l W h hcat hcl hks hsta (by omega) hps)
  have HF := Lib.hid (fun x W (h : Below w0.heap.size w0 W) => find_any w0 _ c x W h hcat hcl)
  have HTK := Lib.hid (fun x y z W (h : Below w0.heap.size w0 W) => takes_any w0 _ c x y z W h hcat hcl hks)
  have HOF := Lib.hid (fun W (h : Below w0.heap.size w0 W) => of_any w0 _ l W h hsta (by omega))
  have HGT := Lib.hid (fun g x W (h : Below w0.heap.size w0 W) hM => get_any w0 _ l g x W h hsta hM)
  have HPS := Lib.hid hps
  clear hb0 hcat hks hsta hps
  have HVB := Lib.hid hvb
  have HOK := Lib.hid hok
  have HSO := Lib.hid (validB_sorted hvb)
  have HG1 := Lib.hid (fun g W h hM => HGT.out g part W h hM)
  have HST : Hid (applyL c l ⟨op, day, part, kind, into, slot, key, value, ukl, ukh, ucl, uch, ull, ulh⟩ = stepL c l ⟨op, day, part, kind, into, slot, key, value, ukl, ukh, ucl, uch, ull, ulh⟩) := by show applyL c l ⟨op, day, part, kind, into, slot, key, value, ukl, ukh, ucl, uch, ull, ulh⟩ = stepL c l ⟨op, day, part, kind, into, slot, key, value, ukl, ukh, ucl, uch, ull, ulh⟩; unfold applyL; rw [hvb, hok]; rfl
  clear hvb hok
  subst hop
  have HPF := Lib.hid hpf
  rw [hpf] at HG1
  obtain ⟨pname, pkind, pinto, pslot, pmade, psince, pgone, pprops, pkl, pkh, pcl, pch, pdl, pdh⟩ := p
  simp only [Option.getD_some, Option.isSome_some] at HG1
  clear hpf
  go_enter Tryz.func27, Tryz.ntmps27
  go_wp2_with (first | (go_at_call 28; refine (HFV.out _ (HB0.out.trans (B0.out.b.mono hsz0))).mono ?_; rintro e w1 ⟨rfl, hb1⟩; rw [HVB.out]; have B1 := Lib.hid (B0.out.below hb1); obtain ⟨f1, f2, f3, f4, f5⟩ := B1.out.cells; clear hb1) | (go_at_call 50; refine (valid_any ⟨_, day, part, kind, into, slot, key, value, ukl, ukh, ucl, uch, ull, ulh⟩ _ hev).mono ?_; rintro e w2 ⟨rfl, hb2⟩; rw [HOK.out]; have B2 := Lib.hid (B1.out.below hb2); obtain ⟨g1, g2, g3, g4, g5⟩ := B2.out.cells; clear hb2) | (go_at_call 30; refine (HOF.out _ (HB0.out.trans (B2.out.b.mono hsz0))).mono ?_; rintro e w3 ⟨gi, rfl, hM3, hgi, hb3⟩; have hgil := hM3.lt; have hz3 := (B2.out.below hb3).z; have B3 := Lib.hid ((B2.out.below hb3).alloc (.cells #[.slice A l.length cs0, .map (some gi)] 69)); obtain ⟨a1, a2, a3, a4, a5⟩ := B3.out.cells; have HM3 := Lib.hid (hM3.alloc (.cells #[.slice A l.length cs0, .map (some gi)] 69)); have hY3 := Has.new w3 69 #[.slice A l.length cs0, .map (some gi)]; obtain ⟨y1, y2⟩ := hY3.facts; have HY3 := Lib.hid hY3; clear hb3 hM3 hY3) | (go_at_call_of 31 (Value.string part); refine (HG1.out gi _ (HB0.out.trans (B3.out.b.mono hsz0)) HM3.out).mono ?_; rintro e w4 ⟨A1, m1, rfl, hr1, hb4⟩; have B4 := Lib.hid ((B3.out.below hb4).alloc (.cells #[.string pname, .string pkind, .string pinto, .string pslot, .int .i64 pmade, .int .i64 psince, .bool pgone, .slice A1 pprops.length m1, .int .i64 pkl, .int .i64 pkh, .int .i64 pcl, .int .i64 pch, .int .i64 pdl, .int .i64 pdh] 33)); obtain ⟨b1, b2, b3, b4, b5⟩ := B4.out.cells; have hP4 := Has.new w4 33 #[.string pname, .string pkind, .string pinto, .string pslot, .int .i64 pmade, .int .i64 psince, .bool pgone, .slice A1 pprops.length m1, .int .i64 pkl, .int .i64 pkh, .int .i64 pcl, .int .i64 pch, .int .i64 pdl, .int .i64 pdh]; obtain ⟨q1, q2⟩ := hP4.facts; have HP4 := Lib.hid hP4; have HR1 := Lib.hid hr1; have z4 := hb4.size; have HY4 := Lib.hid ((HY3.out.below hb4 (by simp)).alloc (.cells #[.string pname, .string pkind, .string pinto, .string pslot, .int .i64 pmade, .int .i64 psince, .bool pgone, .slice A1 pprops.length m1, .int .i64 pkl, .int .i64 pkh, .int .i64 pcl, .int .i64 pch, .int .i64 pdl, .int .i64 pdh] 33)); obtain ⟨y3, y4⟩ := ((HY3.out.below hb4 (by simp)).alloc (.cells #[.string pname, .string pkind, .string pinto, .string pslot, .int .i64 pmade, .int .i64 psince, .bool pgone, .slice A1 pprops.length m1, .int .i64 pkl, .int .i64 pkh, .int .i64 pcl, .int .i64 pch, .int .i64 pdl, .int .i64 pdh] 33)).facts; have HM4 := Lib.hid ((HM3.out.below hb4 (by simp; omega)).alloc (.cells #[.string pname, .string pkind, .string pinto, .string pslot, .int .i64 pmade, .int .i64 psince, .bool pgone, .slice A1 pprops.length m1, .int .i64 pkl, .int .i64 pkh, .int .i64 pcl, .int .i64 pch, .int .i64 pdl, .int .i64 pdh] 33)); clear hb4 hP4 hr1) | (go_at_call 54; refine (no_any _ _).mono ?_; rintro e wn ⟨rfl, hbn⟩; have BN := Lib.hid (B4.out.below hbn); obtain ⟨n1, n2, n3, n4, n5⟩ := BN.out.cells; clear hbn))
  refine bodyPost_ret (v := .tuple #[.agg #[.slice none 0 0], .int .i64 3]) (by simp [results, Tryz.results27, go_sem, n4]) rfl ?_
  have hres : applyL c l ⟨1, day, part, kind, into, slot, key, value, ukl, ukh, ucl, uch, ull, ulh⟩ = ([], 3) := by
    rw [HST.out]; unfold stepL; simp only [HPF.out]; rfl
  rw [hres]
  have hB := BN.out.b
  have hz := BN.out.z
  exact ⟨_, rfl, Rd.nil _ _, by go_grown⟩
set_option maxRecDepth 100000 in
set_option maxHeartbeats 16000000 in
theorem make_kind (w0 : World) (cv sv : Value) (c : List Kd) (l : List Pa) (op day : Int) (part kind into slot key value : ByteArray) (ukl ukh ucl uch ull ulh : Int) (w : World) (hb0 : Below w0.heap.size w0 w) (hcat : Cat w0 cv c) (hcl : c.length ≤ 100000) (hks : ∀ k ∈ c, k.short) (hsta : Sta w0 sv l) (hl : l.length ≤ 99999) (hps : ∀ p ∈ l, p.short) (hev : Ev.short ⟨op, day, part, kind, into, slot, key, value, ukl, ukh, ucl, uch, ull, ulh⟩) (hvb : validB c l = true) (hok : evOk ⟨op, day, part, kind, into, slot, key, value, ukl, ukh, ucl, uch, ull, ulh⟩ = true) (hop : op = 1) (hpf : pfind l part = none) (hkf : kfind c kind = none) :
    Calls Tryz.prog 27 #[.agg #[cv], .agg #[sv], .agg #[.int .i64 op, .int .i64 day, .string part, .string kind, .string into, .string slot, .string key, .string value, .int .i64 ukl, .int .i64 ukh, .int .i64 ucl, .int .i64 uch, .int .i64 ull, .int .i64 ulh]] w fun r w' => ∃ v', r = .returned (.tuple #[.agg #[v'], .int .i64 (applyL c l ⟨op, day, part, kind, into, slot, key, value, ukl, ukh, ucl, uch, ull, ulh⟩).2]) ∧ Sta w' v' (applyL c l ⟨op, day, part, kind, into, slot, key, value, ukl, ukh, ucl, uch, ull, ulh⟩).1 ∧ Below w.heap.size w w' := by
  obtain ⟨A', cc, rfl, hn⟩ := Rd.form hcat
  obtain ⟨A, cs0, rfl, hn0⟩ := Rd.form hsta
  have HB0 := Lib.hid hb0
  have hsz0 := hb0.size
  have B0 := Lib.hid (ApB.new w A' c.length cc A l.length cs0 #[.int .i64 op, .int .i64 day, .string part, .string kind, .string into, .string slot, .string key, .string value, .int .i64 ukl, .int .i64 ukh, .int .i64 ucl, .int .i64 uch, .int .i64 ull, .int .i64 ulh])
  have HV := Lib.hid hsta
  have HFV := Lib.hid (fun W (h : Below w0.heap.size w0 W) => fvalid_any w0 _ _ c l W h hcat hcl hks hsta (by omega) hps)
  have HF := Lib.hid (fun x W (h : Below w0.heap.size w0 W) => find_any w0 _ c x W h hcat hcl)
  have HTK := Lib.hid (fun x y z W (h : Below w0.heap.size w0 W) => takes_any w0 _ c x y z W h hcat hcl hks)
  have HOF := Lib.hid (fun W (h : Below w0.heap.size w0 W) => of_any w0 _ l W h hsta (by omega))
  have HGT := Lib.hid (fun g x W (h : Below w0.heap.size w0 W) hM => get_any w0 _ l g x W h hsta hM)
  have HPS := Lib.hid hps
  clear hb0 hcat hks hsta hps
  have HVB := Lib.hid hvb
  have HOK := Lib.hid hok
  have HSO := Lib.hid (validB_sorted hvb)
  have HG1 := Lib.hid (fun g W h hM => HGT.out g part W h hM)
  have HST : Hid (applyL c l ⟨op, day, part, kind, into, slot, key, value, ukl, ukh, ucl, uch, ull, ulh⟩ = stepL c l ⟨op, day, part, kind, into, slot, key, value, ukl, ukh, ucl, uch, ull, ulh⟩) := by show applyL c l ⟨op, day, part, kind, into, slot, key, value, ukl, ukh, ucl, uch, ull, ulh⟩ = stepL c l ⟨op, day, part, kind, into, slot, key, value, ukl, ukh, ucl, uch, ull, ulh⟩; unfold applyL; rw [hvb, hok]; rfl
  clear hvb hok
  subst hop
  have HPF := Lib.hid hpf
  rw [hpf] at HG1
  simp only [Option.getD_none, Option.isSome_none, noPa, List.length_nil] at HG1
  clear hpf
  have HFK := Lib.hid (fun W h => HF.out kind W h)
  have HKF := Lib.hid hkf
  rw [hkf] at HFK
  simp only [Option.getD_none, Option.isSome_none, noKd, List.length_nil] at HFK
  clear hkf
  go_enter Tryz.func27, Tryz.ntmps27
  go_wp2_with (first | (go_at_call 28; refine (HFV.out _ (HB0.out.trans (B0.out.b.mono hsz0))).mono ?_; rintro e w1 ⟨rfl, hb1⟩; rw [HVB.out]; have B1 := Lib.hid (B0.out.below hb1); obtain ⟨f1, f2, f3, f4, f5⟩ := B1.out.cells; clear hb1) | (go_at_call 50; refine (valid_any ⟨_, day, part, kind, into, slot, key, value, ukl, ukh, ucl, uch, ull, ulh⟩ _ hev).mono ?_; rintro e w2 ⟨rfl, hb2⟩; rw [HOK.out]; have B2 := Lib.hid (B1.out.below hb2); obtain ⟨g1, g2, g3, g4, g5⟩ := B2.out.cells; clear hb2) | (go_at_call 30; refine (HOF.out _ (HB0.out.trans (B2.out.b.mono hsz0))).mono ?_; rintro e w3 ⟨gi, rfl, hM3, hgi, hb3⟩; have hgil := hM3.lt; have hz3 := (B2.out.below hb3).z; have B3 := Lib.hid ((B2.out.below hb3).alloc (.cells #[.slice A l.length cs0, .map (some gi)] 69)); obtain ⟨a1, a2, a3, a4, a5⟩ := B3.out.cells; have HM3 := Lib.hid (hM3.alloc (.cells #[.slice A l.length cs0, .map (some gi)] 69)); have hY3 := Has.new w3 69 #[.slice A l.length cs0, .map (some gi)]; obtain ⟨y1, y2⟩ := hY3.facts; have HY3 := Lib.hid hY3; clear hb3 hM3 hY3) | (go_at_call_of 31 (Value.string part); refine (HG1.out gi _ (HB0.out.trans (B3.out.b.mono hsz0)) HM3.out).mono ?_; rintro e w4 ⟨A1, m1, rfl, hr1, hb4⟩; have B4 := Lib.hid ((B3.out.below hb4).alloc (.cells #[.string ⟨#[]⟩, .string ⟨#[]⟩, .string ⟨#[]⟩, .string ⟨#[]⟩, .int .i64 0, .int .i64 0, .bool false, .slice A1 0 m1, .int .i64 0, .int .i64 0, .int .i64 0, .int .i64 0, .int .i64 0, .int .i64 0] 33)); obtain ⟨b1, b2, b3, b4, b5⟩ := B4.out.cells; have hP4 := Has.new w4 33 #[.string ⟨#[]⟩, .string ⟨#[]⟩, .string ⟨#[]⟩, .string ⟨#[]⟩, .int .i64 0, .int .i64 0, .bool false, .slice A1 0 m1, .int .i64 0, .int .i64 0, .int .i64 0, .int .i64 0, .int .i64 0, .int .i64 0]; obtain ⟨q1, q2⟩ := hP4.facts; have HP4 := Lib.hid hP4; have HR1 := Lib.hid hr1; have z4 := hb4.size; have HY4 := Lib.hid ((HY3.out.below hb4 (by simp)).alloc (.cells #[.string ⟨#[]⟩, .string ⟨#[]⟩, .string ⟨#[]⟩, .string ⟨#[]⟩, .int .i64 0, .int .i64 0, .bool false, .slice A1 0 m1, .int .i64 0, .int .i64 0, .int .i64 0, .int .i64 0, .int .i64 0, .int .i64 0] 33)); obtain ⟨y3, y4⟩ := ((HY3.out.below hb4 (by simp)).alloc (.cells #[.string ⟨#[]⟩, .string ⟨#[]⟩, .string ⟨#[]⟩, .string ⟨#[]⟩, .int .i64 0, .int .i64 0, .bool false, .slice A1 0 m1, .int .i64 0, .int .i64 0, .int .i64 0, .int .i64 0, .int .i64 0, .int .i64 0] 33)).facts; have HM4 := Lib.hid ((HM3.out.below hb4 (by simp; omega)).alloc (.cells #[.string ⟨#[]⟩, .string ⟨#[]⟩, .string ⟨#[]⟩, .string ⟨#[]⟩, .int .i64 0, .int .i64 0, .bool false, .slice A1 0 m1, .int .i64 0, .int .i64 0, .int .i64 0, .int .i64 0, .int .i64 0, .int .i64 0] 33)); clear hb4 hP4 hr1) | (go_at_call 55; refine (HFK.out _ (HB0.out.trans (B4.out.b.mono hsz0))).mono ?_; rintro e w5 ⟨A5, m5, rfl, hr5, hb5⟩; have B5 := Lib.hid ((B4.out.below hb5).alloc (.cells #[.string ⟨#[]⟩, .bool false, .slice A5 0 m5] 98)); obtain ⟨c1, c2, c3, c4, c5⟩ := B5.out.cells; have hK5 := Has.new w5 98 #[.string ⟨#[]⟩, .bool false, .slice A5 0 m5]; obtain ⟨k1, k2⟩ := hK5.facts; clear hb5 hK5 hr5) | (go_at_call 54; refine (no_any _ _).mono ?_; rintro e wn ⟨rfl, hbn⟩; have BN := Lib.hid (B5.out.below hbn); obtain ⟨n1, n2, n3, n4, n5⟩ := BN.out.cells; clear hbn))
  refine bodyPost_ret (v := .tuple #[.agg #[.slice none 0 0], .int .i64 4]) (by simp [results, Tryz.results27, go_sem, n4]) rfl ?_
  have hres : applyL c l ⟨1, day, part, kind, into, slot, key, value, ukl, ukh, ucl, uch, ull, ulh⟩ = ([], 4) := by
    rw [HST.out]; unfold stepL; simp only [HPF.out, HKF.out]; rfl
  rw [hres]
  have hB := BN.out.b
  have hz := BN.out.z
  exact ⟨_, rfl, Rd.nil _ _, by go_grown⟩
set_option maxRecDepth 100000 in
set_option maxHeartbeats 16000000 in
theorem make_limit (w0 : World) (cv sv : Value) (c : List Kd) (l : List Pa) (op day : Int) (part kind into slot key value : ByteArray) (ukl ukh ucl uch ull ulh : Int) (w : World) (hb0 : Below w0.heap.size w0 w) (hcat : Cat w0 cv c) (hcl : c.length ≤ 100000) (hks : ∀ k ∈ c, k.short) (hsta : Sta w0 sv l) (_hl : l.length ≤ 99999) (hps : ∀ p ∈ l, p.short) (hev : Ev.short ⟨op, day, part, kind, into, slot, key, value, ukl, ukh, ucl, uch, ull, ulh⟩) (hvb : validB c l = true) (hok : evOk ⟨op, day, part, kind, into, slot, key, value, ukl, ukh, ucl, uch, ull, ulh⟩ = true) (hop : op = 1) (hpf : pfind l part = none) (fk : Kd) (hkf : kfind c kind = some fk) (h20 : l.length = 20000) :
    Calls Tryz.prog 27 #[.agg #[cv], .agg #[sv], .agg #[.int .i64 op, .int .i64 day, .string part, .string kind, .string into, .string slot, .string key, .string value, .int .i64 ukl, .int .i64 ukh, .int .i64 ucl, .int .i64 uch, .int .i64 ull, .int .i64 ulh]] w fun r w' => ∃ v', r = .returned (.tuple #[.agg #[v'], .int .i64 (applyL c l ⟨op, day, part, kind, into, slot, key, value, ukl, ukh, ucl, uch, ull, ulh⟩).2]) ∧ Sta w' v' (applyL c l ⟨op, day, part, kind, into, slot, key, value, ukl, ukh, ucl, uch, ull, ulh⟩).1 ∧ Below w.heap.size w w' := by
  obtain ⟨A', cc, rfl, hn⟩ := Rd.form hcat
  obtain ⟨A, cs0, rfl, hn0⟩ := Rd.form hsta
  have HB0 := Lib.hid hb0
  have hsz0 := hb0.size
  have B0 := Lib.hid (ApB.new w A' c.length cc A l.length cs0 #[.int .i64 op, .int .i64 day, .string part, .string kind, .string into, .string slot, .string key, .string value, .int .i64 ukl, .int .i64 ukh, .int .i64 ucl, .int .i64 uch, .int .i64 ull, .int .i64 ulh])
  have HV := Lib.hid hsta
  have HFV := Lib.hid (fun W (h : Below w0.heap.size w0 W) => fvalid_any w0 _ _ c l W h hcat hcl hks hsta (by omega) hps)
  have HF := Lib.hid (fun x W (h : Below w0.heap.size w0 W) => find_any w0 _ c x W h hcat hcl)
  have HTK := Lib.hid (fun x y z W (h : Below w0.heap.size w0 W) => takes_any w0 _ c x y z W h hcat hcl hks)
  have HOF := Lib.hid (fun W (h : Below w0.heap.size w0 W) => of_any w0 _ l W h hsta (by omega))
  have HGT := Lib.hid (fun g x W (h : Below w0.heap.size w0 W) hM => get_any w0 _ l g x W h hsta hM)
  have HPS := Lib.hid hps
  clear hb0 hcat hks hsta hps
  have HVB := Lib.hid hvb
  have HOK := Lib.hid hok
  have HSO := Lib.hid (validB_sorted hvb)
  have HG1 := Lib.hid (fun g W h hM => HGT.out g part W h hM)
  have HST : Hid (applyL c l ⟨op, day, part, kind, into, slot, key, value, ukl, ukh, ucl, uch, ull, ulh⟩ = stepL c l ⟨op, day, part, kind, into, slot, key, value, ukl, ukh, ucl, uch, ull, ulh⟩) := by show applyL c l ⟨op, day, part, kind, into, slot, key, value, ukl, ukh, ucl, uch, ull, ulh⟩ = stepL c l ⟨op, day, part, kind, into, slot, key, value, ukl, ukh, ucl, uch, ull, ulh⟩; unfold applyL; rw [hvb, hok]; rfl
  clear hvb hok
  subst hop
  have HPF := Lib.hid hpf
  rw [hpf] at HG1
  simp only [Option.getD_none, Option.isSome_none, noPa, List.length_nil] at HG1
  clear hpf
  have HFK := Lib.hid (fun W h => HF.out kind W h)
  have HKF := Lib.hid hkf
  rw [hkf] at HFK
  obtain ⟨fn, fv, fs⟩ := fk
  simp only [Option.getD_some, Option.isSome_some] at HFK
  clear hkf
  have h20' : ((l.length : Int) == 20000) = true := by rw [beq_iff_eq]; omega
  have H20 := Lib.hid h20
  clear h20
  go_enter Tryz.func27, Tryz.ntmps27
  go_wp2_with (first | (go_at_call 28; refine (HFV.out _ (HB0.out.trans (B0.out.b.mono hsz0))).mono ?_; rintro e w1 ⟨rfl, hb1⟩; rw [HVB.out]; have B1 := Lib.hid (B0.out.below hb1); obtain ⟨f1, f2, f3, f4, f5⟩ := B1.out.cells; clear hb1) | (go_at_call 50; refine (valid_any ⟨_, day, part, kind, into, slot, key, value, ukl, ukh, ucl, uch, ull, ulh⟩ _ hev).mono ?_; rintro e w2 ⟨rfl, hb2⟩; rw [HOK.out]; have B2 := Lib.hid (B1.out.below hb2); obtain ⟨g1, g2, g3, g4, g5⟩ := B2.out.cells; clear hb2) | (go_at_call 30; refine (HOF.out _ (HB0.out.trans (B2.out.b.mono hsz0))).mono ?_; rintro e w3 ⟨gi, rfl, hM3, hgi, hb3⟩; have hgil := hM3.lt; have hz3 := (B2.out.below hb3).z; have B3 := Lib.hid ((B2.out.below hb3).alloc (.cells #[.slice A l.length cs0, .map (some gi)] 69)); obtain ⟨a1, a2, a3, a4, a5⟩ := B3.out.cells; have HM3 := Lib.hid (hM3.alloc (.cells #[.slice A l.length cs0, .map (some gi)] 69)); have hY3 := Has.new w3 69 #[.slice A l.length cs0, .map (some gi)]; obtain ⟨y1, y2⟩ := hY3.facts; have HY3 := Lib.hid hY3; clear hb3 hM3 hY3) | (go_at_call_of 31 (Value.string part); refine (HG1.out gi _ (HB0.out.trans (B3.out.b.mono hsz0)) HM3.out).mono ?_; rintro e w4 ⟨A1, m1, rfl, hr1, hb4⟩; have B4 := Lib.hid ((B3.out.below hb4).alloc (.cells #[.string ⟨#[]⟩, .string ⟨#[]⟩, .string ⟨#[]⟩, .string ⟨#[]⟩, .int .i64 0, .int .i64 0, .bool false, .slice A1 0 m1, .int .i64 0, .int .i64 0, .int .i64 0, .int .i64 0, .int .i64 0, .int .i64 0] 33)); obtain ⟨b1, b2, b3, b4, b5⟩ := B4.out.cells; have hP4 := Has.new w4 33 #[.string ⟨#[]⟩, .string ⟨#[]⟩, .string ⟨#[]⟩, .string ⟨#[]⟩, .int .i64 0, .int .i64 0, .bool false, .slice A1 0 m1, .int .i64 0, .int .i64 0, .int .i64 0, .int .i64 0, .int .i64 0, .int .i64 0]; obtain ⟨q1, q2⟩ := hP4.facts; have HP4 := Lib.hid hP4; have HR1 := Lib.hid hr1; have z4 := hb4.size; have HY4 := Lib.hid ((HY3.out.below hb4 (by simp)).alloc (.cells #[.string ⟨#[]⟩, .string ⟨#[]⟩, .string ⟨#[]⟩, .string ⟨#[]⟩, .int .i64 0, .int .i64 0, .bool false, .slice A1 0 m1, .int .i64 0, .int .i64 0, .int .i64 0, .int .i64 0, .int .i64 0, .int .i64 0] 33)); obtain ⟨y3, y4⟩ := ((HY3.out.below hb4 (by simp)).alloc (.cells #[.string ⟨#[]⟩, .string ⟨#[]⟩, .string ⟨#[]⟩, .string ⟨#[]⟩, .int .i64 0, .int .i64 0, .bool false, .slice A1 0 m1, .int .i64 0, .int .i64 0, .int .i64 0, .int .i64 0, .int .i64 0, .int .i64 0] 33)).facts; have HM4 := Lib.hid ((HM3.out.below hb4 (by simp; omega)).alloc (.cells #[.string ⟨#[]⟩, .string ⟨#[]⟩, .string ⟨#[]⟩, .string ⟨#[]⟩, .int .i64 0, .int .i64 0, .bool false, .slice A1 0 m1, .int .i64 0, .int .i64 0, .int .i64 0, .int .i64 0, .int .i64 0, .int .i64 0] 33)); clear hb4 hP4 hr1) | (go_at_call 55; refine (HFK.out _ (HB0.out.trans (B4.out.b.mono hsz0))).mono ?_; rintro e w5 ⟨A5, m5, rfl, hr5, hb5⟩; have B5 := Lib.hid ((B4.out.below hb5).alloc (.cells #[.string fn, .bool fv, .slice A5 fs.length m5] 98)); obtain ⟨c1, c2, c3, c4, c5⟩ := B5.out.cells; have hK5 := Has.new w5 98 #[.string fn, .bool fv, .slice A5 fs.length m5]; obtain ⟨k1, k2⟩ := hK5.facts; clear hb5 hK5 hr5) | (go_at_call 54; refine (no_any _ _).mono ?_; rintro e wn ⟨rfl, hbn⟩; have BN := Lib.hid (B5.out.below hbn); obtain ⟨n1, n2, n3, n4, n5⟩ := BN.out.cells; clear hbn))
  refine bodyPost_ret (v := .tuple #[.agg #[.slice none 0 0], .int .i64 7]) (by simp [results, Tryz.results27, go_sem, n4]) rfl ?_
  have hres : applyL c l ⟨1, day, part, kind, into, slot, key, value, ukl, ukh, ucl, uch, ull, ulh⟩ = ([], 7) := by
    rw [HST.out]; unfold stepL; simp only [HPF.out, HKF.out]; rw [if_pos H20.out]; rfl
  rw [hres]
  have hB := BN.out.b
  have hz := BN.out.z
  exact ⟨_, rfl, Rd.nil _ _, by go_grown⟩
set_option maxRecDepth 100000 in
set_option maxHeartbeats 16000000 in
theorem make_ok (w0 : World) (cv sv : Value) (c : List Kd) (l : List Pa) (op day : Int) (part kind into slot key value : ByteArray) (ukl ukh ucl uch ull ulh : Int) (w : World) (hb0 : Below w0.heap.size w0 w) (hcat : Cat w0 cv c) (hcl : c.length ≤ 100000) (hks : ∀ k ∈ c, k.short) (hsta : Sta w0 sv l) (hl : l.length ≤ 99999) (hps : ∀ p ∈ l, p.short) (hev : Ev.short ⟨op, day, part, kind, into, slot, key, value, ukl, ukh, ucl, uch, ull, ulh⟩) (hvb : validB c l = true) (hok : evOk ⟨op, day, part, kind, into, slot, key, value, ukl, ukh, ucl, uch, ull, ulh⟩ = true) (hop : op = 1) (hpf : pfind l part = none) (fk : Kd) (hkf : kfind c kind = some fk) (h20 : ¬ l.length = 20000) :
    Calls Tryz.prog 27 #[.agg #[cv], .agg #[sv], .agg #[.int .i64 op, .int .i64 day, .string part, .string kind, .string into, .string slot, .string key, .string value, .int .i64 ukl, .int .i64 ukh, .int .i64 ucl, .int .i64 uch, .int .i64 ull, .int .i64 ulh]] w fun r w' => ∃ v', r = .returned (.tuple #[.agg #[v'], .int .i64 (applyL c l ⟨op, day, part, kind, into, slot, key, value, ukl, ukh, ucl, uch, ull, ulh⟩).2]) ∧ Sta w' v' (applyL c l ⟨op, day, part, kind, into, slot, key, value, ukl, ukh, ucl, uch, ull, ulh⟩).1 ∧ Below w.heap.size w w' := by
  obtain ⟨A', cc, rfl, hn⟩ := Rd.form hcat
  obtain ⟨A, cs0, rfl, hn0⟩ := Rd.form hsta
  have HB0 := Lib.hid hb0
  have hsz0 := hb0.size
  have B0 := Lib.hid (ApB.new w A' c.length cc A l.length cs0 #[.int .i64 op, .int .i64 day, .string part, .string kind, .string into, .string slot, .string key, .string value, .int .i64 ukl, .int .i64 ukh, .int .i64 ucl, .int .i64 uch, .int .i64 ull, .int .i64 ulh])
  have HV := Lib.hid hsta
  have HFV := Lib.hid (fun W (h : Below w0.heap.size w0 W) => fvalid_any w0 _ _ c l W h hcat hcl hks hsta (by omega) hps)
  have HF := Lib.hid (fun x W (h : Below w0.heap.size w0 W) => find_any w0 _ c x W h hcat hcl)
  have HTK := Lib.hid (fun x y z W (h : Below w0.heap.size w0 W) => takes_any w0 _ c x y z W h hcat hcl hks)
  have HOF := Lib.hid (fun W (h : Below w0.heap.size w0 W) => of_any w0 _ l W h hsta (by omega))
  have HGT := Lib.hid (fun g x W (h : Below w0.heap.size w0 W) hM => get_any w0 _ l g x W h hsta hM)
  have HPS := Lib.hid hps
  clear hb0 hcat hks hsta hps
  have HVB := Lib.hid hvb
  have HOK := Lib.hid hok
  have HSO := Lib.hid (validB_sorted hvb)
  have HG1 := Lib.hid (fun g W h hM => HGT.out g part W h hM)
  have HST : Hid (applyL c l ⟨op, day, part, kind, into, slot, key, value, ukl, ukh, ucl, uch, ull, ulh⟩ = stepL c l ⟨op, day, part, kind, into, slot, key, value, ukl, ukh, ucl, uch, ull, ulh⟩) := by show applyL c l ⟨op, day, part, kind, into, slot, key, value, ukl, ukh, ucl, uch, ull, ulh⟩ = stepL c l ⟨op, day, part, kind, into, slot, key, value, ukl, ukh, ucl, uch, ull, ulh⟩; unfold applyL; rw [hvb, hok]; rfl
  clear hvb hok
  subst hop
  have HPF := Lib.hid hpf
  rw [hpf] at HG1
  simp only [Option.getD_none, Option.isSome_none, noPa, List.length_nil] at HG1
  clear hpf
  have HFK := Lib.hid (fun W h => HF.out kind W h)
  have HKF := Lib.hid hkf
  rw [hkf] at HFK
  obtain ⟨fn, fv, fs⟩ := fk
  simp only [Option.getD_some, Option.isSome_some] at HFK
  clear hkf
  have h20' : ¬ (l.length : Int) = 20000 := by omega
  go_enter Tryz.func27, Tryz.ntmps27
  go_wp2_with (first | (go_at_call 28; refine (HFV.out _ (HB0.out.trans (B0.out.b.mono hsz0))).mono ?_; rintro e w1 ⟨rfl, hb1⟩; rw [HVB.out]; have B1 := Lib.hid (B0.out.below hb1); obtain ⟨f1, f2, f3, f4, f5⟩ := B1.out.cells; clear hb1) | (go_at_call 50; refine (valid_any ⟨_, day, part, kind, into, slot, key, value, ukl, ukh, ucl, uch, ull, ulh⟩ _ hev).mono ?_; rintro e w2 ⟨rfl, hb2⟩; rw [HOK.out]; have B2 := Lib.hid (B1.out.below hb2); obtain ⟨g1, g2, g3, g4, g5⟩ := B2.out.cells; clear hb2) | (go_at_call 30; refine (HOF.out _ (HB0.out.trans (B2.out.b.mono hsz0))).mono ?_; rintro e w3 ⟨gi, rfl, hM3, hgi, hb3⟩; have hgil := hM3.lt; have hz3 := (B2.out.below hb3).z; have B3 := Lib.hid ((B2.out.below hb3).alloc (.cells #[.slice A l.length cs0, .map (some gi)] 69)); obtain ⟨a1, a2, a3, a4, a5⟩ := B3.out.cells; have HM3 := Lib.hid (hM3.alloc (.cells #[.slice A l.length cs0, .map (some gi)] 69)); have hY3 := Has.new w3 69 #[.slice A l.length cs0, .map (some gi)]; obtain ⟨y1, y2⟩ := hY3.facts; have HY3 := Lib.hid hY3; clear hb3 hM3 hY3) | (go_at_call_of 31 (Value.string part); refine (HG1.out gi _ (HB0.out.trans (B3.out.b.mono hsz0)) HM3.out).mono ?_; rintro e w4 ⟨A1, m1, rfl, hr1, hb4⟩; have B4 := Lib.hid ((B3.out.below hb4).alloc (.cells #[.string ⟨#[]⟩, .string ⟨#[]⟩, .string ⟨#[]⟩, .string ⟨#[]⟩, .int .i64 0, .int .i64 0, .bool false, .slice A1 0 m1, .int .i64 0, .int .i64 0, .int .i64 0, .int .i64 0, .int .i64 0, .int .i64 0] 33)); obtain ⟨b1, b2, b3, b4, b5⟩ := B4.out.cells; have hP4 := Has.new w4 33 #[.string ⟨#[]⟩, .string ⟨#[]⟩, .string ⟨#[]⟩, .string ⟨#[]⟩, .int .i64 0, .int .i64 0, .bool false, .slice A1 0 m1, .int .i64 0, .int .i64 0, .int .i64 0, .int .i64 0, .int .i64 0, .int .i64 0]; obtain ⟨q1, q2⟩ := hP4.facts; have HP4 := Lib.hid hP4; have HR1 := Lib.hid hr1; have z4 := hb4.size; have HY4 := Lib.hid ((HY3.out.below hb4 (by simp)).alloc (.cells #[.string ⟨#[]⟩, .string ⟨#[]⟩, .string ⟨#[]⟩, .string ⟨#[]⟩, .int .i64 0, .int .i64 0, .bool false, .slice A1 0 m1, .int .i64 0, .int .i64 0, .int .i64 0, .int .i64 0, .int .i64 0, .int .i64 0] 33)); obtain ⟨y3, y4⟩ := ((HY3.out.below hb4 (by simp)).alloc (.cells #[.string ⟨#[]⟩, .string ⟨#[]⟩, .string ⟨#[]⟩, .string ⟨#[]⟩, .int .i64 0, .int .i64 0, .bool false, .slice A1 0 m1, .int .i64 0, .int .i64 0, .int .i64 0, .int .i64 0, .int .i64 0, .int .i64 0] 33)).facts; have HM4 := Lib.hid ((HM3.out.below hb4 (by simp; omega)).alloc (.cells #[.string ⟨#[]⟩, .string ⟨#[]⟩, .string ⟨#[]⟩, .string ⟨#[]⟩, .int .i64 0, .int .i64 0, .bool false, .slice A1 0 m1, .int .i64 0, .int .i64 0, .int .i64 0, .int .i64 0, .int .i64 0, .int .i64 0] 33)); clear hb4 hP4 hr1) | (go_at_call 55; refine (HFK.out _ (HB0.out.trans (B4.out.b.mono hsz0))).mono ?_; rintro e w5 ⟨A5, m5, rfl, hr5, hb5⟩; have B5 := Lib.hid ((B4.out.below hb5).alloc (.cells #[.string fn, .bool fv, .slice A5 fs.length m5] 98)); obtain ⟨c1, c2, c3, c4, c5⟩ := B5.out.cells; have hK5 := Has.new w5 98 #[.string fn, .bool fv, .slice A5 fs.length m5]; obtain ⟨k1, k2⟩ := hK5.facts; clear hb5 hK5 hr5) | (go_at_call 51; refine (next_any _ l part kind ⟨#[]⟩ ⟨#[]⟩ day day false [] none 0 0 0 0 0 0 0 (w.heap.size + 1) _ (HV.out.below (HB0.out.trans (B5.out.b.mono hsz0))) hl HSO.out (Rd.nil none 0) B5.out.s).mono ?_; rintro e wn ⟨v9, rfl, hr9, hbn⟩; obtain ⟨A9, c9, hf9, _⟩ := Rd.form hr9; subst hf9; have HR9 := Lib.hid hr9; have BN := Lib.hid (B5.out.below hbn); obtain ⟨n1, n2, n3, n4, n5⟩ := BN.out.cells; clear hbn hr9))
  refine bodyPost_ret (v := .tuple #[.agg #[.slice A9 (putP l ⟨part, kind, ⟨#[]⟩, ⟨#[]⟩, day, day, false, [], 0, 0, 0, 0, 0, 0⟩).length c9], .int .i64 0]) (by simp [results, Tryz.results27, go_sem, n4]) rfl ?_
  have hres : applyL c l ⟨1, day, part, kind, into, slot, key, value, ukl, ukh, ucl, uch, ull, ulh⟩ = (putP l ⟨part, kind, ⟨#[]⟩, ⟨#[]⟩, day, day, false, [], 0, 0, 0, 0, 0, 0⟩, 0) := by
    rw [HST.out]; unfold stepL; simp only [HPF.out, HKF.out, h20]; rfl
  rw [hres]
  have hB := BN.out.b
  have hz := BN.out.z
  exact ⟨_, rfl, Sta.far1 HR9.out _ BN.out.r, by go_grown⟩
end Go.Proofs.YtccnocgmikmonaaGreatDoor
namespace Go.Proofs.YtccnocgmikmonaaGreatDoor
open Go Go.RowKit
section
variable {w k k' : World} {A' : Option Addr} {cl cc : Nat} {A : Option Addr} {ll cs0 : Nat} {E : Array Value}
theorem Has.setFar {w : World} {g t : Nat} {cs : Array Value} (h : Has w g t cs) {g' : Nat} (hne : g ≠ g') (o : Nat) (ds : List Value) : Has (w.setCells g' o ds) g t cs := (setCells_other g' ds o w g hne).trans h
theorem Has.setAll {w : World} {g t : Nat} {cs : Array Value} (h : Has w g t cs) (ds : List Value) (hl : ds.length = cs.size) : Has (w.setCells g 0 ds) g t ds.toArray := by
  have := setCells_block g t ds 0 cs.toList w (by have := h; unfold Has at this; simpa using this) (by simp; omega)
  unfold Has; rw [this]; unfold splice; simp; omega
theorem ApB.setCells (h : ApB w k A' cl cc A ll cs0 E) {g : Nat} (hg : w.heap.size + 1 + 1 + 1 < g) (o : Nat) (ds : List Value) : ApB w (k.setCells g o ds) A' cl cc A ll cs0 E :=
  ⟨h.c.setFar (by omega) o ds, h.s.setFar (by omega) o ds, h.e.setFar (by omega) o ds, h.r.setFar (by omega) o ds, below_setCells (by omega) ds o k h.b, by
    have hs : ∀ (ds : List Value) (o : Nat) (k : World), (k.setCells g o ds).heap.size = k.heap.size := by
      intro ds
      induction ds with
      | nil => intro o k; rfl
      | cons v r ih => intro o k; rw [World.setCells, ih]; simp
    rw [hs]; exact h.z⟩
theorem ApB.setCell (h : ApB w k A' cl cc A ll cs0 E) {g : Nat} (hg : w.heap.size + 1 + 1 + 1 < g) (i : Nat) (u : Value) : ApB w (k.setCell ⟨g, i, none⟩ u) A' cl cc A ll cs0 E :=
  h.setCells hg i [u]
theorem ApB.drew (h : ApB w k A' cl cc A ll cs0 E) : ApB w k.drew A' cl cc A ll cs0 E := ⟨h.c, h.s, h.e, h.r, h.b.drew, h.z⟩
end
end Go.Proofs.YtccnocgmikmonaaGreatDoor
