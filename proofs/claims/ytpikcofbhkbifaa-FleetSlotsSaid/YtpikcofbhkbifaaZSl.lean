/- bogielaw10.FleetSlots returns true: the walk. For every catalog, state, number and three texts bogielaw10.FleetSlots returns true, and leaves them alone. No condition of its own. -/
import Derived.Deep.RegionHeld3
import Derived.IntWalk
import Derived.Test.YtpikcofbhkbifaaRows
import Derived.Test.YtpikcofbhkbifaaU25
import Derived.Test.YtpikcofbhkbifaaU26
import Derived.Test.YtpikcofbhkbifaaU27
namespace Go.Proofs.Ytpikcofbhkbifaa
open Go Go.RowKit
theorem fewB_take {c : List Kd} {l : List Pa} {es : List Ev} (h : fewB c l es = true) : (c.length ≤ 65 ∧ ∀ k ∈ c, k.short) ∧ (l.length ≤ 20 ∧ ∀ p ∈ l, p.short) := by
  unfold fewB at h
  simp only [Bool.and_eq_true] at h
  exact ⟨fewCa_short h.1, fewSt_short h.2.1⟩
theorem big_max {n : Nat} (h : n ≤ big) : n ≤ maxLen := by unfold big at h; unfold maxLen; omega
theorem part_facts {w : World} {b o : Nat} {x0 x1 x2 x3 x4 x5 x6 x7 x8 x9 x10 x11 x12 x13 : Value} (h : w.rangeAt b o [x0, x1, x2, x3, x4, x5, x6, x7, x8, x9, x10, x11, x12, x13]) :
    w.cell? ⟨b, o, none⟩ = some x0 ∧ w.cell? ⟨b, o + 1, none⟩ = some x1 ∧ w.cell? ⟨b, o + 2, none⟩ = some x2 ∧ w.cell? ⟨b, o + 3, none⟩ = some x3 ∧ w.cell? ⟨b, o + 4, none⟩ = some x4 ∧ w.cell? ⟨b, o + 5, none⟩ = some x5 ∧ w.cell? ⟨b, o + 6, none⟩ = some x6 ∧ w.cell? ⟨b, o + 7, none⟩ = some x7 ∧ w.cell? ⟨b, o + 8, none⟩ = some x8 ∧ w.cell? ⟨b, o + 9, none⟩ = some x9 ∧ w.cell? ⟨b, o + 10, none⟩ = some x10 ∧ w.cell? ⟨b, o + 11, none⟩ = some x11 ∧ w.cell? ⟨b, o + 12, none⟩ = some x12 ∧ w.cell? ⟨b, o + 13, none⟩ = some x13 :=
  ⟨h 0 _ rfl, h 1 _ rfl, h 2 _ rfl, h 3 _ rfl, h 4 _ rfl, h 5 _ rfl, h 6 _ rfl, h 7 _ rfl, h 8 _ rfl, h 9 _ rfl, h 10 _ rfl, h 11 _ rfl, h 12 _ rfl, h 13 _ rfl⟩
set_option maxRecDepth 100000 in
set_option maxHeartbeats 4000000 in
theorem slots_any (cv sv : Value) (c : List Kd) (l : List Pa) (n : Int) (other into slot : ByteArray) (w : World) (hcat : Cat w cv c) (hsta : Sta w sv l) (hl : l.length ≤ maxLen) (hps : ∀ p ∈ l, p.wide) (ho : other.size ≤ big) (hi : into.size ≤ big) (hs : slot.size ≤ big) (hn0 : 0 ≤ n) (hn1 : n ≤ 255) :
    Calls Try.prog 3 #[.agg #[cv], .agg #[sv], .int .u8 n, .string other, .string into, .string slot] w fun e w' => e = .returned (.bool true) ∧ Below w.heap.size w w' := by
  obtain ⟨A', cc, rfl, _⟩ := Rd.form hcat
  obtain ⟨A, cs, rfl, hn⟩ := Rd.form hsta
  have HST := Lib.hid hsta
  have HPS := Lib.hid hps
  have HFW := Lib.hid (fun W (h : Below w.heap.size w W) => few_any w (.slice A' c.length cc) (.slice A l.length cs) (.slice none 0 0) c l [] W h hcat hsta ⟨none, 0, rfl, Nat.le_refl _, .inl rfl⟩ hl hps (by simp [maxLen]))
  have HVL := Lib.hid (fun (h65 : c.length ≤ 65 ∧ ∀ k ∈ c, k.short) (h20 : l.length ≤ 20 ∧ ∀ p ∈ l, p.short) W (h : Below w.heap.size w W) => fvalid_any w (.slice A' c.length cc) (.slice A l.length cs) c l W h hcat (by omega) h65.2 hsta (by omega) h20.2)
  have HAP := Lib.hid (fun (h65 : c.length ≤ 65 ∧ ∀ k ∈ c, k.short) (h20 : l.length ≤ 20 ∧ ∀ p ∈ l, p.short) W (h : Below w.heap.size w W) ev hev => apply_any w (.slice A' c.length cc) (.slice A l.length cs) c l ev W h hcat (by omega) h65.2 hsta (by omega) h20.2 hev)
  have k1 := (Has.new w 24 #[.slice A' c.length cc]).alloc (.cells #[.slice A l.length cs] 27)
  have k2 := Has.new (w.alloc (.cells #[.slice A' c.length cc] 24)) 27 #[.slice A l.length cs]
  simp only [World.size_alloc] at k2
  have K10 := Lib.hid k1
  have K20 := Lib.hid k2
  have HB0 := Lib.hid (((Below.refl w.heap.size w).alloc (Nat.le_refl _) (.cells #[.slice A' c.length cc] 24)).alloc (by simp) (.cells #[.slice A l.length cs] 27))
  clear hcat hsta hps k1 k2
  cases hfew : fewB c l []
  · have HFEW := Lib.hid hfew
    clear hfew HVL HAP HPS HST
    go_enter Try.func3, Try.ntmps3
    go_wp2_with fail
    refine (head_any _).mono ?_
    rintro e w1 ⟨rfl, hb1⟩
    have k1 := K10.out.below hb1 K10.out.lt
    have k2 := K20.out.below hb1 K20.out.lt
    obtain ⟨x11, x12⟩ := k1.facts
    obtain ⟨x13, x14⟩ := k2.facts
    have K11 := Lib.hid k1
    have K21 := Lib.hid k2
    have HB1 := Lib.hid (HB0.out.trans (hb1.mono HB0.out.size))
    clear hb1 k1 k2
    go_wp2_with fail
    refine (HFW.out _ HB1.out).mono ?_
    rintro e w2 ⟨rfl, hb2⟩
    rw [HFEW.out]
    have k1 := K11.out.below hb2 K11.out.lt
    have k2 := K21.out.below hb2 K21.out.lt
    obtain ⟨x21, x22⟩ := k1.facts
    obtain ⟨x23, x24⟩ := k2.facts
    have K12 := Lib.hid k1
    have K22 := Lib.hid k2
    have HB2 := Lib.hid (HB1.out.trans (hb2.mono HB1.out.size))
    clear hb2 k1 k2 x11 x12 x13 x14 K11 K21
    go_wp2_with fail
    go_ret
    exact ⟨rfl, HB2.out⟩
  obtain ⟨h65, h20⟩ := fewB_take hfew
  have HVL := Lib.hid (HVL.out h65 h20)
  have HAP := Lib.hid (HAP.out h65 h20)
  have hl20 := h20.1
  have HSH := Lib.hid h20.2
  have HFEW := Lib.hid hfew
  clear hfew h65 h20
  cases hv : validB c l
  · have HV := Lib.hid hv
    clear hv HAP HPS HST
    go_enter Try.func3, Try.ntmps3
    go_wp2_with fail
    refine (head_any _).mono ?_
    rintro e w1 ⟨rfl, hb1⟩
    have k1 := K10.out.below hb1 K10.out.lt
    have k2 := K20.out.below hb1 K20.out.lt
    obtain ⟨x11, x12⟩ := k1.facts
    obtain ⟨x13, x14⟩ := k2.facts
    have K11 := Lib.hid k1
    have K21 := Lib.hid k2
    have HB1 := Lib.hid (HB0.out.trans (hb1.mono HB0.out.size))
    clear hb1 k1 k2
    go_wp2_with fail
    refine (HFW.out _ HB1.out).mono ?_
    rintro e w2 ⟨rfl, hb2⟩
    rw [HFEW.out]
    have k1 := K11.out.below hb2 K11.out.lt
    have k2 := K21.out.below hb2 K21.out.lt
    obtain ⟨x21, x22⟩ := k1.facts
    obtain ⟨x23, x24⟩ := k2.facts
    have K12 := Lib.hid k1
    have K22 := Lib.hid k2
    have HB2 := Lib.hid (HB1.out.trans (hb2.mono HB1.out.size))
    clear hb2 k1 k2 x11 x12 x13 x14 K11 K21
    go_wp2_with fail
    refine (HVL.out _ HB2.out).mono ?_
    rintro e w3 ⟨rfl, hb3⟩
    rw [HV.out]
    have k1 := K12.out.below hb3 K12.out.lt
    have k2 := K22.out.below hb3 K22.out.lt
    obtain ⟨x31, x32⟩ := k1.facts
    obtain ⟨x33, x34⟩ := k2.facts
    have K13 := Lib.hid k1
    have K23 := Lib.hid k2
    have HB3 := Lib.hid (HB2.out.trans (hb3.mono HB2.out.size))
    clear hb3 k1 k2 x21 x22 x23 x24 K12 K22
    go_wp2_with fail
    go_ret
    exact ⟨rfl, HB3.out⟩
  have HV := Lib.hid hv
  clear hv
  by_cases hz : l.length = 0
  · have hz1 : ((l.length : Int) == 0) = true := by simp [hz]
    clear HAP HPS HST hz
    go_enter Try.func3, Try.ntmps3
    go_wp2_with fail
    refine (head_any _).mono ?_
    rintro e w1 ⟨rfl, hb1⟩
    have k1 := K10.out.below hb1 K10.out.lt
    have k2 := K20.out.below hb1 K20.out.lt
    obtain ⟨x11, x12⟩ := k1.facts
    obtain ⟨x13, x14⟩ := k2.facts
    have K11 := Lib.hid k1
    have K21 := Lib.hid k2
    have HB1 := Lib.hid (HB0.out.trans (hb1.mono HB0.out.size))
    clear hb1 k1 k2
    go_wp2_with fail
    refine (HFW.out _ HB1.out).mono ?_
    rintro e w2 ⟨rfl, hb2⟩
    rw [HFEW.out]
    have k1 := K11.out.below hb2 K11.out.lt
    have k2 := K21.out.below hb2 K21.out.lt
    obtain ⟨x21, x22⟩ := k1.facts
    obtain ⟨x23, x24⟩ := k2.facts
    have K12 := Lib.hid k1
    have K22 := Lib.hid k2
    have HB2 := Lib.hid (HB1.out.trans (hb2.mono HB1.out.size))
    clear hb2 k1 k2 x11 x12 x13 x14 K11 K21
    go_wp2_with fail
    refine (HVL.out _ HB2.out).mono ?_
    rintro e w3 ⟨rfl, hb3⟩
    rw [HV.out]
    have k1 := K12.out.below hb3 K12.out.lt
    have k2 := K22.out.below hb3 K22.out.lt
    obtain ⟨x31, x32⟩ := k1.facts
    obtain ⟨x33, x34⟩ := k2.facts
    have K13 := Lib.hid k1
    have K23 := Lib.hid k2
    have HB3 := Lib.hid (HB2.out.trans (hb3.mono HB2.out.size))
    clear hb3 k1 k2 x21 x22 x23 x24 K12 K22
    go_wp2_with fail
    go_ret
    exact ⟨rfl, HB3.out⟩
  have hz1 : ((l.length : Int) == 0) = false := by simp [hz]
  unfold big at ho hi hs
  have hs1 : IntKind.i64.wrap ((other.size : Int) + (into.size : Int)) = (other.size : Int) + (into.size : Int) := by rw [IntKind.wrap_i64]; omega
  have hs2 : IntKind.i64.wrap ((other.size : Int) + (into.size : Int) + (slot.size : Int)) = (other.size : Int) + (into.size : Int) + (slot.size : Int) := by rw [IntKind.wrap_i64]; omega
  by_cases h300 : (300 : Int) < (other.size : Int) + (into.size : Int) + (slot.size : Int)
  · clear HAP HPS HST
    go_enter Try.func3, Try.ntmps3
    go_wp2_with fail
    refine (head_any _).mono ?_
    rintro e w1 ⟨rfl, hb1⟩
    have k1 := K10.out.below hb1 K10.out.lt
    have k2 := K20.out.below hb1 K20.out.lt
    obtain ⟨x11, x12⟩ := k1.facts
    obtain ⟨x13, x14⟩ := k2.facts
    have K11 := Lib.hid k1
    have K21 := Lib.hid k2
    have HB1 := Lib.hid (HB0.out.trans (hb1.mono HB0.out.size))
    clear hb1 k1 k2
    go_wp2_with fail
    refine (HFW.out _ HB1.out).mono ?_
    rintro e w2 ⟨rfl, hb2⟩
    rw [HFEW.out]
    have k1 := K11.out.below hb2 K11.out.lt
    have k2 := K21.out.below hb2 K21.out.lt
    obtain ⟨x21, x22⟩ := k1.facts
    obtain ⟨x23, x24⟩ := k2.facts
    have K12 := Lib.hid k1
    have K22 := Lib.hid k2
    have HB2 := Lib.hid (HB1.out.trans (hb2.mono HB1.out.size))
    clear hb2 k1 k2 x11 x12 x13 x14 K11 K21
    go_wp2_with fail
    refine (HVL.out _ HB2.out).mono ?_
    rintro e w3 ⟨rfl, hb3⟩
    rw [HV.out]
    have k1 := K12.out.below hb3 K12.out.lt
    have k2 := K22.out.below hb3 K22.out.lt
    obtain ⟨x31, x32⟩ := k1.facts
    obtain ⟨x33, x34⟩ := k2.facts
    have K13 := Lib.hid k1
    have K23 := Lib.hid k2
    have HB3 := Lib.hid (HB2.out.trans (hb3.mono HB2.out.size))
    clear hb3 k1 k2 x21 x22 x23 x24 K12 K22
    go_wp2_with fail
    go_ret
    exact ⟨rfl, HB3.out⟩
  go_enter Try.func3, Try.ntmps3
  go_wp2_with fail
  refine (head_any _).mono ?_
  rintro e w1 ⟨rfl, hb1⟩
  have k1 := K10.out.below hb1 K10.out.lt
  have k2 := K20.out.below hb1 K20.out.lt
  obtain ⟨x11, x12⟩ := k1.facts
  obtain ⟨x13, x14⟩ := k2.facts
  have K11 := Lib.hid k1
  have K21 := Lib.hid k2
  have HB1 := Lib.hid (HB0.out.trans (hb1.mono HB0.out.size))
  clear hb1 k1 k2
  go_wp2_with fail
  refine (HFW.out _ HB1.out).mono ?_
  rintro e w2 ⟨rfl, hb2⟩
  rw [HFEW.out]
  have k1 := K11.out.below hb2 K11.out.lt
  have k2 := K21.out.below hb2 K21.out.lt
  obtain ⟨x21, x22⟩ := k1.facts
  obtain ⟨x23, x24⟩ := k2.facts
  have K12 := Lib.hid k1
  have K22 := Lib.hid k2
  have HB2 := Lib.hid (HB1.out.trans (hb2.mono HB1.out.size))
  clear hb2 k1 k2 x11 x12 x13 x14 K11 K21
  go_wp2_with fail
  refine (HVL.out _ HB2.out).mono ?_
  rintro e w3 ⟨rfl, hb3⟩
  rw [HV.out]
  have k1 := K12.out.below hb3 K12.out.lt
  have k2 := K22.out.below hb3 K22.out.lt
  obtain ⟨x31, x32⟩ := k1.facts
  obtain ⟨x33, x34⟩ := k2.facts
  have K13 := Lib.hid k1
  have K23 := Lib.hid k2
  have HB3 := Lib.hid (HB2.out.trans (hb3.mono HB2.out.size))
  clear hb3 k1 k2 x21 x22 x23 x24 K12 K22
  go_wp2_with fail
  obtain ⟨k, hk⟩ := Int.eq_ofNat_of_zero_le (Int.emod_nonneg n (show (l.length : Int) ≠ 0 by omega))
  have hkl : k < l.length := by have := Int.emod_lt_of_pos n (show (0 : Int) < l.length by omega); omega
  have hkt : n.tmod (l.length : Int) = (k : Int) := by rw [Int.tmod_eq_emod_of_nonneg hn0, hk]
  have hwn : IntKind.i64.wrap n = n := by rw [IntKind.wrap_i64]; omega
  obtain ⟨b, o, c', cs', he, _, ⟨sv, rfl, hsv⟩, _, hrg⟩ := HST.out.get hkl noPa
  injection he with e1 e2 e3
  subst e1; subst e3
  obtain ⟨A2, c2, rfl, hn2⟩ := hsv.form
  have hrg' := range_later hrg HB3.out
  have hpm : l.getD k noPa ∈ l := getD_mem l k noPa hkl
  have hwd := HPS.out _ hpm
  have HF1 := Lib.hid (fun other => slots_full (c := c) hpm other)
  have HF2 := Lib.hid (fun hi into slot => slots_in HV.out hpm hi into slot)
  have HF3 := Lib.hid (fun hi => slots_scrap HV.out hpm hi)
  clear hrg hsv hpm
  generalize l.getD k noPa = p at *
  obtain ⟨pname, pkind, pinto, pslot, pmade, psince, pgone, pprops, pkl, pkh, pcl, pch, pdl, pdh⟩ := p
  obtain ⟨d0, d1, d2, d3, _⟩ := hwd
  unfold Pa.cells at hrg'
  dsimp only at d0 d1 d2 d3 hrg' hn2 HF1 HF2 HF3
  obtain ⟨q0, q1, q2, q3, q4, q5, q6, q7, q8, q9, q10, q11, q12, q13⟩ := part_facts hrg'
  have x30 : w3.cell? ⟨w.heap.size + 1, 0, none⟩ = some (.slice (some ⟨b, o, none⟩) l.length cs) := x33 0
  have hbb : Below w3.heap.size w3 w3 := Below.refl _ _
  have hki : (k : Int) < (l.length : Int) := by omega
  have hk0 : (0 : Int) ≤ (k : Int) := by omega
  have hkn : ((k : Int)).toNat = k := by omega
  clear hrg' hn2
  go_region_held3 (fun w' => Below w3.heap.size w3 w' ∧ w'.cell? ⟨w.heap.size + 1, 0, none⟩ = some (.slice (some ⟨b, o, none⟩) l.length cs) ∧ w'.cell? ⟨b, o + k * 14, none⟩ = some (.string pname) ∧ w'.cell? ⟨b, o + k * 14 + 1, none⟩ = some (.string pkind) ∧ w'.cell? ⟨b, o + k * 14 + 2, none⟩ = some (.string pinto) ∧ w'.cell? ⟨b, o + k * 14 + 3, none⟩ = some (.string pslot) ∧ w'.cell? ⟨b, o + k * 14 + 4, none⟩ = some (.int .i64 pmade) ∧ w'.cell? ⟨b, o + k * 14 + 5, none⟩ = some (.int .i64 psince) ∧ w'.cell? ⟨b, o + k * 14 + 6, none⟩ = some (.bool pgone) ∧ w'.cell? ⟨b, o + k * 14 + 7, none⟩ = some (.slice A2 pprops.length c2) ∧ w'.cell? ⟨b, o + k * 14 + 8, none⟩ = some (.int .i64 pkl) ∧ w'.cell? ⟨b, o + k * 14 + 9, none⟩ = some (.int .i64 pkh) ∧ w'.cell? ⟨b, o + k * 14 + 10, none⟩ = some (.int .i64 pcl) ∧ w'.cell? ⟨b, o + k * 14 + 11, none⟩ = some (.int .i64 pch) ∧ w'.cell? ⟨b, o + k * 14 + 12, none⟩ = some (.int .i64 pdl) ∧ w'.cell? ⟨b, o + k * 14 + 13, none⟩ = some (.int .i64 pdh))
    (refine ⟨?_, ?_, ?_, ?_, ?_, ?_, ?_, ?_, ?_, ?_, ?_, ?_, ?_, ?_, ?_, ?_⟩ <;> first | assumption | exact hbb.drew | exact hbb.alloc (Nat.le_refl _) _ | exact (hbb.alloc (Nat.le_refl _) _).drew | exact cell_later hbb.drew (by assumption) | exact cell_later (hbb.alloc (Nat.le_refl _) _) (by assumption) | exact cell_later (hbb.alloc (Nat.le_refl _) _).drew (by assumption))
    (fail)
  rename_i hHeld
  have hBW := hHeld.1
  clear hHeld q0 q1 q2 q3 q4 q5 q6 q7 q8 q9 q10 q11 q12 q13 x30 hbb
  have k3 := (Has.new w3 37 #[.string pname, .string pkind, .string pinto, .string pslot, .int .i64 pmade, .int .i64 psince, .bool pgone, .slice A2 pprops.length c2, .int .i64 pkl, .int .i64 pkh, .int .i64 pcl, .int .i64 pch, .int .i64 pdl, .int .i64 pdh]).drew
  generalize hWe : (w3.alloc (.cells #[.string pname, .string pkind, .string pinto, .string pslot, .int .i64 pmade, .int .i64 psince, .bool pgone, .slice A2 pprops.length c2, .int .i64 pkl, .int .i64 pkh, .int .i64 pcl, .int .i64 pch, .int .i64 pdl, .int .i64 pdh] 37)).drew = W5 at *
  clear hWe
  have k1 := K13.out.below hBW K13.out.lt
  have k2 := K23.out.below hBW K23.out.lt
  obtain ⟨x51, x52⟩ := k1.facts
  obtain ⟨x53, x54⟩ := k2.facts
  obtain ⟨x55, x56⟩ := k3.facts
  have K15 := Lib.hid k1
  have K25 := Lib.hid k2
  have K35 := Lib.hid k3
  have HB5 := Lib.hid (HB3.out.trans (hBW.mono HB3.out.size))
  clear k1 k2 k3 hBW K13 K23 x31 x32 x33 x34
  unfold big at d0 d1 d2 d3
  have hs1 : (fitE other pinto pslot).short := by unfold Ev.short; dsimp only [fitE]; unfold maxLen; exact ⟨by omega, by decide, by omega, by omega, by decide, by decide⟩
  have hs2 : (fitE pname into slot).short := by unfold Ev.short; dsimp only [fitE]; unfold maxLen; exact ⟨by omega, by decide, by omega, by omega, by decide, by decide⟩
  have hs3 : (scrapE pname).short := by unfold Ev.short; dsimp only [scrapE]; unfold maxLen; exact ⟨by omega, by decide, by decide, by decide, by decide, by decide⟩
  have hs4 : (scrapE pinto).short := by unfold Ev.short; dsimp only [scrapE]; unfold maxLen; exact ⟨by omega, by decide, by decide, by decide, by decide, by decide⟩
  have HS1 := Lib.hid hs1
  have HS2 := Lib.hid hs2
  have HS3 := Lib.hid hs3
  have HS4 := Lib.hid hs4
  clear hs1 hs2 hs3 hs4
  have hie := emp_iff pinto
  cases hi : pinto.toList.isEmpty
  · have hne : pinto ≠ eS := fun e => by rw [hi, decide_eq_true e] at hie; cases hie
    have H1 := Lib.hid (HF1.out other)
    have H2 := Lib.hid (HF2.out hne into slot)
    have H3 := Lib.hid (HF3.out hne).1
    have H4 := Lib.hid (HF3.out hne).2
    clear hie hne HF1 HF2 HF3
    go_wp2_with fail
    refine (HAP.out _ HB5.out (fitE other pinto pslot) HS1.out).mono ?_
    rintro e w6 ⟨v6, rfl, hst6, hb6⟩
    obtain ⟨A6, c6, rfl, hn6⟩ := Rd.form hst6
    generalize (applyL c l (fitE other pinto pslot)).2 = e6 at *
    have b6 : (e6 != 0) = true := by simpa using H1.out
    generalize (applyL c l (fitE other pinto pslot)).1.length = n6 at *
    have k1 := K15.out.below hb6 K15.out.lt
    have k2 := K25.out.below hb6 K25.out.lt
    have k3 := K35.out.below hb6 K35.out.lt
    have z6a := k1.lt
    have z6b := k2.lt
    have z6c := k3.lt
    obtain ⟨x61, x62⟩ := k1.facts
    obtain ⟨x63, x64⟩ := k2.facts
    obtain ⟨x65, x66⟩ := k3.facts
    have K16 := Lib.hid k1
    have K26 := Lib.hid k2
    have K36 := Lib.hid k3
    have HB6 := Lib.hid (HB5.out.trans (hb6.mono HB5.out.size))
    clear hb6 k1 k2 k3 hst6 hn6 x51 x52 x53 x54 x55 x56 K15 K25 K35
    go_wp2_with fail
    refine (HAP.out _ (HB6.out.alloc HB6.out.size _) (fitE pname into slot) HS2.out).mono ?_
    rintro e w7 ⟨v7, rfl, hst7, hb7⟩
    obtain ⟨A7, c7, rfl, hn7⟩ := Rd.form hst7
    generalize (applyL c l (fitE pname into slot)).2 = e7 at *
    have b7 : (e7 != 0) = true := by simpa using H2.out
    generalize (applyL c l (fitE pname into slot)).1.length = n7 at *
    have k1 := (K16.out.alloc _).below hb7 (K16.out.alloc _).lt
    have k2 := (K26.out.alloc _).below hb7 (K26.out.alloc _).lt
    have k3 := (K36.out.alloc _).below hb7 (K36.out.alloc _).lt
    have z7a := k1.lt
    have z7b := k2.lt
    have z7c := k3.lt
    obtain ⟨x71, x72⟩ := k1.facts
    obtain ⟨x73, x74⟩ := k2.facts
    obtain ⟨x75, x76⟩ := k3.facts
    have K17 := Lib.hid k1
    have K27 := Lib.hid k2
    have K37 := Lib.hid k3
    have HB7 := Lib.hid ((HB6.out.alloc HB6.out.size _).trans (hb7.mono (HB6.out.alloc HB6.out.size _).size))
    clear hb7 k1 k2 k3 hst7 hn7 x61 x62 x63 x64 x65 x66 K16 K26 K36 z6a z6b z6c
    go_wp2_with fail
    refine (HAP.out _ (HB7.out.alloc HB7.out.size _) (scrapE pname) HS3.out).mono ?_
    rintro e w8 ⟨v8, rfl, hst8, hb8⟩
    obtain ⟨A8, c8, rfl, hn8⟩ := Rd.form hst8
    rw [H3.out]
    generalize (applyL c l (scrapE pname)).1.length = n8 at *
    have k1 := (K17.out.alloc _).below hb8 (K17.out.alloc _).lt
    have k2 := (K27.out.alloc _).below hb8 (K27.out.alloc _).lt
    have k3 := (K37.out.alloc _).below hb8 (K37.out.alloc _).lt
    have z8a := k1.lt
    have z8b := k2.lt
    have z8c := k3.lt
    obtain ⟨x81, x82⟩ := k1.facts
    obtain ⟨x83, x84⟩ := k2.facts
    obtain ⟨x85, x86⟩ := k3.facts
    have K18 := Lib.hid k1
    have K28 := Lib.hid k2
    have K38 := Lib.hid k3
    have HB8 := Lib.hid ((HB7.out.alloc HB7.out.size _).trans (hb8.mono (HB7.out.alloc HB7.out.size _).size))
    clear hb8 k1 k2 k3 hst8 hn8 x71 x72 x73 x74 x75 x76 K17 K27 K37 z7a z7b z7c
    go_wp2_with fail
    refine (HAP.out _ (HB8.out.alloc HB8.out.size _) (scrapE pinto) HS4.out).mono ?_
    rintro e w9 ⟨v9, rfl, hst9, hb9⟩
    obtain ⟨A9, c9, rfl, hn9⟩ := Rd.form hst9
    rw [H4.out]
    generalize (applyL c l (scrapE pinto)).1.length = n9 at *
    have k1 := (K18.out.alloc _).below hb9 (K18.out.alloc _).lt
    have k2 := (K28.out.alloc _).below hb9 (K28.out.alloc _).lt
    have k3 := (K38.out.alloc _).below hb9 (K38.out.alloc _).lt
    have z9a := k1.lt
    have z9b := k2.lt
    have z9c := k3.lt
    obtain ⟨x91, x92⟩ := k1.facts
    obtain ⟨x93, x94⟩ := k2.facts
    obtain ⟨x95, x96⟩ := k3.facts
    have K19 := Lib.hid k1
    have K29 := Lib.hid k2
    have K39 := Lib.hid k3
    have HB9 := Lib.hid ((HB8.out.alloc HB8.out.size _).trans (hb9.mono (HB8.out.alloc HB8.out.size _).size))
    clear hb9 k1 k2 k3 hst9 hn9 x81 x82 x83 x84 x85 x86 K18 K28 K38 z8a z8b z8c
    go_wp2_with fail
    go_ret
    exact ⟨rfl, HB9.out.alloc HB9.out.size _⟩
  · clear hie HF1 HF2 HF3
    go_wp2_with fail
    go_ret
    exact ⟨rfl, HB5.out⟩
end Go.Proofs.Ytpikcofbhkbifaa
namespace Go.Proofs.Ytpikcofbhkbifaa.slots
open Go Go.RowKit Go.ChangeShapes Go.WideShapes Go.ChangeAt
set_option maxRecDepth 100000 in
theorem contract (H : Type) (enc : TypeId × Value → H) (W : World) (base : Nat) (args : Array Value) (ds gs : List (DataW H)) (before : List MemPlace)
    (hval : ∀ (j : Nat) t v, Try.f3.params[j]? = some t → args[j]? = some v → Value.okWide Try.prog W .any base t v)
    (hW : DataW.Whole enc Try.prog Try.f3.params.toList Rows.fleetSlotsSpec.vars false W args.toList ds gs before)
    (hZ : (DataW.weightsEach Try.prog (Try.f3.params.toList ++ (OpenSpec.ofChange Rows.fleetSlotsSpec).bare.plain.varTypes Try.prog) (ds ++ gs)).all (· ≤ reachBytes) = true) :
    Calls Try.prog 3 args W fun e W' => ∃ v, e = .returned v ∧ Rows.fleetSlotsSpec.post enc Try.prog Try.f3 false true false false W args v W' := by
  have hW' := hW
  obtain ⟨p, q, hA0, hV, rfl, hfz, hnd⟩ := hW
  have hA : DataW.TrodAll enc Try.prog W 0 (fun _ => true) true Try.f3.params.toList args.toList ds p := hA0
  rw [Try.params3] at hA hval hZ
  obtain ⟨w0, vs0, d0, ds0, p0, q0, hargs, rfl, rfl, t0, r0⟩ := trodAll_cons hA
  obtain ⟨w1, vs1, d1, ds1, p1, q1, rfl, rfl, rfl, t1, r1⟩ := trodAll_cons r0
  obtain ⟨w2, vs2, d2, ds2, p2, q2, rfl, rfl, rfl, t2, r2⟩ := trodAll_cons r1
  obtain ⟨w3, vs3, d3, ds3, p3, q3, rfl, rfl, rfl, t3, r3⟩ := trodAll_cons r2
  obtain ⟨w4, vs4, d4, ds4, p4, q4, rfl, rfl, rfl, t4, r4⟩ := trodAll_cons r3
  obtain ⟨w5, vs5, d5, ds5, p5, q5, rfl, rfl, rfl, t5, r5⟩ := trodAll_cons r4
  obtain ⟨rfl, rfl, rfl⟩ := trodAll_nil r5
  obtain rfl : args = #[w0, w1, w2, w3, w4, w5] := by cases args; simp_all
  obtain ⟨rfl, rfl⟩ := trodVars_none hV
  have g0 : Light Try.prog 24 d0 := light_of hZ (j := 0) rfl rfl
  obtain ⟨cs0, rfl, hz0, m0, t0⟩ := struct_cells Try.underlying24 (hval 0 _ w0 rfl rfl) t0
  obtain ⟨v0, c0, hcs0, h0⟩ := open_cat t0 g0 (by rw [Array.length_toList, hz0]; kernel_rfl)
  obtain rfl : cs0 = #[v0] := by cases cs0; simp_all
  have g1 : Light Try.prog 27 d1 := light_of hZ (j := 1) rfl rfl
  obtain ⟨cs1, rfl, hz1, m1, t1⟩ := struct_cells Try.underlying27 (hval 1 _ w1 rfl rfl) t1
  obtain ⟨v1, l1, hcs1, h1, hl1, hw1⟩ := open_sta t1 g1 (by rw [Array.length_toList, hz1]; kernel_rfl)
  obtain rfl : cs1 = #[v1] := by cases cs1; simp_all
  obtain ⟨n2, rfl, _, _, hn2⟩ := open_int Try.underlying5 (hval 2 _ w2 rfl rfl) t2
  obtain ⟨hlo2, hhi2⟩ : 0 ≤ n2 ∧ n2 ≤ 255 := by have e1 : IntKind.u8.min = 0 := (by decide); have e2 : IntKind.u8.max = 255 := (by decide); simpa [Lit.wf, e1, e2] using hn2
  have g3 : Light Try.prog 9 d3 := light_of hZ (j := 3) rfl rfl
  obtain ⟨s3, rfl, hb3⟩ := string_cellsW Try.underlying9 (hval 3 _ w3 rfl rfl) t3 g3
  have g4 : Light Try.prog 9 d4 := light_of hZ (j := 4) rfl rfl
  obtain ⟨s4, rfl, hb4⟩ := string_cellsW Try.underlying9 (hval 4 _ w4 rfl rfl) t4 g4
  have g5 : Light Try.prog 9 d5 := light_of hZ (j := 5) rfl rfl
  obtain ⟨s5, rfl, hb5⟩ := string_cellsW Try.underlying9 (hval 5 _ w5 rfl rfl) t5 g5
  refine (slots_any v0 v1 c0 l1 n2 s3 s4 s5 W h0 h1 hl1 hw1 hb3 hb4 hb5 hlo2 hhi2).mono ?_
  rintro e W' ⟨rfl, hb⟩
  exact ⟨_, rfl, law_post (s := Rows.fleetSlotsSpec) rfl laidOut (by kernel_rfl) (by kernel_rfl) Try.underlying4 hW' rfl hb⟩
def wargs : Array Value := #[.agg #[.slice none 0 0], .agg #[.slice none 0 0], .int .u8 0, .string ⟨#[]⟩, .string ⟨#[]⟩, .string ⟨#[]⟩]
set_option maxRecDepth 100000 in
theorem reads (os : Os) {H : Type} (enc : TypeId × Value → H) : ∃ places, DataW.whole enc Try.prog ((World.holding Try.prog os ⟨#[], #[], []⟩).forCall (fun _ _ => 0) ⟨#[], wargs, []⟩).memory Try.f3.params.toList Rows.fleetSlotsSpec.vars false wargs.toList 8 = some ([.agg [.nil], .agg [.nil], .lit (.int .u8 0), .lit (.string []), .lit (.string []), .lit (.string [])], [], places) :=
  ⟨[], by kernel_rfl⟩
set_option maxRecDepth 100000 in
theorem laid_met (os : Os) : laidMet Try.prog Rows.fleetSlotsRow.laid ((World.holding Try.prog os ⟨#[], #[], []⟩).forCall (fun _ _ => 0) ⟨#[], wargs, []⟩).memory :=
  laidMet_of_run' 8 (by kernel_rfl) (by kernel_rfl)
set_option maxRecDepth 100000 in
theorem lifted (os : Os) (started : os.Started) (H : Type) (enc : TypeId × Value → H) (F : Stop.Interp) :
    ReturnsInHanded {} Try.checked os 3 .any ((OpenSpec.ofChange Rows.fleetSlotsSpec).preRow enc Try.prog Try.f3 Rows.fleetSlotsRow.domain false Rows.fleetSlotsRow.laid) (((OpenSpec.ofChange Rows.fleetSlotsSpec).at F).post enc Try.prog Try.f3 false true false false) := by
  obtain ⟨places, hx⟩ := reads os enc
  refine returnsInHanded_of_row (C := Try.checked) (s := OpenSpec.ofChange Rows.fleetSlotsSpec) own started (by kernel_rfl) Try.func3
    (witness_row_at (enc := enc) (C := Try.checked) false (World.holding Try.prog os ⟨#[], #[], []⟩) wargs rfl (by kernel_rfl) (by kernel_rfl) (by kernel_rfl)
      (OpenSpec.preRow_of_cond 8 hx (by kernel_rfl) (fun k hk => by cases hk) (by kernel_rfl) (laid_met os))) ?_
  intro W base args ds gs before hval hW _ _ hZ _ _ _
  exact contract H enc W base args ds gs before hval hW hZ
theorem said : Rows.FleetSlotsSaid :=
  OpenClaim.holds_of_cond 3 Try.f3 rfl rfl rfl rfl rfl rfl rfl ⟨rfl, rfl, rfl, rfl, rfl⟩ rfl rfl rfl rfl rfl (by kernel_rfl) Try.func3 (by kernel_rfl)
    (of_decide_eq_true (by kernel_rfl)) (by unfold Func.isWrapper; first | (rw [if_pos (by decide +kernel)]; kernel_rfl) | (rw [if_neg (by decide +kernel)]; exact ⟨rfl, rfl⟩))
    (fun os started H enc _ F => by rw [OpenClaim.pre_eq_preRow]; exact lifted os started H enc F)
#print axioms said
end Go.Proofs.Ytpikcofbhkbifaa.slots
