/- bogielaw10.FleetTrees returns true: the walk. For every catalog, state and two numbers bogielaw10.FleetTrees returns true, and leaves them alone. No condition of its own. -/
import Derived.Deep.Cut
import Derived.Deep.CutRange
import Derived.Deep.RegionHeld3
import Derived.IntWalk
import Derived.Test.YtpikcofbhkbifaaRows
import Derived.Test.YtpikcofbhkbifaaU26
import Derived.Test.YtpikcofbhkbifaaU27
namespace Go.Proofs.Ytpikcofbhkbifaa
open Go Go.RowKit
theorem has_on {w w' : World} {g t : Nat} {cs : Array Value} (h : Has w g t cs) (hb : Below w.heap.size w w') : Has w' g t cs := h.below hb h.lt
theorem below_on {w0 w w' : World} (h : Below w0.heap.size w0 w) (hb : Below w.heap.size w w') : Below w0.heap.size w0 w' := h.trans (hb.mono h.size)
theorem bfs_len : ∀ (f : Nat) (R : List (ByteArray × ByteArray)) (L : List ByteArray), (bfs f R L).length ≤ R.length
  | 0, _, _ => Nat.zero_le _
  | f + 1, R, L => by
    rw [bfs_succ, List.length_append, List.length_map]
    have h1 := bfs_len f (R.filter fun p => !inK L p.2) ((R.filter fun p => inK L p.2).map (·.1))
    have h2 := len_split (fun p : ByteArray × ByteArray => inK L p.2) R
    omega
theorem ss_len {l : List Pa} {a : ByteArray} {ss : List ByteArray} (h : ss.map (fun s => s.data.toList) = insL l a) : ss.length ≤ l.length := by
  have h1 := congrArg List.length h
  rw [List.length_map] at h1
  rw [h1]
  unfold insL
  split
  · simp
  · rw [List.length_mergeSort, List.length_map]
    refine Nat.le_trans (bfs_len _ _ _) (Nat.le_trans (List.length_filter_le _ _) ?_)
    unfold fitted
    rw [List.length_map]
    refine Nat.le_trans (List.length_filter_le _ _) ?_
    simp
theorem tr_step {c : List Kd} {l : List Pa} (V : Vld c l) {q : Pa} (b : ByteArray) {k : Nat} (o : Bool) (hq : q ∈ l) (hi : q.into ≠ eS) (hd : dep c l q + k ≤ l.length) :
    ∃ h ∈ l, h.name = q.into ∧ dep c l h + (k + 1) ≤ l.length ∧ walkGo l b (l.length + 1 - k) q.name o = walkGo l b (l.length + 1 - (k + 1)) h.name (o || decide (q.into = b)) := by
  obtain ⟨h, hh, hn, hf, hr⟩ := host_rank V hq hi
  have hd2 := dep_up (c := c) hh hr
  refine ⟨h, hh, hn, by omega, ?_⟩
  rw [show l.length + 1 - k = (l.length + 1 - (k + 1)) + 1 by omega, walkGo_succ, pfind_self V.ord hq, hn]
  exact if_neg hi
theorem tr_end {c : List Kd} {l : List Pa} (V : Vld c l) {q pa : Pa} {b : ByteArray} {k : Nat} {o : Bool} (hq : q ∈ l) (hpa : pa ∈ l) (hi : q.into = eS) (hk : k ≤ l.length) (h : walkGo l b (l.length + 1 - k) q.name o = walkGo l b (l.length + 1) pa.name false) :
    rootL l pa.name = q.name ∧ onGo l b (l.length + 1) pa.name = o := by
  rw [walk_end V b _ pa false hpa (by have := dep_lt (c := c) hpa; omega), Bool.false_or, show l.length + 1 - k = (l.length - k) + 1 by omega, walkGo_succ, pfind_self V.ord hq] at h
  have h2 : (some (q.name, o) : Option (ByteArray × Bool)) = some (rootL l pa.name, onGo l b (l.length + 1) pa.name) := by rw [← h]; exact (if_pos hi).symm
  simp only [Option.some.injEq, Prod.mk.injEq] at h2
  exact ⟨h2.1.symm, h2.2.symm⟩
def anyTo (ss : List ByteArray) (a : ByteArray) (k : Nat) : Bool := (ss.take k).any fun x => decide (x = a)
theorem anyTo_succ {ss : List ByteArray} {a : ByteArray} {k : Nat} (h : k < ss.length) : anyTo ss a (k + 1) = (anyTo ss a k || decide (ss.getD k eS = a)) := by
  unfold anyTo
  rw [List.take_succ_eq_append_getElem h, List.any_append, getD_get _ _ _ h]; simp
theorem anyTo_all {ss : List ByteArray} {a : ByteArray} {o : Bool} (h : a ∈ ss ↔ o = true) : anyTo ss a ss.length = o := by
  unfold anyTo
  rw [List.take_length, Bool.eq_iff_iff, List.any_eq_true, ← h]
  constructor
  · rintro ⟨x, hx, he⟩
    rw [decide_eq_true_iff] at he; subst he; exact hx
  · intro hx; exact ⟨a, hx, by simp⟩
set_option maxRecDepth 100000 in
set_option maxHeartbeats 8000000 in
theorem trees_any (cv sv : Value) (c : List Kd) (l : List Pa) (n1 n2 : Int) (w : World) (hcat : Cat w cv c) (hsta : Sta w sv l) (hl : l.length ≤ maxLen) (hps : ∀ p ∈ l, p.wide) (hn0 : 0 ≤ n1) (hn1 : n1 ≤ 255) (hm0 : 0 ≤ n2) (hm1 : n2 ≤ 255) :
    Calls Try.prog 4 #[.agg #[cv], .agg #[sv], .int .u8 n1, .int .u8 n2] w fun e w' => e = .returned (.bool true) ∧ Below w.heap.size w w' := by
  obtain ⟨A', cc, rfl, _⟩ := Rd.form hcat
  obtain ⟨A, cs, rfl, hn⟩ := Rd.form hsta
  have HST := Lib.hid hsta
  have HFW := Lib.hid (fun W (h : Below w.heap.size w W) => few_any w (.slice A' c.length cc) (.slice A l.length cs) (.slice none 0 0) c l [] W h hcat hsta ⟨none, 0, rfl, Nat.le_refl _, .inl rfl⟩ hl hps (by simp [maxLen]))
  have HVL := Lib.hid (fun (h65 : c.length ≤ 65 ∧ ∀ k ∈ c, k.short) (h20 : l.length ≤ 20 ∧ ∀ p ∈ l, p.short) W (h : Below w.heap.size w W) => fvalid_any w (.slice A' c.length cc) (.slice A l.length cs) c l W h hcat (by omega) h65.2 hsta (by omega) h20.2)
  have HFD := Lib.hid (fun (h20 : l.length ≤ 20) x W (h : Below w.heap.size w W) => fpart_any w (.slice A l.length cs) l x W h hsta (by omega))
  have HRT := Lib.hid (fun (h20 : l.length ≤ 20) x W (h : Below w.heap.size w W) => root_any w (.slice A l.length cs) l x W h hsta (by omega))
  have HIN := Lib.hid (fun (h20 : l.length ≤ 20) x W (h : Below w.heap.size w W) => inside_any w (.slice A l.length cs) l x W h hsta (by omega))
  have k1 := (Has.new w 24 #[.slice A' c.length cc]).alloc (.cells #[.slice A l.length cs] 27)
  have k2 := Has.new (w.alloc (.cells #[.slice A' c.length cc] 24)) 27 #[.slice A l.length cs]
  simp only [World.size_alloc] at k2
  have K10 := Lib.hid k1
  have K20 := Lib.hid k2
  have HB0 := Lib.hid (((Below.refl w.heap.size w).alloc (Nat.le_refl _) (.cells #[.slice A' c.length cc] 24)).alloc (by simp) (.cells #[.slice A l.length cs] 27))
  clear hcat hsta hps k1 k2
  cases hfew : fewB c l []
  · have HFEW := Lib.hid hfew
    clear hfew HVL HFD HRT HIN HST
    go_enter Try.func4, Try.ntmps4
    go_wp2_with fail
    refine (head_any _).mono ?_
    rintro e w1 ⟨rfl, hb1⟩
    have k1 := K10.out.below hb1 K10.out.lt
    have k2 := K20.out.below hb1 K20.out.lt
    obtain ⟨x11, x12⟩ := k1.facts
    obtain ⟨x13, x14⟩ := k2.facts
    have K11 := Lib.hid k1
    have K21 := Lib.hid k2
    have HB1 := Lib.hid (HB0.out.trans (hb1.mono HB0.out.size))
    clear hb1 k1 k2
    go_wp2_with fail
    refine (HFW.out _ HB1.out).mono ?_
    rintro e w2 ⟨rfl, hb2⟩
    rw [HFEW.out]
    have k1 := K11.out.below hb2 K11.out.lt
    have k2 := K21.out.below hb2 K21.out.lt
    obtain ⟨x21, x22⟩ := k1.facts
    obtain ⟨x23, x24⟩ := k2.facts
    have K12 := Lib.hid k1
    have K22 := Lib.hid k2
    have HB2 := Lib.hid (HB1.out.trans (hb2.mono HB1.out.size))
    clear hb2 k1 k2 x11 x12 x13 x14 K11 K21
    go_wp2_with fail
    go_ret
    exact ⟨rfl, HB2.out⟩
  obtain ⟨h65, h20⟩ := fewB_take hfew
  have HVL := Lib.hid (HVL.out h65 h20)
  have HFD := Lib.hid (HFD.out h20.1)
  have HRT := Lib.hid (HRT.out h20.1)
  have HIN := Lib.hid (HIN.out h20.1)
  have hl20 := h20.1
  have HFEW := Lib.hid hfew
  clear hfew h65 h20
  cases hv : validB c l
  · have HV := Lib.hid hv
    clear hv HFD HRT HIN HST
    go_enter Try.func4, Try.ntmps4
    go_wp2_with fail
    refine (head_any _).mono ?_
    rintro e w1 ⟨rfl, hb1⟩
    have k1 := K10.out.below hb1 K10.out.lt
    have k2 := K20.out.below hb1 K20.out.lt
    obtain ⟨x11, x12⟩ := k1.facts
    obtain ⟨x13, x14⟩ := k2.facts
    have K11 := Lib.hid k1
    have K21 := Lib.hid k2
    have HB1 := Lib.hid (HB0.out.trans (hb1.mono HB0.out.size))
    clear hb1 k1 k2
    go_wp2_with fail
    refine (HFW.out _ HB1.out).mono ?_
    rintro e w2 ⟨rfl, hb2⟩
    rw [HFEW.out]
    have k1 := K11.out.below hb2 K11.out.lt
    have k2 := K21.out.below hb2 K21.out.lt
    obtain ⟨x21, x22⟩ := k1.facts
    obtain ⟨x23, x24⟩ := k2.facts
    have K12 := Lib.hid k1
    have K22 := Lib.hid k2
    have HB2 := Lib.hid (HB1.out.trans (hb2.mono HB1.out.size))
    clear hb2 k1 k2 x11 x12 x13 x14 K11 K21
    go_wp2_with fail
    refine (HVL.out _ HB2.out).mono ?_
    rintro e w3 ⟨rfl, hb3⟩
    rw [HV.out]
    have k1 := K12.out.below hb3 K12.out.lt
    have k2 := K22.out.below hb3 K22.out.lt
    obtain ⟨x31, x32⟩ := k1.facts
    obtain ⟨x33, x34⟩ := k2.facts
    have K13 := Lib.hid k1
    have K23 := Lib.hid k2
    have HB3 := Lib.hid (HB2.out.trans (hb3.mono HB2.out.size))
    clear hb3 k1 k2 x21 x22 x23 x24 K12 K22
    go_wp2_with fail
    go_ret
    exact ⟨rfl, HB3.out⟩
  have HV := Lib.hid hv
  clear hv
  by_cases hz : l.length = 0
  · have hz1 : ((l.length : Int) == 0) = true := by simp [hz]
    clear HFD HRT HIN HST hz
    go_enter Try.func4, Try.ntmps4
    go_wp2_with fail
    refine (head_any _).mono ?_
    rintro e w1 ⟨rfl, hb1⟩
    have k1 := K10.out.below hb1 K10.out.lt
    have k2 := K20.out.below hb1 K20.out.lt
    obtain ⟨x11, x12⟩ := k1.facts
    obtain ⟨x13, x14⟩ := k2.facts
    have K11 := Lib.hid k1
    have K21 := Lib.hid k2
    have HB1 := Lib.hid (HB0.out.trans (hb1.mono HB0.out.size))
    clear hb1 k1 k2
    go_wp2_with fail
    refine (HFW.out _ HB1.out).mono ?_
    rintro e w2 ⟨rfl, hb2⟩
    rw [HFEW.out]
    have k1 := K11.out.below hb2 K11.out.lt
    have k2 := K21.out.below hb2 K21.out.lt
    obtain ⟨x21, x22⟩ := k1.facts
    obtain ⟨x23, x24⟩ := k2.facts
    have K12 := Lib.hid k1
    have K22 := Lib.hid k2
    have HB2 := Lib.hid (HB1.out.trans (hb2.mono HB1.out.size))
    clear hb2 k1 k2 x11 x12 x13 x14 K11 K21
    go_wp2_with fail
    refine (HVL.out _ HB2.out).mono ?_
    rintro e w3 ⟨rfl, hb3⟩
    rw [HV.out]
    have k1 := K12.out.below hb3 K12.out.lt
    have k2 := K22.out.below hb3 K22.out.lt
    obtain ⟨x31, x32⟩ := k1.facts
    obtain ⟨x33, x34⟩ := k2.facts
    have K13 := Lib.hid k1
    have K23 := Lib.hid k2
    have HB3 := Lib.hid (HB2.out.trans (hb3.mono HB2.out.size))
    clear hb3 k1 k2 x21 x22 x23 x24 K12 K22
    go_wp2_with fail
    go_ret
    exact ⟨rfl, HB3.out⟩
  have hz1 : ((l.length : Int) == 0) = false := by simp [hz]
  go_enter Try.func4, Try.ntmps4
  go_wp2_with fail
  refine (head_any _).mono ?_
  rintro e w1 ⟨rfl, hb1⟩
  have k1 := K10.out.below hb1 K10.out.lt
  have k2 := K20.out.below hb1 K20.out.lt
  obtain ⟨x11, x12⟩ := k1.facts
  obtain ⟨x13, x14⟩ := k2.facts
  have K11 := Lib.hid k1
  have K21 := Lib.hid k2
  have HB1 := Lib.hid (HB0.out.trans (hb1.mono HB0.out.size))
  clear hb1 k1 k2
  go_wp2_with fail
  refine (HFW.out _ HB1.out).mono ?_
  rintro e w2 ⟨rfl, hb2⟩
  rw [HFEW.out]
  have k1 := K11.out.below hb2 K11.out.lt
  have k2 := K21.out.below hb2 K21.out.lt
  obtain ⟨x21, x22⟩ := k1.facts
  obtain ⟨x23, x24⟩ := k2.facts
  have K12 := Lib.hid k1
  have K22 := Lib.hid k2
  have HB2 := Lib.hid (HB1.out.trans (hb2.mono HB1.out.size))
  clear hb2 k1 k2 x11 x12 x13 x14 K11 K21
  go_wp2_with fail
  refine (HVL.out _ HB2.out).mono ?_
  rintro e w3 ⟨rfl, hb3⟩
  rw [HV.out]
  have k1 := K12.out.below hb3 K12.out.lt
  have k2 := K22.out.below hb3 K22.out.lt
  obtain ⟨x31, x32⟩ := k1.facts
  obtain ⟨x33, x34⟩ := k2.facts
  have K13 := Lib.hid k1
  have K23 := Lib.hid k2
  have HB3 := Lib.hid (HB2.out.trans (hb3.mono HB2.out.size))
  clear hb3 k1 k2 x21 x22 x23 x24 K12 K22
  go_wp2_with fail
  obtain ⟨k1, hk1⟩ := Int.eq_ofNat_of_zero_le (Int.emod_nonneg n1 (show (l.length : Int) ≠ 0 by omega))
  obtain ⟨k2, hk2⟩ := Int.eq_ofNat_of_zero_le (Int.emod_nonneg n2 (show (l.length : Int) ≠ 0 by omega))
  have hkl1 : k1 < l.length := by have := Int.emod_lt_of_pos n1 (show (0 : Int) < l.length by omega); omega
  have hkl2 : k2 < l.length := by have := Int.emod_lt_of_pos n2 (show (0 : Int) < l.length by omega); omega
  have hkt1 : n1.tmod (l.length : Int) = (k1 : Int) := by rw [Int.tmod_eq_emod_of_nonneg hn0, hk1]
  have hkt2 : n2.tmod (l.length : Int) = (k2 : Int) := by rw [Int.tmod_eq_emod_of_nonneg hm0, hk2]
  have hwn1 : IntKind.i64.wrap n1 = n1 := by rw [IntKind.wrap_i64]; omega
  have hwn2 : IntKind.i64.wrap n2 = n2 := by rw [IntKind.wrap_i64]; omega
  obtain ⟨b0, o0, c', csa, he, _, ⟨sv, rfl, _⟩, _, hrg⟩ := HST.out.get hkl1 noPa
  injection he with e1 e2 e3
  subst e1; subst e3
  obtain ⟨b', o', c'', csb, he, _, ⟨sv', rfl, _⟩, _, hrgb⟩ := HST.out.get hkl2 noPa
  injection he with e1 e2' e3
  injection e1 with e1
  injection e1 with e1 e1'
  subst e1; subst e1'; subst e3
  have hna : w3.cell? ⟨b0, o0 + k1 * 14, none⟩ = some (.string (l.getD k1 noPa).name) := range_later hrg HB3.out 0 _ rfl
  have hnb : w3.cell? ⟨b0, o0 + k2 * 14, none⟩ = some (.string (l.getD k2 noPa).name) := range_later hrgb HB3.out 0 _ rfl
  have V := Lib.hid (vld_iff.1 HV.out)
  have HPA := Lib.hid (getD_mem l k1 noPa hkl1)
  have HPB := Lib.hid (getD_mem l k2 noPa hkl2)
  have x30 : w3.cell? ⟨w.heap.size + 1, 0, none⟩ = some (.slice (some ⟨b0, o0, none⟩) l.length cs) := x33 0
  clear hrg hrgb
  generalize l.getD k1 noPa = pa at *
  generalize l.getD k2 noPa = pb at *
  have hki1 : (k1 : Int) < (l.length : Int) := by omega
  have hk01 : (0 : Int) ≤ (k1 : Int) := by omega
  have hkn1 : ((k1 : Int)).toNat = k1 := by omega
  have hki2 : (k2 : Int) < (l.length : Int) := by omega
  have hk02 : (0 : Int) ≤ (k2 : Int) := by omega
  have hkn2 : ((k2 : Int)).toNat = k2 := by omega
  go_quiet (fail)
  go_wp2_with fail
  go_quiet (fail)
  go_wp2_with fail
  generalize hbn : pb.name = bn at *
  generalize han : pa.name = an at *
  have HBN := Lib.hid hbn
  have HAN := Lib.hid han
  have HWK := Lib.hid (show walkGo l bn (l.length + 1 - 0) pa.name false = walkGo l bn (l.length + 1) an false by rw [han]; rfl)
  have HDP := Lib.hid (dep_lt (c := c) HPA.out)
  clear hbn hna hnb x30 hz hkt1 hkt2 hwn1 hwn2 hki1 hk01 hkn1 hki2 hk02 hkn2 hkl1 hkl2 hk1 hk2 x31 x32 x33 x34
  go_loopw [12, 13, 14] (fun on at_ i wr => ∃ (k : Nat) (q : Pa) (o : Bool), k ≤ l.length ∧ i = .int .i64 k ∧ at_ = .string q.name ∧ on = .bool o ∧ Hid (q ∈ l ∧ dep c l q + k ≤ l.length) ∧ Hid (walkGo l bn (l.length + 1 - k) q.name o = walkGo l bn (l.length + 1) an false) ∧ Hid (Has wr w.heap.size 24 #[.slice A' c.length cc]) ∧ Hid (Has wr (w.heap.size + 1) 27 #[.slice (some ⟨b0, o0, none⟩) l.length cs]) ∧ Hid (Below w.heap.size w wr)) (fun _ _ i _ => l.length + 1 - (intOf i).toNat)
  case atStart => exact ⟨0, pa, false, Nat.zero_le _, rfl, by rw [han], rfl, ⟨HPA.out, by have := HDP.out; omega⟩, HWK.out, (K13.out.drewN _).drewN _, (K23.out.drewN _).drewN _, below_drewN (below_drewN HB3.out _) _⟩
  case round =>
    obtain ⟨k, q, o, hk, rfl, rfl, rfl, HQ, HW, HK1, HK2, HB⟩ := hrel
    clear han K13 K23 HB3 HWK HDP
    have HF := Lib.hid (fun W h => HFD.out q.name W h)
    rw [pfind_self V.out.ord HQ.out.1] at HF
    simp only [Option.getD_some, Option.isSome_some] at HF
    have HST2 := Lib.hid (fun hi => tr_step V.out bn o HQ.out.1 hi HQ.out.2)
    have HEND := Lib.hid (fun hi => tr_end V.out HQ.out.1 HPA.out hi hk (HW.out.trans (by rw [HAN.out])))
    rw [HAN.out] at HEND
    have hki : (k : Int) ≤ (l.length : Int) := by omega
    obtain ⟨x41, x42⟩ := HK1.out.facts
    obtain ⟨x43, x44⟩ := HK2.out.facts
    obtain ⟨qname, qkind, qinto, qslot, qmade, qsince, qgone, qprops, qkl, qkh, qcl, qch, qdl, qdh⟩ := q
    dsimp only at HF HST2 HEND HW
    have hie := emp_iff qinto
    cases hi : qinto.toList.isEmpty
    · have hne : qinto ≠ eS := fun e => by rw [hi, decide_eq_true e] at hie; cases hie
      obtain ⟨h, hh1, hh2, hh3, hh4⟩ := HST2.out hne
      have HH := Lib.hid (And.intro hh1 hh3)
      have HN := Lib.hid hh2
      have HW2 := Lib.hid (hh4.symm.trans HW.out)
      clear hie hne HST2 HEND hh1 hh2 hh3 hh4 HQ
      cases o
      · cases hb : (qinto.toList == bn.toList)
        all_goals
          go_wp2_with (go_at_call 9; refine (HF.out _ HB.out).mono ?_; rintro e w4 ⟨A4, m4, rfl, _, hb4⟩; have HK14 := Lib.hid (HK1.out.below hb4 HK1.out.lt); have HK24 := Lib.hid (HK2.out.below hb4 HK2.out.lt); have HB4 := Lib.hid (HB.out.trans (hb4.mono HB.out.size)); have z4 := HK24.out.lt; clear hb4)
          go_roundw
          case rel => exact ⟨k + 1, h, decide (qinto = bn), by have := HH.out.2; omega, by go_num, by rw [HN.out], by rw [← beq_bytes, hb], HH.out, HW2.out, HK14.out.alloc _, HK24.out.alloc _, HB4.out.alloc HB4.out.size _⟩
          case measure => simp [intOf]; omega
      · go_wp2_with (go_at_call 9; refine (HF.out _ HB.out).mono ?_; rintro e w4 ⟨A4, m4, rfl, _, hb4⟩; have HK14 := Lib.hid (HK1.out.below hb4 HK1.out.lt); have HK24 := Lib.hid (HK2.out.below hb4 HK2.out.lt); have HB4 := Lib.hid (HB.out.trans (hb4.mono HB.out.size)); have z4 := HK24.out.lt; clear hb4)
        go_roundw
        case rel => exact ⟨k + 1, h, true, by have := HH.out.2; omega, by go_num, by rw [HN.out], rfl, HH.out, HW2.out, HK14.out.alloc _, HK24.out.alloc _, HB4.out.alloc HB4.out.size _⟩
        case measure => simp [intOf]; omega
    · have heq : qinto = ⟨#[]⟩ := by rw [hi] at hie; exact of_decide_eq_true hie.symm
      subst heq
      obtain ⟨he1, he2⟩ := HEND.out rfl
      have HE1 := Lib.hid he1
      have HE2 := Lib.hid he2
      have hqq : (qname.toList != qname.toList) = false := by simp
      clear hie hi HST2 HEND he1 he2 HQ HW
      go_wp2_with (go_at_call 9; refine (HF.out _ HB.out).mono ?_; rintro e w4 ⟨A4, m4, rfl, _, hb4⟩; have HK14 := Lib.hid (HK1.out.below hb4 HK1.out.lt); have HK24 := Lib.hid (HK2.out.below hb4 HK2.out.lt); have HB4 := Lib.hid (HB.out.trans (hb4.mono HB.out.size)); have z4 := HK24.out.lt; obtain ⟨x51, x52⟩ := HK24.out.facts; clear hb4)
      refine (HRT.out an _ (HB4.out.alloc HB4.out.size _)).mono ?_
      rintro e w5 ⟨rfl, hb5⟩
      rw [HE1.out]
      have HK15 := Lib.hid ((HK14.out.alloc _).below hb5 (HK14.out.alloc _).lt)
      have HK25 := Lib.hid ((HK24.out.alloc _).below hb5 (HK24.out.alloc _).lt)
      have HB5 := Lib.hid ((HB4.out.alloc HB4.out.size _).trans (hb5.mono (HB4.out.alloc HB4.out.size _).size))
      obtain ⟨x61, x62⟩ := HK25.out.facts
      clear hb5 HK14 HK24 HB4 z4 x51 x52 x41 x42 x43 x44
      go_wp2_with fail
      refine (HF.out _ HB5.out).mono ?_
      rintro e w6 ⟨A6, m6, rfl, _, hb6⟩
      have HK26 := Lib.hid (HK25.out.below hb6 HK25.out.lt)
      have HB6 := Lib.hid (HB5.out.trans (hb6.mono HB5.out.size))
      have z6 := HK26.out.lt
      obtain ⟨x71, x72⟩ := HK26.out.facts
      clear hb6 HK15 HK25 HB5 x61 x62
      go_wp2_with fail
      refine (HIN.out bn _ (HB6.out.alloc HB6.out.size _)).mono ?_
      rintro e w7 ⟨v7, ss, rfl, hss, hmap, hb7⟩
      have HK27 := Lib.hid ((HK26.out.alloc _).below hb7 (HK26.out.alloc _).lt)
      have HB7 := Lib.hid ((HB6.out.alloc HB6.out.size _).trans (hb7.mono (HB6.out.alloc HB6.out.size _).size))
      have HLAW := Lib.hid (inside_law V.out HPB.out (by rw [HBN.out]; exact hmap))
      rw [HBN.out] at HLAW
      obtain ⟨A7, c7, rfl, hn7, hc7⟩ := id hss
      have HSS := Lib.hid hss
      have HC7 := Lib.hid hc7
      have hsl := ss_len hmap
      clear hss hc7 hmap hb7 HK26 HB6 x71 x72 z6
      generalize hR : rootL l bn = R at *
      have HRR := Lib.hid hR
      clear hR
      have hRR : (R.toList != R.toList) = false := by simp
      go_wp2_with fail
      go_loopw [21, 22] (fun f i wr => ∃ k : Nat, k ≤ ss.length ∧ i = .int .i64 k ∧ f = .bool (anyTo ss an k) ∧ Hid (Has wr (w.heap.size + 1) 27 #[.slice (some ⟨b0, o0, none⟩) l.length cs]) ∧ Hid (Below w7.heap.size w7 wr)) (fun _ i _ => ss.length - (intOf i).toNat)
      case atStart => exact ⟨0, Nat.zero_le _, rfl, rfl, HK27.out, Below.refl _ _⟩
      case round =>
        obtain ⟨k, hk, rfl, rfl, HK, HBB⟩ := hrel
        clear hki
        by_cases hlt : k < ss.length
        · rcases HC7.out with h0 | ⟨bb, oo, rfl, hc⟩
          · omega
          obtain ⟨w8, rfl⟩ : ∃ w8, w8 = wr := ⟨_, rfl⟩
          have HB8 := Lib.hid (HB7.out.trans (HBB.out.mono HB7.out.size))
          have hr : w8.cell? ⟨bb, oo + k, none⟩ = some (.string (ss.getD k eS)) := cell_later HBB.out (hc k (by omega))
          have x80 : w8.cell? ⟨w.heap.size + 1, 0, none⟩ = some (.slice (some ⟨b0, o0, none⟩) l.length cs) := HK.out.facts.1 0
          have hbb : Below w8.heap.size w8 w8 := Below.refl _ _
          have hany := Lib.hid (anyTo_succ (a := an) hlt)
          have hroot := HLAW.out.2.2 _ (getD_mem ss k eS hlt)
          have HR1 := Lib.hid (fun W h => (HRT.out (ss.getD k eS) W h).mono fun e w' (hh : e = .returned (.string (rootL l (ss.getD k eS))) ∧ Below W.heap.size W w') => (⟨by rw [hh.1, hroot], hh.2⟩ : e = .returned (.string R) ∧ Below W.heap.size W w'))
          have HR2 := Lib.hid (fun W h => (HRT.out bn W h).mono fun e w' (hh : e = .returned (.string (rootL l bn)) ∧ Below W.heap.size W w') => (⟨by rw [hh.1, HRR.out], hh.2⟩ : e = .returned (.string R) ∧ Below W.heap.size W w'))
          have hki : (k : Int) < (ss.length : Int) := by omega
          have hcs := Lib.hid hc
          clear hc hroot
          by_cases hk0 : k = 0
          · have hkz : decide ((0 : Int) < (k : Int)) = false := by rw [decide_eq_false_iff_not]; omega
            have hkz2 : decide (0 < k) = false := by rw [decide_eq_false_iff_not]; omega
            have HK0 := Lib.hid hk0
            clear hk0 hcs
            generalize ss.getD k eS = y at *
            go_upto_region 26 with fail
            go_cut [21] from 120 to 128 (fun f wc => f = .bool (anyTo ss an (k + 1)) ∧ w8 = wc)
            case first =>
              cases hf : anyTo ss an k
              · have hf := Lib.hid hf
                cases hb : (y.toList == an.toList)
                · have HD := Lib.hid (show decide (y = an) = false by rw [← beq_bytes, hb])
                  go_wp2_with fail
                  go_meet
                  exact ⟨by rw [hany.out, hf.out, HD.out]; rfl, rfl⟩
                · have HD := Lib.hid (show decide (y = an) = true by rw [← beq_bytes, hb])
                  go_wp2_with fail
                  go_meet
                  exact ⟨by rw [hany.out, hf.out, HD.out]; rfl, rfl⟩
              · have hf := Lib.hid hf
                go_wp2_with fail
                go_meet
                exact ⟨by rw [hany.out, hf.out]; rfl, rfl⟩
            case rest =>
              obtain ⟨rfl, rfl⟩ := hcut
              go_wp2_with fail
              have HKs := Lib.hid (fun W (h : Below w8.heap.size w8 W) => (⟨h, cell_later h x80, cell_later h hr⟩ : Below w8.heap.size w8 W ∧ W.cell? ⟨w.heap.size + 1, 0, none⟩ = some (.slice (some ⟨b0, o0, none⟩) l.length cs) ∧ W.cell? ⟨bb, oo + k, none⟩ = some (.string y)))
              refine wp_region_held_drew (S := fun W => Below w8.heap.size w8 W ∧ W.cell? ⟨w.heap.size + 1, 0, none⟩ = some (.slice (some ⟨b0, o0, none⟩) l.length cs) ∧ W.cell? ⟨bb, oo + k, none⟩ = some (.string y)) (by kernel_rfl) (HKs.out _ hbb.drew) (fun hHeld => ?_)
              refine wpAnyH_take (i := 0) (oi := ⟨_, _, _, _, _, _⟩) (v := ?_) rfl (by kernel_rfl) (by kernel_rfl) (by kernel_rfl) (fun _ _ _ h => h) (Or.inl ⟨by rfl, ?_⟩) (by assumption) ?_
              rotate_left
              · intro W hSW; (try dsimp only at hSW); go_simp; all_goals (with_reducible rfl)
              try simp only [Act.put, List.setIfInBounds_toArray, List.set_cons_zero, List.set_cons_succ]
              refine wpAnyH_take (i := 1) (oi := ⟨_, _, _, _, _, _⟩) (v := ?_) rfl (by kernel_rfl) (by kernel_rfl) (by kernel_rfl) (fun _ _ _ h => h) (Or.inl ⟨by rfl, ?_⟩) (by assumption) ?_
              rotate_left
              · intro W hSW; (try dsimp only at hSW); go_simp; all_goals (with_reducible rfl)
              try simp only [Act.put, List.setIfInBounds_toArray, List.set_cons_zero, List.set_cons_succ]
              refine wpAnyH_take (i := 2) (oi := ⟨_, _, _, _, _, _⟩) (v := ?_) rfl (by kernel_rfl) (by kernel_rfl) (by kernel_rfl) (fun _ _ _ h => h) (Or.inl ⟨by rfl, ?_⟩) (by assumption) ?_
              rotate_left
              · intro W hSW; (try dsimp only at hSW); go_simp; all_goals (with_reducible rfl)
              try simp only [Act.put, List.setIfInBounds_toArray, List.set_cons_zero, List.set_cons_succ]
              refine wpAnyH_take (i := 3) (oi := ⟨_, _, _, _, _, _⟩) (v := undef) rfl (by kernel_rfl) (by kernel_rfl) (by kernel_rfl) (fun _ _ _ h => h) (Or.inr ⟨by kernel_rfl, rfl⟩) (by assumption) ?_
              try simp only [Act.put, List.setIfInBounds_toArray, List.set_cons_zero, List.set_cons_succ]
              refine wpAnyH_take (i := 4) (oi := ⟨_, _, _, _, _, _⟩) (v := undef) rfl (by kernel_rfl) (by kernel_rfl) (by kernel_rfl) (fun _ _ _ h => h) (Or.inr ⟨by kernel_rfl, rfl⟩) (by assumption) ?_
              try simp only [Act.put, List.setIfInBounds_toArray, List.set_cons_zero, List.set_cons_succ]
              refine wpAnyH_take (i := 5) (oi := ⟨_, _, _, _, _, _⟩) (v := undef) rfl (by kernel_rfl) (by kernel_rfl) (by kernel_rfl) (fun _ _ _ h => h) (Or.inr ⟨by kernel_rfl, rfl⟩) (by assumption) ?_
              try simp only [Act.put, List.setIfInBounds_toArray, List.set_cons_zero, List.set_cons_succ]
              refine wpAnyH_take (i := 6) (oi := ⟨_, _, _, _, _, _⟩) (v := undef) rfl (by kernel_rfl) (by kernel_rfl) (by kernel_rfl) (fun _ _ _ h => h) (Or.inr ⟨by kernel_rfl, rfl⟩) (by assumption) ?_
              try simp only [Act.put, List.setIfInBounds_toArray, List.set_cons_zero, List.set_cons_succ]
              refine wpAnyH_take (i := 7) (oi := ⟨_, _, _, _, _, _⟩) (v := undef) rfl (by kernel_rfl) (by kernel_rfl) (by kernel_rfl) (fun _ _ _ h => h) (Or.inr ⟨by kernel_rfl, rfl⟩) (by assumption) ?_
              try simp only [Act.put, List.setIfInBounds_toArray, List.set_cons_zero, List.set_cons_succ]
              refine wpAnyH_take (i := 8) (oi := ⟨_, _, _, _, _, _⟩) (v := undef) rfl (by kernel_rfl) (by kernel_rfl) (by kernel_rfl) (fun _ _ _ h => h) (Or.inr ⟨by kernel_rfl, rfl⟩) (by assumption) ?_
              try simp only [Act.put, List.setIfInBounds_toArray, List.set_cons_zero, List.set_cons_succ]
              refine wpAnyH_take (i := 9) (oi := ⟨_, _, _, _, _, _⟩) (v := undef) rfl (by kernel_rfl) (by kernel_rfl) (by kernel_rfl) (fun _ _ _ h => h) (Or.inr ⟨by kernel_rfl, rfl⟩) (by assumption) ?_
              try simp only [Act.put, List.setIfInBounds_toArray, List.set_cons_zero, List.set_cons_succ]
              refine wpAnyH_take (i := 10) (oi := ⟨_, _, _, _, _, _⟩) (v := undef) rfl (by kernel_rfl) (by kernel_rfl) (by kernel_rfl) (fun _ _ _ h => h) (Or.inr ⟨by kernel_rfl, rfl⟩) (by assumption) ?_
              try simp only [Act.put, List.setIfInBounds_toArray, List.set_cons_zero, List.set_cons_succ]
              refine wpAnyH_take (i := 11) (oi := ⟨_, _, _, _, _, _⟩) (v := undef) rfl (by kernel_rfl) (by kernel_rfl) (by kernel_rfl) (fun _ _ _ h => h) (Or.inr ⟨by kernel_rfl, rfl⟩) (by assumption) ?_
              try simp only [Act.put, List.setIfInBounds_toArray, List.set_cons_zero, List.set_cons_succ]
              refine wpAnyH_take (i := 12) (oi := ⟨_, _, _, _, _, _⟩) (v := undef) rfl (by kernel_rfl) (by kernel_rfl) (by kernel_rfl) (fun _ _ _ h => h) (Or.inr ⟨by kernel_rfl, rfl⟩) (by assumption) ?_
              try simp only [Act.put, List.setIfInBounds_toArray, List.set_cons_zero, List.set_cons_succ]
              refine wpAnyH_take (i := 13) (oi := ⟨_, _, _, _, _, _⟩) (v := ?_) rfl (by kernel_rfl) (by kernel_rfl) (by kernel_rfl) (fun _ _ _ h => h) (Or.inl ⟨by rfl, ?_⟩) (by assumption) ?_
              rotate_left
              · intro W hSW; (try dsimp only at hSW); go_simp; all_goals (with_reducible rfl)
              try simp only [Act.put, List.setIfInBounds_toArray, List.set_cons_zero, List.set_cons_succ]
              refine wpAnyH_take (i := 14) (oi := ⟨_, _, _, _, _, _⟩) (v := ?_) rfl (by kernel_rfl) (by kernel_rfl) (by kernel_rfl) (fun _ _ _ h => h) (Or.inl ⟨by rfl, ?_⟩) (by assumption) ?_
              rotate_left
              · intro W hSW; (try dsimp only at hSW); go_simp; all_goals (with_reducible rfl)
              try simp only [Act.put, List.setIfInBounds_toArray, List.set_cons_zero, List.set_cons_succ]
              refine wpAnyH_take (i := 15) (oi := ⟨_, _, _, _, _, _⟩) (v := ?_) rfl (by kernel_rfl) (by kernel_rfl) (by kernel_rfl) (fun _ _ _ h => h) (Or.inl ⟨by rfl, ?_⟩) (by assumption) ?_
              rotate_left
              · intro W hSW; (try dsimp only at hSW); go_simp; all_goals (with_reducible rfl)
              try simp only [Act.put, List.setIfInBounds_toArray, List.set_cons_zero, List.set_cons_succ]
              refine wpAnyH_take (i := 16) (oi := ⟨_, _, _, _, _, _⟩) (v := ?_) rfl (by kernel_rfl) (by kernel_rfl) (by kernel_rfl) (fun _ _ _ h => h) (Or.inl ⟨by rfl, ?_⟩) (by assumption) ?_
              rotate_left
              · intro W hSW; (try dsimp only at hSW); go_simp; all_goals (with_reducible rfl)
              try simp only [Act.put, List.setIfInBounds_toArray, List.set_cons_zero, List.set_cons_succ]
              refine wpAnyH_take (i := 17) (oi := ⟨_, _, _, _, _, _⟩) (v := ?_) rfl (by kernel_rfl) (by kernel_rfl) (by kernel_rfl) (fun _ _ _ h => h) (Or.inl ⟨by rfl, ?_⟩) (by assumption) ?_
              rotate_left
              · intro W hSW; (try dsimp only at hSW); go_simp; all_goals (with_reducible rfl)
              try simp only [Act.put, List.setIfInBounds_toArray, List.set_cons_zero, List.set_cons_succ]
              refine wpAnyH_take (i := 18) (oi := ⟨_, _, _, _, _, _⟩) (v := ?_) rfl (by kernel_rfl) (by kernel_rfl) (by kernel_rfl) (fun _ _ _ h => h) (Or.inl ⟨by rfl, ?_⟩) (by assumption) ?_
              rotate_left
              · intro W hSW; (try dsimp only at hSW); go_simp; all_goals (with_reducible rfl)
              try simp only [Act.put, List.setIfInBounds_toArray, List.set_cons_zero, List.set_cons_succ]
              refine wpAnyH_take (i := 19) (oi := ⟨_, _, _, _, _, _⟩) (v := ?_) rfl (by kernel_rfl) (by kernel_rfl) (by kernel_rfl) (fun _ _ _ h => h) (Or.inl ⟨by rfl, ?_⟩) (by assumption) ?_
              rotate_left
              · intro W hSW; (try dsimp only at hSW); go_simp; all_goals (with_reducible rfl)
              try simp only [Act.put, List.setIfInBounds_toArray, List.set_cons_zero, List.set_cons_succ]
              refine wpAnyH_take (i := 21) (oi := ⟨_, _, _, _, _, _⟩) (v := ?_) rfl (by kernel_rfl) (by kernel_rfl) (by kernel_rfl) (fun _ _ _ h => h) (Or.inl ⟨by rfl, ?_⟩) (by assumption) ?_
              rotate_left
              · intro W hSW; (try dsimp only at hSW); go_simp; all_goals (with_reducible rfl)
              try simp only [Act.put, List.setIfInBounds_toArray, List.set_cons_zero, List.set_cons_succ]
              refine wpAnyH_take (i := 22) (oi := ⟨_, _, _, _, _, _⟩) (v := ?_) rfl (by kernel_rfl) (by kernel_rfl) (by kernel_rfl) (fun _ _ _ h => h) (Or.inl ⟨by rfl, ?_⟩) (by assumption) ?_
              rotate_left
              · intro W hSW; (try dsimp only at hSW); go_simp; all_goals (with_reducible rfl)
              try simp only [Act.put, List.setIfInBounds_toArray, List.set_cons_zero, List.set_cons_succ]
              refine wpAnyH_ready (rs := [20]) (by kernel_rfl) (by simp) ?_
              refine AllReadyH.cons (o := ⟨_, _, _, _, _, _⟩) rfl (fun K hK => ?_) AllReadyH.nil
              go_simp
              go_at_call_of 10 (Value.string y); refine (HR1.out _ (HB8.out.trans (hbb.drew.mono HB8.out.size))).mono ?_; rintro e w5 ⟨rfl, hb5⟩; have hbw5 : Below w8.heap.size w8 w5 := hbb.drew.trans hb5; clear hb5
              refine hK.out _ _ (HKs.out _ hbw5) (fun hHeld => ?_)
              clear hK K
              try simp only [Act.put, List.setIfInBounds_toArray, List.set_cons_zero, List.set_cons_succ]
              refine wpAnyH_ready (rs := [23]) (by kernel_rfl) (by simp) ?_
              refine AllReadyH.cons (o := ⟨_, _, _, _, _, _⟩) rfl (fun K hK => ?_) AllReadyH.nil
              go_simp
              go_at_call_of 10 (Value.string bn); refine (HR2.out _ (HB8.out.trans (hbw5.mono HB8.out.size))).mono ?_; rintro e w6 ⟨rfl, hb6⟩; have hbw6 : Below w8.heap.size w8 w6 := hbw5.trans (hb6.mono hbw5.size); clear hb6
              refine hK.out _ _ (HKs.out _ hbw6) (fun hHeld => ?_)
              clear hK K
              try simp only [Act.put, List.setIfInBounds_toArray, List.set_cons_zero, List.set_cons_succ]
              refine wpAnyH_take (i := 24) (oi := ⟨_, _, _, _, _, _⟩) (v := ?_) rfl (by kernel_rfl) (by kernel_rfl) (by kernel_rfl) (fun _ _ _ h => h) (Or.inl ⟨by rfl, ?_⟩) (by assumption) ?_
              rotate_left
              · intro W hSW; (try dsimp only at hSW); go_simp; all_goals (with_reducible rfl)
              try simp only [Act.put, List.setIfInBounds_toArray, List.set_cons_zero, List.set_cons_succ]
              refine wpAnyH_take (i := 25) (oi := ⟨_, _, _, _, _, _⟩) (v := ?_) rfl (by kernel_rfl) (by kernel_rfl) (by kernel_rfl) (fun _ _ _ h => h) (Or.inl ⟨by rfl, ?_⟩) (by assumption) ?_
              rotate_left
              · intro W hSW; (try dsimp only at hSW); go_simp; all_goals (with_reducible rfl)
              try simp only [Act.put, List.setIfInBounds_toArray, List.set_cons_zero, List.set_cons_succ]
              refine wpAnyH_done (by kernel_rfl) ?_ _
              clear hHeld
              go_wp2_with fail
              go_roundw
              case rel => exact ⟨k + 1, by omega, by go_num, rfl, has_on HK.out hbw6, below_on HBB.out hbw6⟩
              case measure => simp [intOf]; omega
          · obtain ⟨m, hkm⟩ : ∃ m, k = m + 1 := ⟨k - 1, by omega⟩
            have hkz : decide ((0 : Int) < (k : Int)) = true := by rw [decide_eq_true_iff]; omega
            have hkz2 : decide (0 < k) = true := by rw [decide_eq_true_iff]; omega
            have hrp : w8.cell? ⟨bb, oo + m, none⟩ = some (.string (ss.getD m eS)) := cell_later HBB.out (hcs.out m (by omega))
            have hlt2 : Op.bytesLess (ss.getD m eS).toList (ss.getD k eS).toList = true := by
              have h1 := List.pairwise_iff_getElem.1 HLAW.out.1 m k (by omega) hlt (by omega)
              rwa [← getD_get ss m eS (by omega), ← getD_get ss k eS hlt] at h1
            have hsub : IntKind.i64.wrap ((k : Int) - 1) = (m : Int) := by rw [IntKind.wrap_i64]; omega
            have hml : m < ss.length := by omega
            have hmi : (m : Int) < (ss.length : Int) := by omega
            have HKM := Lib.hid hkm
            clear hkm hk0 hcs
            generalize ss.getD k eS = y at *
            generalize ss.getD m eS = yp at *
            go_upto_region 26 with fail
            go_cut [21] from 120 to 128 (fun f wc => f = .bool (anyTo ss an (k + 1)) ∧ w8 = wc)
            case first =>
              cases hf : anyTo ss an k
              · have hf := Lib.hid hf
                cases hb : (y.toList == an.toList)
                · have HD := Lib.hid (show decide (y = an) = false by rw [← beq_bytes, hb])
                  go_wp2_with fail
                  go_meet
                  exact ⟨by rw [hany.out, hf.out, HD.out]; rfl, rfl⟩
                · have HD := Lib.hid (show decide (y = an) = true by rw [← beq_bytes, hb])
                  go_wp2_with fail
                  go_meet
                  exact ⟨by rw [hany.out, hf.out, HD.out]; rfl, rfl⟩
              · have hf := Lib.hid hf
                go_wp2_with fail
                go_meet
                exact ⟨by rw [hany.out, hf.out]; rfl, rfl⟩
            case rest =>
              obtain ⟨rfl, rfl⟩ := hcut
              go_wp2_with fail
              go_region_held3 (fun w' => Below w8.heap.size w8 w' ∧ w'.cell? ⟨w.heap.size + 1, 0, none⟩ = some (.slice (some ⟨b0, o0, none⟩) l.length cs) ∧ w'.cell? ⟨bb, oo + k, none⟩ = some (.string y) ∧ w'.cell? ⟨bb, oo + m, none⟩ = some (.string yp))
                (refine ⟨?_, ?_, ?_, ?_⟩ <;> first | assumption | exact hbb | exact hbb.drew | exact hbw5 | exact hbw5.drew | exact hbw6 | exact hbw6.drew | exact cell_later (hbb) (by assumption) | exact cell_later (hbb.drew) (by assumption) | exact cell_later (hbw5) (by assumption) | exact cell_later (hbw5.drew) (by assumption) | exact cell_later (hbw6) (by assumption) | exact cell_later (hbw6.drew) (by assumption))
                ((first | (go_at_call_of 10 (Value.string y); refine (HR1.out _ (by first | exact HB8.out.trans ((hbb).mono HB8.out.size) | exact HB8.out.trans ((hbb.drew).mono HB8.out.size) | exact HB8.out.trans ((hbw5).mono HB8.out.size) | exact HB8.out.trans ((hbw5.drew).mono HB8.out.size) | exact HB8.out.trans ((hbw6).mono HB8.out.size) | exact HB8.out.trans ((hbw6.drew).mono HB8.out.size))).mono ?_; rintro e w5 ⟨rfl, hb5⟩; have hbw5 : Below w8.heap.size w8 w5 := (by first | exact hb5 | exact hbb.drew.trans hb5 | exact hbw6.trans (hb5.mono hbw6.size) | exact hbw6.drew.trans (hb5.mono hbw6.drew.size)); clear hb5) | (go_at_call_of 10 (Value.string bn); refine (HR2.out _ (by first | exact HB8.out.trans ((hbb).mono HB8.out.size) | exact HB8.out.trans ((hbb.drew).mono HB8.out.size) | exact HB8.out.trans ((hbw5).mono HB8.out.size) | exact HB8.out.trans ((hbw5.drew).mono HB8.out.size) | exact HB8.out.trans ((hbw6).mono HB8.out.size) | exact HB8.out.trans ((hbw6.drew).mono HB8.out.size))).mono ?_; rintro e w6 ⟨rfl, hb6⟩; have hbw6 : Below w8.heap.size w8 w6 := (by first | exact hb6 | exact hbb.drew.trans hb6 | exact hbw5.trans (hb6.mono hbw5.size) | exact hbw5.drew.trans (hb6.mono hbw5.drew.size)); clear hb6)))
              all_goals
                rename_i hHeld
                have hBW := hHeld.1
                clear hHeld
                go_wp2_with fail
                go_roundw
                case rel => exact ⟨k + 1, by omega, by go_num, rfl, has_on HK.out hBW, below_on HBB.out hBW⟩
                case measure => simp [intOf]; omega
        · obtain rfl : k = ss.length := by omega
          have hfin := Lib.hid (anyTo_all (ss := ss) (a := an) (o := o) (by rw [HLAW.out.2.1, HE2.out]))
          rw [hfin.out]
          cases o
          all_goals
            go_wp2_with fail
            go_ret
            exact ⟨rfl, HB7.out.trans (HBB.out.mono HB7.out.size)⟩
end Go.Proofs.Ytpikcofbhkbifaa
namespace Go.Proofs.Ytpikcofbhkbifaa.trees
open Go Go.RowKit Go.ChangeShapes Go.WideShapes Go.ChangeAt
set_option maxRecDepth 100000 in
theorem contract (H : Type) (enc : TypeId × Value → H) (W : World) (base : Nat) (args : Array Value) (ds gs : List (DataW H)) (before : List MemPlace)
    (hval : ∀ (j : Nat) t v, Try.f4.params[j]? = some t → args[j]? = some v → Value.okWide Try.prog W .any base t v)
    (hW : DataW.Whole enc Try.prog Try.f4.params.toList Rows.fleetTreesSpec.vars false W args.toList ds gs before)
    (hZ : (DataW.weightsEach Try.prog (Try.f4.params.toList ++ (OpenSpec.ofChange Rows.fleetTreesSpec).bare.plain.varTypes Try.prog) (ds ++ gs)).all (· ≤ reachBytes) = true) :
    Calls Try.prog 4 args W fun e W' => ∃ v, e = .returned v ∧ Rows.fleetTreesSpec.post enc Try.prog Try.f4 false true false false W args v W' := by
  have hW' := hW
  obtain ⟨p, q, hA0, hV, rfl, hfz, hnd⟩ := hW
  have hA : DataW.TrodAll enc Try.prog W 0 (fun _ => true) true Try.f4.params.toList args.toList ds p := hA0
  rw [Try.params4] at hA hval hZ
  obtain ⟨w0, vs0, d0, ds0, p0, q0, hargs, rfl, rfl, t0, r0⟩ := trodAll_cons hA
  obtain ⟨w1, vs1, d1, ds1, p1, q1, rfl, rfl, rfl, t1, r1⟩ := trodAll_cons r0
  obtain ⟨w2, vs2, d2, ds2, p2, q2, rfl, rfl, rfl, t2, r2⟩ := trodAll_cons r1
  obtain ⟨w3, vs3, d3, ds3, p3, q3, rfl, rfl, rfl, t3, r3⟩ := trodAll_cons r2
  obtain ⟨rfl, rfl, rfl⟩ := trodAll_nil r3
  obtain rfl : args = #[w0, w1, w2, w3] := by cases args; simp_all
  obtain ⟨rfl, rfl⟩ := trodVars_none hV
  have g0 : Light Try.prog 24 d0 := light_of hZ (j := 0) rfl rfl
  obtain ⟨cs0, rfl, hz0, m0, t0⟩ := struct_cells Try.underlying24 (hval 0 _ w0 rfl rfl) t0
  obtain ⟨v0, c0, hcs0, h0⟩ := open_cat t0 g0 (by rw [Array.length_toList, hz0]; kernel_rfl)
  obtain rfl : cs0 = #[v0] := by cases cs0; simp_all
  have g1 : Light Try.prog 27 d1 := light_of hZ (j := 1) rfl rfl
  obtain ⟨cs1, rfl, hz1, m1, t1⟩ := struct_cells Try.underlying27 (hval 1 _ w1 rfl rfl) t1
  obtain ⟨v1, l1, hcs1, h1, hl1, hw1⟩ := open_sta t1 g1 (by rw [Array.length_toList, hz1]; kernel_rfl)
  obtain rfl : cs1 = #[v1] := by cases cs1; simp_all
  obtain ⟨n2, rfl, _, _, hn2⟩ := open_int Try.underlying5 (hval 2 _ w2 rfl rfl) t2
  obtain ⟨hlo2, hhi2⟩ : 0 ≤ n2 ∧ n2 ≤ 255 := by have e1 : IntKind.u8.min = 0 := (by decide); have e2 : IntKind.u8.max = 255 := (by decide); simpa [Lit.wf, e1, e2] using hn2
  obtain ⟨n3, rfl, _, _, hn3⟩ := open_int Try.underlying5 (hval 3 _ w3 rfl rfl) t3
  obtain ⟨hlo3, hhi3⟩ : 0 ≤ n3 ∧ n3 ≤ 255 := by have e1 : IntKind.u8.min = 0 := (by decide); have e2 : IntKind.u8.max = 255 := (by decide); simpa [Lit.wf, e1, e2] using hn3
  refine (trees_any v0 v1 c0 l1 n2 n3 W h0 h1 hl1 hw1 hlo2 hhi2 hlo3 hhi3).mono ?_
  rintro e W' ⟨rfl, hb⟩
  exact ⟨_, rfl, law_post (s := Rows.fleetTreesSpec) rfl laidOut (by kernel_rfl) (by kernel_rfl) Try.underlying4 hW' rfl hb⟩
def wargs : Array Value := #[.agg #[.slice none 0 0], .agg #[.slice none 0 0], .int .u8 0, .int .u8 0]
set_option maxRecDepth 100000 in
theorem reads (os : Os) {H : Type} (enc : TypeId × Value → H) : ∃ places, DataW.whole enc Try.prog ((World.holding Try.prog os ⟨#[], #[], []⟩).forCall (fun _ _ => 0) ⟨#[], wargs, []⟩).memory Try.f4.params.toList Rows.fleetTreesSpec.vars false wargs.toList 8 = some ([.agg [.nil], .agg [.nil], .lit (.int .u8 0), .lit (.int .u8 0)], [], places) :=
  ⟨[], by kernel_rfl⟩
set_option maxRecDepth 100000 in
theorem laid_met (os : Os) : laidMet Try.prog Rows.fleetTreesRow.laid ((World.holding Try.prog os ⟨#[], #[], []⟩).forCall (fun _ _ => 0) ⟨#[], wargs, []⟩).memory :=
  laidMet_of_run' 8 (by kernel_rfl) (by kernel_rfl)
set_option maxRecDepth 100000 in
theorem lifted (os : Os) (started : os.Started) (H : Type) (enc : TypeId × Value → H) (F : Stop.Interp) :
    ReturnsInHanded {} Try.checked os 4 .any ((OpenSpec.ofChange Rows.fleetTreesSpec).preRow enc Try.prog Try.f4 Rows.fleetTreesRow.domain false Rows.fleetTreesRow.laid) (((OpenSpec.ofChange Rows.fleetTreesSpec).at F).post enc Try.prog Try.f4 false true false false) := by
  obtain ⟨places, hx⟩ := reads os enc
  refine returnsInHanded_of_row (C := Try.checked) (s := OpenSpec.ofChange Rows.fleetTreesSpec) own started (by kernel_rfl) Try.func4
    (witness_row_at (enc := enc) (C := Try.checked) false (World.holding Try.prog os ⟨#[], #[], []⟩) wargs rfl (by kernel_rfl) (by kernel_rfl) (by kernel_rfl)
      (OpenSpec.preRow_of_cond 8 hx (by kernel_rfl) (fun k hk => by cases hk) (by kernel_rfl) (laid_met os))) ?_
  intro W base args ds gs before hval hW _ _ hZ _ _ _
  exact contract H enc W base args ds gs before hval hW hZ
theorem said : Rows.FleetTreesSaid :=
  OpenClaim.holds_of_cond 4 Try.f4 rfl rfl rfl rfl rfl rfl rfl ⟨rfl, rfl, rfl, rfl, rfl⟩ rfl rfl rfl rfl rfl (by kernel_rfl) Try.func4 (by kernel_rfl)
    (of_decide_eq_true (by kernel_rfl)) (by unfold Func.isWrapper; first | (rw [if_pos (by decide +kernel)]; kernel_rfl) | (rw [if_neg (by decide +kernel)]; exact ⟨rfl, rfl⟩))
    (fun os started H enc _ F => by rw [OpenClaim.pre_eq_preRow]; exact lifted os started H enc F)
#print axioms said
end Go.Proofs.Ytpikcofbhkbifaa.trees
