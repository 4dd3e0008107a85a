/- bogielaw13.ReportTexts returns true. Condition: the table of powers of ten, the error variables, bytealg.MaxLen holds a number. -/
import Derived.Test.YtjlpllnhefafkaaDoorXJ
import Derived.Test.YtjlpllnhefafkaaDoorXK
namespace Go.Proofs.YtjlpllnhefafkaaDoor
open Go Go.RowKit
theorem two_reps {W : World} {va vb : Value} {a b : Rep} (ha : Sl W va a.opts.length 14 (evF a.opts)) (hb : Sl W vb b.opts.length 14 (evF b.opts)) (t : Nat) :
    Reps (W.alloc (.cells #[va, .bool a.doubt, vb, .bool b.doubt] t)) (.slice (some ⟨W.heap.size, 0, none⟩) 2 2) [a, b] := by
  have hR := Has.new W t #[va, .bool a.doubt, vb, .bool b.doubt]
  have hB : Below W.heap.size W (W.alloc (.cells #[va, .bool a.doubt, vb, .bool b.doubt] t)) := (Below.refl _ _).alloc (Nat.le_refl _) _
  refine ⟨_, 2, rfl, Nat.le_refl _, .inr ⟨W.heap.size, 0, rfl, fun i hi => ?_⟩⟩
  match i, hi with
  | 0, _ => exact ⟨_, hR.cell 0, hR.cell 1, ha.below hB⟩
  | 1, _ => exact ⟨_, hR.cell 2, hR.cell 3, hb.below hB⟩
theorem few_two {a b : Rep} {n : Nat} (h : fewB [a, b] n = true) : a.opts.length ≤ 6 ∧ b.opts.length ≤ 6 := by
  have h2 : (decide ([a, b].length ≤ 12) && [a, b].all (fun r => fewE r.opts 6)) = true := by
    have h3 : (fewR [a, b] 12 && decide (n ≤ 30)) = true := h
    rw [Bool.and_eq_true] at h3
    exact h3.1
  simp only [Bool.and_eq_true, List.all_cons, List.all_nil, Bool.and_true, fewE, decide_eq_true_eq] at h2
  exact ⟨h2.2.1.2, h2.2.2.2⟩
theorem text_same {a b : Rep} (ha : repOk a.opts = true) (hb : repOk b.opts = true) : ((textR a).toList == (textR b).toList) = sameR a b := by
  rw [bytes_beq, Bool.eq_iff_iff, decide_eq_true_iff, sameR_iff]
  exact ⟨textR_inj ha hb, fun h => by rw [h]⟩
set_option maxRecDepth 100000 in
set_option maxHeartbeats 8000000 in
theorem texts_few (va vb : Value) (a b : Rep) (s : ByteArray) (w : World) (ht : Tab w) (_hv : Evs w) (_hm : Mxl w) (hva : Sl w va a.opts.length 14 (evF a.opts)) (hvb : Sl w vb b.opts.length 14 (evF b.opts))
    (hsa : ∀ e ∈ a.opts, e.short) (hsb : ∀ e ∈ b.opts, e.short) (hla : a.opts.length ≤ 9223372036854775807) (hlb : b.opts.length ≤ 9223372036854775807) (hfew : fewB [a, b] 0 = false) :
    Calls Tryd.prog 4 #[.agg #[va, .bool a.doubt], .agg #[vb, .bool b.doubt], .string s] w fun r w' => r = .returned (.bool true) ∧ Below w.heap.size w w' := by
  have HX1 : Hid (Has ((w.alloc (.cells #[va, .bool a.doubt] 37)).alloc (.cells #[vb, .bool b.doubt] 37)) w.heap.size 37 #[va, .bool a.doubt]) := (Has.new w _ _).alloc _
  have HX2 : Hid (Has ((w.alloc (.cells #[va, .bool a.doubt] 37)).alloc (.cells #[vb, .bool b.doubt] 37)) (w.heap.size + 1) 37 #[vb, .bool b.doubt]) := by
    have h := Has.new (w.alloc (.cells #[va, .bool a.doubt] 37)) 37 #[vb, .bool b.doubt]
    rwa [World.size_alloc] at h
  have HXB : Hid (Below w.heap.size w ((w.alloc (.cells #[va, .bool a.doubt] 37)).alloc (.cells #[vb, .bool b.doubt] 37))) := ((Below.refl _ _).alloc (Nat.le_refl _) _).alloc (by simp) _
  have HHD := Lib.hid (fun W (hb : Below w.heap.size w W) => head_any w ht W hb)
  have HVA := Lib.hid (fun W (hb : Below w.heap.size w W) => hva.below hb)
  have HVB := Lib.hid (fun W (hb : Below w.heap.size w W) => hvb.below hb)
  have HFW := Lib.hid (fun W (hb : Below w.heap.size w W) => few_any _ (.slice none 0 0) [a, b] 0 0 none (W.alloc (.cells #[va, .bool a.doubt, vb, .bool b.doubt] 37)) rfl (two_reps (hva.below hb) (hvb.below hb) 37) (by simp) (by intro r hr; simp only [List.mem_cons, List.not_mem_nil, or_false] at hr; rcases hr with rfl | rfl <;> assumption))
  have HFEW := Lib.hid hfew
  clear hfew ht _hv _hm hva hvb hsa hsb hla hlb
  go_enter Tryd.func4, Tryd.ntmps4
  go_wp2_with (first | (go_at_call 10; refine (HHD.out _ HXB.out).mono ?_; rintro e w4 ⟨rfl, hb⟩; have HX41 := Lib.hid (HX1.out.below hb HX1.out.lt); have HX42 := Lib.hid (HX2.out.below hb HX2.out.lt); have HB4 := Lib.hid (HXB.out.trans (hb.mono HXB.out.size)); obtain ⟨x41, y41⟩ := HX41.out.facts; obtain ⟨x42, y42⟩ := HX42.out.facts; clear hb) | (go_at_call 11; refine (HFW.out w4 HB4.out).mono ?_; rintro e w5 ⟨rfl, hb⟩; rw [HFEW.out]; have HX51 := Lib.hid ((HX41.out.alloc (.cells #[va, .bool a.doubt, vb, .bool b.doubt] 37)).below hb (by have := HX41.out.lt; simp; omega)); have HX52 := Lib.hid ((HX42.out.alloc (.cells #[va, .bool a.doubt, vb, .bool b.doubt] 37)).below hb (by have := HX42.out.lt; simp; omega)); have HB5 := Lib.hid ((HB4.out.alloc HB4.out.size (.cells #[va, .bool a.doubt, vb, .bool b.doubt] 37)).trans (hb.mono (by have := HB4.out.size; simp; omega))); obtain ⟨x51, y51⟩ := HX51.out.facts; obtain ⟨x52, y52⟩ := HX52.out.facts; clear hb x41 y41 x42 y42))
  refine bodyPost_ret (v := .bool true) (by simp [results, Tryd.results4, go_sem]) rfl ?_
  exact ⟨rfl, HB5.out⟩
set_option maxRecDepth 100000 in
set_option maxHeartbeats 8000000 in
theorem texts_big (va vb : Value) (a b : Rep) (s : ByteArray) (w : World) (ht : Tab w) (_hv : Evs w) (_hm : Mxl w) (hva : Sl w va a.opts.length 14 (evF a.opts)) (hvb : Sl w vb b.opts.length 14 (evF b.opts))
    (hsa : ∀ e ∈ a.opts, e.short) (hsb : ∀ e ∈ b.opts, e.short) (hla : a.opts.length ≤ 9223372036854775807) (hlb : b.opts.length ≤ 9223372036854775807) (hfew : fewB [a, b] 0 = true) (hs : 3000 < s.size) :
    Calls Tryd.prog 4 #[.agg #[va, .bool a.doubt], .agg #[vb, .bool b.doubt], .string s] w fun r w' => r = .returned (.bool true) ∧ Below w.heap.size w w' := by
  have HX1 : Hid (Has ((w.alloc (.cells #[va, .bool a.doubt] 37)).alloc (.cells #[vb, .bool b.doubt] 37)) w.heap.size 37 #[va, .bool a.doubt]) := (Has.new w _ _).alloc _
  have HX2 : Hid (Has ((w.alloc (.cells #[va, .bool a.doubt] 37)).alloc (.cells #[vb, .bool b.doubt] 37)) (w.heap.size + 1) 37 #[vb, .bool b.doubt]) := by
    have h := Has.new (w.alloc (.cells #[va, .bool a.doubt] 37)) 37 #[vb, .bool b.doubt]
    rwa [World.size_alloc] at h
  have HXB : Hid (Below w.heap.size w ((w.alloc (.cells #[va, .bool a.doubt] 37)).alloc (.cells #[vb, .bool b.doubt] 37))) := ((Below.refl _ _).alloc (Nat.le_refl _) _).alloc (by simp) _
  have HHD := Lib.hid (fun W (hb : Below w.heap.size w W) => head_any w ht W hb)
  have HVA := Lib.hid (fun W (hb : Below w.heap.size w W) => hva.below hb)
  have HVB := Lib.hid (fun W (hb : Below w.heap.size w W) => hvb.below hb)
  have HFW := Lib.hid (fun W (hb : Below w.heap.size w W) => few_any _ (.slice none 0 0) [a, b] 0 0 none (W.alloc (.cells #[va, .bool a.doubt, vb, .bool b.doubt] 37)) rfl (two_reps (hva.below hb) (hvb.below hb) 37) (by simp) (by intro r hr; simp only [List.mem_cons, List.not_mem_nil, or_false] at hr; rcases hr with rfl | rfl <;> assumption))
  have HFEW := Lib.hid hfew
  have hbig : (3000 : Int) < (s.size : Int) := by omega
  clear hfew ht _hv _hm hva hvb hsa hsb hla hlb
  go_enter Tryd.func4, Tryd.ntmps4
  go_wp2_with (first | (go_at_call 10; refine (HHD.out _ HXB.out).mono ?_; rintro e w4 ⟨rfl, hb⟩; have HX41 := Lib.hid (HX1.out.below hb HX1.out.lt); have HX42 := Lib.hid (HX2.out.below hb HX2.out.lt); have HB4 := Lib.hid (HXB.out.trans (hb.mono HXB.out.size)); obtain ⟨x41, y41⟩ := HX41.out.facts; obtain ⟨x42, y42⟩ := HX42.out.facts; clear hb) | (go_at_call 11; refine (HFW.out w4 HB4.out).mono ?_; rintro e w5 ⟨rfl, hb⟩; rw [HFEW.out]; have HX51 := Lib.hid ((HX41.out.alloc (.cells #[va, .bool a.doubt, vb, .bool b.doubt] 37)).below hb (by have := HX41.out.lt; simp; omega)); have HX52 := Lib.hid ((HX42.out.alloc (.cells #[va, .bool a.doubt, vb, .bool b.doubt] 37)).below hb (by have := HX42.out.lt; simp; omega)); have HB5 := Lib.hid ((HB4.out.alloc HB4.out.size (.cells #[va, .bool a.doubt, vb, .bool b.doubt] 37)).trans (hb.mono (by have := HB4.out.size; simp; omega))); obtain ⟨x51, y51⟩ := HX51.out.facts; obtain ⟨x52, y52⟩ := HX52.out.facts; clear hb x41 y41 x42 y42))
  refine bodyPost_ret (v := .bool true) (by simp [results, Tryd.results4, go_sem]) rfl ?_
  exact ⟨rfl, HB5.out⟩
theorem parseR_short (s : ByteArray) : ∀ e ∈ (parseR s).1.opts, e.short := by
  intro e he
  unfold parseR at he
  split at he
  · cases he
  · split at he
    · split at he
      · obtain ⟨l, _, rfl⟩ := List.mem_map.1 (show e ∈ (((linesB s).take ((linesB s).length - 1)).drop 1).map fun l => (parseE l).1 from he)
        exact parseE_short l
      · cases he
    · cases he
set_option maxRecDepth 100000 in
set_option maxHeartbeats 8000000 in
theorem texts_ttt (va vb : Value) (a b : Rep) (s : ByteArray) (w : World) (ht : Tab w) (hv : Evs w) (hm : Mxl w) (hva : Sl w va a.opts.length 14 (evF a.opts)) (hvb : Sl w vb b.opts.length 14 (evF b.opts))
    (hsa : ∀ e ∈ a.opts, e.short) (hsb : ∀ e ∈ b.opts, e.short) (hla : a.opts.length ≤ 9223372036854775807) (hlb : b.opts.length ≤ 9223372036854775807) (hfew : fewB [a, b] 0 = true) (hs : s.size ≤ 3000) (hka : repOk a.opts = true) (hkb : repOk b.opts = true) (hkp : repOk (parseR s).1.opts = true ∧ textR (parseR s).1 = s ∧ (parseR s).2 = 0) :
    Calls Tryd.prog 4 #[.agg #[va, .bool a.doubt], .agg #[vb, .bool b.doubt], .string s] w fun r w' => r = .returned (.bool true) ∧ Below w.heap.size w w' := by
  have HX1 : Hid (Has ((w.alloc (.cells #[va, .bool a.doubt] 37)).alloc (.cells #[vb, .bool b.doubt] 37)) w.heap.size 37 #[va, .bool a.doubt]) := (Has.new w _ _).alloc _
  have HX2 : Hid (Has ((w.alloc (.cells #[va, .bool a.doubt] 37)).alloc (.cells #[vb, .bool b.doubt] 37)) (w.heap.size + 1) 37 #[vb, .bool b.doubt]) := by
    have h := Has.new (w.alloc (.cells #[va, .bool a.doubt] 37)) 37 #[vb, .bool b.doubt]
    rwa [World.size_alloc] at h
  have HXB : Hid (Below w.heap.size w ((w.alloc (.cells #[va, .bool a.doubt] 37)).alloc (.cells #[vb, .bool b.doubt] 37))) := ((Below.refl _ _).alloc (Nat.le_refl _) _).alloc (by simp) _
  have HHD := Lib.hid (fun W (hb : Below w.heap.size w W) => head_any w ht W hb)
  have HVA := Lib.hid (fun W (hb : Below w.heap.size w W) => hva.below hb)
  have HVB := Lib.hid (fun W (hb : Below w.heap.size w W) => hvb.below hb)
  have HFW := Lib.hid (fun W (hb : Below w.heap.size w W) => few_any _ (.slice none 0 0) [a, b] 0 0 none (W.alloc (.cells #[va, .bool a.doubt, vb, .bool b.doubt] 37)) rfl (two_reps (hva.below hb) (hvb.below hb) 37) (by simp) (by intro r hr; simp only [List.mem_cons, List.not_mem_nil, or_false] at hr; rcases hr with rfl | rfl <;> assumption))
  have HFEW := Lib.hid hfew
  have hbig : (s.size : Int) ≤ 3000 := by omega
  obtain ⟨h6a, h6b⟩ := few_two hfew
  have HTA := Lib.hid (fun W (hb : Below w.heap.size w W) => repText_any va a w W ht hb (hva.below hb) hsa (by omega))
  have HTB := Lib.hid (fun W (hb : Below w.heap.size w W) => repText_any vb b w W ht hb (hvb.below hb) hsb (by omega))
  have HVD := Lib.hid (fun W (hb : Below w.heap.size w W) => repValid_any va a.opts a.doubt W (hva.below hb) hsa (by omega))
  have HPT := Lib.hid (fun W (hb : Below w.heap.size w W) => parseR_any s w W ht hv hm hb (by unfold maxLen; omega))
  rw [hka] at HTA HVD
  rw [hkb] at HTB
  simp only [if_true] at HTA HTB
  have HPA := Lib.hid (fun W (hb : Below w.heap.size w W) => parseR_any (textR a) w W ht hv hm hb (by have := textR_size hka; unfold maxLen; omega))
  rw [parse_textR hka] at HPA
  dsimp only at HPA
  have HSA := Lib.hid (fun v W (hb : Below w.heap.size w W) (hs : Sl W v a.opts.length 14 (evF a.opts)) => sameR_any v va a a W hs (hva.below hb) (by omega) (by omega))
  rw [(sameR_iff a a).2 rfl] at HSA
  have HSB := Lib.hid (fun W (hb : Below w.heap.size w W) => sameR_any va vb a b W (hva.below hb) (hvb.below hb) (by omega) (by omega))
  rw [← text_same hka hkb] at HSB
  generalize hst : ((textR a).toList == (textR b).toList) = st at HSB
  obtain ⟨hk1, hk2, hk3⟩ := hkp
  have hl4 := repOk_le hk1
  have hshort : ∀ e ∈ (parseR s).1.opts, e.short := parseR_short s
  rw [hk3] at HPT
  generalize (parseR s).1 = P at *
  have HTY := Lib.hid (fun v W (hb : Below w.heap.size w W) (hs : Sl W v P.opts.length 14 (evF P.opts)) => repText_any v P w W ht hb hs hshort (by omega))
  have HVY := Lib.hid (fun v W (hs : Sl W v P.opts.length 14 (evF P.opts)) => repValid_any v P.opts P.doubt W hs hshort (by omega))
  rw [hk1] at HTY HVY
  simp only [if_true] at HTY
  rw [hk2] at HTY
  clear hk1 hk2 hk3 hl4 hshort
  generalize textR a = ta at *
  generalize textR b = tb at *
  clear hfew ht hv hm hva hvb hsa hsb hla hlb h6a h6b hs hka hkb HVA HVB
  go_enter Tryd.func4, Tryd.ntmps4
  go_wp2_with (first | (go_at_call 10; refine (HHD.out _ HXB.out).mono ?_; rintro e w4 ⟨rfl, hb⟩; have HX41 := Lib.hid (HX1.out.below hb HX1.out.lt); have HX42 := Lib.hid (HX2.out.below hb HX2.out.lt); have HB4 := Lib.hid (HXB.out.trans (hb.mono HXB.out.size)); obtain ⟨x41, y41⟩ := HX41.out.facts; obtain ⟨x42, y42⟩ := HX42.out.facts; clear hb) | (go_at_call 11; refine (HFW.out w4 HB4.out).mono ?_; rintro e w5 ⟨rfl, hb⟩; rw [HFEW.out]; have HX51 := Lib.hid ((HX41.out.alloc (.cells #[va, .bool a.doubt, vb, .bool b.doubt] 37)).below hb (by have := HX41.out.lt; simp; omega)); have HX52 := Lib.hid ((HX42.out.alloc (.cells #[va, .bool a.doubt, vb, .bool b.doubt] 37)).below hb (by have := HX42.out.lt; simp; omega)); have HB5 := Lib.hid ((HB4.out.alloc HB4.out.size (.cells #[va, .bool a.doubt, vb, .bool b.doubt] 37)).trans (hb.mono (by have := HB4.out.size; simp; omega))); obtain ⟨x51, y51⟩ := HX51.out.facts; obtain ⟨x52, y52⟩ := HX52.out.facts; clear hb x41 y41 x42 y42) | (go_at_call 12; (with_reducible show Calls _ _ #[.agg #[va, _]] _ _); refine (HTA.out w5 HB5.out).mono ?_; rintro e w6 ⟨rfl, hb⟩; have HX61 := Lib.hid (HX51.out.below hb HX51.out.lt); have HX62 := Lib.hid (HX52.out.below hb HX52.out.lt); have HB6 := Lib.hid (HB5.out.trans (hb.mono HB5.out.size)); obtain ⟨x61, y61⟩ := HX61.out.facts; obtain ⟨x62, y62⟩ := HX62.out.facts; clear hb x51 y51 x52 y52) | (go_at_call 12; (with_reducible show Calls _ _ #[.agg #[vb, _]] _ _); refine (HTB.out w6 HB6.out).mono ?_; rintro e w7 ⟨rfl, hb⟩; have HX71 := Lib.hid (HX61.out.below hb HX61.out.lt); have HX72 := Lib.hid (HX62.out.below hb HX62.out.lt); have HB7 := Lib.hid (HB6.out.trans (hb.mono HB6.out.size)); obtain ⟨x71, y71⟩ := HX71.out.facts; obtain ⟨x72, y72⟩ := HX72.out.facts; clear hb x61 y61 x62 y62) | (go_at_call 13; (with_reducible show Calls _ _ #[.agg #[va, _]] _ _); refine (HVD.out w7 HB7.out).mono ?_; rintro e w8 ⟨rfl, hb⟩; have HX81 := Lib.hid (HX71.out.below hb HX71.out.lt); have HX82 := Lib.hid (HX72.out.below hb HX72.out.lt); have HB8 := Lib.hid (HB7.out.trans (hb.mono HB7.out.size)); obtain ⟨x81, y81⟩ := HX81.out.facts; obtain ⟨x82, y82⟩ := HX82.out.facts; clear hb x71 y71 x72 y72) | (go_at_call 14; (with_reducible show Calls _ _ #[.string ta] _ _); refine (HPA.out w8 HB8.out).mono ?_; rintro e w9 ⟨v9, rfl, hs9, hb⟩; obtain ⟨A9, c9, rfl, _⟩ := sl_len hs9; have HS9 := Lib.hid hs9; have HX91 := Lib.hid (HX81.out.below hb HX81.out.lt); have HX92 := Lib.hid (HX82.out.below hb HX82.out.lt); have HB9 := Lib.hid (HB8.out.trans (hb.mono HB8.out.size)); obtain ⟨x91, y91⟩ := HX91.out.facts; obtain ⟨x92, y92⟩ := HX92.out.facts; clear hs9; have z90 : w.heap.size < w9.heap.size := HX91.out.lt; have z91 : w.heap.size + 1 < w9.heap.size := HX92.out.lt; clear hb x81 y81 x82 y82) | (go_at_call 15; (with_reducible show Calls _ _ #[.agg #[.slice _ _ _, _], _] _ _); refine (HSA.out _ (w9.alloc (.cells #[.slice A9 a.opts.length c9, .bool a.doubt] 37)) (HB9.out.alloc HB9.out.size (.cells #[.slice A9 a.opts.length c9, .bool a.doubt] 37)) (HS9.out.below ((Below.refl _ _).alloc (Nat.le_refl _) (.cells #[.slice A9 a.opts.length c9, .bool a.doubt] 37)))).mono ?_; rintro e w10 ⟨rfl, hb⟩; have HX101 := Lib.hid ((HX91.out.alloc (.cells #[.slice A9 a.opts.length c9, .bool a.doubt] 37)).below hb (by have := HX91.out.lt; simp; omega)); have HX102 := Lib.hid ((HX92.out.alloc (.cells #[.slice A9 a.opts.length c9, .bool a.doubt] 37)).below hb (by have := HX92.out.lt; simp; omega)); have HB10 := Lib.hid ((HB9.out.alloc HB9.out.size (.cells #[.slice A9 a.opts.length c9, .bool a.doubt] 37)).trans (hb.mono (by have := HB9.out.size; simp; omega))); obtain ⟨x101, y101⟩ := HX101.out.facts; obtain ⟨x102, y102⟩ := HX102.out.facts; clear hb x91 y91 x92 y92) | (go_at_call 15; (with_reducible show Calls _ _ #[.agg #[va, _], .agg #[vb, _]] _ _); refine (HSB.out w10 HB10.out).mono ?_; rintro e w11 ⟨rfl, hb⟩; have HX111 := Lib.hid (HX101.out.below hb HX101.out.lt); have HX112 := Lib.hid (HX102.out.below hb HX102.out.lt); have HB11 := Lib.hid (HB10.out.trans (hb.mono HB10.out.size)); obtain ⟨x111, y111⟩ := HX111.out.facts; obtain ⟨x112, y112⟩ := HX112.out.facts; clear hb x101 y101 x102 y102) | (go_at_call 14; (with_reducible show Calls _ _ #[.string s] _ _); refine (HPT.out w11 HB11.out).mono ?_; rintro e w20 ⟨v20, rfl, hs20, hb⟩; obtain ⟨A20, c20, rfl, _⟩ := sl_len hs20; have HS20 := Lib.hid hs20; have HB20 := Lib.hid (HB11.out.trans (hb.mono HB11.out.size)); clear hb hs20 x111 y111 x112 y112) | (go_at_call 12; (with_reducible show Calls _ _ #[.agg #[.slice _ _ _, _]] _ _); refine (HTY.out _ (w20.alloc (.cells #[.slice A20 P.opts.length c20, .bool P.doubt] 37)) (HB20.out.alloc HB20.out.size (.cells #[.slice A20 P.opts.length c20, .bool P.doubt] 37)) (HS20.out.below ((Below.refl _ _).alloc (Nat.le_refl _) (.cells #[.slice A20 P.opts.length c20, .bool P.doubt] 37)))).mono ?_; rintro e w21 ⟨rfl, hb⟩; have HY21 := Lib.hid ((Has.new w20 37 #[.slice A20 P.opts.length c20, .bool P.doubt]).below hb (by simp)); have HS21 := Lib.hid ((HS20.out.below ((Below.refl _ _).alloc (Nat.le_refl _) (.cells #[.slice A20 P.opts.length c20, .bool P.doubt] 37))).below hb); have HB21 := Lib.hid ((HB20.out.alloc HB20.out.size (.cells #[.slice A20 P.opts.length c20, .bool P.doubt] 37)).trans (hb.mono (by have := HB20.out.size; simp; omega))); obtain ⟨x21, y21⟩ := HY21.out.facts; clear hb) | (go_at_call 13; (with_reducible show Calls _ _ #[.agg #[.slice _ _ _, _]] _ _); refine (HVY.out _ w21 HS21.out).mono ?_; rintro e w22 ⟨rfl, hb⟩; have HB22 := Lib.hid (HB21.out.trans (hb.mono HB21.out.size)); clear hb))
  refine bodyPost_ret (v := .bool true) (by simp [results, Tryd.results4, go_sem]) rfl ?_
  exact ⟨rfl, HB22.out⟩
set_option maxRecDepth 100000 in
set_option maxHeartbeats 8000000 in
theorem texts_ttf (va vb : Value) (a b : Rep) (s : ByteArray) (w : World) (ht : Tab w) (hv : Evs w) (hm : Mxl w) (hva : Sl w va a.opts.length 14 (evF a.opts)) (hvb : Sl w vb b.opts.length 14 (evF b.opts))
    (hsa : ∀ e ∈ a.opts, e.short) (hsb : ∀ e ∈ b.opts, e.short) (hla : a.opts.length ≤ 9223372036854775807) (hlb : b.opts.length ≤ 9223372036854775807) (hfew : fewB [a, b] 0 = true) (hs : s.size ≤ 3000) (hka : repOk a.opts = true) (hkb : repOk b.opts = true) (hkp : parseR s = (noRep, 8)) :
    Calls Tryd.prog 4 #[.agg #[va, .bool a.doubt], .agg #[vb, .bool b.doubt], .string s] w fun r w' => r = .returned (.bool true) ∧ Below w.heap.size w w' := by
  have HX1 : Hid (Has ((w.alloc (.cells #[va, .bool a.doubt] 37)).alloc (.cells #[vb, .bool b.doubt] 37)) w.heap.size 37 #[va, .bool a.doubt]) := (Has.new w _ _).alloc _
  have HX2 : Hid (Has ((w.alloc (.cells #[va, .bool a.doubt] 37)).alloc (.cells #[vb, .bool b.doubt] 37)) (w.heap.size + 1) 37 #[vb, .bool b.doubt]) := by
    have h := Has.new (w.alloc (.cells #[va, .bool a.doubt] 37)) 37 #[vb, .bool b.doubt]
    rwa [World.size_alloc] at h
  have HXB : Hid (Below w.heap.size w ((w.alloc (.cells #[va, .bool a.doubt] 37)).alloc (.cells #[vb, .bool b.doubt] 37))) := ((Below.refl _ _).alloc (Nat.le_refl _) _).alloc (by simp) _
  have HHD := Lib.hid (fun W (hb : Below w.heap.size w W) => head_any w ht W hb)
  have HVA := Lib.hid (fun W (hb : Below w.heap.size w W) => hva.below hb)
  have HVB := Lib.hid (fun W (hb : Below w.heap.size w W) => hvb.below hb)
  have HFW := Lib.hid (fun W (hb : Below w.heap.size w W) => few_any _ (.slice none 0 0) [a, b] 0 0 none (W.alloc (.cells #[va, .bool a.doubt, vb, .bool b.doubt] 37)) rfl (two_reps (hva.below hb) (hvb.below hb) 37) (by simp) (by intro r hr; simp only [List.mem_cons, List.not_mem_nil, or_false] at hr; rcases hr with rfl | rfl <;> assumption))
  have HFEW := Lib.hid hfew
  have hbig : (s.size : Int) ≤ 3000 := by omega
  obtain ⟨h6a, h6b⟩ := few_two hfew
  have HTA := Lib.hid (fun W (hb : Below w.heap.size w W) => repText_any va a w W ht hb (hva.below hb) hsa (by omega))
  have HTB := Lib.hid (fun W (hb : Below w.heap.size w W) => repText_any vb b w W ht hb (hvb.below hb) hsb (by omega))
  have HVD := Lib.hid (fun W (hb : Below w.heap.size w W) => repValid_any va a.opts a.doubt W (hva.below hb) hsa (by omega))
  have HPT := Lib.hid (fun W (hb : Below w.heap.size w W) => parseR_any s w W ht hv hm hb (by unfold maxLen; omega))
  rw [hka] at HTA HVD
  rw [hkb] at HTB
  simp only [if_true] at HTA HTB
  have HPA := Lib.hid (fun W (hb : Below w.heap.size w W) => parseR_any (textR a) w W ht hv hm hb (by have := textR_size hka; unfold maxLen; omega))
  rw [parse_textR hka] at HPA
  dsimp only at HPA
  have HSA := Lib.hid (fun v W (hb : Below w.heap.size w W) (hs : Sl W v a.opts.length 14 (evF a.opts)) => sameR_any v va a a W hs (hva.below hb) (by omega) (by omega))
  rw [(sameR_iff a a).2 rfl] at HSA
  have HSB := Lib.hid (fun W (hb : Below w.heap.size w W) => sameR_any va vb a b W (hva.below hb) (hvb.below hb) (by omega) (by omega))
  rw [← text_same hka hkb] at HSB
  generalize hst : ((textR a).toList == (textR b).toList) = st at HSB
  rw [hkp] at HPT
  dsimp only at HPT
  have hno : (noRep.opts.length) = 0 := rfl
  clear hkp
  generalize textR a = ta at *
  generalize textR b = tb at *
  clear hfew ht hv hm hva hvb hsa hsb hla hlb h6a h6b hs hka hkb HVA HVB
  go_enter Tryd.func4, Tryd.ntmps4
  go_wp2_with (first | (go_at_call 10; refine (HHD.out _ HXB.out).mono ?_; rintro e w4 ⟨rfl, hb⟩; have HX41 := Lib.hid (HX1.out.below hb HX1.out.lt); have HX42 := Lib.hid (HX2.out.below hb HX2.out.lt); have HB4 := Lib.hid (HXB.out.trans (hb.mono HXB.out.size)); obtain ⟨x41, y41⟩ := HX41.out.facts; obtain ⟨x42, y42⟩ := HX42.out.facts; clear hb) | (go_at_call 11; refine (HFW.out w4 HB4.out).mono ?_; rintro e w5 ⟨rfl, hb⟩; rw [HFEW.out]; have HX51 := Lib.hid ((HX41.out.alloc (.cells #[va, .bool a.doubt, vb, .bool b.doubt] 37)).below hb (by have := HX41.out.lt; simp; omega)); have HX52 := Lib.hid ((HX42.out.alloc (.cells #[va, .bool a.doubt, vb, .bool b.doubt] 37)).below hb (by have := HX42.out.lt; simp; omega)); have HB5 := Lib.hid ((HB4.out.alloc HB4.out.size (.cells #[va, .bool a.doubt, vb, .bool b.doubt] 37)).trans (hb.mono (by have := HB4.out.size; simp; omega))); obtain ⟨x51, y51⟩ := HX51.out.facts; obtain ⟨x52, y52⟩ := HX52.out.facts; clear hb x41 y41 x42 y42) | (go_at_call 12; (with_reducible show Calls _ _ #[.agg #[va, _]] _ _); refine (HTA.out w5 HB5.out).mono ?_; rintro e w6 ⟨rfl, hb⟩; have HX61 := Lib.hid (HX51.out.below hb HX51.out.lt); have HX62 := Lib.hid (HX52.out.below hb HX52.out.lt); have HB6 := Lib.hid (HB5.out.trans (hb.mono HB5.out.size)); obtain ⟨x61, y61⟩ := HX61.out.facts; obtain ⟨x62, y62⟩ := HX62.out.facts; clear hb x51 y51 x52 y52) | (go_at_call 12; (with_reducible show Calls _ _ #[.agg #[vb, _]] _ _); refine (HTB.out w6 HB6.out).mono ?_; rintro e w7 ⟨rfl, hb⟩; have HX71 := Lib.hid (HX61.out.below hb HX61.out.lt); have HX72 := Lib.hid (HX62.out.below hb HX62.out.lt); have HB7 := Lib.hid (HB6.out.trans (hb.mono HB6.out.size)); obtain ⟨x71, y71⟩ := HX71.out.facts; obtain ⟨x72, y72⟩ := HX72.out.facts; clear hb x61 y61 x62 y62) | (go_at_call 13; (with_reducible show Calls _ _ #[.agg #[va, _]] _ _); refine (HVD.out w7 HB7.out).mono ?_; rintro e w8 ⟨rfl, hb⟩; have HX81 := Lib.hid (HX71.out.below hb HX71.out.lt); have HX82 := Lib.hid (HX72.out.below hb HX72.out.lt); have HB8 := Lib.hid (HB7.out.trans (hb.mono HB7.out.size)); obtain ⟨x81, y81⟩ := HX81.out.facts; obtain ⟨x82, y82⟩ := HX82.out.facts; clear hb x71 y71 x72 y72) | (go_at_call 14; (with_reducible show Calls _ _ #[.string ta] _ _); refine (HPA.out w8 HB8.out).mono ?_; rintro e w9 ⟨v9, rfl, hs9, hb⟩; obtain ⟨A9, c9, rfl, _⟩ := sl_len hs9; have HS9 := Lib.hid hs9; have HX91 := Lib.hid (HX81.out.below hb HX81.out.lt); have HX92 := Lib.hid (HX82.out.below hb HX82.out.lt); have HB9 := Lib.hid (HB8.out.trans (hb.mono HB8.out.size)); obtain ⟨x91, y91⟩ := HX91.out.facts; obtain ⟨x92, y92⟩ := HX92.out.facts; clear hs9; have z90 : w.heap.size < w9.heap.size := HX91.out.lt; have z91 : w.heap.size + 1 < w9.heap.size := HX92.out.lt; clear hb x81 y81 x82 y82) | (go_at_call 15; (with_reducible show Calls _ _ #[.agg #[.slice _ _ _, _], _] _ _); refine (HSA.out _ (w9.alloc (.cells #[.slice A9 a.opts.length c9, .bool a.doubt] 37)) (HB9.out.alloc HB9.out.size (.cells #[.slice A9 a.opts.length c9, .bool a.doubt] 37)) (HS9.out.below ((Below.refl _ _).alloc (Nat.le_refl _) (.cells #[.slice A9 a.opts.length c9, .bool a.doubt] 37)))).mono ?_; rintro e w10 ⟨rfl, hb⟩; have HX101 := Lib.hid ((HX91.out.alloc (.cells #[.slice A9 a.opts.length c9, .bool a.doubt] 37)).below hb (by have := HX91.out.lt; simp; omega)); have HX102 := Lib.hid ((HX92.out.alloc (.cells #[.slice A9 a.opts.length c9, .bool a.doubt] 37)).below hb (by have := HX92.out.lt; simp; omega)); have HB10 := Lib.hid ((HB9.out.alloc HB9.out.size (.cells #[.slice A9 a.opts.length c9, .bool a.doubt] 37)).trans (hb.mono (by have := HB9.out.size; simp; omega))); obtain ⟨x101, y101⟩ := HX101.out.facts; obtain ⟨x102, y102⟩ := HX102.out.facts; clear hb x91 y91 x92 y92) | (go_at_call 15; (with_reducible show Calls _ _ #[.agg #[va, _], .agg #[vb, _]] _ _); refine (HSB.out w10 HB10.out).mono ?_; rintro e w11 ⟨rfl, hb⟩; have HX111 := Lib.hid (HX101.out.below hb HX101.out.lt); have HX112 := Lib.hid (HX102.out.below hb HX102.out.lt); have HB11 := Lib.hid (HB10.out.trans (hb.mono HB10.out.size)); obtain ⟨x111, y111⟩ := HX111.out.facts; obtain ⟨x112, y112⟩ := HX112.out.facts; clear hb x101 y101 x102 y102) | (go_at_call 14; (with_reducible show Calls _ _ #[.string s] _ _); refine (HPT.out w11 HB11.out).mono ?_; rintro e w20 ⟨v20, rfl, hs20, hb⟩; obtain ⟨A20, c20, rfl, _⟩ := sl_len hs20; have HB20 := Lib.hid ((HB11.out.trans (hb.mono HB11.out.size)).alloc (by have h1 := hb.size; have h2 := HB11.out.size; omega) (.cells #[.slice A20 0 c20, .bool false] 37)); clear hb hs20 x111 y111 x112 y112))
  refine bodyPost_ret (v := .bool true) (by simp [results, Tryd.results4, go_sem]) rfl ?_
  exact ⟨rfl, HB20.out⟩
set_option maxRecDepth 100000 in
set_option maxHeartbeats 8000000 in
theorem texts_tft (va vb : Value) (a b : Rep) (s : ByteArray) (w : World) (ht : Tab w) (hv : Evs w) (hm : Mxl w) (hva : Sl w va a.opts.length 14 (evF a.opts)) (hvb : Sl w vb b.opts.length 14 (evF b.opts))
    (hsa : ∀ e ∈ a.opts, e.short) (hsb : ∀ e ∈ b.opts, e.short) (hla : a.opts.length ≤ 9223372036854775807) (hlb : b.opts.length ≤ 9223372036854775807) (hfew : fewB [a, b] 0 = true) (hs : s.size ≤ 3000) (hka : repOk a.opts = true) (hkb : repOk b.opts = false) (hkp : repOk (parseR s).1.opts = true ∧ textR (parseR s).1 = s ∧ (parseR s).2 = 0) :
    Calls Tryd.prog 4 #[.agg #[va, .bool a.doubt], .agg #[vb, .bool b.doubt], .string s] w fun r w' => r = .returned (.bool true) ∧ Below w.heap.size w w' := by
  have HX1 : Hid (Has ((w.alloc (.cells #[va, .bool a.doubt] 37)).alloc (.cells #[vb, .bool b.doubt] 37)) w.heap.size 37 #[va, .bool a.doubt]) := (Has.new w _ _).alloc _
  have HX2 : Hid (Has ((w.alloc (.cells #[va, .bool a.doubt] 37)).alloc (.cells #[vb, .bool b.doubt] 37)) (w.heap.size + 1) 37 #[vb, .bool b.doubt]) := by
    have h := Has.new (w.alloc (.cells #[va, .bool a.doubt] 37)) 37 #[vb, .bool b.doubt]
    rwa [World.size_alloc] at h
  have HXB : Hid (Below w.heap.size w ((w.alloc (.cells #[va, .bool a.doubt] 37)).alloc (.cells #[vb, .bool b.doubt] 37))) := ((Below.refl _ _).alloc (Nat.le_refl _) _).alloc (by simp) _
  have HHD := Lib.hid (fun W (hb : Below w.heap.size w W) => head_any w ht W hb)
  have HVA := Lib.hid (fun W (hb : Below w.heap.size w W) => hva.below hb)
  have HVB := Lib.hid (fun W (hb : Below w.heap.size w W) => hvb.below hb)
  have HFW := Lib.hid (fun W (hb : Below w.heap.size w W) => few_any _ (.slice none 0 0) [a, b] 0 0 none (W.alloc (.cells #[va, .bool a.doubt, vb, .bool b.doubt] 37)) rfl (two_reps (hva.below hb) (hvb.below hb) 37) (by simp) (by intro r hr; simp only [List.mem_cons, List.not_mem_nil, or_false] at hr; rcases hr with rfl | rfl <;> assumption))
  have HFEW := Lib.hid hfew
  have hbig : (s.size : Int) ≤ 3000 := by omega
  obtain ⟨h6a, h6b⟩ := few_two hfew
  have HTA := Lib.hid (fun W (hb : Below w.heap.size w W) => repText_any va a w W ht hb (hva.below hb) hsa (by omega))
  have HTB := Lib.hid (fun W (hb : Below w.heap.size w W) => repText_any vb b w W ht hb (hvb.below hb) hsb (by omega))
  have HVD := Lib.hid (fun W (hb : Below w.heap.size w W) => repValid_any va a.opts a.doubt W (hva.below hb) hsa (by omega))
  have HPT := Lib.hid (fun W (hb : Below w.heap.size w W) => parseR_any s w W ht hv hm hb (by unfold maxLen; omega))
  rw [hka] at HTA HVD
  rw [hkb] at HTB
  simp only [if_true, Bool.false_eq_true, if_false] at HTA HTB
  have HPA := Lib.hid (fun W (hb : Below w.heap.size w W) => parseR_any (textR a) w W ht hv hm hb (by have := textR_size hka; unfold maxLen; omega))
  rw [parse_textR hka] at HPA
  dsimp only at HPA
  have HSA := Lib.hid (fun v W (hb : Below w.heap.size w W) (hs : Sl W v a.opts.length 14 (evF a.opts)) => sameR_any v va a a W hs (hva.below hb) (by omega) (by omega))
  rw [(sameR_iff a a).2 rfl] at HSA
  obtain ⟨hk1, hk2, hk3⟩ := hkp
  have hl4 := repOk_le hk1
  have hshort : ∀ e ∈ (parseR s).1.opts, e.short := parseR_short s
  rw [hk3] at HPT
  generalize (parseR s).1 = P at *
  have HTY := Lib.hid (fun v W (hb : Below w.heap.size w W) (hs : Sl W v P.opts.length 14 (evF P.opts)) => repText_any v P w W ht hb hs hshort (by omega))
  have HVY := Lib.hid (fun v W (hs : Sl W v P.opts.length 14 (evF P.opts)) => repValid_any v P.opts P.doubt W hs hshort (by omega))
  rw [hk1] at HTY HVY
  simp only [if_true] at HTY
  rw [hk2] at HTY
  clear hk1 hk2 hk3 hl4 hshort
  generalize textR a = ta at *
  clear hfew ht hv hm hva hvb hsa hsb hla hlb h6a h6b hs hka hkb HVA HVB
  go_enter Tryd.func4, Tryd.ntmps4
  go_wp2_with (first | (go_at_call 10; refine (HHD.out _ HXB.out).mono ?_; rintro e w4 ⟨rfl, hb⟩; have HX41 := Lib.hid (HX1.out.below hb HX1.out.lt); have HX42 := Lib.hid (HX2.out.below hb HX2.out.lt); have HB4 := Lib.hid (HXB.out.trans (hb.mono HXB.out.size)); obtain ⟨x41, y41⟩ := HX41.out.facts; obtain ⟨x42, y42⟩ := HX42.out.facts; clear hb) | (go_at_call 11; refine (HFW.out w4 HB4.out).mono ?_; rintro e w5 ⟨rfl, hb⟩; rw [HFEW.out]; have HX51 := Lib.hid ((HX41.out.alloc (.cells #[va, .bool a.doubt, vb, .bool b.doubt] 37)).below hb (by have := HX41.out.lt; simp; omega)); have HX52 := Lib.hid ((HX42.out.alloc (.cells #[va, .bool a.doubt, vb, .bool b.doubt] 37)).below hb (by have := HX42.out.lt; simp; omega)); have HB5 := Lib.hid ((HB4.out.alloc HB4.out.size (.cells #[va, .bool a.doubt, vb, .bool b.doubt] 37)).trans (hb.mono (by have := HB4.out.size; simp; omega))); obtain ⟨x51, y51⟩ := HX51.out.facts; obtain ⟨x52, y52⟩ := HX52.out.facts; clear hb x41 y41 x42 y42) | (go_at_call 12; (with_reducible show Calls _ _ #[.agg #[va, _]] _ _); refine (HTA.out w5 HB5.out).mono ?_; rintro e w6 ⟨rfl, hb⟩; have HX61 := Lib.hid (HX51.out.below hb HX51.out.lt); have HX62 := Lib.hid (HX52.out.below hb HX52.out.lt); have HB6 := Lib.hid (HB5.out.trans (hb.mono HB5.out.size)); obtain ⟨x61, y61⟩ := HX61.out.facts; obtain ⟨x62, y62⟩ := HX62.out.facts; clear hb x51 y51 x52 y52) | (go_at_call 12; (with_reducible show Calls _ _ #[.agg #[vb, _]] _ _); refine (HTB.out w6 HB6.out).mono ?_; rintro e w7 ⟨rfl, hb⟩; have HX71 := Lib.hid (HX61.out.below hb HX61.out.lt); have HX72 := Lib.hid (HX62.out.below hb HX62.out.lt); have HB7 := Lib.hid (HB6.out.trans (hb.mono HB6.out.size)); obtain ⟨x71, y71⟩ := HX71.out.facts; obtain ⟨x72, y72⟩ := HX72.out.facts; clear hb x61 y61 x62 y62) | (go_at_call 13; (with_reducible show Calls _ _ #[.agg #[va, _]] _ _); refine (HVD.out w7 HB7.out).mono ?_; rintro e w8 ⟨rfl, hb⟩; have HX81 := Lib.hid (HX71.out.below hb HX71.out.lt); have HX82 := Lib.hid (HX72.out.below hb HX72.out.lt); have HB8 := Lib.hid (HB7.out.trans (hb.mono HB7.out.size)); obtain ⟨x81, y81⟩ := HX81.out.facts; obtain ⟨x82, y82⟩ := HX82.out.facts; clear hb x71 y71 x72 y72) | (go_at_call 14; (with_reducible show Calls _ _ #[.string ta] _ _); refine (HPA.out w8 HB8.out).mono ?_; rintro e w9 ⟨v9, rfl, hs9, hb⟩; obtain ⟨A9, c9, rfl, _⟩ := sl_len hs9; have HS9 := Lib.hid hs9; have HX91 := Lib.hid (HX81.out.below hb HX81.out.lt); have HX92 := Lib.hid (HX82.out.below hb HX82.out.lt); have HB9 := Lib.hid (HB8.out.trans (hb.mono HB8.out.size)); obtain ⟨x91, y91⟩ := HX91.out.facts; obtain ⟨x92, y92⟩ := HX92.out.facts; clear hs9; have z90 : w.heap.size < w9.heap.size := HX91.out.lt; have z91 : w.heap.size + 1 < w9.heap.size := HX92.out.lt; clear hb x81 y81 x82 y82) | (go_at_call 15; (with_reducible show Calls _ _ #[.agg #[.slice _ _ _, _], _] _ _); refine (HSA.out _ (w9.alloc (.cells #[.slice A9 a.opts.length c9, .bool a.doubt] 37)) (HB9.out.alloc HB9.out.size (.cells #[.slice A9 a.opts.length c9, .bool a.doubt] 37)) (HS9.out.below ((Below.refl _ _).alloc (Nat.le_refl _) (.cells #[.slice A9 a.opts.length c9, .bool a.doubt] 37)))).mono ?_; rintro e w10 ⟨rfl, hb⟩; have HX101 := Lib.hid ((HX91.out.alloc (.cells #[.slice A9 a.opts.length c9, .bool a.doubt] 37)).below hb (by have := HX91.out.lt; simp; omega)); have HX102 := Lib.hid ((HX92.out.alloc (.cells #[.slice A9 a.opts.length c9, .bool a.doubt] 37)).below hb (by have := HX92.out.lt; simp; omega)); have HB10 := Lib.hid ((HB9.out.alloc HB9.out.size (.cells #[.slice A9 a.opts.length c9, .bool a.doubt] 37)).trans (hb.mono (by have := HB9.out.size; simp; omega))); obtain ⟨x101, y101⟩ := HX101.out.facts; obtain ⟨x102, y102⟩ := HX102.out.facts; clear hb x91 y91 x92 y92) | (go_at_call 14; (with_reducible show Calls _ _ #[.string s] _ _); refine (HPT.out w10 HB10.out).mono ?_; rintro e w20 ⟨v20, rfl, hs20, hb⟩; obtain ⟨A20, c20, rfl, _⟩ := sl_len hs20; have HS20 := Lib.hid hs20; have HB20 := Lib.hid (HB10.out.trans (hb.mono HB10.out.size)); clear hb hs20 x101 y101 x102 y102) | (go_at_call 12; (with_reducible show Calls _ _ #[.agg #[.slice _ _ _, _]] _ _); refine (HTY.out _ (w20.alloc (.cells #[.slice A20 P.opts.length c20, .bool P.doubt] 37)) (HB20.out.alloc HB20.out.size (.cells #[.slice A20 P.opts.length c20, .bool P.doubt] 37)) (HS20.out.below ((Below.refl _ _).alloc (Nat.le_refl _) (.cells #[.slice A20 P.opts.length c20, .bool P.doubt] 37)))).mono ?_; rintro e w21 ⟨rfl, hb⟩; have HY21 := Lib.hid ((Has.new w20 37 #[.slice A20 P.opts.length c20, .bool P.doubt]).below hb (by simp)); have HS21 := Lib.hid ((HS20.out.below ((Below.refl _ _).alloc (Nat.le_refl _) (.cells #[.slice A20 P.opts.length c20, .bool P.doubt] 37))).below hb); have HB21 := Lib.hid ((HB20.out.alloc HB20.out.size (.cells #[.slice A20 P.opts.length c20, .bool P.doubt] 37)).trans (hb.mono (by have := HB20.out.size; simp; omega))); obtain ⟨x21, y21⟩ := HY21.out.facts; clear hb) | (go_at_call 13; (with_reducible show Calls _ _ #[.agg #[.slice _ _ _, _]] _ _); refine (HVY.out _ w21 HS21.out).mono ?_; rintro e w22 ⟨rfl, hb⟩; have HB22 := Lib.hid (HB21.out.trans (hb.mono HB21.out.size)); clear hb))
  refine bodyPost_ret (v := .bool true) (by simp [results, Tryd.results4, go_sem]) rfl ?_
  exact ⟨rfl, HB22.out⟩
set_option maxRecDepth 100000 in
set_option maxHeartbeats 8000000 in
theorem texts_tff (va vb : Value) (a b : Rep) (s : ByteArray) (w : World) (ht : Tab w) (hv : Evs w) (hm : Mxl w) (hva : Sl w va a.opts.length 14 (evF a.opts)) (hvb : Sl w vb b.opts.length 14 (evF b.opts))
    (hsa : ∀ e ∈ a.opts, e.short) (hsb : ∀ e ∈ b.opts, e.short) (hla : a.opts.length ≤ 9223372036854775807) (hlb : b.opts.length ≤ 9223372036854775807) (hfew : fewB [a, b] 0 = true) (hs : s.size ≤ 3000) (hka : repOk a.opts = true) (hkb : repOk b.opts = false) (hkp : parseR s = (noRep, 8)) :
    Calls Tryd.prog 4 #[.agg #[va, .bool a.doubt], .agg #[vb, .bool b.doubt], .string s] w fun r w' => r = .returned (.bool true) ∧ Below w.heap.size w w' := by
  have HX1 : Hid (Has ((w.alloc (.cells #[va, .bool a.doubt] 37)).alloc (.cells #[vb, .bool b.doubt] 37)) w.heap.size 37 #[va, .bool a.doubt]) := (Has.new w _ _).alloc _
  have HX2 : Hid (Has ((w.alloc (.cells #[va, .bool a.doubt] 37)).alloc (.cells #[vb, .bool b.doubt] 37)) (w.heap.size + 1) 37 #[vb, .bool b.doubt]) := by
    have h := Has.new (w.alloc (.cells #[va, .bool a.doubt] 37)) 37 #[vb, .bool b.doubt]
    rwa [World.size_alloc] at h
  have HXB : Hid (Below w.heap.size w ((w.alloc (.cells #[va, .bool a.doubt] 37)).alloc (.cells #[vb, .bool b.doubt] 37))) := ((Below.refl _ _).alloc (Nat.le_refl _) _).alloc (by simp) _
  have HHD := Lib.hid (fun W (hb : Below w.heap.size w W) => head_any w ht W hb)
  have HVA := Lib.hid (fun W (hb : Below w.heap.size w W) => hva.below hb)
  have HVB := Lib.hid (fun W (hb : Below w.heap.size w W) => hvb.below hb)
  have HFW := Lib.hid (fun W (hb : Below w.heap.size w W) => few_any _ (.slice none 0 0) [a, b] 0 0 none (W.alloc (.cells #[va, .bool a.doubt, vb, .bool b.doubt] 37)) rfl (two_reps (hva.below hb) (hvb.below hb) 37) (by simp) (by intro r hr; simp only [List.mem_cons, List.not_mem_nil, or_false] at hr; rcases hr with rfl | rfl <;> assumption))
  have HFEW := Lib.hid hfew
  have hbig : (s.size : Int) ≤ 3000 := by omega
  obtain ⟨h6a, h6b⟩ := few_two hfew
  have HTA := Lib.hid (fun W (hb : Below w.heap.size w W) => repText_any va a w W ht hb (hva.below hb) hsa (by omega))
  have HTB := Lib.hid (fun W (hb : Below w.heap.size w W) => repText_any vb b w W ht hb (hvb.below hb) hsb (by omega))
  have HVD := Lib.hid (fun W (hb : Below w.heap.size w W) => repValid_any va a.opts a.doubt W (hva.below hb) hsa (by omega))
  have HPT := Lib.hid (fun W (hb : Below w.heap.size w W) => parseR_any s w W ht hv hm hb (by unfold maxLen; omega))
  rw [hka] at HTA HVD
  rw [hkb] at HTB
  simp only [if_true, Bool.false_eq_true, if_false] at HTA HTB
  have HPA := Lib.hid (fun W (hb : Below w.heap.size w W) => parseR_any (textR a) w W ht hv hm hb (by have := textR_size hka; unfold maxLen; omega))
  rw [parse_textR hka] at HPA
  dsimp only at HPA
  have HSA := Lib.hid (fun v W (hb : Below w.heap.size w W) (hs : Sl W v a.opts.length 14 (evF a.opts)) => sameR_any v va a a W hs (hva.below hb) (by omega) (by omega))
  rw [(sameR_iff a a).2 rfl] at HSA
  rw [hkp] at HPT
  dsimp only at HPT
  have hno : (noRep.opts.length) = 0 := rfl
  clear hkp
  generalize textR a = ta at *
  clear hfew ht hv hm hva hvb hsa hsb hla hlb h6a h6b hs hka hkb HVA HVB
  go_enter Tryd.func4, Tryd.ntmps4
  go_wp2_with (first | (go_at_call 10; refine (HHD.out _ HXB.out).mono ?_; rintro e w4 ⟨rfl, hb⟩; have HX41 := Lib.hid (HX1.out.below hb HX1.out.lt); have HX42 := Lib.hid (HX2.out.below hb HX2.out.lt); have HB4 := Lib.hid (HXB.out.trans (hb.mono HXB.out.size)); obtain ⟨x41, y41⟩ := HX41.out.facts; obtain ⟨x42, y42⟩ := HX42.out.facts; clear hb) | (go_at_call 11; refine (HFW.out w4 HB4.out).mono ?_; rintro e w5 ⟨rfl, hb⟩; rw [HFEW.out]; have HX51 := Lib.hid ((HX41.out.alloc (.cells #[va, .bool a.doubt, vb, .bool b.doubt] 37)).below hb (by have := HX41.out.lt; simp; omega)); have HX52 := Lib.hid ((HX42.out.alloc (.cells #[va, .bool a.doubt, vb, .bool b.doubt] 37)).below hb (by have := HX42.out.lt; simp; omega)); have HB5 := Lib.hid ((HB4.out.alloc HB4.out.size (.cells #[va, .bool a.doubt, vb, .bool b.doubt] 37)).trans (hb.mono (by have := HB4.out.size; simp; omega))); obtain ⟨x51, y51⟩ := HX51.out.facts; obtain ⟨x52, y52⟩ := HX52.out.facts; clear hb x41 y41 x42 y42) | (go_at_call 12; (with_reducible show Calls _ _ #[.agg #[va, _]] _ _); refine (HTA.out w5 HB5.out).mono ?_; rintro e w6 ⟨rfl, hb⟩; have HX61 := Lib.hid (HX51.out.below hb HX51.out.lt); have HX62 := Lib.hid (HX52.out.below hb HX52.out.lt); have HB6 := Lib.hid (HB5.out.trans (hb.mono HB5.out.size)); obtain ⟨x61, y61⟩ := HX61.out.facts; obtain ⟨x62, y62⟩ := HX62.out.facts; clear hb x51 y51 x52 y52) | (go_at_call 12; (with_reducible show Calls _ _ #[.agg #[vb, _]] _ _); refine (HTB.out w6 HB6.out).mono ?_; rintro e w7 ⟨rfl, hb⟩; have HX71 := Lib.hid (HX61.out.below hb HX61.out.lt); have HX72 := Lib.hid (HX62.out.below hb HX62.out.lt); have HB7 := Lib.hid (HB6.out.trans (hb.mono HB6.out.size)); obtain ⟨x71, y71⟩ := HX71.out.facts; obtain ⟨x72, y72⟩ := HX72.out.facts; clear hb x61 y61 x62 y62) | (go_at_call 13; (with_reducible show Calls _ _ #[.agg #[va, _]] _ _); refine (HVD.out w7 HB7.out).mono ?_; rintro e w8 ⟨rfl, hb⟩; have HX81 := Lib.hid (HX71.out.below hb HX71.out.lt); have HX82 := Lib.hid (HX72.out.below hb HX72.out.lt); have HB8 := Lib.hid (HB7.out.trans (hb.mono HB7.out.size)); obtain ⟨x81, y81⟩ := HX81.out.facts; obtain ⟨x82, y82⟩ := HX82.out.facts; clear hb x71 y71 x72 y72) | (go_at_call 14; (with_reducible show Calls _ _ #[.string ta] _ _); refine (HPA.out w8 HB8.out).mono ?_; rintro e w9 ⟨v9, rfl, hs9, hb⟩; obtain ⟨A9, c9, rfl, _⟩ := sl_len hs9; have HS9 := Lib.hid hs9; have HX91 := Lib.hid (HX81.out.below hb HX81.out.lt); have HX92 := Lib.hid (HX82.out.below hb HX82.out.lt); have HB9 := Lib.hid (HB8.out.trans (hb.mono HB8.out.size)); obtain ⟨x91, y91⟩ := HX91.out.facts; obtain ⟨x92, y92⟩ := HX92.out.facts; clear hs9; have z90 : w.heap.size < w9.heap.size := HX91.out.lt; have z91 : w.heap.size + 1 < w9.heap.size := HX92.out.lt; clear hb x81 y81 x82 y82) | (go_at_call 15; (with_reducible show Calls _ _ #[.agg #[.slice _ _ _, _], _] _ _); refine (HSA.out _ (w9.alloc (.cells #[.slice A9 a.opts.length c9, .bool a.doubt] 37)) (HB9.out.alloc HB9.out.size (.cells #[.slice A9 a.opts.length c9, .bool a.doubt] 37)) (HS9.out.below ((Below.refl _ _).alloc (Nat.le_refl _) (.cells #[.slice A9 a.opts.length c9, .bool a.doubt] 37)))).mono ?_; rintro e w10 ⟨rfl, hb⟩; have HX101 := Lib.hid ((HX91.out.alloc (.cells #[.slice A9 a.opts.length c9, .bool a.doubt] 37)).below hb (by have := HX91.out.lt; simp; omega)); have HX102 := Lib.hid ((HX92.out.alloc (.cells #[.slice A9 a.opts.length c9, .bool a.doubt] 37)).below hb (by have := HX92.out.lt; simp; omega)); have HB10 := Lib.hid ((HB9.out.alloc HB9.out.size (.cells #[.slice A9 a.opts.length c9, .bool a.doubt] 37)).trans (hb.mono (by have := HB9.out.size; simp; omega))); obtain ⟨x101, y101⟩ := HX101.out.facts; obtain ⟨x102, y102⟩ := HX102.out.facts; clear hb x91 y91 x92 y92) | (go_at_call 14; (with_reducible show Calls _ _ #[.string s] _ _); refine (HPT.out w10 HB10.out).mono ?_; rintro e w20 ⟨v20, rfl, hs20, hb⟩; obtain ⟨A20, c20, rfl, _⟩ := sl_len hs20; have HB20 := Lib.hid ((HB10.out.trans (hb.mono HB10.out.size)).alloc (by have h1 := hb.size; have h2 := HB10.out.size; omega) (.cells #[.slice A20 0 c20, .bool false] 37)); clear hb hs20 x101 y101 x102 y102))
  refine bodyPost_ret (v := .bool true) (by simp [results, Tryd.results4, go_sem]) rfl ?_
  exact ⟨rfl, HB20.out⟩
set_option maxRecDepth 100000 in
set_option maxHeartbeats 8000000 in
theorem texts_ftt (va vb : Value) (a b : Rep) (s : ByteArray) (w : World) (ht : Tab w) (hv : Evs w) (hm : Mxl w) (hva : Sl w va a.opts.length 14 (evF a.opts)) (hvb : Sl w vb b.opts.length 14 (evF b.opts))
    (hsa : ∀ e ∈ a.opts, e.short) (hsb : ∀ e ∈ b.opts, e.short) (hla : a.opts.length ≤ 9223372036854775807) (hlb : b.opts.length ≤ 9223372036854775807) (hfew : fewB [a, b] 0 = true) (hs : s.size ≤ 3000) (hka : repOk a.opts = false) (hkb : repOk b.opts = true) (hkp : repOk (parseR s).1.opts = true ∧ textR (parseR s).1 = s ∧ (parseR s).2 = 0) :
    Calls Tryd.prog 4 #[.agg #[va, .bool a.doubt], .agg #[vb, .bool b.doubt], .string s] w fun r w' => r = .returned (.bool true) ∧ Below w.heap.size w w' := by
  have HX1 : Hid (Has ((w.alloc (.cells #[va, .bool a.doubt] 37)).alloc (.cells #[vb, .bool b.doubt] 37)) w.heap.size 37 #[va, .bool a.doubt]) := (Has.new w _ _).alloc _
  have HX2 : Hid (Has ((w.alloc (.cells #[va, .bool a.doubt] 37)).alloc (.cells #[vb, .bool b.doubt] 37)) (w.heap.size + 1) 37 #[vb, .bool b.doubt]) := by
    have h := Has.new (w.alloc (.cells #[va, .bool a.doubt] 37)) 37 #[vb, .bool b.doubt]
    rwa [World.size_alloc] at h
  have HXB : Hid (Below w.heap.size w ((w.alloc (.cells #[va, .bool a.doubt] 37)).alloc (.cells #[vb, .bool b.doubt] 37))) := ((Below.refl _ _).alloc (Nat.le_refl _) _).alloc (by simp) _
  have HHD := Lib.hid (fun W (hb : Below w.heap.size w W) => head_any w ht W hb)
  have HVA := Lib.hid (fun W (hb : Below w.heap.size w W) => hva.below hb)
  have HVB := Lib.hid (fun W (hb : Below w.heap.size w W) => hvb.below hb)
  have HFW := Lib.hid (fun W (hb : Below w.heap.size w W) => few_any _ (.slice none 0 0) [a, b] 0 0 none (W.alloc (.cells #[va, .bool a.doubt, vb, .bool b.doubt] 37)) rfl (two_reps (hva.below hb) (hvb.below hb) 37) (by simp) (by intro r hr; simp only [List.mem_cons, List.not_mem_nil, or_false] at hr; rcases hr with rfl | rfl <;> assumption))
  have HFEW := Lib.hid hfew
  have hbig : (s.size : Int) ≤ 3000 := by omega
  obtain ⟨h6a, h6b⟩ := few_two hfew
  have HTA := Lib.hid (fun W (hb : Below w.heap.size w W) => repText_any va a w W ht hb (hva.below hb) hsa (by omega))
  have HTB := Lib.hid (fun W (hb : Below w.heap.size w W) => repText_any vb b w W ht hb (hvb.below hb) hsb (by omega))
  have HVD := Lib.hid (fun W (hb : Below w.heap.size w W) => repValid_any va a.opts a.doubt W (hva.below hb) hsa (by omega))
  have HPT := Lib.hid (fun W (hb : Below w.heap.size w W) => parseR_any s w W ht hv hm hb (by unfold maxLen; omega))
  rw [hka] at HTA HVD
  rw [hkb] at HTB
  simp only [if_true, Bool.false_eq_true, if_false] at HTA HTB
  obtain ⟨hk1, hk2, hk3⟩ := hkp
  have hl4 := repOk_le hk1
  have hshort : ∀ e ∈ (parseR s).1.opts, e.short := parseR_short s
  rw [hk3] at HPT
  generalize (parseR s).1 = P at *
  have HTY := Lib.hid (fun v W (hb : Below w.heap.size w W) (hs : Sl W v P.opts.length 14 (evF P.opts)) => repText_any v P w W ht hb hs hshort (by omega))
  have HVY := Lib.hid (fun v W (hs : Sl W v P.opts.length 14 (evF P.opts)) => repValid_any v P.opts P.doubt W hs hshort (by omega))
  rw [hk1] at HTY HVY
  simp only [if_true] at HTY
  rw [hk2] at HTY
  clear hk1 hk2 hk3 hl4 hshort
  generalize textR b = tb at *
  clear hfew ht hv hm hva hvb hsa hsb hla hlb h6a h6b hs hka hkb HVA HVB
  go_enter Tryd.func4, Tryd.ntmps4
  go_wp2_with (first | (go_at_call 10; refine (HHD.out _ HXB.out).mono ?_; rintro e w4 ⟨rfl, hb⟩; have HX41 := Lib.hid (HX1.out.below hb HX1.out.lt); have HX42 := Lib.hid (HX2.out.below hb HX2.out.lt); have HB4 := Lib.hid (HXB.out.trans (hb.mono HXB.out.size)); obtain ⟨x41, y41⟩ := HX41.out.facts; obtain ⟨x42, y42⟩ := HX42.out.facts; clear hb) | (go_at_call 11; refine (HFW.out w4 HB4.out).mono ?_; rintro e w5 ⟨rfl, hb⟩; rw [HFEW.out]; have HX51 := Lib.hid ((HX41.out.alloc (.cells #[va, .bool a.doubt, vb, .bool b.doubt] 37)).below hb (by have := HX41.out.lt; simp; omega)); have HX52 := Lib.hid ((HX42.out.alloc (.cells #[va, .bool a.doubt, vb, .bool b.doubt] 37)).below hb (by have := HX42.out.lt; simp; omega)); have HB5 := Lib.hid ((HB4.out.alloc HB4.out.size (.cells #[va, .bool a.doubt, vb, .bool b.doubt] 37)).trans (hb.mono (by have := HB4.out.size; simp; omega))); obtain ⟨x51, y51⟩ := HX51.out.facts; obtain ⟨x52, y52⟩ := HX52.out.facts; clear hb x41 y41 x42 y42) | (go_at_call 12; (with_reducible show Calls _ _ #[.agg #[va, _]] _ _); refine (HTA.out w5 HB5.out).mono ?_; rintro e w6 ⟨rfl, hb⟩; have HX61 := Lib.hid (HX51.out.below hb HX51.out.lt); have HX62 := Lib.hid (HX52.out.below hb HX52.out.lt); have HB6 := Lib.hid (HB5.out.trans (hb.mono HB5.out.size)); obtain ⟨x61, y61⟩ := HX61.out.facts; obtain ⟨x62, y62⟩ := HX62.out.facts; clear hb x51 y51 x52 y52) | (go_at_call 12; (with_reducible show Calls _ _ #[.agg #[vb, _]] _ _); refine (HTB.out w6 HB6.out).mono ?_; rintro e w7 ⟨rfl, hb⟩; have HX71 := Lib.hid (HX61.out.below hb HX61.out.lt); have HX72 := Lib.hid (HX62.out.below hb HX62.out.lt); have HB7 := Lib.hid (HB6.out.trans (hb.mono HB6.out.size)); obtain ⟨x71, y71⟩ := HX71.out.facts; obtain ⟨x72, y72⟩ := HX72.out.facts; clear hb x61 y61 x62 y62) | (go_at_call 13; (with_reducible show Calls _ _ #[.agg #[va, _]] _ _); refine (HVD.out w7 HB7.out).mono ?_; rintro e w8 ⟨rfl, hb⟩; have HX81 := Lib.hid (HX71.out.below hb HX71.out.lt); have HX82 := Lib.hid (HX72.out.below hb HX72.out.lt); have HB8 := Lib.hid (HB7.out.trans (hb.mono HB7.out.size)); obtain ⟨x81, y81⟩ := HX81.out.facts; obtain ⟨x82, y82⟩ := HX82.out.facts; clear hb x71 y71 x72 y72) | (go_at_call 14; (with_reducible show Calls _ _ #[.string s] _ _); refine (HPT.out w8 HB8.out).mono ?_; rintro e w20 ⟨v20, rfl, hs20, hb⟩; obtain ⟨A20, c20, rfl, _⟩ := sl_len hs20; have HS20 := Lib.hid hs20; have HB20 := Lib.hid (HB8.out.trans (hb.mono HB8.out.size)); clear hb hs20 x81 y81 x82 y82) | (go_at_call 12; (with_reducible show Calls _ _ #[.agg #[.slice _ _ _, _]] _ _); refine (HTY.out _ (w20.alloc (.cells #[.slice A20 P.opts.length c20, .bool P.doubt] 37)) (HB20.out.alloc HB20.out.size (.cells #[.slice A20 P.opts.length c20, .bool P.doubt] 37)) (HS20.out.below ((Below.refl _ _).alloc (Nat.le_refl _) (.cells #[.slice A20 P.opts.length c20, .bool P.doubt] 37)))).mono ?_; rintro e w21 ⟨rfl, hb⟩; have HY21 := Lib.hid ((Has.new w20 37 #[.slice A20 P.opts.length c20, .bool P.doubt]).below hb (by simp)); have HS21 := Lib.hid ((HS20.out.below ((Below.refl _ _).alloc (Nat.le_refl _) (.cells #[.slice A20 P.opts.length c20, .bool P.doubt] 37))).below hb); have HB21 := Lib.hid ((HB20.out.alloc HB20.out.size (.cells #[.slice A20 P.opts.length c20, .bool P.doubt] 37)).trans (hb.mono (by have := HB20.out.size; simp; omega))); obtain ⟨x21, y21⟩ := HY21.out.facts; clear hb) | (go_at_call 13; (with_reducible show Calls _ _ #[.agg #[.slice _ _ _, _]] _ _); refine (HVY.out _ w21 HS21.out).mono ?_; rintro e w22 ⟨rfl, hb⟩; have HB22 := Lib.hid (HB21.out.trans (hb.mono HB21.out.size)); clear hb))
  refine bodyPost_ret (v := .bool true) (by simp [results, Tryd.results4, go_sem]) rfl ?_
  exact ⟨rfl, HB22.out⟩
set_option maxRecDepth 100000 in
set_option maxHeartbeats 8000000 in
theorem texts_ftf (va vb : Value) (a b : Rep) (s : ByteArray) (w : World) (ht : Tab w) (hv : Evs w) (hm : Mxl w) (hva : Sl w va a.opts.length 14 (evF a.opts)) (hvb : Sl w vb b.opts.length 14 (evF b.opts))
    (hsa : ∀ e ∈ a.opts, e.short) (hsb : ∀ e ∈ b.opts, e.short) (hla : a.opts.length ≤ 9223372036854775807) (hlb : b.opts.length ≤ 9223372036854775807) (hfew : fewB [a, b] 0 = true) (hs : s.size ≤ 3000) (hka : repOk a.opts = false) (hkb : repOk b.opts = true) (hkp : parseR s = (noRep, 8)) :
    Calls Tryd.prog 4 #[.agg #[va, .bool a.doubt], .agg #[vb, .bool b.doubt], .string s] w fun r w' => r = .returned (.bool true) ∧ Below w.heap.size w w' := by
  have HX1 : Hid (Has ((w.alloc (.cells #[va, .bool a.doubt] 37)).alloc (.cells #[vb, .bool b.doubt] 37)) w.heap.size 37 #[va, .bool a.doubt]) := (Has.new w _ _).alloc _
  have HX2 : Hid (Has ((w.alloc (.cells #[va, .bool a.doubt] 37)).alloc (.cells #[vb, .bool b.doubt] 37)) (w.heap.size + 1) 37 #[vb, .bool b.doubt]) := by
    have h := Has.new (w.alloc (.cells #[va, .bool a.doubt] 37)) 37 #[vb, .bool b.doubt]
    rwa [World.size_alloc] at h
  have HXB : Hid (Below w.heap.size w ((w.alloc (.cells #[va, .bool a.doubt] 37)).alloc (.cells #[vb, .bool b.doubt] 37))) := ((Below.refl _ _).alloc (Nat.le_refl _) _).alloc (by simp) _
  have HHD := Lib.hid (fun W (hb : Below w.heap.size w W) => head_any w ht W hb)
  have HVA := Lib.hid (fun W (hb : Below w.heap.size w W) => hva.below hb)
  have HVB := Lib.hid (fun W (hb : Below w.heap.size w W) => hvb.below hb)
  have HFW := Lib.hid (fun W (hb : Below w.heap.size w W) => few_any _ (.slice none 0 0) [a, b] 0 0 none (W.alloc (.cells #[va, .bool a.doubt, vb, .bool b.doubt] 37)) rfl (two_reps (hva.below hb) (hvb.below hb) 37) (by simp) (by intro r hr; simp only [List.mem_cons, List.not_mem_nil, or_false] at hr; rcases hr with rfl | rfl <;> assumption))
  have HFEW := Lib.hid hfew
  have hbig : (s.size : Int) ≤ 3000 := by omega
  obtain ⟨h6a, h6b⟩ := few_two hfew
  have HTA := Lib.hid (fun W (hb : Below w.heap.size w W) => repText_any va a w W ht hb (hva.below hb) hsa (by omega))
  have HTB := Lib.hid (fun W (hb : Below w.heap.size w W) => repText_any vb b w W ht hb (hvb.below hb) hsb (by omega))
  have HVD := Lib.hid (fun W (hb : Below w.heap.size w W) => repValid_any va a.opts a.doubt W (hva.below hb) hsa (by omega))
  have HPT := Lib.hid (fun W (hb : Below w.heap.size w W) => parseR_any s w W ht hv hm hb (by unfold maxLen; omega))
  rw [hka] at HTA HVD
  rw [hkb] at HTB
  simp only [if_true, Bool.false_eq_true, if_false] at HTA HTB
  rw [hkp] at HPT
  dsimp only at HPT
  have hno : (noRep.opts.length) = 0 := rfl
  clear hkp
  generalize textR b = tb at *
  clear hfew ht hv hm hva hvb hsa hsb hla hlb h6a h6b hs hka hkb HVA HVB
  go_enter Tryd.func4, Tryd.ntmps4
  go_wp2_with (first | (go_at_call 10; refine (HHD.out _ HXB.out).mono ?_; rintro e w4 ⟨rfl, hb⟩; have HX41 := Lib.hid (HX1.out.below hb HX1.out.lt); have HX42 := Lib.hid (HX2.out.below hb HX2.out.lt); have HB4 := Lib.hid (HXB.out.trans (hb.mono HXB.out.size)); obtain ⟨x41, y41⟩ := HX41.out.facts; obtain ⟨x42, y42⟩ := HX42.out.facts; clear hb) | (go_at_call 11; refine (HFW.out w4 HB4.out).mono ?_; rintro e w5 ⟨rfl, hb⟩; rw [HFEW.out]; have HX51 := Lib.hid ((HX41.out.alloc (.cells #[va, .bool a.doubt, vb, .bool b.doubt] 37)).below hb (by have := HX41.out.lt; simp; omega)); have HX52 := Lib.hid ((HX42.out.alloc (.cells #[va, .bool a.doubt, vb, .bool b.doubt] 37)).below hb (by have := HX42.out.lt; simp; omega)); have HB5 := Lib.hid ((HB4.out.alloc HB4.out.size (.cells #[va, .bool a.doubt, vb, .bool b.doubt] 37)).trans (hb.mono (by have := HB4.out.size; simp; omega))); obtain ⟨x51, y51⟩ := HX51.out.facts; obtain ⟨x52, y52⟩ := HX52.out.facts; clear hb x41 y41 x42 y42) | (go_at_call 12; (with_reducible show Calls _ _ #[.agg #[va, _]] _ _); refine (HTA.out w5 HB5.out).mono ?_; rintro e w6 ⟨rfl, hb⟩; have HX61 := Lib.hid (HX51.out.below hb HX51.out.lt); have HX62 := Lib.hid (HX52.out.below hb HX52.out.lt); have HB6 := Lib.hid (HB5.out.trans (hb.mono HB5.out.size)); obtain ⟨x61, y61⟩ := HX61.out.facts; obtain ⟨x62, y62⟩ := HX62.out.facts; clear hb x51 y51 x52 y52) | (go_at_call 12; (with_reducible show Calls _ _ #[.agg #[vb, _]] _ _); refine (HTB.out w6 HB6.out).mono ?_; rintro e w7 ⟨rfl, hb⟩; have HX71 := Lib.hid (HX61.out.below hb HX61.out.lt); have HX72 := Lib.hid (HX62.out.below hb HX62.out.lt); have HB7 := Lib.hid (HB6.out.trans (hb.mono HB6.out.size)); obtain ⟨x71, y71⟩ := HX71.out.facts; obtain ⟨x72, y72⟩ := HX72.out.facts; clear hb x61 y61 x62 y62) | (go_at_call 13; (with_reducible show Calls _ _ #[.agg #[va, _]] _ _); refine (HVD.out w7 HB7.out).mono ?_; rintro e w8 ⟨rfl, hb⟩; have HX81 := Lib.hid (HX71.out.below hb HX71.out.lt); have HX82 := Lib.hid (HX72.out.below hb HX72.out.lt); have HB8 := Lib.hid (HB7.out.trans (hb.mono HB7.out.size)); obtain ⟨x81, y81⟩ := HX81.out.facts; obtain ⟨x82, y82⟩ := HX82.out.facts; clear hb x71 y71 x72 y72) | (go_at_call 14; (with_reducible show Calls _ _ #[.string s] _ _); refine (HPT.out w8 HB8.out).mono ?_; rintro e w20 ⟨v20, rfl, hs20, hb⟩; obtain ⟨A20, c20, rfl, _⟩ := sl_len hs20; have HB20 := Lib.hid ((HB8.out.trans (hb.mono HB8.out.size)).alloc (by have h1 := hb.size; have h2 := HB8.out.size; omega) (.cells #[.slice A20 0 c20, .bool false] 37)); clear hb hs20 x81 y81 x82 y82))
  refine bodyPost_ret (v := .bool true) (by simp [results, Tryd.results4, go_sem]) rfl ?_
  exact ⟨rfl, HB20.out⟩
set_option maxRecDepth 100000 in
set_option maxHeartbeats 8000000 in
theorem texts_fft (va vb : Value) (a b : Rep) (s : ByteArray) (w : World) (ht : Tab w) (hv : Evs w) (hm : Mxl w) (hva : Sl w va a.opts.length 14 (evF a.opts)) (hvb : Sl w vb b.opts.length 14 (evF b.opts))
    (hsa : ∀ e ∈ a.opts, e.short) (hsb : ∀ e ∈ b.opts, e.short) (hla : a.opts.length ≤ 9223372036854775807) (hlb : b.opts.length ≤ 9223372036854775807) (hfew : fewB [a, b] 0 = true) (hs : s.size ≤ 3000) (hka : repOk a.opts = false) (hkb : repOk b.opts = false) (hkp : repOk (parseR s).1.opts = true ∧ textR (parseR s).1 = s ∧ (parseR s).2 = 0) :
    Calls Tryd.prog 4 #[.agg #[va, .bool a.doubt], .agg #[vb, .bool b.doubt], .string s] w fun r w' => r = .returned (.bool true) ∧ Below w.heap.size w w' := by
  have HX1 : Hid (Has ((w.alloc (.cells #[va, .bool a.doubt] 37)).alloc (.cells #[vb, .bool b.doubt] 37)) w.heap.size 37 #[va, .bool a.doubt]) := (Has.new w _ _).alloc _
  have HX2 : Hid (Has ((w.alloc (.cells #[va, .bool a.doubt] 37)).alloc (.cells #[vb, .bool b.doubt] 37)) (w.heap.size + 1) 37 #[vb, .bool b.doubt]) := by
    have h := Has.new (w.alloc (.cells #[va, .bool a.doubt] 37)) 37 #[vb, .bool b.doubt]
    rwa [World.size_alloc] at h
  have HXB : Hid (Below w.heap.size w ((w.alloc (.cells #[va, .bool a.doubt] 37)).alloc (.cells #[vb, .bool b.doubt] 37))) := ((Below.refl _ _).alloc (Nat.le_refl _) _).alloc (by simp) _
  have HHD := Lib.hid (fun W (hb : Below w.heap.size w W) => head_any w ht W hb)
  have HVA := Lib.hid (fun W (hb : Below w.heap.size w W) => hva.below hb)
  have HVB := Lib.hid (fun W (hb : Below w.heap.size w W) => hvb.below hb)
  have HFW := Lib.hid (fun W (hb : Below w.heap.size w W) => few_any _ (.slice none 0 0) [a, b] 0 0 none (W.alloc (.cells #[va, .bool a.doubt, vb, .bool b.doubt] 37)) rfl (two_reps (hva.below hb) (hvb.below hb) 37) (by simp) (by intro r hr; simp only [List.mem_cons, List.not_mem_nil, or_false] at hr; rcases hr with rfl | rfl <;> assumption))
  have HFEW := Lib.hid hfew
  have hbig : (s.size : Int) ≤ 3000 := by omega
  obtain ⟨h6a, h6b⟩ := few_two hfew
  have HTA := Lib.hid (fun W (hb : Below w.heap.size w W) => repText_any va a w W ht hb (hva.below hb) hsa (by omega))
  have HTB := Lib.hid (fun W (hb : Below w.heap.size w W) => repText_any vb b w W ht hb (hvb.below hb) hsb (by omega))
  have HVD := Lib.hid (fun W (hb : Below w.heap.size w W) => repValid_any va a.opts a.doubt W (hva.below hb) hsa (by omega))
  have HPT := Lib.hid (fun W (hb : Below w.heap.size w W) => parseR_any s w W ht hv hm hb (by unfold maxLen; omega))
  rw [hka] at HTA HVD
  rw [hkb] at HTB
  simp only [Bool.false_eq_true, if_false] at HTA HTB
  obtain ⟨hk1, hk2, hk3⟩ := hkp
  have hl4 := repOk_le hk1
  have hshort : ∀ e ∈ (parseR s).1.opts, e.short := parseR_short s
  rw [hk3] at HPT
  generalize (parseR s).1 = P at *
  have HTY := Lib.hid (fun v W (hb : Below w.heap.size w W) (hs : Sl W v P.opts.length 14 (evF P.opts)) => repText_any v P w W ht hb hs hshort (by omega))
  have HVY := Lib.hid (fun v W (hs : Sl W v P.opts.length 14 (evF P.opts)) => repValid_any v P.opts P.doubt W hs hshort (by omega))
  rw [hk1] at HTY HVY
  simp only [if_true] at HTY
  rw [hk2] at HTY
  clear hk1 hk2 hk3 hl4 hshort
  clear hfew ht hv hm hva hvb hsa hsb hla hlb h6a h6b hs hka hkb HVA HVB
  go_enter Tryd.func4, Tryd.ntmps4
  go_wp2_with (first | (go_at_call 10; refine (HHD.out _ HXB.out).mono ?_; rintro e w4 ⟨rfl, hb⟩; have HX41 := Lib.hid (HX1.out.below hb HX1.out.lt); have HX42 := Lib.hid (HX2.out.below hb HX2.out.lt); have HB4 := Lib.hid (HXB.out.trans (hb.mono HXB.out.size)); obtain ⟨x41, y41⟩ := HX41.out.facts; obtain ⟨x42, y42⟩ := HX42.out.facts; clear hb) | (go_at_call 11; refine (HFW.out w4 HB4.out).mono ?_; rintro e w5 ⟨rfl, hb⟩; rw [HFEW.out]; have HX51 := Lib.hid ((HX41.out.alloc (.cells #[va, .bool a.doubt, vb, .bool b.doubt] 37)).below hb (by have := HX41.out.lt; simp; omega)); have HX52 := Lib.hid ((HX42.out.alloc (.cells #[va, .bool a.doubt, vb, .bool b.doubt] 37)).below hb (by have := HX42.out.lt; simp; omega)); have HB5 := Lib.hid ((HB4.out.alloc HB4.out.size (.cells #[va, .bool a.doubt, vb, .bool b.doubt] 37)).trans (hb.mono (by have := HB4.out.size; simp; omega))); obtain ⟨x51, y51⟩ := HX51.out.facts; obtain ⟨x52, y52⟩ := HX52.out.facts; clear hb x41 y41 x42 y42) | (go_at_call 12; (with_reducible show Calls _ _ #[.agg #[va, _]] _ _); refine (HTA.out w5 HB5.out).mono ?_; rintro e w6 ⟨rfl, hb⟩; have HX61 := Lib.hid (HX51.out.below hb HX51.out.lt); have HX62 := Lib.hid (HX52.out.below hb HX52.out.lt); have HB6 := Lib.hid (HB5.out.trans (hb.mono HB5.out.size)); obtain ⟨x61, y61⟩ := HX61.out.facts; obtain ⟨x62, y62⟩ := HX62.out.facts; clear hb x51 y51 x52 y52) | (go_at_call 12; (with_reducible show Calls _ _ #[.agg #[vb, _]] _ _); refine (HTB.out w6 HB6.out).mono ?_; rintro e w7 ⟨rfl, hb⟩; have HX71 := Lib.hid (HX61.out.below hb HX61.out.lt); have HX72 := Lib.hid (HX62.out.below hb HX62.out.lt); have HB7 := Lib.hid (HB6.out.trans (hb.mono HB6.out.size)); obtain ⟨x71, y71⟩ := HX71.out.facts; obtain ⟨x72, y72⟩ := HX72.out.facts; clear hb x61 y61 x62 y62) | (go_at_call 13; (with_reducible show Calls _ _ #[.agg #[va, _]] _ _); refine (HVD.out w7 HB7.out).mono ?_; rintro e w8 ⟨rfl, hb⟩; have HX81 := Lib.hid (HX71.out.below hb HX71.out.lt); have HX82 := Lib.hid (HX72.out.below hb HX72.out.lt); have HB8 := Lib.hid (HB7.out.trans (hb.mono HB7.out.size)); obtain ⟨x81, y81⟩ := HX81.out.facts; obtain ⟨x82, y82⟩ := HX82.out.facts; clear hb x71 y71 x72 y72) | (go_at_call 14; (with_reducible show Calls _ _ #[.string s] _ _); refine (HPT.out w8 HB8.out).mono ?_; rintro e w20 ⟨v20, rfl, hs20, hb⟩; obtain ⟨A20, c20, rfl, _⟩ := sl_len hs20; have HS20 := Lib.hid hs20; have HB20 := Lib.hid (HB8.out.trans (hb.mono HB8.out.size)); clear hb hs20 x81 y81 x82 y82) | (go_at_call 12; (with_reducible show Calls _ _ #[.agg #[.slice _ _ _, _]] _ _); refine (HTY.out _ (w20.alloc (.cells #[.slice A20 P.opts.length c20, .bool P.doubt] 37)) (HB20.out.alloc HB20.out.size (.cells #[.slice A20 P.opts.length c20, .bool P.doubt] 37)) (HS20.out.below ((Below.refl _ _).alloc (Nat.le_refl _) (.cells #[.slice A20 P.opts.length c20, .bool P.doubt] 37)))).mono ?_; rintro e w21 ⟨rfl, hb⟩; have HY21 := Lib.hid ((Has.new w20 37 #[.slice A20 P.opts.length c20, .bool P.doubt]).below hb (by simp)); have HS21 := Lib.hid ((HS20.out.below ((Below.refl _ _).alloc (Nat.le_refl _) (.cells #[.slice A20 P.opts.length c20, .bool P.doubt] 37))).below hb); have HB21 := Lib.hid ((HB20.out.alloc HB20.out.size (.cells #[.slice A20 P.opts.length c20, .bool P.doubt] 37)).trans (hb.mono (by have := HB20.out.size; simp; omega))); obtain ⟨x21, y21⟩ := HY21.out.facts; clear hb) | (go_at_call 13; (with_reducible show Calls _ _ #[.agg #[.slice _ _ _, _]] _ _); refine (HVY.out _ w21 HS21.out).mono ?_; rintro e w22 ⟨rfl, hb⟩; have HB22 := Lib.hid (HB21.out.trans (hb.mono HB21.out.size)); clear hb))
  refine bodyPost_ret (v := .bool true) (by simp [results, Tryd.results4, go_sem]) rfl ?_
  exact ⟨rfl, HB22.out⟩
set_option maxRecDepth 100000 in
set_option maxHeartbeats 8000000 in
theorem texts_fff (va vb : Value) (a b : Rep) (s : ByteArray) (w : World) (ht : Tab w) (hv : Evs w) (hm : Mxl w) (hva : Sl w va a.opts.length 14 (evF a.opts)) (hvb : Sl w vb b.opts.length 14 (evF b.opts))
    (hsa : ∀ e ∈ a.opts, e.short) (hsb : ∀ e ∈ b.opts, e.short) (hla : a.opts.length ≤ 9223372036854775807) (hlb : b.opts.length ≤ 9223372036854775807) (hfew : fewB [a, b] 0 = true) (hs : s.size ≤ 3000) (hka : repOk a.opts = false) (hkb : repOk b.opts = false) (hkp : parseR s = (noRep, 8)) :
    Calls Tryd.prog 4 #[.agg #[va, .bool a.doubt], .agg #[vb, .bool b.doubt], .string s] w fun r w' => r = .returned (.bool true) ∧ Below w.heap.size w w' := by
  have HX1 : Hid (Has ((w.alloc (.cells #[va, .bool a.doubt] 37)).alloc (.cells #[vb, .bool b.doubt] 37)) w.heap.size 37 #[va, .bool a.doubt]) := (Has.new w _ _).alloc _
  have HX2 : Hid (Has ((w.alloc (.cells #[va, .bool a.doubt] 37)).alloc (.cells #[vb, .bool b.doubt] 37)) (w.heap.size + 1) 37 #[vb, .bool b.doubt]) := by
    have h := Has.new (w.alloc (.cells #[va, .bool a.doubt] 37)) 37 #[vb, .bool b.doubt]
    rwa [World.size_alloc] at h
  have HXB : Hid (Below w.heap.size w ((w.alloc (.cells #[va, .bool a.doubt] 37)).alloc (.cells #[vb, .bool b.doubt] 37))) := ((Below.refl _ _).alloc (Nat.le_refl _) _).alloc (by simp) _
  have HHD := Lib.hid (fun W (hb : Below w.heap.size w W) => head_any w ht W hb)
  have HVA := Lib.hid (fun W (hb : Below w.heap.size w W) => hva.below hb)
  have HVB := Lib.hid (fun W (hb : Below w.heap.size w W) => hvb.below hb)
  have HFW := Lib.hid (fun W (hb : Below w.heap.size w W) => few_any _ (.slice none 0 0) [a, b] 0 0 none (W.alloc (.cells #[va, .bool a.doubt, vb, .bool b.doubt] 37)) rfl (two_reps (hva.below hb) (hvb.below hb) 37) (by simp) (by intro r hr; simp only [List.mem_cons, List.not_mem_nil, or_false] at hr; rcases hr with rfl | rfl <;> assumption))
  have HFEW := Lib.hid hfew
  have hbig : (s.size : Int) ≤ 3000 := by omega
  obtain ⟨h6a, h6b⟩ := few_two hfew
  have HTA := Lib.hid (fun W (hb : Below w.heap.size w W) => repText_any va a w W ht hb (hva.below hb) hsa (by omega))
  have HTB := Lib.hid (fun W (hb : Below w.heap.size w W) => repText_any vb b w W ht hb (hvb.below hb) hsb (by omega))
  have HVD := Lib.hid (fun W (hb : Below w.heap.size w W) => repValid_any va a.opts a.doubt W (hva.below hb) hsa (by omega))
  have HPT := Lib.hid (fun W (hb : Below w.heap.size w W) => parseR_any s w W ht hv hm hb (by unfold maxLen; omega))
  rw [hka] at HTA HVD
  rw [hkb] at HTB
  simp only [Bool.false_eq_true, if_false] at HTA HTB
  rw [hkp] at HPT
  dsimp only at HPT
  have hno : (noRep.opts.length) = 0 := rfl
  clear hkp
  clear hfew ht hv hm hva hvb hsa hsb hla hlb h6a h6b hs hka hkb HVA HVB
  go_enter Tryd.func4, Tryd.ntmps4
  go_wp2_with (first | (go_at_call 10; refine (HHD.out _ HXB.out).mono ?_; rintro e w4 ⟨rfl, hb⟩; have HX41 := Lib.hid (HX1.out.below hb HX1.out.lt); have HX42 := Lib.hid (HX2.out.below hb HX2.out.lt); have HB4 := Lib.hid (HXB.out.trans (hb.mono HXB.out.size)); obtain ⟨x41, y41⟩ := HX41.out.facts; obtain ⟨x42, y42⟩ := HX42.out.facts; clear hb) | (go_at_call 11; refine (HFW.out w4 HB4.out).mono ?_; rintro e w5 ⟨rfl, hb⟩; rw [HFEW.out]; have HX51 := Lib.hid ((HX41.out.alloc (.cells #[va, .bool a.doubt, vb, .bool b.doubt] 37)).below hb (by have := HX41.out.lt; simp; omega)); have HX52 := Lib.hid ((HX42.out.alloc (.cells #[va, .bool a.doubt, vb, .bool b.doubt] 37)).below hb (by have := HX42.out.lt; simp; omega)); have HB5 := Lib.hid ((HB4.out.alloc HB4.out.size (.cells #[va, .bool a.doubt, vb, .bool b.doubt] 37)).trans (hb.mono (by have := HB4.out.size; simp; omega))); obtain ⟨x51, y51⟩ := HX51.out.facts; obtain ⟨x52, y52⟩ := HX52.out.facts; clear hb x41 y41 x42 y42) | (go_at_call 12; (with_reducible show Calls _ _ #[.agg #[va, _]] _ _); refine (HTA.out w5 HB5.out).mono ?_; rintro e w6 ⟨rfl, hb⟩; have HX61 := Lib.hid (HX51.out.below hb HX51.out.lt); have HX62 := Lib.hid (HX52.out.below hb HX52.out.lt); have HB6 := Lib.hid (HB5.out.trans (hb.mono HB5.out.size)); obtain ⟨x61, y61⟩ := HX61.out.facts; obtain ⟨x62, y62⟩ := HX62.out.facts; clear hb x51 y51 x52 y52) | (go_at_call 12; (with_reducible show Calls _ _ #[.agg #[vb, _]] _ _); refine (HTB.out w6 HB6.out).mono ?_; rintro e w7 ⟨rfl, hb⟩; have HX71 := Lib.hid (HX61.out.below hb HX61.out.lt); have HX72 := Lib.hid (HX62.out.below hb HX62.out.lt); have HB7 := Lib.hid (HB6.out.trans (hb.mono HB6.out.size)); obtain ⟨x71, y71⟩ := HX71.out.facts; obtain ⟨x72, y72⟩ := HX72.out.facts; clear hb x61 y61 x62 y62) | (go_at_call 13; (with_reducible show Calls _ _ #[.agg #[va, _]] _ _); refine (HVD.out w7 HB7.out).mono ?_; rintro e w8 ⟨rfl, hb⟩; have HX81 := Lib.hid (HX71.out.below hb HX71.out.lt); have HX82 := Lib.hid (HX72.out.below hb HX72.out.lt); have HB8 := Lib.hid (HB7.out.trans (hb.mono HB7.out.size)); obtain ⟨x81, y81⟩ := HX81.out.facts; obtain ⟨x82, y82⟩ := HX82.out.facts; clear hb x71 y71 x72 y72) | (go_at_call 14; (with_reducible show Calls _ _ #[.string s] _ _); refine (HPT.out w8 HB8.out).mono ?_; rintro e w20 ⟨v20, rfl, hs20, hb⟩; obtain ⟨A20, c20, rfl, _⟩ := sl_len hs20; have HB20 := Lib.hid ((HB8.out.trans (hb.mono HB8.out.size)).alloc (by have h1 := hb.size; have h2 := HB8.out.size; omega) (.cells #[.slice A20 0 c20, .bool false] 37)); clear hb hs20 x81 y81 x82 y82))
  refine bodyPost_ret (v := .bool true) (by simp [results, Tryd.results4, go_sem]) rfl ?_
  exact ⟨rfl, HB20.out⟩
theorem texts_any (va vb : Value) (a b : Rep) (s : ByteArray) (w : World) (ht : Tab w) (hv : Evs w) (hm : Mxl w) (hva : Sl w va a.opts.length 14 (evF a.opts)) (hvb : Sl w vb b.opts.length 14 (evF b.opts))
    (hsa : ∀ e ∈ a.opts, e.short) (hsb : ∀ e ∈ b.opts, e.short) (hla : a.opts.length ≤ 9223372036854775807) (hlb : b.opts.length ≤ 9223372036854775807) :
    Calls Tryd.prog 4 #[.agg #[va, .bool a.doubt], .agg #[vb, .bool b.doubt], .string s] w fun r w' => r = .returned (.bool true) ∧ Below w.heap.size w w' := by
  cases hf : fewB [a, b] 0 with
  | false => exact texts_few va vb a b s w ht hv hm hva hvb hsa hsb hla hlb hf
  | true =>
    by_cases hs : 3000 < s.size
    · exact texts_big va vb a b s w ht hv hm hva hvb hsa hsb hla hlb hf hs
    · have hs : s.size ≤ 3000 := by omega
      have hp : (repOk (parseR s).1.opts = true ∧ textR (parseR s).1 = s ∧ (parseR s).2 = 0) ∨ parseR s = (noRep, 8) := by
        rcases parseR_only s with ⟨h1, h2, h3⟩ | h | ⟨_, h⟩
        · exact .inl ⟨h2, h3, h1⟩
        · exact .inr h
        · omega
      rcases hp with hp | hp <;> cases ha : repOk a.opts <;> cases hb : repOk b.opts
      · exact texts_fft va vb a b s w ht hv hm hva hvb hsa hsb hla hlb hf hs ha hb hp
      · exact texts_ftt va vb a b s w ht hv hm hva hvb hsa hsb hla hlb hf hs ha hb hp
      · exact texts_tft va vb a b s w ht hv hm hva hvb hsa hsb hla hlb hf hs ha hb hp
      · exact texts_ttt va vb a b s w ht hv hm hva hvb hsa hsb hla hlb hf hs ha hb hp
      · exact texts_fff va vb a b s w ht hv hm hva hvb hsa hsb hla hlb hf hs ha hb hp
      · exact texts_ftf va vb a b s w ht hv hm hva hvb hsa hsb hla hlb hf hs ha hb hp
      · exact texts_tff va vb a b s w ht hv hm hva hvb hsa hsb hla hlb hf hs ha hb hp
      · exact texts_ttf va vb a b s w ht hv hm hva hvb hsa hsb hla hlb hf hs ha hb hp
end Go.Proofs.YtjlpllnhefafkaaDoor
