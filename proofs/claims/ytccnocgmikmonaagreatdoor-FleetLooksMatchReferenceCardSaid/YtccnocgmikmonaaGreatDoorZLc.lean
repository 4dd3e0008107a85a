/- The walk of bogielaw10.FleetLooksMatchReference. Condition: the table of powers of ten. -/
import Derived.Test.YtccnocgmikmonaaGreatDoorZDe
import Derived.Test.YtccnocgmikmonaaGreatDoorZLb
namespace Go.Proofs.YtccnocgmikmonaaGreatDoor
open Go Go.RowKit
set_option maxRecDepth 100000 in
set_option maxHeartbeats 16000000 in
theorem looks_1 (v1 v2 : Value) (l m : List Pa) (name : ByteArray) (w : World) (_ht : Tab w) (h1 : Sta w v1 l) (h2 : Sta w v2 m) (hl : l.length ≤ maxLen) (hm : m.length ≤ maxLen) (hpl : ∀ p ∈ l, p.wide) (hpm : ∀ p ∈ m, p.wide) (_hil : ∀ p ∈ l, p.i64) (_hna : name.size ≤ maxLen) (hfl : fewSt l 20 = false) :
    Calls Tryz.prog 3 #[.agg #[v1], .agg #[v2], .string name] w fun e w' => e = .returned (.bool true) ∧ Below w.heap.size w w' := by
  obtain ⟨A1, c1, rfl, _⟩ := Rd.form h1
  obtain ⟨A2, c2, rfl, _⟩ := Rd.form h2
  have hB0 := ((Below.refl w.heap.size w).alloc (Nat.le_refl _) (.cells #[.slice A1 l.length c1] 24)).alloc (by simp) (.cells #[.slice A2 m.length c2] 24)
  have k1 := (Has.new w 24 #[.slice A1 l.length c1]).alloc (.cells #[.slice A2 m.length c2] 24)
  have k2 := Has.new (w.alloc (.cells #[.slice A1 l.length c1] 24)) 24 #[.slice A2 m.length c2]
  rw [World.size_alloc] at k2
  have HT0 : Hid (TwB w #[.slice A1 l.length c1] #[.slice A2 m.length c2] ((w.alloc (.cells #[.slice A1 l.length c1] 24)).alloc (.cells #[.slice A2 m.length c2] 24))) := ⟨k1, k2, hB0⟩
  have HFL := Lib.hid (fun W (h : Below w.heap.size w W) => few10_any w _ l 20 W h h1 hl hpl)
  have HFM := Lib.hid (fun W (h : Below w.heap.size w W) => few10_any w _ m 20 W h h2 hm hpm)
  have HA := Lib.hid hfl
  clear hfl k1 k2 hB0 h1 h2 hpl hpm _hil _ht
  go_enter Tryz.func3, Tryz.ntmps3
  go_wp2_with (first | (go_at_call 5; refine (head_any _).mono ?_; rintro e w1 ⟨rfl, hb1⟩; have HT1 := Lib.hid (HT0.out.below hb1); obtain ⟨p1, p2⟩ := HT1.out.s.facts; obtain ⟨p3, p4⟩ := HT1.out.t.facts; clear hb1) | (go_at_call 6; refine (HFL.out _ HT1.out.b).mono ?_; clear HFL; rintro e w2 ⟨rfl, hb2⟩; rw [HA.out]; have HT2 := Lib.hid (HT1.out.below hb2); obtain ⟨q2a, q2b⟩ := HT2.out.s.facts; obtain ⟨q2c, q2d⟩ := HT2.out.t.facts; clear hb2))
  go_ret
  exact ⟨rfl, HT2.out.b⟩
set_option maxRecDepth 100000 in
set_option maxHeartbeats 16000000 in
theorem looks_2 (v1 v2 : Value) (l m : List Pa) (name : ByteArray) (w : World) (_ht : Tab w) (h1 : Sta w v1 l) (h2 : Sta w v2 m) (hl : l.length ≤ maxLen) (hm : m.length ≤ maxLen) (hpl : ∀ p ∈ l, p.wide) (hpm : ∀ p ∈ m, p.wide) (_hil : ∀ p ∈ l, p.i64) (_hna : name.size ≤ maxLen) (hfl : fewSt l 20 = true) (hfm : fewSt m 20 = false) :
    Calls Tryz.prog 3 #[.agg #[v1], .agg #[v2], .string name] w fun e w' => e = .returned (.bool true) ∧ Below w.heap.size w w' := by
  obtain ⟨A1, c1, rfl, _⟩ := Rd.form h1
  obtain ⟨A2, c2, rfl, _⟩ := Rd.form h2
  have hB0 := ((Below.refl w.heap.size w).alloc (Nat.le_refl _) (.cells #[.slice A1 l.length c1] 24)).alloc (by simp) (.cells #[.slice A2 m.length c2] 24)
  have k1 := (Has.new w 24 #[.slice A1 l.length c1]).alloc (.cells #[.slice A2 m.length c2] 24)
  have k2 := Has.new (w.alloc (.cells #[.slice A1 l.length c1] 24)) 24 #[.slice A2 m.length c2]
  rw [World.size_alloc] at k2
  have HT0 : Hid (TwB w #[.slice A1 l.length c1] #[.slice A2 m.length c2] ((w.alloc (.cells #[.slice A1 l.length c1] 24)).alloc (.cells #[.slice A2 m.length c2] 24))) := ⟨k1, k2, hB0⟩
  have HFL := Lib.hid (fun W (h : Below w.heap.size w W) => few10_any w _ l 20 W h h1 hl hpl)
  have HFM := Lib.hid (fun W (h : Below w.heap.size w W) => few10_any w _ m 20 W h h2 hm hpm)
  have HA := Lib.hid hfl
  have HC := Lib.hid hfm
  clear hfl hfm k1 k2 hB0 h1 h2 hpl hpm _hil _ht
  go_enter Tryz.func3, Tryz.ntmps3
  go_wp2_with (first | (go_at_call 5; refine (head_any _).mono ?_; rintro e w1 ⟨rfl, hb1⟩; have HT1 := Lib.hid (HT0.out.below hb1); obtain ⟨p1, p2⟩ := HT1.out.s.facts; obtain ⟨p3, p4⟩ := HT1.out.t.facts; clear hb1) | (go_at_call 6; refine (HFL.out _ HT1.out.b).mono ?_; clear HFL; rintro e w2 ⟨rfl, hb2⟩; rw [HA.out]; have HT2 := Lib.hid (HT1.out.below hb2); obtain ⟨q2a, q2b⟩ := HT2.out.s.facts; obtain ⟨q2c, q2d⟩ := HT2.out.t.facts; clear hb2) | (go_at_call 6; refine (HFM.out _ HT2.out.b).mono ?_; clear HFM; rintro e w3 ⟨rfl, hb3⟩; rw [HC.out]; have HT3 := Lib.hid (HT2.out.below hb3); obtain ⟨q3a, q3b⟩ := HT3.out.s.facts; obtain ⟨q3c, q3d⟩ := HT3.out.t.facts; clear hb3))
  go_ret
  exact ⟨rfl, HT3.out.b⟩
set_option maxRecDepth 100000 in
set_option maxHeartbeats 16000000 in
theorem looks_3 (v1 v2 : Value) (l m : List Pa) (name : ByteArray) (w : World) (_ht : Tab w) (h1 : Sta w v1 l) (h2 : Sta w v2 m) (hl : l.length ≤ maxLen) (hm : m.length ≤ maxLen) (hpl : ∀ p ∈ l, p.wide) (hpm : ∀ p ∈ m, p.wide) (_hil : ∀ p ∈ l, p.i64) (_hna : name.size ≤ maxLen) (hfl : fewSt l 20 = true) (hfm : fewSt m 20 = true) (hns : 300 < name.size) :
    Calls Tryz.prog 3 #[.agg #[v1], .agg #[v2], .string name] w fun e w' => e = .returned (.bool true) ∧ Below w.heap.size w w' := by
  obtain ⟨A1, c1, rfl, _⟩ := Rd.form h1
  obtain ⟨A2, c2, rfl, _⟩ := Rd.form h2
  have hB0 := ((Below.refl w.heap.size w).alloc (Nat.le_refl _) (.cells #[.slice A1 l.length c1] 24)).alloc (by simp) (.cells #[.slice A2 m.length c2] 24)
  have k1 := (Has.new w 24 #[.slice A1 l.length c1]).alloc (.cells #[.slice A2 m.length c2] 24)
  have k2 := Has.new (w.alloc (.cells #[.slice A1 l.length c1] 24)) 24 #[.slice A2 m.length c2]
  rw [World.size_alloc] at k2
  have HT0 : Hid (TwB w #[.slice A1 l.length c1] #[.slice A2 m.length c2] ((w.alloc (.cells #[.slice A1 l.length c1] 24)).alloc (.cells #[.slice A2 m.length c2] 24))) := ⟨k1, k2, hB0⟩
  have HFL := Lib.hid (fun W (h : Below w.heap.size w W) => few10_any w _ l 20 W h h1 hl hpl)
  have HFM := Lib.hid (fun W (h : Below w.heap.size w W) => few10_any w _ m 20 W h h2 hm hpm)
  have HA := Lib.hid hfl
  have HC := Lib.hid hfm
  have hnI : (300 : Int) < (name.size : Int) := by omega
  clear hfl hfm hns k1 k2 hB0 h1 h2 hpl hpm _hil _ht
  go_enter Tryz.func3, Tryz.ntmps3
  go_wp2_with (first | (go_at_call 5; refine (head_any _).mono ?_; rintro e w1 ⟨rfl, hb1⟩; have HT1 := Lib.hid (HT0.out.below hb1); obtain ⟨p1, p2⟩ := HT1.out.s.facts; obtain ⟨p3, p4⟩ := HT1.out.t.facts; clear hb1) | (go_at_call 6; refine (HFL.out _ HT1.out.b).mono ?_; clear HFL; rintro e w2 ⟨rfl, hb2⟩; rw [HA.out]; have HT2 := Lib.hid (HT1.out.below hb2); obtain ⟨q2a, q2b⟩ := HT2.out.s.facts; obtain ⟨q2c, q2d⟩ := HT2.out.t.facts; clear hb2) | (go_at_call 6; refine (HFM.out _ HT2.out.b).mono ?_; clear HFM; rintro e w3 ⟨rfl, hb3⟩; rw [HC.out]; have HT3 := Lib.hid (HT2.out.below hb3); obtain ⟨q3a, q3b⟩ := HT3.out.s.facts; obtain ⟨q3c, q3d⟩ := HT3.out.t.facts; clear hb3))
  go_ret
  exact ⟨rfl, HT3.out.b⟩
theorem TwB.alloc {w W : World} {s t : Array Value} (h : TwB w s t W) (o : Obj) : TwB w s t (W.alloc o) := h.below ((Below.refl _ _).alloc (Nat.le_refl _) o)
theorem rd_pr {w W : World} {v : Value} {l : List Pr} (h : Rd 2 PrR w v l) (hb : Below w.heap.size w W) : Rd 2 PrR W v l := Rd.below PrR.stays h hb
theorem ins_len {l : List Pa} {a : ByteArray} (h : l.length ≤ 1000000) : (insR l a).length ≤ 1000000 := by
  unfold insR
  split
  · exact Nat.zero_le _
  · have := insTo_len l a l.length (Nat.le_refl _); omega
theorem few_len {l : List Pa} (h : fewSt l 20 = true) : l.length ≤ 20 := by
  unfold fewSt at h
  simp only [Bool.and_eq_true, decide_eq_true_eq] at h
  exact h.1
theorem few_props {l : List Pa} (h : fewSt l 20 = true) : ∀ p ∈ l, p.props.length ≤ 100000 := fun p hp => by
  unfold fewSt at h
  simp only [Bool.and_eq_true, List.all_eq_true] at h
  have := (few_part (h.2 p hp)).2.1
  omega
set_option maxRecDepth 100000 in
set_option maxHeartbeats 16000000 in
theorem looks_4 (v1 v2 : Value) (l m : List Pa) (name : ByteArray) (w : World) (ht : Tab w) (h1 : Sta w v1 l) (h2 : Sta w v2 m) (hl : l.length ≤ maxLen) (hm : m.length ≤ maxLen) (hpl : ∀ p ∈ l, p.wide) (hpm : ∀ p ∈ m, p.wide) (hil : ∀ p ∈ l, p.i64) (_hna : name.size ≤ maxLen) (hfl : fewSt l 20 = true) (hfm : fewSt m 20 = true) (hns : ¬ 300 < name.size) :
    Calls Tryz.prog 3 #[.agg #[v1], .agg #[v2], .string name] w fun e w' => e = .returned (.bool true) ∧ Below w.heap.size w w' := by
  obtain ⟨A1, c1, rfl, _⟩ := Rd.form h1
  obtain ⟨A2, c2, rfl, _⟩ := Rd.form h2
  have hB0 := ((Below.refl w.heap.size w).alloc (Nat.le_refl _) (.cells #[.slice A1 l.length c1] 24)).alloc (by simp) (.cells #[.slice A2 m.length c2] 24)
  have k1 := (Has.new w 24 #[.slice A1 l.length c1]).alloc (.cells #[.slice A2 m.length c2] 24)
  have k2 := Has.new (w.alloc (.cells #[.slice A1 l.length c1] 24)) 24 #[.slice A2 m.length c2]
  rw [World.size_alloc] at k2
  have HT0 : Hid (TwB w #[.slice A1 l.length c1] #[.slice A2 m.length c2] ((w.alloc (.cells #[.slice A1 l.length c1] 24)).alloc (.cells #[.slice A2 m.length c2] 24))) := ⟨k1, k2, hB0⟩
  have HFL := Lib.hid (fun W (h : Below w.heap.size w W) => few10_any w _ l 20 W h h1 hl hpl)
  have HFM := Lib.hid (fun W (h : Below w.heap.size w W) => few10_any w _ m 20 W h h2 hm hpm)
  obtain ⟨nl1, nl2, nl3, nl4⟩ := fields_few (l := l) hfl hil
  have hm20 := few_len hfm
  have hm65 := few_props hfm
  have HF1 := Lib.hid (fun W (h : Below w.heap.size w W) => fpart_any w _ l name W h h1 (by omega))
  have HF2 := Lib.hid (fun W (h : Below w.heap.size w W) => refFind10_any w _ l name W h h1 (by omega))
  have HR1 := Lib.hid (fun W (h : Below w.heap.size w W) => root_any w _ l name W h h1 (by omega))
  have HR2 := Lib.hid (fun W (h : Below w.heap.size w W) => refRoot_any w _ l name W h h1 (by omega))
  have HI1 := Lib.hid (fun W (h : Below w.heap.size w W) => inside_any w _ l name W h h1 (by omega))
  have HI2 := Lib.hid (fun W (h : Below w.heap.size w W) => refInside_any w _ l name W h h1 (by omega))
  have HS1 := Lib.hid (fun W (h : Below w.heap.size w W) => fsame_any w l m _ _ W h h1 h2 (by omega) nl3)
  have HS2 := Lib.hid (fun W (h : Below w.heap.size w W) => same10_any w _ _ l m W h h1 h2 (by omega) (by omega) nl3 hm65)
  have HD1 := Lib.hid (fun W (h : Below w.heap.size w W) => digest_any w ht _ l W h h1 hil nl1 nl2 nl3 (by omega))
  have HD2 := Lib.hid (fun W (h : Below w.heap.size w W) => refDigest_any w _ l W h h1 hil nl1 nl2 nl3 (by omega))
  have hpp : ((pfind l name).getD noPa).props.length ≤ 100000 := by
    cases hf : pfind l name with
    | none => exact Nat.zero_le _
    | some p => exact nl3 p (pfind_mem hf).1
  have HIR := Lib.hid (fun (ss : List ByteArray) (h : ss.map (fun s : ByteArray => s.data.toList) = insL l name) => inside_ref h)
  have HSM := Lib.hid (fun v v' w (h : Sl w v (insR l name).length 1 (strF (insR l name))) (h' : Sl w v' (insR l name).length 1 (strF (insR l name))) => refSameL_any v v' (insR l name) w h h' (ins_len (by omega)))
  have HA := Lib.hid hfl
  have HC := Lib.hid hfm
  have hnI : ¬ (300 : Int) < (name.size : Int) := by omega
  clear hns hfl hfm
  generalize hp : (pfind l name).getD noPa = p at *
  generalize (pfind l name).isSome = is at *
  generalize rootL l name = R at *
  generalize digestB l = DL at *
  clear hp
  obtain ⟨pname, pkind, pinto, pslot, pmade, psince, pgone, pprops, pkl, pkh, pcl, pch, pdl, pdh⟩ := p
  dsimp only at hpp HF1 HF2
  clear k1 k2 hB0 h1 h2 hpl hpm hil ht nl1 nl2 nl3 nl4 hm20 hm65
  go_enter Tryz.func3, Tryz.ntmps3
  go_wp2_with (first | (go_at_call 5; refine (head_any _).mono ?_; rintro e w1 ⟨rfl, hb1⟩; have HT1 := Lib.hid (HT0.out.below hb1); obtain ⟨p1, p2⟩ := HT1.out.s.facts; obtain ⟨p3, p4⟩ := HT1.out.t.facts; clear hb1) | (go_at_call 6; refine (HFL.out _ HT1.out.b).mono ?_; clear HFL; rintro e w2 ⟨rfl, hb2⟩; rw [HA.out]; have HT2 := Lib.hid (HT1.out.below hb2); obtain ⟨q2a, q2b⟩ := HT2.out.s.facts; obtain ⟨q2c, q2d⟩ := HT2.out.t.facts; clear hb2) | (go_at_call 6; refine (HFM.out _ HT2.out.b).mono ?_; clear HFM; rintro e w3 ⟨rfl, hb3⟩; rw [HC.out]; have HT3 := Lib.hid (HT2.out.below hb3); obtain ⟨q3a, q3b⟩ := HT3.out.s.facts; obtain ⟨q3c, q3d⟩ := HT3.out.t.facts; clear hb3) | (go_at_call 7; refine (HF1.out _ HT3.out.b).mono ?_; clear HF1; rintro e w4 ⟨B1, d1, rfl, hr4, hb4⟩; have HQ1 := Lib.hid hr4; have HT4 := Lib.hid ((HT3.out.below hb4).alloc (.cells #[.string pname, .string pkind, .string pinto, .string pslot, .int .i64 pmade, .int .i64 psince, .bool pgone, .slice B1 pprops.length d1, .int .i64 pkl, .int .i64 pkh, .int .i64 pcl, .int .i64 pch, .int .i64 pdl, .int .i64 pdh] 33)); have HP4 := Lib.hid (Has.new w4 33 #[.string pname, .string pkind, .string pinto, .string pslot, .int .i64 pmade, .int .i64 psince, .bool pgone, .slice B1 pprops.length d1, .int .i64 pkl, .int .i64 pkh, .int .i64 pcl, .int .i64 pch, .int .i64 pdl, .int .i64 pdh]); obtain ⟨q4a, q4b⟩ := HT4.out.s.facts; obtain ⟨q4c, q4d⟩ := HT4.out.t.facts; clear hb4 hr4) | (go_at_call 8; refine (HF2.out _ HT4.out.b).mono ?_; clear HF2; rintro e w5 ⟨B2, d2, rfl, hr5, hb5⟩; have HQ2 := Lib.hid hr5; have HT5 := Lib.hid ((HT4.out.below hb5).alloc (.cells #[.string pname, .string pkind, .string pinto, .string pslot, .int .i64 pmade, .int .i64 psince, .bool pgone, .slice B2 pprops.length d2, .int .i64 pkl, .int .i64 pkh, .int .i64 pcl, .int .i64 pch, .int .i64 pdl, .int .i64 pdh] 33)); have HP5 := Lib.hid ((HP4.out.below hb5 HP4.out.lt).alloc (.cells #[.string pname, .string pkind, .string pinto, .string pslot, .int .i64 pmade, .int .i64 psince, .bool pgone, .slice B2 pprops.length d2, .int .i64 pkl, .int .i64 pkh, .int .i64 pcl, .int .i64 pch, .int .i64 pdl, .int .i64 pdh] 33)); have HU5 := Lib.hid (Has.new w5 33 #[.string pname, .string pkind, .string pinto, .string pslot, .int .i64 pmade, .int .i64 psince, .bool pgone, .slice B2 pprops.length d2, .int .i64 pkl, .int .i64 pkh, .int .i64 pcl, .int .i64 pch, .int .i64 pdl, .int .i64 pdh]); obtain ⟨q5a, q5b⟩ := HT5.out.s.facts; obtain ⟨q5c, q5d⟩ := HT5.out.t.facts; clear hb5 hr5))
  go_cut [12] from 40 to 65 (fun a wc => a = .bool true ∧ Hid (TwB w #[.slice A1 l.length c1] #[.slice A2 m.length c2] wc))
  case first =>
    have HK := Lib.hid (fun W (h : TwB w #[.slice A1 l.length c1] #[.slice A2 m.length c2] W) (h2 : Has W w4.heap.size 33 #[.string pname, .string pkind, .string pinto, .string pslot, .int .i64 pmade, .int .i64 psince, .bool pgone, .slice B1 pprops.length d1, .int .i64 pkl, .int .i64 pkh, .int .i64 pcl, .int .i64 pch, .int .i64 pdl, .int .i64 pdh]) (h3 : Has W w5.heap.size 33 #[.string pname, .string pkind, .string pinto, .string pslot, .int .i64 pmade, .int .i64 psince, .bool pgone, .slice B2 pprops.length d2, .int .i64 pkl, .int .i64 pkh, .int .i64 pcl, .int .i64 pch, .int .i64 pdl, .int .i64 pdh]) => (⟨h.s.facts.1 0, has_range h2, has_range h3⟩ : (fun W => W.cell? ⟨w.heap.size, 0, none⟩ = some (.slice A1 l.length c1) ∧ W.rangeAt w4.heap.size 0 [.string pname, .string pkind, .string pinto, .string pslot, .int .i64 pmade, .int .i64 psince, .bool pgone, .slice B1 pprops.length d1, .int .i64 pkl, .int .i64 pkh, .int .i64 pcl, .int .i64 pch, .int .i64 pdl, .int .i64 pdh] ∧ W.rangeAt w5.heap.size 0 [.string pname, .string pkind, .string pinto, .string pslot, .int .i64 pmade, .int .i64 psince, .bool pgone, .slice B2 pprops.length d2, .int .i64 pkl, .int .i64 pkh, .int .i64 pcl, .int .i64 pch, .int .i64 pdl, .int .i64 pdh]) W))
    refine wp_region_held_drew (S := fun W => W.cell? ⟨w.heap.size, 0, none⟩ = some (.slice A1 l.length c1) ∧ W.rangeAt w4.heap.size 0 [.string pname, .string pkind, .string pinto, .string pslot, .int .i64 pmade, .int .i64 psince, .bool pgone, .slice B1 pprops.length d1, .int .i64 pkl, .int .i64 pkh, .int .i64 pcl, .int .i64 pch, .int .i64 pdl, .int .i64 pdh] ∧ W.rangeAt w5.heap.size 0 [.string pname, .string pkind, .string pinto, .string pslot, .int .i64 pmade, .int .i64 psince, .bool pgone, .slice B2 pprops.length d2, .int .i64 pkl, .int .i64 pkh, .int .i64 pcl, .int .i64 pch, .int .i64 pdl, .int .i64 pdh]) (by kernel_rfl) (HK.out _ HT5.out.drew HP5.out.drew HU5.out.drew) (fun hHeld => ?_)
    refine plI [(0, false), (1, false), (2, false), (3, false)] ?_
    repeat ((first | ((with_reducible show Plan ((_, true) :: _) _); refine plF ?_) | (refine plR (v := ?_) ?_ ?_; rotate_left; focus (intro W hSW; (try dsimp only at hSW); go_simp; all_goals (with_reducible rfl)))); try simp only [Act.put, List.setIfInBounds_toArray, List.set_cons_zero, List.set_cons_succ])
    refine plE ?_
    refine wpAnyH_take (i := 4) (oi := ⟨_, _, _, _, _, _⟩) (v := _) rfl (by kernel_rfl) (by kernel_rfl) (by kernel_rfl) (fun _ _ _ h => h) (yieldsIf_load_mid (by rfl) 33 _ rfl w4.heap.size 0 rfl [.string pname, .string pkind, .string pinto, .string pslot, .int .i64 pmade, .int .i64 psince, .bool pgone, .slice B1 pprops.length d1, .int .i64 pkl, .int .i64 pkh, .int .i64 pcl, .int .i64 pch, .int .i64 pdl, .int .i64 pdh] _ (fun W h => h.2.1) Tryz.underlying33 rfl rfl) (by assumption) ?_
    try simp only [Act.put, List.setIfInBounds_toArray, List.set_cons_zero, List.set_cons_succ]
    refine wpAnyH_take (i := 5) (oi := ⟨_, _, _, _, _, _⟩) (v := _) rfl (by kernel_rfl) (by kernel_rfl) (by kernel_rfl) (fun _ _ _ h => h) (yieldsIf_load_mid (by rfl) 33 _ rfl w5.heap.size 0 rfl [.string pname, .string pkind, .string pinto, .string pslot, .int .i64 pmade, .int .i64 psince, .bool pgone, .slice B2 pprops.length d2, .int .i64 pkl, .int .i64 pkh, .int .i64 pcl, .int .i64 pch, .int .i64 pdl, .int .i64 pdh] _ (fun W h => h.2.2) Tryz.underlying33 rfl rfl) (by assumption) ?_
    try simp only [Act.put, List.setIfInBounds_toArray, List.set_cons_zero, List.set_cons_succ]
    refine wpAnyH_ready (rs := [6]) (by kernel_rfl) (by simp) ?_
    refine AllReadyH.cons (o := ⟨_, _, _, _, _, _⟩) rfl (fun K hK => ?_) AllReadyH.nil
    go_simp
    go_at_call 9; refine (samePart_any pname pkind pinto pslot pmade psince pgone pprops pkl pkh pcl pch pdl pdh pname pkind pinto pslot pmade psince pgone pprops pkl pkh pcl pch pdl pdh B1 B2 d1 d2 _ (rd_pr HQ1.out (HT5.out.drew).b) (rd_pr HQ2.out (HT5.out.drew).b) hpp hpp).mono ?_; rintro e wc6 ⟨rfl, hbc6⟩; rw [decide_eq_true rfl]; have HTc6 := Lib.hid ((HT5.out.drew).below hbc6); have HPc6 := Lib.hid ((HP5.out.drew).below hbc6 (HP5.out.drew).lt); have HUc6 := Lib.hid ((HU5.out.drew).below hbc6 (HU5.out.drew).lt); clear hbc6
    refine hK.out _ _ (HK.out _ HTc6.out HPc6.out HUc6.out) (fun hHeld => ?_)
    clear hK K
    try simp only [Act.put, List.setIfInBounds_toArray, List.set_cons_zero, List.set_cons_succ]
    refine plI [(7, false), (8, false), (9, false), (10, false), (12, false), (13, false)] ?_
    repeat ((first | ((with_reducible show Plan ((_, true) :: _) _); refine plF ?_) | (refine plR (v := ?_) ?_ ?_; rotate_left; focus (intro W hSW; (try dsimp only at hSW); go_simp; all_goals (with_reducible rfl)))); try simp only [Act.put, List.setIfInBounds_toArray, List.set_cons_zero, List.set_cons_succ])
    refine plE ?_
    refine wpAnyH_ready (rs := [11]) (by kernel_rfl) (by simp) ?_
    refine AllReadyH.cons (o := ⟨_, _, _, _, _, _⟩) rfl (fun K hK => ?_) AllReadyH.nil
    go_simp
    go_at_call 10; refine (HR1.out _ (HTc6.out).b).mono ?_; rintro e wc11 ⟨rfl, hbc11⟩; have HTc11 := Lib.hid ((HTc6.out).below hbc11); have HPc11 := Lib.hid ((HPc6.out).below hbc11 (HPc6.out).lt); have HUc11 := Lib.hid ((HUc6.out).below hbc11 (HUc6.out).lt); clear hbc11
    refine hK.out _ _ (HK.out _ HTc11.out HPc11.out HUc11.out) (fun hHeld => ?_)
    clear hK K
    try simp only [Act.put, List.setIfInBounds_toArray, List.set_cons_zero, List.set_cons_succ]
    refine wpAnyH_ready (rs := [14]) (by kernel_rfl) (by simp) ?_
    refine AllReadyH.cons (o := ⟨_, _, _, _, _, _⟩) rfl (fun K hK => ?_) AllReadyH.nil
    go_simp
    go_at_call 11; refine (HR2.out _ (HTc11.out).b).mono ?_; rintro e wc14 ⟨rfl, hbc14⟩; have HTc14 := Lib.hid ((HTc11.out).below hbc14); have HPc14 := Lib.hid ((HPc11.out).below hbc14 (HPc11.out).lt); have HUc14 := Lib.hid ((HUc11.out).below hbc14 (HUc11.out).lt); clear hbc14
    refine hK.out _ _ (HK.out _ HTc14.out HPc14.out HUc14.out) (fun hHeld => ?_)
    clear hK K
    try simp only [Act.put, List.setIfInBounds_toArray, List.set_cons_zero, List.set_cons_succ]
    refine plI [(15, false), (16, false), (17, false), (18, false), (19, false), (21, false), (22, false)] ?_
    repeat ((first | ((with_reducible show Plan ((_, true) :: _) _); refine plF ?_) | (refine plR (v := ?_) ?_ ?_; rotate_left; focus (intro W hSW; (try dsimp only at hSW); go_simp; all_goals (with_reducible rfl)))); try simp only [Act.put, List.setIfInBounds_toArray, List.set_cons_zero, List.set_cons_succ])
    refine plE ?_
    refine wpAnyH_ready (rs := [20]) (by kernel_rfl) (by simp) ?_
    refine AllReadyH.cons (o := ⟨_, _, _, _, _, _⟩) rfl (fun K hK => ?_) AllReadyH.nil
    go_simp
    go_at_call 13; refine (HI1.out _ (HTc14.out).b).mono ?_; rintro e wc20 ⟨va, ss, rfl, hsl20, hss20, hbc20⟩; obtain rfl := HIR.out ss hss20; have HSa := Lib.hid hsl20; have HTc20 := Lib.hid ((HTc14.out).below hbc20); have HPc20 := Lib.hid ((HPc14.out).below hbc20 (HPc14.out).lt); have HUc20 := Lib.hid ((HUc14.out).below hbc20 (HUc14.out).lt); clear hbc20 hsl20 hss20
    refine hK.out _ _ (HK.out _ HTc20.out HPc20.out HUc20.out) (fun hHeld => ?_)
    clear hK K
    try simp only [Act.put, List.setIfInBounds_toArray, List.set_cons_zero, List.set_cons_succ]
    refine wpAnyH_ready (rs := [23]) (by kernel_rfl) (by simp) ?_
    refine AllReadyH.cons (o := ⟨_, _, _, _, _, _⟩) rfl (fun K hK => ?_) AllReadyH.nil
    go_simp
    go_at_call 14; refine (HI2.out _ (HTc20.out).b).mono ?_; rintro e wc23 ⟨vb, rfl, hsl23, hbc23⟩; have HSb := Lib.hid hsl23; have HSc := Lib.hid (HSa.out.below hbc23); have HTc23 := Lib.hid ((HTc20.out).below hbc23); have HPc23 := Lib.hid ((HPc20.out).below hbc23 (HPc20.out).lt); have HUc23 := Lib.hid ((HUc20.out).below hbc23 (HUc20.out).lt); clear hbc23 hsl23
    refine hK.out _ _ (HK.out _ HTc23.out HPc23.out HUc23.out) (fun hHeld => ?_)
    clear hK K
    try simp only [Act.put, List.setIfInBounds_toArray, List.set_cons_zero, List.set_cons_succ]
    refine wpAnyH_ready (rs := [24]) (by kernel_rfl) (by simp) ?_
    refine AllReadyH.cons (o := ⟨_, _, _, _, _, _⟩) rfl (fun K hK => ?_) AllReadyH.nil
    go_simp
    go_at_call 12; refine (HSM.out _ _ _ HSc.out HSb.out).mono ?_; rintro e wc24 ⟨rfl, hbc24⟩; have HTc24 := Lib.hid ((HTc23.out).below hbc24); have HPc24 := Lib.hid ((HPc23.out).below hbc24 (HPc23.out).lt); have HUc24 := Lib.hid ((HUc23.out).below hbc24 (HUc23.out).lt); clear hbc24
    refine hK.out _ _ (HK.out _ HTc24.out HPc24.out HUc24.out) (fun hHeld => ?_)
    clear hK K
    try simp only [Act.put, List.setIfInBounds_toArray, List.set_cons_zero, List.set_cons_succ]
    refine plI [(25, false), (26, false)] ?_
    repeat ((first | ((with_reducible show Plan ((_, true) :: _) _); refine plF ?_) | (refine plR (v := ?_) ?_ ?_; rotate_left; focus (intro W hSW; (try dsimp only at hSW); go_simp; all_goals (with_reducible rfl)))); try simp only [Act.put, List.setIfInBounds_toArray, List.set_cons_zero, List.set_cons_succ])
    refine plE ?_
    refine wpAnyH_done (by kernel_rfl) ?_ _
    clear hHeld HK
    go_wp2_with fail
    go_meet
    exact ⟨rfl, HTc24.out⟩
  case rest =>
    obtain ⟨rfl, HT6⟩ := hcut
    clear HP4 HP5 HU5 HQ1 HQ2 HR1 HR2 HI1 HI2 HIR HSM
    obtain ⟨u6a, u6b⟩ := HT6.out.s.facts
    obtain ⟨u6c, u6d⟩ := HT6.out.t.facts
    have HJ := Lib.hid (fun W (h : TwB w #[.slice A1 l.length c1] #[.slice A2 m.length c2] W) => (⟨h.s.facts.1 0, h.t.facts.1 0⟩ : (fun W => W.cell? ⟨w.heap.size, 0, none⟩ = some (.slice A1 l.length c1) ∧ W.cell? ⟨w.heap.size + 1, 0, none⟩ = some (.slice A2 m.length c2)) W))
    go_wp2_with fail
    refine wp_region_held_drew (S := fun W => W.cell? ⟨w.heap.size, 0, none⟩ = some (.slice A1 l.length c1) ∧ W.cell? ⟨w.heap.size + 1, 0, none⟩ = some (.slice A2 m.length c2)) (by kernel_rfl) (HJ.out _ HT6.out.drew) (fun hHeld => ?_)
    refine plI [(0, false), (1, false), (2, false), (3, false), (4, false), (5, false), (6, false), (8, false), (9, false)] ?_
    repeat ((first | ((with_reducible show Plan ((_, true) :: _) _); refine plF ?_) | (refine plR (v := ?_) ?_ ?_; rotate_left; focus (intro W hSW; (try dsimp only at hSW); go_simp; all_goals (with_reducible rfl)))); try simp only [Act.put, List.setIfInBounds_toArray, List.set_cons_zero, List.set_cons_succ])
    refine plE ?_
    refine wpAnyH_ready (rs := [7]) (by kernel_rfl) (by simp) ?_
    refine AllReadyH.cons (o := ⟨_, _, _, _, _, _⟩) rfl (fun K hK => ?_) AllReadyH.nil
    go_simp
    go_at_call 15; refine (HS1.out _ (HT6.out.drew).b).mono ?_; rintro e wd7 ⟨rfl, hbd7⟩; have HTd7 := Lib.hid ((HT6.out.drew).below hbd7); clear hbd7
    refine hK.out _ _ (HJ.out _ HTd7.out) (fun hHeld => ?_)
    clear hK K
    try simp only [Act.put, List.setIfInBounds_toArray, List.set_cons_zero, List.set_cons_succ]
    refine wpAnyH_ready (rs := [10]) (by kernel_rfl) (by simp) ?_
    refine AllReadyH.cons (o := ⟨_, _, _, _, _, _⟩) rfl (fun K hK => ?_) AllReadyH.nil
    go_simp
    go_at_call 16; refine (HS2.out _ (HTd7.out).b).mono ?_; rintro e wd10 ⟨rfl, hbd10⟩; have HTd10 := Lib.hid ((HTd7.out).below hbd10); clear hbd10
    refine hK.out _ _ (HJ.out _ HTd10.out) (fun hHeld => ?_)
    clear hK K
    try simp only [Act.put, List.setIfInBounds_toArray, List.set_cons_zero, List.set_cons_succ]
    refine plI [(11, false), (12, false), (13, false), (14, false), (16, false)] ?_
    repeat ((first | ((with_reducible show Plan ((_, true) :: _) _); refine plF ?_) | (refine plR (v := ?_) ?_ ?_; rotate_left; focus (intro W hSW; (try dsimp only at hSW); go_simp; all_goals (with_reducible rfl)))); try simp only [Act.put, List.setIfInBounds_toArray, List.set_cons_zero, List.set_cons_succ])
    refine plE ?_
    refine wpAnyH_ready (rs := [15]) (by kernel_rfl) (by simp) ?_
    refine AllReadyH.cons (o := ⟨_, _, _, _, _, _⟩) rfl (fun K hK => ?_) AllReadyH.nil
    go_simp
    go_at_call 17; refine (HD1.out _ (HTd10.out).b).mono ?_; rintro e wd15 ⟨rfl, hbd15⟩; have HTd15 := Lib.hid ((HTd10.out).below hbd15); clear hbd15
    refine hK.out _ _ (HJ.out _ HTd15.out) (fun hHeld => ?_)
    clear hK K
    try simp only [Act.put, List.setIfInBounds_toArray, List.set_cons_zero, List.set_cons_succ]
    refine wpAnyH_ready (rs := [17]) (by kernel_rfl) (by simp) ?_
    refine AllReadyH.cons (o := ⟨_, _, _, _, _, _⟩) rfl (fun K hK => ?_) AllReadyH.nil
    go_simp
    go_at_call 18; refine (HD2.out _ (HTd15.out).b).mono ?_; rintro e wd17 ⟨rfl, hbd17⟩; have HTd17 := Lib.hid ((HTd15.out).below hbd17); clear hbd17
    refine hK.out _ _ (HJ.out _ HTd17.out) (fun hHeld => ?_)
    clear hK K
    try simp only [Act.put, List.setIfInBounds_toArray, List.set_cons_zero, List.set_cons_succ]
    refine plI [(18, false), (19, false), (20, false)] ?_
    repeat ((first | ((with_reducible show Plan ((_, true) :: _) _); refine plF ?_) | (refine plR (v := ?_) ?_ ?_; rotate_left; focus (intro W hSW; (try dsimp only at hSW); go_simp; all_goals (with_reducible rfl)))); try simp only [Act.put, List.setIfInBounds_toArray, List.set_cons_zero, List.set_cons_succ])
    refine plE ?_
    refine wpAnyH_done (by kernel_rfl) ?_ _
    clear hHeld HJ
    go_wp2_with fail
    go_ret
    exact ⟨ret_bool (by simp), HTd17.out.b⟩
theorem looks_any (v1 v2 : Value) (l m : List Pa) (name : ByteArray) (w : World) (ht : Tab w) (h1 : Sta w v1 l) (h2 : Sta w v2 m) (hl : l.length ≤ maxLen) (hm : m.length ≤ maxLen) (hpl : ∀ p ∈ l, p.wide) (hpm : ∀ p ∈ m, p.wide) (hil : ∀ p ∈ l, p.i64) (hna : name.size ≤ maxLen) :
    Calls Tryz.prog 3 #[.agg #[v1], .agg #[v2], .string name] w fun e w' => e = .returned (.bool true) ∧ Below w.heap.size w w' := by
  cases hfl : fewSt l 20
  · exact looks_1 v1 v2 l m name w ht h1 h2 hl hm hpl hpm hil hna hfl
  cases hfm : fewSt m 20
  · exact looks_2 v1 v2 l m name w ht h1 h2 hl hm hpl hpm hil hna hfl hfm
  by_cases hns : 300 < name.size
  · exact looks_3 v1 v2 l m name w ht h1 h2 hl hm hpl hpm hil hna hfl hfm hns
  · exact looks_4 v1 v2 l m name w ht h1 h2 hl hm hpl hpm hil hna hfl hfm hns
end Go.Proofs.YtccnocgmikmonaaGreatDoor
