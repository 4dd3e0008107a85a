/- bogielaw10.FleetDigests returns true: the walk. Condition: strconv's table is laid; the states' numbers fit. -/
import Derived.Test.YtccnocgmikmonaaGreatDoorU26
import Derived.Test.YtccnocgmikmonaaGreatDoorZDc
import Derived.Test.YtccnocgmikmonaaGreatDoorZDd
import Derived.Test.YtccnocgmikmonaaGreatDoorZDs
namespace Go.Proofs.YtccnocgmikmonaaGreatDoor
open Go Go.RowKit
/-- The boxes of the two states. -/
structure TwB (w : World) (s1 s2 : Array Value) (W : World) : Prop where
  s : Has W w.heap.size 24 s1
  t : Has W (w.heap.size + 1) 24 s2
  b : Below w.heap.size w W
theorem TwB.below {w W W' : World} {s1 s2 : Array Value} (h : TwB w s1 s2 W) (hb : Below W.heap.size W W') : TwB w s1 s2 W' := ⟨h.s.below hb h.s.lt, h.t.below hb h.t.lt, h.b.trans (hb.mono h.b.size)⟩
theorem TwB.drew {w W : World} {s1 s2 : Array Value} (h : TwB w s1 s2 W) : TwB w s1 s2 W.drew := ⟨h.s, h.t, h.b.drew⟩
theorem sum_digest (l : List Pa) : sumB ⟨(joinedL (fieldsL l)).toArray⟩ = digestB l := rfl
theorem size_joined {l : List UInt8} (h : l.length ≤ 1000000000) : (⟨l.toArray⟩ : ByteArray).size ≤ maxLen := by
  unfold maxLen
  show l.toArray.size ≤ _
  rw [List.size_toArray]; omega
theorem joined_ne {X Y : ByteArray} {l m : List Pa} (hX : X = ⟨(joinedL (fieldsL l)).toArray⟩) (hY : Y = ⟨(joinedL (fieldsL m)).toArray⟩) (h : ¬ l = m) : ¬ X.toList = Y.toList := by
  intro e
  have h1 : (X.toList == Y.toList) = true := by simpa using e
  rw [beq_bytes] at h1
  have h2 := of_decide_eq_true h1
  rw [hX, hY] at h2
  refine h (fields_inj (joined_inj ?_))
  injection h2 with h2
  simpa using congrArg Array.toList h2
set_option maxRecDepth 100000 in
set_option maxHeartbeats 16000000 in
theorem digests_1 (v1 v2 : Value) (l m : List Pa) (w : World) (_ht : Tab w) (h1 : Sta w v1 l) (h2 : Sta w v2 m) (hl : l.length ≤ maxLen) (hm : m.length ≤ maxLen) (hpl : ∀ p ∈ l, p.wide) (hpm : ∀ p ∈ m, p.wide) (_hil : ∀ p ∈ l, p.i64) (_him : ∀ p ∈ m, p.i64) (hfl : fewSt l 20 = false) :
    Calls Tryz.prog 4 #[.agg #[v1], .agg #[v2]] w fun e w' => e = .returned (.bool true) ∧ Below w.heap.size w w' := by
  obtain ⟨A1, c1, rfl, _⟩ := Rd.form h1
  obtain ⟨A2, c2, rfl, _⟩ := Rd.form h2
  have hB0 := ((Below.refl w.heap.size w).alloc (Nat.le_refl _) (.cells #[.slice A1 l.length c1] 24)).alloc (by simp) (.cells #[.slice A2 m.length c2] 24)
  have k1 := (Has.new w 24 #[.slice A1 l.length c1]).alloc (.cells #[.slice A2 m.length c2] 24)
  have k2 := Has.new (w.alloc (.cells #[.slice A1 l.length c1] 24)) 24 #[.slice A2 m.length c2]
  rw [World.size_alloc] at k2
  have HT0 : Hid (TwB w #[.slice A1 l.length c1] #[.slice A2 m.length c2] ((w.alloc (.cells #[.slice A1 l.length c1] 24)).alloc (.cells #[.slice A2 m.length c2] 24))) := ⟨k1, k2, hB0⟩
  have HFL := Lib.hid (fun W (h : Below w.heap.size w W) => few10_any w _ l 20 W h h1 hl hpl)
  have HFM := Lib.hid (fun W (h : Below w.heap.size w W) => few10_any w _ m 20 W h h2 hm hpm)
  have HA := Lib.hid hfl
  clear hfl k1 k2 hB0 h1 h2 hpl hpm _hil _him _ht
  go_enter Tryz.func4, Tryz.ntmps4
  go_wp2_with (first | (go_at_call 5; refine (head_any _).mono ?_; rintro e w1 ⟨rfl, hb1⟩; have HT1 := Lib.hid (HT0.out.below hb1); obtain ⟨p1, p2⟩ := HT1.out.s.facts; obtain ⟨p3, p4⟩ := HT1.out.t.facts; clear hb1) | (go_at_call 6; refine (HFL.out _ HT1.out.b).mono ?_; clear HFL; rintro e w2 ⟨rfl, hb2⟩; rw [HA.out]; have HT2 := Lib.hid (HT1.out.below hb2); obtain ⟨q2a, q2b⟩ := HT2.out.s.facts; obtain ⟨q2c, q2d⟩ := HT2.out.t.facts; clear hb2))
  go_ret
  exact ⟨rfl, HT2.out.b⟩
set_option maxRecDepth 100000 in
set_option maxHeartbeats 16000000 in
theorem digests_2 (v1 v2 : Value) (l m : List Pa) (w : World) (_ht : Tab w) (h1 : Sta w v1 l) (h2 : Sta w v2 m) (hl : l.length ≤ maxLen) (hm : m.length ≤ maxLen) (hpl : ∀ p ∈ l, p.wide) (hpm : ∀ p ∈ m, p.wide) (_hil : ∀ p ∈ l, p.i64) (_him : ∀ p ∈ m, p.i64) (hfl : fewSt l 20 = true) (hfm : fewSt m 20 = false) :
    Calls Tryz.prog 4 #[.agg #[v1], .agg #[v2]] w fun e w' => e = .returned (.bool true) ∧ Below w.heap.size w w' := by
  obtain ⟨A1, c1, rfl, _⟩ := Rd.form h1
  obtain ⟨A2, c2, rfl, _⟩ := Rd.form h2
  have hB0 := ((Below.refl w.heap.size w).alloc (Nat.le_refl _) (.cells #[.slice A1 l.length c1] 24)).alloc (by simp) (.cells #[.slice A2 m.length c2] 24)
  have k1 := (Has.new w 24 #[.slice A1 l.length c1]).alloc (.cells #[.slice A2 m.length c2] 24)
  have k2 := Has.new (w.alloc (.cells #[.slice A1 l.length c1] 24)) 24 #[.slice A2 m.length c2]
  rw [World.size_alloc] at k2
  have HT0 : Hid (TwB w #[.slice A1 l.length c1] #[.slice A2 m.length c2] ((w.alloc (.cells #[.slice A1 l.length c1] 24)).alloc (.cells #[.slice A2 m.length c2] 24))) := ⟨k1, k2, hB0⟩
  have HFL := Lib.hid (fun W (h : Below w.heap.size w W) => few10_any w _ l 20 W h h1 hl hpl)
  have HFM := Lib.hid (fun W (h : Below w.heap.size w W) => few10_any w _ m 20 W h h2 hm hpm)
  have HA := Lib.hid hfl
  have HC := Lib.hid hfm
  clear hfl hfm k1 k2 hB0 h1 h2 hpl hpm _hil _him _ht
  go_enter Tryz.func4, Tryz.ntmps4
  go_wp2_with (first | (go_at_call 5; refine (head_any _).mono ?_; rintro e w1 ⟨rfl, hb1⟩; have HT1 := Lib.hid (HT0.out.below hb1); obtain ⟨p1, p2⟩ := HT1.out.s.facts; obtain ⟨p3, p4⟩ := HT1.out.t.facts; clear hb1) | (go_at_call 6; refine (HFL.out _ HT1.out.b).mono ?_; clear HFL; rintro e w2 ⟨rfl, hb2⟩; rw [HA.out]; have HT2 := Lib.hid (HT1.out.below hb2); obtain ⟨q2a, q2b⟩ := HT2.out.s.facts; obtain ⟨q2c, q2d⟩ := HT2.out.t.facts; clear hb2) | (go_at_call 6; refine (HFM.out _ HT2.out.b).mono ?_; clear HFM; rintro e w3 ⟨rfl, hb3⟩; rw [HC.out]; have HT3 := Lib.hid (HT2.out.below hb3); obtain ⟨q3a, q3b⟩ := HT3.out.s.facts; obtain ⟨q3c, q3d⟩ := HT3.out.t.facts; clear hb3))
  go_ret
  exact ⟨rfl, HT3.out.b⟩
set_option maxRecDepth 100000 in
set_option maxHeartbeats 16000000 in
theorem digests_3 (v1 v2 : Value) (l m : List Pa) (w : World) (ht : Tab w) (h1 : Sta w v1 l) (h2 : Sta w v2 m) (hl : l.length ≤ maxLen) (hm : m.length ≤ maxLen) (hpl : ∀ p ∈ l, p.wide) (hpm : ∀ p ∈ m, p.wide) (hil : ∀ p ∈ l, p.i64) (him : ∀ p ∈ m, p.i64) (hfl : fewSt l 20 = true) (hfm : fewSt m 20 = true) (hlm : l = m) (hde : True) :
    Calls Tryz.prog 4 #[.agg #[v1], .agg #[v2]] w fun e w' => e = .returned (.bool true) ∧ Below w.heap.size w w' := by
  obtain ⟨A1, c1, rfl, _⟩ := Rd.form h1
  obtain ⟨A2, c2, rfl, _⟩ := Rd.form h2
  have hB0 := ((Below.refl w.heap.size w).alloc (Nat.le_refl _) (.cells #[.slice A1 l.length c1] 24)).alloc (by simp) (.cells #[.slice A2 m.length c2] 24)
  have k1 := (Has.new w 24 #[.slice A1 l.length c1]).alloc (.cells #[.slice A2 m.length c2] 24)
  have k2 := Has.new (w.alloc (.cells #[.slice A1 l.length c1] 24)) 24 #[.slice A2 m.length c2]
  rw [World.size_alloc] at k2
  have HT0 : Hid (TwB w #[.slice A1 l.length c1] #[.slice A2 m.length c2] ((w.alloc (.cells #[.slice A1 l.length c1] 24)).alloc (.cells #[.slice A2 m.length c2] 24))) := ⟨k1, k2, hB0⟩
  have HFL := Lib.hid (fun W (h : Below w.heap.size w W) => few10_any w _ l 20 W h h1 hl hpl)
  have HFM := Lib.hid (fun W (h : Below w.heap.size w W) => few10_any w _ m 20 W h h2 hm hpm)
  obtain ⟨nl1, nl2, nl3, nl4⟩ := fields_few (l := l) hfl hil
  obtain ⟨nm1, nm2, nm3, nm4⟩ := fields_few (l := m) hfm him
  have HDL := Lib.hid (fun W (h : Below w.heap.size w W) => digest_any w ht _ l W h h1 hil nl1 nl2 nl3 (by omega))
  have HDM := Lib.hid (fun W (h : Below w.heap.size w W) => digest_any w ht _ m W h h2 him nm1 nm2 nm3 (by omega))
  have HRL := Lib.hid (fun W (h : Below w.heap.size w W) => refFields_any w _ l W h h1 hil nl1 nl3 (by omega))
  have HRM := Lib.hid (fun W (h : Below w.heap.size w W) => refFields_any w _ m W h h2 him nm1 nm3 (by omega))
  have HSA := Lib.hid (fun W (h : Below w.heap.size w W) => fsame_any w l m _ _ W h h1 h2 (by omega) nl3)
  have HJL := Lib.hid (fun v W h => refJoined_any v (fieldsL l) W h nl2 nl1)
  have HJM := Lib.hid (fun v W h => refJoined_any v (fieldsL m) W h nm2 nm1)
  obtain ⟨X, hX⟩ : ∃ X, X = (⟨(joinedL (fieldsL l)).toArray⟩ : ByteArray) := ⟨_, rfl⟩
  obtain ⟨Y, hY⟩ : ∃ X, X = (⟨(joinedL (fieldsL m)).toArray⟩ : ByteArray) := ⟨_, rfl⟩
  rw [← hX] at HJL
  rw [← hY] at HJM
  have hsx : sumB X = digestB l := by rw [hX]; exact sum_digest l
  have hsy : sumB Y = digestB m := by rw [hY]; exact sum_digest m
  have hzx : X.size ≤ maxLen := by rw [hX]; exact size_joined nl2
  have hzy : Y.size ≤ maxLen := by rw [hY]; exact size_joined nm2
  have HIS := Lib.hid (fun W => isDigest_any X W)
  have HUL := Lib.hid (fun W => sum_any X hzx W)
  have HUM := Lib.hid (fun W => sum_any Y hzy W)
  rw [hsx] at HIS HUL
  rw [hsy] at HUM
  have HLM := Lib.hid hlm
  have HDD : Hid (digestB l = digestB m) := by show _ = _; rw [hlm]
  have HDE := Lib.hid hde
  have HXY : Hid (¬ l = m → ¬ X.toList = Y.toList) := fun h => joined_ne hX hY h
  have HA := Lib.hid hfl
  have HC := Lib.hid hfm
  clear hX hY hsx hsy hzx hzy hlm hde hfl hfm
  have hdd := HDD.out
  clear HDD
  generalize digestB l = DL at *
  generalize digestB m = DM at *
  subst hdd
  have HEQ := Lib.hid (decide_eq_true HLM.out)
  clear k1 k2 hB0 h1 h2 hpl hpm hil him ht nl1 nl2 nl3 nl4 nm1 nm2 nm3 nm4
  go_enter Tryz.func4, Tryz.ntmps4
  go_wp2_with (first | (go_at_call 5; refine (head_any _).mono ?_; rintro e w1 ⟨rfl, hb1⟩; have HT1 := Lib.hid (HT0.out.below hb1); obtain ⟨p1, p2⟩ := HT1.out.s.facts; obtain ⟨p3, p4⟩ := HT1.out.t.facts; clear hb1) | (go_at_call 6; refine (HFL.out _ HT1.out.b).mono ?_; clear HFL; rintro e w2 ⟨rfl, hb2⟩; rw [HA.out]; have HT2 := Lib.hid (HT1.out.below hb2); obtain ⟨q2a, q2b⟩ := HT2.out.s.facts; obtain ⟨q2c, q2d⟩ := HT2.out.t.facts; clear hb2) | (go_at_call 6; refine (HFM.out _ HT2.out.b).mono ?_; clear HFM; rintro e w3 ⟨rfl, hb3⟩; rw [HC.out]; have HT3 := Lib.hid (HT2.out.below hb3); obtain ⟨q3a, q3b⟩ := HT3.out.s.facts; obtain ⟨q3c, q3d⟩ := HT3.out.t.facts; clear hb3))
  go_cut [6, 7] from 20 to 23 (fun a b wc => a = .string DL ∧ b = .string DL ∧ Hid (TwB w #[.slice A1 l.length c1] #[.slice A2 m.length c2] wc))
  case first =>
    have HK := Lib.hid (fun W (h : TwB w #[.slice A1 l.length c1] #[.slice A2 m.length c2] W) => (⟨h.s.facts.1 0, h.t.facts.1 0⟩ : (fun W => W.cell? ⟨w.heap.size, 0, none⟩ = some (.slice A1 l.length c1) ∧ W.cell? ⟨w.heap.size + 1, 0, none⟩ = some (.slice A2 m.length c2)) W))
    refine wp_region_held_drew (S := fun W => W.cell? ⟨w.heap.size, 0, none⟩ = some (.slice A1 l.length c1) ∧ W.cell? ⟨w.heap.size + 1, 0, none⟩ = some (.slice A2 m.length c2)) (by kernel_rfl) (HK.out _ HT3.out.drew) (fun hHeld => ?_)
    refine plI [(0, false), (2, false)] ?_
    repeat ((first | ((with_reducible show Plan ((_, true) :: _) _); refine plF ?_) | (refine plR (v := ?_) ?_ ?_; rotate_left; focus (intro W hSW; (try dsimp only at hSW); go_simp; all_goals (with_reducible rfl)))); try simp only [Act.put, List.setIfInBounds_toArray, List.set_cons_zero, List.set_cons_succ])
    refine plE ?_
    refine wpAnyH_ready (rs := [1]) (by kernel_rfl) (by simp) ?_
    refine AllReadyH.cons (o := ⟨_, _, _, _, _, _⟩) rfl (fun K hK => ?_) AllReadyH.nil
    go_simp
    go_at_call 17; refine (HDL.out _ (HT3.out.drew).b).mono ?_; rintro e wc1 ⟨rfl, hbc1⟩; have HTc1 := Lib.hid ((HT3.out.drew).below hbc1); clear hbc1
    refine hK.out _ _ (HK.out _ HTc1.out) (fun hHeld => ?_)
    clear hK K
    try simp only [Act.put, List.setIfInBounds_toArray, List.set_cons_zero, List.set_cons_succ]
    refine wpAnyH_ready (rs := [3]) (by kernel_rfl) (by simp) ?_
    refine AllReadyH.cons (o := ⟨_, _, _, _, _, _⟩) rfl (fun K hK => ?_) AllReadyH.nil
    go_simp
    go_at_call 17; refine (HDM.out _ (HTc1.out).b).mono ?_; rintro e wc3 ⟨rfl, hbc3⟩; have HTc3 := Lib.hid ((HTc1.out).below hbc3); clear hbc3
    refine hK.out _ _ (HK.out _ HTc3.out) (fun hHeld => ?_)
    clear hK K
    try simp only [Act.put, List.setIfInBounds_toArray, List.set_cons_zero, List.set_cons_succ]
    refine plI [(4, false), (5, false)] ?_
    repeat ((first | ((with_reducible show Plan ((_, true) :: _) _); refine plF ?_) | (refine plR (v := ?_) ?_ ?_; rotate_left; focus (intro W hSW; (try dsimp only at hSW); go_simp; all_goals (with_reducible rfl)))); try simp only [Act.put, List.setIfInBounds_toArray, List.set_cons_zero, List.set_cons_succ])
    refine plE ?_
    refine wpAnyH_done (by kernel_rfl) ?_ _
    clear hHeld HK
    go_wp2_with fail
    go_meet
    exact ⟨rfl, rfl, HTc3.out⟩
  case rest =>
    obtain ⟨rfl, rfl, HT4⟩ := hcut
    clear HDL HDM
    obtain ⟨u4a, u4b⟩ := HT4.out.s.facts
    obtain ⟨u4c, u4d⟩ := HT4.out.t.facts
    go_wp2_with (first | (go_at_call 19; refine (HIS.out _).mono ?_; rintro e w5 ⟨rfl, hb5⟩; have HT5 := Lib.hid (HT4.out.below hb5); obtain ⟨u5a, u5b⟩ := HT5.out.s.facts; obtain ⟨u5c, u5d⟩ := HT5.out.t.facts; clear hb5) | (go_at_call 15; refine (HSA.out _ HT5.out.b).mono ?_; rintro e w6 ⟨rfl, hb6⟩; rw [HEQ.out]; have HT6 := Lib.hid (HT5.out.below hb6); obtain ⟨u6a, u6b⟩ := HT6.out.s.facts; obtain ⟨u6c, u6d⟩ := HT6.out.t.facts; clear hb6))
    go_cut [8, 9] from 37 to 42 (fun a b wc => a = .string X ∧ b = .string Y ∧ Hid (TwB w #[.slice A1 l.length c1] #[.slice A2 m.length c2] wc))
    case first =>
      have HK := Lib.hid (fun W (h : TwB w #[.slice A1 l.length c1] #[.slice A2 m.length c2] W) => (⟨h.s.facts.1 0, h.t.facts.1 0⟩ : (fun W => W.cell? ⟨w.heap.size, 0, none⟩ = some (.slice A1 l.length c1) ∧ W.cell? ⟨w.heap.size + 1, 0, none⟩ = some (.slice A2 m.length c2)) W))
      refine wp_region_held_drew (S := fun W => W.cell? ⟨w.heap.size, 0, none⟩ = some (.slice A1 l.length c1) ∧ W.cell? ⟨w.heap.size + 1, 0, none⟩ = some (.slice A2 m.length c2)) (by kernel_rfl) (HK.out _ HT6.out.drew) (fun hHeld => ?_)
      refine plI [(0, false), (3, false)] ?_
      repeat ((first | ((with_reducible show Plan ((_, true) :: _) _); refine plF ?_) | (refine plR (v := ?_) ?_ ?_; rotate_left; focus (intro W hSW; (try dsimp only at hSW); go_simp; all_goals (with_reducible rfl)))); try simp only [Act.put, List.setIfInBounds_toArray, List.set_cons_zero, List.set_cons_succ])
      refine plE ?_
      refine wpAnyH_ready (rs := [1]) (by kernel_rfl) (by simp) ?_
      refine AllReadyH.cons (o := ⟨_, _, _, _, _, _⟩) rfl (fun K hK => ?_) AllReadyH.nil
      go_simp
      go_at_call 21; refine (HRL.out _ (HT6.out.drew).b).mono ?_; rintro e wc1 ⟨vf1, rfl, hs1, hbc1⟩; have HSl1 := Lib.hid hs1; have HTc1 := Lib.hid ((HT6.out.drew).below hbc1); have hbx1 := Lib.hid hbc1; clear hbc1 hs1
      refine hK.out _ _ (HK.out _ HTc1.out) (fun hHeld => ?_)
      clear hK K
      try simp only [Act.put, List.setIfInBounds_toArray, List.set_cons_zero, List.set_cons_succ]
      refine wpAnyH_ready (rs := [2]) (by kernel_rfl) (by simp) ?_
      refine AllReadyH.cons (o := ⟨_, _, _, _, _, _⟩) rfl (fun K hK => ?_) AllReadyH.nil
      go_simp
      go_at_call 20; refine (HJL.out _ _ (HSl1.out)).mono ?_; rintro e wc2 ⟨rfl, hbc2⟩; have HTc2 := Lib.hid ((HTc1.out).below hbc2); have hbx2 := Lib.hid hbc2; clear hbc2
      refine hK.out _ _ (HK.out _ HTc2.out) (fun hHeld => ?_)
      clear hK K
      try simp only [Act.put, List.setIfInBounds_toArray, List.set_cons_zero, List.set_cons_succ]
      refine wpAnyH_ready (rs := [4]) (by kernel_rfl) (by simp) ?_
      refine AllReadyH.cons (o := ⟨_, _, _, _, _, _⟩) rfl (fun K hK => ?_) AllReadyH.nil
      go_simp
      go_at_call 21; refine (HRM.out _ (HTc2.out).b).mono ?_; rintro e wc4 ⟨vf4, rfl, hs4, hbc4⟩; have HSl4 := Lib.hid hs4; have HTc4 := Lib.hid ((HTc2.out).below hbc4); have hbx4 := Lib.hid hbc4; clear hbc4 hs4
      refine hK.out _ _ (HK.out _ HTc4.out) (fun hHeld => ?_)
      clear hK K
      try simp only [Act.put, List.setIfInBounds_toArray, List.set_cons_zero, List.set_cons_succ]
      refine wpAnyH_ready (rs := [5]) (by kernel_rfl) (by simp) ?_
      refine AllReadyH.cons (o := ⟨_, _, _, _, _, _⟩) rfl (fun K hK => ?_) AllReadyH.nil
      go_simp
      go_at_call 20; refine (HJM.out _ _ (HSl4.out)).mono ?_; rintro e wc5 ⟨rfl, hbc5⟩; have HTc5 := Lib.hid ((HTc4.out).below hbc5); have hbx5 := Lib.hid hbc5; clear hbc5
      refine hK.out _ _ (HK.out _ HTc5.out) (fun hHeld => ?_)
      clear hK K
      try simp only [Act.put, List.setIfInBounds_toArray, List.set_cons_zero, List.set_cons_succ]
      refine plI [(6, false), (7, false)] ?_
      repeat ((first | ((with_reducible show Plan ((_, true) :: _) _); refine plF ?_) | (refine plR (v := ?_) ?_ ?_; rotate_left; focus (intro W hSW; (try dsimp only at hSW); go_simp; all_goals (with_reducible rfl)))); try simp only [Act.put, List.setIfInBounds_toArray, List.set_cons_zero, List.set_cons_succ])
      refine plE ?_
      refine wpAnyH_done (by kernel_rfl) ?_ _
      clear hHeld HK
      go_wp2_with fail
      go_meet
      exact ⟨rfl, rfl, HTc5.out⟩
    case rest =>
      obtain ⟨rfl, rfl, HT7⟩ := hcut
      obtain ⟨u7a, u7b⟩ := HT7.out.s.facts
      obtain ⟨u7c, u7d⟩ := HT7.out.t.facts
      go_wp2_with (first | (go_at_call 15; refine (HSA.out _ HT7.out.b).mono ?_; rintro e w8 ⟨rfl, hb8⟩; rw [HEQ.out]; have HT8 := Lib.hid (HT7.out.below hb8); obtain ⟨u8a, u8b⟩ := HT8.out.s.facts; obtain ⟨u8c, u8d⟩ := HT8.out.t.facts; clear hb8))
      go_ret
      exact ⟨rfl, HT8.out.b⟩
set_option maxRecDepth 100000 in
set_option maxHeartbeats 16000000 in
theorem digests_4 (v1 v2 : Value) (l m : List Pa) (w : World) (ht : Tab w) (h1 : Sta w v1 l) (h2 : Sta w v2 m) (hl : l.length ≤ maxLen) (hm : m.length ≤ maxLen) (hpl : ∀ p ∈ l, p.wide) (hpm : ∀ p ∈ m, p.wide) (hil : ∀ p ∈ l, p.i64) (him : ∀ p ∈ m, p.i64) (hfl : fewSt l 20 = true) (hfm : fewSt m 20 = true) (hlm : ¬ l = m) (hde : ((digestB l).toList != (digestB m).toList) = false) :
    Calls Tryz.prog 4 #[.agg #[v1], .agg #[v2]] w fun e w' => e = .returned (.bool true) ∧ Below w.heap.size w w' := by
  obtain ⟨A1, c1, rfl, _⟩ := Rd.form h1
  obtain ⟨A2, c2, rfl, _⟩ := Rd.form h2
  have hB0 := ((Below.refl w.heap.size w).alloc (Nat.le_refl _) (.cells #[.slice A1 l.length c1] 24)).alloc (by simp) (.cells #[.slice A2 m.length c2] 24)
  have k1 := (Has.new w 24 #[.slice A1 l.length c1]).alloc (.cells #[.slice A2 m.length c2] 24)
  have k2 := Has.new (w.alloc (.cells #[.slice A1 l.length c1] 24)) 24 #[.slice A2 m.length c2]
  rw [World.size_alloc] at k2
  have HT0 : Hid (TwB w #[.slice A1 l.length c1] #[.slice A2 m.length c2] ((w.alloc (.cells #[.slice A1 l.length c1] 24)).alloc (.cells #[.slice A2 m.length c2] 24))) := ⟨k1, k2, hB0⟩
  have HFL := Lib.hid (fun W (h : Below w.heap.size w W) => few10_any w _ l 20 W h h1 hl hpl)
  have HFM := Lib.hid (fun W (h : Below w.heap.size w W) => few10_any w _ m 20 W h h2 hm hpm)
  obtain ⟨nl1, nl2, nl3, nl4⟩ := fields_few (l := l) hfl hil
  obtain ⟨nm1, nm2, nm3, nm4⟩ := fields_few (l := m) hfm him
  have HDL := Lib.hid (fun W (h : Below w.heap.size w W) => digest_any w ht _ l W h h1 hil nl1 nl2 nl3 (by omega))
  have HDM := Lib.hid (fun W (h : Below w.heap.size w W) => digest_any w ht _ m W h h2 him nm1 nm2 nm3 (by omega))
  have HRL := Lib.hid (fun W (h : Below w.heap.size w W) => refFields_any w _ l W h h1 hil nl1 nl3 (by omega))
  have HRM := Lib.hid (fun W (h : Below w.heap.size w W) => refFields_any w _ m W h h2 him nm1 nm3 (by omega))
  have HSA := Lib.hid (fun W (h : Below w.heap.size w W) => fsame_any w l m _ _ W h h1 h2 (by omega) nl3)
  have HJL := Lib.hid (fun v W h => refJoined_any v (fieldsL l) W h nl2 nl1)
  have HJM := Lib.hid (fun v W h => refJoined_any v (fieldsL m) W h nm2 nm1)
  obtain ⟨X, hX⟩ : ∃ X, X = (⟨(joinedL (fieldsL l)).toArray⟩ : ByteArray) := ⟨_, rfl⟩
  obtain ⟨Y, hY⟩ : ∃ X, X = (⟨(joinedL (fieldsL m)).toArray⟩ : ByteArray) := ⟨_, rfl⟩
  rw [← hX] at HJL
  rw [← hY] at HJM
  have hsx : sumB X = digestB l := by rw [hX]; exact sum_digest l
  have hsy : sumB Y = digestB m := by rw [hY]; exact sum_digest m
  have hzx : X.size ≤ maxLen := by rw [hX]; exact size_joined nl2
  have hzy : Y.size ≤ maxLen := by rw [hY]; exact size_joined nm2
  have HIS := Lib.hid (fun W => isDigest_any X W)
  have HUL := Lib.hid (fun W => sum_any X hzx W)
  have HUM := Lib.hid (fun W => sum_any Y hzy W)
  rw [hsx] at HIS HUL
  rw [hsy] at HUM
  have HLM := Lib.hid hlm
  have HDE := Lib.hid hde
  have HXY : Hid (¬ l = m → ¬ X.toList = Y.toList) := fun h => joined_ne hX hY h
  have HA := Lib.hid hfl
  have HC := Lib.hid hfm
  clear hX hY hsx hsy hzx hzy hlm hde hfl hfm
  generalize digestB l = DL at *
  generalize digestB m = DM at *
  clear k1 k2 hB0 h1 h2 hpl hpm hil him ht nl1 nl2 nl3 nl4 nm1 nm2 nm3 nm4
  have HEQ := Lib.hid (decide_eq_false HLM.out)
  have HXP := Lib.hid (HXY.out HLM.out)
  have HDP : Hid (DL.toList = DM.toList) := by
    show DL.toList = DM.toList
    simpa [bne] using HDE.out
  go_enter Tryz.func4, Tryz.ntmps4
  go_wp2_with (first | (go_at_call 5; refine (head_any _).mono ?_; rintro e w1 ⟨rfl, hb1⟩; have HT1 := Lib.hid (HT0.out.below hb1); obtain ⟨p1, p2⟩ := HT1.out.s.facts; obtain ⟨p3, p4⟩ := HT1.out.t.facts; clear hb1) | (go_at_call 6; refine (HFL.out _ HT1.out.b).mono ?_; clear HFL; rintro e w2 ⟨rfl, hb2⟩; rw [HA.out]; have HT2 := Lib.hid (HT1.out.below hb2); obtain ⟨q2a, q2b⟩ := HT2.out.s.facts; obtain ⟨q2c, q2d⟩ := HT2.out.t.facts; clear hb2) | (go_at_call 6; refine (HFM.out _ HT2.out.b).mono ?_; clear HFM; rintro e w3 ⟨rfl, hb3⟩; rw [HC.out]; have HT3 := Lib.hid (HT2.out.below hb3); obtain ⟨q3a, q3b⟩ := HT3.out.s.facts; obtain ⟨q3c, q3d⟩ := HT3.out.t.facts; clear hb3))
  go_cut [6, 7] from 20 to 23 (fun a b wc => a = .string DL ∧ b = .string DM ∧ Hid (TwB w #[.slice A1 l.length c1] #[.slice A2 m.length c2] wc))
  case first =>
    have HK := Lib.hid (fun W (h : TwB w #[.slice A1 l.length c1] #[.slice A2 m.length c2] W) => (⟨h.s.facts.1 0, h.t.facts.1 0⟩ : (fun W => W.cell? ⟨w.heap.size, 0, none⟩ = some (.slice A1 l.length c1) ∧ W.cell? ⟨w.heap.size + 1, 0, none⟩ = some (.slice A2 m.length c2)) W))
    refine wp_region_held_drew (S := fun W => W.cell? ⟨w.heap.size, 0, none⟩ = some (.slice A1 l.length c1) ∧ W.cell? ⟨w.heap.size + 1, 0, none⟩ = some (.slice A2 m.length c2)) (by kernel_rfl) (HK.out _ HT3.out.drew) (fun hHeld => ?_)
    refine plI [(0, false), (2, false)] ?_
    repeat ((first | ((with_reducible show Plan ((_, true) :: _) _); refine plF ?_) | (refine plR (v := ?_) ?_ ?_; rotate_left; focus (intro W hSW; (try dsimp only at hSW); go_simp; all_goals (with_reducible rfl)))); try simp only [Act.put, List.setIfInBounds_toArray, List.set_cons_zero, List.set_cons_succ])
    refine plE ?_
    refine wpAnyH_ready (rs := [1]) (by kernel_rfl) (by simp) ?_
    refine AllReadyH.cons (o := ⟨_, _, _, _, _, _⟩) rfl (fun K hK => ?_) AllReadyH.nil
    go_simp
    go_at_call 17; refine (HDL.out _ (HT3.out.drew).b).mono ?_; rintro e wc1 ⟨rfl, hbc1⟩; have HTc1 := Lib.hid ((HT3.out.drew).below hbc1); clear hbc1
    refine hK.out _ _ (HK.out _ HTc1.out) (fun hHeld => ?_)
    clear hK K
    try simp only [Act.put, List.setIfInBounds_toArray, List.set_cons_zero, List.set_cons_succ]
    refine wpAnyH_ready (rs := [3]) (by kernel_rfl) (by simp) ?_
    refine AllReadyH.cons (o := ⟨_, _, _, _, _, _⟩) rfl (fun K hK => ?_) AllReadyH.nil
    go_simp
    go_at_call 17; refine (HDM.out _ (HTc1.out).b).mono ?_; rintro e wc3 ⟨rfl, hbc3⟩; have HTc3 := Lib.hid ((HTc1.out).below hbc3); clear hbc3
    refine hK.out _ _ (HK.out _ HTc3.out) (fun hHeld => ?_)
    clear hK K
    try simp only [Act.put, List.setIfInBounds_toArray, List.set_cons_zero, List.set_cons_succ]
    refine plI [(4, false), (5, false)] ?_
    repeat ((first | ((with_reducible show Plan ((_, true) :: _) _); refine plF ?_) | (refine plR (v := ?_) ?_ ?_; rotate_left; focus (intro W hSW; (try dsimp only at hSW); go_simp; all_goals (with_reducible rfl)))); try simp only [Act.put, List.setIfInBounds_toArray, List.set_cons_zero, List.set_cons_succ])
    refine plE ?_
    refine wpAnyH_done (by kernel_rfl) ?_ _
    clear hHeld HK
    go_wp2_with fail
    go_meet
    exact ⟨rfl, rfl, HTc3.out⟩
  case rest =>
    obtain ⟨rfl, rfl, HT4⟩ := hcut
    clear HDL HDM
    obtain ⟨u4a, u4b⟩ := HT4.out.s.facts
    obtain ⟨u4c, u4d⟩ := HT4.out.t.facts
    have hdp := HDP.out
    go_wp2_with (first | (go_at_call 19; refine (HIS.out _).mono ?_; rintro e w5 ⟨rfl, hb5⟩; have HT5 := Lib.hid (HT4.out.below hb5); obtain ⟨u5a, u5b⟩ := HT5.out.s.facts; obtain ⟨u5c, u5d⟩ := HT5.out.t.facts; clear hb5) | (go_at_call 15; refine (HSA.out _ HT5.out.b).mono ?_; rintro e w6 ⟨rfl, hb6⟩; rw [HEQ.out]; have HT6 := Lib.hid (HT5.out.below hb6); obtain ⟨u6a, u6b⟩ := HT6.out.s.facts; obtain ⟨u6c, u6d⟩ := HT6.out.t.facts; clear hb6))
    go_cut [8, 9] from 37 to 42 (fun a b wc => a = .string X ∧ b = .string Y ∧ Hid (TwB w #[.slice A1 l.length c1] #[.slice A2 m.length c2] wc))
    case first =>
      have HK := Lib.hid (fun W (h : TwB w #[.slice A1 l.length c1] #[.slice A2 m.length c2] W) => (⟨h.s.facts.1 0, h.t.facts.1 0⟩ : (fun W => W.cell? ⟨w.heap.size, 0, none⟩ = some (.slice A1 l.length c1) ∧ W.cell? ⟨w.heap.size + 1, 0, none⟩ = some (.slice A2 m.length c2)) W))
      refine wp_region_held_drew (S := fun W => W.cell? ⟨w.heap.size, 0, none⟩ = some (.slice A1 l.length c1) ∧ W.cell? ⟨w.heap.size + 1, 0, none⟩ = some (.slice A2 m.length c2)) (by kernel_rfl) (HK.out _ HT6.out.drew) (fun hHeld => ?_)
      refine plI [(0, false), (3, false)] ?_
      repeat ((first | ((with_reducible show Plan ((_, true) :: _) _); refine plF ?_) | (refine plR (v := ?_) ?_ ?_; rotate_left; focus (intro W hSW; (try dsimp only at hSW); go_simp; all_goals (with_reducible rfl)))); try simp only [Act.put, List.setIfInBounds_toArray, List.set_cons_zero, List.set_cons_succ])
      refine plE ?_
      refine wpAnyH_ready (rs := [1]) (by kernel_rfl) (by simp) ?_
      refine AllReadyH.cons (o := ⟨_, _, _, _, _, _⟩) rfl (fun K hK => ?_) AllReadyH.nil
      go_simp
      go_at_call 21; refine (HRL.out _ (HT6.out.drew).b).mono ?_; rintro e wc1 ⟨vf1, rfl, hs1, hbc1⟩; have HSl1 := Lib.hid hs1; have HTc1 := Lib.hid ((HT6.out.drew).below hbc1); have hbx1 := Lib.hid hbc1; clear hbc1 hs1
      refine hK.out _ _ (HK.out _ HTc1.out) (fun hHeld => ?_)
      clear hK K
      try simp only [Act.put, List.setIfInBounds_toArray, List.set_cons_zero, List.set_cons_succ]
      refine wpAnyH_ready (rs := [2]) (by kernel_rfl) (by simp) ?_
      refine AllReadyH.cons (o := ⟨_, _, _, _, _, _⟩) rfl (fun K hK => ?_) AllReadyH.nil
      go_simp
      go_at_call 20; refine (HJL.out _ _ (HSl1.out)).mono ?_; rintro e wc2 ⟨rfl, hbc2⟩; have HTc2 := Lib.hid ((HTc1.out).below hbc2); have hbx2 := Lib.hid hbc2; clear hbc2
      refine hK.out _ _ (HK.out _ HTc2.out) (fun hHeld => ?_)
      clear hK K
      try simp only [Act.put, List.setIfInBounds_toArray, List.set_cons_zero, List.set_cons_succ]
      refine wpAnyH_ready (rs := [4]) (by kernel_rfl) (by simp) ?_
      refine AllReadyH.cons (o := ⟨_, _, _, _, _, _⟩) rfl (fun K hK => ?_) AllReadyH.nil
      go_simp
      go_at_call 21; refine (HRM.out _ (HTc2.out).b).mono ?_; rintro e wc4 ⟨vf4, rfl, hs4, hbc4⟩; have HSl4 := Lib.hid hs4; have HTc4 := Lib.hid ((HTc2.out).below hbc4); have hbx4 := Lib.hid hbc4; clear hbc4 hs4
      refine hK.out _ _ (HK.out _ HTc4.out) (fun hHeld => ?_)
      clear hK K
      try simp only [Act.put, List.setIfInBounds_toArray, List.set_cons_zero, List.set_cons_succ]
      refine wpAnyH_ready (rs := [5]) (by kernel_rfl) (by simp) ?_
      refine AllReadyH.cons (o := ⟨_, _, _, _, _, _⟩) rfl (fun K hK => ?_) AllReadyH.nil
      go_simp
      go_at_call 20; refine (HJM.out _ _ (HSl4.out)).mono ?_; rintro e wc5 ⟨rfl, hbc5⟩; have HTc5 := Lib.hid ((HTc4.out).below hbc5); have hbx5 := Lib.hid hbc5; clear hbc5
      refine hK.out _ _ (HK.out _ HTc5.out) (fun hHeld => ?_)
      clear hK K
      try simp only [Act.put, List.setIfInBounds_toArray, List.set_cons_zero, List.set_cons_succ]
      refine plI [(6, false), (7, false)] ?_
      repeat ((first | ((with_reducible show Plan ((_, true) :: _) _); refine plF ?_) | (refine plR (v := ?_) ?_ ?_; rotate_left; focus (intro W hSW; (try dsimp only at hSW); go_simp; all_goals (with_reducible rfl)))); try simp only [Act.put, List.setIfInBounds_toArray, List.set_cons_zero, List.set_cons_succ])
      refine plE ?_
      refine wpAnyH_done (by kernel_rfl) ?_ _
      clear hHeld HK
      go_wp2_with fail
      go_meet
      exact ⟨rfl, rfl, HTc5.out⟩
    case rest =>
      obtain ⟨rfl, rfl, HT7⟩ := hcut
      obtain ⟨u7a, u7b⟩ := HT7.out.s.facts
      obtain ⟨u7c, u7d⟩ := HT7.out.t.facts
      have hxp := HXP.out
      go_wp2_with (first | (go_at_call 15; refine (HSA.out _ HT7.out.b).mono ?_; rintro e w8 ⟨rfl, hb8⟩; rw [HEQ.out]; have HT8 := Lib.hid (HT7.out.below hb8); obtain ⟨u8a, u8b⟩ := HT8.out.s.facts; obtain ⟨u8c, u8d⟩ := HT8.out.t.facts; clear hb8) | (go_at_call 22; refine (HUL.out _).mono ?_; clear HUL; rintro e w9 ⟨rfl, hb9⟩; have HT9 := Lib.hid (HT8.out.below hb9); clear hb9) | (go_at_call 22; refine (HUM.out _).mono ?_; clear HUM; rintro e wa ⟨rfl, hba⟩; have HTa := Lib.hid (HT9.out.below hba); clear hba))
      go_ret
      exact ⟨ret_bool (by simpa using hxp), HTa.out.b⟩
set_option maxRecDepth 100000 in
set_option maxHeartbeats 16000000 in
theorem digests_5 (v1 v2 : Value) (l m : List Pa) (w : World) (ht : Tab w) (h1 : Sta w v1 l) (h2 : Sta w v2 m) (hl : l.length ≤ maxLen) (hm : m.length ≤ maxLen) (hpl : ∀ p ∈ l, p.wide) (hpm : ∀ p ∈ m, p.wide) (hil : ∀ p ∈ l, p.i64) (him : ∀ p ∈ m, p.i64) (hfl : fewSt l 20 = true) (hfm : fewSt m 20 = true) (hlm : ¬ l = m) (hde : ((digestB l).toList != (digestB m).toList) = true) :
    Calls Tryz.prog 4 #[.agg #[v1], .agg #[v2]] w fun e w' => e = .returned (.bool true) ∧ Below w.heap.size w w' := by
  obtain ⟨A1, c1, rfl, _⟩ := Rd.form h1
  obtain ⟨A2, c2, rfl, _⟩ := Rd.form h2
  have hB0 := ((Below.refl w.heap.size w).alloc (Nat.le_refl _) (.cells #[.slice A1 l.length c1] 24)).alloc (by simp) (.cells #[.slice A2 m.length c2] 24)
  have k1 := (Has.new w 24 #[.slice A1 l.length c1]).alloc (.cells #[.slice A2 m.length c2] 24)
  have k2 := Has.new (w.alloc (.cells #[.slice A1 l.length c1] 24)) 24 #[.slice A2 m.length c2]
  rw [World.size_alloc] at k2
  have HT0 : Hid (TwB w #[.slice A1 l.length c1] #[.slice A2 m.length c2] ((w.alloc (.cells #[.slice A1 l.length c1] 24)).alloc (.cells #[.slice A2 m.length c2] 24))) := ⟨k1, k2, hB0⟩
  have HFL := Lib.hid (fun W (h : Below w.heap.size w W) => few10_any w _ l 20 W h h1 hl hpl)
  have HFM := Lib.hid (fun W (h : Below w.heap.size w W) => few10_any w _ m 20 W h h2 hm hpm)
  obtain ⟨nl1, nl2, nl3, nl4⟩ := fields_few (l := l) hfl hil
  obtain ⟨nm1, nm2, nm3, nm4⟩ := fields_few (l := m) hfm him
  have HDL := Lib.hid (fun W (h : Below w.heap.size w W) => digest_any w ht _ l W h h1 hil nl1 nl2 nl3 (by omega))
  have HDM := Lib.hid (fun W (h : Below w.heap.size w W) => digest_any w ht _ m W h h2 him nm1 nm2 nm3 (by omega))
  have HRL := Lib.hid (fun W (h : Below w.heap.size w W) => refFields_any w _ l W h h1 hil nl1 nl3 (by omega))
  have HRM := Lib.hid (fun W (h : Below w.heap.size w W) => refFields_any w _ m W h h2 him nm1 nm3 (by omega))
  have HSA := Lib.hid (fun W (h : Below w.heap.size w W) => fsame_any w l m _ _ W h h1 h2 (by omega) nl3)
  have HJL := Lib.hid (fun v W h => refJoined_any v (fieldsL l) W h nl2 nl1)
  have HJM := Lib.hid (fun v W h => refJoined_any v (fieldsL m) W h nm2 nm1)
  obtain ⟨X, hX⟩ : ∃ X, X = (⟨(joinedL (fieldsL l)).toArray⟩ : ByteArray) := ⟨_, rfl⟩
  obtain ⟨Y, hY⟩ : ∃ X, X = (⟨(joinedL (fieldsL m)).toArray⟩ : ByteArray) := ⟨_, rfl⟩
  rw [← hX] at HJL
  rw [← hY] at HJM
  have hsx : sumB X = digestB l := by rw [hX]; exact sum_digest l
  have hsy : sumB Y = digestB m := by rw [hY]; exact sum_digest m
  have hzx : X.size ≤ maxLen := by rw [hX]; exact size_joined nl2
  have hzy : Y.size ≤ maxLen := by rw [hY]; exact size_joined nm2
  have HIS := Lib.hid (fun W => isDigest_any X W)
  have HUL := Lib.hid (fun W => sum_any X hzx W)
  have HUM := Lib.hid (fun W => sum_any Y hzy W)
  rw [hsx] at HIS HUL
  rw [hsy] at HUM
  have HLM := Lib.hid hlm
  have HDE := Lib.hid hde
  have HXY : Hid (¬ l = m → ¬ X.toList = Y.toList) := fun h => joined_ne hX hY h
  have HA := Lib.hid hfl
  have HC := Lib.hid hfm
  clear hX hY hsx hsy hzx hzy hlm hde hfl hfm
  generalize digestB l = DL at *
  generalize digestB m = DM at *
  clear k1 k2 hB0 h1 h2 hpl hpm hil him ht nl1 nl2 nl3 nl4 nm1 nm2 nm3 nm4
  have HEQ := Lib.hid (decide_eq_false HLM.out)
  have HXP := Lib.hid (HXY.out HLM.out)
  have HDP : Hid (¬ DL.toList = DM.toList) := by
    show ¬ DL.toList = DM.toList
    simpa [bne] using HDE.out
  go_enter Tryz.func4, Tryz.ntmps4
  go_wp2_with (first | (go_at_call 5; refine (head_any _).mono ?_; rintro e w1 ⟨rfl, hb1⟩; have HT1 := Lib.hid (HT0.out.below hb1); obtain ⟨p1, p2⟩ := HT1.out.s.facts; obtain ⟨p3, p4⟩ := HT1.out.t.facts; clear hb1) | (go_at_call 6; refine (HFL.out _ HT1.out.b).mono ?_; clear HFL; rintro e w2 ⟨rfl, hb2⟩; rw [HA.out]; have HT2 := Lib.hid (HT1.out.below hb2); obtain ⟨q2a, q2b⟩ := HT2.out.s.facts; obtain ⟨q2c, q2d⟩ := HT2.out.t.facts; clear hb2) | (go_at_call 6; refine (HFM.out _ HT2.out.b).mono ?_; clear HFM; rintro e w3 ⟨rfl, hb3⟩; rw [HC.out]; have HT3 := Lib.hid (HT2.out.below hb3); obtain ⟨q3a, q3b⟩ := HT3.out.s.facts; obtain ⟨q3c, q3d⟩ := HT3.out.t.facts; clear hb3))
  go_cut [6, 7] from 20 to 23 (fun a b wc => a = .string DL ∧ b = .string DM ∧ Hid (TwB w #[.slice A1 l.length c1] #[.slice A2 m.length c2] wc))
  case first =>
    have HK := Lib.hid (fun W (h : TwB w #[.slice A1 l.length c1] #[.slice A2 m.length c2] W) => (⟨h.s.facts.1 0, h.t.facts.1 0⟩ : (fun W => W.cell? ⟨w.heap.size, 0, none⟩ = some (.slice A1 l.length c1) ∧ W.cell? ⟨w.heap.size + 1, 0, none⟩ = some (.slice A2 m.length c2)) W))
    refine wp_region_held_drew (S := fun W => W.cell? ⟨w.heap.size, 0, none⟩ = some (.slice A1 l.length c1) ∧ W.cell? ⟨w.heap.size + 1, 0, none⟩ = some (.slice A2 m.length c2)) (by kernel_rfl) (HK.out _ HT3.out.drew) (fun hHeld => ?_)
    refine plI [(0, false), (2, false)] ?_
    repeat ((first | ((with_reducible show Plan ((_, true) :: _) _); refine plF ?_) | (refine plR (v := ?_) ?_ ?_; rotate_left; focus (intro W hSW; (try dsimp only at hSW); go_simp; all_goals (with_reducible rfl)))); try simp only [Act.put, List.setIfInBounds_toArray, List.set_cons_zero, List.set_cons_succ])
    refine plE ?_
    refine wpAnyH_ready (rs := [1]) (by kernel_rfl) (by simp) ?_
    refine AllReadyH.cons (o := ⟨_, _, _, _, _, _⟩) rfl (fun K hK => ?_) AllReadyH.nil
    go_simp
    go_at_call 17; refine (HDL.out _ (HT3.out.drew).b).mono ?_; rintro e wc1 ⟨rfl, hbc1⟩; have HTc1 := Lib.hid ((HT3.out.drew).below hbc1); clear hbc1
    refine hK.out _ _ (HK.out _ HTc1.out) (fun hHeld => ?_)
    clear hK K
    try simp only [Act.put, List.setIfInBounds_toArray, List.set_cons_zero, List.set_cons_succ]
    refine wpAnyH_ready (rs := [3]) (by kernel_rfl) (by simp) ?_
    refine AllReadyH.cons (o := ⟨_, _, _, _, _, _⟩) rfl (fun K hK => ?_) AllReadyH.nil
    go_simp
    go_at_call 17; refine (HDM.out _ (HTc1.out).b).mono ?_; rintro e wc3 ⟨rfl, hbc3⟩; have HTc3 := Lib.hid ((HTc1.out).below hbc3); clear hbc3
    refine hK.out _ _ (HK.out _ HTc3.out) (fun hHeld => ?_)
    clear hK K
    try simp only [Act.put, List.setIfInBounds_toArray, List.set_cons_zero, List.set_cons_succ]
    refine plI [(4, false), (5, false)] ?_
    repeat ((first | ((with_reducible show Plan ((_, true) :: _) _); refine plF ?_) | (refine plR (v := ?_) ?_ ?_; rotate_left; focus (intro W hSW; (try dsimp only at hSW); go_simp; all_goals (with_reducible rfl)))); try simp only [Act.put, List.setIfInBounds_toArray, List.set_cons_zero, List.set_cons_succ])
    refine plE ?_
    refine wpAnyH_done (by kernel_rfl) ?_ _
    clear hHeld HK
    go_wp2_with fail
    go_meet
    exact ⟨rfl, rfl, HTc3.out⟩
  case rest =>
    obtain ⟨rfl, rfl, HT4⟩ := hcut
    clear HDL HDM
    obtain ⟨u4a, u4b⟩ := HT4.out.s.facts
    obtain ⟨u4c, u4d⟩ := HT4.out.t.facts
    go_wp2_with (first | (go_at_call 19; refine (HIS.out _).mono ?_; rintro e w5 ⟨rfl, hb5⟩; have HT5 := Lib.hid (HT4.out.below hb5); obtain ⟨u5a, u5b⟩ := HT5.out.s.facts; obtain ⟨u5c, u5d⟩ := HT5.out.t.facts; clear hb5) | (go_at_call 15; refine (HSA.out _ HT5.out.b).mono ?_; rintro e w6 ⟨rfl, hb6⟩; rw [HEQ.out]; have HT6 := Lib.hid (HT5.out.below hb6); obtain ⟨u6a, u6b⟩ := HT6.out.s.facts; obtain ⟨u6c, u6d⟩ := HT6.out.t.facts; clear hb6))
    go_cut [8, 9] from 37 to 42 (fun a b wc => a = .string X ∧ b = .string Y ∧ Hid (TwB w #[.slice A1 l.length c1] #[.slice A2 m.length c2] wc))
    case first =>
      have HK := Lib.hid (fun W (h : TwB w #[.slice A1 l.length c1] #[.slice A2 m.length c2] W) => (⟨h.s.facts.1 0, h.t.facts.1 0⟩ : (fun W => W.cell? ⟨w.heap.size, 0, none⟩ = some (.slice A1 l.length c1) ∧ W.cell? ⟨w.heap.size + 1, 0, none⟩ = some (.slice A2 m.length c2)) W))
      refine wp_region_held_drew (S := fun W => W.cell? ⟨w.heap.size, 0, none⟩ = some (.slice A1 l.length c1) ∧ W.cell? ⟨w.heap.size + 1, 0, none⟩ = some (.slice A2 m.length c2)) (by kernel_rfl) (HK.out _ HT6.out.drew) (fun hHeld => ?_)
      refine plI [(0, false), (3, false)] ?_
      repeat ((first | ((with_reducible show Plan ((_, true) :: _) _); refine plF ?_) | (refine plR (v := ?_) ?_ ?_; rotate_left; focus (intro W hSW; (try dsimp only at hSW); go_simp; all_goals (with_reducible rfl)))); try simp only [Act.put, List.setIfInBounds_toArray, List.set_cons_zero, List.set_cons_succ])
      refine plE ?_
      refine wpAnyH_ready (rs := [1]) (by kernel_rfl) (by simp) ?_
      refine AllReadyH.cons (o := ⟨_, _, _, _, _, _⟩) rfl (fun K hK => ?_) AllReadyH.nil
      go_simp
      go_at_call 21; refine (HRL.out _ (HT6.out.drew).b).mono ?_; rintro e wc1 ⟨vf1, rfl, hs1, hbc1⟩; have HSl1 := Lib.hid hs1; have HTc1 := Lib.hid ((HT6.out.drew).below hbc1); have hbx1 := Lib.hid hbc1; clear hbc1 hs1
      refine hK.out _ _ (HK.out _ HTc1.out) (fun hHeld => ?_)
      clear hK K
      try simp only [Act.put, List.setIfInBounds_toArray, List.set_cons_zero, List.set_cons_succ]
      refine wpAnyH_ready (rs := [2]) (by kernel_rfl) (by simp) ?_
      refine AllReadyH.cons (o := ⟨_, _, _, _, _, _⟩) rfl (fun K hK => ?_) AllReadyH.nil
      go_simp
      go_at_call 20; refine (HJL.out _ _ (HSl1.out)).mono ?_; rintro e wc2 ⟨rfl, hbc2⟩; have HTc2 := Lib.hid ((HTc1.out).below hbc2); have hbx2 := Lib.hid hbc2; clear hbc2
      refine hK.out _ _ (HK.out _ HTc2.out) (fun hHeld => ?_)
      clear hK K
      try simp only [Act.put, List.setIfInBounds_toArray, List.set_cons_zero, List.set_cons_succ]
      refine wpAnyH_ready (rs := [4]) (by kernel_rfl) (by simp) ?_
      refine AllReadyH.cons (o := ⟨_, _, _, _, _, _⟩) rfl (fun K hK => ?_) AllReadyH.nil
      go_simp
      go_at_call 21; refine (HRM.out _ (HTc2.out).b).mono ?_; rintro e wc4 ⟨vf4, rfl, hs4, hbc4⟩; have HSl4 := Lib.hid hs4; have HTc4 := Lib.hid ((HTc2.out).below hbc4); have hbx4 := Lib.hid hbc4; clear hbc4 hs4
      refine hK.out _ _ (HK.out _ HTc4.out) (fun hHeld => ?_)
      clear hK K
      try simp only [Act.put, List.setIfInBounds_toArray, List.set_cons_zero, List.set_cons_succ]
      refine wpAnyH_ready (rs := [5]) (by kernel_rfl) (by simp) ?_
      refine AllReadyH.cons (o := ⟨_, _, _, _, _, _⟩) rfl (fun K hK => ?_) AllReadyH.nil
      go_simp
      go_at_call 20; refine (HJM.out _ _ (HSl4.out)).mono ?_; rintro e wc5 ⟨rfl, hbc5⟩; have HTc5 := Lib.hid ((HTc4.out).below hbc5); have hbx5 := Lib.hid hbc5; clear hbc5
      refine hK.out _ _ (HK.out _ HTc5.out) (fun hHeld => ?_)
      clear hK K
      try simp only [Act.put, List.setIfInBounds_toArray, List.set_cons_zero, List.set_cons_succ]
      refine plI [(6, false), (7, false)] ?_
      repeat ((first | ((with_reducible show Plan ((_, true) :: _) _); refine plF ?_) | (refine plR (v := ?_) ?_ ?_; rotate_left; focus (intro W hSW; (try dsimp only at hSW); go_simp; all_goals (with_reducible rfl)))); try simp only [Act.put, List.setIfInBounds_toArray, List.set_cons_zero, List.set_cons_succ])
      refine plE ?_
      refine wpAnyH_done (by kernel_rfl) ?_ _
      clear hHeld HK
      go_wp2_with fail
      go_meet
      exact ⟨rfl, rfl, HTc5.out⟩
    case rest =>
      obtain ⟨rfl, rfl, HT7⟩ := hcut
      obtain ⟨u7a, u7b⟩ := HT7.out.s.facts
      obtain ⟨u7c, u7d⟩ := HT7.out.t.facts
      have hxp := HXP.out
      have hxb : (X.toList == Y.toList) = false := (by simpa using hxp)
      have hdb : (DL.toList == DM.toList) = false := (by simpa using HDP.out)
      clear HUL HUM HRL HRM HJL HJM HIS HXY HDE
      go_wp2_with (first | (go_at_call 15; refine (HSA.out _ HT7.out.b).mono ?_; rintro e w8 ⟨rfl, hb8⟩; rw [HEQ.out]; have HT8 := Lib.hid (HT7.out.below hb8); obtain ⟨u8a, u8b⟩ := HT8.out.s.facts; obtain ⟨u8c, u8d⟩ := HT8.out.t.facts; clear hb8))
      go_ret
      exact ⟨rfl, HT8.out.b⟩
theorem digests_any (v1 v2 : Value) (l m : List Pa) (w : World) (ht : Tab w) (h1 : Sta w v1 l) (h2 : Sta w v2 m) (hl : l.length ≤ maxLen) (hm : m.length ≤ maxLen) (hpl : ∀ p ∈ l, p.wide) (hpm : ∀ p ∈ m, p.wide) (hil : ∀ p ∈ l, p.i64) (him : ∀ p ∈ m, p.i64) :
    Calls Tryz.prog 4 #[.agg #[v1], .agg #[v2]] w fun e w' => e = .returned (.bool true) ∧ Below w.heap.size w w' := by
  cases hfl : fewSt l 20
  · exact digests_1 v1 v2 l m w ht h1 h2 hl hm hpl hpm hil him hfl
  cases hfm : fewSt m 20
  · exact digests_2 v1 v2 l m w ht h1 h2 hl hm hpl hpm hil him hfl hfm
  by_cases hlm : l = m
  · exact digests_3 v1 v2 l m w ht h1 h2 hl hm hpl hpm hil him hfl hfm hlm trivial
  cases hde : ((digestB l).toList != (digestB m).toList)
  · exact digests_4 v1 v2 l m w ht h1 h2 hl hm hpl hpm hil him hfl hfm hlm hde
  · exact digests_5 v1 v2 l m w ht h1 h2 hl hm hpl hpm hil him hfl hfm hlm hde
end Go.Proofs.YtccnocgmikmonaaGreatDoor
