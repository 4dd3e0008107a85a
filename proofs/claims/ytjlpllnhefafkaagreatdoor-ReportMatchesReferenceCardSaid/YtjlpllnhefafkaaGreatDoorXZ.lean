/- bogielaw13.ReportMatchesReference returns true. Condition: the table of powers of ten, the error variables, bytealg.MaxLen holds a number. -/
import Derived.Test.YtjlpllnhefafkaaGreatDoorXD
import Derived.Test.YtjlpllnhefafkaaGreatDoorXJ
import Derived.Test.YtjlpllnhefafkaaGreatDoorXK
import Derived.Test.YtjlpllnhefafkaaGreatDoorXV
import Derived.Test.YtjlpllnhefafkaaGreatDoorXX
import Derived.Test.YtjlpllnhefafkaaGreatDoorXY
namespace Go.Proofs.YtjlpllnhefafkaaGreatDoor
open Go Go.RowKit
theorem refPicked_any (v u : Value) (L : List Rep) (ch : List Int) (w : World) (hv : Reps w v L) (hu : Sl w u ch.length 1 (intF ch)) (hl : L.length ≤ 1000) (ho : ∀ r ∈ L, r.opts.length ≤ 1000) (hs : ∀ r ∈ L, ∀ e ∈ r.opts, e.short) :
    Calls Tryz.prog 7 #[v, u] w fun r w' => ∃ v' l, r = .returned (.tuple #[v', .int .i64 (if pickOk L ch then 0 else 1)]) ∧ l = (if pickOk L ch then pk L ch L.length else []) ∧ Sl w' v' l.length 14 (evF l) ∧ Below w.heap.size w w' := by
  cases hpk : pickOk L ch with
  | false =>
    refine (refPicked_no v u L ch w hv hu hl ho hs hpk).mono ?_
    rintro e w' ⟨rfl, h⟩
    exact ⟨_, [], rfl, rfl, ⟨_, _, rfl, Nat.le_refl _, .inl rfl⟩, h⟩
  | true =>
    refine (refPicked_yes v u L ch w hv hu hl ho hs hpk).mono ?_
    rintro e w' ⟨v', rfl, h2, h⟩
    exact ⟨_, _, rfl, rfl, h2, h⟩
theorem fewR_all {L : List Rep} {n : Nat} (h : fewB L n = true) : L.length ≤ 12 ∧ n ≤ 30 ∧ ∀ r ∈ L, r.opts.length ≤ 6 := by
  have h2 : (fewR L 12 && decide (n ≤ 30)) = true := h
  have h3 : (decide (L.length ≤ 12) && L.all (fun r => fewE r.opts 6)) = true := (Bool.and_eq_true_iff.1 h2).1
  refine ⟨of_decide_eq_true (Bool.and_eq_true_iff.1 h3).1, of_decide_eq_true (Bool.and_eq_true_iff.1 h2).2, fun r hr => ?_⟩
  have h4 : ((r.opts.take (6 + 1)).all shortB && decide (r.opts.length ≤ 6)) = true := List.all_eq_true.1 (Bool.and_eq_true_iff.1 h3).2 r hr
  exact of_decide_eq_true (Bool.and_eq_true_iff.1 h4).2
theorem parseR_small (s : ByteArray) : (parseR s).1.opts.length ≤ 4 := by
  rcases parseR_only s with ⟨_, h, _⟩ | h | h
  · exact repOk_le h
  · rw [h]; exact Nat.zero_le _
  · unfold parseR; rw [if_pos h.2]; exact Nat.zero_le _
theorem range_later {w w' : World} {b o : Nat} {cs : List Value} (h : w.rangeAt b o cs) (hb : Below w.heap.size w w') : w'.rangeAt b o cs :=
  fun j v hj => cell_later hb (h j v hj)
theorem repNames_le (l : List Ev) : (repNames l).length ≤ l.length * 2 := by
  unfold repNames
  split
  · exact Nat.le_trans (joinL_len _) (flat_le l)
  · exact Nat.zero_le _
set_option maxRecDepth 100000 in
set_option maxHeartbeats 8000000 in
theorem match_few (lv cv : Value) (L : List Rep) (ch : List Int) (s : ByteArray) (w : World) (ht : Tab w) (_hv : Evs w) (_hm : Mxl w) (hL : Reps w lv L) (hc : Sl w cv ch.length 1 (intF ch))
    (_hs : ∀ r ∈ L, ∀ e ∈ r.opts, e.short) (hl : L.length ≤ 9223372036854775807) (ho : ∀ r ∈ L, r.opts.length ≤ 9223372036854775807) (hfew : fewB L ch.length = false) :
    Calls Tryz.prog 3 #[lv, cv, .string s] w fun r w' => r = .returned (.bool true) ∧ Below w.heap.size w w' := by
  have HHD := Lib.hid (fun W (hb : Below w.heap.size w W) => head_any w ht W hb)
  obtain ⟨A1, c1, rfl, _⟩ := sl_len hc
  have HFW := Lib.hid (fun W (hb : Below w.heap.size w W) => few_any lv _ L ch.length c1 A1 W rfl (hL.below hb) hl ho)
  have HFEW := Lib.hid hfew
  clear hfew ht _hv _hm hL hc _hs hl ho
  go_enter Tryz.func3, Tryz.ntmps3
  go_wp2_with (first | (go_at_call 4; refine (HHD.out _ (Below.refl _ _)).mono ?_; rintro e w1 ⟨rfl, hb⟩; have HB1 := Lib.hid hb; clear hb) | (go_at_call 5; refine (HFW.out w1 HB1.out).mono ?_; rintro e w2 ⟨rfl, hb⟩; rw [HFEW.out]; have HB2 := Lib.hid (HB1.out.trans (hb.mono HB1.out.size)); clear hb))
  refine bodyPost_ret (v := .bool true) (by simp [results, Tryz.results3, go_sem]) rfl ?_
  exact ⟨rfl, HB2.out⟩
set_option maxRecDepth 100000 in
set_option maxHeartbeats 8000000 in
theorem match_big (lv cv : Value) (L : List Rep) (ch : List Int) (s : ByteArray) (w : World) (ht : Tab w) (_hv : Evs w) (_hm : Mxl w) (hL : Reps w lv L) (hc : Sl w cv ch.length 1 (intF ch))
    (_hs : ∀ r ∈ L, ∀ e ∈ r.opts, e.short) (hl : L.length ≤ 9223372036854775807) (ho : ∀ r ∈ L, r.opts.length ≤ 9223372036854775807) (hfew : fewB L ch.length = true) (hz : 3000 < s.size) :
    Calls Tryz.prog 3 #[lv, cv, .string s] w fun r w' => r = .returned (.bool true) ∧ Below w.heap.size w w' := by
  have HHD := Lib.hid (fun W (hb : Below w.heap.size w W) => head_any w ht W hb)
  obtain ⟨A1, c1, rfl, _⟩ := sl_len hc
  have HFW := Lib.hid (fun W (hb : Below w.heap.size w W) => few_any lv _ L ch.length c1 A1 W rfl (hL.below hb) hl ho)
  have HFEW := Lib.hid hfew
  have hbig : (3000 : Int) < (s.size : Int) := by omega
  clear hfew ht _hv _hm hL hc _hs hl ho
  go_enter Tryz.func3, Tryz.ntmps3
  go_wp2_with (first | (go_at_call 4; refine (HHD.out _ (Below.refl _ _)).mono ?_; rintro e w1 ⟨rfl, hb⟩; have HB1 := Lib.hid hb; clear hb) | (go_at_call 5; refine (HFW.out w1 HB1.out).mono ?_; rintro e w2 ⟨rfl, hb⟩; rw [HFEW.out]; have HB2 := Lib.hid (HB1.out.trans (hb.mono HB1.out.size)); clear hb))
  refine bodyPost_ret (v := .bool true) (by simp [results, Tryz.results3, go_sem]) rfl ?_
  exact ⟨rfl, HB2.out⟩
set_option maxRecDepth 100000 in
set_option maxHeartbeats 8000000 in
theorem match_all (lv cv : Value) (L : List Rep) (ch : List Int) (s : ByteArray) (w : World) (ht : Tab w) (hv : Evs w) (hm : Mxl w) (hL : Reps w lv L) (hc : Sl w cv ch.length 1 (intF ch))
    (hs : ∀ r ∈ L, ∀ e ∈ r.opts, e.short) (hl : L.length ≤ 9223372036854775807) (ho : ∀ r ∈ L, r.opts.length ≤ 9223372036854775807) (hfew : fewB L ch.length = true) (hz : s.size ≤ 3000) :
    Calls Tryz.prog 3 #[lv, cv, .string s] w fun r w' => r = .returned (.bool true) ∧ Below w.heap.size w w' := by
  have HHD := Lib.hid (fun W (hb : Below w.heap.size w W) => head_any w ht W hb)
  obtain ⟨A1, c1, rfl, _⟩ := sl_len hc
  have HFW := Lib.hid (fun W (hb : Below w.heap.size w W) => few_any lv _ L ch.length c1 A1 W rfl (hL.below hb) hl ho)
  have HFEW := Lib.hid hfew
  have hbig : (s.size : Int) ≤ 3000 := by omega
  obtain ⟨h12, h30, h6⟩ := fewR_all hfew
  have HPK := Lib.hid (fun W (hb : Below w.heap.size w W) => picked_any lv _ L ch W (hL.below hb) (hc.below hb) (by omega) (by omega) (fun r hr => by have := h6 r hr; omega) hs)
  have HRK := Lib.hid (fun W (hb : Below w.heap.size w W) => refPicked_any lv _ L ch W (hL.below hb) (hc.below hb) (by omega) (fun r hr => by have := h6 r hr; omega) hs)
  have HPT := Lib.hid (fun W (hb : Below w.heap.size w W) => parseR_any s w W ht hv hm hb (by unfold maxLen; omega))
  have HRP := Lib.hid (fun W => refParseRep_any s W)
  have hp4 := parseR_small s
  have hpl : ((pk L ch L.length).length : Int) ≤ 12 := by have := pk_le L ch L.length; omega
  obtain ⟨M, hM⟩ : ∃ M, (if pickOk L ch then pk L ch L.length else []) = M := ⟨_, rfl⟩
  have hMl : M.length ≤ 12 := by rw [← hM]; split <;> (try simp) <;> omega
  have HME := Lib.hid hM
  have HSM := Lib.hid (fun v u W (h1 : Sl W v M.length 14 (evF M)) (h2 : Sl W u M.length 14 (evF M)) => same_any v u M M W h1 h2 (by omega) (by omega))
  rw [show sameB M M = true from decide_eq_true rfl] at HSM
  generalize (parseR s).1 = P at *
  generalize (parseR s).2 = pe at *
  have HSR := Lib.hid (fun v u W (h1 : Sl W v P.opts.length 14 (evF P.opts)) (h2 : Sl W u P.opts.length 14 (evF P.opts)) => sameR_any v u P P W h1 h2 (by omega) (by omega))
  rw [(sameR_iff P P).2 rfl] at HSR
  generalize hke : (if pickOk L ch then (0 : Int) else 1) = ke at HPK HRK
  obtain ⟨A0, c0, rfl, hn0, hc0⟩ := hL
  have HC := Lib.hid hc0
  have HS := Lib.hid hs
  have H6 := Lib.hid h6
  have HTW := Lib.hid ht
  clear hfew ht hv hm hc hs hl ho hz hM hp4 hpl hc0 hke h30 h6
  go_enter Tryz.func3, Tryz.ntmps3
  go_wp2_with (first | (go_at_call 4; refine (HHD.out _ (Below.refl _ _)).mono ?_; rintro e w1 ⟨rfl, hb⟩; have HB1 := Lib.hid hb; clear hb) | (go_at_call 5; refine (HFW.out w1 HB1.out).mono ?_; rintro e w2 ⟨rfl, hb⟩; rw [HFEW.out]; have HB2 := Lib.hid (HB1.out.trans (hb.mono HB1.out.size)); clear hb) | (go_at_call 6; refine (HPK.out w2 HB2.out).mono ?_; rintro e w3 ⟨v3, l3, rfl, rfl, hs3, hb⟩; rw [HME.out] at hs3; obtain ⟨A3, c3, rfl, _⟩ := sl_len hs3; have HS3 := Lib.hid hs3; have HB3 := Lib.hid (HB2.out.trans (hb.mono HB2.out.size)); clear hs3; clear hb) | (go_at_call 7; refine (HRK.out w3 HB3.out).mono ?_; rintro e w4 ⟨v4, l4, rfl, rfl, hs4, hb⟩; rw [HME.out] at hs4; obtain ⟨A4, c4, rfl, _⟩ := sl_len hs4; have HS4 := Lib.hid hs4; have HS34 := Lib.hid (HS3.out.below hb); have HB4 := Lib.hid (HB3.out.trans (hb.mono HB3.out.size)); clear hs4; clear hb) | (go_at_call 8; refine (HPT.out w4 HB4.out).mono ?_; rintro e w5 ⟨v5, rfl, hs5, hb⟩; obtain ⟨A5, c5, rfl, _⟩ := sl_len hs5; have HS5 := Lib.hid hs5; have HS35 := Lib.hid (HS34.out.below hb); have HS45 := Lib.hid (HS4.out.below hb); have HB5 := Lib.hid (HB4.out.trans (hb.mono HB4.out.size)); clear hs5; clear hb) | (go_at_call 9; refine (HRP.out (w5.alloc (.cells #[.slice A5 P.opts.length c5, .bool P.doubt] 31))).mono ?_; rintro e w6 ⟨v6, rfl, hs6, hb⟩; obtain ⟨A6, c6, rfl, _⟩ := sl_len hs6; have HS6 := Lib.hid hs6; have HX6 := Lib.hid ((Has.new w5 31 #[.slice A5 P.opts.length c5, .bool P.doubt]).below hb (by simp)); have hb5 : Below w5.heap.size w5 w6 := ((Below.refl _ _).alloc (Nat.le_refl _) (.cells #[.slice A5 P.opts.length c5, .bool P.doubt] 31)).trans (hb.mono (by simp)); have HS36 := Lib.hid (HS35.out.below hb5); have HS46 := Lib.hid (HS45.out.below hb5); have HS56 := Lib.hid (HS5.out.below hb5); have HB6 := Lib.hid (HB5.out.trans (hb5.mono HB5.out.size)); have hz56 : w5.heap.size < w6.heap.size := HX6.out.lt; clear hb hb5 hs6) | (go_at_call 10; refine (HSM.out _ _ (w6.alloc (.cells #[.slice A6 P.opts.length c6, .bool P.doubt] 31)) (HS36.out.below ((Below.refl _ _).alloc (Nat.le_refl _) (.cells #[.slice A6 P.opts.length c6, .bool P.doubt] 31))) (HS46.out.below ((Below.refl _ _).alloc (Nat.le_refl _) (.cells #[.slice A6 P.opts.length c6, .bool P.doubt] 31)))).mono ?_; rintro e w7 ⟨rfl, hb⟩; have HX7 := Lib.hid ((HX6.out.alloc (.cells #[.slice A6 P.opts.length c6, .bool P.doubt] 31)).below hb (by simp; omega)); have HY7 := Lib.hid ((Has.new w6 31 #[.slice A6 P.opts.length c6, .bool P.doubt]).below hb (by simp)); have hb6 : Below w6.heap.size w6 w7 := ((Below.refl _ _).alloc (Nat.le_refl _) (.cells #[.slice A6 P.opts.length c6, .bool P.doubt] 31)).trans (hb.mono (by simp)); have HS57 := Lib.hid (HS56.out.below hb6); have HS67 := Lib.hid (HS6.out.below hb6); have HB7 := Lib.hid (HB6.out.trans (hb6.mono HB6.out.size)); obtain ⟨x7, y7⟩ := HX7.out.facts; obtain ⟨x8, y8⟩ := HY7.out.facts; clear hb hb6) | (go_at_call 11; refine (HSR.out _ _ w7 HS57.out HS67.out).mono ?_; rintro e w8 ⟨rfl, hb⟩; have HB8 := Lib.hid (HB7.out.trans (hb.mono HB7.out.size)); clear x7 y7 x8 y8; clear hb))
  clear HPK HRK HPT HRP HSM HSR HX6 HX7 HY7 HS3 HS4 HS5 HS6 HS34 HS35 HS45 HS36 HS46 HS56 HS57 HS67 HME HHD HFW HFEW
  go_loopw [16] (fun i wr => ∃ k : Nat, k ≤ L.length ∧ i = .int .i64 k ∧ Hid (Below w.heap.size w wr)) (fun i _ => L.length - (intOf i).toNat)
  case atStart => exact ⟨0, Nat.zero_le _, rfl, HB8.out⟩
  case round =>
    obtain ⟨k, hk, rfl, HB⟩ := hrel
    clear HB1 HB2 HB3 HB4 HB5 HB6 HB7 HB8
    by_cases hlt : k < L.length
    · rcases HC.out with h0 | ⟨b, o, rfl, hc⟩
      · omega
      obtain ⟨sv, q1, q2, q3⟩ := hc k hlt
      obtain ⟨A2, c2, rfl, hn2⟩ := sl_len q3
      have hshort := HS.out _ (getD_mem L k noRep hlt)
      have hol := H6.out _ (getD_mem L k noRep hlt)
      clear hc
      generalize L.getD k noRep = r at *
      have hrow : w.rangeAt b (o + k * 2) [.slice A2 r.opts.length c2, .bool r.doubt] := fun j v hj => by
        match j, hj with
        | 0, hj => obtain rfl : .slice A2 r.opts.length c2 = v := by simpa using hj
                   exact q1
        | 1, hj => obtain rfl : .bool r.doubt = v := by simpa using hj
                   exact q2
      have HROW := Lib.hid (fun W (hb : Below w.heap.size w W) => range_later hrow hb)
      have HTX := Lib.hid (fun W (hb : Below w.heap.size w W) => repText_any _ r w W HTW.out hb (q3.below hb) hshort (by omega))
      have HRT := Lib.hid (fun W (hb : Below w.heap.size w W) => refRepText_any _ r W (q3.below hb) hshort (by omega))
      have HVD := Lib.hid (fun W (hb : Below w.heap.size w W) => repValid_any _ r.opts r.doubt W (q3.below hb) hshort (by omega))
      have HRV := Lib.hid (fun W (hb : Below w.heap.size w W) => refRep_any _ r.opts r.doubt W (q3.below hb) hshort (by omega))
      have HCH := Lib.hid (fun W (hb : Below w.heap.size w W) => choices_any _ r.opts r.doubt W (q3.below hb) hshort (by omega))
      have HRC := Lib.hid (fun W (hb : Below w.heap.size w W) => refChoices_any _ r.opts r.doubt W (q3.below hb) hshort (by omega))
      have HNM := Lib.hid (fun W (hb : Below w.heap.size w W) => rnames_any _ r.opts r.doubt W (q3.below hb) hshort (by omega))
      have HRN := Lib.hid (fun W (hb : Below w.heap.size w W) => refNames_any _ r.opts r.doubt W (q3.below hb) hshort (by omega))
      have hnl := repNames_le r.opts
      have hkr := HROW.out _ HB.out
      have hki : (k : Int) < (L.length : Int) := by omega
      generalize repNames r.opts = nm at *
      generalize numC r.opts r.doubt = nc at *
      generalize (if repOk r.opts = true then textR r else ⟨#[]⟩) = tx at *
      generalize (if repOk r.opts = true then (0 : Int) else 1) = te at *
      generalize repOk r.opts = rok at *
      have HSG := Lib.hid (fun v u W (h1 : Sl W v nm.length 1 (strF nm)) (h2 : Sl W u nm.length 1 (strF nm)) => strings01_any v u nm nm W h1 h2 (by omega))
      rw [decide_eq_true (rfl : nm = nm)] at HSG
      clear q1 q2 q3 hrow hshort
      go_wp2_with (first | ((with_reducible show wpList _ _ _ (Oper.mk (some 84) _ _ _ _ _ :: _) _ _); refine wpList_load_mid rfl 31 _ rfl b (o + k * 2) rfl [.slice A2 r.opts.length c2, .bool r.doubt] _ hkr Tryz.underlying31 rfl rfl ?_) | ((with_reducible show wpList _ _ _ (Oper.mk (some 92) _ _ _ _ _ :: _) _ _); refine wpList_load_mid rfl 31 _ rfl b (o + k * 2) rfl [.slice A2 r.opts.length c2, .bool r.doubt] _ hkr Tryz.underlying31 rfl rfl ?_) | (go_at_call 12; refine (HTX.out _ HB.out).mono ?_; rintro e w1 ⟨rfl, hb⟩; have HB1 := Lib.hid (HB.out.trans (hb.mono HB.out.size)); clear hb hkr; have hkr := HROW.out _ HB1.out) | (go_at_call 13; refine (HRT.out _ HB1.out).mono ?_; rintro e w2 ⟨rfl, hb⟩; have HB2 := Lib.hid (HB1.out.trans (hb.mono HB1.out.size)); clear hb hkr; have hkr := HROW.out _ HB2.out))
      refine wp_region_held_drew (S := fun W => W.rangeAt b (o + k * 2) [.slice A2 r.opts.length c2, .bool r.doubt]) (by kernel_rfl) (HROW.out _ HB2.out.drew) (fun hHeld => ?_)
      refine plI [(0, false), (1, false), (2, false), (3, false), (4, false), (5, false), (6, false), (7, false), (8, false), (9, false), (10, false), (11, false)] ?_
      repeat ((first | ((with_reducible show Plan ((_, true) :: _) _); refine plF ?_) | (refine plR (v := ?_) ?_ ?_; rotate_left; focus (intro W hSW; (try dsimp only at hSW); go_simp; all_goals (with_reducible rfl)))); try simp only [Act.put, List.setIfInBounds_toArray, List.set_cons_zero, List.set_cons_succ])
      refine plE ?_
      refine wpAnyH_take (i := 12) (oi := ⟨_, _, _, _, _, _⟩) (v := _) rfl (by kernel_rfl) (by kernel_rfl) (by kernel_rfl) (fun _ _ _ h => h) (yieldsIf_load_mid (by rfl) 31 _ rfl b (o + k * 2) rfl [.slice A2 r.opts.length c2, .bool r.doubt] _ (fun W h => h) Tryz.underlying31 rfl rfl) (by assumption) ?_
      try simp only [Act.put, List.setIfInBounds_toArray, List.set_cons_zero, List.set_cons_succ]
      refine plI [(14, false), (15, false), (16, false)] ?_
      repeat ((first | ((with_reducible show Plan ((_, true) :: _) _); refine plF ?_) | (refine plR (v := ?_) ?_ ?_; rotate_left; focus (intro W hSW; (try dsimp only at hSW); go_simp; all_goals (with_reducible rfl)))); try simp only [Act.put, List.setIfInBounds_toArray, List.set_cons_zero, List.set_cons_succ])
      refine plE ?_
      refine wpAnyH_take (i := 17) (oi := ⟨_, _, _, _, _, _⟩) (v := _) rfl (by kernel_rfl) (by kernel_rfl) (by kernel_rfl) (fun _ _ _ h => h) (yieldsIf_load_mid (by rfl) 31 _ rfl b (o + k * 2) rfl [.slice A2 r.opts.length c2, .bool r.doubt] _ (fun W h => h) Tryz.underlying31 rfl rfl) (by assumption) ?_
      try simp only [Act.put, List.setIfInBounds_toArray, List.set_cons_zero, List.set_cons_succ]
      refine wpAnyH_ready (rs := [13]) (by kernel_rfl) (by simp) ?_
      refine AllReadyH.cons (o := ⟨_, _, _, _, _, _⟩) rfl (fun K hK => ?_) AllReadyH.nil
      go_simp
      have HB2d := Lib.hid HB2.out.drew; go_at_call 14; refine (HVD.out _ HB2d.out).mono ?_; rintro e w3 ⟨rfl, hb⟩; have HB3 := Lib.hid (HB2d.out.trans (hb.mono HB2d.out.size)); clear hb
      refine hK.out _ _ (HROW.out _ HB3.out) (fun hHeld => ?_)
      clear hK K
      try simp only [Act.put, List.setIfInBounds_toArray, List.set_cons_zero, List.set_cons_succ]
      refine wpAnyH_ready (rs := [18]) (by kernel_rfl) (by simp) ?_
      refine AllReadyH.cons (o := ⟨_, _, _, _, _, _⟩) rfl (fun K hK => ?_) AllReadyH.nil
      go_simp
      go_at_call 15; refine (HRV.out _ HB3.out).mono ?_; rintro e w4 ⟨rfl, hb⟩; have HB4 := Lib.hid (HB3.out.trans (hb.mono HB3.out.size)); clear hb
      refine hK.out _ _ (HROW.out _ HB4.out) (fun hHeld => ?_)
      clear hK K
      try simp only [Act.put, List.setIfInBounds_toArray, List.set_cons_zero, List.set_cons_succ]
      refine plI [(19, false), (20, false), (21, false), (22, false), (23, false), (24, false)] ?_
      repeat ((first | ((with_reducible show Plan ((_, true) :: _) _); refine plF ?_) | (refine plR (v := ?_) ?_ ?_; rotate_left; focus (intro W hSW; (try dsimp only at hSW); go_simp; all_goals (with_reducible rfl)))); try simp only [Act.put, List.setIfInBounds_toArray, List.set_cons_zero, List.set_cons_succ])
      refine plE ?_
      refine wpAnyH_take (i := 25) (oi := ⟨_, _, _, _, _, _⟩) (v := _) rfl (by kernel_rfl) (by kernel_rfl) (by kernel_rfl) (fun _ _ _ h => h) (yieldsIf_load_mid (by rfl) 31 _ rfl b (o + k * 2) rfl [.slice A2 r.opts.length c2, .bool r.doubt] _ (fun W h => h) Tryz.underlying31 rfl rfl) (by assumption) ?_
      try simp only [Act.put, List.setIfInBounds_toArray, List.set_cons_zero, List.set_cons_succ]
      refine plI [(27, false), (28, false), (29, false)] ?_
      repeat ((first | ((with_reducible show Plan ((_, true) :: _) _); refine plF ?_) | (refine plR (v := ?_) ?_ ?_; rotate_left; focus (intro W hSW; (try dsimp only at hSW); go_simp; all_goals (with_reducible rfl)))); try simp only [Act.put, List.setIfInBounds_toArray, List.set_cons_zero, List.set_cons_succ])
      refine plE ?_
      refine wpAnyH_take (i := 30) (oi := ⟨_, _, _, _, _, _⟩) (v := _) rfl (by kernel_rfl) (by kernel_rfl) (by kernel_rfl) (fun _ _ _ h => h) (yieldsIf_load_mid (by rfl) 31 _ rfl b (o + k * 2) rfl [.slice A2 r.opts.length c2, .bool r.doubt] _ (fun W h => h) Tryz.underlying31 rfl rfl) (by assumption) ?_
      try simp only [Act.put, List.setIfInBounds_toArray, List.set_cons_zero, List.set_cons_succ]
      refine wpAnyH_ready (rs := [26]) (by kernel_rfl) (by simp) ?_
      refine AllReadyH.cons (o := ⟨_, _, _, _, _, _⟩) rfl (fun K hK => ?_) AllReadyH.nil
      go_simp
      go_at_call 16; refine (HCH.out _ HB4.out).mono ?_; rintro e w5 ⟨rfl, hb⟩; have HB5 := Lib.hid (HB4.out.trans (hb.mono HB4.out.size)); clear hb
      refine hK.out _ _ (HROW.out _ HB5.out) (fun hHeld => ?_)
      clear hK K
      try simp only [Act.put, List.setIfInBounds_toArray, List.set_cons_zero, List.set_cons_succ]
      refine wpAnyH_ready (rs := [31]) (by kernel_rfl) (by simp) ?_
      refine AllReadyH.cons (o := ⟨_, _, _, _, _, _⟩) rfl (fun K hK => ?_) AllReadyH.nil
      go_simp
      go_at_call 17; refine (HRC.out _ HB5.out).mono ?_; rintro e w6 ⟨rfl, hb⟩; have HB6 := Lib.hid (HB5.out.trans (hb.mono HB5.out.size)); clear hb
      refine hK.out _ _ (HROW.out _ HB6.out) (fun hHeld => ?_)
      clear hK K
      try simp only [Act.put, List.setIfInBounds_toArray, List.set_cons_zero, List.set_cons_succ]
      refine plI [(32, false), (33, false), (34, false), (35, false), (36, false), (37, false)] ?_
      repeat ((first | ((with_reducible show Plan ((_, true) :: _) _); refine plF ?_) | (refine plR (v := ?_) ?_ ?_; rotate_left; focus (intro W hSW; (try dsimp only at hSW); go_simp; all_goals (with_reducible rfl)))); try simp only [Act.put, List.setIfInBounds_toArray, List.set_cons_zero, List.set_cons_succ])
      refine plE ?_
      refine wpAnyH_take (i := 38) (oi := ⟨_, _, _, _, _, _⟩) (v := _) rfl (by kernel_rfl) (by kernel_rfl) (by kernel_rfl) (fun _ _ _ h => h) (yieldsIf_load_mid (by rfl) 31 _ rfl b (o + k * 2) rfl [.slice A2 r.opts.length c2, .bool r.doubt] _ (fun W h => h) Tryz.underlying31 rfl rfl) (by assumption) ?_
      try simp only [Act.put, List.setIfInBounds_toArray, List.set_cons_zero, List.set_cons_succ]
      refine plI [(40, false), (41, false), (42, false)] ?_
      repeat ((first | ((with_reducible show Plan ((_, true) :: _) _); refine plF ?_) | (refine plR (v := ?_) ?_ ?_; rotate_left; focus (intro W hSW; (try dsimp only at hSW); go_simp; all_goals (with_reducible rfl)))); try simp only [Act.put, List.setIfInBounds_toArray, List.set_cons_zero, List.set_cons_succ])
      refine plE ?_
      refine wpAnyH_take (i := 43) (oi := ⟨_, _, _, _, _, _⟩) (v := _) rfl (by kernel_rfl) (by kernel_rfl) (by kernel_rfl) (fun _ _ _ h => h) (yieldsIf_load_mid (by rfl) 31 _ rfl b (o + k * 2) rfl [.slice A2 r.opts.length c2, .bool r.doubt] _ (fun W h => h) Tryz.underlying31 rfl rfl) (by assumption) ?_
      try simp only [Act.put, List.setIfInBounds_toArray, List.set_cons_zero, List.set_cons_succ]
      refine wpAnyH_ready (rs := [39]) (by kernel_rfl) (by simp) ?_
      refine AllReadyH.cons (o := ⟨_, _, _, _, _, _⟩) rfl (fun K hK => ?_) AllReadyH.nil
      go_simp
      go_at_call 19; refine (HNM.out _ HB6.out).mono ?_; rintro e w7 ⟨v7, rfl, hs7, hb⟩; obtain ⟨A7, c7, rfl, _⟩ := sl_len hs7; have HS7 := Lib.hid hs7; clear hs7; have HB7 := Lib.hid (HB6.out.trans (hb.mono HB6.out.size)); clear hb
      refine hK.out _ _ (HROW.out _ HB7.out) (fun hHeld => ?_)
      clear hK K
      try simp only [Act.put, List.setIfInBounds_toArray, List.set_cons_zero, List.set_cons_succ]
      refine wpAnyH_ready (rs := [44]) (by kernel_rfl) (by simp) ?_
      refine AllReadyH.cons (o := ⟨_, _, _, _, _, _⟩) rfl (fun K hK => ?_) AllReadyH.nil
      go_simp
      go_at_call 20; refine (HRN.out _ HB7.out).mono ?_; rintro e w8 ⟨v8, rfl, hs8, hb⟩; have hs9 := str_own hs8; obtain ⟨A8, c8, rfl, _⟩ := sl_len hs9; have HS8 := Lib.hid hs9; have HS78 := Lib.hid (HS7.out.below hb); clear hs8 hs9; have HB8 := Lib.hid (HB7.out.trans (hb.mono HB7.out.size)); clear hb
      refine hK.out _ _ (HROW.out _ HB8.out) (fun hHeld => ?_)
      clear hK K
      try simp only [Act.put, List.setIfInBounds_toArray, List.set_cons_zero, List.set_cons_succ]
      refine wpAnyH_ready (rs := [45]) (by kernel_rfl) (by simp) ?_
      refine AllReadyH.cons (o := ⟨_, _, _, _, _, _⟩) rfl (fun K hK => ?_) AllReadyH.nil
      go_simp
      go_at_call 18; refine (HSG.out _ _ w8 HS78.out HS8.out).mono ?_; rintro e w9 ⟨rfl, hb⟩; have HB9 := Lib.hid (HB8.out.trans (hb.mono HB8.out.size)); clear hb
      refine hK.out _ _ (HROW.out _ HB9.out) (fun hHeld => ?_)
      clear hK K
      try simp only [Act.put, List.setIfInBounds_toArray, List.set_cons_zero, List.set_cons_succ]
      refine plI [(46, false), (47, false)] ?_
      repeat ((first | ((with_reducible show Plan ((_, true) :: _) _); refine plF ?_) | (refine plR (v := ?_) ?_ ?_; rotate_left; focus (intro W hSW; (try dsimp only at hSW); go_simp; all_goals (with_reducible rfl)))); try simp only [Act.put, List.setIfInBounds_toArray, List.set_cons_zero, List.set_cons_succ])
      refine plE ?_
      refine wpAnyH_done (by kernel_rfl) ?_ _
      clear hHeld
      go_wp2_with fail
      go_roundw
      case rel => exact ⟨k + 1, by omega, by go_num, HB9.out⟩
      case measure => simp [intOf]; omega
    · have hke : k = L.length := by omega
      have hki : ¬ (k : Int) < (L.length : Int) := by omega
      go_wp2_with fail
      refine bodyPost_ret (v := .bool true) (by simp [results, Tryz.results3, go_sem]) rfl ?_
      exact ⟨rfl, HB.out⟩
theorem match_any (lv cv : Value) (L : List Rep) (ch : List Int) (s : ByteArray) (w : World) (ht : Tab w) (hv : Evs w) (hm : Mxl w) (hL : Reps w lv L) (hc : Sl w cv ch.length 1 (intF ch))
    (hs : ∀ r ∈ L, ∀ e ∈ r.opts, e.short) (hl : L.length ≤ 9223372036854775807) (ho : ∀ r ∈ L, r.opts.length ≤ 9223372036854775807) :
    Calls Tryz.prog 3 #[lv, cv, .string s] w fun r w' => r = .returned (.bool true) ∧ Below w.heap.size w w' := by
  cases hf : fewB L ch.length with
  | false => exact match_few lv cv L ch s w ht hv hm hL hc hs hl ho hf
  | true =>
    by_cases hz : 3000 < s.size
    · exact match_big lv cv L ch s w ht hv hm hL hc hs hl ho hf hz
    · exact match_all lv cv L ch s w ht hv hm hL hc hs hl ho hf (by omega)
end Go.Proofs.YtjlpllnhefafkaaGreatDoor
