/- bogielaw13.ReportPicks returns true: the walk. -/
import Derived.Test.YtmbalkebdmdmaaaDoorPk1
import Derived.Test.YtmbalkebdmdmaaaDoorHead
import Derived.Test.YtmbalkebdmdmaaaDoorSame
namespace Go.Proofs.YtmbalkebdmdmaaaDoor
open Go Go.RowKit
theorem fewB_size {L : List Rep} {n : Nat} (h : fewB L n = true) : L.length ≤ 12 ∧ n ≤ 30 ∧ ∀ r ∈ L, r.opts.length ≤ 6 := by
  simp only [fewB, fewR, Bool.and_eq_true, decide_eq_true_eq, List.all_eq_true] at h
  refine ⟨h.1.1, h.2, fun r hr => ?_⟩
  have := h.1.2 r hr
  simp only [fewE, Bool.and_eq_true, decide_eq_true_eq] at this
  exact this.2

set_option maxRecDepth 100000 in
set_option maxHeartbeats 8000000 in
theorem picks_any (v u : Value) (L : List Rep) (ch : List Int) (w : World) (hv : Reps w v L) (hu : Sl w u ch.length 1 (intF ch)) (hl : L.length ≤ 9223372036854775807)
    (ho : ∀ r ∈ L, r.opts.length ≤ 9223372036854775807) (hs : ∀ r ∈ L, ∀ e ∈ r.opts, e.short) :
    Calls Tryd.prog 3 #[v, u] w fun r w' => r = .returned (.bool true) ∧ Below w.heap.size w w' := by
  have HU := Lib.hid hu
  have HV := Lib.hid hv
  have HO := Lib.hid ho
  have HS := Lib.hid hs
  obtain ⟨A, c, rfl, hn⟩ := sl_len hu
  obtain ⟨A', c', rfl, hn', hc⟩ := hv
  clear hu hc ho hs
  cases hf : fewB L ch.length
  · have HF := Lib.hid hf
    clear hf
    go_enter Tryd.func3, Tryd.ntmps3
    go_wp2_with (first | (go_at_call 9; refine (head_any _).mono ?_; rintro e w1 ⟨rfl, hb1⟩; have HB1 := Lib.hid hb1; clear hb1) | (go_at_call 10; refine (few_any _ _ L ch.length c A _ rfl (HV.out.below HB1.out) hl HO.out).mono ?_; rintro e w2 ⟨rfl, hb2⟩; rw [HF.out]; have HB2 := Lib.hid (HB1.out.trans (hb2.mono HB1.out.size)); clear hb2))
    go_ret
    exact ⟨rfl, HB2.out⟩
  · obtain ⟨hl12, hc30, ho6⟩ := fewB_size hf
    have HF := Lib.hid hf
    have HO6 := Lib.hid ho6
    clear hf ho6 hl
    have hsz1 := hl12
    go_enter Tryd.func3, Tryd.ntmps3
    have hz : ((L.length : Int) == (ch.length : Int)) = rtB L ch 0 := by rw [rtB_zero, Bool.eq_iff_iff]; simp; omega
    go_wp2_with (first | (go_at_call 9; refine (head_any _).mono ?_; rintro e w1 ⟨rfl, hb1⟩; have HB1 := Lib.hid hb1; clear hb1) | (go_at_call 10; refine (few_any _ _ L ch.length c A _ rfl (HV.out.below HB1.out) (by omega) HO.out).mono ?_; rintro e w2 ⟨rfl, hb2⟩; rw [HF.out]; have HB2 := Lib.hid (HB1.out.trans (hb2.mono HB1.out.size)); clear hb2))
    go_loopw [6, 7] (fun r i wr => ∃ k : Nat, k ≤ L.length ∧ r = .bool (rtB L ch k) ∧ i = .int .i64 k ∧ Below w.heap.size w wr) (fun _ i _ => L.length - (intOf i).toNat)
    case atStart => exact ⟨0, Nat.zero_le _, rfl, rfl, HB2.out⟩
    case round =>
      obtain ⟨k, hk, rfl, rfl, hB⟩ := hrel
      by_cases hlt : k < L.length
      · obtain ⟨A1, c1, he1, hn1, h0 | ⟨b, o, rfl, hc⟩⟩ := HV.out
        · omega
        obtain ⟨rfl, rfl⟩ : A' = some ⟨b, o, none⟩ ∧ c' = c1 := by injection he1; exact ⟨by assumption, by assumption⟩
        obtain ⟨sv, hc1, hc2, hc3⟩ := hc k hlt
        have hd1 : wr.cell? ⟨b, o + k * 2, none⟩ = some sv := cell_later hB hc1
        have hd2 : wr.cell? ⟨b, o + k * 2 + 1, none⟩ = some (.bool (L.getD k noRep).doubt) := cell_later hB hc2
        have hbl : b < wr.heap.size := World.block_lt_of_cell? _ _ hd1
        have HSV := Lib.hid (hc3.below hB)
        have HSHORT := Lib.hid (HS.out _ (getD_mem L k noRep hlt))
        have hol := HO6.out _ (getD_mem L k noRep hlt)
        have hsucc := Lib.hid (rtB_succ L ch k)
        have hrlen := Lib.hid (fun h => rtB_len (L := L) (ch := ch) (k := k) h)
        have HB := Lib.hid hB
        clear hc hc1 hc2 hc3 he1 hB
        generalize L.getD k noRep = rr at *
        obtain ⟨l, d⟩ := rr
        dsimp only at hd2 HSV HSHORT hol hsucc
        obtain ⟨A2, c2, rfl, hn2⟩ := sl_len HSV.out
        cases hv : repOk l
        · have HN := Lib.hid (numC_no (d := d) hv)
          have HOK := Lib.hid hv
          have hfin := Lib.hid (show rtB L ch (k + 1) = false by rw [hsucc.out, isC_no hv, Bool.and_false])
          clear hv
          cases hr : rtB L ch k
          all_goals
            clear hr
            go_wp2_with (first | (go_at_call 11; refine (choices_any _ l _ _ HSV.out HSHORT.out (by omega)).mono ?_; rintro q w3 ⟨rfl, hb3⟩; rw [HN.out]; obtain ⟨hcc3, hff3⟩ := bcell hb3; have hbl3 : b < w3.heap.size := Nat.lt_of_lt_of_le hbl hb3.size; (try have hbl4 : b' < w3.heap.size := Nat.lt_of_lt_of_le hbl2 hb3.size); have HSV3 := Lib.hid (HSV.out.below hb3); have hz3 := hb3.size; have HB3 := Lib.hid (HB.out.trans (hb3.mono HB.out.size)); clear hb3) | (go_at_call 12; refine (repValid_any _ l _ _ HSV3.out HSHORT.out (by omega)).mono ?_; rintro q w4 ⟨rfl, hb4⟩; rw [HOK.out]; obtain ⟨hcc4, hff4⟩ := bcell hb4; have hz4 := hb4.size; have HB4 := Lib.hid (HB3.out.trans (hb4.mono HB3.out.size)); clear hb4))
            go_roundw
            case rel => exact ⟨k + 1, by omega, by rw [hfin.out], by go_num, HB4.out⟩
            case measure => simp [intOf]; omega
        · have hpos := repOk_pos hv
          have hp0 : decide ((0 : Int) < (l.length : Int)) = true := by rw [decide_eq_true_iff]; omega
          have hp2 : decide ((0 : Int) < (l.length : Int) + 1) = true := by rw [decide_eq_true_iff]; omega
          have hp3 : decide ((1 : Int) < (l.length : Int) + 1) = true := by rw [decide_eq_true_iff]; omega
          have HN := Lib.hid (numC_yes (d := d) hv)
          have HOK := Lib.hid hv
          clear hv
          cases hr : rtB L ch k
          · have hfin := Lib.hid (show rtB L ch (k + 1) = false by rw [hsucc.out, hr, Bool.false_and])
            clear hr
            rcases (show decide ((1 : Int) < (l.length : Int)) = true ∨ decide ((1 : Int) < (l.length : Int)) = false from by cases decide ((1 : Int) < (l.length : Int)) <;> simp) with h1 | h1
            all_goals
              cases d
              all_goals
                go_wp2_with (first | (go_at_call 11; refine (choices_any _ l _ _ HSV.out HSHORT.out (by omega)).mono ?_; rintro q w3 ⟨rfl, hb3⟩; rw [HN.out]; obtain ⟨hcc3, hff3⟩ := bcell hb3; have hbl3 : b < w3.heap.size := Nat.lt_of_lt_of_le hbl hb3.size; (try have hbl4 : b' < w3.heap.size := Nat.lt_of_lt_of_le hbl2 hb3.size); have HSV3 := Lib.hid (HSV.out.below hb3); have hz3 := hb3.size; have HB3 := Lib.hid (HB.out.trans (hb3.mono HB.out.size)); clear hb3) | (go_at_call 12; refine (repValid_any _ l _ _ HSV3.out HSHORT.out (by omega)).mono ?_; rintro q w4 ⟨rfl, hb4⟩; rw [HOK.out]; obtain ⟨hcc4, hff4⟩ := bcell hb4; have hz4 := hb4.size; have HB4 := Lib.hid (HB3.out.trans (hb4.mono HB3.out.size)); clear hb4))
                go_roundw
                case rel => exact ⟨k + 1, by omega, by rw [hfin.out], by go_num, HB4.out⟩
                case measure => simp [intOf]; omega
          · have hll := hrlen.out hr
            obtain ⟨A3, c3, he3, hn3, h0 | ⟨b', o', rfl, hu⟩⟩ := HU.out
            · omega
            obtain ⟨rfl, rfl⟩ : A = some ⟨b', o', none⟩ ∧ c = c3 := by injection he3; exact ⟨by assumption, by assumption⟩
            have hnum : wr.cell? ⟨b', o' + k, none⟩ = some (.int .i64 (ch.getD k 0)) := cell_later HB.out (hu k (by omega))
            have hbl2 : b' < wr.heap.size := World.block_lt_of_cell? _ _ hnum
            have hkc : k < ch.length := by omega
            have hsucc2 := Lib.hid (show rtB L ch (k + 1) = isC ⟨l, d⟩ (ch.getD k 0) by rw [hsucc.out, hr, Bool.true_and])
            have HLL := Lib.hid hll
            clear hr hu he3 hll
            generalize ch.getD k 0 = n at *
            by_cases hlo : n < 0
            · have hfin := Lib.hid (hsucc2.out.trans (isC_lo hlo))
              have hlo' : decide (0 ≤ n) = false := by rw [decide_eq_false_iff_not]; omega
              rcases (show decide ((1 : Int) < (l.length : Int)) = true ∨ decide ((1 : Int) < (l.length : Int)) = false from by cases decide ((1 : Int) < (l.length : Int)) <;> simp) with h1 | h1
              all_goals
                cases d
                all_goals
                  go_wp2_with (first | (go_at_call 11; refine (choices_any _ l _ _ HSV.out HSHORT.out (by omega)).mono ?_; rintro q w3 ⟨rfl, hb3⟩; rw [HN.out]; obtain ⟨hcc3, hff3⟩ := bcell hb3; have hbl3 : b < w3.heap.size := Nat.lt_of_lt_of_le hbl hb3.size; (try have hbl4 : b' < w3.heap.size := Nat.lt_of_lt_of_le hbl2 hb3.size); have HSV3 := Lib.hid (HSV.out.below hb3); have hz3 := hb3.size; have HB3 := Lib.hid (HB.out.trans (hb3.mono HB.out.size)); clear hb3) | (go_at_call 12; refine (repValid_any _ l _ _ HSV3.out HSHORT.out (by omega)).mono ?_; rintro q w4 ⟨rfl, hb4⟩; rw [HOK.out]; obtain ⟨hcc4, hff4⟩ := bcell hb4; have hz4 := hb4.size; have HB4 := Lib.hid (HB3.out.trans (hb4.mono HB3.out.size)); clear hb4))
                  go_roundw
                  case rel => exact ⟨k + 1, by omega, by rw [hfin.out], by go_num, HB4.out⟩
                  case measure => simp [intOf]; omega
            · have hge : 0 ≤ n := by omega
              by_cases hhi : n < numC l d
              · have hfin := Lib.hid (hsucc2.out.trans (isC_of hge hhi))
                rw [HN.out] at hhi
                rcases (show decide ((1 : Int) < (l.length : Int)) = true ∨ decide ((1 : Int) < (l.length : Int)) = false from by cases decide ((1 : Int) < (l.length : Int)) <;> simp) with h1 | h1
                all_goals
                  cases d
                  all_goals
                    simp only [Bool.false_eq_true, if_false, if_true, Nat.add_zero] at hhi
                    have hge' : decide (0 ≤ n) = true := by rw [decide_eq_true_iff]; omega
                    have hh1 : decide (n < (l.length : Int) + 1) = true := by rw [decide_eq_true_iff]; omega
                    try have hh2 : decide (n < (l.length : Int)) = true := by rw [decide_eq_true_iff]; omega
                    go_wp2_with (first | (go_at_call 11; refine (choices_any _ l _ _ HSV.out HSHORT.out (by omega)).mono ?_; rintro q w3 ⟨rfl, hb3⟩; rw [HN.out]; obtain ⟨hcc3, hff3⟩ := bcell hb3; have hbl3 : b < w3.heap.size := Nat.lt_of_lt_of_le hbl hb3.size; (try have hbl4 : b' < w3.heap.size := Nat.lt_of_lt_of_le hbl2 hb3.size); have HSV3 := Lib.hid (HSV.out.below hb3); have hz3 := hb3.size; have HB3 := Lib.hid (HB.out.trans (hb3.mono HB.out.size)); clear hb3) | (go_at_call 12; refine (repValid_any _ l _ _ HSV3.out HSHORT.out (by omega)).mono ?_; rintro q w4 ⟨rfl, hb4⟩; rw [HOK.out]; obtain ⟨hcc4, hff4⟩ := bcell hb4; have hz4 := hb4.size; have HB4 := Lib.hid (HB3.out.trans (hb4.mono HB3.out.size)); clear hb4))
                    go_roundw
                    case rel => exact ⟨k + 1, by omega, by rw [hfin.out], by go_num, HB4.out⟩
                    case measure => simp [intOf]; omega
              · have hfin := Lib.hid (hsucc2.out.trans (isC_hi (r := ⟨l, d⟩) (show (numC l d : Int) ≤ n by omega)))
                rw [HN.out] at hhi
                rcases (show decide ((1 : Int) < (l.length : Int)) = true ∨ decide ((1 : Int) < (l.length : Int)) = false from by cases decide ((1 : Int) < (l.length : Int)) <;> simp) with h1 | h1
                all_goals
                  cases d
                  all_goals
                    simp only [Bool.false_eq_true, if_false, if_true, Nat.add_zero] at hhi
                    have hge' : decide (0 ≤ n) = true := by rw [decide_eq_true_iff]; omega
                    have hh1 : decide (n < (l.length : Int)) = false := by rw [decide_eq_false_iff_not]; omega
                    try have hh2 : decide (n < (l.length : Int) + 1) = false := by rw [decide_eq_false_iff_not]; omega
                    go_wp2_with (first | (go_at_call 11; refine (choices_any _ l _ _ HSV.out HSHORT.out (by omega)).mono ?_; rintro q w3 ⟨rfl, hb3⟩; rw [HN.out]; obtain ⟨hcc3, hff3⟩ := bcell hb3; have hbl3 : b < w3.heap.size := Nat.lt_of_lt_of_le hbl hb3.size; (try have hbl4 : b' < w3.heap.size := Nat.lt_of_lt_of_le hbl2 hb3.size); have HSV3 := Lib.hid (HSV.out.below hb3); have hz3 := hb3.size; have HB3 := Lib.hid (HB.out.trans (hb3.mono HB.out.size)); clear hb3) | (go_at_call 12; refine (repValid_any _ l _ _ HSV3.out HSHORT.out (by omega)).mono ?_; rintro q w4 ⟨rfl, hb4⟩; rw [HOK.out]; obtain ⟨hcc4, hff4⟩ := bcell hb4; have hz4 := hb4.size; have HB4 := Lib.hid (HB3.out.trans (hb4.mono HB3.out.size)); clear hb4))
                    go_roundw
                    case rel => exact ⟨k + 1, by omega, by rw [hfin.out], by go_num, HB4.out⟩
                    case measure => simp [intOf]; omega
      · obtain rfl : k = L.length := by omega
        have HB := Lib.hid hB
        clear hB
        rw [rtB_all]
        cases hp : pickOk L ch
        · have HP := Lib.hid hp
          clear hp
          go_wp2_with (go_at_call 13; refine (picked_any _ _ L ch _ (HV.out.below HB.out) (HU.out.below HB.out) (by omega) (by omega) (fun r hr => by have := HO6.out r hr; omega) HS.out).mono ?_; rintro e w5 ⟨v5, l5, rfl, hl5, hs5, hb5⟩; rw [HP.out] at hl5 ⊢; simp only [Bool.false_eq_true, if_false, if_true] at hl5; subst hl5; obtain ⟨A5, c5, rfl, hn5⟩ := sl_len hs5; have HS5 := Lib.hid hs5; have HB5 := Lib.hid (HB.out.trans (hb5.mono HB.out.size)); clear hb5 hs5)
          refine wp_loop_rounds 1 ?_
          rw [rounds_succ]
          go_wp2_with fail
          all_goals (go_ret; exact ⟨rfl, HB5.out⟩)
        · have HP := Lib.hid hp
          have HPK := Lib.hid (fun k hk => isC_pick hp (k := k) hk)
          clear hp
          have HAT := Lib.hid (fun (k : Nat) (e : Ev) => pk_at (L := L) (ch := ch) (k := k) (e := e))
          have HSU := Lib.hid (fun (k : Nat) => pk_succ L ch k)
          have HLE := Lib.hid (fun (k : Nat) => pk_le L ch k)
          go_wp2_with (go_at_call 13; refine (picked_any _ _ L ch _ (HV.out.below HB.out) (HU.out.below HB.out) (by omega) (by omega) (fun r hr => by have := HO6.out r hr; omega) HS.out).mono ?_; rintro e w5 ⟨v5, l5, rfl, hl5, hs5, hb5⟩; rw [HP.out] at hl5 ⊢; simp only [Bool.false_eq_true, if_false, if_true] at hl5; subst hl5; obtain ⟨A5, c5, rfl, hn5⟩ := sl_len hs5; have HS5 := Lib.hid hs5; have HB5 := Lib.hid (HB.out.trans (hb5.mono HB.out.size)); clear hb5 hs5)
          go_loopw [12, 13] (fun n i wr => ∃ k : Nat, k ≤ L.length ∧ i = .int .i64 k ∧ n = .int .i64 (pk L ch k).length ∧ Below w5.heap.size w5 wr) (fun _ i _ => L.length - (intOf i).toNat)
          case atStart => exact ⟨0, Nat.zero_le _, rfl, rfl, Below.refl _ _⟩
          case round =>
            obtain ⟨k, hk, rfl, rfl, hB6⟩ := hrel
            have hle6 := HLE.out k
            by_cases hlt : k < L.length
            · obtain ⟨hll, hck⟩ := HPK.out k hlt
              have hB7 := HB5.out.trans (hB6.mono HB5.out.size)
              obtain ⟨A1, c1, he1, hn1, h0 | ⟨b, o, rfl, hc⟩⟩ := HV.out
              · omega
              obtain ⟨rfl, rfl⟩ : A' = some ⟨b, o, none⟩ ∧ c' = c1 := by injection he1; exact ⟨by assumption, by assumption⟩
              obtain ⟨A3, c3, he3, hn3, h0 | ⟨b', o', rfl, hu⟩⟩ := HU.out
              · omega
              obtain ⟨rfl, rfl⟩ : A = some ⟨b', o', none⟩ ∧ c = c3 := by injection he3; exact ⟨by assumption, by assumption⟩
              obtain ⟨sv, hc1, hc2, hc3⟩ := hc k hlt
              have hd1 : wr.cell? ⟨b, o + k * 2, none⟩ = some sv := cell_later hB7 hc1
              have hnum : wr.cell? ⟨b', o' + k, none⟩ = some (.int .i64 (ch.getD k 0)) := cell_later hB7 (hu k (by omega))
              have hsv := hc3.below hB7
              have hol := HO6.out _ (getD_mem L k noRep hlt)
              have hat := Lib.hid (fun e => HAT.out k e hlt)
              have hsu := Lib.hid (HSU.out k)
              have hcc : 0 ≤ ch.getD k 0 ∧ ch.getD k 0 < numC (L.getD k noRep).opts (L.getD k noRep).doubt := decide_eq_true_iff.1 hck
              have hnc : numC (L.getD k noRep).opts (L.getD k noRep).doubt ≤ (L.getD k noRep).opts.length + 1 := by unfold numC; split <;> (try split) <;> omega
              have HB6 := Lib.hid hB6
              have hkc : k < ch.length := by omega
              have HLL := Lib.hid hll
              clear hc hc1 hc2 hc3 he1 he3 hu hck hB6 hB7 hll
              generalize L.getD k noRep = rr at *
              obtain ⟨l, d⟩ := rr
              dsimp only at hsv hol hnc hcc
              generalize ch.getD k 0 = n at *
              obtain ⟨hn0, hn8⟩ := hcc
              obtain ⟨A2, c2, rfl, hn2⟩ := sl_len hsv
              by_cases h2 : n = l.length
              · have hone := Lib.hid (show one ⟨l, d⟩ n = [] by simp [one, h2])
                have hb3 : (n == (l.length : Int)) = true := by simp [h2]
                have hpl := Lib.hid (show (pk L ch (k + 1)).length = (pk L ch k).length by rw [hsu.out, hone.out, List.append_nil])
                clear h2 hsv hnc hn8 hn0
                go_wp2_with fail
                go_quiet (fail)
                go_wp2_with fail
                go_roundw
                case rel => exact ⟨k + 1, by omega, by go_num, by rw [hpl.out], below_drewN HB6.out _⟩
                case measure => simp [intOf]; omega
              · obtain ⟨m, rfl⟩ := Int.eq_ofNat_of_zero_le hn0
                have hm : m < l.length := by omega
                have hone := Lib.hid (show one ⟨l, d⟩ (m : Int) = [l.getD m noEv] by simp [one]; omega)
                have hpl := Lib.hid (show (pk L ch (k + 1)).length = (pk L ch k).length + 1 by rw [hsu.out, hone.out, List.length_append]; rfl)
                have hb3 : ((m : Int) == (l.length : Int)) = false := by simp; omega
                obtain ⟨hq1, hq2⟩ := hat.out _ hone.out
                have HQ2 := Lib.hid hq2
                obtain ⟨A6, c6, he6, hn6, h0 | ⟨g, o5, rfl, hc5⟩⟩ := HS5.out
                · omega
                obtain ⟨rfl, rfl⟩ : A5 = some ⟨g, o5, none⟩ ∧ c5 = c6 := by injection he6; exact ⟨by assumption, by assumption⟩
                have hrg5 : wr.rangeAt g (o5 + (pk L ch k).length * 14) ((pk L ch L.length).getD (pk L ch k).length noEv).cells.toList := ev_range (fun j hj => cell_later HB6.out (hc5 j hj)) hq1
                rw [hq2] at hrg5
                obtain ⟨A7, c7, he7, hn7, h0 | ⟨g3, o3, rfl, hc7⟩⟩ := hsv
                · omega
                obtain ⟨rfl, rfl⟩ : A2 = some ⟨g3, o3, none⟩ ∧ c2 = c7 := by injection he7; exact ⟨by assumption, by assumption⟩
                have hrg3 : wr.rangeAt g3 (o3 + m * 14) (l.getD m noEv).cells.toList := ev_range hc7 hm
                have hself : evEq (l.getD m noEv) (l.getD m noEv) = true := evEq_self _
                clear hc5 hc7 he6 he7 hq2 h2 hnc hn8 hn0
                generalize l.getD m noEv = ev at *
                obtain ⟨op, day, part, kind, into, slot, key, value, kl, kh, cl, chh, ll, lh⟩ := ev
                obtain ⟨f0, f1, f2, f3, f4, f5, f6, f7, f8, f9, f10, f11, f12, f13⟩ := range_facts hrg5
                obtain ⟨e0, e1, e2, e3, e4, e5, e6, e7, e8, e9, e10, e11, e12, e13⟩ := range_facts hrg3
                clear hrg5 hrg3
                dsimp only at f0 f1 f2 f3 f4 f5 f6 f7 f8 f9 f10 f11 f12 f13 e0 e1 e2 e3 e4 e5 e6 e7 e8 e9 e10 e11 e12 e13
                generalize (pk L ch k).length = q at *
                have hge1 : decide ((pk L ch L.length).length ≤ q) = false := by rw [decide_eq_false_iff_not]; omega
                have hge2 : decide (((pk L ch L.length).length : Int) ≤ (q : Int)) = false := by rw [decide_eq_false_iff_not]; omega
                go_wp2_with fail
                go_quiet (fail)
                go_wp2_with fail
                go_quiet (fail)
                go_wp2_with fail
                go_roundw
                case rel => exact ⟨k + 1, by omega, by go_num, by rw [hpl.out]; go_num, below_drewN HB6.out _⟩
                case measure => simp [intOf]; omega
            · obtain rfl : k = L.length := by omega
              have HB6 := Lib.hid hB6
              clear hB6
              go_wp2_with fail
              go_ret
              exact ⟨rfl, HB5.out.trans (HB6.out.mono HB5.out.size)⟩
end Go.Proofs.YtmbalkebdmdmaaaDoor
