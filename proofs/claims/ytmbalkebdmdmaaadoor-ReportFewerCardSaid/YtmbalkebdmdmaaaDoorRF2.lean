/- bogielaw13.ReportFewer returns true: the walk. -/
import Derived.Test.YtmbalkebdmdmaaaDoorRF1
import Derived.Test.YtmbalkebdmdmaaaDoorRN1
import Derived.Test.YtmbalkebdmdmaaaDoorApp2
import Derived.Test.YtmbalkebdmdmaaaDoorSame
import Derived.Deep.RegionLaw
import Derived.Deep.Cut
import Derived.Deep.CutRange
import Derived.IntWalk
import Derived.Deep.RegionHeld3
import Derived.Test.YtmbalkebdmdmaaaDoorJn1
namespace Go.Proofs.YtmbalkebdmdmaaaDoor
open Go Go.RowKit
theorem src_on {w w' : World} {n : Nat} {A : Option Addr} {cs : List Value} (hb : Below w.heap.size w w') (h : n = 0 ∨ ∃ ad, A = some ad ∧ ∀ j u, cs[j]? = some u → w.cell? (ad.add j) = some u) :
    n = 0 ∨ ∃ ad, A = some ad ∧ ∀ j u, cs[j]? = some u → w'.cell? (ad.add j) = some u := by
  rcases h with h | ⟨ad, h1, h2⟩
  · exact .inl h
  · exact .inr ⟨ad, h1, fun j u hu => cell_later hb (h2 j u hu)⟩
theorem sl_cut {w : World} {A : Option Addr} {n c sz k : Nat} {f : Nat → Value} (h : Sl w (.slice A n c) n sz f) (hk : k ≤ n) : Sl w (.slice A k c) k sz f := by
  obtain ⟨A', c', he, hn, h0 | ⟨b, o, hA, hc⟩⟩ := h
  · injection he with e1 e2 e3; subst e1 e3
    exact ⟨A, c, rfl, by omega, .inl (by omega)⟩
  · injection he with e1 e2 e3; subst e1 e3
    exact ⟨A, c, rfl, by omega, .inr ⟨b, o, hA, fun j hj => hc j (Nat.lt_of_lt_of_le hj (Nat.mul_le_mul_right sz hk))⟩⟩

/-- What the literal leaves: a report without option k, in a block of its own. -/
def LessAt (w3 wx : World) (l : List Ev) (d : Bool) (k g : Nat) (A5 : Option Addr) (n5 c5 : Nat) : Prop :=
  Has wx g 29 #[.slice A5 n5 c5, .bool d] ∧ n5 = (less l k).length ∧ Sl wx (.slice A5 n5 c5) (less l k).length 14 (evF (less l k)) ∧ Below w3.heap.size w3 wx
theorem LessAt.drew {w3 wx : World} {l : List Ev} {d : Bool} {k g : Nat} {A5 : Option Addr} {n5 c5 : Nat} (h : LessAt w3 wx l d k g A5 n5 c5) : LessAt w3 wx.drew l d k g A5 n5 c5 := ⟨h.1, h.2.1, h.2.2.1, h.2.2.2.drew⟩
theorem LessAt.drewN {w3 wx : World} {l : List Ev} {d : Bool} {k g : Nat} {A5 : Option Addr} {n5 c5 : Nat} (h : LessAt w3 wx l d k g A5 n5 c5) (n : Nat) : LessAt w3 (wx.drewN n) l d k g A5 n5 c5 := ⟨h.1, h.2.1, h.2.2.1, below_drewN h.2.2.2 n⟩
theorem less_f {l : List Ev} {k : Nat} (hk : k < l.length) (j : Nat) (hj : j < (less l k).length * 14) :
    (([] ++ slCells (k * 14) (evF l) ++ slCells ((l.length - (k + 1)) * 14) (fun j => evF l ((k + 1) * 14 + j)))[j]?).getD undef = evF (less l k) j := by
  rw [less_len hk] at hj
  rw [List.nil_append]
  unfold evF
  rcases Nat.lt_or_ge (j / 14) k with h | h
  · rw [List.getElem?_append_left (by rw [slCells_len]; omega), slCells_get _ _ _ (by omega), less_lo hk h]; rfl
  · have e : less l k = less l k := rfl
    have h1 := less_hi (l := l) (k := k) (i := j / 14 + 1) hk (by omega)
    rw [Nat.add_sub_cancel] at h1
    rw [List.getElem?_append_right (by rw [slCells_len]; omega), slCells_len, slCells_get _ _ _ (by omega), h1]
    show ((l.getD (((k + 1) * 14 + (j - k * 14)) / 14) noEv).cells[((k + 1) * 14 + (j - k * 14)) % 14]?).getD undef = _
    rw [show ((k + 1) * 14 + (j - k * 14)) / 14 = j / 14 + 1 by omega, show ((k + 1) * 14 + (j - k * 14)) % 14 = j % 14 by omega]
theorem less_own {w3 w5 : World} {l : List Ev} {k c5 e : Nat} {A5 : Option Addr} (hk : k < l.length)
    (h : Own0 w5 w3.heap.size e 14 (.slice A5 (0 + k + (l.length - (k + 1))) c5) (0 + k + (l.length - (k + 1))) ([] ++ slCells (k * 14) (evF l) ++ slCells ((l.length - (k + 1)) * 14) (fun j => evF l ((k + 1) * 14 + j)))) :
    k + (l.length - (k + 1)) = (less l k).length ∧ Sl w5 (.slice A5 (k + (l.length - (k + 1))) c5) (less l k).length 14 (evF (less l k)) := by
  have hn : k + (l.length - (k + 1)) = (less l k).length := by rw [less_len hk]; omega
  refine ⟨hn, ?_⟩
  have h2 := h.sl
  rw [Nat.zero_add] at h2
  rw [hn] at h2 ⊢
  exact h2.congr fun j hj => less_f hk j hj
theorem less_new {w3 w5 : World} {l : List Ev} {d : Bool} {k c5 e : Nat} {A5 : Option Addr} (hk : k < l.length) (hb : Below w3.heap.size w3 w5)
    (h : Own0 w5 w3.heap.size e 14 (.slice A5 (0 + k + (l.length - (k + 1))) c5) (0 + k + (l.length - (k + 1))) ([] ++ slCells (k * 14) (evF l) ++ slCells ((l.length - (k + 1)) * 14) (fun j => evF l ((k + 1) * 14 + j)))) :
    LessAt w3 (w5.alloc (.cells #[.slice A5 (k + (l.length - (k + 1))) c5, .bool d] 29)) l d k w5.heap.size A5 (k + (l.length - (k + 1))) c5 :=
  ⟨Has.new _ _ _, (less_own hk h).1, (less_own hk h).2.below ((Below.refl _ _).alloc (Nat.le_refl _) _), hb.alloc hb.size _⟩
theorem less_put {w3 w5 : World} {l : List Ev} {d : Bool} {k c5 e g : Nat} {A5 : Option Addr} (hk : k < l.length) (hb : Below w3.heap.size w3 w5) (hE : Has w5 g 29 #[.slice none 0 0, .bool false]) (hne : 29 ≠ e) (hg : w3.heap.size ≤ g)
    (h : Own0 w5 w3.heap.size e 14 (.slice A5 (0 + k + (l.length - (k + 1))) c5) (0 + k + (l.length - (k + 1))) ([] ++ slCells (k * 14) (evF l) ++ slCells ((l.length - (k + 1)) * 14) (fun j => evF l ((k + 1) * 14 + j)))) :
    LessAt w3 ((w5.setCell ⟨g, 0, none⟩ (.slice A5 (k + (l.length - (k + 1))) c5)).setCell ⟨g, 1, none⟩ (.bool d)) l d k g A5 (k + (l.length - (k + 1))) c5 :=
  ⟨(hE.put 0 _).put 1 _, (less_own hk h).1, (less_own hk ((h.put hE hne 0 _).put (hE.put 0 _) hne 1 _)).2, (hb.setCell (p := ⟨g, 0, none⟩) hg _).setCell (p := ⟨g, 1, none⟩) hg _⟩

theorem num_one (w : World) (R : Obj) (n : Int) : Sl ((w.alloc R).alloc (.cells #[.int .i64 n] 3)) (.slice (some ⟨w.heap.size + 1, 0, none⟩) 1 1) [n].length 1 (intF [n]) := by
  have h := Has.new (w.alloc R) 3 #[.int .i64 n]
  rw [World.size_alloc] at h
  exact Sl.has h (by simp) (fun j hj => by match j, hj with | 0, _ => rfl)
theorem one_le (r : Rep) (n : Int) : (one r n).length ≤ 1 := by unfold one; split <;> simp
theorem pick_one (v : Value) (l : List Ev) (d : Bool) (n : Int) (E : List Ev) (w : World) (hv : Sl w v l.length 14 (evF l)) (hs : ∀ e ∈ l, e.short) (hl : l.length ≤ 1000) (hok : pickOk [⟨l, d⟩] [n] = true) (hE : one ⟨l, d⟩ n = E) :
    Calls Tryd.prog 13 #[.slice (some ⟨w.heap.size, 0, none⟩) 1 1, .slice (some ⟨w.heap.size + 1, 0, none⟩) 1 1] ((w.alloc (.cells #[v, .bool d] 29)).alloc (.cells #[.int .i64 n] 3))
      fun r w' => ∃ A c, r = .returned (.tuple #[.slice A E.length c, .int .i64 0]) ∧ Sl w' (.slice A E.length c) E.length 14 (evF E) ∧ Below w.heap.size w w' := by
  refine (picked_any _ _ [⟨l, d⟩] [n] _ ((reps_one hv).below ((Below.refl _ _).alloc (Nat.le_refl _) _)) (num_one w _ n) (by simp) (by simp) (fun r hr => by simp at hr; subst hr; exact hl) (fun r hr => by simp at hr; subst hr; exact hs)).mono ?_
  rintro e w' ⟨v', q, rfl, hq, hsq, hb⟩
  rw [hok] at hq
  have hq2 : q = E := by rw [hq, if_pos rfl]; exact (pk_one _ _).trans hE
  subst hq2
  obtain ⟨A, c, rfl, _⟩ := sl_len hsq
  refine ⟨A, c, by rw [hok]; rfl, hsq, ?_⟩
  exact (((Below.refl w.heap.size w).alloc (Nat.le_refl _) _).alloc (by simp) _).trans (hb.mono (by simp; omega))

set_option maxRecDepth 100000 in
set_option maxHeartbeats 8000000 in
theorem rf_any (v : Value) (l : List Ev) (d : Bool) (raw : Int) (w : World) (hv : Sl w v l.length 14 (evF l)) (hs : ∀ e ∈ l, e.short) (hl : l.length ≤ 9223372036854775807) (hr0 : 0 ≤ raw) (hr1 : raw ≤ 255) :
    Calls Tryd.prog 7 #[.agg #[v, .bool d], .int .u8 raw] w fun r w' => r = .returned (.bool true) ∧ Below w.heap.size w w' := by
  have HV := Lib.hid hv
  have HS := Lib.hid hs
  obtain ⟨A, c, rfl, hn⟩ := sl_len hv
  clear hv hs
  go_enter Tryd.func7, Tryd.ntmps7
  go_wp2_with fail
  refine (head_any _).mono ?_
  rintro e w1 ⟨rfl, hb1⟩
  obtain ⟨hE1, hB1, hz1⟩ := boxed hb1
  obtain ⟨hc1, hf1⟩ := hE1.facts
  have HE1 := Lib.hid hE1
  have HB1 := Lib.hid hB1
  clear hb1 hE1 hB1
  go_wp2_with fail
  refine (few_any _ _ [⟨l, d⟩] 0 0 none _ rfl (reps_one (HV.out.below HB1.out)) (by simp) (fun r hr => by simp at hr; subst hr; exact hl)).mono ?_
  rintro e w2 ⟨rfl, hb2⟩
  obtain ⟨hE2, hB2, hz2⟩ := boxed_next HE1.out HB1.out hz1 HB1.out.size hb2
  obtain ⟨hc2, hf2⟩ := hE2.facts
  have HE2 := Lib.hid hE2
  have HB2 := Lib.hid hB2
  clear hb2 hE2 hB2 hc1 hf1 HE1 hz1
  cases hfew : fewB [⟨l, d⟩] 0
  · clear hfew
    go_wp2_with fail
    go_ret
    exact ⟨rfl, HB2.out⟩
  · have hl6 := few_one hfew
    clear hfew hl
    have hcon := Lib.hid (fun W hB => repValid_any (.slice A l.length c) l d W (HV.out.below hB) HS.out (by omega))
    cases hok : repOk l
    · have HOK := Lib.hid hok
      clear hok
      go_wp2_with fail
      refine (hcon.out _ HB2.out).mono ?_
      rintro e w3 ⟨rfl, hb3⟩
      rw [HOK.out]
      have HB3 := Lib.hid (HB2.out.trans (hb3.mono HB2.out.size))
      clear hb3
      go_wp2_with fail
      go_ret
      exact ⟨rfl, HB3.out⟩
    · have HOK := Lib.hid hok
      have hpos := repOk_pos hok
      clear hok
      rcases (show decide ((l.length : Int) < 2) = true ∨ decide ((l.length : Int) < 2) = false by cases decide ((l.length : Int) < 2) <;> simp) with h2 | h2
      all_goals
        go_wp2_with fail
        refine (hcon.out _ HB2.out).mono ?_
        rintro e w3 ⟨rfl, hb3⟩
        rw [HOK.out]
        obtain ⟨hE3, hB3, hz3⟩ := HE2.out.next HB2.out hz2 hb3 HB2.out.size
        obtain ⟨hc3, hf3⟩ := hE3.facts
        have HE3 := Lib.hid hE3
        have HB3 := Lib.hid hB3
        clear hb3 hE3 hB3 hc2 hf2 HE2 hz2
      · go_wp2_with fail
        go_ret
        exact ⟨rfl, HB3.out⟩
      · have hl2 : 2 ≤ l.length := by rw [decide_eq_false_iff_not] at h2; omega
        go_wp2_with fail
        obtain ⟨k, hk⟩ := Int.eq_ofNat_of_zero_le (Int.emod_nonneg raw (show (l.length : Int) ≠ 0 by omega))
        have hkl : k < l.length := by have := Int.emod_lt_of_pos raw (show (0 : Int) < l.length by omega); omega
        rw [hk]
        obtain ⟨A1, c1, he1, hn1, h0 | ⟨b, o, rfl, hc⟩⟩ := HV.out
        · omega
        obtain ⟨rfl, rfl⟩ : A = some ⟨b, o, none⟩ ∧ c = c1 := by injection he1; exact ⟨by assumption, by assumption⟩
        have hk0 : (0 : Int) ≤ (k : Int) := by omega
        have hkcI : (k : Int) ≤ (c : Int) := by omega
        have hkcN : k ≤ c := by omega
        have hkl1 : (k : Int) + 1 ≤ (l.length : Int) := by omega
        have hkl2 : k + 1 ≤ l.length := by omega
        have hc01 : ¬ c = 0 := by omega
        have hc02 : ¬ 0 = c := by omega
        have hkn : ¬ k = c := by omega
        have hkc : (k : Int) < (l.length : Int) := by omega
        have hcell0 : w3.cell? ⟨w.heap.size, 0, none⟩ = some (.slice (some ⟨b, o, none⟩) l.length c) := hc3 0
        have hcell1 : w3.cell? ⟨w.heap.size, 1, none⟩ = some (.bool d) := hc3 1
        obtain ⟨ie, hie, hze, he1', he2⟩ := info_parts info_ev
        have HIE := Lib.hid hie
        have HZE := Lib.hid hze
        have HK := Lib.hid hk
        have HSRC1 := Lib.hid (sl_src (sl_cut (HV.out.below HB3.out) (by omega : k ≤ l.length))).2
        have HSRC2 : Hid (∀ A : Option Addr, A = some (⟨b, o + (k + 1) * 14, none⟩ : Addr) ∨ (l.length - (k + 1) = 0) → (l.length - (k + 1) = 0 ∨ ∃ ad, A = some ad ∧ ∀ j u, (slCells ((l.length - (k + 1)) * 14) (fun j => evF l ((k + 1) * 14 + j)))[j]? = some u → w3.cell? (ad.add j) = some u)) := by
          intro A hA
          rcases hA with rfl | h0
          · refine .inr ⟨_, rfl, fun j u hu => ?_⟩
            have hj : j < (l.length - (k + 1)) * 14 := by
              rcases Nat.lt_or_ge j ((l.length - (k + 1)) * 14) with h1 | h1
              · exact h1
              · rw [List.getElem?_eq_none (by rw [slCells_len]; exact h1)] at hu; cases hu
            rw [slCells_get _ _ _ hj] at hu
            rw [Addr.add_mid, Nat.add_assoc, ← hu]
            exact cell_later HB3.out (hc ((k + 1) * 14 + j) (by omega))
          · exact .inl h0
        clear hc he1 hk hie hze h2
        have hA1 : 0 + k ≤ maxLen := by unfold maxLen; omega
        have hA2 : (0 + k) * 160 ≤ 140737488355328 := by omega
        have hA3 : 0 + k + (l.length - (k + 1)) ≤ maxLen := by unfold maxLen; omega
        have hA4 : (0 + k + (l.length - (k + 1))) * 160 ≤ 140737488355328 := by omega
        have hx6 : k + 1 ≤ c := by omega
        have hx7 : (0 : Int) ≤ (k : Int) + 1 := by omega
        have hx8 : ((k : Int) + 1).toNat = k + 1 := by omega
        go_cut [7] from 41 to 55 (fun p wx => ∃ g A5 n5 c5, p = .pointer (some ⟨g, 0, none⟩) ∧ LessAt w3 wx l d k g A5 n5 c5)
        case first =>
          rcases (show decide (c = k + 1) = true ∨ decide (c = k + 1) = false by cases decide (c = k + 1) <;> simp) with hcap | hcap
          · rw [decide_eq_true_iff] at hcap
            subst hcap
            have HZ0 := Lib.hid (show l.length - (k + 1) = 0 by omega)
            have hk3 : (k : Int) ≤ (k : Int) + 1 := by omega
            clear hn hn1
            have hne3 : ¬ w3.heap.size = w.heap.size := Nat.ne_of_gt hz3
            have hne31 : ¬ w3.heap.size + 1 = w.heap.size := Nat.ne_of_gt (Nat.lt_succ_of_lt hz3)
            have hx9 : IntKind.i64.wrap ((k : Int) + 1) = (k : Int) + 1 := IntWalk.i64_in _ (by omega)
            go_region_held3 (fun w' => w'.cell? ⟨w.heap.size, 0, none⟩ = some (.slice (some ⟨b, o, none⟩) l.length (k + 1)) ∧ w'.cell? ⟨w.heap.size, 1, none⟩ = some (.bool d))
              (first | go_keep | (refine ⟨?_, ?_⟩ <;> (rw [World.cell?_setCell_other (fun e => hne4 (congrArg Addr.block e)), World.cell?_setCell_other (fun e => hne4 (congrArg Addr.block e))]; assumption)) | (refine ⟨?_, ?_⟩ <;> (rw [World.cell?_setCell_other (fun e => hne3 (congrArg Addr.block e)), World.cell?_setCell_other (fun e => hne3 (congrArg Addr.block e))]; assumption)) | (refine ⟨?_, ?_⟩ <;> (rw [World.cell?_setCell_other (fun e => hne31 (congrArg Addr.block e)), World.cell?_setCell_other (fun e => hne31 (congrArg Addr.block e))]; assumption)))
              ((first | (rw [if_pos (show Region.wanted _ _ = true by rfl)]; refine wp_app0 (.tmp 43) (.tmp 47) 27 rfl w3.heap.size 39 ie (.agg zeroEv.cells) 14 160 Tryd.underlying27 HIE.out HZE.out he1' he2 rfl (by decide) _ 0 [] rfl (.inr ⟨rfl, rfl, _, rfl⟩) (some ⟨b, o, none⟩) k (k + 1) (slCells (k * 14) (evF l)) rfl (slCells_len _ _) (src_on (by first | exact ((Below.refl w3.heap.size w3).alloc (Nat.le_refl _) _).drew | exact (((Below.refl w3.heap.size w3).alloc (Nat.le_refl _) _).alloc (by simp) _).drew) HSRC1.out) (slc_one fun j _ => evF_one _ j) hA1 hA2 (by simp [Nat.add_assoc]) ?_; intro v4 w4 hown4 hg4; have GB := Lib.hid (show Below w3.heap.size w3 w4 by first | exact hg4.below ((Below.refl w3.heap.size w3).alloc (Nat.le_refl _) _).drew (by simp) (Nat.le_refl _) | exact hg4.below (((Below.refl w3.heap.size w3).alloc (Nat.le_refl _) _).alloc (by simp) _).drew (by simp [Nat.add_assoc]) (Nat.le_refl _)); have q0 := cell_later GB.out hcell0; have q1 := cell_later GB.out hcell1; have hlt4 : w.heap.size < w4.heap.size := Nat.lt_of_lt_of_le hz3 GB.out.size; have hne4 : ¬ w4.heap.size = w.heap.size := Nat.ne_of_gt hlt4; have hnf4 : ¬ w.heap.size = w4.heap.size := Nat.ne_of_lt hlt4; (first | (have hE4 : Has w4 (w3.heap.size + 1) 29 #[.slice none 0 0, .bool false] := hg4.has (by have h := Has.new (w3.alloc (.cells #[] 39)) 29 #[.slice none 0 0, .bool false]; rw [World.size_alloc] at h; exact h) (by decide); obtain ⟨hc8, hf8⟩ := hE4.facts; have HE4 := Lib.hid hE4; clear hE4) | (have hE4 : Has w4 w3.heap.size 29 #[.slice none 0 0, .bool false] := hg4.has ((Has.new w3 29 #[.slice none 0 0, .bool false]).alloc _) (by decide); obtain ⟨hc8, hf8⟩ := hE4.facts; have HE4 := Lib.hid hE4; clear hE4) | skip); have HOWN4 := Lib.hid hown4; clear hown4 hg4) | (rw [if_pos (show Region.wanted _ _ = true by rfl)]; refine wp_app0 (.tmp 48) (.tmp 53) 27 rfl w3.heap.size 39 ie (.agg zeroEv.cells) 14 160 Tryd.underlying27 HIE.out HZE.out he1' he2 rfl (by decide) v4 _ _ rfl (by first | exact HOWN4.out | exact HOWN4.out.alloc _) _ (l.length - (k + 1)) _ (slCells ((l.length - (k + 1)) * 14) (fun j => evF l ((k + 1) * 14 + j))) rfl (slCells_len _ _) (src_on (by first | exact GB.out | exact GB.out.alloc GB.out.size _) (HSRC2.out _ (.inr HZ0.out))) (slc_one fun j _ => evF_one _ _) hA3 hA4 (by first | exact GB.out.size | (rw [World.size_alloc]; exact Nat.le_succ_of_le GB.out.size)) ?_; intro v5 w5 hown5 hg5; obtain ⟨A5, c5, rfl⟩ := hown5.form; have GC := Lib.hid (show Below w3.heap.size w3 w5 by first | exact hg5.below GB.out GB.out.size (Nat.le_refl _) | exact hg5.below (GB.out.alloc GB.out.size _) (by rw [World.size_alloc]; exact Nat.le_succ_of_le GB.out.size) (Nat.le_refl _)); have q2 := cell_later GC.out hcell0; have q3 := cell_later GC.out hcell1; have hlt5 : w.heap.size < w5.heap.size := Nat.lt_of_lt_of_le hz3 GC.out.size; have hne5 : ¬ w5.heap.size = w.heap.size := Nat.ne_of_gt hlt5; have hnf5 : ¬ w.heap.size = w5.heap.size := Nat.ne_of_lt hlt5; (first | (have hE5 := hg5.has HE4.out (by decide); obtain ⟨hc9, hf9⟩ := hE5.facts; have HE5 := Lib.hid hE5; clear hE5) | (have hE5 : Has w5 w4.heap.size 29 #[.slice none 0 0, .bool false] := hg5.has (Has.new w4 29 #[.slice none 0 0, .bool false]) (by decide); obtain ⟨hc9, hf9⟩ := hE5.facts; have HE5 := Lib.hid hE5; clear hE5) | skip); have HOWN5 := Lib.hid hown5; clear hown5 hg5)))
            all_goals (go_wp2_with fail; go_meet)
            all_goals first | exact ⟨_, _, _, _, rfl, less_new hkl GC.out HOWN5.out⟩ | exact ⟨_, _, _, _, rfl, (less_new hkl GC.out HOWN5.out).drew⟩ | exact ⟨_, _, _, _, rfl, less_put hkl GC.out HE5.out (by decide) GB.out.size HOWN5.out⟩ | exact ⟨_, _, _, _, rfl, less_put hkl GC.out HE5.out (by decide) (Nat.le_succ _) HOWN5.out⟩ | exact ⟨_, _, _, _, rfl, less_put hkl GC.out HE5.out (by decide) (Nat.le_refl _) HOWN5.out⟩
          · rw [decide_eq_false_iff_not] at hcap
            have hne3 : ¬ w3.heap.size = w.heap.size := Nat.ne_of_gt hz3
            have hne31 : ¬ w3.heap.size + 1 = w.heap.size := Nat.ne_of_gt (Nat.lt_succ_of_lt hz3)
            have hx9 : IntKind.i64.wrap ((k : Int) + 1) = (k : Int) + 1 := IntWalk.i64_in _ (by omega)
            go_region_held3 (fun w' => w'.cell? ⟨w.heap.size, 0, none⟩ = some (.slice (some ⟨b, o, none⟩) l.length c) ∧ w'.cell? ⟨w.heap.size, 1, none⟩ = some (.bool d))
              (first | go_keep | (refine ⟨?_, ?_⟩ <;> (rw [World.cell?_setCell_other (fun e => hne4 (congrArg Addr.block e)), World.cell?_setCell_other (fun e => hne4 (congrArg Addr.block e))]; assumption)) | (refine ⟨?_, ?_⟩ <;> (rw [World.cell?_setCell_other (fun e => hne3 (congrArg Addr.block e)), World.cell?_setCell_other (fun e => hne3 (congrArg Addr.block e))]; assumption)) | (refine ⟨?_, ?_⟩ <;> (rw [World.cell?_setCell_other (fun e => hne31 (congrArg Addr.block e)), World.cell?_setCell_other (fun e => hne31 (congrArg Addr.block e))]; assumption)))
              ((first | (rw [if_pos (show Region.wanted _ _ = true by rfl)]; refine wp_app0 (.tmp 43) (.tmp 47) 27 rfl w3.heap.size 39 ie (.agg zeroEv.cells) 14 160 Tryd.underlying27 HIE.out HZE.out he1' he2 rfl (by decide) _ 0 [] rfl (.inr ⟨rfl, rfl, _, rfl⟩) (some ⟨b, o, none⟩) k c (slCells (k * 14) (evF l)) rfl (slCells_len _ _) (src_on (by first | exact ((Below.refl w3.heap.size w3).alloc (Nat.le_refl _) _).drew | exact (((Below.refl w3.heap.size w3).alloc (Nat.le_refl _) _).alloc (by simp) _).drew) HSRC1.out) (slc_one fun j _ => evF_one _ j) hA1 hA2 (by simp [Nat.add_assoc]) ?_; intro v4 w4 hown4 hg4; have GB := Lib.hid (show Below w3.heap.size w3 w4 by first | exact hg4.below ((Below.refl w3.heap.size w3).alloc (Nat.le_refl _) _).drew (by simp) (Nat.le_refl _) | exact hg4.below (((Below.refl w3.heap.size w3).alloc (Nat.le_refl _) _).alloc (by simp) _).drew (by simp [Nat.add_assoc]) (Nat.le_refl _)); have q0 := cell_later GB.out hcell0; have q1 := cell_later GB.out hcell1; have hlt4 : w.heap.size < w4.heap.size := Nat.lt_of_lt_of_le hz3 GB.out.size; have hne4 : ¬ w4.heap.size = w.heap.size := Nat.ne_of_gt hlt4; have hnf4 : ¬ w.heap.size = w4.heap.size := Nat.ne_of_lt hlt4; (first | (have hE4 : Has w4 (w3.heap.size + 1) 29 #[.slice none 0 0, .bool false] := hg4.has (by have h := Has.new (w3.alloc (.cells #[] 39)) 29 #[.slice none 0 0, .bool false]; rw [World.size_alloc] at h; exact h) (by decide); obtain ⟨hc8, hf8⟩ := hE4.facts; have HE4 := Lib.hid hE4; clear hE4) | (have hE4 : Has w4 w3.heap.size 29 #[.slice none 0 0, .bool false] := hg4.has ((Has.new w3 29 #[.slice none 0 0, .bool false]).alloc _) (by decide); obtain ⟨hc8, hf8⟩ := hE4.facts; have HE4 := Lib.hid hE4; clear hE4) | skip); have HOWN4 := Lib.hid hown4; clear hown4 hg4) | (rw [if_pos (show Region.wanted _ _ = true by rfl)]; refine wp_app0 (.tmp 48) (.tmp 53) 27 rfl w3.heap.size 39 ie (.agg zeroEv.cells) 14 160 Tryd.underlying27 HIE.out HZE.out he1' he2 rfl (by decide) v4 _ _ rfl (by first | exact HOWN4.out | exact HOWN4.out.alloc _) _ (l.length - (k + 1)) _ (slCells ((l.length - (k + 1)) * 14) (fun j => evF l ((k + 1) * 14 + j))) rfl (slCells_len _ _) (src_on (by first | exact GB.out | exact GB.out.alloc GB.out.size _) (HSRC2.out _ (.inl rfl))) (slc_one fun j _ => evF_one _ _) hA3 hA4 (by first | exact GB.out.size | (rw [World.size_alloc]; exact Nat.le_succ_of_le GB.out.size)) ?_; intro v5 w5 hown5 hg5; obtain ⟨A5, c5, rfl⟩ := hown5.form; have GC := Lib.hid (show Below w3.heap.size w3 w5 by first | exact hg5.below GB.out GB.out.size (Nat.le_refl _) | exact hg5.below (GB.out.alloc GB.out.size _) (by rw [World.size_alloc]; exact Nat.le_succ_of_le GB.out.size) (Nat.le_refl _)); have q2 := cell_later GC.out hcell0; have q3 := cell_later GC.out hcell1; have hlt5 : w.heap.size < w5.heap.size := Nat.lt_of_lt_of_le hz3 GC.out.size; have hne5 : ¬ w5.heap.size = w.heap.size := Nat.ne_of_gt hlt5; have hnf5 : ¬ w.heap.size = w5.heap.size := Nat.ne_of_lt hlt5; (first | (have hE5 := hg5.has HE4.out (by decide); obtain ⟨hc9, hf9⟩ := hE5.facts; have HE5 := Lib.hid hE5; clear hE5) | (have hE5 : Has w5 w4.heap.size 29 #[.slice none 0 0, .bool false] := hg5.has (Has.new w4 29 #[.slice none 0 0, .bool false]) (by decide); obtain ⟨hc9, hf9⟩ := hE5.facts; have HE5 := Lib.hid hE5; clear hE5) | skip); have HOWN5 := Lib.hid hown5; clear hown5 hg5)))
            all_goals (go_wp2_with fail; go_meet)
            all_goals first | exact ⟨_, _, _, _, rfl, less_new hkl GC.out HOWN5.out⟩ | exact ⟨_, _, _, _, rfl, (less_new hkl GC.out HOWN5.out).drew⟩ | exact ⟨_, _, _, _, rfl, less_put hkl GC.out HE5.out (by decide) GB.out.size HOWN5.out⟩ | exact ⟨_, _, _, _, rfl, less_put hkl GC.out HE5.out (by decide) (Nat.le_succ _) HOWN5.out⟩ | exact ⟨_, _, _, _, rfl, less_put hkl GC.out HE5.out (by decide) (Nat.le_refl _) HOWN5.out⟩
        case rest =>
          obtain ⟨g, A5, n5, c5, rfl, hL⟩ := hcut
          obtain ⟨hG, hn5, hS5, hBc⟩ := hL
          have hE4 := HE3.out.below hBc hz3
          obtain ⟨hc4, hf4⟩ := hE4.facts
          obtain ⟨hcg, hfg⟩ := hG.facts
          have hz4 := Nat.lt_of_lt_of_le hz3 hBc.size
          have hzg := hG.lt
          have HB4 := Lib.hid (HB3.out.trans (hBc.mono HB3.out.size))
          have HE4 := Lib.hid hE4
          have HG4 := Lib.hid hG
          have HS4 := Lib.hid hS5
          have hlen' := less_len (l := l) (k := k) hkl
          have HOK' := Lib.hid (less_ok HOK.out hl2 hkl)
          have HSH' := Lib.hid (fun e (he : e ∈ less l k) => HS.out e ((less_sub l k).subset he))
          have HONE := Lib.hid (fun (i : Nat) (h : i ≠ k) => less_one (l := l) (d := d) hkl h)
          have HNM := Lib.hid (fun s => less_names (l := l) (k := k) HOK.out s)
          have hN1 := numC_yes (d := d) HOK.out
          have hN2 := numC_yes (d := d) HOK'.out
          obtain ⟨N, hN⟩ : ∃ N, N = numC l d := ⟨_, rfl⟩
          obtain ⟨M, hM⟩ : ∃ M, M = numC (less l k) d := ⟨_, rfl⟩
          rw [← hN] at hN1
          rw [← hM] at hN2
          have hNb : l.length ≤ N ∧ N ≤ l.length + 1 := by rw [hN1]; cases d <;> simp
          have hMN : M + 1 = N := by rw [hN1, hN2]; cases d <;> simp <;> omega
          have HN := Lib.hid hN
          have HM := Lib.hid hM
          have hmb : ((M : Int) != (N : Int) - 1) = false := by simp; omega
          have hlo6 : (less l k).length ≤ 6 := by omega
          clear hE4 hG hS5 hBc hn5 hN hM hN1 hN2 HE3 HSRC1 HSRC2 HIE HZE hcell0 hcell1
          generalize less l k = l2 at *
          go_wp2_with fail
          refine (choices_any _ l d _ (HV.out.below HB4.out) HS.out (by omega)).mono ?_
          rintro e w5 ⟨rfl, hb5⟩
          rw [← HN.out]
          have hE5 := HE4.out.below hb5 hz4
          have hG5 := HG4.out.below hb5 hzg
          obtain ⟨hc5, hf5⟩ := hE5.facts
          obtain ⟨hcg5, hfg5⟩ := hG5.facts
          have HE5 := Lib.hid hE5
          have HG5 := Lib.hid hG5
          have HS5 := Lib.hid (HS4.out.below hb5)
          have HB5 := Lib.hid (HB4.out.trans (hb5.mono HB4.out.size))
          have hz5 := hE5.lt
          have hzg5 := hG5.lt
          clear hE5 hG5 hb5 hc4 hf4 hcg hfg HE4 HG4 HS4 hz4 hzg
          go_wp2_with fail
          refine (repValid_any _ l2 d _ HS5.out HSH'.out (by omega)).mono ?_
          rintro e w6 ⟨rfl, hb6⟩
          rw [HOK'.out]
          have hE6 := HE5.out.below hb6 hz5
          have hG6 := HG5.out.below hb6 hzg5
          obtain ⟨hc6, hf6⟩ := hE6.facts
          obtain ⟨hcg6, hfg6⟩ := hG6.facts
          have HE6 := Lib.hid hE6
          have HG6 := Lib.hid hG6
          have HS6 := Lib.hid (HS5.out.below hb6)
          have HB6 := Lib.hid (HB5.out.trans (hb6.mono HB5.out.size))
          have hz6 := hE6.lt
          have hzg6 := hG6.lt
          clear hE6 hG6 hb6 hc5 hf5 hcg5 hfg5 HE5 HG5 HS5 hz5 hzg5
          go_wp2_with fail
          refine (choices_any _ l2 d _ HS6.out HSH'.out (by omega)).mono ?_
          rintro e w7 ⟨rfl, hb7⟩
          rw [← HM.out]
          have hE7 := HE6.out.below hb7 hz6
          have hG7 := HG6.out.below hb7 hzg6
          obtain ⟨hc7, hf7⟩ := hE7.facts
          obtain ⟨hcg7, hfg7⟩ := hG7.facts
          have HE7 := Lib.hid hE7
          have HG7 := Lib.hid hG7
          have HS7 := Lib.hid (HS6.out.below hb7)
          have HB7 := Lib.hid (HB6.out.trans (hb7.mono HB6.out.size))
          have hz7 := hE7.lt
          have hzg7 := hG7.lt
          clear hE7 hG7 hb7 hc6 hf6 hcg6 hfg6 HE6 HG6 HS6 hz6 hzg6
          go_wp2_with fail
          go_loopw [9] (fun i wr => ∃ j : Nat, j ≤ N ∧ i = .int .i64 j ∧ Below w7.heap.size w7 wr) (fun i _ => N - (intOf i).toNat)
          case atStart => exact ⟨0, Nat.zero_le _, rfl, Below.refl _ _⟩
          case round =>
            obtain ⟨i, hi, rfl, hB8⟩ := hrel
            have hE8 := HE7.out.below hB8 hz7
            have hG8 := HG7.out.below hB8 hzg7
            obtain ⟨hc8, hf8⟩ := hE8.facts
            obtain ⟨hcg8, hfg8⟩ := hG8.facts
            have HE8 := Lib.hid hE8
            have HG8 := Lib.hid hG8
            have HS8 := Lib.hid (HS7.out.below hB8)
            have HB8 := Lib.hid (HB7.out.trans (hB8.mono HB7.out.size))
            have HD8 := Lib.hid hB8
            have hz8 := hE8.lt
            have hzg8 := hG8.lt
            clear hE8 hG8 hB8
            by_cases hlt : i < N
            · by_cases hik : i = k
              · have hikb : ((i : Int) == (k : Int)) = true := by simp [hik]
                clear hik
                go_wp2_with fail
                go_roundw
                case rel => exact ⟨i + 1, by omega, by go_num, HD8.out⟩
                case measure => simp [intOf]; omega
              · have hikb : ((i : Int) == (k : Int)) = false := by simp; omega
                have hone := HONE.out i hik
                have hpick1 : pickOk [⟨l, d⟩] [(i : Int)] = true := pickOk_one (isC_of (by omega) (by show (i : Int) < (numC l d : Int); rw [← HN.out]; omega))
                rcases (show decide ((k : Int) < (i : Int)) = true ∨ decide ((k : Int) < (i : Int)) = false by cases decide ((k : Int) < (i : Int)) <;> simp) with hki | hki
                · obtain ⟨j, rfl⟩ : ∃ j, i = j + 1 := ⟨i - 1, by rw [decide_eq_true_iff] at hki; omega⟩
                  have hone' : one ⟨l2, d⟩ (j : Int) = one ⟨l, d⟩ ((j + 1 : Nat) : Int) := by
                    rw [if_pos (by rw [decide_eq_true_iff] at hki; omega), Nat.add_sub_cancel] at hone; exact hone
                  have hpick2 : pickOk [⟨l2, d⟩] [(j : Int)] = true := pickOk_one (isC_of (by omega) (by show (j : Int) < (numC l2 d : Int); rw [← HM.out]; omega))
                  have hle1 := one_le ⟨l, d⟩ ((j + 1 : Nat) : Int)
                  obtain ⟨E, hE⟩ : ∃ E, E = one ⟨l, d⟩ ((j + 1 : Nat) : Int) := ⟨_, rfl⟩
                  rw [← hE] at hone' hle1
                  have hcast : ((j + 1 : Nat) : Int) = (j : Int) + 1 := by omega
                  have HPI1 := Lib.hid (fun W hv => pick_one (.slice (some ⟨b, o, none⟩) l.length c) l d ((j : Int) + 1) E W hv HS.out (by omega) (hcast ▸ hpick1) (hcast ▸ hE.symm))
                  have HPI2 := Lib.hid (fun W hv => pick_one (.slice A5 n5 c5) l2 d (j : Int) E W hv HSH'.out (by omega) hpick2 hone')
                  clear hone hone' hpick1 hpick2 hE
                  go_wp2_with fail
                  rotate_left
                  · exfalso; rw [decide_eq_true_iff] at hki; omega
                  refine (HPI1.out _ (HV.out.below HB8.out)).mono ?_
                  rintro e w9 ⟨A9, c9, rfl, hs9, hb9⟩
                  have hE9 := HE8.out.below hb9 hz8
                  have hG9 := HG8.out.below hb9 hzg8
                  obtain ⟨hc9, hf9⟩ := hE9.facts
                  obtain ⟨hcg9, hfg9⟩ := hG9.facts
                  have HT9 := Lib.hid hs9
                  have HS9 := Lib.hid (HS8.out.below hb9)
                  have HD9 := Lib.hid (HD8.out.trans (hb9.mono HD8.out.size))
                  clear hE9 hG9 hs9 hb9
                  go_wp2_with fail
                  refine (HPI2.out _ HS9.out).mono ?_
                  rintro e w10 ⟨A10, c10, rfl, hs10, hb10⟩
                  have HT10 := Lib.hid hs10
                  have HT9' := Lib.hid (HT9.out.below hb10)
                  have HD10 := Lib.hid (HD9.out.trans (hb10.mono HD9.out.size))
                  clear hs10 hb10
                  have SB := Lib.hid (show sameB E E = true by simp [sameB])
                  go_wp2_with (go_at_call 14; refine (same_any _ _ E E _ HT9'.out HT10.out (by omega) (by omega)).mono ?_; rintro e w11 ⟨rfl, hb11⟩; rw [SB.out]; have HD11 := Lib.hid (HD10.out.trans (hb11.mono HD10.out.size)); clear hb11)
                  go_roundw
                  case rel => exact ⟨j + 1 + 1, by omega, by go_num, HD11.out⟩
                  case measure => simp [intOf]; omega
                · have hone' : one ⟨l2, d⟩ (i : Int) = one ⟨l, d⟩ (i : Int) := by
                    rw [if_neg (by rw [decide_eq_false_iff_not] at hki; omega)] at hone; exact hone
                  have hpick2 : pickOk [⟨l2, d⟩] [(i : Int)] = true := pickOk_one (isC_of (by omega) (by show (i : Int) < (numC l2 d : Int); rw [← HM.out]; rw [decide_eq_false_iff_not] at hki; omega))
                  have hle1 := one_le ⟨l, d⟩ (i : Int)
                  obtain ⟨E, hE⟩ : ∃ E, E = one ⟨l, d⟩ (i : Int) := ⟨_, rfl⟩
                  rw [← hE] at hone' hle1
                  have HPI1 := Lib.hid (fun W hv => pick_one (.slice (some ⟨b, o, none⟩) l.length c) l d (i : Int) E W hv HS.out (by omega) hpick1 hE.symm)
                  have HPI2 := Lib.hid (fun W hv => pick_one (.slice A5 n5 c5) l2 d (i : Int) E W hv HSH'.out (by omega) hpick2 hone')
                  clear hone hone' hpick1 hpick2 hE
                  go_wp2_with fail
                  · exfalso; rw [decide_eq_false_iff_not] at hki; omega
                  refine (HPI1.out _ (HV.out.below HB8.out)).mono ?_
                  rintro e w9 ⟨A9, c9, rfl, hs9, hb9⟩
                  have hE9 := HE8.out.below hb9 hz8
                  have hG9 := HG8.out.below hb9 hzg8
                  obtain ⟨hc9, hf9⟩ := hE9.facts
                  obtain ⟨hcg9, hfg9⟩ := hG9.facts
                  have HT9 := Lib.hid hs9
                  have HS9 := Lib.hid (HS8.out.below hb9)
                  have HD9 := Lib.hid (HD8.out.trans (hb9.mono HD8.out.size))
                  clear hE9 hG9 hs9 hb9
                  go_wp2_with fail
                  refine (HPI2.out _ HS9.out).mono ?_
                  rintro e w10 ⟨A10, c10, rfl, hs10, hb10⟩
                  have HT10 := Lib.hid hs10
                  have HT9' := Lib.hid (HT9.out.below hb10)
                  have HD10 := Lib.hid (HD9.out.trans (hb10.mono HD9.out.size))
                  clear hs10 hb10
                  have SB := Lib.hid (show sameB E E = true by simp [sameB])
                  go_wp2_with (go_at_call 14; refine (same_any _ _ E E _ HT9'.out HT10.out (by omega) (by omega)).mono ?_; rintro e w11 ⟨rfl, hb11⟩; rw [SB.out]; have HD11 := Lib.hid (HD10.out.trans (hb11.mono HD10.out.size)); clear hb11)
                  go_roundw
                  case rel => exact ⟨i + 1, by omega, by go_num, HD11.out⟩
                  case measure => simp [intOf]; omega
            · obtain rfl : i = N := by omega
              have hq1 : (repNames l).length ≤ 12 := by
                have h1 := flat_le l
                have h2 := joinL_len (l.map evNames).flatten
                unfold repNames
                split <;> simp <;> omega
              have hq2 : (repNames l2).length ≤ 12 := by
                have h1 := flat_le l2
                have h2 := joinL_len (l2.map evNames).flatten
                unfold repNames
                split <;> simp <;> omega
              go_wp2_with fail
              refine (rnames_any _ l d _ (HV.out.below HB8.out) HS.out (by omega)).mono ?_
              rintro e w9 ⟨v9, rfl, hs9, hb9⟩
              obtain ⟨A9, c9, rfl, hn9⟩ := sl_len hs9
              have hE9 := HE8.out.below hb9 hz8
              have hG9 := HG8.out.below hb9 hzg8
              obtain ⟨hc9, hf9⟩ := hE9.facts
              obtain ⟨hcg9, hfg9⟩ := hG9.facts
              have HT9 := Lib.hid hs9
              have HS9 := Lib.hid (HS8.out.below hb9)
              have HB9 := Lib.hid (HB8.out.trans (hb9.mono HB8.out.size))
              clear hE9 hG9 hs9 hb9 hc8 hf8 hcg8 hfg8
              go_wp2_with fail
              refine (rnames_any _ l2 d _ HS9.out HSH'.out (by omega)).mono ?_
              rintro e w10 ⟨v10, rfl, hs10, hb10⟩
              obtain ⟨A10, c10, rfl, hn10⟩ := sl_len hs10
              have HT10 := Lib.hid hs10
              have HT9' := Lib.hid (HT9.out.below hb10)
              have HB10 := Lib.hid (HB9.out.trans (hb10.mono HB9.out.size))
              clear hs10 hb10 hc9 hf9 hcg9 hfg9
              have HIN := Lib.hid (fun (j : Nat) (hj : j < (repNames l2).length) => (inB_iff (repNames l) ((repNames l2).getD j ByteArray.empty)).2 (HNM.out _ (by rw [List.getD_eq_getElem?_getD, List.getElem?_eq_getElem hj]; exact List.getElem_mem hj)))
              generalize repNames l2 = P2 at *
              generalize repNames l = P1 at *
              go_wp2_with fail
              go_loop [17] (fun i => ∃ j : Nat, j ≤ P2.length ∧ i = .int .i64 j) (fun i => P2.length - (intOf i).toNat)
              case atStart => exact ⟨0, Nat.zero_le _, rfl⟩
              case round =>
                obtain ⟨q, hq, rfl⟩ := hrel
                by_cases hlq : q < P2.length
                · have hin := Lib.hid (HIN.out q hlq)
                  obtain ⟨A11, c11, he11, hn11, h0 | ⟨b2, o2, rfl, hcc⟩⟩ := HT10.out
                  · omega
                  obtain ⟨rfl, rfl⟩ : A10 = some ⟨b2, o2, none⟩ ∧ c10 = c11 := by injection he11; exact ⟨by assumption, by assumption⟩
                  have hcell : w10.cell? ⟨b2, o2 + q, none⟩ = some (.string (P2.getD q ByteArray.empty)) := hcc q (by omega)
                  clear hcc he11
                  generalize P2.getD q ByteArray.empty = x at *
                  go_wp2_with (go_at_call 21; refine (in_any _ P1 x _ HT9'.out (by omega)).mono ?_; rintro e w11 ⟨rfl, h11⟩; obtain rfl := h11.symm; rw [hin.out])
                  go_round
                  case rel => exact ⟨q + 1, by omega, by go_num⟩
                  case measure => simp [intOf]; omega
                · obtain rfl : q = P2.length := by omega
                  go_wp2_with fail
                  go_ret
                  exact ⟨rfl, HB10.out⟩
end Go.Proofs.YtmbalkebdmdmaaaDoor
