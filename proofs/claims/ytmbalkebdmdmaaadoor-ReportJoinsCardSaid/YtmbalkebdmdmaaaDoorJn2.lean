/- bogielaw13.ReportJoins returns true: the walk. -/
import Derived.Test.YtmbalkebdmdmaaaDoorJn1
import Derived.Test.YtmbalkebdmdmaaaDoorHead
import Derived.Test.YtmbalkebdmdmaaaDoorSame
namespace Go.Proofs.YtmbalkebdmdmaaaDoor
open Go Go.RowKit
theorem fewB_size {L : List Rep} {n : Nat} (h : fewB L n = true) : L.length ≤ 12 ∧ n ≤ 30 ∧ ∀ r ∈ L, r.opts.length ≤ 6 := by
  simp only [fewB, fewR, Bool.and_eq_true, decide_eq_true_eq, List.all_eq_true] at h
  refine ⟨h.1.1, h.2, fun r hr => ?_⟩
  have := h.1.2 r hr
  simp only [fewE, Bool.and_eq_true, decide_eq_true_eq] at this
  exact this.2
theorem info_rep : (Tryd.prog.info? 29).map (fun i => (i.zero, i.size, i.bytes)) = some (some (.agg #[.slice none 0 0, .bool false]), 2, 32) := by kernel_rfl
theorem info_int : (Tryd.prog.info? 3).map (fun i => (i.zero, i.size, i.bytes)) = some (some (.int .i64 0), 1, 8) := by kernel_rfl
theorem src_later {w w' : World} {n : Nat} {A : Option Addr} {cs : List Value} (hb : Below w.heap.size w w') (h : n = 0 ∨ ∃ ad, A = some ad ∧ ∀ j u, cs[j]? = some u → w.cell? (ad.add j) = some u) :
    n = 0 ∨ ∃ ad, A = some ad ∧ ∀ j u, cs[j]? = some u → w'.cell? (ad.add j) = some u := by
  rcases h with h | ⟨ad, h1, h2⟩
  · exact .inl h
  · exact .inr ⟨ad, h1, fun j u hu => cell_later hb (h2 j u hu)⟩
theorem pk_short {L : List Rep} {ch : List Int} (h : L.length ≤ 12) : (if pickOk L ch = true then pk L ch L.length else []).length ≤ 12 := by
  split
  · exact Nat.le_trans (pk_le L ch _) h
  · simp

set_option maxRecDepth 100000 in
set_option maxHeartbeats 8000000 in
theorem joins_any (v u v' u' : Value) (L M : List Rep) (ch ot : List Int) (w : World) (hv : Reps w v L) (hv' : Reps w v' M) (hu : Sl w u ch.length 1 (intF ch)) (hu' : Sl w u' ot.length 1 (intF ot))
    (hl : L.length ≤ 9223372036854775807) (hm : M.length ≤ 9223372036854775807) (ho : ∀ r ∈ L, r.opts.length ≤ 9223372036854775807) (ho' : ∀ r ∈ M, r.opts.length ≤ 9223372036854775807) (hs : ∀ r ∈ L, ∀ e ∈ r.opts, e.short) (hs' : ∀ r ∈ M, ∀ e ∈ r.opts, e.short) :
    Calls Tryd.prog 4 #[v, v', u, u'] w fun r w' => r = .returned (.bool true) ∧ Below w.heap.size w w' := by
  have HU := Lib.hid hu
  have HU' := Lib.hid hu'
  have HV := Lib.hid hv
  have HV' := Lib.hid hv'
  have HO := Lib.hid ho
  have HO' := Lib.hid ho'
  have HS := Lib.hid hs
  have HS' := Lib.hid hs'
  obtain ⟨A, c, rfl, hn⟩ := sl_len hu
  obtain ⟨B, d, rfl, hnB⟩ := sl_len hu'
  obtain ⟨A', c', rfl, hn', hc⟩ := hv
  obtain ⟨B', d', rfl, hnB', hc'⟩ := hv'
  clear hu hu' hc hc' ho ho' hs hs'
  have FEW1 : ∀ b, fewB L ch.length = b → ∀ W, Below w.heap.size w W → Calls Tryd.prog 10 #[.slice A' L.length c', .slice A ch.length c] W fun r w' => r = .returned (.bool b) ∧ Below W.heap.size W w' := fun b hb W hB => by
    rw [← hb]; exact few_any _ _ L ch.length c A W rfl (HV.out.below hB) hl HO.out
  have FEW2 : ∀ b, fewB M ot.length = b → ∀ W, Below w.heap.size w W → Calls Tryd.prog 10 #[.slice B' M.length d', .slice B ot.length d] W fun r w' => r = .returned (.bool b) ∧ Below W.heap.size W w' := fun b hb W hB => by
    rw [← hb]; exact few_any _ _ M ot.length d B W rfl (HV'.out.below hB) hm HO'.out
  have HF1 := Lib.hid FEW1
  have HF2 := Lib.hid FEW2
  clear FEW1 FEW2
  cases hf : fewB L ch.length
  · have F1 := Lib.hid (HF1.out _ hf)
    clear hf
    go_enter Tryd.func4, Tryd.ntmps4
    go_wp2_with fail
    refine (head_any _).mono ?_
    rintro e w1 ⟨rfl, hb1⟩
    have HB1 := Lib.hid hb1
    clear hb1
    go_wp2_with fail
    refine (F1.out _ HB1.out).mono ?_
    rintro e w2 ⟨rfl, hb2⟩
    have HB2 := Lib.hid (HB1.out.trans (hb2.mono HB1.out.size))
    clear hb2
    go_wp2_with fail
    go_ret
    exact ⟨rfl, HB2.out⟩
  · obtain ⟨hl12, hc30, ho6⟩ := fewB_size hf
    have F1 := Lib.hid (HF1.out _ hf)
    have HO6 := Lib.hid ho6
    clear hf ho6 hl
    cases hf2 : fewB M ot.length
    · have F2 := Lib.hid (HF2.out _ hf2)
      clear hf2
      go_enter Tryd.func4, Tryd.ntmps4
      go_wp2_with fail
      refine (head_any _).mono ?_
      rintro e w1 ⟨rfl, hb1⟩
      have HB1 := Lib.hid hb1
      clear hb1
      go_wp2_with fail
      refine (F1.out _ HB1.out).mono ?_
      rintro e w2 ⟨rfl, hb2⟩
      have HB2 := Lib.hid (HB1.out.trans (hb2.mono HB1.out.size))
      clear hb2
      go_wp2_with fail
      refine (F2.out _ HB2.out).mono ?_
      rintro e w3 ⟨rfl, hb3⟩
      have HB3 := Lib.hid (HB2.out.trans (hb3.mono HB2.out.size))
      clear hb3
      go_wp2_with fail
      go_ret
      exact ⟨rfl, HB3.out⟩
    · obtain ⟨hm12, hot30, hp6⟩ := fewB_size hf2
      have F2 := Lib.hid (HF2.out _ hf2)
      have HP6 := Lib.hid hp6
      clear hf2 hp6 hm
      by_cases hlens : L.length = ch.length ∧ M.length = ot.length
      · obtain ⟨e1, e2⟩ := hlens
        have b1 : ((L.length : Int) != (ch.length : Int)) = false := by simp; omega
        have b2 : ((M.length : Int) != (ot.length : Int)) = false := by simp; omega
        have E1 := Lib.hid e1
        have E2 := Lib.hid e2
        have HJ := Lib.hid (pickOk_app e1 e2)
        have HK := Lib.hid (show pk (L ++ M) (ch ++ ot) (L ++ M).length = pk L ch L.length ++ pk M ot M.length by rw [List.length_append]; exact pk_app e1 _)
        clear e1 e2
        obtain ⟨ir, hir, hzr, hr1, hr2⟩ := info_parts info_rep
        obtain ⟨ii, hii, hzi, hi1, hi2⟩ := info_parts info_int
        obtain ⟨ie, hie, hze, he1, he2⟩ := info_parts info_ev
        have HIR := Lib.hid hir
        have HZR := Lib.hid hzr
        have HII := Lib.hid hii
        have HZI := Lib.hid hzi
        have HIE := Lib.hid hie
        have HZE := Lib.hid hze
        clear hir hzr hii hzi hie hze
        have PICK1 : ∀ b, pickOk L ch = b → ∀ W, Below w.heap.size w W → Calls Tryd.prog 13 #[.slice A' L.length c', .slice A ch.length c] W fun r w' => ∃ v5 l5, r = .returned (.tuple #[v5, .int .i64 (if b then 0 else 1)]) ∧ l5 = (if b then pk L ch L.length else []) ∧ Sl w' v5 l5.length 14 (evF l5) ∧ Below W.heap.size W w' := fun b hb W hB => by
          rw [← hb]; exact picked_any _ _ L ch _ (HV.out.below hB) (HU.out.below hB) (by omega) (by omega) (fun r hr => by have := HO6.out r hr; omega) HS.out
        have PICK2 : ∀ b, pickOk M ot = b → ∀ W, Below w.heap.size w W → Calls Tryd.prog 13 #[.slice B' M.length d', .slice B ot.length d] W fun r w' => ∃ v5 l5, r = .returned (.tuple #[v5, .int .i64 (if b then 0 else 1)]) ∧ l5 = (if b then pk M ot M.length else []) ∧ Sl w' v5 l5.length 14 (evF l5) ∧ Below W.heap.size W w' := fun b hb W hB => by
          rw [← hb]; exact picked_any _ _ M ot _ (HV'.out.below hB) (HU'.out.below hB) (by omega) (by omega) (fun r hr => by have := HP6.out r hr; omega) HS'.out
        have HPK1 := Lib.hid PICK1
        have HPK2 := Lib.hid PICK2
        clear PICK1 PICK2
        cases hp : pickOk L ch
        all_goals cases hq : pickOk M ot
        all_goals
          have P1 := Lib.hid (HPK1.out _ hp)
          have P2 := Lib.hid (HPK2.out _ hq)
          rw [hp, hq] at HJ
          have hlp := pk_le L ch L.length
          have hlq := pk_le M ot M.length
          clear hp hq
          go_enter Tryd.func4, Tryd.ntmps4
          go_wp2_with fail
          refine (head_any _).mono ?_
          rintro e w1 ⟨rfl, hb1⟩
          have HB1 := Lib.hid hb1
          clear hb1
          go_wp2_with fail
          refine (F1.out _ HB1.out).mono ?_
          rintro e w2 ⟨rfl, hb2⟩
          have HB2 := Lib.hid (HB1.out.trans (hb2.mono HB1.out.size))
          clear hb2
          go_wp2_with fail
          refine (F2.out _ HB2.out).mono ?_
          rintro e w3 ⟨rfl, hb3⟩
          have HB3 := Lib.hid (HB2.out.trans (hb3.mono HB2.out.size))
          clear hb3
          go_wp2_with fail
          refine (P1.out _ HB3.out).mono ?_
          rintro e w5 ⟨v5, l5, rfl, hl5, hs5, hb5⟩
          simp only [Bool.false_eq_true, if_false, if_true] at hl5 ⊢
          subst hl5
          obtain ⟨A5, c5, rfl, hn5⟩ := sl_len hs5
          have HS5 := Lib.hid hs5
          have HB5 := Lib.hid (HB3.out.trans (hb5.mono HB3.out.size))
          clear hs5 hb5
          go_wp2_with fail
          refine (P2.out _ HB5.out).mono ?_
          rintro e w6 ⟨v6, l6, rfl, hl6, hs6, hb6⟩
          simp only [Bool.false_eq_true, if_false, if_true] at hl6 ⊢
          subst hl6
          obtain ⟨A6, c6, rfl, hn6⟩ := sl_len hs6
          have HS6 := Lib.hid hs6
          have HB6 := Lib.hid (HB5.out.trans (hb6.mono HB5.out.size))
          have HT5 := Lib.hid (HS5.out.below hb6)
          clear hs6 hb6 HS5
          obtain ⟨_, cs, hcs, hcA⟩ := (HV.out.below HB6.out).cells
          obtain ⟨_, ds, hds, hdA⟩ := (HV'.out.below HB6.out).cells
          have hiA := sl_src (HU.out.below HB6.out)
          have hiB := sl_src (HU'.out.below HB6.out)
          have hlc := hcs.1
          have hld := hds.1
          have HCS := Lib.hid hcs
          have HDS := Lib.hid hds
          have HCA := Lib.hid hcA
          have HDA := Lib.hid hdA
          have HIA := Lib.hid hiA.2
          have HIB := Lib.hid hiB.2
          have HLC := Lib.hid hlc
          have HLD := Lib.hid hld
          clear hcs hds hcA hdA hiA hiB hlc hld
          have hG0 : Below w6.heap.size w6 w6 := Below.refl _ _
          have G0 := Lib.hid hG0
          clear hG0
          go_wp2_with (first | (at_builtin; refine wpList_app rfl (.tmp 55) (.tmp 56) 22 rfl w6.heap.size 29 ir (.agg #[.slice none 0 0, .bool false]) 2 32 Tryd.underlying22 HIR.out HZR.out hr1 hr2 rfl (by decide) _ 0 [] rfl (own_of_has (n := 0) (Has.new w6 _ #[]) (Nat.le_refl _) rfl (by simp [maxLen])) A' L.length c' cs rfl HLC.out (src_later (G0.out.alloc (Nat.le_refl _) _) HCA.out) HCS.out.2.1 (by unfold maxLen; omega) (by omega) (by simp) ?_; intro v7 w7 hown7 hg7; have G7 := Lib.hid ((G0.out.alloc (Nat.le_refl _) _).grown hg7 (by simp) (fun j hj => Nat.le_of_eq (Option.some.inj hj))); have HOWN7 := Lib.hid hown7; clear hown7 hg7) | (at_builtin; refine wpList_app rfl (.tmp 57) (.tmp 58) 22 rfl w6.heap.size 29 ir (.agg #[.slice none 0 0, .bool false]) 2 32 Tryd.underlying22 HIR.out HZR.out hr1 hr2 rfl (by decide) v7 _ _ rfl HOWN7.out B' M.length d' ds rfl HLD.out (src_later G7.out HDA.out) HDS.out.2.1 (by unfold maxLen; omega) (by omega) G7.out.size ?_; intro v8 w8 hown8 hg8; have G8 := Lib.hid (G7.out.grown hg8 G7.out.size (fun j hj => (HOWN7.out.lt j hj).1)); have HOWN8 := Lib.hid hown8; clear hown8 hg8) | (at_builtin; refine wpList_app rfl (.tmp 60) (.tmp 61) 23 rfl w8.heap.size 3 ii (.int .i64 0) 1 8 Tryd.underlying23 HII.out HZI.out hi1 hi2 rfl (by decide) _ 0 [] rfl (own_of_has (n := 0) (Has.new w8 _ #[]) (Nat.le_refl _) rfl (by simp [maxLen])) A ch.length c (slCells (ch.length * 1) (intF ch)) rfl (slCells_len _ _) (src_later (G8.out.alloc G8.out.size _) HIA.out) (slCells_one fun j _ => intF_one ch j) (by unfold maxLen; omega) (by omega) (by simp) ?_; intro v9 w9 hown9 hg9; have G9 := Lib.hid ((G8.out.alloc G8.out.size _).grown hg9 (by have := G8.out.size; simp; try omega) (fun j hj => Nat.le_trans G8.out.size (Nat.le_of_eq (Option.some.inj hj)))); have HOWN89 := Lib.hid ((HOWN8.out.alloc _).kept hg9 (Classical.or_iff_not_imp_left.2 fun hne he => by obtain ⟨k, hk⟩ := Option.ne_none_iff_exists'.1 hne; have := (HOWN8.out.lt k hk).2; rw [hk] at he; have h3 : k = w8.heap.size := Option.some.inj he; omega)); have HOWN9 := Lib.hid hown9; have hz9 : w8.heap.size ≤ w9.heap.size := (by have := hg9.size; simp at this; omega); clear hown9 hg9) | (at_builtin; refine wpList_app rfl (.tmp 62) (.tmp 63) 23 rfl w8.heap.size 3 ii (.int .i64 0) 1 8 Tryd.underlying23 HII.out HZI.out hi1 hi2 rfl (by decide) v9 _ _ rfl HOWN9.out B ot.length d (slCells (ot.length * 1) (intF ot)) rfl (slCells_len _ _) (src_later G9.out HIB.out) (slCells_one fun j _ => intF_one ot j) (by unfold maxLen; omega) (by omega) hz9 ?_; intro v10 w10 hown10 hg10; have G10 := Lib.hid (G9.out.grown hg10 G9.out.size (fun j hj => Nat.le_trans G8.out.size (HOWN9.out.lt j hj).1)); have HOWN810 := Lib.hid (HOWN89.out.kept hg10 (Classical.or_iff_not_imp_left.2 fun hne he => by obtain ⟨k, hk⟩ := Option.ne_none_iff_exists'.1 hne; have h1 := (HOWN8.out.lt k hk).2; have h2 := (HOWN9.out.lt k (by rw [← he, hk])).1; omega)); have HOWN10 := Lib.hid hown10; clear hown10 hg10))
          have HRR := Lib.hid (reps_own (L := L ++ M) (by rw [List.length_append]; have h := HOWN810.out; simpa using h) ((HCS.out.below G10.out).app (HDS.out.below G10.out)))
          have HSI := Lib.hid (show Sl w10 v10 (ch ++ ot).length 1 (intF (ch ++ ot)) by rw [List.length_append]; have h := sl_row HOWN10.out; simp only [Nat.zero_add, List.nil_append] at h; exact h.congr fun j hj => intF_app ch ot j (by omega))
          have hsz10 := G10.out.size
          clear HOWN7 HOWN8 HOWN89 HOWN810 HOWN9 HOWN10 G7 G8 G9
          refine (picked_any v8 v10 (L ++ M) (ch ++ ot) _ HRR.out HSI.out (by simp; omega) (by simp; omega) (fun r hr => by rcases List.mem_append.1 hr with h | h; (have := HO6.out r h; omega); (have := HP6.out r h; omega)) (fun r hr => by rcases List.mem_append.1 hr with h | h; exact HS.out r h; exact HS'.out r h)).mono ?_
          rintro e w11 ⟨v11, l11, rfl, hl11, hs11, hb11⟩
          rw [HJ.out] at hl11 ⊢
          simp only [Bool.and_self, Bool.and_true, Bool.true_and, Bool.and_false, Bool.false_and, Bool.false_eq_true, if_false, if_true] at hl11 ⊢
        · subst hl11
          obtain ⟨A11, c11, rfl, hn11⟩ := sl_len hs11
          have HS11 := Lib.hid hs11
          have G11 := Lib.hid (G10.out.trans (hb11.mono hsz10))
          have hsz11 := G11.out.size
          clear hs11 hb11
          have HX5 := Lib.hid (sl_src (HT5.out.below G11.out)).2
          have HX6 := Lib.hid (sl_src (HS6.out.below G11.out)).2
          go_wp2_with fail
          go_ret
          exact ⟨rfl, HB6.out.trans (G11.out.mono HB6.out.size)⟩
        · subst hl11
          obtain ⟨A11, c11, rfl, hn11⟩ := sl_len hs11
          have HS11 := Lib.hid hs11
          have G11 := Lib.hid (G10.out.trans (hb11.mono hsz10))
          have hsz11 := G11.out.size
          clear hs11 hb11
          have HX5 := Lib.hid (sl_src (HT5.out.below G11.out)).2
          have HX6 := Lib.hid (sl_src (HS6.out.below G11.out)).2
          go_wp2_with fail
          go_ret
          exact ⟨rfl, HB6.out.trans (G11.out.mono HB6.out.size)⟩
        · subst hl11
          obtain ⟨A11, c11, rfl, hn11⟩ := sl_len hs11
          have HS11 := Lib.hid hs11
          have G11 := Lib.hid (G10.out.trans (hb11.mono hsz10))
          have hsz11 := G11.out.size
          clear hs11 hb11
          have HX5 := Lib.hid (sl_src (HT5.out.below G11.out)).2
          have HX6 := Lib.hid (sl_src (HS6.out.below G11.out)).2
          go_wp2_with fail
          go_ret
          exact ⟨rfl, HB6.out.trans (G11.out.mono HB6.out.size)⟩
        · rw [HK.out] at hl11
          have SB := Lib.hid (show sameB l11 (pk L ch L.length ++ pk M ot M.length) = true by rw [hl11]; simp [sameB])
          have hlj : l11.length ≤ 24 := by rw [hl11, List.length_append]; omega
          clear hl11
          obtain ⟨A11, c11, rfl, hn11⟩ := sl_len hs11
          have HS11 := Lib.hid hs11
          have G11 := Lib.hid (G10.out.trans (hb11.mono hsz10))
          have hsz11 := G11.out.size
          clear hs11 hb11
          have HX5 := Lib.hid (sl_src (HT5.out.below G11.out)).2
          have HX6 := Lib.hid (sl_src (HS6.out.below G11.out)).2
          go_wp2_with (first | (at_builtin; refine wpList_app (by kernel_rfl) (.tmp 91) (.tmp 92) 27 rfl w11.heap.size 39 ie (.agg zeroEv.cells) 14 160 Tryd.underlying27 HIE.out HZE.out he1 he2 rfl (by decide) _ 0 [] rfl (own_of_has (n := 0) (Has.new w11 _ #[]) (Nat.le_refl _) rfl (by simp [maxLen])) A5 (pk L ch L.length).length c5 (slCells ((pk L ch L.length).length * 14) (evF (pk L ch L.length))) rfl (slCells_len _ _) (src_later ((Below.refl _ _).alloc (Nat.le_refl _) _) HX5.out) (slCells_one fun j _ => evF_one _ j) (by unfold maxLen; omega) (by omega) (by simp) ?_; intro v13 w13 hown13 hg13; have K13 := Lib.hid (((Below.refl w11.heap.size w11).alloc (Nat.le_refl _) _).grown hg13 (by simp) (fun j hj => Nat.le_of_eq (Option.some.inj hj))); have HOWN13 := Lib.hid hown13; clear hown13 hg13) | (at_builtin; refine wpList_app (by kernel_rfl) (.tmp 93) (.tmp 94) 27 rfl w11.heap.size 39 ie (.agg zeroEv.cells) 14 160 Tryd.underlying27 HIE.out HZE.out he1 he2 rfl (by decide) v13 _ _ rfl HOWN13.out A6 (pk M ot M.length).length c6 (slCells ((pk M ot M.length).length * 14) (evF (pk M ot M.length))) rfl (slCells_len _ _) (src_later K13.out HX6.out) (slCells_one fun j _ => evF_one _ j) (by unfold maxLen; omega) (by omega) K13.out.size ?_; intro v14 w14 hown14 hg14; have K14 := Lib.hid (K13.out.grown hg14 K13.out.size (fun j hj => (HOWN13.out.lt j hj).1)); have HOWN14 := Lib.hid hown14; clear hown14 hg14) | (go_at_call 14; refine (same_any _ v14 l11 (pk L ch L.length ++ pk M ot M.length) _ (HS11.out.below K14.out) (by rw [List.length_append]; have h := sl_row HOWN14.out; simp only [Nat.zero_add, List.nil_append] at h; exact h.congr fun j hj => evF_app _ _ j (by omega)) (by omega) (by rw [List.length_append]; omega)).mono ?_; rintro e w16 ⟨rfl, hb16⟩; rw [SB.out]; have K16 := Lib.hid (K14.out.trans (hb16.mono K14.out.size)); clear hb16))
          go_ret
          exact ⟨rfl, HB6.out.trans ((G11.out.trans (K16.out.mono hsz11)).mono HB6.out.size)⟩
      · rcases (show ((L.length : Int) != (ch.length : Int)) = true ∨ (((L.length : Int) != (ch.length : Int)) = false ∧ ((M.length : Int) != (ot.length : Int)) = true) by
          rw [bne_iff_ne, bne_iff_ne, bne_eq_false_iff_eq]; omega) with b1 | ⟨b1, b2⟩
        all_goals
          clear hlens
          go_enter Tryd.func4, Tryd.ntmps4
          go_wp2_with fail
          refine (head_any _).mono ?_
          rintro e w1 ⟨rfl, hb1⟩
          have HB1 := Lib.hid hb1
          clear hb1
          go_wp2_with fail
          refine (F1.out _ HB1.out).mono ?_
          rintro e w2 ⟨rfl, hb2⟩
          have HB2 := Lib.hid (HB1.out.trans (hb2.mono HB1.out.size))
          clear hb2
          go_wp2_with fail
          refine (F2.out _ HB2.out).mono ?_
          rintro e w3 ⟨rfl, hb3⟩
          have HB3 := Lib.hid (HB2.out.trans (hb3.mono HB2.out.size))
          clear hb3
          go_wp2_with fail
          go_ret
          exact ⟨rfl, HB3.out⟩
end Go.Proofs.YtmbalkebdmdmaaaDoor
