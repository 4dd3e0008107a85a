/- bogieref10.put, Inside, Digest; bogieref01.Same. No condition but sizes. bogieref10.Inside, Digest; bogieref01.Same of lists that are alike. No condition but sizes. -/
import Derived.Test.YtccnocgmikmonaaGreatDoorU07
import Derived.Test.YtccnocgmikmonaaGreatDoorZDc
import Derived.Test.YtccnocgmikmonaaGreatDoorZLa
namespace Go.Proofs.YtccnocgmikmonaaGreatDoor
open Go Go.RowKit
theorem low_atS {l : List ByteArray} {s : ByteArray} {k : Nat} (hk : k ≤ l.length) (h : ∀ q ∈ l.take k, ltS q s = true) (he : ∀ q, l[k]? = some q → ltS q s = false) : lowG idS l s = k := by
  unfold lowG idS
  conv => lhs; rw [← List.take_append_drop k l]
  rw [List.takeWhile_append_of_pos h, List.length_append, List.length_take]
  have : (l.drop k).takeWhile (fun y => ltS y s) = [] := by
    cases hd : l.drop k with
    | nil => rfl
    | cons q t =>
      have hq : l[k]? = some q := by
        have h1 := congrArg (fun l => l[0]?) hd
        simpa [List.getElem?_drop] using h1
      rw [List.takeWhile_cons, he q hq]; rfl
  rw [this]; simp; omega
theorem put_same {l : List ByteArray} {s : ByteArray} {k : Nat} (hk : k < l.length) (h : ∀ q ∈ l.take k, ltS q s = true) (he : l.getD k eS = s) : putG idS l s = l := by
  rw [getD_get _ _ _ hk] at he
  have hl : lowG idS l s = k := low_atS (by omega) h (fun q hq => by
    rw [List.getElem?_eq_getElem hk] at hq
    cases hq; rw [he]; exact ltS_irr s)
  unfold putG
  show (if (l[lowG idS l s]?).map idS = some s then l.set (lowG idS l s) s else _) = l
  rw [hl, List.getElem?_eq_getElem hk, he]
  show (if some s = some s then _ else _) = l
  rw [if_pos rfl]
  apply List.ext_getElem?
  intro j
  rw [List.getElem?_set]
  split
  · rename_i hj
    subst hj
    rw [List.getElem?_eq_getElem hk, he]
    try simp
  · rfl
theorem put_new {l : List ByteArray} {s : ByteArray} {k : Nat} (hk : k ≤ l.length) (h : ∀ q ∈ l.take k, ltS q s = true) (he : ∀ q, l[k]? = some q → ltS q s = false ∧ q ≠ s) : putG idS l s = l.take k ++ s :: l.drop k := by
  have hl : lowG idS l s = k := low_atS hk h (fun q hq => (he q hq).1)
  unfold putG
  show (if (l[lowG idS l s]?).map idS = some s then l.set (lowG idS l s) s else l.take (lowG idS l s) ++ s :: l.drop (lowG idS l s)) = _
  rw [hl, if_neg]
  cases hq : l[k]? with
  | none => intro h; cases h
  | some q => intro h2; exact (he q hq).2 (by simpa [idS] using h2)
theorem low_next {l : List ByteArray} {s : ByteArray} {k : Nat} (hk : k < l.length) (h : ∀ q ∈ l.take k, ltS q s = true) : ltS (l.getD k eS) s = true → ∀ q ∈ l.take (k + 1), ltS q s = true := by
  intro he q hq
  rw [List.take_succ_eq_append_getElem hk, List.mem_append, List.mem_singleton] at hq
  rcases hq with hq | rfl
  · exact h q hq
  · rwa [getD_get _ _ _ hk] at he
theorem put_end {l : List ByteArray} {s : ByteArray} (h : ∀ q ∈ l.take l.length, ltS q s = true) : putG idS l s = l.take l.length ++ s :: l.drop l.length :=
  put_new (Nat.le_refl _) h (fun q hq => by rw [List.getElem?_eq_none (Nat.le_refl _)] at hq; cases hq)
theorem put_mid {l : List ByteArray} {s : ByteArray} {k : Nat} (hk : k < l.length) (h : ∀ q ∈ l.take k, ltS q s = true) : ltS (l.getD k eS) s = false → l.getD k eS ≠ s → putG idS l s = l.take k ++ s :: l.drop k := fun h1 h2 =>
  put_new (by omega) h (fun q hq => by
    rw [List.getElem?_eq_getElem hk] at hq
    cases hq
    rw [getD_get _ _ _ hk] at h1 h2
    exact ⟨h1, h2⟩)
theorem str_own0 {w : World} {base t : Nat} {v : Value} {l : List ByteArray} {n : Nat} (h : Own0 w base t 1 v n (l.map .string)) (hn : n = l.length) : Sl w v l.length 1 (strF l) := by
  subst hn
  rcases h with h | ⟨h0, _, B, rfl⟩
  · exact str_ownI h
  · rw [h0]; exact ⟨_, _, rfl, Nat.le_refl _, .inl rfl⟩
/-- A part of a row of strings, as a source. -/
theorem str_part {w : World} {b o : Nat} {l : List ByteArray} (hc : ∀ j, j < l.length * 1 → w.cell? ⟨b, o + j, none⟩ = some (strF l j)) (i m : Nat) (him : i + m ≤ l.length) : ∀ j u, (((l.drop i).take m).map Value.string)[j]? = some u → w.cell? ((⟨b, o + i, none⟩ : Addr).add j) = some u := by
  intro j u hu
  rw [List.getElem?_map, List.getElem?_take] at hu
  split at hu
  · rename_i hj
    rw [List.getElem?_drop, List.getElem?_eq_getElem (by omega)] at hu
    have h1 := hc (i + j) (by omega)
    rw [Addr.add_mid, Nat.add_assoc, h1]
    unfold strF
    rw [getD_get _ _ _ (by omega)]
    simpa using hu
  · cases hu
theorem putG_nilS (s : ByteArray) : putG idS [] s = [s] := by
  unfold putG lowG; simp
theorem has_src {w : World} {g : Nat} {t : TypeId} {x : Value} (h : Has w g t #[x]) : ∀ j u, ([x] : List Value)[j]? = some u → w.cell? ((⟨g, 0, none⟩ : Addr).add j) = some u := fun j u hu => by
  have h1 := h.facts.1 j
  rw [Addr.add_mid, Nat.zero_add, h1]; simpa using hu
set_option maxRecDepth 100000 in
set_option maxHeartbeats 8000000 in
theorem refPut_nil (s : ByteArray) (w : World) :
    Calls Tryz.prog 36 #[.slice none 0 0, .string s] w fun e w' => ∃ v', e = .returned v' ∧ Sl w' v' (putG idS [] s).length 1 (strF (putG idS [] s)) ∧ putG idS [] s ≠ [] ∧ Below w.heap.size w w' := by
  obtain ⟨i0, hi0, hz0, hz1, hz2⟩ := info_parts info_strI
  have HI := Lib.hid hi0
  have HZ := Lib.hid hz0
  clear hi0 hz0
  have HNEW := Lib.hid (show putG idS [] s = [s] from putG_nilS s)
  go_enter Tryz.func36, Tryz.ntmps36
  go_wp2_with fail
  go_loopw [5] (fun i wr => i = .int .i64 0 ∧ wr = w) (fun _ _ => 0)
  case atStart => exact ⟨rfl, rfl⟩
  case round =>
    obtain ⟨rfl, rfl⟩ := hrel
    go_wp2_with fail
    have HBz := Lib.hid ((Below.refl wr.heap.size wr).drew)
    refine wp_region_held_drew (S := fun _ => True) (by kernel_rfl) (trivial) (fun hHeld => ?_)
    refine plI [(1, false), (2, false), (3, false), (5, false), (8, false), (9, false), (10, false)] ?_
    repeat ((first | ((with_reducible show Plan ((_, true) :: _) _); refine plF ?_) | (refine plR (v := ?_) ?_ ?_; rotate_left; focus (intro W hSW; (try dsimp only at hSW); go_simp; all_goals (with_reducible rfl)))); try simp only [Act.put, List.setIfInBounds_toArray, List.set_cons_zero, List.set_cons_succ])
    refine plE ?_
    refine wpAnyH_ready (rs := [0, 6]) (by kernel_rfl) (by simp) ?_
    refine AllReadyH.cons (o := ⟨_, _, _, _, _, _⟩) rfl (fun K hK => ?_) ?_
    · go_simp
      have HB0 := Lib.hid ((HBz.out).alloc (HBz.out).size (.cells #[] 9))
      refine hK.out _ _ (trivial) (fun hHeld => ?_)
      clear hK K
      try simp only [Act.put, List.setIfInBounds_toArray, List.set_cons_zero, List.set_cons_succ]
      refine wpAnyH_ready (rs := [4, 6]) (by kernel_rfl) (by simp) ?_
      refine AllReadyH.cons (o := ⟨_, _, _, _, _, _⟩) rfl (fun K hK => ?_) ?_
      · rw [if_pos (show Region.wanted _ _ = true by rfl)]
        refine wp_app0 (.tmp 33) (.tmp 36) 39 rfl _ 9 i0 (.string ⟨#[]⟩) 1 16 Tryz.underlying39 HI.out HZ.out hz1 hz2 rfl (by decide) _ 0 [] rfl (.inr ⟨rfl, rfl, _, rfl⟩) none 0 0 [] rfl (by simp <;> omega) (.inl rfl) (strs_one (l := [])) (by unfold maxLen; omega) (by omega) (Nat.le_refl _) ?_
        intro v4 w4 hown4 hg4
        simp only [Nat.zero_add, List.nil_append] at hown4
        have hb4 := hg4.below (Below.refl _ _) (Nat.le_refl _) (Nat.le_refl _)
        have HB4 := Lib.hid ((HB0.out).trans (hb4.mono (HB0.out).size))
        have HO4 := Lib.hid hown4
        have hz4 := hb4.size
        obtain ⟨A4, c4, hf4⟩ := hown4.form
        subst hf4
        clear hown4 hg4 hb4
        refine hK.out _ _ (trivial) (fun hHeld => ?_)
        clear hK K
        try simp only [Act.put, List.setIfInBounds_toArray, List.set_cons_zero, List.set_cons_succ]
        refine wpAnyH_ready (rs := [6]) (by kernel_rfl) (by simp) ?_
        refine AllReadyH.cons (o := ⟨_, _, _, _, _, _⟩) rfl (fun K hK => ?_) AllReadyH.nil
        go_simp
        have HB6 := Lib.hid ((HB4.out).alloc (HB4.out).size (.cells #[.string s] 9))
        have HL6 := Lib.hid (show Has _ (w4.heap.size) 9 #[.string s] from (by have h := Has.new w4 9 #[.string s]; (try rw [World.size_alloc] at h); exact h))
        have HOb := Lib.hid (HO4.out.alloc (.cells #[.string s] 9))
        have hw6 : w4.heap.size ≤ (w4.alloc (.cells #[.string s] 9)).heap.size := by simp
        refine hK.out _ _ (trivial) (fun hHeld => ?_)
        clear hK K
        try simp only [Act.put, List.setIfInBounds_toArray, List.set_cons_zero, List.set_cons_succ]
        refine wpAnyH_ready (rs := [7]) (by kernel_rfl) (by simp) ?_
        refine AllReadyH.cons (o := ⟨_, _, _, _, _, _⟩) rfl (fun K hK => ?_) AllReadyH.nil
        rw [if_pos (show Region.wanted _ _ = true by rfl)]
        refine wp_app0 (.tmp 37) (.tmp 39) 39 rfl _ 9 i0 (.string ⟨#[]⟩) 1 16 Tryz.underlying39 HI.out HZ.out hz1 hz2 rfl (by decide) _ 0 [] rfl HOb.out (some ⟨_, 0, none⟩) 1 1 [.string s] rfl rfl (.inr ⟨_, rfl, has_src HL6.out⟩) (one_str s) (by unfold maxLen; omega) (by omega) (by have q2 := hz4; simp at q2 ⊢ <;> omega) ?_
        intro v7 w7 hown7 hg7
        try simp only [Nat.zero_add, List.nil_append] at hown7
        have hb7 := hg7.below (HB6.out) (HB6.out).size (by have q1 := HBz.out.size; have q2 := hz4; simp at q1 q2 ⊢ <;> omega)
        have HB7 := Lib.hid hb7
        have HO7 := Lib.hid hown7
        have hz7 : w4.heap.size ≤ w7.heap.size := by obtain ⟨row, hr, _⟩ := hg7; have := hr.size; simp at this ⊢; omega
        obtain ⟨A7, c7, hf7⟩ := hown7.form
        subst hf7
        clear hown7 hg7 hb7
        refine hK.out _ _ (trivial) (fun hHeld => ?_)
        clear hK K
        try simp only [Act.put, List.setIfInBounds_toArray, List.set_cons_zero, List.set_cons_succ]
        refine wpAnyH_ready (rs := [11]) (by kernel_rfl) (by simp) ?_
        refine AllReadyH.cons (o := ⟨_, _, _, _, _, _⟩) rfl (fun K hK => ?_) AllReadyH.nil
        rw [if_pos (show Region.wanted _ _ = true by rfl)]
        refine wp_app0 (.tmp 40) (.tmp 43) 39 rfl _ 9 i0 (.string ⟨#[]⟩) 1 16 Tryz.underlying39 HI.out HZ.out hz1 hz2 rfl (by decide) _ 1 [.string s] rfl HO7.out _ 0 _ [] rfl (by simp) (.inl rfl) (strs_one (l := [])) (by unfold maxLen; omega) (by omega) (by omega) ?_
        intro v11 w11 hown11 hg11
        have HB11 := Lib.hid (hg11.below (HB7.out) (HB7.out).size (by have q1 := HBz.out.size; have q2 := hz4; simp at q1 q2 ⊢ <;> omega))
        have HO11 := Lib.hid hown11
        clear hown11 hg11
        refine hK.out _ _ (trivial) (fun hHeld => ?_)
        clear hK K
        try simp only [Act.put, List.setIfInBounds_toArray, List.set_cons_zero, List.set_cons_succ]
        refine plI [(12, false)] ?_
        repeat ((first | ((with_reducible show Plan ((_, true) :: _) _); refine plF ?_) | (refine plR (v := ?_) ?_ ?_; rotate_left; focus (intro W hSW; (try dsimp only at hSW); go_simp; all_goals (with_reducible rfl)))); try simp only [Act.put, List.setIfInBounds_toArray, List.set_cons_zero, List.set_cons_succ])
        refine plE ?_
        refine wpAnyH_done (by kernel_rfl) ?_ _
        clear hHeld
        go_wp2_with fail
        go_ret
        exact ⟨_, rfl, by rw [HNEW.out]; exact str_own0 (by simpa using HO11.out) (by simp <;> omega), by rw [HNEW.out]; simp, HB11.out⟩
      refine AllReadyH.cons (o := ⟨_, _, _, _, _, _⟩) rfl (fun K hK => ?_) AllReadyH.nil
      go_simp
      have HB6 := Lib.hid ((HB0.out).alloc (HB0.out).size (.cells #[.string s] 9))
      have HL6 := Lib.hid (show Has _ (wr.heap.size + 1) 9 #[.string s] from (by have h := Has.new (wr.drew.alloc (.cells #[] 9)) 9 #[.string s]; (try rw [World.size_alloc] at h); exact h))
      refine hK.out _ _ (trivial) (fun hHeld => ?_)
      clear hK K
      try simp only [Act.put, List.setIfInBounds_toArray, List.set_cons_zero, List.set_cons_succ]
      refine wpAnyH_ready (rs := [4]) (by kernel_rfl) (by simp) ?_
      refine AllReadyH.cons (o := ⟨_, _, _, _, _, _⟩) rfl (fun K hK => ?_) AllReadyH.nil
      rw [if_pos (show Region.wanted _ _ = true by rfl)]
      refine wp_app0 (.tmp 33) (.tmp 36) 39 rfl _ 9 i0 (.string ⟨#[]⟩) 1 16 Tryz.underlying39 HI.out HZ.out hz1 hz2 rfl (by decide) _ 0 [] rfl (.inr ⟨rfl, rfl, _, rfl⟩) none 0 0 [] rfl (by simp <;> omega) (.inl rfl) (strs_one (l := [])) (by unfold maxLen; omega) (by omega) (Nat.le_refl _) ?_
      intro v4 w4 hown4 hg4
      simp only [Nat.zero_add, List.nil_append] at hown4
      have hb4 := hg4.below (Below.refl _ _) (Nat.le_refl _) (Nat.le_refl _)
      have HB4 := Lib.hid ((HB6.out).trans (hb4.mono (HB6.out).size))
      have HO4 := Lib.hid hown4
      have hz4 := hb4.size
      have HL4 := Lib.hid (HL6.out.below hb4 HL6.out.lt)
      obtain ⟨A4, c4, hf4⟩ := hown4.form
      subst hf4
      clear hown4 hg4 hb4
      refine hK.out _ _ (trivial) (fun hHeld => ?_)
      clear hK K
      try simp only [Act.put, List.setIfInBounds_toArray, List.set_cons_zero, List.set_cons_succ]
      refine wpAnyH_ready (rs := [7]) (by kernel_rfl) (by simp) ?_
      refine AllReadyH.cons (o := ⟨_, _, _, _, _, _⟩) rfl (fun K hK => ?_) AllReadyH.nil
      rw [if_pos (show Region.wanted _ _ = true by rfl)]
      refine wp_app0 (.tmp 37) (.tmp 39) 39 rfl _ 9 i0 (.string ⟨#[]⟩) 1 16 Tryz.underlying39 HI.out HZ.out hz1 hz2 rfl (by decide) _ 0 [] rfl HO4.out (some ⟨_, 0, none⟩) 1 1 [.string s] rfl rfl (.inr ⟨_, rfl, has_src HL4.out⟩) (one_str s) (by unfold maxLen; omega) (by omega) (by have q2 := hz4; simp at q2 ⊢ <;> omega) ?_
      intro v7 w7 hown7 hg7
      try simp only [Nat.zero_add, List.nil_append] at hown7
      have hb7 := hg7.below (HB4.out) (HB4.out).size (by have q1 := HBz.out.size; have q2 := hz4; simp at q1 q2 ⊢ <;> omega)
      have HB7 := Lib.hid hb7
      have HO7 := Lib.hid hown7
      have hz7 : w4.heap.size ≤ w7.heap.size := by obtain ⟨row, hr, _⟩ := hg7; have := hr.size; simp at this ⊢; omega
      obtain ⟨A7, c7, hf7⟩ := hown7.form
      subst hf7
      clear hown7 hg7 hb7
      refine hK.out _ _ (trivial) (fun hHeld => ?_)
      clear hK K
      try simp only [Act.put, List.setIfInBounds_toArray, List.set_cons_zero, List.set_cons_succ]
      refine wpAnyH_ready (rs := [11]) (by kernel_rfl) (by simp) ?_
      refine AllReadyH.cons (o := ⟨_, _, _, _, _, _⟩) rfl (fun K hK => ?_) AllReadyH.nil
      rw [if_pos (show Region.wanted _ _ = true by rfl)]
      refine wp_app0 (.tmp 40) (.tmp 43) 39 rfl _ 9 i0 (.string ⟨#[]⟩) 1 16 Tryz.underlying39 HI.out HZ.out hz1 hz2 rfl (by decide) _ 1 [.string s] rfl HO7.out _ 0 _ [] rfl (by simp) (.inl rfl) (strs_one (l := [])) (by unfold maxLen; omega) (by omega) (by omega) ?_
      intro v11 w11 hown11 hg11
      have HB11 := Lib.hid (hg11.below (HB7.out) (HB7.out).size (by have q1 := HBz.out.size; have q2 := hz4; simp at q1 q2 ⊢ <;> omega))
      have HO11 := Lib.hid hown11
      clear hown11 hg11
      refine hK.out _ _ (trivial) (fun hHeld => ?_)
      clear hK K
      try simp only [Act.put, List.setIfInBounds_toArray, List.set_cons_zero, List.set_cons_succ]
      refine plI [(12, false)] ?_
      repeat ((first | ((with_reducible show Plan ((_, true) :: _) _); refine plF ?_) | (refine plR (v := ?_) ?_ ?_; rotate_left; focus (intro W hSW; (try dsimp only at hSW); go_simp; all_goals (with_reducible rfl)))); try simp only [Act.put, List.setIfInBounds_toArray, List.set_cons_zero, List.set_cons_succ])
      refine plE ?_
      refine wpAnyH_done (by kernel_rfl) ?_ _
      clear hHeld
      go_wp2_with fail
      go_ret
      exact ⟨_, rfl, by rw [HNEW.out]; exact str_own0 (by simpa using HO11.out) (by simp <;> omega), by rw [HNEW.out]; simp, HB11.out⟩
    refine AllReadyH.cons (o := ⟨_, _, _, _, _, _⟩) rfl (fun K hK => ?_) AllReadyH.nil
    go_simp
    have HB6 := Lib.hid ((HBz.out).alloc (HBz.out).size (.cells #[.string s] 9))
    have HL6 := Lib.hid (show Has _ (wr.heap.size) 9 #[.string s] from (by have h := Has.new wr.drew 9 #[.string s]; (try rw [World.size_alloc] at h); exact h))
    refine hK.out _ _ (trivial) (fun hHeld => ?_)
    clear hK K
    try simp only [Act.put, List.setIfInBounds_toArray, List.set_cons_zero, List.set_cons_succ]
    refine wpAnyH_ready (rs := [0]) (by kernel_rfl) (by simp) ?_
    refine AllReadyH.cons (o := ⟨_, _, _, _, _, _⟩) rfl (fun K hK => ?_) AllReadyH.nil
    go_simp
    have HB0 := Lib.hid ((HB6.out).alloc (HB6.out).size (.cells #[] 9))
    have HLa := Lib.hid (HL6.out.alloc (.cells #[] 9))
    refine hK.out _ _ (trivial) (fun hHeld => ?_)
    clear hK K
    try simp only [Act.put, List.setIfInBounds_toArray, List.set_cons_zero, List.set_cons_succ]
    refine wpAnyH_ready (rs := [4]) (by kernel_rfl) (by simp) ?_
    refine AllReadyH.cons (o := ⟨_, _, _, _, _, _⟩) rfl (fun K hK => ?_) AllReadyH.nil
    rw [if_pos (show Region.wanted _ _ = true by rfl)]
    refine wp_app0 (.tmp 33) (.tmp 36) 39 rfl _ 9 i0 (.string ⟨#[]⟩) 1 16 Tryz.underlying39 HI.out HZ.out hz1 hz2 rfl (by decide) _ 0 [] rfl (.inr ⟨rfl, rfl, _, rfl⟩) none 0 0 [] rfl (by simp <;> omega) (.inl rfl) (strs_one (l := [])) (by unfold maxLen; omega) (by omega) (Nat.le_refl _) ?_
    intro v4 w4 hown4 hg4
    simp only [Nat.zero_add, List.nil_append] at hown4
    have hb4 := hg4.below (Below.refl _ _) (Nat.le_refl _) (Nat.le_refl _)
    have HB4 := Lib.hid ((HB0.out).trans (hb4.mono (HB0.out).size))
    have HO4 := Lib.hid hown4
    have hz4 := hb4.size
    have HL4 := Lib.hid (HLa.out.below hb4 HLa.out.lt)
    obtain ⟨A4, c4, hf4⟩ := hown4.form
    subst hf4
    clear hown4 hg4 hb4
    refine hK.out _ _ (trivial) (fun hHeld => ?_)
    clear hK K
    try simp only [Act.put, List.setIfInBounds_toArray, List.set_cons_zero, List.set_cons_succ]
    refine wpAnyH_ready (rs := [7]) (by kernel_rfl) (by simp) ?_
    refine AllReadyH.cons (o := ⟨_, _, _, _, _, _⟩) rfl (fun K hK => ?_) AllReadyH.nil
    rw [if_pos (show Region.wanted _ _ = true by rfl)]
    refine wp_app0 (.tmp 37) (.tmp 39) 39 rfl _ 9 i0 (.string ⟨#[]⟩) 1 16 Tryz.underlying39 HI.out HZ.out hz1 hz2 rfl (by decide) _ 0 [] rfl HO4.out (some ⟨_, 0, none⟩) 1 1 [.string s] rfl rfl (.inr ⟨_, rfl, has_src HL4.out⟩) (one_str s) (by unfold maxLen; omega) (by omega) (by have q2 := hz4; simp at q2 ⊢ <;> omega) ?_
    intro v7 w7 hown7 hg7
    try simp only [Nat.zero_add, List.nil_append] at hown7
    have hb7 := hg7.below (HB4.out) (HB4.out).size (by have q1 := HBz.out.size; have q2 := hz4; simp at q1 q2 ⊢ <;> omega)
    have HB7 := Lib.hid hb7
    have HO7 := Lib.hid hown7
    have hz7 : w4.heap.size ≤ w7.heap.size := by obtain ⟨row, hr, _⟩ := hg7; have := hr.size; simp at this ⊢; omega
    obtain ⟨A7, c7, hf7⟩ := hown7.form
    subst hf7
    clear hown7 hg7 hb7
    refine hK.out _ _ (trivial) (fun hHeld => ?_)
    clear hK K
    try simp only [Act.put, List.setIfInBounds_toArray, List.set_cons_zero, List.set_cons_succ]
    refine wpAnyH_ready (rs := [11]) (by kernel_rfl) (by simp) ?_
    refine AllReadyH.cons (o := ⟨_, _, _, _, _, _⟩) rfl (fun K hK => ?_) AllReadyH.nil
    rw [if_pos (show Region.wanted _ _ = true by rfl)]
    refine wp_app0 (.tmp 40) (.tmp 43) 39 rfl _ 9 i0 (.string ⟨#[]⟩) 1 16 Tryz.underlying39 HI.out HZ.out hz1 hz2 rfl (by decide) _ 1 [.string s] rfl HO7.out _ 0 _ [] rfl (by simp) (.inl rfl) (strs_one (l := [])) (by unfold maxLen; omega) (by omega) (by omega) ?_
    intro v11 w11 hown11 hg11
    have HB11 := Lib.hid (hg11.below (HB7.out) (HB7.out).size (by have q1 := HBz.out.size; have q2 := hz4; simp at q1 q2 ⊢ <;> omega))
    have HO11 := Lib.hid hown11
    clear hown11 hg11
    refine hK.out _ _ (trivial) (fun hHeld => ?_)
    clear hK K
    try simp only [Act.put, List.setIfInBounds_toArray, List.set_cons_zero, List.set_cons_succ]
    refine plI [(12, false)] ?_
    repeat ((first | ((with_reducible show Plan ((_, true) :: _) _); refine plF ?_) | (refine plR (v := ?_) ?_ ?_; rotate_left; focus (intro W hSW; (try dsimp only at hSW); go_simp; all_goals (with_reducible rfl)))); try simp only [Act.put, List.setIfInBounds_toArray, List.set_cons_zero, List.set_cons_succ])
    refine plE ?_
    refine wpAnyH_done (by kernel_rfl) ?_ _
    clear hHeld
    go_wp2_with fail
    go_ret
    exact ⟨_, rfl, by rw [HNEW.out]; exact str_own0 (by simpa using HO11.out) (by simp <;> omega), by rw [HNEW.out]; simp, HB11.out⟩
set_option maxRecDepth 100000 in
set_option maxHeartbeats 8000000 in
theorem refPut_some (A0 : Option Addr) (c : Nat) (l : List ByteArray) (s : ByteArray) (w : World) (hv : Sl w (.slice A0 l.length c) l.length 1 (strF l)) (h0 : 0 < l.length) (hl : l.length ≤ 100000) :
    Calls Tryz.prog 36 #[.slice A0 l.length c, .string s] w fun e w' => ∃ v', e = .returned v' ∧ Sl w' v' (putG idS l s).length 1 (strF (putG idS l s)) ∧ putG idS l s ≠ [] ∧ Below w.heap.size w w' := by
  obtain ⟨i0, hi0, hz0, hz1, hz2⟩ := info_parts info_strI
  have HI := Lib.hid hi0
  have HZ := Lib.hid hz0
  clear hi0 hz0
  obtain ⟨A', c', he, hn, h0' | ⟨b, o, rfl, hc⟩⟩ := hv
  · omega
  injection he with e1 e2 e3
  subst e1; subst e3
  have HC := Lib.hid hc
  clear hc e2
  go_enter Tryz.func36, Tryz.ntmps36
  go_wp2_with fail
  go_loopw [5] (fun i wr => ∃ k : Nat, k ≤ l.length ∧ i = .int .i64 k ∧ Hid (∀ q ∈ l.take k, ltS q s = true) ∧ wr = w) (fun i _ => l.length - (intOf i).toNat)
  case atStart => exact ⟨0, Nat.zero_le _, rfl, fun q hq => by simp at hq, rfl⟩
  case round =>
    obtain ⟨k, hk, rfl, HT, rfl⟩ := hrel
    have hkcI : (k : Int) ≤ (c : Int) := by omega
    have hkcN : k ≤ c := by omega
    have hklI : (k : Int) ≤ (l.length : Int) := by omega
    have hc0 : ¬ c = 0 := by omega
    have hc1 : ¬ 0 = c := by omega
    by_cases hlt : k < l.length
    · have hck : wr.cell? ⟨b, o + k, none⟩ = some (.string (l.getD k eS)) := HC.out k (by omega)
      have HLT := Lib.hid (low_next hlt HT.out)
      have HSM := Lib.hid (fun he => put_same hlt HT.out he)
      have HMD := Lib.hid (fun h1 h2 => put_mid hlt HT.out h1 h2)
      have hki : (k : Int) < (l.length : Int) := by omega
      generalize hq : l.getD k eS = q at *
      cases n8 : Op.bytesLess q.toList s.toList
      · cases n9 : (q.toList == s.toList)
        · have HNEW := Lib.hid (HMD.out n8 (by rw [beq_bytes] at n9; exact of_decide_eq_false n9))
          have hkn : ¬ k = c := by omega
          clear HLT HSM HMD hq
          go_wp2_with fail
          have HBz := Lib.hid ((Below.refl wr.heap.size wr).drew)
          refine wp_region_held_drew (S := fun _ => True) (by kernel_rfl) (trivial) (fun hHeld => ?_)
          refine plI [(1, false), (2, false), (3, false), (5, false), (8, false), (9, false), (10, false)] ?_
          repeat ((first | ((with_reducible show Plan ((_, true) :: _) _); refine plF ?_) | (refine plR (v := ?_) ?_ ?_; rotate_left; focus (intro W hSW; (try dsimp only at hSW); go_simp; all_goals (with_reducible rfl)))); try simp only [Act.put, List.setIfInBounds_toArray, List.set_cons_zero, List.set_cons_succ])
          refine plE ?_
          refine wpAnyH_ready (rs := [0, 6]) (by kernel_rfl) (by simp) ?_
          refine AllReadyH.cons (o := ⟨_, _, _, _, _, _⟩) rfl (fun K hK => ?_) ?_
          · go_simp
            have HB0 := Lib.hid ((HBz.out).alloc (HBz.out).size (.cells #[] 9))
            refine hK.out _ _ (trivial) (fun hHeld => ?_)
            clear hK K
            try simp only [Act.put, List.setIfInBounds_toArray, List.set_cons_zero, List.set_cons_succ]
            refine wpAnyH_ready (rs := [4, 6]) (by kernel_rfl) (by simp) ?_
            refine AllReadyH.cons (o := ⟨_, _, _, _, _, _⟩) rfl (fun K hK => ?_) ?_
            · rw [if_pos (show Region.wanted _ _ = true by rfl)]
              refine wp_app0 (.tmp 33) (.tmp 36) 39 rfl _ 9 i0 (.string ⟨#[]⟩) 1 16 Tryz.underlying39 HI.out HZ.out hz1 hz2 rfl (by decide) _ 0 [] rfl (.inr ⟨rfl, rfl, _, rfl⟩) (some ⟨b, o, none⟩) k c ((l.take k).map .string) rfl (by simp <;> omega) (.inr ⟨_, rfl, fun j u hu => cell_later (HB0.out) (str_part HC.out 0 k (by omega) j u (by simpa using hu))⟩) (strs_one (l := l.take k)) (by unfold maxLen; omega) (by omega) (Nat.le_refl _) ?_
              intro v4 w4 hown4 hg4
              simp only [Nat.zero_add, List.nil_append] at hown4
              have hb4 := hg4.below (Below.refl _ _) (Nat.le_refl _) (Nat.le_refl _)
              have HB4 := Lib.hid ((HB0.out).trans (hb4.mono (HB0.out).size))
              have HO4 := Lib.hid hown4
              have hz4 := hb4.size
              obtain ⟨A4, c4, hf4⟩ := hown4.form
              subst hf4
              clear hown4 hg4 hb4
              refine hK.out _ _ (trivial) (fun hHeld => ?_)
              clear hK K
              try simp only [Act.put, List.setIfInBounds_toArray, List.set_cons_zero, List.set_cons_succ]
              refine wpAnyH_ready (rs := [6]) (by kernel_rfl) (by simp) ?_
              refine AllReadyH.cons (o := ⟨_, _, _, _, _, _⟩) rfl (fun K hK => ?_) AllReadyH.nil
              go_simp
              have HB6 := Lib.hid ((HB4.out).alloc (HB4.out).size (.cells #[.string s] 9))
              have HL6 := Lib.hid (show Has _ (w4.heap.size) 9 #[.string s] from (by have h := Has.new w4 9 #[.string s]; (try rw [World.size_alloc] at h); exact h))
              have HOb := Lib.hid (HO4.out.alloc (.cells #[.string s] 9))
              have hw6 : w4.heap.size ≤ (w4.alloc (.cells #[.string s] 9)).heap.size := by simp
              refine hK.out _ _ (trivial) (fun hHeld => ?_)
              clear hK K
              try simp only [Act.put, List.setIfInBounds_toArray, List.set_cons_zero, List.set_cons_succ]
              refine wpAnyH_ready (rs := [7]) (by kernel_rfl) (by simp) ?_
              refine AllReadyH.cons (o := ⟨_, _, _, _, _, _⟩) rfl (fun K hK => ?_) AllReadyH.nil
              rw [if_pos (show Region.wanted _ _ = true by rfl)]
              refine wp_app0 (.tmp 37) (.tmp 39) 39 rfl _ 9 i0 (.string ⟨#[]⟩) 1 16 Tryz.underlying39 HI.out HZ.out hz1 hz2 rfl (by decide) _ k ((l.take k).map .string) rfl HOb.out (some ⟨_, 0, none⟩) 1 1 [.string s] rfl rfl (.inr ⟨_, rfl, has_src HL6.out⟩) (one_str s) (by unfold maxLen; omega) (by omega) (by have q2 := hz4; simp at q2 ⊢ <;> omega) ?_
              intro v7 w7 hown7 hg7
              try simp only [Nat.zero_add, List.nil_append] at hown7
              have hb7 := hg7.below (HB6.out) (HB6.out).size (by have q1 := HBz.out.size; have q2 := hz4; simp at q1 q2 ⊢ <;> omega)
              have HB7 := Lib.hid hb7
              have HO7 := Lib.hid hown7
              have hz7 : w4.heap.size ≤ w7.heap.size := by obtain ⟨row, hr, _⟩ := hg7; have := hr.size; simp at this ⊢; omega
              obtain ⟨A7, c7, hf7⟩ := hown7.form
              subst hf7
              clear hown7 hg7 hb7
              refine hK.out _ _ (trivial) (fun hHeld => ?_)
              clear hK K
              try simp only [Act.put, List.setIfInBounds_toArray, List.set_cons_zero, List.set_cons_succ]
              refine wpAnyH_ready (rs := [11]) (by kernel_rfl) (by simp) ?_
              refine AllReadyH.cons (o := ⟨_, _, _, _, _, _⟩) rfl (fun K hK => ?_) AllReadyH.nil
              rw [if_pos (show Region.wanted _ _ = true by rfl)]
              refine wp_app0 (.tmp 40) (.tmp 43) 39 rfl _ 9 i0 (.string ⟨#[]⟩) 1 16 Tryz.underlying39 HI.out HZ.out hz1 hz2 rfl (by decide) _ (k + 1) (((l.take k).map .string) ++ [.string s]) rfl HO7.out _ (l.length - k) _ ((l.drop k).map .string) rfl (by simp) (.inr ⟨_, if_neg (fun h => hkn h.symm), fun j u hu => cell_later (HB7.out) (str_part HC.out k (l.length - k) (by omega) j u (by rw [List.take_of_length_le (by simp)]; exact hu))⟩) (strs_one (l := l.drop k)) (by unfold maxLen; omega) (by omega) (by omega) ?_
              intro v11 w11 hown11 hg11
              have HB11 := Lib.hid (hg11.below (HB7.out) (HB7.out).size (by have q1 := HBz.out.size; have q2 := hz4; simp at q1 q2 ⊢ <;> omega))
              have HO11 := Lib.hid hown11
              clear hown11 hg11
              refine hK.out _ _ (trivial) (fun hHeld => ?_)
              clear hK K
              try simp only [Act.put, List.setIfInBounds_toArray, List.set_cons_zero, List.set_cons_succ]
              refine plI [(12, false)] ?_
              repeat ((first | ((with_reducible show Plan ((_, true) :: _) _); refine plF ?_) | (refine plR (v := ?_) ?_ ?_; rotate_left; focus (intro W hSW; (try dsimp only at hSW); go_simp; all_goals (with_reducible rfl)))); try simp only [Act.put, List.setIfInBounds_toArray, List.set_cons_zero, List.set_cons_succ])
              refine plE ?_
              refine wpAnyH_done (by kernel_rfl) ?_ _
              clear hHeld
              go_wp2_with fail
              go_ret
              exact ⟨_, rfl, by rw [HNEW.out]; exact str_own0 (by simpa using HO11.out) (by simp <;> omega), by rw [HNEW.out]; simp, HB11.out⟩
            refine AllReadyH.cons (o := ⟨_, _, _, _, _, _⟩) rfl (fun K hK => ?_) AllReadyH.nil
            go_simp
            have HB6 := Lib.hid ((HB0.out).alloc (HB0.out).size (.cells #[.string s] 9))
            have HL6 := Lib.hid (show Has _ (wr.heap.size + 1) 9 #[.string s] from (by have h := Has.new (wr.drew.alloc (.cells #[] 9)) 9 #[.string s]; (try rw [World.size_alloc] at h); exact h))
            refine hK.out _ _ (trivial) (fun hHeld => ?_)
            clear hK K
            try simp only [Act.put, List.setIfInBounds_toArray, List.set_cons_zero, List.set_cons_succ]
            refine wpAnyH_ready (rs := [4]) (by kernel_rfl) (by simp) ?_
            refine AllReadyH.cons (o := ⟨_, _, _, _, _, _⟩) rfl (fun K hK => ?_) AllReadyH.nil
            rw [if_pos (show Region.wanted _ _ = true by rfl)]
            refine wp_app0 (.tmp 33) (.tmp 36) 39 rfl _ 9 i0 (.string ⟨#[]⟩) 1 16 Tryz.underlying39 HI.out HZ.out hz1 hz2 rfl (by decide) _ 0 [] rfl (.inr ⟨rfl, rfl, _, rfl⟩) (some ⟨b, o, none⟩) k c ((l.take k).map .string) rfl (by simp <;> omega) (.inr ⟨_, rfl, fun j u hu => cell_later (HB6.out) (str_part HC.out 0 k (by omega) j u (by simpa using hu))⟩) (strs_one (l := l.take k)) (by unfold maxLen; omega) (by omega) (Nat.le_refl _) ?_
            intro v4 w4 hown4 hg4
            simp only [Nat.zero_add, List.nil_append] at hown4
            have hb4 := hg4.below (Below.refl _ _) (Nat.le_refl _) (Nat.le_refl _)
            have HB4 := Lib.hid ((HB6.out).trans (hb4.mono (HB6.out).size))
            have HO4 := Lib.hid hown4
            have hz4 := hb4.size
            have HL4 := Lib.hid (HL6.out.below hb4 HL6.out.lt)
            obtain ⟨A4, c4, hf4⟩ := hown4.form
            subst hf4
            clear hown4 hg4 hb4
            refine hK.out _ _ (trivial) (fun hHeld => ?_)
            clear hK K
            try simp only [Act.put, List.setIfInBounds_toArray, List.set_cons_zero, List.set_cons_succ]
            refine wpAnyH_ready (rs := [7]) (by kernel_rfl) (by simp) ?_
            refine AllReadyH.cons (o := ⟨_, _, _, _, _, _⟩) rfl (fun K hK => ?_) AllReadyH.nil
            rw [if_pos (show Region.wanted _ _ = true by rfl)]
            refine wp_app0 (.tmp 37) (.tmp 39) 39 rfl _ 9 i0 (.string ⟨#[]⟩) 1 16 Tryz.underlying39 HI.out HZ.out hz1 hz2 rfl (by decide) _ k ((l.take k).map .string) rfl HO4.out (some ⟨_, 0, none⟩) 1 1 [.string s] rfl rfl (.inr ⟨_, rfl, has_src HL4.out⟩) (one_str s) (by unfold maxLen; omega) (by omega) (by have q2 := hz4; simp at q2 ⊢ <;> omega) ?_
            intro v7 w7 hown7 hg7
            try simp only [Nat.zero_add, List.nil_append] at hown7
            have hb7 := hg7.below (HB4.out) (HB4.out).size (by have q1 := HBz.out.size; have q2 := hz4; simp at q1 q2 ⊢ <;> omega)
            have HB7 := Lib.hid hb7
            have HO7 := Lib.hid hown7
            have hz7 : w4.heap.size ≤ w7.heap.size := by obtain ⟨row, hr, _⟩ := hg7; have := hr.size; simp at this ⊢; omega
            obtain ⟨A7, c7, hf7⟩ := hown7.form
            subst hf7
            clear hown7 hg7 hb7
            refine hK.out _ _ (trivial) (fun hHeld => ?_)
            clear hK K
            try simp only [Act.put, List.setIfInBounds_toArray, List.set_cons_zero, List.set_cons_succ]
            refine wpAnyH_ready (rs := [11]) (by kernel_rfl) (by simp) ?_
            refine AllReadyH.cons (o := ⟨_, _, _, _, _, _⟩) rfl (fun K hK => ?_) AllReadyH.nil
            rw [if_pos (show Region.wanted _ _ = true by rfl)]
            refine wp_app0 (.tmp 40) (.tmp 43) 39 rfl _ 9 i0 (.string ⟨#[]⟩) 1 16 Tryz.underlying39 HI.out HZ.out hz1 hz2 rfl (by decide) _ (k + 1) (((l.take k).map .string) ++ [.string s]) rfl HO7.out _ (l.length - k) _ ((l.drop k).map .string) rfl (by simp) (.inr ⟨_, if_neg (fun h => hkn h.symm), fun j u hu => cell_later (HB7.out) (str_part HC.out k (l.length - k) (by omega) j u (by rw [List.take_of_length_le (by simp)]; exact hu))⟩) (strs_one (l := l.drop k)) (by unfold maxLen; omega) (by omega) (by omega) ?_
            intro v11 w11 hown11 hg11
            have HB11 := Lib.hid (hg11.below (HB7.out) (HB7.out).size (by have q1 := HBz.out.size; have q2 := hz4; simp at q1 q2 ⊢ <;> omega))
            have HO11 := Lib.hid hown11
            clear hown11 hg11
            refine hK.out _ _ (trivial) (fun hHeld => ?_)
            clear hK K
            try simp only [Act.put, List.setIfInBounds_toArray, List.set_cons_zero, List.set_cons_succ]
            refine plI [(12, false)] ?_
            repeat ((first | ((with_reducible show Plan ((_, true) :: _) _); refine plF ?_) | (refine plR (v := ?_) ?_ ?_; rotate_left; focus (intro W hSW; (try dsimp only at hSW); go_simp; all_goals (with_reducible rfl)))); try simp only [Act.put, List.setIfInBounds_toArray, List.set_cons_zero, List.set_cons_succ])
            refine plE ?_
            refine wpAnyH_done (by kernel_rfl) ?_ _
            clear hHeld
            go_wp2_with fail
            go_ret
            exact ⟨_, rfl, by rw [HNEW.out]; exact str_own0 (by simpa using HO11.out) (by simp <;> omega), by rw [HNEW.out]; simp, HB11.out⟩
          refine AllReadyH.cons (o := ⟨_, _, _, _, _, _⟩) rfl (fun K hK => ?_) AllReadyH.nil
          go_simp
          have HB6 := Lib.hid ((HBz.out).alloc (HBz.out).size (.cells #[.string s] 9))
          have HL6 := Lib.hid (show Has _ (wr.heap.size) 9 #[.string s] from (by have h := Has.new wr.drew 9 #[.string s]; (try rw [World.size_alloc] at h); exact h))
          refine hK.out _ _ (trivial) (fun hHeld => ?_)
          clear hK K
          try simp only [Act.put, List.setIfInBounds_toArray, List.set_cons_zero, List.set_cons_succ]
          refine wpAnyH_ready (rs := [0]) (by kernel_rfl) (by simp) ?_
          refine AllReadyH.cons (o := ⟨_, _, _, _, _, _⟩) rfl (fun K hK => ?_) AllReadyH.nil
          go_simp
          have HB0 := Lib.hid ((HB6.out).alloc (HB6.out).size (.cells #[] 9))
          have HLa := Lib.hid (HL6.out.alloc (.cells #[] 9))
          refine hK.out _ _ (trivial) (fun hHeld => ?_)
          clear hK K
          try simp only [Act.put, List.setIfInBounds_toArray, List.set_cons_zero, List.set_cons_succ]
          refine wpAnyH_ready (rs := [4]) (by kernel_rfl) (by simp) ?_
          refine AllReadyH.cons (o := ⟨_, _, _, _, _, _⟩) rfl (fun K hK => ?_) AllReadyH.nil
          rw [if_pos (show Region.wanted _ _ = true by rfl)]
          refine wp_app0 (.tmp 33) (.tmp 36) 39 rfl _ 9 i0 (.string ⟨#[]⟩) 1 16 Tryz.underlying39 HI.out HZ.out hz1 hz2 rfl (by decide) _ 0 [] rfl (.inr ⟨rfl, rfl, _, rfl⟩) (some ⟨b, o, none⟩) k c ((l.take k).map .string) rfl (by simp <;> omega) (.inr ⟨_, rfl, fun j u hu => cell_later (HB0.out) (str_part HC.out 0 k (by omega) j u (by simpa using hu))⟩) (strs_one (l := l.take k)) (by unfold maxLen; omega) (by omega) (Nat.le_refl _) ?_
          intro v4 w4 hown4 hg4
          simp only [Nat.zero_add, List.nil_append] at hown4
          have hb4 := hg4.below (Below.refl _ _) (Nat.le_refl _) (Nat.le_refl _)
          have HB4 := Lib.hid ((HB0.out).trans (hb4.mono (HB0.out).size))
          have HO4 := Lib.hid hown4
          have hz4 := hb4.size
          have HL4 := Lib.hid (HLa.out.below hb4 HLa.out.lt)
          obtain ⟨A4, c4, hf4⟩ := hown4.form
          subst hf4
          clear hown4 hg4 hb4
          refine hK.out _ _ (trivial) (fun hHeld => ?_)
          clear hK K
          try simp only [Act.put, List.setIfInBounds_toArray, List.set_cons_zero, List.set_cons_succ]
          refine wpAnyH_ready (rs := [7]) (by kernel_rfl) (by simp) ?_
          refine AllReadyH.cons (o := ⟨_, _, _, _, _, _⟩) rfl (fun K hK => ?_) AllReadyH.nil
          rw [if_pos (show Region.wanted _ _ = true by rfl)]
          refine wp_app0 (.tmp 37) (.tmp 39) 39 rfl _ 9 i0 (.string ⟨#[]⟩) 1 16 Tryz.underlying39 HI.out HZ.out hz1 hz2 rfl (by decide) _ k ((l.take k).map .string) rfl HO4.out (some ⟨_, 0, none⟩) 1 1 [.string s] rfl rfl (.inr ⟨_, rfl, has_src HL4.out⟩) (one_str s) (by unfold maxLen; omega) (by omega) (by have q2 := hz4; simp at q2 ⊢ <;> omega) ?_
          intro v7 w7 hown7 hg7
          try simp only [Nat.zero_add, List.nil_append] at hown7
          have hb7 := hg7.below (HB4.out) (HB4.out).size (by have q1 := HBz.out.size; have q2 := hz4; simp at q1 q2 ⊢ <;> omega)
          have HB7 := Lib.hid hb7
          have HO7 := Lib.hid hown7
          have hz7 : w4.heap.size ≤ w7.heap.size := by obtain ⟨row, hr, _⟩ := hg7; have := hr.size; simp at this ⊢; omega
          obtain ⟨A7, c7, hf7⟩ := hown7.form
          subst hf7
          clear hown7 hg7 hb7
          refine hK.out _ _ (trivial) (fun hHeld => ?_)
          clear hK K
          try simp only [Act.put, List.setIfInBounds_toArray, List.set_cons_zero, List.set_cons_succ]
          refine wpAnyH_ready (rs := [11]) (by kernel_rfl) (by simp) ?_
          refine AllReadyH.cons (o := ⟨_, _, _, _, _, _⟩) rfl (fun K hK => ?_) AllReadyH.nil
          rw [if_pos (show Region.wanted _ _ = true by rfl)]
          refine wp_app0 (.tmp 40) (.tmp 43) 39 rfl _ 9 i0 (.string ⟨#[]⟩) 1 16 Tryz.underlying39 HI.out HZ.out hz1 hz2 rfl (by decide) _ (k + 1) (((l.take k).map .string) ++ [.string s]) rfl HO7.out _ (l.length - k) _ ((l.drop k).map .string) rfl (by simp) (.inr ⟨_, if_neg (fun h => hkn h.symm), fun j u hu => cell_later (HB7.out) (str_part HC.out k (l.length - k) (by omega) j u (by rw [List.take_of_length_le (by simp)]; exact hu))⟩) (strs_one (l := l.drop k)) (by unfold maxLen; omega) (by omega) (by omega) ?_
          intro v11 w11 hown11 hg11
          have HB11 := Lib.hid (hg11.below (HB7.out) (HB7.out).size (by have q1 := HBz.out.size; have q2 := hz4; simp at q1 q2 ⊢ <;> omega))
          have HO11 := Lib.hid hown11
          clear hown11 hg11
          refine hK.out _ _ (trivial) (fun hHeld => ?_)
          clear hK K
          try simp only [Act.put, List.setIfInBounds_toArray, List.set_cons_zero, List.set_cons_succ]
          refine plI [(12, false)] ?_
          repeat ((first | ((with_reducible show Plan ((_, true) :: _) _); refine plF ?_) | (refine plR (v := ?_) ?_ ?_; rotate_left; focus (intro W hSW; (try dsimp only at hSW); go_simp; all_goals (with_reducible rfl)))); try simp only [Act.put, List.setIfInBounds_toArray, List.set_cons_zero, List.set_cons_succ])
          refine plE ?_
          refine wpAnyH_done (by kernel_rfl) ?_ _
          clear hHeld
          go_wp2_with fail
          go_ret
          exact ⟨_, rfl, by rw [HNEW.out]; exact str_own0 (by simpa using HO11.out) (by simp <;> omega), by rw [HNEW.out]; simp, HB11.out⟩
        · have HE := Lib.hid (HSM.out (by rw [beq_bytes] at n9; exact of_decide_eq_true n9))
          clear HLT HSM HMD hq
          go_wp2_with fail
          go_ret
          exact ⟨_, rfl, by rw [HE.out]; exact ⟨_, _, rfl, hn, .inr ⟨b, o, rfl, HC.out⟩⟩, by rw [HE.out]; intro h; rw [h] at h0; exact absurd h0 (by decide), Below.refl _ _⟩
      · have HN := Lib.hid (HLT.out n8)
        clear HLT HSM HMD hq
        go_wp2_with fail
        go_roundw
        case rel => exact ⟨k + 1, by omega, by go_num, HN.out, trivial⟩
        case measure => simp [intOf]; omega
    · obtain rfl : k = l.length := by omega
      have HNEW := Lib.hid (put_end HT.out)
      rcases (show decide (c = l.length) = true ∨ decide (c = l.length) = false by cases decide (c = l.length) <;> simp) with hcap | hcap
      · rw [decide_eq_true_iff] at hcap
        subst hcap
        go_wp2_with fail
        have HBz := Lib.hid ((Below.refl wr.heap.size wr).drew)
        refine wp_region_held_drew (S := fun _ => True) (by kernel_rfl) (trivial) (fun hHeld => ?_)
        refine plI [(1, false), (2, false), (3, false), (5, false), (8, false), (9, false), (10, false)] ?_
        repeat ((first | ((with_reducible show Plan ((_, true) :: _) _); refine plF ?_) | (refine plR (v := ?_) ?_ ?_; rotate_left; focus (intro W hSW; (try dsimp only at hSW); go_simp; all_goals (with_reducible rfl)))); try simp only [Act.put, List.setIfInBounds_toArray, List.set_cons_zero, List.set_cons_succ])
        refine plE ?_
        refine wpAnyH_ready (rs := [0, 6]) (by kernel_rfl) (by simp) ?_
        refine AllReadyH.cons (o := ⟨_, _, _, _, _, _⟩) rfl (fun K hK => ?_) ?_
        · go_simp
          have HB0 := Lib.hid ((HBz.out).alloc (HBz.out).size (.cells #[] 9))
          refine hK.out _ _ (trivial) (fun hHeld => ?_)
          clear hK K
          try simp only [Act.put, List.setIfInBounds_toArray, List.set_cons_zero, List.set_cons_succ]
          refine wpAnyH_ready (rs := [4, 6]) (by kernel_rfl) (by simp) ?_
          refine AllReadyH.cons (o := ⟨_, _, _, _, _, _⟩) rfl (fun K hK => ?_) ?_
          · rw [if_pos (show Region.wanted _ _ = true by rfl)]
            refine wp_app0 (.tmp 33) (.tmp 36) 39 rfl _ 9 i0 (.string ⟨#[]⟩) 1 16 Tryz.underlying39 HI.out HZ.out hz1 hz2 rfl (by decide) _ 0 [] rfl (.inr ⟨rfl, rfl, _, rfl⟩) (some ⟨b, o, none⟩) l.length l.length ((l.take l.length).map .string) rfl (by simp <;> omega) (.inr ⟨_, rfl, fun j u hu => cell_later (HB0.out) (str_part HC.out 0 l.length (by omega) j u (by simpa using hu))⟩) (strs_one (l := l.take l.length)) (by unfold maxLen; omega) (by omega) (Nat.le_refl _) ?_
            intro v4 w4 hown4 hg4
            simp only [Nat.zero_add, List.nil_append] at hown4
            have hb4 := hg4.below (Below.refl _ _) (Nat.le_refl _) (Nat.le_refl _)
            have HB4 := Lib.hid ((HB0.out).trans (hb4.mono (HB0.out).size))
            have HO4 := Lib.hid hown4
            have hz4 := hb4.size
            obtain ⟨A4, c4, hf4⟩ := hown4.form
            subst hf4
            clear hown4 hg4 hb4
            refine hK.out _ _ (trivial) (fun hHeld => ?_)
            clear hK K
            try simp only [Act.put, List.setIfInBounds_toArray, List.set_cons_zero, List.set_cons_succ]
            refine wpAnyH_ready (rs := [6]) (by kernel_rfl) (by simp) ?_
            refine AllReadyH.cons (o := ⟨_, _, _, _, _, _⟩) rfl (fun K hK => ?_) AllReadyH.nil
            go_simp
            have HB6 := Lib.hid ((HB4.out).alloc (HB4.out).size (.cells #[.string s] 9))
            have HL6 := Lib.hid (show Has _ (w4.heap.size) 9 #[.string s] from (by have h := Has.new w4 9 #[.string s]; (try rw [World.size_alloc] at h); exact h))
            have HOb := Lib.hid (HO4.out.alloc (.cells #[.string s] 9))
            have hw6 : w4.heap.size ≤ (w4.alloc (.cells #[.string s] 9)).heap.size := by simp
            refine hK.out _ _ (trivial) (fun hHeld => ?_)
            clear hK K
            try simp only [Act.put, List.setIfInBounds_toArray, List.set_cons_zero, List.set_cons_succ]
            refine wpAnyH_ready (rs := [7]) (by kernel_rfl) (by simp) ?_
            refine AllReadyH.cons (o := ⟨_, _, _, _, _, _⟩) rfl (fun K hK => ?_) AllReadyH.nil
            rw [if_pos (show Region.wanted _ _ = true by rfl)]
            refine wp_app0 (.tmp 37) (.tmp 39) 39 rfl _ 9 i0 (.string ⟨#[]⟩) 1 16 Tryz.underlying39 HI.out HZ.out hz1 hz2 rfl (by decide) _ l.length ((l.take l.length).map .string) rfl HOb.out (some ⟨_, 0, none⟩) 1 1 [.string s] rfl rfl (.inr ⟨_, rfl, has_src HL6.out⟩) (one_str s) (by unfold maxLen; omega) (by omega) (by have q2 := hz4; simp at q2 ⊢ <;> omega) ?_
            intro v7 w7 hown7 hg7
            try simp only [Nat.zero_add, List.nil_append] at hown7
            have hb7 := hg7.below (HB6.out) (HB6.out).size (by have q1 := HBz.out.size; have q2 := hz4; simp at q1 q2 ⊢ <;> omega)
            have HB7 := Lib.hid hb7
            have HO7 := Lib.hid hown7
            have hz7 : w4.heap.size ≤ w7.heap.size := by obtain ⟨row, hr, _⟩ := hg7; have := hr.size; simp at this ⊢; omega
            obtain ⟨A7, c7, hf7⟩ := hown7.form
            subst hf7
            clear hown7 hg7 hb7
            refine hK.out _ _ (trivial) (fun hHeld => ?_)
            clear hK K
            try simp only [Act.put, List.setIfInBounds_toArray, List.set_cons_zero, List.set_cons_succ]
            refine wpAnyH_ready (rs := [11]) (by kernel_rfl) (by simp) ?_
            refine AllReadyH.cons (o := ⟨_, _, _, _, _, _⟩) rfl (fun K hK => ?_) AllReadyH.nil
            rw [if_pos (show Region.wanted _ _ = true by rfl)]
            refine wp_app0 (.tmp 40) (.tmp 43) 39 rfl _ 9 i0 (.string ⟨#[]⟩) 1 16 Tryz.underlying39 HI.out HZ.out hz1 hz2 rfl (by decide) _ (l.length + 1) (((l.take l.length).map .string) ++ [.string s]) rfl HO7.out _ 0 _ [] rfl (by simp) (.inl rfl) (strs_one (l := [])) (by unfold maxLen; omega) (by omega) (by omega) ?_
            intro v11 w11 hown11 hg11
            have HB11 := Lib.hid (hg11.below (HB7.out) (HB7.out).size (by have q1 := HBz.out.size; have q2 := hz4; simp at q1 q2 ⊢ <;> omega))
            have HO11 := Lib.hid hown11
            clear hown11 hg11
            refine hK.out _ _ (trivial) (fun hHeld => ?_)
            clear hK K
            try simp only [Act.put, List.setIfInBounds_toArray, List.set_cons_zero, List.set_cons_succ]
            refine plI [(12, false)] ?_
            repeat ((first | ((with_reducible show Plan ((_, true) :: _) _); refine plF ?_) | (refine plR (v := ?_) ?_ ?_; rotate_left; focus (intro W hSW; (try dsimp only at hSW); go_simp; all_goals (with_reducible rfl)))); try simp only [Act.put, List.setIfInBounds_toArray, List.set_cons_zero, List.set_cons_succ])
            refine plE ?_
            refine wpAnyH_done (by kernel_rfl) ?_ _
            clear hHeld
            go_wp2_with fail
            go_ret
            exact ⟨_, rfl, by rw [HNEW.out]; exact str_own0 (by simpa using HO11.out) (by simp <;> omega), by rw [HNEW.out]; simp, HB11.out⟩
          refine AllReadyH.cons (o := ⟨_, _, _, _, _, _⟩) rfl (fun K hK => ?_) AllReadyH.nil
          go_simp
          have HB6 := Lib.hid ((HB0.out).alloc (HB0.out).size (.cells #[.string s] 9))
          have HL6 := Lib.hid (show Has _ (wr.heap.size + 1) 9 #[.string s] from (by have h := Has.new (wr.drew.alloc (.cells #[] 9)) 9 #[.string s]; (try rw [World.size_alloc] at h); exact h))
          refine hK.out _ _ (trivial) (fun hHeld => ?_)
          clear hK K
          try simp only [Act.put, List.setIfInBounds_toArray, List.set_cons_zero, List.set_cons_succ]
          refine wpAnyH_ready (rs := [4]) (by kernel_rfl) (by simp) ?_
          refine AllReadyH.cons (o := ⟨_, _, _, _, _, _⟩) rfl (fun K hK => ?_) AllReadyH.nil
          rw [if_pos (show Region.wanted _ _ = true by rfl)]
          refine wp_app0 (.tmp 33) (.tmp 36) 39 rfl _ 9 i0 (.string ⟨#[]⟩) 1 16 Tryz.underlying39 HI.out HZ.out hz1 hz2 rfl (by decide) _ 0 [] rfl (.inr ⟨rfl, rfl, _, rfl⟩) (some ⟨b, o, none⟩) l.length l.length ((l.take l.length).map .string) rfl (by simp <;> omega) (.inr ⟨_, rfl, fun j u hu => cell_later (HB6.out) (str_part HC.out 0 l.length (by omega) j u (by simpa using hu))⟩) (strs_one (l := l.take l.length)) (by unfold maxLen; omega) (by omega) (Nat.le_refl _) ?_
          intro v4 w4 hown4 hg4
          simp only [Nat.zero_add, List.nil_append] at hown4
          have hb4 := hg4.below (Below.refl _ _) (Nat.le_refl _) (Nat.le_refl _)
          have HB4 := Lib.hid ((HB6.out).trans (hb4.mono (HB6.out).size))
          have HO4 := Lib.hid hown4
          have hz4 := hb4.size
          have HL4 := Lib.hid (HL6.out.below hb4 HL6.out.lt)
          obtain ⟨A4, c4, hf4⟩ := hown4.form
          subst hf4
          clear hown4 hg4 hb4
          refine hK.out _ _ (trivial) (fun hHeld => ?_)
          clear hK K
          try simp only [Act.put, List.setIfInBounds_toArray, List.set_cons_zero, List.set_cons_succ]
          refine wpAnyH_ready (rs := [7]) (by kernel_rfl) (by simp) ?_
          refine AllReadyH.cons (o := ⟨_, _, _, _, _, _⟩) rfl (fun K hK => ?_) AllReadyH.nil
          rw [if_pos (show Region.wanted _ _ = true by rfl)]
          refine wp_app0 (.tmp 37) (.tmp 39) 39 rfl _ 9 i0 (.string ⟨#[]⟩) 1 16 Tryz.underlying39 HI.out HZ.out hz1 hz2 rfl (by decide) _ l.length ((l.take l.length).map .string) rfl HO4.out (some ⟨_, 0, none⟩) 1 1 [.string s] rfl rfl (.inr ⟨_, rfl, has_src HL4.out⟩) (one_str s) (by unfold maxLen; omega) (by omega) (by have q2 := hz4; simp at q2 ⊢ <;> omega) ?_
          intro v7 w7 hown7 hg7
          try simp only [Nat.zero_add, List.nil_append] at hown7
          have hb7 := hg7.below (HB4.out) (HB4.out).size (by have q1 := HBz.out.size; have q2 := hz4; simp at q1 q2 ⊢ <;> omega)
          have HB7 := Lib.hid hb7
          have HO7 := Lib.hid hown7
          have hz7 : w4.heap.size ≤ w7.heap.size := by obtain ⟨row, hr, _⟩ := hg7; have := hr.size; simp at this ⊢; omega
          obtain ⟨A7, c7, hf7⟩ := hown7.form
          subst hf7
          clear hown7 hg7 hb7
          refine hK.out _ _ (trivial) (fun hHeld => ?_)
          clear hK K
          try simp only [Act.put, List.setIfInBounds_toArray, List.set_cons_zero, List.set_cons_succ]
          refine wpAnyH_ready (rs := [11]) (by kernel_rfl) (by simp) ?_
          refine AllReadyH.cons (o := ⟨_, _, _, _, _, _⟩) rfl (fun K hK => ?_) AllReadyH.nil
          rw [if_pos (show Region.wanted _ _ = true by rfl)]
          refine wp_app0 (.tmp 40) (.tmp 43) 39 rfl _ 9 i0 (.string ⟨#[]⟩) 1 16 Tryz.underlying39 HI.out HZ.out hz1 hz2 rfl (by decide) _ (l.length + 1) (((l.take l.length).map .string) ++ [.string s]) rfl HO7.out _ 0 _ [] rfl (by simp) (.inl rfl) (strs_one (l := [])) (by unfold maxLen; omega) (by omega) (by omega) ?_
          intro v11 w11 hown11 hg11
          have HB11 := Lib.hid (hg11.below (HB7.out) (HB7.out).size (by have q1 := HBz.out.size; have q2 := hz4; simp at q1 q2 ⊢ <;> omega))
          have HO11 := Lib.hid hown11
          clear hown11 hg11
          refine hK.out _ _ (trivial) (fun hHeld => ?_)
          clear hK K
          try simp only [Act.put, List.setIfInBounds_toArray, List.set_cons_zero, List.set_cons_succ]
          refine plI [(12, false)] ?_
          repeat ((first | ((with_reducible show Plan ((_, true) :: _) _); refine plF ?_) | (refine plR (v := ?_) ?_ ?_; rotate_left; focus (intro W hSW; (try dsimp only at hSW); go_simp; all_goals (with_reducible rfl)))); try simp only [Act.put, List.setIfInBounds_toArray, List.set_cons_zero, List.set_cons_succ])
          refine plE ?_
          refine wpAnyH_done (by kernel_rfl) ?_ _
          clear hHeld
          go_wp2_with fail
          go_ret
          exact ⟨_, rfl, by rw [HNEW.out]; exact str_own0 (by simpa using HO11.out) (by simp <;> omega), by rw [HNEW.out]; simp, HB11.out⟩
        refine AllReadyH.cons (o := ⟨_, _, _, _, _, _⟩) rfl (fun K hK => ?_) AllReadyH.nil
        go_simp
        have HB6 := Lib.hid ((HBz.out).alloc (HBz.out).size (.cells #[.string s] 9))
        have HL6 := Lib.hid (show Has _ (wr.heap.size) 9 #[.string s] from (by have h := Has.new wr.drew 9 #[.string s]; (try rw [World.size_alloc] at h); exact h))
        refine hK.out _ _ (trivial) (fun hHeld => ?_)
        clear hK K
        try simp only [Act.put, List.setIfInBounds_toArray, List.set_cons_zero, List.set_cons_succ]
        refine wpAnyH_ready (rs := [0]) (by kernel_rfl) (by simp) ?_
        refine AllReadyH.cons (o := ⟨_, _, _, _, _, _⟩) rfl (fun K hK => ?_) AllReadyH.nil
        go_simp
        have HB0 := Lib.hid ((HB6.out).alloc (HB6.out).size (.cells #[] 9))
        have HLa := Lib.hid (HL6.out.alloc (.cells #[] 9))
        refine hK.out _ _ (trivial) (fun hHeld => ?_)
        clear hK K
        try simp only [Act.put, List.setIfInBounds_toArray, List.set_cons_zero, List.set_cons_succ]
        refine wpAnyH_ready (rs := [4]) (by kernel_rfl) (by simp) ?_
        refine AllReadyH.cons (o := ⟨_, _, _, _, _, _⟩) rfl (fun K hK => ?_) AllReadyH.nil
        rw [if_pos (show Region.wanted _ _ = true by rfl)]
        refine wp_app0 (.tmp 33) (.tmp 36) 39 rfl _ 9 i0 (.string ⟨#[]⟩) 1 16 Tryz.underlying39 HI.out HZ.out hz1 hz2 rfl (by decide) _ 0 [] rfl (.inr ⟨rfl, rfl, _, rfl⟩) (some ⟨b, o, none⟩) l.length l.length ((l.take l.length).map .string) rfl (by simp <;> omega) (.inr ⟨_, rfl, fun j u hu => cell_later (HB0.out) (str_part HC.out 0 l.length (by omega) j u (by simpa using hu))⟩) (strs_one (l := l.take l.length)) (by unfold maxLen; omega) (by omega) (Nat.le_refl _) ?_
        intro v4 w4 hown4 hg4
        simp only [Nat.zero_add, List.nil_append] at hown4
        have hb4 := hg4.below (Below.refl _ _) (Nat.le_refl _) (Nat.le_refl _)
        have HB4 := Lib.hid ((HB0.out).trans (hb4.mono (HB0.out).size))
        have HO4 := Lib.hid hown4
        have hz4 := hb4.size
        have HL4 := Lib.hid (HLa.out.below hb4 HLa.out.lt)
        obtain ⟨A4, c4, hf4⟩ := hown4.form
        subst hf4
        clear hown4 hg4 hb4
        refine hK.out _ _ (trivial) (fun hHeld => ?_)
        clear hK K
        try simp only [Act.put, List.setIfInBounds_toArray, List.set_cons_zero, List.set_cons_succ]
        refine wpAnyH_ready (rs := [7]) (by kernel_rfl) (by simp) ?_
        refine AllReadyH.cons (o := ⟨_, _, _, _, _, _⟩) rfl (fun K hK => ?_) AllReadyH.nil
        rw [if_pos (show Region.wanted _ _ = true by rfl)]
        refine wp_app0 (.tmp 37) (.tmp 39) 39 rfl _ 9 i0 (.string ⟨#[]⟩) 1 16 Tryz.underlying39 HI.out HZ.out hz1 hz2 rfl (by decide) _ l.length ((l.take l.length).map .string) rfl HO4.out (some ⟨_, 0, none⟩) 1 1 [.string s] rfl rfl (.inr ⟨_, rfl, has_src HL4.out⟩) (one_str s) (by unfold maxLen; omega) (by omega) (by have q2 := hz4; simp at q2 ⊢ <;> omega) ?_
        intro v7 w7 hown7 hg7
        try simp only [Nat.zero_add, List.nil_append] at hown7
        have hb7 := hg7.below (HB4.out) (HB4.out).size (by have q1 := HBz.out.size; have q2 := hz4; simp at q1 q2 ⊢ <;> omega)
        have HB7 := Lib.hid hb7
        have HO7 := Lib.hid hown7
        have hz7 : w4.heap.size ≤ w7.heap.size := by obtain ⟨row, hr, _⟩ := hg7; have := hr.size; simp at this ⊢; omega
        obtain ⟨A7, c7, hf7⟩ := hown7.form
        subst hf7
        clear hown7 hg7 hb7
        refine hK.out _ _ (trivial) (fun hHeld => ?_)
        clear hK K
        try simp only [Act.put, List.setIfInBounds_toArray, List.set_cons_zero, List.set_cons_succ]
        refine wpAnyH_ready (rs := [11]) (by kernel_rfl) (by simp) ?_
        refine AllReadyH.cons (o := ⟨_, _, _, _, _, _⟩) rfl (fun K hK => ?_) AllReadyH.nil
        rw [if_pos (show Region.wanted _ _ = true by rfl)]
        refine wp_app0 (.tmp 40) (.tmp 43) 39 rfl _ 9 i0 (.string ⟨#[]⟩) 1 16 Tryz.underlying39 HI.out HZ.out hz1 hz2 rfl (by decide) _ (l.length + 1) (((l.take l.length).map .string) ++ [.string s]) rfl HO7.out _ 0 _ [] rfl (by simp) (.inl rfl) (strs_one (l := [])) (by unfold maxLen; omega) (by omega) (by omega) ?_
        intro v11 w11 hown11 hg11
        have HB11 := Lib.hid (hg11.below (HB7.out) (HB7.out).size (by have q1 := HBz.out.size; have q2 := hz4; simp at q1 q2 ⊢ <;> omega))
        have HO11 := Lib.hid hown11
        clear hown11 hg11
        refine hK.out _ _ (trivial) (fun hHeld => ?_)
        clear hK K
        try simp only [Act.put, List.setIfInBounds_toArray, List.set_cons_zero, List.set_cons_succ]
        refine plI [(12, false)] ?_
        repeat ((first | ((with_reducible show Plan ((_, true) :: _) _); refine plF ?_) | (refine plR (v := ?_) ?_ ?_; rotate_left; focus (intro W hSW; (try dsimp only at hSW); go_simp; all_goals (with_reducible rfl)))); try simp only [Act.put, List.setIfInBounds_toArray, List.set_cons_zero, List.set_cons_succ])
        refine plE ?_
        refine wpAnyH_done (by kernel_rfl) ?_ _
        clear hHeld
        go_wp2_with fail
        go_ret
        exact ⟨_, rfl, by rw [HNEW.out]; exact str_own0 (by simpa using HO11.out) (by simp <;> omega), by rw [HNEW.out]; simp, HB11.out⟩
      · rw [decide_eq_false_iff_not] at hcap
        have hkn : ¬ l.length = c := fun h => hcap h.symm
        go_wp2_with fail
        have HBz := Lib.hid ((Below.refl wr.heap.size wr).drew)
        refine wp_region_held_drew (S := fun _ => True) (by kernel_rfl) (trivial) (fun hHeld => ?_)
        refine plI [(1, false), (2, false), (3, false), (5, false), (8, false), (9, false), (10, false)] ?_
        repeat ((first | ((with_reducible show Plan ((_, true) :: _) _); refine plF ?_) | (refine plR (v := ?_) ?_ ?_; rotate_left; focus (intro W hSW; (try dsimp only at hSW); go_simp; all_goals (with_reducible rfl)))); try simp only [Act.put, List.setIfInBounds_toArray, List.set_cons_zero, List.set_cons_succ])
        refine plE ?_
        refine wpAnyH_ready (rs := [0, 6]) (by kernel_rfl) (by simp) ?_
        refine AllReadyH.cons (o := ⟨_, _, _, _, _, _⟩) rfl (fun K hK => ?_) ?_
        · go_simp
          have HB0 := Lib.hid ((HBz.out).alloc (HBz.out).size (.cells #[] 9))
          refine hK.out _ _ (trivial) (fun hHeld => ?_)
          clear hK K
          try simp only [Act.put, List.setIfInBounds_toArray, List.set_cons_zero, List.set_cons_succ]
          refine wpAnyH_ready (rs := [4, 6]) (by kernel_rfl) (by simp) ?_
          refine AllReadyH.cons (o := ⟨_, _, _, _, _, _⟩) rfl (fun K hK => ?_) ?_
          · rw [if_pos (show Region.wanted _ _ = true by rfl)]
            refine wp_app0 (.tmp 33) (.tmp 36) 39 rfl _ 9 i0 (.string ⟨#[]⟩) 1 16 Tryz.underlying39 HI.out HZ.out hz1 hz2 rfl (by decide) _ 0 [] rfl (.inr ⟨rfl, rfl, _, rfl⟩) (some ⟨b, o, none⟩) l.length c ((l.take l.length).map .string) rfl (by simp <;> omega) (.inr ⟨_, rfl, fun j u hu => cell_later (HB0.out) (str_part HC.out 0 l.length (by omega) j u (by simpa using hu))⟩) (strs_one (l := l.take l.length)) (by unfold maxLen; omega) (by omega) (Nat.le_refl _) ?_
            intro v4 w4 hown4 hg4
            simp only [Nat.zero_add, List.nil_append] at hown4
            have hb4 := hg4.below (Below.refl _ _) (Nat.le_refl _) (Nat.le_refl _)
            have HB4 := Lib.hid ((HB0.out).trans (hb4.mono (HB0.out).size))
            have HO4 := Lib.hid hown4
            have hz4 := hb4.size
            obtain ⟨A4, c4, hf4⟩ := hown4.form
            subst hf4
            clear hown4 hg4 hb4
            refine hK.out _ _ (trivial) (fun hHeld => ?_)
            clear hK K
            try simp only [Act.put, List.setIfInBounds_toArray, List.set_cons_zero, List.set_cons_succ]
            refine wpAnyH_ready (rs := [6]) (by kernel_rfl) (by simp) ?_
            refine AllReadyH.cons (o := ⟨_, _, _, _, _, _⟩) rfl (fun K hK => ?_) AllReadyH.nil
            go_simp
            have HB6 := Lib.hid ((HB4.out).alloc (HB4.out).size (.cells #[.string s] 9))
            have HL6 := Lib.hid (show Has _ (w4.heap.size) 9 #[.string s] from (by have h := Has.new w4 9 #[.string s]; (try rw [World.size_alloc] at h); exact h))
            have HOb := Lib.hid (HO4.out.alloc (.cells #[.string s] 9))
            have hw6 : w4.heap.size ≤ (w4.alloc (.cells #[.string s] 9)).heap.size := by simp
            refine hK.out _ _ (trivial) (fun hHeld => ?_)
            clear hK K
            try simp only [Act.put, List.setIfInBounds_toArray, List.set_cons_zero, List.set_cons_succ]
            refine wpAnyH_ready (rs := [7]) (by kernel_rfl) (by simp) ?_
            refine AllReadyH.cons (o := ⟨_, _, _, _, _, _⟩) rfl (fun K hK => ?_) AllReadyH.nil
            rw [if_pos (show Region.wanted _ _ = true by rfl)]
            refine wp_app0 (.tmp 37) (.tmp 39) 39 rfl _ 9 i0 (.string ⟨#[]⟩) 1 16 Tryz.underlying39 HI.out HZ.out hz1 hz2 rfl (by decide) _ l.length ((l.take l.length).map .string) rfl HOb.out (some ⟨_, 0, none⟩) 1 1 [.string s] rfl rfl (.inr ⟨_, rfl, has_src HL6.out⟩) (one_str s) (by unfold maxLen; omega) (by omega) (by have q2 := hz4; simp at q2 ⊢ <;> omega) ?_
            intro v7 w7 hown7 hg7
            try simp only [Nat.zero_add, List.nil_append] at hown7
            have hb7 := hg7.below (HB6.out) (HB6.out).size (by have q1 := HBz.out.size; have q2 := hz4; simp at q1 q2 ⊢ <;> omega)
            have HB7 := Lib.hid hb7
            have HO7 := Lib.hid hown7
            have hz7 : w4.heap.size ≤ w7.heap.size := by obtain ⟨row, hr, _⟩ := hg7; have := hr.size; simp at this ⊢; omega
            obtain ⟨A7, c7, hf7⟩ := hown7.form
            subst hf7
            clear hown7 hg7 hb7
            refine hK.out _ _ (trivial) (fun hHeld => ?_)
            clear hK K
            try simp only [Act.put, List.setIfInBounds_toArray, List.set_cons_zero, List.set_cons_succ]
            refine wpAnyH_ready (rs := [11]) (by kernel_rfl) (by simp) ?_
            refine AllReadyH.cons (o := ⟨_, _, _, _, _, _⟩) rfl (fun K hK => ?_) AllReadyH.nil
            rw [if_pos (show Region.wanted _ _ = true by rfl)]
            refine wp_app0 (.tmp 40) (.tmp 43) 39 rfl _ 9 i0 (.string ⟨#[]⟩) 1 16 Tryz.underlying39 HI.out HZ.out hz1 hz2 rfl (by decide) _ (l.length + 1) (((l.take l.length).map .string) ++ [.string s]) rfl HO7.out _ 0 _ [] rfl (by simp) (.inl rfl) (strs_one (l := [])) (by unfold maxLen; omega) (by omega) (by omega) ?_
            intro v11 w11 hown11 hg11
            have HB11 := Lib.hid (hg11.below (HB7.out) (HB7.out).size (by have q1 := HBz.out.size; have q2 := hz4; simp at q1 q2 ⊢ <;> omega))
            have HO11 := Lib.hid hown11
            clear hown11 hg11
            refine hK.out _ _ (trivial) (fun hHeld => ?_)
            clear hK K
            try simp only [Act.put, List.setIfInBounds_toArray, List.set_cons_zero, List.set_cons_succ]
            refine plI [(12, false)] ?_
            repeat ((first | ((with_reducible show Plan ((_, true) :: _) _); refine plF ?_) | (refine plR (v := ?_) ?_ ?_; rotate_left; focus (intro W hSW; (try dsimp only at hSW); go_simp; all_goals (with_reducible rfl)))); try simp only [Act.put, List.setIfInBounds_toArray, List.set_cons_zero, List.set_cons_succ])
            refine plE ?_
            refine wpAnyH_done (by kernel_rfl) ?_ _
            clear hHeld
            go_wp2_with fail
            go_ret
            exact ⟨_, rfl, by rw [HNEW.out]; exact str_own0 (by simpa using HO11.out) (by simp <;> omega), by rw [HNEW.out]; simp, HB11.out⟩
          refine AllReadyH.cons (o := ⟨_, _, _, _, _, _⟩) rfl (fun K hK => ?_) AllReadyH.nil
          go_simp
          have HB6 := Lib.hid ((HB0.out).alloc (HB0.out).size (.cells #[.string s] 9))
          have HL6 := Lib.hid (show Has _ (wr.heap.size + 1) 9 #[.string s] from (by have h := Has.new (wr.drew.alloc (.cells #[] 9)) 9 #[.string s]; (try rw [World.size_alloc] at h); exact h))
          refine hK.out _ _ (trivial) (fun hHeld => ?_)
          clear hK K
          try simp only [Act.put, List.setIfInBounds_toArray, List.set_cons_zero, List.set_cons_succ]
          refine wpAnyH_ready (rs := [4]) (by kernel_rfl) (by simp) ?_
          refine AllReadyH.cons (o := ⟨_, _, _, _, _, _⟩) rfl (fun K hK => ?_) AllReadyH.nil
          rw [if_pos (show Region.wanted _ _ = true by rfl)]
          refine wp_app0 (.tmp 33) (.tmp 36) 39 rfl _ 9 i0 (.string ⟨#[]⟩) 1 16 Tryz.underlying39 HI.out HZ.out hz1 hz2 rfl (by decide) _ 0 [] rfl (.inr ⟨rfl, rfl, _, rfl⟩) (some ⟨b, o, none⟩) l.length c ((l.take l.length).map .string) rfl (by simp <;> omega) (.inr ⟨_, rfl, fun j u hu => cell_later (HB6.out) (str_part HC.out 0 l.length (by omega) j u (by simpa using hu))⟩) (strs_one (l := l.take l.length)) (by unfold maxLen; omega) (by omega) (Nat.le_refl _) ?_
          intro v4 w4 hown4 hg4
          simp only [Nat.zero_add, List.nil_append] at hown4
          have hb4 := hg4.below (Below.refl _ _) (Nat.le_refl _) (Nat.le_refl _)
          have HB4 := Lib.hid ((HB6.out).trans (hb4.mono (HB6.out).size))
          have HO4 := Lib.hid hown4
          have hz4 := hb4.size
          have HL4 := Lib.hid (HL6.out.below hb4 HL6.out.lt)
          obtain ⟨A4, c4, hf4⟩ := hown4.form
          subst hf4
          clear hown4 hg4 hb4
          refine hK.out _ _ (trivial) (fun hHeld => ?_)
          clear hK K
          try simp only [Act.put, List.setIfInBounds_toArray, List.set_cons_zero, List.set_cons_succ]
          refine wpAnyH_ready (rs := [7]) (by kernel_rfl) (by simp) ?_
          refine AllReadyH.cons (o := ⟨_, _, _, _, _, _⟩) rfl (fun K hK => ?_) AllReadyH.nil
          rw [if_pos (show Region.wanted _ _ = true by rfl)]
          refine wp_app0 (.tmp 37) (.tmp 39) 39 rfl _ 9 i0 (.string ⟨#[]⟩) 1 16 Tryz.underlying39 HI.out HZ.out hz1 hz2 rfl (by decide) _ l.length ((l.take l.length).map .string) rfl HO4.out (some ⟨_, 0, none⟩) 1 1 [.string s] rfl rfl (.inr ⟨_, rfl, has_src HL4.out⟩) (one_str s) (by unfold maxLen; omega) (by omega) (by have q2 := hz4; simp at q2 ⊢ <;> omega) ?_
          intro v7 w7 hown7 hg7
          try simp only [Nat.zero_add, List.nil_append] at hown7
          have hb7 := hg7.below (HB4.out) (HB4.out).size (by have q1 := HBz.out.size; have q2 := hz4; simp at q1 q2 ⊢ <;> omega)
          have HB7 := Lib.hid hb7
          have HO7 := Lib.hid hown7
          have hz7 : w4.heap.size ≤ w7.heap.size := by obtain ⟨row, hr, _⟩ := hg7; have := hr.size; simp at this ⊢; omega
          obtain ⟨A7, c7, hf7⟩ := hown7.form
          subst hf7
          clear hown7 hg7 hb7
          refine hK.out _ _ (trivial) (fun hHeld => ?_)
          clear hK K
          try simp only [Act.put, List.setIfInBounds_toArray, List.set_cons_zero, List.set_cons_succ]
          refine wpAnyH_ready (rs := [11]) (by kernel_rfl) (by simp) ?_
          refine AllReadyH.cons (o := ⟨_, _, _, _, _, _⟩) rfl (fun K hK => ?_) AllReadyH.nil
          rw [if_pos (show Region.wanted _ _ = true by rfl)]
          refine wp_app0 (.tmp 40) (.tmp 43) 39 rfl _ 9 i0 (.string ⟨#[]⟩) 1 16 Tryz.underlying39 HI.out HZ.out hz1 hz2 rfl (by decide) _ (l.length + 1) (((l.take l.length).map .string) ++ [.string s]) rfl HO7.out _ 0 _ [] rfl (by simp) (.inl rfl) (strs_one (l := [])) (by unfold maxLen; omega) (by omega) (by omega) ?_
          intro v11 w11 hown11 hg11
          have HB11 := Lib.hid (hg11.below (HB7.out) (HB7.out).size (by have q1 := HBz.out.size; have q2 := hz4; simp at q1 q2 ⊢ <;> omega))
          have HO11 := Lib.hid hown11
          clear hown11 hg11
          refine hK.out _ _ (trivial) (fun hHeld => ?_)
          clear hK K
          try simp only [Act.put, List.setIfInBounds_toArray, List.set_cons_zero, List.set_cons_succ]
          refine plI [(12, false)] ?_
          repeat ((first | ((with_reducible show Plan ((_, true) :: _) _); refine plF ?_) | (refine plR (v := ?_) ?_ ?_; rotate_left; focus (intro W hSW; (try dsimp only at hSW); go_simp; all_goals (with_reducible rfl)))); try simp only [Act.put, List.setIfInBounds_toArray, List.set_cons_zero, List.set_cons_succ])
          refine plE ?_
          refine wpAnyH_done (by kernel_rfl) ?_ _
          clear hHeld
          go_wp2_with fail
          go_ret
          exact ⟨_, rfl, by rw [HNEW.out]; exact str_own0 (by simpa using HO11.out) (by simp <;> omega), by rw [HNEW.out]; simp, HB11.out⟩
        refine AllReadyH.cons (o := ⟨_, _, _, _, _, _⟩) rfl (fun K hK => ?_) AllReadyH.nil
        go_simp
        have HB6 := Lib.hid ((HBz.out).alloc (HBz.out).size (.cells #[.string s] 9))
        have HL6 := Lib.hid (show Has _ (wr.heap.size) 9 #[.string s] from (by have h := Has.new wr.drew 9 #[.string s]; (try rw [World.size_alloc] at h); exact h))
        refine hK.out _ _ (trivial) (fun hHeld => ?_)
        clear hK K
        try simp only [Act.put, List.setIfInBounds_toArray, List.set_cons_zero, List.set_cons_succ]
        refine wpAnyH_ready (rs := [0]) (by kernel_rfl) (by simp) ?_
        refine AllReadyH.cons (o := ⟨_, _, _, _, _, _⟩) rfl (fun K hK => ?_) AllReadyH.nil
        go_simp
        have HB0 := Lib.hid ((HB6.out).alloc (HB6.out).size (.cells #[] 9))
        have HLa := Lib.hid (HL6.out.alloc (.cells #[] 9))
        refine hK.out _ _ (trivial) (fun hHeld => ?_)
        clear hK K
        try simp only [Act.put, List.setIfInBounds_toArray, List.set_cons_zero, List.set_cons_succ]
        refine wpAnyH_ready (rs := [4]) (by kernel_rfl) (by simp) ?_
        refine AllReadyH.cons (o := ⟨_, _, _, _, _, _⟩) rfl (fun K hK => ?_) AllReadyH.nil
        rw [if_pos (show Region.wanted _ _ = true by rfl)]
        refine wp_app0 (.tmp 33) (.tmp 36) 39 rfl _ 9 i0 (.string ⟨#[]⟩) 1 16 Tryz.underlying39 HI.out HZ.out hz1 hz2 rfl (by decide) _ 0 [] rfl (.inr ⟨rfl, rfl, _, rfl⟩) (some ⟨b, o, none⟩) l.length c ((l.take l.length).map .string) rfl (by simp <;> omega) (.inr ⟨_, rfl, fun j u hu => cell_later (HB0.out) (str_part HC.out 0 l.length (by omega) j u (by simpa using hu))⟩) (strs_one (l := l.take l.length)) (by unfold maxLen; omega) (by omega) (Nat.le_refl _) ?_
        intro v4 w4 hown4 hg4
        simp only [Nat.zero_add, List.nil_append] at hown4
        have hb4 := hg4.below (Below.refl _ _) (Nat.le_refl _) (Nat.le_refl _)
        have HB4 := Lib.hid ((HB0.out).trans (hb4.mono (HB0.out).size))
        have HO4 := Lib.hid hown4
        have hz4 := hb4.size
        have HL4 := Lib.hid (HLa.out.below hb4 HLa.out.lt)
        obtain ⟨A4, c4, hf4⟩ := hown4.form
        subst hf4
        clear hown4 hg4 hb4
        refine hK.out _ _ (trivial) (fun hHeld => ?_)
        clear hK K
        try simp only [Act.put, List.setIfInBounds_toArray, List.set_cons_zero, List.set_cons_succ]
        refine wpAnyH_ready (rs := [7]) (by kernel_rfl) (by simp) ?_
        refine AllReadyH.cons (o := ⟨_, _, _, _, _, _⟩) rfl (fun K hK => ?_) AllReadyH.nil
        rw [if_pos (show Region.wanted _ _ = true by rfl)]
        refine wp_app0 (.tmp 37) (.tmp 39) 39 rfl _ 9 i0 (.string ⟨#[]⟩) 1 16 Tryz.underlying39 HI.out HZ.out hz1 hz2 rfl (by decide) _ l.length ((l.take l.length).map .string) rfl HO4.out (some ⟨_, 0, none⟩) 1 1 [.string s] rfl rfl (.inr ⟨_, rfl, has_src HL4.out⟩) (one_str s) (by unfold maxLen; omega) (by omega) (by have q2 := hz4; simp at q2 ⊢ <;> omega) ?_
        intro v7 w7 hown7 hg7
        try simp only [Nat.zero_add, List.nil_append] at hown7
        have hb7 := hg7.below (HB4.out) (HB4.out).size (by have q1 := HBz.out.size; have q2 := hz4; simp at q1 q2 ⊢ <;> omega)
        have HB7 := Lib.hid hb7
        have HO7 := Lib.hid hown7
        have hz7 : w4.heap.size ≤ w7.heap.size := by obtain ⟨row, hr, _⟩ := hg7; have := hr.size; simp at this ⊢; omega
        obtain ⟨A7, c7, hf7⟩ := hown7.form
        subst hf7
        clear hown7 hg7 hb7
        refine hK.out _ _ (trivial) (fun hHeld => ?_)
        clear hK K
        try simp only [Act.put, List.setIfInBounds_toArray, List.set_cons_zero, List.set_cons_succ]
        refine wpAnyH_ready (rs := [11]) (by kernel_rfl) (by simp) ?_
        refine AllReadyH.cons (o := ⟨_, _, _, _, _, _⟩) rfl (fun K hK => ?_) AllReadyH.nil
        rw [if_pos (show Region.wanted _ _ = true by rfl)]
        refine wp_app0 (.tmp 40) (.tmp 43) 39 rfl _ 9 i0 (.string ⟨#[]⟩) 1 16 Tryz.underlying39 HI.out HZ.out hz1 hz2 rfl (by decide) _ (l.length + 1) (((l.take l.length).map .string) ++ [.string s]) rfl HO7.out _ 0 _ [] rfl (by simp) (.inl rfl) (strs_one (l := [])) (by unfold maxLen; omega) (by omega) (by omega) ?_
        intro v11 w11 hown11 hg11
        have HB11 := Lib.hid (hg11.below (HB7.out) (HB7.out).size (by have q1 := HBz.out.size; have q2 := hz4; simp at q1 q2 ⊢ <;> omega))
        have HO11 := Lib.hid hown11
        clear hown11 hg11
        refine hK.out _ _ (trivial) (fun hHeld => ?_)
        clear hK K
        try simp only [Act.put, List.setIfInBounds_toArray, List.set_cons_zero, List.set_cons_succ]
        refine plI [(12, false)] ?_
        repeat ((first | ((with_reducible show Plan ((_, true) :: _) _); refine plF ?_) | (refine plR (v := ?_) ?_ ?_; rotate_left; focus (intro W hSW; (try dsimp only at hSW); go_simp; all_goals (with_reducible rfl)))); try simp only [Act.put, List.setIfInBounds_toArray, List.set_cons_zero, List.set_cons_succ])
        refine plE ?_
        refine wpAnyH_done (by kernel_rfl) ?_ _
        clear hHeld
        go_wp2_with fail
        go_ret
        exact ⟨_, rfl, by rw [HNEW.out]; exact str_own0 (by simpa using HO11.out) (by simp <;> omega), by rw [HNEW.out]; simp, HB11.out⟩
end Go.Proofs.YtccnocgmikmonaaGreatDoor
namespace Go.Proofs.YtccnocgmikmonaaGreatDoor
open Go Go.RowKit
set_option maxRecDepth 100000 in
set_option maxHeartbeats 2000000 in
theorem refSameL_any (v v' : Value) (l : List ByteArray) (w : World) (hv : Sl w v l.length 1 (strF l)) (hv' : Sl w v' l.length 1 (strF l)) (hl : l.length ≤ 1000000) :
    Calls Tryz.prog 12 #[v, v'] w fun e w' => e = .returned (.bool true) ∧ Below w.heap.size w w' := by
  obtain ⟨A, c, rfl, hn, hc⟩ := hv
  obtain ⟨A', c', rfl, hn', hc'⟩ := hv'
  have HC := Lib.hid hc
  have HC' := Lib.hid hc'
  clear hc hc'
  go_enter Tryz.func12, Tryz.ntmps12
  go_wp2_with fail
  go_loopw [5] (fun i wr => ∃ k : Nat, k ≤ l.length ∧ i = .int .i64 k ∧ Hid (Below w.heap.size w wr)) (fun i _ => l.length - (intOf i).toNat)
  case atStart => exact ⟨0, Nat.zero_le _, rfl, Below.refl _ _⟩
  case round =>
    obtain ⟨k, hk, rfl, HB⟩ := hrel
    by_cases hlt : k < l.length
    · rcases HC.out with h0 | ⟨b, o, rfl, hcc⟩
      · omega
      rcases HC'.out with h0 | ⟨b', o', rfl, hcc'⟩
      · omega
      have hck : wr.cell? ⟨b, o + k, none⟩ = some (.string (l.getD k eS)) := cell_later HB.out (hcc k (by omega))
      have hck' : wr.cell? ⟨b', o' + k, none⟩ = some (.string (l.getD k eS)) := cell_later HB.out (hcc' k (by omega))
      have hki : (k : Int) < (l.length : Int) := by omega
      clear hcc hcc'
      generalize l.getD k eS = q at *
      go_wp2_with fail
      go_quiet (fail)
      go_wp2_with fail
      go_roundw
      case rel => exact ⟨k + 1, by omega, by go_num, below_drewN HB.out _⟩
      case measure => simp [intOf]; omega
    · obtain rfl : k = l.length := by omega
      go_wp2_with fail
      go_ret
      exact ⟨rfl, HB.out⟩
set_option maxRecDepth 100000 in
set_option maxHeartbeats 2000000 in
theorem refDigest_any (w0 : World) (v : Value) (l : List Pa) (w : World) (hb0 : Below w0.heap.size w0 w) (hv : Sta w0 v l) (hi : ∀ p ∈ l, p.i64) (hl : (fieldsL l).length ≤ 1000000) (hj : (joinedL (fieldsL l)).length ≤ 1000000000) (hpl : ∀ p ∈ l, p.props.length ≤ 100000) (hll : l.length ≤ 100000) :
    Calls Tryz.prog 18 #[.agg #[v]] w fun e w' => e = .returned (.string (digestB l)) ∧ Below w.heap.size w w' := by
  obtain ⟨A, cc, rfl, hn⟩ := Rd.form hv
  have HB0 := Lib.hid hb0
  have HB1 := Lib.hid ((Below.refl w.heap.size w).alloc (Nat.le_refl _) (.cells #[.slice A l.length cc] 24))
  have HF := Lib.hid (fun W (h : Below w0.heap.size w0 W) => refFields_any w0 _ l W h hv hi hl hpl hll)
  have HL := Lib.hid (fun v W (h : Sl W v (fieldsL l).length 1 (strF (fieldsL l))) => refList_any v (fieldsL l) W h hj hl)
  have HE := Lib.hid (show sumB ⟨(joinedL (fieldsL l)).toArray⟩ = digestB l from rfl)
  clear hb0 hv hi hl hj hpl
  go_enter Tryz.func18, Tryz.ntmps18
  go_wp2_with (first | (go_at_call 21; refine (HF.out _ (HB0.out.trans (HB1.out.mono HB0.out.size))).mono ?_; rintro e w3 ⟨v3, rfl, hs3, hb3⟩; have HS3 := Lib.hid hs3; have HB3 := Lib.hid (HB1.out.trans (hb3.mono HB1.out.size)); clear hs3 hb3) | (go_at_call 43; refine (HL.out _ _ HS3.out).mono ?_; rintro e w4 ⟨rfl, hb4⟩; rw [HE.out]; have HB4 := Lib.hid (HB3.out.trans (hb4.mono HB3.out.size)); clear hb4))
  go_ret
  exact ⟨rfl, HB4.out⟩
/-- put's two contracts as one. -/
def OutS (w : World) (v : Value) (l : List ByteArray) : Prop := Sl w v l.length 1 (strF l) ∧ (l = [] → v = .slice none 0 0)
theorem refPut_any (v : Value) (l : List ByteArray) (s : ByteArray) (w : World) (h : OutS w v l) (hl : l.length ≤ 100000) :
    Calls Tryz.prog 36 #[v, .string s] w fun e w' => ∃ v', e = .returned v' ∧ OutS w' v' (putG idS l s) ∧ Below w.heap.size w w' := by
  obtain ⟨hs, h0⟩ := h
  cases l with
  | nil =>
    rw [h0 rfl]
    refine (refPut_nil s w).mono ?_
    rintro e w' ⟨v', rfl, h1, h2, h3⟩
    exact ⟨v', rfl, ⟨h1, fun h => absurd h h2⟩, h3⟩
  | cons a t =>
    obtain ⟨A, c, rfl, hn, hc⟩ := id hs
    refine (refPut_some A c (a :: t) s w hs (Nat.succ_pos _) hl).mono ?_
    rintro e w' ⟨v', rfl, h1, h2, h3⟩
    exact ⟨v', rfl, ⟨h1, fun h => absurd h h2⟩, h3⟩
theorem OutS.below {w w' : World} {v : Value} {l : List ByteArray} (h : OutS w v l) (hb : Below w.heap.size w w') : OutS w' v l := ⟨h.1.below hb, h.2⟩
theorem ins_yes {l : List Pa} {a : ByteArray} {k : Nat} (h1 : (l.getD k noPa).name ≠ a) (h2 : inK (wayL l (l.getD k noPa).name).1 a = true) : insTo l a (k + 1) = putG idS (insTo l a k) (l.getD k noPa).name := by
  rw [insTo_succ, decide_eq_false h1, h2]; rfl
theorem ins_no {l : List Pa} {a : ByteArray} {k : Nat} (h : (l.getD k noPa).name = a ∨ inK (wayL l (l.getD k noPa).name).1 a = false) : insTo l a (k + 1) = insTo l a k := by
  rw [insTo_succ]
  rcases h with h | h
  · rw [decide_eq_true h]; rfl
  · rw [h, Bool.and_false]; rfl
theorem bne_no {x y : ByteArray} (h : (x.toList == y.toList) = true) : x = y := by
  rw [beq_bytes] at h; exact of_decide_eq_true h
theorem bne_yes {x y : ByteArray} (h : (x.toList == y.toList) = false) : x ≠ y := by
  rw [beq_bytes] at h; exact of_decide_eq_false h
set_option maxRecDepth 100000 in
set_option maxHeartbeats 8000000 in
theorem refInside_any (w0 : World) (v : Value) (l : List Pa) (a : ByteArray) (w : World) (hb0 : Below w0.heap.size w0 w) (hv : Sta w0 v l) (hl : l.length ≤ 10000) :
    Calls Tryz.prog 14 #[.agg #[v], .string a] w fun e w' => ∃ v', e = .returned v' ∧ Sl w' v' (insR l a).length 1 (strF (insR l a)) ∧ Below w.heap.size w w' := by
  obtain ⟨A, cc, rfl, hn⟩ := Rd.form hv
  have hS0 := Has.new w 24 #[.slice A l.length cc]
  obtain ⟨z1, z2⟩ := hS0.facts
  have hsz : w.heap.size < (w.alloc (.cells #[.slice A l.length cc] 24)).heap.size := hS0.lt
  have HS0 := Lib.hid hS0
  have HV := Lib.hid hv
  have HB0 := Lib.hid hb0
  have HB1 := Lib.hid ((Below.refl w.heap.size w).alloc (Nat.le_refl _) (.cells #[.slice A l.length cc] 24))
  have HAT := Lib.hid (fun W (h : Below w0.heap.size w0 W) => refAt_any w0 _ l a W h hv (by omega))
  have HWY := Lib.hid (fun x W (h : Below w0.heap.size w0 W) => way_any w0 _ l x W h hv hl)
  clear hv hb0 hS0
  cases hf : pfind l a with
  | none =>
    have HA := Lib.hid (atP_no hf)
    have HE := Lib.hid (show insR l a = [] by unfold insR; rw [hf]; rfl)
    clear hf
    go_enter Tryz.func14, Tryz.ntmps14
    go_wp2_with (go_at_call 29; refine (HAT.out _ (HB0.out.trans (HB1.out.mono HB0.out.size))).mono ?_; rintro e w3 ⟨rfl, hb3⟩; rw [HA.out]; have HB3 := Lib.hid (HB1.out.trans (hb3.mono HB1.out.size)); clear hb3)
    go_ret
    exact ⟨_, rfl, by rw [HE.out]; exact ⟨_, _, rfl, Nat.le_refl _, .inl rfl⟩, HB3.out⟩
  | some p =>
    obtain ⟨k0, hlt0, hat, _⟩ := atP_yes hf
    have HA := Lib.hid hat
    have HE := Lib.hid (show insR l a = insTo l a l.length by unfold insR; rw [hf]; rfl)
    have hk0 : ¬ ((k0 : Int) < 0) := by omega
    clear hf hat
    go_enter Tryz.func14, Tryz.ntmps14
    go_wp2_with (go_at_call 29; refine (HAT.out _ (HB0.out.trans (HB1.out.mono HB0.out.size))).mono ?_; rintro e w3 ⟨rfl, hb3⟩; rw [HA.out]; have HB3 := Lib.hid (HB1.out.trans (hb3.mono HB1.out.size)); have HS3 := Lib.hid (HS0.out.below hb3 hsz); clear hb3)
    go_loopw [5, 6] (fun out i wr => ∃ k : Nat, k ≤ l.length ∧ i = .int .i64 k ∧ Hid (OutS wr out (insTo l a k)) ∧ Hid (Has wr w.heap.size 24 #[.slice A l.length cc]) ∧ Hid (Below w.heap.size w wr)) (fun _ i _ => l.length - (intOf i).toNat)
    case atStart => exact ⟨0, Nat.zero_le _, rfl, ⟨⟨_, _, rfl, Nat.le_refl _, .inl rfl⟩, fun _ => rfl⟩, HS3.out, HB3.out⟩
    case round =>
      clear z1 z2 hsz hk0 HS3 HB3 HA HAT
      obtain ⟨k, hk, rfl, HO, HC, HB⟩ := hrel
      obtain ⟨x1, y1⟩ := HC.out.facts
      by_cases hlt : k < l.length
      · obtain ⟨b, o, c', cs, he, _, ⟨sv, rfl, hsv⟩, _, hrg⟩ := Rd.get HV.out hlt noPa
        injection he with e1 e2 e3
        subst e1; subst e3
        have HRG := Lib.hid hrg
        have hrg' := range_later hrg (HB0.out.trans (HB.out.mono HB0.out.size))
        have hki : (k : Int) < (l.length : Int) := by omega
        have HY := Lib.hid (fun h1 h2 => ins_yes (l := l) (a := a) (k := k) h1 h2)
        have HN := Lib.hid (fun h => ins_no (l := l) (a := a) (k := k) h)
        have hln := Lib.hid (insTo_len l a k (by omega))
        have hr0 : w0.rangeAt b (o + k * 14) [.string (l.getD k noPa).name] := fun j u hu => hrg j u (by
          cases j with
          | zero => exact hu
          | succ j => simp at hu)
        have HR0 := Lib.hid hr0
        have r0 : wr.cell? ⟨b, o + k * 14, none⟩ = some (.string (l.getD k noPa).name) := hrg' 0 _ rfl
        have hwl := Lib.hid (way_len l (l.length + 1) (l.getD k noPa).name)
        clear hrg hsv hrg' HRG hr0
        generalize (l.getD k noPa).name = name at *
        have HWN := Lib.hid (fun W h => HWY.out name W h)
        obtain ⟨ws, hws⟩ : ∃ ws, ws = (wayL l name).1 := ⟨_, rfl⟩
        have hwl2 : ws.length ≤ l.length + 1 := by rw [hws]; exact hwl.out
        rw [← hws] at HY HN HWN
        generalize (wayL l name).2 = wb at HWN
        clear hws hwl HWY
        have HK := Lib.hid (fun W (h : Has W w.heap.size 24 #[.slice (some ⟨b, o, none⟩) l.length cc]) (h2 : Below w.heap.size w W) => (⟨h.facts.1 0, cell_later (HB0.out.trans (h2.mono HB0.out.size)) (HR0.out 0 _ rfl)⟩ : (fun W => W.cell? ⟨w.heap.size, 0, none⟩ = some (.slice (some ⟨b, o, none⟩) l.length cc) ∧ W.cell? ⟨b, o + k * 14, none⟩ = some (.string name)) W))
        go_wp2_with fail
        refine wp_region_held_drew (S := fun W => W.cell? ⟨w.heap.size, 0, none⟩ = some (.slice (some ⟨b, o, none⟩) l.length cc) ∧ W.cell? ⟨b, o + k * 14, none⟩ = some (.string name)) (by kernel_rfl) (HK.out _ HC.out.drew HB.out.drew) (fun hHeld => ?_)
        refine plI [(0, false), (1, false), (2, false), (3, false), (4, false), (5, false), (6, false)] ?_
        repeat ((first | ((with_reducible show Plan ((_, true) :: _) _); refine plF ?_) | (refine plR (v := ?_) ?_ ?_; rotate_left; focus (intro W hSW; (try dsimp only at hSW); go_simp; all_goals (with_reducible rfl)))); try simp only [Act.put, List.setIfInBounds_toArray, List.set_cons_zero, List.set_cons_succ])
        refine plE ?_
        refine wpAnyH_ready (rs := [7]) (by kernel_rfl) (by simp) ?_
        refine AllReadyH.cons (o := ⟨_, _, _, _, _, _⟩) rfl (fun K hK => ?_) AllReadyH.nil
        go_simp
        go_at_call 32; refine (HWN.out _ (HB0.out.trans ((HB.out.drew).mono HB0.out.size))).mono ?_; rintro e w5 ⟨v5, rfl, ho5, hb5⟩; have HL5 := Lib.hid (str_ownI ho5); have HC5 := Lib.hid ((HC.out.drew).below hb5 (HC.out.drew).lt); have HB5 := Lib.hid ((HB.out.drew).trans (hb5.mono (HB.out.drew).size)); have HO5 := Lib.hid (HO.out.below ((Below.refl wr.heap.size wr).drew.trans (hb5.mono (Nat.le_refl _)))); clear ho5 hb5
        refine hK.out _ _ (HK.out _ HC5.out HB5.out) (fun hHeld => ?_)
        clear hK K
        try simp only [Act.put, List.setIfInBounds_toArray, List.set_cons_zero, List.set_cons_succ]
        refine plI [(8, false), (9, false), (10, false), (11, false), (12, false)] ?_
        repeat ((first | ((with_reducible show Plan ((_, true) :: _) _); refine plF ?_) | (refine plR (v := ?_) ?_ ?_; rotate_left; focus (intro W hSW; (try dsimp only at hSW); go_simp; all_goals (with_reducible rfl)))); try simp only [Act.put, List.setIfInBounds_toArray, List.set_cons_zero, List.set_cons_succ])
        refine plE ?_
        refine wpAnyH_done (by kernel_rfl) ?_ _
        clear hHeld
        obtain ⟨x5, y5⟩ := HC5.out.facts
        have r5 := (HK.out _ HC5.out HB5.out).2
        clear x1 y1 r0 HK
        cases n1 : (name.toList == a.toList)
        rotate_left
        · have HEQ := Lib.hid (HN.out (.inl (bne_no n1)))
          go_wp2_with fail
          go_roundw
          case rel => exact ⟨k + 1, by omega, by go_num, (by rw [HEQ.out]; exact HO5.out), HC5.out, HB5.out⟩
          case measure => simp [intOf]; omega
        · cases n2 : inK ws a
          · have HEQ := Lib.hid (HN.out (.inr n2))
            have HN2 := Lib.hid n2
            clear n2
            go_wp2_with (go_at_call 35; refine (refHas_any _ ws a _ HL5.out (by omega)).mono ?_; rintro e w6 ⟨rfl, rfl⟩; rw [HN2.out])
            go_roundw
            case rel => exact ⟨k + 1, by omega, by go_num, (by rw [HEQ.out]; exact HO5.out), HC5.out, HB5.out⟩
            case measure => simp [intOf]; omega
          · have HEQ := Lib.hid (HY.out (bne_yes n1) n2)
            have HN2 := Lib.hid n2
            clear n2
            go_wp2_with (first | (go_at_call 35; refine (refHas_any _ ws a _ HL5.out (by omega)).mono ?_; rintro e w6 ⟨rfl, rfl⟩; rw [HN2.out]) | (go_at_call 36; refine (refPut_any _ (insTo l a k) name _ HO5.out (by have := hln.out; omega)).mono ?_; rintro e w7 ⟨v7, rfl, ho7, hb7⟩; rw [← HEQ.out] at ho7; have HO7 := Lib.hid ho7; have HC7 := Lib.hid (HC5.out.below hb7 HC5.out.lt); have HB7 := Lib.hid (HB5.out.trans (hb7.mono HB5.out.size)); clear ho7 hb7))
            go_roundw
            case rel => exact ⟨k + 1, by omega, by go_num, HO7.out, HC7.out, HB7.out⟩
            case measure => simp [intOf]; omega
      · obtain rfl : k = l.length := by omega
        go_wp2_with fail
        go_ret
        exact ⟨_, rfl, by rw [HE.out]; exact HO.out.1, HB.out⟩
end Go.Proofs.YtccnocgmikmonaaGreatDoor
