/- bogieref09.Text: the reference's text of an event is event.Text's. Condition: the strings lie in memory. -/
import Derived.Test.YtjlpllnhefafkaaGreatDoorU08
import Derived.Test.YtjlpllnhefafkaaGreatDoorXN
import Derived.Test.YtjlpllnhefafkaaGreatDoorXR
namespace Go.Proofs.YtjlpllnhefafkaaGreatDoor
open Go Go.RowKit
theorem ba_ext {a b : ByteArray} (h : a.data.toList = b.data.toList) : a = b := by
  cases a with | mk x => cases b with | mk y => exact congrArg ByteArray.mk (Array.toList_inj.1 h)
theorem text_data (e : Ev) : (textB e).data.toList = spaced ((evWords e).map fun b => b.data.toList) := joined_spaced _
theorem sp_data : (⟨#[32]⟩ : ByteArray).data.toList = [32] := rfl
theorem name_size {b : ByteArray} (h : nameB b = true) : b.size ≤ 24 := name_len h
theorem word_len {op : Int} (h : 1 ≤ op ∧ op ≤ 7) : (wordS op).size ≤ 24 := by
  obtain ⟨n1, n2, n3, n4, n5, n6, n7⟩ := words_names
  have hc : op = 1 ∨ op = 2 ∨ op = 3 ∨ op = 4 ∨ op = 5 ∨ op = 6 ∨ op = 7 := by omega
  rcases hc with h | h | h | h | h | h | h <;> rw [h] <;> exact name_size (by assumption)
theorem quote_size (v : ByteArray) : (quoteB v).size ≤ 2 * v.size + 2 := quote_len v
theorem words_at {w : World} {g : Nat} (h : Has w g 9 (wordsL.map Value.string).toArray) (i : Nat) (hi : i < 8) : w.cell? ⟨g, i, none⟩ = some (.string (wordS i)) := by
  rw [h.cell i, ← wordsL_at i hi]
  have : i < wordsL.length := hi
  simp [List.getD_eq_getElem?_getD, this]
set_option maxRecDepth 100000 in
set_option maxHeartbeats 8000000 in
theorem rtx_3 (day : Nat) (part kind into slot key value : ByteArray) (kl kh cl ch ll lh : Int) (w : World) (hs : Ev.short ⟨3, (day : Nat), part, kind, into, slot, key, value, kl, kh, cl, ch, ll, lh⟩) (hok : evOk ⟨3, (day : Nat), part, kind, into, slot, key, value, kl, kh, cl, ch, ll, lh⟩ = true) :
    Calls Tryz.prog 28 #[.agg #[.int .i64 3, .int .i64 (day : Nat), .string part, .string kind, .string into, .string slot, .string key, .string value, .int .i64 kl, .int .i64 kh, .int .i64 cl, .int .i64 ch, .int .i64 ll, .int .i64 lh]] w fun r w' => r = .returned (.tuple #[.string (textB ⟨3, (day : Nat), part, kind, into, slot, key, value, kl, kh, cl, ch, ll, lh⟩), .int .i64 0]) ∧ Below w.heap.size w w' := by
  obtain ⟨_, hday, hpn, hr⟩ := evOk_parts hok
  dsimp only at hday hpn
  have hpz := name_size hpn
  have hdz := itoa_len (u := day) (by omega)
  have hwz : (wordS 3).size ≤ 24 := word_len (by omega)
  have HS := Lib.hid hs
  have HOK := Lib.hid hok
  have HDC := Lib.hid (fun W => decimal_any day W (by omega))
  generalize hwd : wordS 3 = wd at hwz
  have HWD := Lib.hid hwd
  have hq0 : ¬ 9223372036854775807 < wd.size + 1 := by omega
  have hq1 : ¬ 9223372036854775807 < wd.size + 1 + (itoaB (day : Int)).size := by omega
  have hq2 : ¬ 9223372036854775807 < wd.size + 1 + (itoaB (day : Int)).size + 1 := by omega
  have hq3 : ¬ 9223372036854775807 < wd.size + 1 + (itoaB (day : Int)).size + 1 + part.size := by omega
  clear hs hok hday hpn hr hpz hdz hwz hwd
  go_enter Tryz.func28, Tryz.ntmps28
  go_wp2_with (go_at_call 30; refine (refEv_any ⟨3, (day : Nat), part, kind, into, slot, key, value, kl, kh, cl, ch, ll, lh⟩ _ HS.out).mono ?_; rintro e w2 ⟨rfl, hb2⟩; rw [HOK.out]; have HE2 := Lib.hid (Has.below (Has.new w 49 #[.int .i64 3, .int .i64 (day : Nat), .string part, .string kind, .string into, .string slot, .string key, .string value, .int .i64 kl, .int .i64 kh, .int .i64 cl, .int .i64 ch, .int .i64 ll, .int .i64 lh]) hb2 (by simp)); have HB2 := Lib.hid (((Below.refl w.heap.size w).alloc (Nat.le_refl _) (.cells #[.int .i64 3, .int .i64 (day : Nat), .string part, .string kind, .string into, .string slot, .string key, .string value, .int .i64 kl, .int .i64 kh, .int .i64 cl, .int .i64 ch, .int .i64 ll, .int .i64 lh] 49)).trans (hb2.mono (by simp))); obtain ⟨c2, f2⟩ := HE2.out.facts; clear hb2)
  have HT : Hid (((((wd ++ ⟨#[32]⟩) ++ itoaB (day : Int)) ++ ⟨#[32]⟩) ++ part) = textB ⟨3, (day : Nat), part, kind, into, slot, key, value, kl, kh, cl, ch, ll, lh⟩) := ba_ext (by
    rw [text_data]
    show _ = spaced (([wordS 3, itoaB (day : Int), part] ++ [] : List ByteArray).map fun b => b.data.toList)
    rw [HWD.out]
    simp [spaced])
  refine wp_region_held_drew (S := fun W => W.cell? ⟨w.heap.size, 0, none⟩ = some (.int .i64 3) ∧ W.cell? ⟨w.heap.size, 1, none⟩ = some (.int .i64 (day : Nat)) ∧ W.cell? ⟨w.heap.size, 2, none⟩ = some (.string part)) (by kernel_rfl) (⟨(HE2.out.drew).facts.1 0, (HE2.out.drew).facts.1 1, (HE2.out.drew).facts.1 2⟩) (fun hHeld => ?_)
  refine plI [(1, false), (2, false), (6, false), (7, false), (11, false), (12, false)] ?_
  repeat ((first | ((with_reducible show Plan ((_, true) :: _) _); refine plF ?_) | (refine plR (v := ?_) ?_ ?_; rotate_left; focus (intro W hSW; (try dsimp only at hSW); go_simp; all_goals (with_reducible rfl)))); try simp only [Act.put, List.setIfInBounds_toArray, List.set_cons_zero, List.set_cons_succ])
  refine plE ?_
  refine wpAnyH_ready (rs := [0]) (by kernel_rfl) (by simp) ?_
  refine AllReadyH.cons (o := ⟨_, _, _, _, _, _⟩) rfl (fun K hK => ?_) AllReadyH.nil
  go_simp
  go_at_call 42; refine (words_any _).mono ?_; rintro e u0 ⟨rfl, hu⟩
  have HW0 := Lib.hid (show Has u0 w2.heap.size 9 (wordsL.map Value.string).toArray by rw [hu]; exact Has.new _ _ _)
  have HE0 := Lib.hid (show Has u0 w.heap.size 49 #[.int .i64 3, .int .i64 (day : Nat), .string part, .string kind, .string into, .string slot, .string key, .string value, .int .i64 kl, .int .i64 kh, .int .i64 cl, .int .i64 ch, .int .i64 ll, .int .i64 lh] by rw [hu]; exact HE2.out.drew.alloc _)
  have HB0 := Lib.hid (show Below w.heap.size w u0 by rw [hu]; exact HB2.out.drew.alloc HB2.out.size _)
  have xw := (words_at HW0.out 3 (by omega)).trans (by rw [show ((3 : Nat) : Int) = 3 from rfl, HWD.out])
  clear hu
  refine hK.out _ _ (⟨(HE0.out).facts.1 0, (HE0.out).facts.1 1, (HE0.out).facts.1 2⟩) (fun hHeld => ?_)
  clear hK K
  try simp only [Act.put, List.setIfInBounds_toArray, List.set_cons_zero, List.set_cons_succ]
  refine plI [(3, false)] ?_
  repeat ((first | ((with_reducible show Plan ((_, true) :: _) _); refine plF ?_) | (refine plR (v := ?_) ?_ ?_; rotate_left; focus (intro W hSW; (try dsimp only at hSW); go_simp; all_goals (with_reducible rfl)))); try simp only [Act.put, List.setIfInBounds_toArray, List.set_cons_zero, List.set_cons_succ])
  refine plE ?_
  refine plC (i := 8) (v := .string (itoaB (day : Nat))) 50 #[.int .i64 (day : Nat)] ?_ (fun W hSW => HDC.out W) ?_ rfl (by kernel_rfl) (by kernel_rfl) (by kernel_rfl) (fun _ _ _ h => h) (by rfl) (by assumption)
  · intro W; go_simp; all_goals (with_reducible rfl)
  try simp only [Act.put, List.setIfInBounds_toArray, List.set_cons_zero, List.set_cons_succ]
  refine wpAnyH_ready (rs := [4]) (by kernel_rfl) (by simp) ?_
  refine AllReadyH.cons (o := ⟨_, _, _, _, _, _⟩) rfl (fun K hK => ?_) AllReadyH.nil
  go_simp
  refine hK.out _ _ (⟨(HE0.out).facts.1 0, (HE0.out).facts.1 1, (HE0.out).facts.1 2⟩) (fun hHeld => ?_)
  clear hK K
  try simp only [Act.put, List.setIfInBounds_toArray, List.set_cons_zero, List.set_cons_succ]
  refine plI [(5, false), (9, false), (10, false), (13, false), (14, false)] ?_
  repeat ((first | ((with_reducible show Plan ((_, true) :: _) _); refine plF ?_) | (refine plR (v := ?_) ?_ ?_; rotate_left; focus (intro W hSW; (try dsimp only at hSW); go_simp; all_goals (with_reducible rfl)))); try simp only [Act.put, List.setIfInBounds_toArray, List.set_cons_zero, List.set_cons_succ])
  refine plE ?_
  refine wpAnyH_done (by kernel_rfl) ?_ _
  clear hHeld xw c2 f2
  obtain ⟨c0, f0⟩ := HE0.out.facts
  go_wp2_with fail
  refine bodyPost_ret (v := .tuple #[.string (textB ⟨3, (day : Nat), part, kind, into, slot, key, value, kl, kh, cl, ch, ll, lh⟩), .int .i64 0]) (by simp [results, Tryz.results28, go_sem]; exact HT.out) rfl ?_
  exact ⟨rfl, HB0.out⟩
set_option maxRecDepth 100000 in
set_option maxHeartbeats 8000000 in
theorem rtx_5 (day : Nat) (part kind into slot key value : ByteArray) (kl kh cl ch ll lh : Int) (w : World) (hs : Ev.short ⟨5, (day : Nat), part, kind, into, slot, key, value, kl, kh, cl, ch, ll, lh⟩) (hok : evOk ⟨5, (day : Nat), part, kind, into, slot, key, value, kl, kh, cl, ch, ll, lh⟩ = true) :
    Calls Tryz.prog 28 #[.agg #[.int .i64 5, .int .i64 (day : Nat), .string part, .string kind, .string into, .string slot, .string key, .string value, .int .i64 kl, .int .i64 kh, .int .i64 cl, .int .i64 ch, .int .i64 ll, .int .i64 lh]] w fun r w' => r = .returned (.tuple #[.string (textB ⟨5, (day : Nat), part, kind, into, slot, key, value, kl, kh, cl, ch, ll, lh⟩), .int .i64 0]) ∧ Below w.heap.size w w' := by
  obtain ⟨_, hday, hpn, hr⟩ := evOk_parts hok
  dsimp only at hday hpn
  have hpz := name_size hpn
  have hdz := itoa_len (u := day) (by omega)
  have hwz : (wordS 5).size ≤ 24 := word_len (by omega)
  have HS := Lib.hid hs
  have HOK := Lib.hid hok
  have HDC := Lib.hid (fun W => decimal_any day W (by omega))
  generalize hwd : wordS 5 = wd at hwz
  have HWD := Lib.hid hwd
  have hq0 : ¬ 9223372036854775807 < wd.size + 1 := by omega
  have hq1 : ¬ 9223372036854775807 < wd.size + 1 + (itoaB (day : Int)).size := by omega
  have hq2 : ¬ 9223372036854775807 < wd.size + 1 + (itoaB (day : Int)).size + 1 := by omega
  have hq3 : ¬ 9223372036854775807 < wd.size + 1 + (itoaB (day : Int)).size + 1 + part.size := by omega
  clear hs hok hday hpn hr hpz hdz hwz hwd
  go_enter Tryz.func28, Tryz.ntmps28
  go_wp2_with (go_at_call 30; refine (refEv_any ⟨5, (day : Nat), part, kind, into, slot, key, value, kl, kh, cl, ch, ll, lh⟩ _ HS.out).mono ?_; rintro e w2 ⟨rfl, hb2⟩; rw [HOK.out]; have HE2 := Lib.hid (Has.below (Has.new w 49 #[.int .i64 5, .int .i64 (day : Nat), .string part, .string kind, .string into, .string slot, .string key, .string value, .int .i64 kl, .int .i64 kh, .int .i64 cl, .int .i64 ch, .int .i64 ll, .int .i64 lh]) hb2 (by simp)); have HB2 := Lib.hid (((Below.refl w.heap.size w).alloc (Nat.le_refl _) (.cells #[.int .i64 5, .int .i64 (day : Nat), .string part, .string kind, .string into, .string slot, .string key, .string value, .int .i64 kl, .int .i64 kh, .int .i64 cl, .int .i64 ch, .int .i64 ll, .int .i64 lh] 49)).trans (hb2.mono (by simp))); obtain ⟨c2, f2⟩ := HE2.out.facts; clear hb2)
  have HT : Hid (((((wd ++ ⟨#[32]⟩) ++ itoaB (day : Int)) ++ ⟨#[32]⟩) ++ part) = textB ⟨5, (day : Nat), part, kind, into, slot, key, value, kl, kh, cl, ch, ll, lh⟩) := ba_ext (by
    rw [text_data]
    show _ = spaced (([wordS 5, itoaB (day : Int), part] ++ [] : List ByteArray).map fun b => b.data.toList)
    rw [HWD.out]
    simp [spaced])
  refine wp_region_held_drew (S := fun W => W.cell? ⟨w.heap.size, 0, none⟩ = some (.int .i64 5) ∧ W.cell? ⟨w.heap.size, 1, none⟩ = some (.int .i64 (day : Nat)) ∧ W.cell? ⟨w.heap.size, 2, none⟩ = some (.string part)) (by kernel_rfl) (⟨(HE2.out.drew).facts.1 0, (HE2.out.drew).facts.1 1, (HE2.out.drew).facts.1 2⟩) (fun hHeld => ?_)
  refine plI [(1, false), (2, false), (6, false), (7, false), (11, false), (12, false)] ?_
  repeat ((first | ((with_reducible show Plan ((_, true) :: _) _); refine plF ?_) | (refine plR (v := ?_) ?_ ?_; rotate_left; focus (intro W hSW; (try dsimp only at hSW); go_simp; all_goals (with_reducible rfl)))); try simp only [Act.put, List.setIfInBounds_toArray, List.set_cons_zero, List.set_cons_succ])
  refine plE ?_
  refine wpAnyH_ready (rs := [0]) (by kernel_rfl) (by simp) ?_
  refine AllReadyH.cons (o := ⟨_, _, _, _, _, _⟩) rfl (fun K hK => ?_) AllReadyH.nil
  go_simp
  go_at_call 42; refine (words_any _).mono ?_; rintro e u0 ⟨rfl, hu⟩
  have HW0 := Lib.hid (show Has u0 w2.heap.size 9 (wordsL.map Value.string).toArray by rw [hu]; exact Has.new _ _ _)
  have HE0 := Lib.hid (show Has u0 w.heap.size 49 #[.int .i64 5, .int .i64 (day : Nat), .string part, .string kind, .string into, .string slot, .string key, .string value, .int .i64 kl, .int .i64 kh, .int .i64 cl, .int .i64 ch, .int .i64 ll, .int .i64 lh] by rw [hu]; exact HE2.out.drew.alloc _)
  have HB0 := Lib.hid (show Below w.heap.size w u0 by rw [hu]; exact HB2.out.drew.alloc HB2.out.size _)
  have xw := (words_at HW0.out 5 (by omega)).trans (by rw [show ((5 : Nat) : Int) = 5 from rfl, HWD.out])
  clear hu
  refine hK.out _ _ (⟨(HE0.out).facts.1 0, (HE0.out).facts.1 1, (HE0.out).facts.1 2⟩) (fun hHeld => ?_)
  clear hK K
  try simp only [Act.put, List.setIfInBounds_toArray, List.set_cons_zero, List.set_cons_succ]
  refine plI [(3, false)] ?_
  repeat ((first | ((with_reducible show Plan ((_, true) :: _) _); refine plF ?_) | (refine plR (v := ?_) ?_ ?_; rotate_left; focus (intro W hSW; (try dsimp only at hSW); go_simp; all_goals (with_reducible rfl)))); try simp only [Act.put, List.setIfInBounds_toArray, List.set_cons_zero, List.set_cons_succ])
  refine plE ?_
  refine plC (i := 8) (v := .string (itoaB (day : Nat))) 50 #[.int .i64 (day : Nat)] ?_ (fun W hSW => HDC.out W) ?_ rfl (by kernel_rfl) (by kernel_rfl) (by kernel_rfl) (fun _ _ _ h => h) (by rfl) (by assumption)
  · intro W; go_simp; all_goals (with_reducible rfl)
  try simp only [Act.put, List.setIfInBounds_toArray, List.set_cons_zero, List.set_cons_succ]
  refine wpAnyH_ready (rs := [4]) (by kernel_rfl) (by simp) ?_
  refine AllReadyH.cons (o := ⟨_, _, _, _, _, _⟩) rfl (fun K hK => ?_) AllReadyH.nil
  go_simp
  refine hK.out _ _ (⟨(HE0.out).facts.1 0, (HE0.out).facts.1 1, (HE0.out).facts.1 2⟩) (fun hHeld => ?_)
  clear hK K
  try simp only [Act.put, List.setIfInBounds_toArray, List.set_cons_zero, List.set_cons_succ]
  refine plI [(5, false), (9, false), (10, false), (13, false), (14, false)] ?_
  repeat ((first | ((with_reducible show Plan ((_, true) :: _) _); refine plF ?_) | (refine plR (v := ?_) ?_ ?_; rotate_left; focus (intro W hSW; (try dsimp only at hSW); go_simp; all_goals (with_reducible rfl)))); try simp only [Act.put, List.setIfInBounds_toArray, List.set_cons_zero, List.set_cons_succ])
  refine plE ?_
  refine wpAnyH_done (by kernel_rfl) ?_ _
  clear hHeld xw c2 f2
  obtain ⟨c0, f0⟩ := HE0.out.facts
  go_wp2_with fail
  refine bodyPost_ret (v := .tuple #[.string (textB ⟨5, (day : Nat), part, kind, into, slot, key, value, kl, kh, cl, ch, ll, lh⟩), .int .i64 0]) (by simp [results, Tryz.results28, go_sem]; exact HT.out) rfl ?_
  exact ⟨rfl, HB0.out⟩
set_option maxRecDepth 100000 in
set_option maxHeartbeats 8000000 in
theorem rtx_7 (day : Nat) (part kind into slot key value : ByteArray) (kl kh cl ch ll lh : Int) (w : World) (hs : Ev.short ⟨7, (day : Nat), part, kind, into, slot, key, value, kl, kh, cl, ch, ll, lh⟩) (hok : evOk ⟨7, (day : Nat), part, kind, into, slot, key, value, kl, kh, cl, ch, ll, lh⟩ = true) :
    Calls Tryz.prog 28 #[.agg #[.int .i64 7, .int .i64 (day : Nat), .string part, .string kind, .string into, .string slot, .string key, .string value, .int .i64 kl, .int .i64 kh, .int .i64 cl, .int .i64 ch, .int .i64 ll, .int .i64 lh]] w fun r w' => r = .returned (.tuple #[.string (textB ⟨7, (day : Nat), part, kind, into, slot, key, value, kl, kh, cl, ch, ll, lh⟩), .int .i64 0]) ∧ Below w.heap.size w w' := by
  obtain ⟨_, hday, hpn, hr⟩ := evOk_parts hok
  dsimp only at hday hpn
  have hpz := name_size hpn
  have hdz := itoa_len (u := day) (by omega)
  have hwz : (wordS 7).size ≤ 24 := word_len (by omega)
  have HS := Lib.hid hs
  have HOK := Lib.hid hok
  have HDC := Lib.hid (fun W => decimal_any day W (by omega))
  generalize hwd : wordS 7 = wd at hwz
  have HWD := Lib.hid hwd
  have hq0 : ¬ 9223372036854775807 < wd.size + 1 := by omega
  have hq1 : ¬ 9223372036854775807 < wd.size + 1 + (itoaB (day : Int)).size := by omega
  have hq2 : ¬ 9223372036854775807 < wd.size + 1 + (itoaB (day : Int)).size + 1 := by omega
  have hq3 : ¬ 9223372036854775807 < wd.size + 1 + (itoaB (day : Int)).size + 1 + part.size := by omega
  clear hs hok hday hpn hr hpz hdz hwz hwd
  go_enter Tryz.func28, Tryz.ntmps28
  go_wp2_with (go_at_call 30; refine (refEv_any ⟨7, (day : Nat), part, kind, into, slot, key, value, kl, kh, cl, ch, ll, lh⟩ _ HS.out).mono ?_; rintro e w2 ⟨rfl, hb2⟩; rw [HOK.out]; have HE2 := Lib.hid (Has.below (Has.new w 49 #[.int .i64 7, .int .i64 (day : Nat), .string part, .string kind, .string into, .string slot, .string key, .string value, .int .i64 kl, .int .i64 kh, .int .i64 cl, .int .i64 ch, .int .i64 ll, .int .i64 lh]) hb2 (by simp)); have HB2 := Lib.hid (((Below.refl w.heap.size w).alloc (Nat.le_refl _) (.cells #[.int .i64 7, .int .i64 (day : Nat), .string part, .string kind, .string into, .string slot, .string key, .string value, .int .i64 kl, .int .i64 kh, .int .i64 cl, .int .i64 ch, .int .i64 ll, .int .i64 lh] 49)).trans (hb2.mono (by simp))); obtain ⟨c2, f2⟩ := HE2.out.facts; clear hb2)
  have HT : Hid (((((wd ++ ⟨#[32]⟩) ++ itoaB (day : Int)) ++ ⟨#[32]⟩) ++ part) = textB ⟨7, (day : Nat), part, kind, into, slot, key, value, kl, kh, cl, ch, ll, lh⟩) := ba_ext (by
    rw [text_data]
    show _ = spaced (([wordS 7, itoaB (day : Int), part] ++ [] : List ByteArray).map fun b => b.data.toList)
    rw [HWD.out]
    simp [spaced])
  refine wp_region_held_drew (S := fun W => W.cell? ⟨w.heap.size, 0, none⟩ = some (.int .i64 7) ∧ W.cell? ⟨w.heap.size, 1, none⟩ = some (.int .i64 (day : Nat)) ∧ W.cell? ⟨w.heap.size, 2, none⟩ = some (.string part)) (by kernel_rfl) (⟨(HE2.out.drew).facts.1 0, (HE2.out.drew).facts.1 1, (HE2.out.drew).facts.1 2⟩) (fun hHeld => ?_)
  refine plI [(1, false), (2, false), (6, false), (7, false), (11, false), (12, false)] ?_
  repeat ((first | ((with_reducible show Plan ((_, true) :: _) _); refine plF ?_) | (refine plR (v := ?_) ?_ ?_; rotate_left; focus (intro W hSW; (try dsimp only at hSW); go_simp; all_goals (with_reducible rfl)))); try simp only [Act.put, List.setIfInBounds_toArray, List.set_cons_zero, List.set_cons_succ])
  refine plE ?_
  refine wpAnyH_ready (rs := [0]) (by kernel_rfl) (by simp) ?_
  refine AllReadyH.cons (o := ⟨_, _, _, _, _, _⟩) rfl (fun K hK => ?_) AllReadyH.nil
  go_simp
  go_at_call 42; refine (words_any _).mono ?_; rintro e u0 ⟨rfl, hu⟩
  have HW0 := Lib.hid (show Has u0 w2.heap.size 9 (wordsL.map Value.string).toArray by rw [hu]; exact Has.new _ _ _)
  have HE0 := Lib.hid (show Has u0 w.heap.size 49 #[.int .i64 7, .int .i64 (day : Nat), .string part, .string kind, .string into, .string slot, .string key, .string value, .int .i64 kl, .int .i64 kh, .int .i64 cl, .int .i64 ch, .int .i64 ll, .int .i64 lh] by rw [hu]; exact HE2.out.drew.alloc _)
  have HB0 := Lib.hid (show Below w.heap.size w u0 by rw [hu]; exact HB2.out.drew.alloc HB2.out.size _)
  have xw := (words_at HW0.out 7 (by omega)).trans (by rw [show ((7 : Nat) : Int) = 7 from rfl, HWD.out])
  clear hu
  refine hK.out _ _ (⟨(HE0.out).facts.1 0, (HE0.out).facts.1 1, (HE0.out).facts.1 2⟩) (fun hHeld => ?_)
  clear hK K
  try simp only [Act.put, List.setIfInBounds_toArray, List.set_cons_zero, List.set_cons_succ]
  refine plI [(3, false)] ?_
  repeat ((first | ((with_reducible show Plan ((_, true) :: _) _); refine plF ?_) | (refine plR (v := ?_) ?_ ?_; rotate_left; focus (intro W hSW; (try dsimp only at hSW); go_simp; all_goals (with_reducible rfl)))); try simp only [Act.put, List.setIfInBounds_toArray, List.set_cons_zero, List.set_cons_succ])
  refine plE ?_
  refine plC (i := 8) (v := .string (itoaB (day : Nat))) 50 #[.int .i64 (day : Nat)] ?_ (fun W hSW => HDC.out W) ?_ rfl (by kernel_rfl) (by kernel_rfl) (by kernel_rfl) (fun _ _ _ h => h) (by rfl) (by assumption)
  · intro W; go_simp; all_goals (with_reducible rfl)
  try simp only [Act.put, List.setIfInBounds_toArray, List.set_cons_zero, List.set_cons_succ]
  refine wpAnyH_ready (rs := [4]) (by kernel_rfl) (by simp) ?_
  refine AllReadyH.cons (o := ⟨_, _, _, _, _, _⟩) rfl (fun K hK => ?_) AllReadyH.nil
  go_simp
  refine hK.out _ _ (⟨(HE0.out).facts.1 0, (HE0.out).facts.1 1, (HE0.out).facts.1 2⟩) (fun hHeld => ?_)
  clear hK K
  try simp only [Act.put, List.setIfInBounds_toArray, List.set_cons_zero, List.set_cons_succ]
  refine plI [(5, false), (9, false), (10, false), (13, false), (14, false)] ?_
  repeat ((first | ((with_reducible show Plan ((_, true) :: _) _); refine plF ?_) | (refine plR (v := ?_) ?_ ?_; rotate_left; focus (intro W hSW; (try dsimp only at hSW); go_simp; all_goals (with_reducible rfl)))); try simp only [Act.put, List.setIfInBounds_toArray, List.set_cons_zero, List.set_cons_succ])
  refine plE ?_
  refine wpAnyH_done (by kernel_rfl) ?_ _
  clear hHeld xw c2 f2
  obtain ⟨c0, f0⟩ := HE0.out.facts
  go_wp2_with fail
  refine bodyPost_ret (v := .tuple #[.string (textB ⟨7, (day : Nat), part, kind, into, slot, key, value, kl, kh, cl, ch, ll, lh⟩), .int .i64 0]) (by simp [results, Tryz.results28, go_sem]; exact HT.out) rfl ?_
  exact ⟨rfl, HB0.out⟩
set_option maxRecDepth 100000 in
set_option maxHeartbeats 8000000 in
theorem rtx_1 (day : Nat) (part kind into slot key value : ByteArray) (kl kh cl ch ll lh : Int) (w : World) (hs : Ev.short ⟨1, (day : Nat), part, kind, into, slot, key, value, kl, kh, cl, ch, ll, lh⟩) (hok : evOk ⟨1, (day : Nat), part, kind, into, slot, key, value, kl, kh, cl, ch, ll, lh⟩ = true) :
    Calls Tryz.prog 28 #[.agg #[.int .i64 1, .int .i64 (day : Nat), .string part, .string kind, .string into, .string slot, .string key, .string value, .int .i64 kl, .int .i64 kh, .int .i64 cl, .int .i64 ch, .int .i64 ll, .int .i64 lh]] w fun r w' => r = .returned (.tuple #[.string (textB ⟨1, (day : Nat), part, kind, into, slot, key, value, kl, kh, cl, ch, ll, lh⟩), .int .i64 0]) ∧ Below w.heap.size w w' := by
  obtain ⟨_, hday, hpn, hr⟩ := evOk_parts hok
  dsimp only at hday hpn
  have hpz := name_size hpn
  have hdz := itoa_len (u := day) (by omega)
  have hwz : (wordS 1).size ≤ 24 := word_len (by omega)
  have HS := Lib.hid hs
  have HOK := Lib.hid hok
  have HDC := Lib.hid (fun W => decimal_any day W (by omega))
  have hk1 : nameB kind = true := by
    have h := hr
    unfold evRest at h
    rw [if_pos rfl] at h
    simp only [Bool.and_eq_true, List.all_cons, List.all_nil, Bool.and_true] at h
    exact h.2
  have hkz := name_size hk1
  generalize hwd : wordS 1 = wd at hwz
  have HWD := Lib.hid hwd
  have hq0 : ¬ 9223372036854775807 < wd.size + 1 := by omega
  have hq1 : ¬ 9223372036854775807 < wd.size + 1 + (itoaB (day : Int)).size := by omega
  have hq2 : ¬ 9223372036854775807 < wd.size + 1 + (itoaB (day : Int)).size + 1 := by omega
  have hq3 : ¬ 9223372036854775807 < wd.size + 1 + (itoaB (day : Int)).size + 1 + part.size := by omega
  have hq4 : ¬ 9223372036854775807 < wd.size + 1 + (itoaB (day : Int)).size + 1 + part.size + 1 := by omega
  have hq5 : ¬ 9223372036854775807 < wd.size + 1 + (itoaB (day : Int)).size + 1 + part.size + 1 + kind.size := by omega
  clear hk1 hkz hs hok hday hpn hr hpz hdz hwz hwd
  go_enter Tryz.func28, Tryz.ntmps28
  go_wp2_with (go_at_call 30; refine (refEv_any ⟨1, (day : Nat), part, kind, into, slot, key, value, kl, kh, cl, ch, ll, lh⟩ _ HS.out).mono ?_; rintro e w2 ⟨rfl, hb2⟩; rw [HOK.out]; have HE2 := Lib.hid (Has.below (Has.new w 49 #[.int .i64 1, .int .i64 (day : Nat), .string part, .string kind, .string into, .string slot, .string key, .string value, .int .i64 kl, .int .i64 kh, .int .i64 cl, .int .i64 ch, .int .i64 ll, .int .i64 lh]) hb2 (by simp)); have HB2 := Lib.hid (((Below.refl w.heap.size w).alloc (Nat.le_refl _) (.cells #[.int .i64 1, .int .i64 (day : Nat), .string part, .string kind, .string into, .string slot, .string key, .string value, .int .i64 kl, .int .i64 kh, .int .i64 cl, .int .i64 ch, .int .i64 ll, .int .i64 lh] 49)).trans (hb2.mono (by simp))); obtain ⟨c2, f2⟩ := HE2.out.facts; clear hb2)
  have HT : Hid (((((((wd ++ ⟨#[32]⟩) ++ itoaB (day : Int)) ++ ⟨#[32]⟩) ++ part) ++ ⟨#[32]⟩) ++ kind) = textB ⟨1, (day : Nat), part, kind, into, slot, key, value, kl, kh, cl, ch, ll, lh⟩) := ba_ext (by
    rw [text_data]
    show _ = spaced (([wordS 1, itoaB (day : Int), part] ++ [kind] : List ByteArray).map fun b => b.data.toList)
    rw [HWD.out]
    simp [spaced])
  refine wp_region_held_drew (S := fun W => W.cell? ⟨w.heap.size, 0, none⟩ = some (.int .i64 1) ∧ W.cell? ⟨w.heap.size, 1, none⟩ = some (.int .i64 (day : Nat)) ∧ W.cell? ⟨w.heap.size, 2, none⟩ = some (.string part)) (by kernel_rfl) (⟨(HE2.out.drew).facts.1 0, (HE2.out.drew).facts.1 1, (HE2.out.drew).facts.1 2⟩) (fun hHeld => ?_)
  refine plI [(1, false), (2, false), (6, false), (7, false), (11, false), (12, false)] ?_
  repeat ((first | ((with_reducible show Plan ((_, true) :: _) _); refine plF ?_) | (refine plR (v := ?_) ?_ ?_; rotate_left; focus (intro W hSW; (try dsimp only at hSW); go_simp; all_goals (with_reducible rfl)))); try simp only [Act.put, List.setIfInBounds_toArray, List.set_cons_zero, List.set_cons_succ])
  refine plE ?_
  refine wpAnyH_ready (rs := [0]) (by kernel_rfl) (by simp) ?_
  refine AllReadyH.cons (o := ⟨_, _, _, _, _, _⟩) rfl (fun K hK => ?_) AllReadyH.nil
  go_simp
  go_at_call 42; refine (words_any _).mono ?_; rintro e u0 ⟨rfl, hu⟩
  have HW0 := Lib.hid (show Has u0 w2.heap.size 9 (wordsL.map Value.string).toArray by rw [hu]; exact Has.new _ _ _)
  have HE0 := Lib.hid (show Has u0 w.heap.size 49 #[.int .i64 1, .int .i64 (day : Nat), .string part, .string kind, .string into, .string slot, .string key, .string value, .int .i64 kl, .int .i64 kh, .int .i64 cl, .int .i64 ch, .int .i64 ll, .int .i64 lh] by rw [hu]; exact HE2.out.drew.alloc _)
  have HB0 := Lib.hid (show Below w.heap.size w u0 by rw [hu]; exact HB2.out.drew.alloc HB2.out.size _)
  have xw := (words_at HW0.out 1 (by omega)).trans (by rw [show ((1 : Nat) : Int) = 1 from rfl, HWD.out])
  clear hu
  refine hK.out _ _ (⟨(HE0.out).facts.1 0, (HE0.out).facts.1 1, (HE0.out).facts.1 2⟩) (fun hHeld => ?_)
  clear hK K
  try simp only [Act.put, List.setIfInBounds_toArray, List.set_cons_zero, List.set_cons_succ]
  refine plI [(3, false)] ?_
  repeat ((first | ((with_reducible show Plan ((_, true) :: _) _); refine plF ?_) | (refine plR (v := ?_) ?_ ?_; rotate_left; focus (intro W hSW; (try dsimp only at hSW); go_simp; all_goals (with_reducible rfl)))); try simp only [Act.put, List.setIfInBounds_toArray, List.set_cons_zero, List.set_cons_succ])
  refine plE ?_
  refine plC (i := 8) (v := .string (itoaB (day : Nat))) 50 #[.int .i64 (day : Nat)] ?_ (fun W hSW => HDC.out W) ?_ rfl (by kernel_rfl) (by kernel_rfl) (by kernel_rfl) (fun _ _ _ h => h) (by rfl) (by assumption)
  · intro W; go_simp; all_goals (with_reducible rfl)
  try simp only [Act.put, List.setIfInBounds_toArray, List.set_cons_zero, List.set_cons_succ]
  refine wpAnyH_ready (rs := [4]) (by kernel_rfl) (by simp) ?_
  refine AllReadyH.cons (o := ⟨_, _, _, _, _, _⟩) rfl (fun K hK => ?_) AllReadyH.nil
  go_simp
  refine hK.out _ _ (⟨(HE0.out).facts.1 0, (HE0.out).facts.1 1, (HE0.out).facts.1 2⟩) (fun hHeld => ?_)
  clear hK K
  try simp only [Act.put, List.setIfInBounds_toArray, List.set_cons_zero, List.set_cons_succ]
  refine plI [(5, false), (9, false), (10, false), (13, false), (14, false)] ?_
  repeat ((first | ((with_reducible show Plan ((_, true) :: _) _); refine plF ?_) | (refine plR (v := ?_) ?_ ?_; rotate_left; focus (intro W hSW; (try dsimp only at hSW); go_simp; all_goals (with_reducible rfl)))); try simp only [Act.put, List.setIfInBounds_toArray, List.set_cons_zero, List.set_cons_succ])
  refine plE ?_
  refine wpAnyH_done (by kernel_rfl) ?_ _
  clear hHeld xw c2 f2
  obtain ⟨c0, f0⟩ := HE0.out.facts
  go_wp2_with fail
  refine bodyPost_ret (v := .tuple #[.string (textB ⟨1, (day : Nat), part, kind, into, slot, key, value, kl, kh, cl, ch, ll, lh⟩), .int .i64 0]) (by simp [results, Tryz.results28, go_sem]; exact HT.out) rfl ?_
  exact ⟨rfl, HB0.out⟩
set_option maxRecDepth 100000 in
set_option maxHeartbeats 8000000 in
theorem rtx_2 (day : Nat) (part kind into slot key value : ByteArray) (kl kh cl ch ll lh : Int) (w : World) (hs : Ev.short ⟨2, (day : Nat), part, kind, into, slot, key, value, kl, kh, cl, ch, ll, lh⟩) (hok : evOk ⟨2, (day : Nat), part, kind, into, slot, key, value, kl, kh, cl, ch, ll, lh⟩ = true) :
    Calls Tryz.prog 28 #[.agg #[.int .i64 2, .int .i64 (day : Nat), .string part, .string kind, .string into, .string slot, .string key, .string value, .int .i64 kl, .int .i64 kh, .int .i64 cl, .int .i64 ch, .int .i64 ll, .int .i64 lh]] w fun r w' => r = .returned (.tuple #[.string (textB ⟨2, (day : Nat), part, kind, into, slot, key, value, kl, kh, cl, ch, ll, lh⟩), .int .i64 0]) ∧ Below w.heap.size w w' := by
  obtain ⟨_, hday, hpn, hr⟩ := evOk_parts hok
  dsimp only at hday hpn
  have hpz := name_size hpn
  have hdz := itoa_len (u := day) (by omega)
  have hwz : (wordS 2).size ≤ 24 := word_len (by omega)
  have HS := Lib.hid hs
  have HOK := Lib.hid hok
  have HDC := Lib.hid (fun W => decimal_any day W (by omega))
  have hk1 : nameB into = true ∧ nameB slot = true := by
    have h := hr
    unfold evRest at h
    rw [if_neg (by show ¬ (2 : Int) = 1; decide), if_pos rfl] at h
    simp only [Bool.and_eq_true, List.all_cons, List.all_nil, Bool.and_true] at h
    exact h.2.2
  have hkz := name_size hk1.1
  have hkz2 := name_size hk1.2
  generalize hwd : wordS 2 = wd at hwz
  have HWD := Lib.hid hwd
  have hq0 : ¬ 9223372036854775807 < wd.size + 1 := by omega
  have hq1 : ¬ 9223372036854775807 < wd.size + 1 + (itoaB (day : Int)).size := by omega
  have hq2 : ¬ 9223372036854775807 < wd.size + 1 + (itoaB (day : Int)).size + 1 := by omega
  have hq3 : ¬ 9223372036854775807 < wd.size + 1 + (itoaB (day : Int)).size + 1 + part.size := by omega
  have hq4 : ¬ 9223372036854775807 < wd.size + 1 + (itoaB (day : Int)).size + 1 + part.size + 1 := by omega
  have hq5 : ¬ 9223372036854775807 < wd.size + 1 + (itoaB (day : Int)).size + 1 + part.size + 1 + into.size := by omega
  have hq6 : ¬ 9223372036854775807 < wd.size + 1 + (itoaB (day : Int)).size + 1 + part.size + 1 + into.size + 1 := by omega
  have hq7 : ¬ 9223372036854775807 < wd.size + 1 + (itoaB (day : Int)).size + 1 + part.size + 1 + into.size + 1 + slot.size := by omega
  clear hk1 hkz hkz2 hs hok hday hpn hr hpz hdz hwz hwd
  go_enter Tryz.func28, Tryz.ntmps28
  go_wp2_with (go_at_call 30; refine (refEv_any ⟨2, (day : Nat), part, kind, into, slot, key, value, kl, kh, cl, ch, ll, lh⟩ _ HS.out).mono ?_; rintro e w2 ⟨rfl, hb2⟩; rw [HOK.out]; have HE2 := Lib.hid (Has.below (Has.new w 49 #[.int .i64 2, .int .i64 (day : Nat), .string part, .string kind, .string into, .string slot, .string key, .string value, .int .i64 kl, .int .i64 kh, .int .i64 cl, .int .i64 ch, .int .i64 ll, .int .i64 lh]) hb2 (by simp)); have HB2 := Lib.hid (((Below.refl w.heap.size w).alloc (Nat.le_refl _) (.cells #[.int .i64 2, .int .i64 (day : Nat), .string part, .string kind, .string into, .string slot, .string key, .string value, .int .i64 kl, .int .i64 kh, .int .i64 cl, .int .i64 ch, .int .i64 ll, .int .i64 lh] 49)).trans (hb2.mono (by simp))); obtain ⟨c2, f2⟩ := HE2.out.facts; clear hb2)
  have HT : Hid (((((((((wd ++ ⟨#[32]⟩) ++ itoaB (day : Int)) ++ ⟨#[32]⟩) ++ part) ++ ⟨#[32]⟩) ++ into) ++ ⟨#[32]⟩) ++ slot) = textB ⟨2, (day : Nat), part, kind, into, slot, key, value, kl, kh, cl, ch, ll, lh⟩) := ba_ext (by
    rw [text_data]
    show _ = spaced (([wordS 2, itoaB (day : Int), part] ++ [into, slot] : List ByteArray).map fun b => b.data.toList)
    rw [HWD.out]
    simp [spaced])
  refine wp_region_held_drew (S := fun W => W.cell? ⟨w.heap.size, 0, none⟩ = some (.int .i64 2) ∧ W.cell? ⟨w.heap.size, 1, none⟩ = some (.int .i64 (day : Nat)) ∧ W.cell? ⟨w.heap.size, 2, none⟩ = some (.string part)) (by kernel_rfl) (⟨(HE2.out.drew).facts.1 0, (HE2.out.drew).facts.1 1, (HE2.out.drew).facts.1 2⟩) (fun hHeld => ?_)
  refine plI [(1, false), (2, false), (6, false), (7, false), (11, false), (12, false)] ?_
  repeat ((first | ((with_reducible show Plan ((_, true) :: _) _); refine plF ?_) | (refine plR (v := ?_) ?_ ?_; rotate_left; focus (intro W hSW; (try dsimp only at hSW); go_simp; all_goals (with_reducible rfl)))); try simp only [Act.put, List.setIfInBounds_toArray, List.set_cons_zero, List.set_cons_succ])
  refine plE ?_
  refine wpAnyH_ready (rs := [0]) (by kernel_rfl) (by simp) ?_
  refine AllReadyH.cons (o := ⟨_, _, _, _, _, _⟩) rfl (fun K hK => ?_) AllReadyH.nil
  go_simp
  go_at_call 42; refine (words_any _).mono ?_; rintro e u0 ⟨rfl, hu⟩
  have HW0 := Lib.hid (show Has u0 w2.heap.size 9 (wordsL.map Value.string).toArray by rw [hu]; exact Has.new _ _ _)
  have HE0 := Lib.hid (show Has u0 w.heap.size 49 #[.int .i64 2, .int .i64 (day : Nat), .string part, .string kind, .string into, .string slot, .string key, .string value, .int .i64 kl, .int .i64 kh, .int .i64 cl, .int .i64 ch, .int .i64 ll, .int .i64 lh] by rw [hu]; exact HE2.out.drew.alloc _)
  have HB0 := Lib.hid (show Below w.heap.size w u0 by rw [hu]; exact HB2.out.drew.alloc HB2.out.size _)
  have xw := (words_at HW0.out 2 (by omega)).trans (by rw [show ((2 : Nat) : Int) = 2 from rfl, HWD.out])
  clear hu
  refine hK.out _ _ (⟨(HE0.out).facts.1 0, (HE0.out).facts.1 1, (HE0.out).facts.1 2⟩) (fun hHeld => ?_)
  clear hK K
  try simp only [Act.put, List.setIfInBounds_toArray, List.set_cons_zero, List.set_cons_succ]
  refine plI [(3, false)] ?_
  repeat ((first | ((with_reducible show Plan ((_, true) :: _) _); refine plF ?_) | (refine plR (v := ?_) ?_ ?_; rotate_left; focus (intro W hSW; (try dsimp only at hSW); go_simp; all_goals (with_reducible rfl)))); try simp only [Act.put, List.setIfInBounds_toArray, List.set_cons_zero, List.set_cons_succ])
  refine plE ?_
  refine plC (i := 8) (v := .string (itoaB (day : Nat))) 50 #[.int .i64 (day : Nat)] ?_ (fun W hSW => HDC.out W) ?_ rfl (by kernel_rfl) (by kernel_rfl) (by kernel_rfl) (fun _ _ _ h => h) (by rfl) (by assumption)
  · intro W; go_simp; all_goals (with_reducible rfl)
  try simp only [Act.put, List.setIfInBounds_toArray, List.set_cons_zero, List.set_cons_succ]
  refine wpAnyH_ready (rs := [4]) (by kernel_rfl) (by simp) ?_
  refine AllReadyH.cons (o := ⟨_, _, _, _, _, _⟩) rfl (fun K hK => ?_) AllReadyH.nil
  go_simp
  refine hK.out _ _ (⟨(HE0.out).facts.1 0, (HE0.out).facts.1 1, (HE0.out).facts.1 2⟩) (fun hHeld => ?_)
  clear hK K
  try simp only [Act.put, List.setIfInBounds_toArray, List.set_cons_zero, List.set_cons_succ]
  refine plI [(5, false), (9, false), (10, false), (13, false), (14, false)] ?_
  repeat ((first | ((with_reducible show Plan ((_, true) :: _) _); refine plF ?_) | (refine plR (v := ?_) ?_ ?_; rotate_left; focus (intro W hSW; (try dsimp only at hSW); go_simp; all_goals (with_reducible rfl)))); try simp only [Act.put, List.setIfInBounds_toArray, List.set_cons_zero, List.set_cons_succ])
  refine plE ?_
  refine wpAnyH_done (by kernel_rfl) ?_ _
  clear hHeld xw c2 f2
  obtain ⟨c0, f0⟩ := HE0.out.facts
  go_wp2_with fail
  refine bodyPost_ret (v := .tuple #[.string (textB ⟨2, (day : Nat), part, kind, into, slot, key, value, kl, kh, cl, ch, ll, lh⟩), .int .i64 0]) (by simp [results, Tryz.results28, go_sem]; exact HT.out) rfl ?_
  exact ⟨rfl, HB0.out⟩
set_option maxRecDepth 100000 in
set_option maxHeartbeats 8000000 in
theorem rtx_6 (day : Nat) (part kind into slot key value : ByteArray) (kl kh cl ch ll lh : Int) (w : World) (hs : Ev.short ⟨6, (day : Nat), part, kind, into, slot, key, value, kl, kh, cl, ch, ll, lh⟩) (hok : evOk ⟨6, (day : Nat), part, kind, into, slot, key, value, kl, kh, cl, ch, ll, lh⟩ = true) :
    Calls Tryz.prog 28 #[.agg #[.int .i64 6, .int .i64 (day : Nat), .string part, .string kind, .string into, .string slot, .string key, .string value, .int .i64 kl, .int .i64 kh, .int .i64 cl, .int .i64 ch, .int .i64 ll, .int .i64 lh]] w fun r w' => r = .returned (.tuple #[.string (textB ⟨6, (day : Nat), part, kind, into, slot, key, value, kl, kh, cl, ch, ll, lh⟩), .int .i64 0]) ∧ Below w.heap.size w w' := by
  obtain ⟨_, hday, hpn, hr⟩ := evOk_parts hok
  dsimp only at hday hpn
  have hpz := name_size hpn
  have hdz := itoa_len (u := day) (by omega)
  have hwz : (wordS 6).size ≤ 24 := word_len (by omega)
  have HS := Lib.hid hs
  have HOK := Lib.hid hok
  have HDC := Lib.hid (fun W => decimal_any day W (by omega))
  have hk1 : nameB key = true ∧ value.size ≤ 200 := by
    have h := hr
    unfold evRest at h
    rw [if_neg (by show ¬ (6 : Int) = 1; decide), if_neg (by show ¬ (6 : Int) = 2; decide), if_pos rfl] at h
    simp only [Bool.and_eq_true, List.all_cons, List.all_nil, Bool.and_true, decide_eq_true_eq] at h
    exact ⟨h.2.2, by have := h.1.2; omega⟩
  have hkz := name_size hk1.1
  have hkz2 := hk1.2
  have hqz := quote_size value
  have HQU := Lib.hid (fun W => refQuote_any value W (by omega))
  generalize hwd : wordS 6 = wd at hwz
  have HWD := Lib.hid hwd
  have hq0 : ¬ 9223372036854775807 < wd.size + 1 := by omega
  have hq1 : ¬ 9223372036854775807 < wd.size + 1 + (itoaB (day : Int)).size := by omega
  have hq2 : ¬ 9223372036854775807 < wd.size + 1 + (itoaB (day : Int)).size + 1 := by omega
  have hq3 : ¬ 9223372036854775807 < wd.size + 1 + (itoaB (day : Int)).size + 1 + part.size := by omega
  have hq4 : ¬ 9223372036854775807 < wd.size + 1 + (itoaB (day : Int)).size + 1 + part.size + 1 := by omega
  have hq5 : ¬ 9223372036854775807 < wd.size + 1 + (itoaB (day : Int)).size + 1 + part.size + 1 + key.size := by omega
  have hq6 : ¬ 9223372036854775807 < wd.size + 1 + (itoaB (day : Int)).size + 1 + part.size + 1 + key.size + 1 := by omega
  have hq7 : ¬ 9223372036854775807 < wd.size + 1 + (itoaB (day : Int)).size + 1 + part.size + 1 + key.size + 1 + (quoteB value).size := by omega
  clear hk1 hkz hkz2 hqz hs hok hday hpn hr hpz hdz hwz hwd
  go_enter Tryz.func28, Tryz.ntmps28
  go_wp2_with (go_at_call 30; refine (refEv_any ⟨6, (day : Nat), part, kind, into, slot, key, value, kl, kh, cl, ch, ll, lh⟩ _ HS.out).mono ?_; rintro e w2 ⟨rfl, hb2⟩; rw [HOK.out]; have HE2 := Lib.hid (Has.below (Has.new w 49 #[.int .i64 6, .int .i64 (day : Nat), .string part, .string kind, .string into, .string slot, .string key, .string value, .int .i64 kl, .int .i64 kh, .int .i64 cl, .int .i64 ch, .int .i64 ll, .int .i64 lh]) hb2 (by simp)); have HB2 := Lib.hid (((Below.refl w.heap.size w).alloc (Nat.le_refl _) (.cells #[.int .i64 6, .int .i64 (day : Nat), .string part, .string kind, .string into, .string slot, .string key, .string value, .int .i64 kl, .int .i64 kh, .int .i64 cl, .int .i64 ch, .int .i64 ll, .int .i64 lh] 49)).trans (hb2.mono (by simp))); obtain ⟨c2, f2⟩ := HE2.out.facts; clear hb2)
  have HT : Hid (((((((((wd ++ ⟨#[32]⟩) ++ itoaB (day : Int)) ++ ⟨#[32]⟩) ++ part) ++ ⟨#[32]⟩) ++ key) ++ ⟨#[32]⟩) ++ quoteB value) = textB ⟨6, (day : Nat), part, kind, into, slot, key, value, kl, kh, cl, ch, ll, lh⟩) := ba_ext (by
    rw [text_data]
    show _ = spaced (([wordS 6, itoaB (day : Int), part] ++ [key, quoteB value] : List ByteArray).map fun b => b.data.toList)
    rw [HWD.out]
    simp [spaced])
  refine wp_region_held_drew (S := fun W => W.cell? ⟨w.heap.size, 0, none⟩ = some (.int .i64 6) ∧ W.cell? ⟨w.heap.size, 1, none⟩ = some (.int .i64 (day : Nat)) ∧ W.cell? ⟨w.heap.size, 2, none⟩ = some (.string part)) (by kernel_rfl) (⟨(HE2.out.drew).facts.1 0, (HE2.out.drew).facts.1 1, (HE2.out.drew).facts.1 2⟩) (fun hHeld => ?_)
  refine plI [(1, false), (2, false), (6, false), (7, false), (11, false), (12, false)] ?_
  repeat ((first | ((with_reducible show Plan ((_, true) :: _) _); refine plF ?_) | (refine plR (v := ?_) ?_ ?_; rotate_left; focus (intro W hSW; (try dsimp only at hSW); go_simp; all_goals (with_reducible rfl)))); try simp only [Act.put, List.setIfInBounds_toArray, List.set_cons_zero, List.set_cons_succ])
  refine plE ?_
  refine wpAnyH_ready (rs := [0]) (by kernel_rfl) (by simp) ?_
  refine AllReadyH.cons (o := ⟨_, _, _, _, _, _⟩) rfl (fun K hK => ?_) AllReadyH.nil
  go_simp
  go_at_call 42; refine (words_any _).mono ?_; rintro e u0 ⟨rfl, hu⟩
  have HW0 := Lib.hid (show Has u0 w2.heap.size 9 (wordsL.map Value.string).toArray by rw [hu]; exact Has.new _ _ _)
  have HE0 := Lib.hid (show Has u0 w.heap.size 49 #[.int .i64 6, .int .i64 (day : Nat), .string part, .string kind, .string into, .string slot, .string key, .string value, .int .i64 kl, .int .i64 kh, .int .i64 cl, .int .i64 ch, .int .i64 ll, .int .i64 lh] by rw [hu]; exact HE2.out.drew.alloc _)
  have HB0 := Lib.hid (show Below w.heap.size w u0 by rw [hu]; exact HB2.out.drew.alloc HB2.out.size _)
  have xw := (words_at HW0.out 6 (by omega)).trans (by rw [show ((6 : Nat) : Int) = 6 from rfl, HWD.out])
  clear hu
  refine hK.out _ _ (⟨(HE0.out).facts.1 0, (HE0.out).facts.1 1, (HE0.out).facts.1 2⟩) (fun hHeld => ?_)
  clear hK K
  try simp only [Act.put, List.setIfInBounds_toArray, List.set_cons_zero, List.set_cons_succ]
  refine plI [(3, false)] ?_
  repeat ((first | ((with_reducible show Plan ((_, true) :: _) _); refine plF ?_) | (refine plR (v := ?_) ?_ ?_; rotate_left; focus (intro W hSW; (try dsimp only at hSW); go_simp; all_goals (with_reducible rfl)))); try simp only [Act.put, List.setIfInBounds_toArray, List.set_cons_zero, List.set_cons_succ])
  refine plE ?_
  refine plC (i := 8) (v := .string (itoaB (day : Nat))) 50 #[.int .i64 (day : Nat)] ?_ (fun W hSW => HDC.out W) ?_ rfl (by kernel_rfl) (by kernel_rfl) (by kernel_rfl) (fun _ _ _ h => h) (by rfl) (by assumption)
  · intro W; go_simp; all_goals (with_reducible rfl)
  try simp only [Act.put, List.setIfInBounds_toArray, List.set_cons_zero, List.set_cons_succ]
  refine wpAnyH_ready (rs := [4]) (by kernel_rfl) (by simp) ?_
  refine AllReadyH.cons (o := ⟨_, _, _, _, _, _⟩) rfl (fun K hK => ?_) AllReadyH.nil
  go_simp
  refine hK.out _ _ (⟨(HE0.out).facts.1 0, (HE0.out).facts.1 1, (HE0.out).facts.1 2⟩) (fun hHeld => ?_)
  clear hK K
  try simp only [Act.put, List.setIfInBounds_toArray, List.set_cons_zero, List.set_cons_succ]
  refine plI [(5, false), (9, false), (10, false), (13, false), (14, false)] ?_
  repeat ((first | ((with_reducible show Plan ((_, true) :: _) _); refine plF ?_) | (refine plR (v := ?_) ?_ ?_; rotate_left; focus (intro W hSW; (try dsimp only at hSW); go_simp; all_goals (with_reducible rfl)))); try simp only [Act.put, List.setIfInBounds_toArray, List.set_cons_zero, List.set_cons_succ])
  refine plE ?_
  refine wpAnyH_done (by kernel_rfl) ?_ _
  clear hHeld xw c2 f2
  obtain ⟨c0, f0⟩ := HE0.out.facts
  go_wp2_with fail
  refine wp_region_held_drew (S := fun W => W.cell? ⟨w.heap.size, 6, none⟩ = some (.string key) ∧ W.cell? ⟨w.heap.size, 7, none⟩ = some (.string value)) (by kernel_rfl) (⟨HE0.out.drew.facts.1 6, HE0.out.drew.facts.1 7⟩) (fun hHeld => ?_)
  refine plI [(0, false), (1, false), (2, false), (3, false), (4, false), (5, false), (6, false), (7, false)] ?_
  repeat ((first | ((with_reducible show Plan ((_, true) :: _) _); refine plF ?_) | (refine plR (v := ?_) ?_ ?_; rotate_left; focus (intro W hSW; (try dsimp only at hSW); go_simp; all_goals (with_reducible rfl)))); try simp only [Act.put, List.setIfInBounds_toArray, List.set_cons_zero, List.set_cons_succ])
  refine plE ?_
  refine plC (i := 8) (v := .string (quoteB value)) 52 #[.string value] ?_ (fun W hSW => HQU.out W) ?_ rfl (by kernel_rfl) (by kernel_rfl) (by kernel_rfl) (fun _ _ _ h => h) (by rfl) (by assumption)
  · intro W; go_simp; all_goals (with_reducible rfl)
  try simp only [Act.put, List.setIfInBounds_toArray, List.set_cons_zero, List.set_cons_succ]
  refine plI [(9, false), (10, false)] ?_
  repeat ((first | ((with_reducible show Plan ((_, true) :: _) _); refine plF ?_) | (refine plR (v := ?_) ?_ ?_; rotate_left; focus (intro W hSW; (try dsimp only at hSW); go_simp; all_goals (with_reducible rfl)))); try simp only [Act.put, List.setIfInBounds_toArray, List.set_cons_zero, List.set_cons_succ])
  refine plE ?_
  refine wpAnyH_done (by kernel_rfl) ?_ _
  clear hHeld
  go_wp2_with fail
  refine bodyPost_ret (v := .tuple #[.string (textB ⟨6, (day : Nat), part, kind, into, slot, key, value, kl, kh, cl, ch, ll, lh⟩), .int .i64 0]) (by simp [results, Tryz.results28, go_sem]; exact HT.out) rfl ?_
  exact ⟨rfl, HB0.out.drew⟩
set_option maxRecDepth 100000 in
set_option maxHeartbeats 8000000 in
theorem rtx_4 (day : Nat) (part kind into slot key value : ByteArray) (kl kh cl ch ll lh : Nat) (w : World) (hs : Ev.short ⟨4, (day : Nat), part, kind, into, slot, key, value, (kl : Nat), (kh : Nat), (cl : Nat), (ch : Nat), (ll : Nat), (lh : Nat)⟩) (hok : evOk ⟨4, (day : Nat), part, kind, into, slot, key, value, (kl : Nat), (kh : Nat), (cl : Nat), (ch : Nat), (ll : Nat), (lh : Nat)⟩ = true) :
    Calls Tryz.prog 28 #[.agg #[.int .i64 4, .int .i64 (day : Nat), .string part, .string kind, .string into, .string slot, .string key, .string value, .int .i64 (kl : Nat), .int .i64 (kh : Nat), .int .i64 (cl : Nat), .int .i64 (ch : Nat), .int .i64 (ll : Nat), .int .i64 (lh : Nat)]] w fun r w' => r = .returned (.tuple #[.string (textB ⟨4, (day : Nat), part, kind, into, slot, key, value, (kl : Nat), (kh : Nat), (cl : Nat), (ch : Nat), (ll : Nat), (lh : Nat)⟩), .int .i64 0]) ∧ Below w.heap.size w w' := by
  obtain ⟨_, hday, hpn, hr⟩ := evOk_parts hok
  dsimp only at hday hpn
  have hpz := name_size hpn
  have hdz := itoa_len (u := day) (by omega)
  have hwz : (wordS 4).size ≤ 24 := word_len (by omega)
  have HS := Lib.hid hs
  have HOK := Lib.hid hok
  have HDC := Lib.hid (fun W => decimal_any day W (by omega))
  have hu := evOk_uses hok rfl
  dsimp only at hu
  have hzkl := itoa_len (u := kl) (by omega)
  have hzkh := itoa_len (u := kh) (by omega)
  have hzcl := itoa_len (u := cl) (by omega)
  have hzch := itoa_len (u := ch) (by omega)
  have hzll := itoa_len (u := ll) (by omega)
  have hzlh := itoa_len (u := lh) (by omega)
  have HBT0 := Lib.hid (fun W => both_any kl kh W (by omega) (by omega))
  have hbz0 : (bothB (kl : Int) (kh : Int)).size ≤ 100 := by unfold bothB; rw [ByteArray.size_append, ByteArray.size_append, ByteArray.size_append]; show 1 + _ + 1 + _ ≤ _; omega
  have HBT1 := Lib.hid (fun W => both_any cl ch W (by omega) (by omega))
  have hbz1 : (bothB (cl : Int) (ch : Int)).size ≤ 100 := by unfold bothB; rw [ByteArray.size_append, ByteArray.size_append, ByteArray.size_append]; show 1 + _ + 1 + _ ≤ _; omega
  have HBT2 := Lib.hid (fun W => both_any ll lh W (by omega) (by omega))
  have hbz2 : (bothB (ll : Int) (lh : Int)).size ≤ 100 := by unfold bothB; rw [ByteArray.size_append, ByteArray.size_append, ByteArray.size_append]; show 1 + _ + 1 + _ ≤ _; omega
  generalize hwd : wordS 4 = wd at hwz
  have HWD := Lib.hid hwd
  have hq0 : ¬ 9223372036854775807 < wd.size + 1 := by omega
  have hq1 : ¬ 9223372036854775807 < wd.size + 1 + (itoaB (day : Int)).size := by omega
  have hq2 : ¬ 9223372036854775807 < wd.size + 1 + (itoaB (day : Int)).size + 1 := by omega
  have hq3 : ¬ 9223372036854775807 < wd.size + 1 + (itoaB (day : Int)).size + 1 + part.size := by omega
  have hq4 : ¬ 9223372036854775807 < wd.size + 1 + (itoaB (day : Int)).size + 1 + part.size + (bothB (kl : Int) (kh : Int)).size := by omega
  have hq5 : ¬ 9223372036854775807 < wd.size + 1 + (itoaB (day : Int)).size + 1 + part.size + (bothB (kl : Int) (kh : Int)).size + (bothB (cl : Int) (ch : Int)).size := by omega
  have hq6 : ¬ 9223372036854775807 < wd.size + 1 + (itoaB (day : Int)).size + 1 + part.size + (bothB (kl : Int) (kh : Int)).size + (bothB (cl : Int) (ch : Int)).size + (bothB (ll : Int) (lh : Int)).size := by omega
  clear hu hzkl hzkh hzcl hzch hzll hzlh hbz0 hbz1 hbz2 hs hok hday hpn hr hpz hdz hwz hwd
  go_enter Tryz.func28, Tryz.ntmps28
  go_wp2_with (go_at_call 30; refine (refEv_any ⟨4, (day : Nat), part, kind, into, slot, key, value, (kl : Nat), (kh : Nat), (cl : Nat), (ch : Nat), (ll : Nat), (lh : Nat)⟩ _ HS.out).mono ?_; rintro e w2 ⟨rfl, hb2⟩; rw [HOK.out]; have HE2 := Lib.hid (Has.below (Has.new w 49 #[.int .i64 4, .int .i64 (day : Nat), .string part, .string kind, .string into, .string slot, .string key, .string value, .int .i64 (kl : Nat), .int .i64 (kh : Nat), .int .i64 (cl : Nat), .int .i64 (ch : Nat), .int .i64 (ll : Nat), .int .i64 (lh : Nat)]) hb2 (by simp)); have HB2 := Lib.hid (((Below.refl w.heap.size w).alloc (Nat.le_refl _) (.cells #[.int .i64 4, .int .i64 (day : Nat), .string part, .string kind, .string into, .string slot, .string key, .string value, .int .i64 (kl : Nat), .int .i64 (kh : Nat), .int .i64 (cl : Nat), .int .i64 (ch : Nat), .int .i64 (ll : Nat), .int .i64 (lh : Nat)] 49)).trans (hb2.mono (by simp))); obtain ⟨c2, f2⟩ := HE2.out.facts; clear hb2)
  have HT : Hid ((((((((wd ++ ⟨#[32]⟩) ++ itoaB (day : Int)) ++ ⟨#[32]⟩) ++ part) ++ (bothB (kl : Int) (kh : Int))) ++ (bothB (cl : Int) (ch : Int))) ++ (bothB (ll : Int) (lh : Int))) = textB ⟨4, (day : Nat), part, kind, into, slot, key, value, (kl : Nat), (kh : Nat), (cl : Nat), (ch : Nat), (ll : Nat), (lh : Nat)⟩) := ba_ext (by
    rw [text_data]
    show _ = spaced (([wordS 4, itoaB (day : Int), part] ++ [itoaB (kl : Int), itoaB (kh : Int), itoaB (cl : Int), itoaB (ch : Int), itoaB (ll : Int), itoaB (lh : Int)] : List ByteArray).map fun b => b.data.toList)
    rw [HWD.out]
    simp [spaced, bothB])
  refine wp_region_held_drew (S := fun W => W.cell? ⟨w.heap.size, 0, none⟩ = some (.int .i64 4) ∧ W.cell? ⟨w.heap.size, 1, none⟩ = some (.int .i64 (day : Nat)) ∧ W.cell? ⟨w.heap.size, 2, none⟩ = some (.string part)) (by kernel_rfl) (⟨(HE2.out.drew).facts.1 0, (HE2.out.drew).facts.1 1, (HE2.out.drew).facts.1 2⟩) (fun hHeld => ?_)
  refine plI [(1, false), (2, false), (6, false), (7, false), (11, false), (12, false)] ?_
  repeat ((first | ((with_reducible show Plan ((_, true) :: _) _); refine plF ?_) | (refine plR (v := ?_) ?_ ?_; rotate_left; focus (intro W hSW; (try dsimp only at hSW); go_simp; all_goals (with_reducible rfl)))); try simp only [Act.put, List.setIfInBounds_toArray, List.set_cons_zero, List.set_cons_succ])
  refine plE ?_
  refine wpAnyH_ready (rs := [0]) (by kernel_rfl) (by simp) ?_
  refine AllReadyH.cons (o := ⟨_, _, _, _, _, _⟩) rfl (fun K hK => ?_) AllReadyH.nil
  go_simp
  go_at_call 42; refine (words_any _).mono ?_; rintro e u0 ⟨rfl, hu⟩
  have HW0 := Lib.hid (show Has u0 w2.heap.size 9 (wordsL.map Value.string).toArray by rw [hu]; exact Has.new _ _ _)
  have HE0 := Lib.hid (show Has u0 w.heap.size 49 #[.int .i64 4, .int .i64 (day : Nat), .string part, .string kind, .string into, .string slot, .string key, .string value, .int .i64 (kl : Nat), .int .i64 (kh : Nat), .int .i64 (cl : Nat), .int .i64 (ch : Nat), .int .i64 (ll : Nat), .int .i64 (lh : Nat)] by rw [hu]; exact HE2.out.drew.alloc _)
  have HB0 := Lib.hid (show Below w.heap.size w u0 by rw [hu]; exact HB2.out.drew.alloc HB2.out.size _)
  have xw := (words_at HW0.out 4 (by omega)).trans (by rw [show ((4 : Nat) : Int) = 4 from rfl, HWD.out])
  clear hu
  refine hK.out _ _ (⟨(HE0.out).facts.1 0, (HE0.out).facts.1 1, (HE0.out).facts.1 2⟩) (fun hHeld => ?_)
  clear hK K
  try simp only [Act.put, List.setIfInBounds_toArray, List.set_cons_zero, List.set_cons_succ]
  refine plI [(3, false)] ?_
  repeat ((first | ((with_reducible show Plan ((_, true) :: _) _); refine plF ?_) | (refine plR (v := ?_) ?_ ?_; rotate_left; focus (intro W hSW; (try dsimp only at hSW); go_simp; all_goals (with_reducible rfl)))); try simp only [Act.put, List.setIfInBounds_toArray, List.set_cons_zero, List.set_cons_succ])
  refine plE ?_
  refine plC (i := 8) (v := .string (itoaB (day : Nat))) 50 #[.int .i64 (day : Nat)] ?_ (fun W hSW => HDC.out W) ?_ rfl (by kernel_rfl) (by kernel_rfl) (by kernel_rfl) (fun _ _ _ h => h) (by rfl) (by assumption)
  · intro W; go_simp; all_goals (with_reducible rfl)
  try simp only [Act.put, List.setIfInBounds_toArray, List.set_cons_zero, List.set_cons_succ]
  refine wpAnyH_ready (rs := [4]) (by kernel_rfl) (by simp) ?_
  refine AllReadyH.cons (o := ⟨_, _, _, _, _, _⟩) rfl (fun K hK => ?_) AllReadyH.nil
  go_simp
  refine hK.out _ _ (⟨(HE0.out).facts.1 0, (HE0.out).facts.1 1, (HE0.out).facts.1 2⟩) (fun hHeld => ?_)
  clear hK K
  try simp only [Act.put, List.setIfInBounds_toArray, List.set_cons_zero, List.set_cons_succ]
  refine plI [(5, false), (9, false), (10, false), (13, false), (14, false)] ?_
  repeat ((first | ((with_reducible show Plan ((_, true) :: _) _); refine plF ?_) | (refine plR (v := ?_) ?_ ?_; rotate_left; focus (intro W hSW; (try dsimp only at hSW); go_simp; all_goals (with_reducible rfl)))); try simp only [Act.put, List.setIfInBounds_toArray, List.set_cons_zero, List.set_cons_succ])
  refine plE ?_
  refine wpAnyH_done (by kernel_rfl) ?_ _
  clear hHeld xw c2 f2
  obtain ⟨c0, f0⟩ := HE0.out.facts
  go_wp2_with fail
  refine wp_region_held_drew (S := fun W => W.cell? ⟨w.heap.size, 8, none⟩ = some (.int .i64 (kl : Nat)) ∧ W.cell? ⟨w.heap.size, 9, none⟩ = some (.int .i64 (kh : Nat)) ∧ W.cell? ⟨w.heap.size, 10, none⟩ = some (.int .i64 (cl : Nat)) ∧ W.cell? ⟨w.heap.size, 11, none⟩ = some (.int .i64 (ch : Nat)) ∧ W.cell? ⟨w.heap.size, 12, none⟩ = some (.int .i64 (ll : Nat)) ∧ W.cell? ⟨w.heap.size, 13, none⟩ = some (.int .i64 (lh : Nat))) (by kernel_rfl) (⟨(HE0.out.drew).facts.1 8, (HE0.out.drew).facts.1 9, (HE0.out.drew).facts.1 10, (HE0.out.drew).facts.1 11, (HE0.out.drew).facts.1 12, (HE0.out.drew).facts.1 13⟩) (fun hHeld => ?_)
  refine plI [(0, false), (1, false), (2, false), (3, false), (6, false), (7, false), (8, false), (11, false), (12, false), (13, false)] ?_
  repeat ((first | ((with_reducible show Plan ((_, true) :: _) _); refine plF ?_) | (refine plR (v := ?_) ?_ ?_; rotate_left; focus (intro W hSW; (try dsimp only at hSW); go_simp; all_goals (with_reducible rfl)))); try simp only [Act.put, List.setIfInBounds_toArray, List.set_cons_zero, List.set_cons_succ])
  refine plE ?_
  refine wpAnyH_ready (rs := [4]) (by kernel_rfl) (by simp) ?_
  refine AllReadyH.cons (o := ⟨_, _, _, _, _, _⟩) rfl (fun K hK => ?_) AllReadyH.nil
  go_simp
  go_at_call 51; refine (HBT0.out _).mono ?_; rintro e v4 ⟨rfl, hb⟩; have HE4s := Lib.hid ((HE0.out.drew).below hb (HE0.out.drew).lt); have HB4s := Lib.hid ((HB0.out.drew).trans (hb.mono (HB0.out.drew).size)); clear hb
  refine hK.out _ _ (⟨(HE4s.out).facts.1 8, (HE4s.out).facts.1 9, (HE4s.out).facts.1 10, (HE4s.out).facts.1 11, (HE4s.out).facts.1 12, (HE4s.out).facts.1 13⟩) (fun hHeld => ?_)
  clear hK K
  try simp only [Act.put, List.setIfInBounds_toArray, List.set_cons_zero, List.set_cons_succ]
  refine plI [(5, false)] ?_
  repeat ((first | ((with_reducible show Plan ((_, true) :: _) _); refine plF ?_) | (refine plR (v := ?_) ?_ ?_; rotate_left; focus (intro W hSW; (try dsimp only at hSW); go_simp; all_goals (with_reducible rfl)))); try simp only [Act.put, List.setIfInBounds_toArray, List.set_cons_zero, List.set_cons_succ])
  refine plE ?_
  refine wpAnyH_ready (rs := [9]) (by kernel_rfl) (by simp) ?_
  refine AllReadyH.cons (o := ⟨_, _, _, _, _, _⟩) rfl (fun K hK => ?_) AllReadyH.nil
  go_simp
  go_at_call 51; refine (HBT1.out _).mono ?_; rintro e v9 ⟨rfl, hb⟩; have HE9s := Lib.hid ((HE4s.out).below hb (HE4s.out).lt); have HB9s := Lib.hid ((HB4s.out).trans (hb.mono (HB4s.out).size)); clear hb
  refine hK.out _ _ (⟨(HE9s.out).facts.1 8, (HE9s.out).facts.1 9, (HE9s.out).facts.1 10, (HE9s.out).facts.1 11, (HE9s.out).facts.1 12, (HE9s.out).facts.1 13⟩) (fun hHeld => ?_)
  clear hK K
  try simp only [Act.put, List.setIfInBounds_toArray, List.set_cons_zero, List.set_cons_succ]
  refine plI [(10, false)] ?_
  repeat ((first | ((with_reducible show Plan ((_, true) :: _) _); refine plF ?_) | (refine plR (v := ?_) ?_ ?_; rotate_left; focus (intro W hSW; (try dsimp only at hSW); go_simp; all_goals (with_reducible rfl)))); try simp only [Act.put, List.setIfInBounds_toArray, List.set_cons_zero, List.set_cons_succ])
  refine plE ?_
  refine wpAnyH_ready (rs := [14]) (by kernel_rfl) (by simp) ?_
  refine AllReadyH.cons (o := ⟨_, _, _, _, _, _⟩) rfl (fun K hK => ?_) AllReadyH.nil
  go_simp
  go_at_call 51; refine (HBT2.out _).mono ?_; rintro e v14 ⟨rfl, hb⟩; have HE14s := Lib.hid ((HE9s.out).below hb (HE9s.out).lt); have HB14s := Lib.hid ((HB9s.out).trans (hb.mono (HB9s.out).size)); clear hb
  refine hK.out _ _ (⟨(HE14s.out).facts.1 8, (HE14s.out).facts.1 9, (HE14s.out).facts.1 10, (HE14s.out).facts.1 11, (HE14s.out).facts.1 12, (HE14s.out).facts.1 13⟩) (fun hHeld => ?_)
  clear hK K
  try simp only [Act.put, List.setIfInBounds_toArray, List.set_cons_zero, List.set_cons_succ]
  refine plI [(15, false), (16, false)] ?_
  repeat ((first | ((with_reducible show Plan ((_, true) :: _) _); refine plF ?_) | (refine plR (v := ?_) ?_ ?_; rotate_left; focus (intro W hSW; (try dsimp only at hSW); go_simp; all_goals (with_reducible rfl)))); try simp only [Act.put, List.setIfInBounds_toArray, List.set_cons_zero, List.set_cons_succ])
  refine plE ?_
  refine wpAnyH_done (by kernel_rfl) ?_ _
  clear hHeld
  go_wp2_with fail
  refine bodyPost_ret (v := .tuple #[.string (textB ⟨4, (day : Nat), part, kind, into, slot, key, value, (kl : Nat), (kh : Nat), (cl : Nat), (ch : Nat), (ll : Nat), (lh : Nat)⟩), .int .i64 0]) (by simp [results, Tryz.results28, go_sem]; exact HT.out) rfl ?_
  exact ⟨rfl, HB14s.out⟩
set_option maxRecDepth 100000 in
set_option maxHeartbeats 4000000 in
theorem rtx_no (e : Ev) (w : World) (hs : e.short) (hok : evOk e = false) :
    Calls Tryz.prog 28 #[.agg e.cells] w fun r w' => r = .returned (.tuple #[.string ⟨#[]⟩, .int .i64 1]) ∧ Below w.heap.size w w' := by
  obtain ⟨op, day, part, kind, into, slot, key, value, kl, kh, cl, ch, ll, lh⟩ := e
  show Calls Tryz.prog 28 #[.agg #[.int .i64 op, .int .i64 day, .string part, .string kind, .string into, .string slot, .string key, .string value, .int .i64 kl, .int .i64 kh, .int .i64 cl, .int .i64 ch, .int .i64 ll, .int .i64 lh]] w fun r w' => r = .returned (.tuple #[.string ⟨#[]⟩, .int .i64 1]) ∧ Below w.heap.size w w'
  have HS := Lib.hid hs
  have HOK := Lib.hid hok
  clear hs hok
  go_enter Tryz.func28, Tryz.ntmps28
  go_wp2_with (go_at_call 30; refine (refEv_any ⟨op, day, part, kind, into, slot, key, value, kl, kh, cl, ch, ll, lh⟩ _ HS.out).mono ?_; rintro e w2 ⟨rfl, hb2⟩; rw [HOK.out]; have HB2 := Lib.hid (((Below.refl w.heap.size w).alloc (Nat.le_refl _) (.cells #[.int .i64 op, .int .i64 day, .string part, .string kind, .string into, .string slot, .string key, .string value, .int .i64 kl, .int .i64 kh, .int .i64 cl, .int .i64 ch, .int .i64 ll, .int .i64 lh] 49)).trans (hb2.mono (by simp))); clear hb2)
  refine bodyPost_ret (v := .tuple #[.string ⟨#[]⟩, .int .i64 1]) (by simp [results, Tryz.results28, go_sem]) rfl ?_
  exact ⟨rfl, HB2.out⟩
theorem refText_any (e : Ev) (w : World) (hs : e.short) :
    Calls Tryz.prog 28 #[.agg e.cells] w fun r w' => r = .returned (.tuple #[.string (if evOk e = true then textB e else ⟨#[]⟩), .int .i64 (if evOk e = true then 0 else 1)]) ∧ Below w.heap.size w w' := by
  cases hok : evOk e with
  | false => exact rtx_no e w hs hok
  | true =>
    obtain ⟨hop, hday, _, _⟩ := evOk_parts hok
    have huse := fun h4 => evOk_uses hok h4
    obtain ⟨op, day, part, kind, into, slot, key, value, kl, kh, cl, ch, ll, lh⟩ := e
    dsimp only at hop hday huse
    obtain ⟨d, rfl⟩ : ∃ d : Nat, day = d := ⟨day.toNat, by omega⟩
    simp only [if_true]
    rcases (by omega : op = 1 ∨ op = 2 ∨ op = 3 ∨ op = 4 ∨ op = 5 ∨ op = 6 ∨ op = 7) with rfl | rfl | rfl | rfl | rfl | rfl | rfl
    · exact rtx_1 d part kind into slot key value kl kh cl ch ll lh w hs hok
    · exact rtx_2 d part kind into slot key value kl kh cl ch ll lh w hs hok
    · exact rtx_3 d part kind into slot key value kl kh cl ch ll lh w hs hok
    · obtain ⟨u1, u2, u3, u4, u5, u6⟩ := huse rfl
      obtain ⟨kl, rfl⟩ : ∃ d : Nat, kl = d := ⟨kl.toNat, by omega⟩
      obtain ⟨kh, rfl⟩ : ∃ d : Nat, kh = d := ⟨kh.toNat, by omega⟩
      obtain ⟨cl, rfl⟩ : ∃ d : Nat, cl = d := ⟨cl.toNat, by omega⟩
      obtain ⟨ch, rfl⟩ : ∃ d : Nat, ch = d := ⟨ch.toNat, by omega⟩
      obtain ⟨ll, rfl⟩ : ∃ d : Nat, ll = d := ⟨ll.toNat, by omega⟩
      obtain ⟨lh, rfl⟩ : ∃ d : Nat, lh = d := ⟨lh.toNat, by omega⟩
      exact rtx_4 d part kind into slot key value kl kh cl ch ll lh w hs hok
    · exact rtx_5 d part kind into slot key value kl kh cl ch ll lh w hs hok
    · exact rtx_6 d part kind into slot key value kl kh cl ch ll lh w hs hok
    · exact rtx_7 d part kind into slot key value kl kh cl ch ll lh w hs hok
end Go.Proofs.YtjlpllnhefafkaaGreatDoor
