/- event.Text: the text of an event. Condition: the table of powers of ten, and that the strings are strings that lie in memory. -/
import Derived.Test.YtjlpllnhefafkaaGreatDoorU01
import Derived.Test.YtjlpllnhefafkaaGreatDoorU07
import Derived.Test.YtjlpllnhefafkaaGreatDoorU08
import Derived.Test.YtjlpllnhefafkaaGreatDoorXA
import Derived.Test.YtjlpllnhefafkaaGreatDoorXC
namespace Go.Proofs.YtjlpllnhefafkaaGreatDoor
open Go Go.RowKit
theorem join_any (v : Value) (l : List ByteArray) (sep : ByteArray) (w : World) (h : Sl w v l.length 1 (strF l)) (hl : l.length ≤ 1000000) (hlen : (joined l sep).size ≤ 140737488355328) :
    Calls Tryz.prog 27 #[v, .string sep] w fun e w' => e = .returned (.string (joined l sep)) ∧ Below w.heap.size w w' := by
  obtain ⟨A, c, rfl, hn, h0 | ⟨b, o, rfl, hc⟩⟩ := h
  · have : l = [] := List.eq_nil_of_length_eq_zero h0
    subst this
    refine (Tryz.strings_Join_none A c sep w).mono fun e w' ⟨h1, h2⟩ => ⟨h1, h2 ▸ Below.refl _ _⟩
  · by_cases hz : l.length = 0
    · have : l = [] := List.eq_nil_of_length_eq_zero hz
      subst this
      refine (Tryz.strings_Join_none _ c sep w).mono fun e w' ⟨h1, h2⟩ => ⟨h1, h2 ▸ Below.refl _ _⟩
    · have hcell : ∀ (j : Nat) x, l[j]? = some x → w.cell? ⟨b, o + j, none⟩ = some (.string x) := fun j x hx => by
        have hj : j < l.length := by
          rcases Nat.lt_or_ge j l.length with h1 | h1
          · exact h1
          · rw [List.getElem?_eq_none h1] at hx; cases hx
        rw [hc j (by omega)]
        unfold strF
        rw [List.getD_eq_getElem?_getD, hx]; rfl
      have hb : b < w.heap.size := World.block_lt_of_cell? _ _ (hc 0 (by omega))
      exact (Tryz.strings_Join b o c l sep w hcell hb (by omega) hn hlen).mono fun e w' ⟨h1, h2⟩ => ⟨h1, h2⟩
theorem own_of_has {w : World} {g t : Nat} {cs : Array Value} {base n sz : Nat} (h : Has w g t cs) (hb : base ≤ g) (hs : cs.size = n * sz) (hn : n ≤ maxLen) :
    w.ownsRow base t sz (.slice (some ⟨g, 0, none⟩) n n) n cs.toList :=
  ⟨by simpa using hs, .inr ⟨g, n, cs, rfl, hb, h, Nat.le_refl _, hn, hs, by rw [List.take_of_length_le (by simp [hs])]⟩⟩
theorem str_own {w : World} {base : Nat} {t : Nat} {v : Value} {l : List ByteArray} (h : w.ownsRow base t 1 v l.length (l.map .string)) : Sl w v l.length 1 (strF l) := by
  rcases h.2 with ⟨rfl, h0⟩ | ⟨g, cap, cur, rfl, hg, hh, hn, hc, hs, ht⟩
  · rw [h0]; exact ⟨_, _, rfl, Nat.le_refl _, .inl rfl⟩
  · refine ⟨_, cap, rfl, hn, .inr ⟨g, 0, rfl, fun j hj => ?_⟩⟩
    have hj' : j < l.length := by omega
    rw [Nat.zero_add, cell_of_row w g j cur t (0, 0) hh]
    have h1 : (l.map Value.string)[j]? = some (strF l j) := by
      unfold strF
      rw [List.getElem?_map, List.getD_eq_getElem?_getD, List.getElem?_eq_getElem hj']; rfl
    rw [← ht, List.getElem?_take, if_pos hj] at h1
    simpa using h1
theorem info_str : (Tryz.prog.info? 9).map (fun i => (i.zero, i.size, i.bytes)) = some (some (.string ⟨#[]⟩), 1, 16) := by kernel_rfl
/-- The box of the event, and the words so far. -/
structure TxB (w : World) (cs : Array Value) (v : Value) (ws : List ByteArray) (V : World) : Prop where
  e : Has V w.heap.size 49 cs
  o : V.ownsRow (w.heap.size + 1) 9 1 v ws.length (ws.map .string)
  b : Below w.heap.size w V
theorem TxB.below {w V V' : World} {cs : Array Value} {v : Value} {ws : List ByteArray} (h : TxB w cs v ws V) (hb : Below V.heap.size V V') : TxB w cs v ws V' := by
  refine ⟨h.e.below hb h.e.lt, ⟨h.o.1, ?_⟩, h.b.trans (hb.mono h.b.size)⟩
  rcases h.o.2 with h0 | ⟨g, cap, cur, h1, h2, h3, h4⟩
  · exact .inl h0
  · exact .inr ⟨g, cap, cur, h1, h2, (hb.block g (Array.getElem?_eq_some_iff.1 h3).1).trans h3, h4⟩
theorem TxB.alloc {w V : World} {cs : Array Value} {v : Value} {ws : List ByteArray} (h : TxB w cs v ws V) (o : Obj) : TxB w cs v ws (V.alloc o) := h.below ((Below.refl _ _).alloc (Nat.le_refl _) o)
theorem TxB.drew {w V : World} {cs : Array Value} {v : Value} {ws : List ByteArray} (h : TxB w cs v ws V) : TxB w cs v ws V.drew := h.below (Below.refl _ _).drew
theorem TxB.more {w V V' : World} {cs : Array Value} {v v' : Value} {ws more : List ByteArray} (h : TxB w cs v ws V) (hg : V.grownBy V' v.ownBlock) (ho : V'.ownsRow (w.heap.size + 1) 9 1 v' (ws.length + more.length) (ws.map .string ++ more.map .string)) : TxB w cs v' (ws ++ more) V' :=
  ⟨h.e.grown hg (fun e => by have := (h.o.lt _ e.symm).1; omega), by rw [List.length_append, List.map_append]; exact ho, h.b.grown hg h.b.size (fun j hj => by have := (h.o.lt _ hj).1; omega)⟩
theorem strs_one {l : List ByteArray} : ∀ u ∈ l.map Value.string, u.oneCell' = true := fun u h => by
  obtain ⟨s, _, rfl⟩ := List.mem_map.1 h; rfl
theorem lit_src (w : World) (l : List ByteArray) (t : TypeId) : ∀ j u, (l.map Value.string)[j]? = some u → (w.alloc (.cells (l.map Value.string).toArray t)).cell? ((⟨w.heap.size, 0, none⟩ : Addr).add j) = some u := fun j u h => by
  have h1 := (Has.new w t (l.map Value.string).toArray).facts.1 j
  rw [Addr.add_mid, Nat.zero_add, h1]; simpa using h
theorem itoaQ (w0 : World) (ht : Tab w0) (n : Int) (hn : -1000000000 ≤ n ∧ n ≤ 1000000000) (w : World) (hb : Below w0.heap.size w0 w) :
    Calls Tryz.prog 44 #[.int .i64 n] w fun e w' => e = .returned (.string (itoaB n)) ∧ Below w.heap.size w w' := itoa_any w0 ht n (by omega) (by omega) w hb
theorem note_len {day : Int} {part kind into slot key value : ByteArray} {kl kh cl ch ll lh : Int} (h : evOk ⟨6, day, part, kind, into, slot, key, value, kl, kh, cl, ch, ll, lh⟩ = true) : value.size ≤ 200 := by
  obtain ⟨_, _, _, hr⟩ := evOk_parts h
  have hr2 : ((!value.toList.isEmpty && decide ((value.size : Int) ≤ 200)) && (rest6 ⟨6, day, part, kind, into, slot, key, value, kl, kh, cl, ch, ll, lh⟩ && [key].all nameB)) = true := hr
  simp only [Bool.and_eq_true, decide_eq_true_eq] at hr2
  omega
theorem run_nums {day : Int} {part kind into slot key value : ByteArray} {kl kh cl ch ll lh : Int} (h : evOk ⟨4, day, part, kind, into, slot, key, value, kl, kh, cl, ch, ll, lh⟩ = true) :
    (-1000000000 ≤ kl ∧ kl ≤ 1000000000) ∧ (-1000000000 ≤ kh ∧ kh ≤ 1000000000) ∧ (-1000000000 ≤ cl ∧ cl ≤ 1000000000) ∧ (-1000000000 ≤ ch ∧ ch ≤ 1000000000) ∧ (-1000000000 ≤ ll ∧ ll ≤ 1000000000) ∧ (-1000000000 ≤ lh ∧ lh ≤ 1000000000) := by
  obtain ⟨_, _, _, hr⟩ := evOk_parts h
  have hr2 : (useOk ⟨4, day, part, kind, into, slot, key, value, kl, kh, cl, ch, ll, lh⟩ && rest4 ⟨4, day, part, kind, into, slot, key, value, kl, kh, cl, ch, ll, lh⟩) = true := hr
  simp only [Bool.and_eq_true] at hr2
  have hu := of_decide_eq_true hr2.1
  dsimp only at hu
  omega
set_option maxRecDepth 100000 in
set_option maxHeartbeats 8000000 in
theorem tx_3 (day : Int) (part kind into slot key value : ByteArray) (kl kh cl ch ll lh : Int) (w0 w : World) (ht : Tab w0) (hb0 : Below w0.heap.size w0 w) (hs : Ev.short ⟨3, day, part, kind, into, slot, key, value, kl, kh, cl, ch, ll, lh⟩) (hok : evOk ⟨3, day, part, kind, into, slot, key, value, kl, kh, cl, ch, ll, lh⟩ = true) :
    Calls Tryz.prog 26 #[.agg #[.int .i64 3, .int .i64 day, .string part, .string kind, .string into, .string slot, .string key, .string value, .int .i64 kl, .int .i64 kh, .int .i64 cl, .int .i64 ch, .int .i64 ll, .int .i64 lh]] w fun r w' => r = .returned (.tuple #[.string (textB ⟨3, day, part, kind, into, slot, key, value, kl, kh, cl, ch, ll, lh⟩), .int .i64 0]) ∧ Below w.heap.size w w' := by
  obtain ⟨i0, hi, hz0, hq1, hq2⟩ := info_parts info_str
  have HI := Lib.hid hi
  have HZ := Lib.hid hz0
  have HS := Lib.hid hs
  have HOK := Lib.hid hok
  have hsz0 := hb0.size
  have hday := (evOk_parts hok).2.1
  have hdr : -1000000000 ≤ day ∧ day ≤ 1000000000 := by dsimp only at hday; omega
  have HIT := Lib.hid (fun n hn W (h : Below w.heap.size w W) => itoaQ w0 ht n hn W (hb0.trans (h.mono hsz0)))
  have HTS := Lib.hid (text_size hok)
  clear hi hz0 hs hok ht hday
  go_enter Tryz.func26, Tryz.ntmps26
  go_wp2_with (go_at_call 29; refine (valid_any ⟨3, day, part, kind, into, slot, key, value, kl, kh, cl, ch, ll, lh⟩ _ HS.out).mono ?_; rintro e w2 ⟨rfl, hb2⟩; rw [HOK.out]; have HE2 := Lib.hid (Has.below (Has.new w 49 #[.int .i64 3, .int .i64 day, .string part, .string kind, .string into, .string slot, .string key, .string value, .int .i64 kl, .int .i64 kh, .int .i64 cl, .int .i64 ch, .int .i64 ll, .int .i64 lh]) hb2 (by simp)); have HB2 := Lib.hid (((Below.refl w.heap.size w).alloc (Nat.le_refl _) (.cells #[.int .i64 3, .int .i64 day, .string part, .string kind, .string into, .string slot, .string key, .string value, .int .i64 kl, .int .i64 kh, .int .i64 cl, .int .i64 ch, .int .i64 ll, .int .i64 lh] 49)).trans (hb2.mono (by simp))); obtain ⟨c2, f2⟩ := HE2.out.facts; clear hb2)
  have HK := Lib.hid (fun W (h : Has W w.heap.size 49 #[.int .i64 3, .int .i64 day, .string part, .string kind, .string into, .string slot, .string key, .string value, .int .i64 kl, .int .i64 kh, .int .i64 cl, .int .i64 ch, .int .i64 ll, .int .i64 lh]) => (⟨h.facts.1 0, h.facts.1 1, h.facts.1 2⟩ : (fun W => W.cell? ⟨w.heap.size, 0, none⟩ = some (.int .i64 3) ∧ W.cell? ⟨w.heap.size, 1, none⟩ = some (.int .i64 day) ∧ W.cell? ⟨w.heap.size, 2, none⟩ = some (.string part)) W))
  refine wp_region_held_drew (S := fun W => W.cell? ⟨w.heap.size, 0, none⟩ = some (.int .i64 3) ∧ W.cell? ⟨w.heap.size, 1, none⟩ = some (.int .i64 day) ∧ W.cell? ⟨w.heap.size, 2, none⟩ = some (.string part)) (by kernel_rfl) (HK.out _ (HE2.out.drew)) (fun hHeld => ?_)
  refine plI [(0, false), (1, false), (3, false), (4, false), (6, false), (7, false)] ?_
  repeat ((first | ((with_reducible show Plan ((_, true) :: _) _); refine plF ?_) | (refine plR (v := ?_) ?_ ?_; rotate_left; focus (intro W hSW; (try dsimp only at hSW); go_simp; all_goals (with_reducible rfl)))); try simp only [Act.put, List.setIfInBounds_toArray, List.set_cons_zero, List.set_cons_succ])
  refine plE ?_
  refine wpAnyH_ready (rs := [2]) (by kernel_rfl) (by simp) ?_
  refine AllReadyH.cons (o := ⟨_, _, _, _, _, _⟩) rfl (fun K hK => ?_) AllReadyH.nil
  go_simp
  go_at_call 43; refine (word_any _ _).mono ?_; rintro e v2 ⟨rfl, hb⟩; have HE2s := Lib.hid ((HE2.out.drew).below hb (HE2.out.drew).lt); have HB2s := Lib.hid ((HB2.out.drew).trans (hb.mono (HB2.out.drew).size)); clear hb
  refine hK.out _ _ (HK.out _ (HE2s.out)) (fun hHeld => ?_)
  clear hK K
  try simp only [Act.put, List.setIfInBounds_toArray, List.set_cons_zero, List.set_cons_succ]
  refine wpAnyH_ready (rs := [5]) (by kernel_rfl) (by simp) ?_
  refine AllReadyH.cons (o := ⟨_, _, _, _, _, _⟩) rfl (fun K hK => ?_) AllReadyH.nil
  go_simp
  go_at_call 44; refine (HIT.out day hdr _ HB2s.out).mono ?_; rintro e v5 ⟨rfl, hb⟩; have HE5s := Lib.hid ((HE2s.out).below hb (HE2s.out).lt); have HB5s := Lib.hid ((HB2s.out).trans (hb.mono (HB2s.out).size)); clear hb
  refine hK.out _ _ (HK.out _ (HE5s.out)) (fun hHeld => ?_)
  clear hK K
  try simp only [Act.put, List.setIfInBounds_toArray, List.set_cons_zero, List.set_cons_succ]
  refine wpAnyH_ready (rs := [8]) (by kernel_rfl) (by simp) ?_
  refine AllReadyH.cons (o := ⟨_, _, _, _, _, _⟩) rfl (fun K hK => ?_) AllReadyH.nil
  go_simp
  have HE8s := Lib.hid (HE5s.out.alloc (.cells #[.string (wordS 3), .string (itoaB day), .string part] 9))
  have HX := Lib.hid (show TxB w #[.int .i64 3, .int .i64 day, .string part, .string kind, .string into, .string slot, .string key, .string value, .int .i64 kl, .int .i64 kh, .int .i64 cl, .int .i64 ch, .int .i64 ll, .int .i64 lh] (.slice (some ⟨v5.heap.size, 0, none⟩) 3 3) [wordS 3, itoaB day, part] (v5.alloc (.cells #[.string (wordS 3), .string (itoaB day), .string part] 9)) from ⟨HE8s.out, own_of_has (n := 3) (sz := 1) (Has.new v5 9 #[.string (wordS 3), .string (itoaB day), .string part]) (by have := HE5s.out.lt; omega) rfl (by simp [maxLen]), HB5s.out.alloc HB5s.out.size _⟩)
  refine hK.out _ _ (HK.out _ (HE8s.out)) (fun hHeld => ?_)
  clear hK K
  try simp only [Act.put, List.setIfInBounds_toArray, List.set_cons_zero, List.set_cons_succ]
  refine plI [(9, false)] ?_
  repeat ((first | ((with_reducible show Plan ((_, true) :: _) _); refine plF ?_) | (refine plR (v := ?_) ?_ ?_; rotate_left; focus (intro W hSW; (try dsimp only at hSW); go_simp; all_goals (with_reducible rfl)))); try simp only [Act.put, List.setIfInBounds_toArray, List.set_cons_zero, List.set_cons_succ])
  refine plE ?_
  refine wpAnyH_done (by kernel_rfl) ?_ _
  clear hHeld
  obtain ⟨v8, hv8⟩ : ∃ V, V = v5.alloc (.cells #[.string (wordS 3), .string (itoaB day), .string part] 9) := ⟨_, rfl⟩
  rw [← hv8] at HX ⊢
  clear hv8
  obtain ⟨x8, y8⟩ := HX.out.e.facts
  go_wp2_with (go_at_call 27; refine (join_any _ (evWords ⟨3, day, part, kind, into, slot, key, value, kl, kh, cl, ch, ll, lh⟩) _ _ (str_own (HX.out).o) (by show ([wordS 3, itoaB day, part] : List ByteArray).length ≤ _; simp) (by show (textB ⟨3, day, part, kind, into, slot, key, value, kl, kh, cl, ch, ll, lh⟩).size ≤ _; have := HTS.out; omega)).mono ?_; rintro e wj ⟨rfl, hbj⟩; have HBJ := Lib.hid ((HX.out).b.trans (hbj.mono (HX.out).b.size)); clear hbj)
  refine bodyPost_ret (v := .tuple #[.string (textB ⟨3, day, part, kind, into, slot, key, value, kl, kh, cl, ch, ll, lh⟩), .int .i64 0]) (by simp [results, Tryz.results26, go_sem]; rfl) rfl ?_
  exact ⟨rfl, HBJ.out⟩
set_option maxRecDepth 100000 in
set_option maxHeartbeats 8000000 in
theorem tx_5 (day : Int) (part kind into slot key value : ByteArray) (kl kh cl ch ll lh : Int) (w0 w : World) (ht : Tab w0) (hb0 : Below w0.heap.size w0 w) (hs : Ev.short ⟨5, day, part, kind, into, slot, key, value, kl, kh, cl, ch, ll, lh⟩) (hok : evOk ⟨5, day, part, kind, into, slot, key, value, kl, kh, cl, ch, ll, lh⟩ = true) :
    Calls Tryz.prog 26 #[.agg #[.int .i64 5, .int .i64 day, .string part, .string kind, .string into, .string slot, .string key, .string value, .int .i64 kl, .int .i64 kh, .int .i64 cl, .int .i64 ch, .int .i64 ll, .int .i64 lh]] w fun r w' => r = .returned (.tuple #[.string (textB ⟨5, day, part, kind, into, slot, key, value, kl, kh, cl, ch, ll, lh⟩), .int .i64 0]) ∧ Below w.heap.size w w' := by
  obtain ⟨i0, hi, hz0, hq1, hq2⟩ := info_parts info_str
  have HI := Lib.hid hi
  have HZ := Lib.hid hz0
  have HS := Lib.hid hs
  have HOK := Lib.hid hok
  have hsz0 := hb0.size
  have hday := (evOk_parts hok).2.1
  have hdr : -1000000000 ≤ day ∧ day ≤ 1000000000 := by dsimp only at hday; omega
  have HIT := Lib.hid (fun n hn W (h : Below w.heap.size w W) => itoaQ w0 ht n hn W (hb0.trans (h.mono hsz0)))
  have HTS := Lib.hid (text_size hok)
  clear hi hz0 hs hok ht hday
  go_enter Tryz.func26, Tryz.ntmps26
  go_wp2_with (go_at_call 29; refine (valid_any ⟨5, day, part, kind, into, slot, key, value, kl, kh, cl, ch, ll, lh⟩ _ HS.out).mono ?_; rintro e w2 ⟨rfl, hb2⟩; rw [HOK.out]; have HE2 := Lib.hid (Has.below (Has.new w 49 #[.int .i64 5, .int .i64 day, .string part, .string kind, .string into, .string slot, .string key, .string value, .int .i64 kl, .int .i64 kh, .int .i64 cl, .int .i64 ch, .int .i64 ll, .int .i64 lh]) hb2 (by simp)); have HB2 := Lib.hid (((Below.refl w.heap.size w).alloc (Nat.le_refl _) (.cells #[.int .i64 5, .int .i64 day, .string part, .string kind, .string into, .string slot, .string key, .string value, .int .i64 kl, .int .i64 kh, .int .i64 cl, .int .i64 ch, .int .i64 ll, .int .i64 lh] 49)).trans (hb2.mono (by simp))); obtain ⟨c2, f2⟩ := HE2.out.facts; clear hb2)
  have HK := Lib.hid (fun W (h : Has W w.heap.size 49 #[.int .i64 5, .int .i64 day, .string part, .string kind, .string into, .string slot, .string key, .string value, .int .i64 kl, .int .i64 kh, .int .i64 cl, .int .i64 ch, .int .i64 ll, .int .i64 lh]) => (⟨h.facts.1 0, h.facts.1 1, h.facts.1 2⟩ : (fun W => W.cell? ⟨w.heap.size, 0, none⟩ = some (.int .i64 5) ∧ W.cell? ⟨w.heap.size, 1, none⟩ = some (.int .i64 day) ∧ W.cell? ⟨w.heap.size, 2, none⟩ = some (.string part)) W))
  refine wp_region_held_drew (S := fun W => W.cell? ⟨w.heap.size, 0, none⟩ = some (.int .i64 5) ∧ W.cell? ⟨w.heap.size, 1, none⟩ = some (.int .i64 day) ∧ W.cell? ⟨w.heap.size, 2, none⟩ = some (.string part)) (by kernel_rfl) (HK.out _ (HE2.out.drew)) (fun hHeld => ?_)
  refine plI [(0, false), (1, false), (3, false), (4, false), (6, false), (7, false)] ?_
  repeat ((first | ((with_reducible show Plan ((_, true) :: _) _); refine plF ?_) | (refine plR (v := ?_) ?_ ?_; rotate_left; focus (intro W hSW; (try dsimp only at hSW); go_simp; all_goals (with_reducible rfl)))); try simp only [Act.put, List.setIfInBounds_toArray, List.set_cons_zero, List.set_cons_succ])
  refine plE ?_
  refine wpAnyH_ready (rs := [2]) (by kernel_rfl) (by simp) ?_
  refine AllReadyH.cons (o := ⟨_, _, _, _, _, _⟩) rfl (fun K hK => ?_) AllReadyH.nil
  go_simp
  go_at_call 43; refine (word_any _ _).mono ?_; rintro e v2 ⟨rfl, hb⟩; have HE2s := Lib.hid ((HE2.out.drew).below hb (HE2.out.drew).lt); have HB2s := Lib.hid ((HB2.out.drew).trans (hb.mono (HB2.out.drew).size)); clear hb
  refine hK.out _ _ (HK.out _ (HE2s.out)) (fun hHeld => ?_)
  clear hK K
  try simp only [Act.put, List.setIfInBounds_toArray, List.set_cons_zero, List.set_cons_succ]
  refine wpAnyH_ready (rs := [5]) (by kernel_rfl) (by simp) ?_
  refine AllReadyH.cons (o := ⟨_, _, _, _, _, _⟩) rfl (fun K hK => ?_) AllReadyH.nil
  go_simp
  go_at_call 44; refine (HIT.out day hdr _ HB2s.out).mono ?_; rintro e v5 ⟨rfl, hb⟩; have HE5s := Lib.hid ((HE2s.out).below hb (HE2s.out).lt); have HB5s := Lib.hid ((HB2s.out).trans (hb.mono (HB2s.out).size)); clear hb
  refine hK.out _ _ (HK.out _ (HE5s.out)) (fun hHeld => ?_)
  clear hK K
  try simp only [Act.put, List.setIfInBounds_toArray, List.set_cons_zero, List.set_cons_succ]
  refine wpAnyH_ready (rs := [8]) (by kernel_rfl) (by simp) ?_
  refine AllReadyH.cons (o := ⟨_, _, _, _, _, _⟩) rfl (fun K hK => ?_) AllReadyH.nil
  go_simp
  have HE8s := Lib.hid (HE5s.out.alloc (.cells #[.string (wordS 5), .string (itoaB day), .string part] 9))
  have HX := Lib.hid (show TxB w #[.int .i64 5, .int .i64 day, .string part, .string kind, .string into, .string slot, .string key, .string value, .int .i64 kl, .int .i64 kh, .int .i64 cl, .int .i64 ch, .int .i64 ll, .int .i64 lh] (.slice (some ⟨v5.heap.size, 0, none⟩) 3 3) [wordS 5, itoaB day, part] (v5.alloc (.cells #[.string (wordS 5), .string (itoaB day), .string part] 9)) from ⟨HE8s.out, own_of_has (n := 3) (sz := 1) (Has.new v5 9 #[.string (wordS 5), .string (itoaB day), .string part]) (by have := HE5s.out.lt; omega) rfl (by simp [maxLen]), HB5s.out.alloc HB5s.out.size _⟩)
  refine hK.out _ _ (HK.out _ (HE8s.out)) (fun hHeld => ?_)
  clear hK K
  try simp only [Act.put, List.setIfInBounds_toArray, List.set_cons_zero, List.set_cons_succ]
  refine plI [(9, false)] ?_
  repeat ((first | ((with_reducible show Plan ((_, true) :: _) _); refine plF ?_) | (refine plR (v := ?_) ?_ ?_; rotate_left; focus (intro W hSW; (try dsimp only at hSW); go_simp; all_goals (with_reducible rfl)))); try simp only [Act.put, List.setIfInBounds_toArray, List.set_cons_zero, List.set_cons_succ])
  refine plE ?_
  refine wpAnyH_done (by kernel_rfl) ?_ _
  clear hHeld
  obtain ⟨v8, hv8⟩ : ∃ V, V = v5.alloc (.cells #[.string (wordS 5), .string (itoaB day), .string part] 9) := ⟨_, rfl⟩
  rw [← hv8] at HX ⊢
  clear hv8
  obtain ⟨x8, y8⟩ := HX.out.e.facts
  go_wp2_with (go_at_call 27; refine (join_any _ (evWords ⟨5, day, part, kind, into, slot, key, value, kl, kh, cl, ch, ll, lh⟩) _ _ (str_own (HX.out).o) (by show ([wordS 5, itoaB day, part] : List ByteArray).length ≤ _; simp) (by show (textB ⟨5, day, part, kind, into, slot, key, value, kl, kh, cl, ch, ll, lh⟩).size ≤ _; have := HTS.out; omega)).mono ?_; rintro e wj ⟨rfl, hbj⟩; have HBJ := Lib.hid ((HX.out).b.trans (hbj.mono (HX.out).b.size)); clear hbj)
  refine bodyPost_ret (v := .tuple #[.string (textB ⟨5, day, part, kind, into, slot, key, value, kl, kh, cl, ch, ll, lh⟩), .int .i64 0]) (by simp [results, Tryz.results26, go_sem]; rfl) rfl ?_
  exact ⟨rfl, HBJ.out⟩
set_option maxRecDepth 100000 in
set_option maxHeartbeats 8000000 in
theorem tx_7 (day : Int) (part kind into slot key value : ByteArray) (kl kh cl ch ll lh : Int) (w0 w : World) (ht : Tab w0) (hb0 : Below w0.heap.size w0 w) (hs : Ev.short ⟨7, day, part, kind, into, slot, key, value, kl, kh, cl, ch, ll, lh⟩) (hok : evOk ⟨7, day, part, kind, into, slot, key, value, kl, kh, cl, ch, ll, lh⟩ = true) :
    Calls Tryz.prog 26 #[.agg #[.int .i64 7, .int .i64 day, .string part, .string kind, .string into, .string slot, .string key, .string value, .int .i64 kl, .int .i64 kh, .int .i64 cl, .int .i64 ch, .int .i64 ll, .int .i64 lh]] w fun r w' => r = .returned (.tuple #[.string (textB ⟨7, day, part, kind, into, slot, key, value, kl, kh, cl, ch, ll, lh⟩), .int .i64 0]) ∧ Below w.heap.size w w' := by
  obtain ⟨i0, hi, hz0, hq1, hq2⟩ := info_parts info_str
  have HI := Lib.hid hi
  have HZ := Lib.hid hz0
  have HS := Lib.hid hs
  have HOK := Lib.hid hok
  have hsz0 := hb0.size
  have hday := (evOk_parts hok).2.1
  have hdr : -1000000000 ≤ day ∧ day ≤ 1000000000 := by dsimp only at hday; omega
  have HIT := Lib.hid (fun n hn W (h : Below w.heap.size w W) => itoaQ w0 ht n hn W (hb0.trans (h.mono hsz0)))
  have HTS := Lib.hid (text_size hok)
  clear hi hz0 hs hok ht hday
  go_enter Tryz.func26, Tryz.ntmps26
  go_wp2_with (go_at_call 29; refine (valid_any ⟨7, day, part, kind, into, slot, key, value, kl, kh, cl, ch, ll, lh⟩ _ HS.out).mono ?_; rintro e w2 ⟨rfl, hb2⟩; rw [HOK.out]; have HE2 := Lib.hid (Has.below (Has.new w 49 #[.int .i64 7, .int .i64 day, .string part, .string kind, .string into, .string slot, .string key, .string value, .int .i64 kl, .int .i64 kh, .int .i64 cl, .int .i64 ch, .int .i64 ll, .int .i64 lh]) hb2 (by simp)); have HB2 := Lib.hid (((Below.refl w.heap.size w).alloc (Nat.le_refl _) (.cells #[.int .i64 7, .int .i64 day, .string part, .string kind, .string into, .string slot, .string key, .string value, .int .i64 kl, .int .i64 kh, .int .i64 cl, .int .i64 ch, .int .i64 ll, .int .i64 lh] 49)).trans (hb2.mono (by simp))); obtain ⟨c2, f2⟩ := HE2.out.facts; clear hb2)
  have HK := Lib.hid (fun W (h : Has W w.heap.size 49 #[.int .i64 7, .int .i64 day, .string part, .string kind, .string into, .string slot, .string key, .string value, .int .i64 kl, .int .i64 kh, .int .i64 cl, .int .i64 ch, .int .i64 ll, .int .i64 lh]) => (⟨h.facts.1 0, h.facts.1 1, h.facts.1 2⟩ : (fun W => W.cell? ⟨w.heap.size, 0, none⟩ = some (.int .i64 7) ∧ W.cell? ⟨w.heap.size, 1, none⟩ = some (.int .i64 day) ∧ W.cell? ⟨w.heap.size, 2, none⟩ = some (.string part)) W))
  refine wp_region_held_drew (S := fun W => W.cell? ⟨w.heap.size, 0, none⟩ = some (.int .i64 7) ∧ W.cell? ⟨w.heap.size, 1, none⟩ = some (.int .i64 day) ∧ W.cell? ⟨w.heap.size, 2, none⟩ = some (.string part)) (by kernel_rfl) (HK.out _ (HE2.out.drew)) (fun hHeld => ?_)
  refine plI [(0, false), (1, false), (3, false), (4, false), (6, false), (7, false)] ?_
  repeat ((first | ((with_reducible show Plan ((_, true) :: _) _); refine plF ?_) | (refine plR (v := ?_) ?_ ?_; rotate_left; focus (intro W hSW; (try dsimp only at hSW); go_simp; all_goals (with_reducible rfl)))); try simp only [Act.put, List.setIfInBounds_toArray, List.set_cons_zero, List.set_cons_succ])
  refine plE ?_
  refine wpAnyH_ready (rs := [2]) (by kernel_rfl) (by simp) ?_
  refine AllReadyH.cons (o := ⟨_, _, _, _, _, _⟩) rfl (fun K hK => ?_) AllReadyH.nil
  go_simp
  go_at_call 43; refine (word_any _ _).mono ?_; rintro e v2 ⟨rfl, hb⟩; have HE2s := Lib.hid ((HE2.out.drew).below hb (HE2.out.drew).lt); have HB2s := Lib.hid ((HB2.out.drew).trans (hb.mono (HB2.out.drew).size)); clear hb
  refine hK.out _ _ (HK.out _ (HE2s.out)) (fun hHeld => ?_)
  clear hK K
  try simp only [Act.put, List.setIfInBounds_toArray, List.set_cons_zero, List.set_cons_succ]
  refine wpAnyH_ready (rs := [5]) (by kernel_rfl) (by simp) ?_
  refine AllReadyH.cons (o := ⟨_, _, _, _, _, _⟩) rfl (fun K hK => ?_) AllReadyH.nil
  go_simp
  go_at_call 44; refine (HIT.out day hdr _ HB2s.out).mono ?_; rintro e v5 ⟨rfl, hb⟩; have HE5s := Lib.hid ((HE2s.out).below hb (HE2s.out).lt); have HB5s := Lib.hid ((HB2s.out).trans (hb.mono (HB2s.out).size)); clear hb
  refine hK.out _ _ (HK.out _ (HE5s.out)) (fun hHeld => ?_)
  clear hK K
  try simp only [Act.put, List.setIfInBounds_toArray, List.set_cons_zero, List.set_cons_succ]
  refine wpAnyH_ready (rs := [8]) (by kernel_rfl) (by simp) ?_
  refine AllReadyH.cons (o := ⟨_, _, _, _, _, _⟩) rfl (fun K hK => ?_) AllReadyH.nil
  go_simp
  have HE8s := Lib.hid (HE5s.out.alloc (.cells #[.string (wordS 7), .string (itoaB day), .string part] 9))
  have HX := Lib.hid (show TxB w #[.int .i64 7, .int .i64 day, .string part, .string kind, .string into, .string slot, .string key, .string value, .int .i64 kl, .int .i64 kh, .int .i64 cl, .int .i64 ch, .int .i64 ll, .int .i64 lh] (.slice (some ⟨v5.heap.size, 0, none⟩) 3 3) [wordS 7, itoaB day, part] (v5.alloc (.cells #[.string (wordS 7), .string (itoaB day), .string part] 9)) from ⟨HE8s.out, own_of_has (n := 3) (sz := 1) (Has.new v5 9 #[.string (wordS 7), .string (itoaB day), .string part]) (by have := HE5s.out.lt; omega) rfl (by simp [maxLen]), HB5s.out.alloc HB5s.out.size _⟩)
  refine hK.out _ _ (HK.out _ (HE8s.out)) (fun hHeld => ?_)
  clear hK K
  try simp only [Act.put, List.setIfInBounds_toArray, List.set_cons_zero, List.set_cons_succ]
  refine plI [(9, false)] ?_
  repeat ((first | ((with_reducible show Plan ((_, true) :: _) _); refine plF ?_) | (refine plR (v := ?_) ?_ ?_; rotate_left; focus (intro W hSW; (try dsimp only at hSW); go_simp; all_goals (with_reducible rfl)))); try simp only [Act.put, List.setIfInBounds_toArray, List.set_cons_zero, List.set_cons_succ])
  refine plE ?_
  refine wpAnyH_done (by kernel_rfl) ?_ _
  clear hHeld
  obtain ⟨v8, hv8⟩ : ∃ V, V = v5.alloc (.cells #[.string (wordS 7), .string (itoaB day), .string part] 9) := ⟨_, rfl⟩
  rw [← hv8] at HX ⊢
  clear hv8
  obtain ⟨x8, y8⟩ := HX.out.e.facts
  go_wp2_with (go_at_call 27; refine (join_any _ (evWords ⟨7, day, part, kind, into, slot, key, value, kl, kh, cl, ch, ll, lh⟩) _ _ (str_own (HX.out).o) (by show ([wordS 7, itoaB day, part] : List ByteArray).length ≤ _; simp) (by show (textB ⟨7, day, part, kind, into, slot, key, value, kl, kh, cl, ch, ll, lh⟩).size ≤ _; have := HTS.out; omega)).mono ?_; rintro e wj ⟨rfl, hbj⟩; have HBJ := Lib.hid ((HX.out).b.trans (hbj.mono (HX.out).b.size)); clear hbj)
  refine bodyPost_ret (v := .tuple #[.string (textB ⟨7, day, part, kind, into, slot, key, value, kl, kh, cl, ch, ll, lh⟩), .int .i64 0]) (by simp [results, Tryz.results26, go_sem]; rfl) rfl ?_
  exact ⟨rfl, HBJ.out⟩
set_option maxRecDepth 100000 in
set_option maxHeartbeats 8000000 in
theorem tx_1 (day : Int) (part kind into slot key value : ByteArray) (kl kh cl ch ll lh : Int) (w0 w : World) (ht : Tab w0) (hb0 : Below w0.heap.size w0 w) (hs : Ev.short ⟨1, day, part, kind, into, slot, key, value, kl, kh, cl, ch, ll, lh⟩) (hok : evOk ⟨1, day, part, kind, into, slot, key, value, kl, kh, cl, ch, ll, lh⟩ = true) :
    Calls Tryz.prog 26 #[.agg #[.int .i64 1, .int .i64 day, .string part, .string kind, .string into, .string slot, .string key, .string value, .int .i64 kl, .int .i64 kh, .int .i64 cl, .int .i64 ch, .int .i64 ll, .int .i64 lh]] w fun r w' => r = .returned (.tuple #[.string (textB ⟨1, day, part, kind, into, slot, key, value, kl, kh, cl, ch, ll, lh⟩), .int .i64 0]) ∧ Below w.heap.size w w' := by
  obtain ⟨i0, hi, hz0, hq1, hq2⟩ := info_parts info_str
  have HI := Lib.hid hi
  have HZ := Lib.hid hz0
  have HS := Lib.hid hs
  have HOK := Lib.hid hok
  have hsz0 := hb0.size
  have hday := (evOk_parts hok).2.1
  have hdr : -1000000000 ≤ day ∧ day ≤ 1000000000 := by dsimp only at hday; omega
  have HIT := Lib.hid (fun n hn W (h : Below w.heap.size w W) => itoaQ w0 ht n hn W (hb0.trans (h.mono hsz0)))
  have HTS := Lib.hid (text_size hok)
  clear hi hz0 hs hok ht hday
  go_enter Tryz.func26, Tryz.ntmps26
  go_wp2_with (go_at_call 29; refine (valid_any ⟨1, day, part, kind, into, slot, key, value, kl, kh, cl, ch, ll, lh⟩ _ HS.out).mono ?_; rintro e w2 ⟨rfl, hb2⟩; rw [HOK.out]; have HE2 := Lib.hid (Has.below (Has.new w 49 #[.int .i64 1, .int .i64 day, .string part, .string kind, .string into, .string slot, .string key, .string value, .int .i64 kl, .int .i64 kh, .int .i64 cl, .int .i64 ch, .int .i64 ll, .int .i64 lh]) hb2 (by simp)); have HB2 := Lib.hid (((Below.refl w.heap.size w).alloc (Nat.le_refl _) (.cells #[.int .i64 1, .int .i64 day, .string part, .string kind, .string into, .string slot, .string key, .string value, .int .i64 kl, .int .i64 kh, .int .i64 cl, .int .i64 ch, .int .i64 ll, .int .i64 lh] 49)).trans (hb2.mono (by simp))); obtain ⟨c2, f2⟩ := HE2.out.facts; clear hb2)
  have HK := Lib.hid (fun W (h : Has W w.heap.size 49 #[.int .i64 1, .int .i64 day, .string part, .string kind, .string into, .string slot, .string key, .string value, .int .i64 kl, .int .i64 kh, .int .i64 cl, .int .i64 ch, .int .i64 ll, .int .i64 lh]) => (⟨h.facts.1 0, h.facts.1 1, h.facts.1 2⟩ : (fun W => W.cell? ⟨w.heap.size, 0, none⟩ = some (.int .i64 1) ∧ W.cell? ⟨w.heap.size, 1, none⟩ = some (.int .i64 day) ∧ W.cell? ⟨w.heap.size, 2, none⟩ = some (.string part)) W))
  refine wp_region_held_drew (S := fun W => W.cell? ⟨w.heap.size, 0, none⟩ = some (.int .i64 1) ∧ W.cell? ⟨w.heap.size, 1, none⟩ = some (.int .i64 day) ∧ W.cell? ⟨w.heap.size, 2, none⟩ = some (.string part)) (by kernel_rfl) (HK.out _ (HE2.out.drew)) (fun hHeld => ?_)
  refine plI [(0, false), (1, false), (3, false), (4, false), (6, false), (7, false)] ?_
  repeat ((first | ((with_reducible show Plan ((_, true) :: _) _); refine plF ?_) | (refine plR (v := ?_) ?_ ?_; rotate_left; focus (intro W hSW; (try dsimp only at hSW); go_simp; all_goals (with_reducible rfl)))); try simp only [Act.put, List.setIfInBounds_toArray, List.set_cons_zero, List.set_cons_succ])
  refine plE ?_
  refine wpAnyH_ready (rs := [2]) (by kernel_rfl) (by simp) ?_
  refine AllReadyH.cons (o := ⟨_, _, _, _, _, _⟩) rfl (fun K hK => ?_) AllReadyH.nil
  go_simp
  go_at_call 43; refine (word_any _ _).mono ?_; rintro e v2 ⟨rfl, hb⟩; have HE2s := Lib.hid ((HE2.out.drew).below hb (HE2.out.drew).lt); have HB2s := Lib.hid ((HB2.out.drew).trans (hb.mono (HB2.out.drew).size)); clear hb
  refine hK.out _ _ (HK.out _ (HE2s.out)) (fun hHeld => ?_)
  clear hK K
  try simp only [Act.put, List.setIfInBounds_toArray, List.set_cons_zero, List.set_cons_succ]
  refine wpAnyH_ready (rs := [5]) (by kernel_rfl) (by simp) ?_
  refine AllReadyH.cons (o := ⟨_, _, _, _, _, _⟩) rfl (fun K hK => ?_) AllReadyH.nil
  go_simp
  go_at_call 44; refine (HIT.out day hdr _ HB2s.out).mono ?_; rintro e v5 ⟨rfl, hb⟩; have HE5s := Lib.hid ((HE2s.out).below hb (HE2s.out).lt); have HB5s := Lib.hid ((HB2s.out).trans (hb.mono (HB2s.out).size)); clear hb
  refine hK.out _ _ (HK.out _ (HE5s.out)) (fun hHeld => ?_)
  clear hK K
  try simp only [Act.put, List.setIfInBounds_toArray, List.set_cons_zero, List.set_cons_succ]
  refine wpAnyH_ready (rs := [8]) (by kernel_rfl) (by simp) ?_
  refine AllReadyH.cons (o := ⟨_, _, _, _, _, _⟩) rfl (fun K hK => ?_) AllReadyH.nil
  go_simp
  have HE8s := Lib.hid (HE5s.out.alloc (.cells #[.string (wordS 1), .string (itoaB day), .string part] 9))
  have HX := Lib.hid (show TxB w #[.int .i64 1, .int .i64 day, .string part, .string kind, .string into, .string slot, .string key, .string value, .int .i64 kl, .int .i64 kh, .int .i64 cl, .int .i64 ch, .int .i64 ll, .int .i64 lh] (.slice (some ⟨v5.heap.size, 0, none⟩) 3 3) [wordS 1, itoaB day, part] (v5.alloc (.cells #[.string (wordS 1), .string (itoaB day), .string part] 9)) from ⟨HE8s.out, own_of_has (n := 3) (sz := 1) (Has.new v5 9 #[.string (wordS 1), .string (itoaB day), .string part]) (by have := HE5s.out.lt; omega) rfl (by simp [maxLen]), HB5s.out.alloc HB5s.out.size _⟩)
  refine hK.out _ _ (HK.out _ (HE8s.out)) (fun hHeld => ?_)
  clear hK K
  try simp only [Act.put, List.setIfInBounds_toArray, List.set_cons_zero, List.set_cons_succ]
  refine plI [(9, false)] ?_
  repeat ((first | ((with_reducible show Plan ((_, true) :: _) _); refine plF ?_) | (refine plR (v := ?_) ?_ ?_; rotate_left; focus (intro W hSW; (try dsimp only at hSW); go_simp; all_goals (with_reducible rfl)))); try simp only [Act.put, List.setIfInBounds_toArray, List.set_cons_zero, List.set_cons_succ])
  refine plE ?_
  refine wpAnyH_done (by kernel_rfl) ?_ _
  clear hHeld
  obtain ⟨v8, hv8⟩ : ∃ V, V = v5.alloc (.cells #[.string (wordS 1), .string (itoaB day), .string part] 9) := ⟨_, rfl⟩
  rw [← hv8] at HX ⊢
  clear hv8
  obtain ⟨x8, y8⟩ := HX.out.e.facts
  go_wp2_with (first | ((with_reducible show wpList _ _ _ (Oper.mk (some 27) _ _ _ _ _ :: _) _ _); refine wpList_app rfl (.tmp 23) (.tmp 26) 41 rfl (w.heap.size + 1) 9 i0 (.string ⟨#[]⟩) 1 16 Tryz.underlying41 HI.out HZ.out hq1 hq2 rfl (by decide) _ _ _ rfl ((HX.out).alloc (.cells #[.string kind] 9)).o (some ⟨v8.heap.size, 0, none⟩) 1 1 (([kind] : List ByteArray).map .string) rfl rfl (.inr ⟨_, rfl, lit_src v8 [kind] 9⟩) (strs_one (l := [kind])) (by unfold maxLen; simp) (by simp) (by have := (HX.out).b.size; have := (HX.out).e.lt; simp; omega) ?_; intro va wa hoa hga; have HXa := Lib.hid (((HX.out).alloc (.cells #[.string kind] 9)).more (more := [kind]) hga hoa); obtain ⟨xa, ya⟩ := HXa.out.e.facts; clear hoa hga) | (go_at_call 27; refine (join_any _ (evWords ⟨1, day, part, kind, into, slot, key, value, kl, kh, cl, ch, ll, lh⟩) _ _ (str_own (HXa.out).o) (by show ([wordS 1, itoaB day, part] ++ [kind] : List ByteArray).length ≤ _; simp) (by show (textB ⟨1, day, part, kind, into, slot, key, value, kl, kh, cl, ch, ll, lh⟩).size ≤ _; have := HTS.out; omega)).mono ?_; rintro e wj ⟨rfl, hbj⟩; have HBJ := Lib.hid ((HXa.out).b.trans (hbj.mono (HXa.out).b.size)); clear hbj))
  refine bodyPost_ret (v := .tuple #[.string (textB ⟨1, day, part, kind, into, slot, key, value, kl, kh, cl, ch, ll, lh⟩), .int .i64 0]) (by simp [results, Tryz.results26, go_sem]; rfl) rfl ?_
  exact ⟨rfl, HBJ.out⟩
set_option maxRecDepth 100000 in
set_option maxHeartbeats 8000000 in
theorem tx_2 (day : Int) (part kind into slot key value : ByteArray) (kl kh cl ch ll lh : Int) (w0 w : World) (ht : Tab w0) (hb0 : Below w0.heap.size w0 w) (hs : Ev.short ⟨2, day, part, kind, into, slot, key, value, kl, kh, cl, ch, ll, lh⟩) (hok : evOk ⟨2, day, part, kind, into, slot, key, value, kl, kh, cl, ch, ll, lh⟩ = true) :
    Calls Tryz.prog 26 #[.agg #[.int .i64 2, .int .i64 day, .string part, .string kind, .string into, .string slot, .string key, .string value, .int .i64 kl, .int .i64 kh, .int .i64 cl, .int .i64 ch, .int .i64 ll, .int .i64 lh]] w fun r w' => r = .returned (.tuple #[.string (textB ⟨2, day, part, kind, into, slot, key, value, kl, kh, cl, ch, ll, lh⟩), .int .i64 0]) ∧ Below w.heap.size w w' := by
  obtain ⟨i0, hi, hz0, hq1, hq2⟩ := info_parts info_str
  have HI := Lib.hid hi
  have HZ := Lib.hid hz0
  have HS := Lib.hid hs
  have HOK := Lib.hid hok
  have hsz0 := hb0.size
  have hday := (evOk_parts hok).2.1
  have hdr : -1000000000 ≤ day ∧ day ≤ 1000000000 := by dsimp only at hday; omega
  have HIT := Lib.hid (fun n hn W (h : Below w.heap.size w W) => itoaQ w0 ht n hn W (hb0.trans (h.mono hsz0)))
  have HTS := Lib.hid (text_size hok)
  clear hi hz0 hs hok ht hday
  go_enter Tryz.func26, Tryz.ntmps26
  go_wp2_with (go_at_call 29; refine (valid_any ⟨2, day, part, kind, into, slot, key, value, kl, kh, cl, ch, ll, lh⟩ _ HS.out).mono ?_; rintro e w2 ⟨rfl, hb2⟩; rw [HOK.out]; have HE2 := Lib.hid (Has.below (Has.new w 49 #[.int .i64 2, .int .i64 day, .string part, .string kind, .string into, .string slot, .string key, .string value, .int .i64 kl, .int .i64 kh, .int .i64 cl, .int .i64 ch, .int .i64 ll, .int .i64 lh]) hb2 (by simp)); have HB2 := Lib.hid (((Below.refl w.heap.size w).alloc (Nat.le_refl _) (.cells #[.int .i64 2, .int .i64 day, .string part, .string kind, .string into, .string slot, .string key, .string value, .int .i64 kl, .int .i64 kh, .int .i64 cl, .int .i64 ch, .int .i64 ll, .int .i64 lh] 49)).trans (hb2.mono (by simp))); obtain ⟨c2, f2⟩ := HE2.out.facts; clear hb2)
  have HK := Lib.hid (fun W (h : Has W w.heap.size 49 #[.int .i64 2, .int .i64 day, .string part, .string kind, .string into, .string slot, .string key, .string value, .int .i64 kl, .int .i64 kh, .int .i64 cl, .int .i64 ch, .int .i64 ll, .int .i64 lh]) => (⟨h.facts.1 0, h.facts.1 1, h.facts.1 2⟩ : (fun W => W.cell? ⟨w.heap.size, 0, none⟩ = some (.int .i64 2) ∧ W.cell? ⟨w.heap.size, 1, none⟩ = some (.int .i64 day) ∧ W.cell? ⟨w.heap.size, 2, none⟩ = some (.string part)) W))
  refine wp_region_held_drew (S := fun W => W.cell? ⟨w.heap.size, 0, none⟩ = some (.int .i64 2) ∧ W.cell? ⟨w.heap.size, 1, none⟩ = some (.int .i64 day) ∧ W.cell? ⟨w.heap.size, 2, none⟩ = some (.string part)) (by kernel_rfl) (HK.out _ (HE2.out.drew)) (fun hHeld => ?_)
  refine plI [(0, false), (1, false), (3, false), (4, false), (6, false), (7, false)] ?_
  repeat ((first | ((with_reducible show Plan ((_, true) :: _) _); refine plF ?_) | (refine plR (v := ?_) ?_ ?_; rotate_left; focus (intro W hSW; (try dsimp only at hSW); go_simp; all_goals (with_reducible rfl)))); try simp only [Act.put, List.setIfInBounds_toArray, List.set_cons_zero, List.set_cons_succ])
  refine plE ?_
  refine wpAnyH_ready (rs := [2]) (by kernel_rfl) (by simp) ?_
  refine AllReadyH.cons (o := ⟨_, _, _, _, _, _⟩) rfl (fun K hK => ?_) AllReadyH.nil
  go_simp
  go_at_call 43; refine (word_any _ _).mono ?_; rintro e v2 ⟨rfl, hb⟩; have HE2s := Lib.hid ((HE2.out.drew).below hb (HE2.out.drew).lt); have HB2s := Lib.hid ((HB2.out.drew).trans (hb.mono (HB2.out.drew).size)); clear hb
  refine hK.out _ _ (HK.out _ (HE2s.out)) (fun hHeld => ?_)
  clear hK K
  try simp only [Act.put, List.setIfInBounds_toArray, List.set_cons_zero, List.set_cons_succ]
  refine wpAnyH_ready (rs := [5]) (by kernel_rfl) (by simp) ?_
  refine AllReadyH.cons (o := ⟨_, _, _, _, _, _⟩) rfl (fun K hK => ?_) AllReadyH.nil
  go_simp
  go_at_call 44; refine (HIT.out day hdr _ HB2s.out).mono ?_; rintro e v5 ⟨rfl, hb⟩; have HE5s := Lib.hid ((HE2s.out).below hb (HE2s.out).lt); have HB5s := Lib.hid ((HB2s.out).trans (hb.mono (HB2s.out).size)); clear hb
  refine hK.out _ _ (HK.out _ (HE5s.out)) (fun hHeld => ?_)
  clear hK K
  try simp only [Act.put, List.setIfInBounds_toArray, List.set_cons_zero, List.set_cons_succ]
  refine wpAnyH_ready (rs := [8]) (by kernel_rfl) (by simp) ?_
  refine AllReadyH.cons (o := ⟨_, _, _, _, _, _⟩) rfl (fun K hK => ?_) AllReadyH.nil
  go_simp
  have HE8s := Lib.hid (HE5s.out.alloc (.cells #[.string (wordS 2), .string (itoaB day), .string part] 9))
  have HX := Lib.hid (show TxB w #[.int .i64 2, .int .i64 day, .string part, .string kind, .string into, .string slot, .string key, .string value, .int .i64 kl, .int .i64 kh, .int .i64 cl, .int .i64 ch, .int .i64 ll, .int .i64 lh] (.slice (some ⟨v5.heap.size, 0, none⟩) 3 3) [wordS 2, itoaB day, part] (v5.alloc (.cells #[.string (wordS 2), .string (itoaB day), .string part] 9)) from ⟨HE8s.out, own_of_has (n := 3) (sz := 1) (Has.new v5 9 #[.string (wordS 2), .string (itoaB day), .string part]) (by have := HE5s.out.lt; omega) rfl (by simp [maxLen]), HB5s.out.alloc HB5s.out.size _⟩)
  refine hK.out _ _ (HK.out _ (HE8s.out)) (fun hHeld => ?_)
  clear hK K
  try simp only [Act.put, List.setIfInBounds_toArray, List.set_cons_zero, List.set_cons_succ]
  refine plI [(9, false)] ?_
  repeat ((first | ((with_reducible show Plan ((_, true) :: _) _); refine plF ?_) | (refine plR (v := ?_) ?_ ?_; rotate_left; focus (intro W hSW; (try dsimp only at hSW); go_simp; all_goals (with_reducible rfl)))); try simp only [Act.put, List.setIfInBounds_toArray, List.set_cons_zero, List.set_cons_succ])
  refine plE ?_
  refine wpAnyH_done (by kernel_rfl) ?_ _
  clear hHeld
  obtain ⟨v8, hv8⟩ : ∃ V, V = v5.alloc (.cells #[.string (wordS 2), .string (itoaB day), .string part] 9) := ⟨_, rfl⟩
  rw [← hv8] at HX ⊢
  clear hv8
  obtain ⟨x8, y8⟩ := HX.out.e.facts
  go_wp2_with (first | ((with_reducible show wpList _ _ _ (Oper.mk (some 36) _ _ _ _ _ :: _) _ _); refine wpList_app rfl (.tmp 30) (.tmp 35) 41 rfl (w.heap.size + 1) 9 i0 (.string ⟨#[]⟩) 1 16 Tryz.underlying41 HI.out HZ.out hq1 hq2 rfl (by decide) _ _ _ rfl ((HX.out).alloc (.cells #[.string into, .string slot] 9)).o (some ⟨v8.heap.size, 0, none⟩) 2 2 (([into, slot] : List ByteArray).map .string) rfl rfl (.inr ⟨_, rfl, lit_src v8 [into, slot] 9⟩) (strs_one (l := [into, slot])) (by unfold maxLen; simp) (by simp) (by have := (HX.out).b.size; have := (HX.out).e.lt; simp; omega) ?_; intro va wa hoa hga; have HXa := Lib.hid (((HX.out).alloc (.cells #[.string into, .string slot] 9)).more (more := [into, slot]) hga hoa); obtain ⟨xa, ya⟩ := HXa.out.e.facts; clear hoa hga) | (go_at_call 27; refine (join_any _ (evWords ⟨2, day, part, kind, into, slot, key, value, kl, kh, cl, ch, ll, lh⟩) _ _ (str_own (HXa.out).o) (by show ([wordS 2, itoaB day, part] ++ [into, slot] : List ByteArray).length ≤ _; simp) (by show (textB ⟨2, day, part, kind, into, slot, key, value, kl, kh, cl, ch, ll, lh⟩).size ≤ _; have := HTS.out; omega)).mono ?_; rintro e wj ⟨rfl, hbj⟩; have HBJ := Lib.hid ((HXa.out).b.trans (hbj.mono (HXa.out).b.size)); clear hbj))
  refine bodyPost_ret (v := .tuple #[.string (textB ⟨2, day, part, kind, into, slot, key, value, kl, kh, cl, ch, ll, lh⟩), .int .i64 0]) (by simp [results, Tryz.results26, go_sem]; rfl) rfl ?_
  exact ⟨rfl, HBJ.out⟩
set_option maxRecDepth 100000 in
set_option maxHeartbeats 8000000 in
theorem tx_6 (day : Int) (part kind into slot key value : ByteArray) (kl kh cl ch ll lh : Int) (w0 w : World) (ht : Tab w0) (hb0 : Below w0.heap.size w0 w) (hs : Ev.short ⟨6, day, part, kind, into, slot, key, value, kl, kh, cl, ch, ll, lh⟩) (hok : evOk ⟨6, day, part, kind, into, slot, key, value, kl, kh, cl, ch, ll, lh⟩ = true) :
    Calls Tryz.prog 26 #[.agg #[.int .i64 6, .int .i64 day, .string part, .string kind, .string into, .string slot, .string key, .string value, .int .i64 kl, .int .i64 kh, .int .i64 cl, .int .i64 ch, .int .i64 ll, .int .i64 lh]] w fun r w' => r = .returned (.tuple #[.string (textB ⟨6, day, part, kind, into, slot, key, value, kl, kh, cl, ch, ll, lh⟩), .int .i64 0]) ∧ Below w.heap.size w w' := by
  obtain ⟨i0, hi, hz0, hq1, hq2⟩ := info_parts info_str
  have HI := Lib.hid hi
  have HZ := Lib.hid hz0
  have HS := Lib.hid hs
  have HOK := Lib.hid hok
  have hsz0 := hb0.size
  have hday := (evOk_parts hok).2.1
  have hdr : -1000000000 ≤ day ∧ day ≤ 1000000000 := by dsimp only at hday; omega
  have HIT := Lib.hid (fun n hn W (h : Below w.heap.size w W) => itoaQ w0 ht n hn W (hb0.trans (h.mono hsz0)))
  have HTS := Lib.hid (text_size hok)
  have hvl : value.size ≤ 1000000 := by have := note_len hok; omega
  clear hi hz0 hs hok ht hday
  go_enter Tryz.func26, Tryz.ntmps26
  go_wp2_with (go_at_call 29; refine (valid_any ⟨6, day, part, kind, into, slot, key, value, kl, kh, cl, ch, ll, lh⟩ _ HS.out).mono ?_; rintro e w2 ⟨rfl, hb2⟩; rw [HOK.out]; have HE2 := Lib.hid (Has.below (Has.new w 49 #[.int .i64 6, .int .i64 day, .string part, .string kind, .string into, .string slot, .string key, .string value, .int .i64 kl, .int .i64 kh, .int .i64 cl, .int .i64 ch, .int .i64 ll, .int .i64 lh]) hb2 (by simp)); have HB2 := Lib.hid (((Below.refl w.heap.size w).alloc (Nat.le_refl _) (.cells #[.int .i64 6, .int .i64 day, .string part, .string kind, .string into, .string slot, .string key, .string value, .int .i64 kl, .int .i64 kh, .int .i64 cl, .int .i64 ch, .int .i64 ll, .int .i64 lh] 49)).trans (hb2.mono (by simp))); obtain ⟨c2, f2⟩ := HE2.out.facts; clear hb2)
  have HK := Lib.hid (fun W (h : Has W w.heap.size 49 #[.int .i64 6, .int .i64 day, .string part, .string kind, .string into, .string slot, .string key, .string value, .int .i64 kl, .int .i64 kh, .int .i64 cl, .int .i64 ch, .int .i64 ll, .int .i64 lh]) => (⟨h.facts.1 0, h.facts.1 1, h.facts.1 2⟩ : (fun W => W.cell? ⟨w.heap.size, 0, none⟩ = some (.int .i64 6) ∧ W.cell? ⟨w.heap.size, 1, none⟩ = some (.int .i64 day) ∧ W.cell? ⟨w.heap.size, 2, none⟩ = some (.string part)) W))
  refine wp_region_held_drew (S := fun W => W.cell? ⟨w.heap.size, 0, none⟩ = some (.int .i64 6) ∧ W.cell? ⟨w.heap.size, 1, none⟩ = some (.int .i64 day) ∧ W.cell? ⟨w.heap.size, 2, none⟩ = some (.string part)) (by kernel_rfl) (HK.out _ (HE2.out.drew)) (fun hHeld => ?_)
  refine plI [(0, false), (1, false), (3, false), (4, false), (6, false), (7, false)] ?_
  repeat ((first | ((with_reducible show Plan ((_, true) :: _) _); refine plF ?_) | (refine plR (v := ?_) ?_ ?_; rotate_left; focus (intro W hSW; (try dsimp only at hSW); go_simp; all_goals (with_reducible rfl)))); try simp only [Act.put, List.setIfInBounds_toArray, List.set_cons_zero, List.set_cons_succ])
  refine plE ?_
  refine wpAnyH_ready (rs := [2]) (by kernel_rfl) (by simp) ?_
  refine AllReadyH.cons (o := ⟨_, _, _, _, _, _⟩) rfl (fun K hK => ?_) AllReadyH.nil
  go_simp
  go_at_call 43; refine (word_any _ _).mono ?_; rintro e v2 ⟨rfl, hb⟩; have HE2s := Lib.hid ((HE2.out.drew).below hb (HE2.out.drew).lt); have HB2s := Lib.hid ((HB2.out.drew).trans (hb.mono (HB2.out.drew).size)); clear hb
  refine hK.out _ _ (HK.out _ (HE2s.out)) (fun hHeld => ?_)
  clear hK K
  try simp only [Act.put, List.setIfInBounds_toArray, List.set_cons_zero, List.set_cons_succ]
  refine wpAnyH_ready (rs := [5]) (by kernel_rfl) (by simp) ?_
  refine AllReadyH.cons (o := ⟨_, _, _, _, _, _⟩) rfl (fun K hK => ?_) AllReadyH.nil
  go_simp
  go_at_call 44; refine (HIT.out day hdr _ HB2s.out).mono ?_; rintro e v5 ⟨rfl, hb⟩; have HE5s := Lib.hid ((HE2s.out).below hb (HE2s.out).lt); have HB5s := Lib.hid ((HB2s.out).trans (hb.mono (HB2s.out).size)); clear hb
  refine hK.out _ _ (HK.out _ (HE5s.out)) (fun hHeld => ?_)
  clear hK K
  try simp only [Act.put, List.setIfInBounds_toArray, List.set_cons_zero, List.set_cons_succ]
  refine wpAnyH_ready (rs := [8]) (by kernel_rfl) (by simp) ?_
  refine AllReadyH.cons (o := ⟨_, _, _, _, _, _⟩) rfl (fun K hK => ?_) AllReadyH.nil
  go_simp
  have HE8s := Lib.hid (HE5s.out.alloc (.cells #[.string (wordS 6), .string (itoaB day), .string part] 9))
  have HX := Lib.hid (show TxB w #[.int .i64 6, .int .i64 day, .string part, .string kind, .string into, .string slot, .string key, .string value, .int .i64 kl, .int .i64 kh, .int .i64 cl, .int .i64 ch, .int .i64 ll, .int .i64 lh] (.slice (some ⟨v5.heap.size, 0, none⟩) 3 3) [wordS 6, itoaB day, part] (v5.alloc (.cells #[.string (wordS 6), .string (itoaB day), .string part] 9)) from ⟨HE8s.out, own_of_has (n := 3) (sz := 1) (Has.new v5 9 #[.string (wordS 6), .string (itoaB day), .string part]) (by have := HE5s.out.lt; omega) rfl (by simp [maxLen]), HB5s.out.alloc HB5s.out.size _⟩)
  refine hK.out _ _ (HK.out _ (HE8s.out)) (fun hHeld => ?_)
  clear hK K
  try simp only [Act.put, List.setIfInBounds_toArray, List.set_cons_zero, List.set_cons_succ]
  refine plI [(9, false)] ?_
  repeat ((first | ((with_reducible show Plan ((_, true) :: _) _); refine plF ?_) | (refine plR (v := ?_) ?_ ?_; rotate_left; focus (intro W hSW; (try dsimp only at hSW); go_simp; all_goals (with_reducible rfl)))); try simp only [Act.put, List.setIfInBounds_toArray, List.set_cons_zero, List.set_cons_succ])
  refine plE ?_
  refine wpAnyH_done (by kernel_rfl) ?_ _
  clear hHeld
  obtain ⟨v8, hv8⟩ : ∃ V, V = v5.alloc (.cells #[.string (wordS 6), .string (itoaB day), .string part] 9) := ⟨_, rfl⟩
  rw [← hv8] at HX ⊢
  clear hv8
  obtain ⟨x8, y8⟩ := HX.out.e.facts
  have HJ := Lib.hid (fun W (h : Has W w.heap.size 49 #[.int .i64 6, .int .i64 day, .string part, .string kind, .string into, .string slot, .string key, .string value, .int .i64 kl, .int .i64 kh, .int .i64 cl, .int .i64 ch, .int .i64 ll, .int .i64 lh]) => (⟨h.facts.1 6, h.facts.1 7⟩ : (fun W => W.cell? ⟨w.heap.size, 6, none⟩ = some (.string key) ∧ W.cell? ⟨w.heap.size, 7, none⟩ = some (.string value)) W))
  go_wp2_with fail
  refine wp_region_held_drew (S := fun W => W.cell? ⟨w.heap.size, 6, none⟩ = some (.string key) ∧ W.cell? ⟨w.heap.size, 7, none⟩ = some (.string value)) (by kernel_rfl) (HJ.out _ HX.out.drew.e) (fun hHeld => ?_)
  refine plI [(0, false), (1, false), (2, false), (3, false), (4, false)] ?_
  repeat ((first | ((with_reducible show Plan ((_, true) :: _) _); refine plF ?_) | (refine plR (v := ?_) ?_ ?_; rotate_left; focus (intro W hSW; (try dsimp only at hSW); go_simp; all_goals (with_reducible rfl)))); try simp only [Act.put, List.setIfInBounds_toArray, List.set_cons_zero, List.set_cons_succ])
  refine plE ?_
  refine wpAnyH_ready (rs := [5]) (by kernel_rfl) (by simp) ?_
  refine AllReadyH.cons (o := ⟨_, _, _, _, _, _⟩) rfl (fun K hK => ?_) AllReadyH.nil
  go_simp
  go_at_call 46; refine (quote_any value _ hvl).mono ?_; rintro e u5 ⟨rfl, hb⟩; have HX5 := Lib.hid (HX.out.drew.below hb); clear hb
  refine hK.out _ _ (HJ.out _ HX5.out.e) (fun hHeld => ?_)
  clear hK K
  try simp only [Act.put, List.setIfInBounds_toArray, List.set_cons_zero, List.set_cons_succ]
  refine wpAnyH_ready (rs := [6]) (by kernel_rfl) (by simp) ?_
  refine AllReadyH.cons (o := ⟨_, _, _, _, _, _⟩) rfl (fun K hK => ?_) AllReadyH.nil
  go_simp
  have HX6 := Lib.hid (HX5.out.alloc (.cells #[.string key, .string (quoteB value)] 9))
  refine hK.out _ _ (HJ.out _ HX6.out.e) (fun hHeld => ?_)
  clear hK K
  try simp only [Act.put, List.setIfInBounds_toArray, List.set_cons_zero, List.set_cons_succ]
  refine wpAnyH_ready (rs := [7]) (by kernel_rfl) (by simp) ?_
  refine AllReadyH.cons (o := ⟨_, _, _, _, _, _⟩) rfl (fun K hK => ?_) AllReadyH.nil
  rw [if_pos (show Region.wanted _ _ = true by rfl)]
  refine wp_append_own _ (.tmp 60) (.tmp 66) 41 rfl (w.heap.size + 1) 9 i0 (.string ⟨#[]⟩) 1 16 Tryz.underlying41 HI.out HZ.out hq1 hq2 rfl (by decide) _ _ _ rfl (HX6.out).o ⟨_, 0, none⟩ 2 2 (([key, quoteB value] : List ByteArray).map .string) rfl rfl (lit_src u5 [key, quoteB value] 9) (strs_one (l := [key, quoteB value])) (by unfold maxLen; simp) (by simp) ((HX6.out).e.lt) fun v7 w7 ho7 hg7 _ => ?_
  have HX7 := Lib.hid ((HX6.out).more (more := [key, quoteB value]) hg7 ho7)
  refine hK.out _ _ (HJ.out _ HX7.out.e) (fun hHeld => ?_)
  clear hK K
  try simp only [Act.put, List.setIfInBounds_toArray, List.set_cons_zero, List.set_cons_succ]
  refine plI [(8, false)] ?_
  repeat ((first | ((with_reducible show Plan ((_, true) :: _) _); refine plF ?_) | (refine plR (v := ?_) ?_ ?_; rotate_left; focus (intro W hSW; (try dsimp only at hSW); go_simp; all_goals (with_reducible rfl)))); try simp only [Act.put, List.setIfInBounds_toArray, List.set_cons_zero, List.set_cons_succ])
  refine plE ?_
  refine wpAnyH_done (by kernel_rfl) ?_ _
  clear hHeld HJ
  obtain ⟨x7, y7⟩ := HX7.out.e.facts
  go_wp2_with (go_at_call 27; refine (join_any _ (evWords ⟨6, day, part, kind, into, slot, key, value, kl, kh, cl, ch, ll, lh⟩) _ _ (str_own (HX7.out).o) (by show ([wordS 6, itoaB day, part] ++ [key, quoteB value] : List ByteArray).length ≤ _; simp) (by show (textB ⟨6, day, part, kind, into, slot, key, value, kl, kh, cl, ch, ll, lh⟩).size ≤ _; have := HTS.out; omega)).mono ?_; rintro e wj ⟨rfl, hbj⟩; have HBJ := Lib.hid ((HX7.out).b.trans (hbj.mono (HX7.out).b.size)); clear hbj)
  refine bodyPost_ret (v := .tuple #[.string (textB ⟨6, day, part, kind, into, slot, key, value, kl, kh, cl, ch, ll, lh⟩), .int .i64 0]) (by simp [results, Tryz.results26, go_sem]; rfl) rfl ?_
  exact ⟨rfl, HBJ.out⟩
set_option maxRecDepth 100000 in
set_option maxHeartbeats 8000000 in
theorem tx_4 (day : Int) (part kind into slot key value : ByteArray) (kl kh cl ch ll lh : Int) (w0 w : World) (ht : Tab w0) (hb0 : Below w0.heap.size w0 w) (hs : Ev.short ⟨4, day, part, kind, into, slot, key, value, kl, kh, cl, ch, ll, lh⟩) (hok : evOk ⟨4, day, part, kind, into, slot, key, value, kl, kh, cl, ch, ll, lh⟩ = true) :
    Calls Tryz.prog 26 #[.agg #[.int .i64 4, .int .i64 day, .string part, .string kind, .string into, .string slot, .string key, .string value, .int .i64 kl, .int .i64 kh, .int .i64 cl, .int .i64 ch, .int .i64 ll, .int .i64 lh]] w fun r w' => r = .returned (.tuple #[.string (textB ⟨4, day, part, kind, into, slot, key, value, kl, kh, cl, ch, ll, lh⟩), .int .i64 0]) ∧ Below w.heap.size w w' := by
  obtain ⟨i0, hi, hz0, hq1, hq2⟩ := info_parts info_str
  have HI := Lib.hid hi
  have HZ := Lib.hid hz0
  have HS := Lib.hid hs
  have HOK := Lib.hid hok
  have hsz0 := hb0.size
  have hday := (evOk_parts hok).2.1
  have hdr : -1000000000 ≤ day ∧ day ≤ 1000000000 := by dsimp only at hday; omega
  have HIT := Lib.hid (fun n hn W (h : Below w.heap.size w W) => itoaQ w0 ht n hn W (hb0.trans (h.mono hsz0)))
  have HTS := Lib.hid (text_size hok)
  obtain ⟨hrkl, hrkh, hrcl, hrch, hrll, hrlh⟩ := run_nums hok
  clear hi hz0 hs hok ht hday
  go_enter Tryz.func26, Tryz.ntmps26
  go_wp2_with (go_at_call 29; refine (valid_any ⟨4, day, part, kind, into, slot, key, value, kl, kh, cl, ch, ll, lh⟩ _ HS.out).mono ?_; rintro e w2 ⟨rfl, hb2⟩; rw [HOK.out]; have HE2 := Lib.hid (Has.below (Has.new w 49 #[.int .i64 4, .int .i64 day, .string part, .string kind, .string into, .string slot, .string key, .string value, .int .i64 kl, .int .i64 kh, .int .i64 cl, .int .i64 ch, .int .i64 ll, .int .i64 lh]) hb2 (by simp)); have HB2 := Lib.hid (((Below.refl w.heap.size w).alloc (Nat.le_refl _) (.cells #[.int .i64 4, .int .i64 day, .string part, .string kind, .string into, .string slot, .string key, .string value, .int .i64 kl, .int .i64 kh, .int .i64 cl, .int .i64 ch, .int .i64 ll, .int .i64 lh] 49)).trans (hb2.mono (by simp))); obtain ⟨c2, f2⟩ := HE2.out.facts; clear hb2)
  have HK := Lib.hid (fun W (h : Has W w.heap.size 49 #[.int .i64 4, .int .i64 day, .string part, .string kind, .string into, .string slot, .string key, .string value, .int .i64 kl, .int .i64 kh, .int .i64 cl, .int .i64 ch, .int .i64 ll, .int .i64 lh]) => (⟨h.facts.1 0, h.facts.1 1, h.facts.1 2⟩ : (fun W => W.cell? ⟨w.heap.size, 0, none⟩ = some (.int .i64 4) ∧ W.cell? ⟨w.heap.size, 1, none⟩ = some (.int .i64 day) ∧ W.cell? ⟨w.heap.size, 2, none⟩ = some (.string part)) W))
  refine wp_region_held_drew (S := fun W => W.cell? ⟨w.heap.size, 0, none⟩ = some (.int .i64 4) ∧ W.cell? ⟨w.heap.size, 1, none⟩ = some (.int .i64 day) ∧ W.cell? ⟨w.heap.size, 2, none⟩ = some (.string part)) (by kernel_rfl) (HK.out _ (HE2.out.drew)) (fun hHeld => ?_)
  refine plI [(0, false), (1, false), (3, false), (4, false), (6, false), (7, false)] ?_
  repeat ((first | ((with_reducible show Plan ((_, true) :: _) _); refine plF ?_) | (refine plR (v := ?_) ?_ ?_; rotate_left; focus (intro W hSW; (try dsimp only at hSW); go_simp; all_goals (with_reducible rfl)))); try simp only [Act.put, List.setIfInBounds_toArray, List.set_cons_zero, List.set_cons_succ])
  refine plE ?_
  refine wpAnyH_ready (rs := [2]) (by kernel_rfl) (by simp) ?_
  refine AllReadyH.cons (o := ⟨_, _, _, _, _, _⟩) rfl (fun K hK => ?_) AllReadyH.nil
  go_simp
  go_at_call 43; refine (word_any _ _).mono ?_; rintro e v2 ⟨rfl, hb⟩; have HE2s := Lib.hid ((HE2.out.drew).below hb (HE2.out.drew).lt); have HB2s := Lib.hid ((HB2.out.drew).trans (hb.mono (HB2.out.drew).size)); clear hb
  refine hK.out _ _ (HK.out _ (HE2s.out)) (fun hHeld => ?_)
  clear hK K
  try simp only [Act.put, List.setIfInBounds_toArray, List.set_cons_zero, List.set_cons_succ]
  refine wpAnyH_ready (rs := [5]) (by kernel_rfl) (by simp) ?_
  refine AllReadyH.cons (o := ⟨_, _, _, _, _, _⟩) rfl (fun K hK => ?_) AllReadyH.nil
  go_simp
  go_at_call 44; refine (HIT.out day hdr _ HB2s.out).mono ?_; rintro e v5 ⟨rfl, hb⟩; have HE5s := Lib.hid ((HE2s.out).below hb (HE2s.out).lt); have HB5s := Lib.hid ((HB2s.out).trans (hb.mono (HB2s.out).size)); clear hb
  refine hK.out _ _ (HK.out _ (HE5s.out)) (fun hHeld => ?_)
  clear hK K
  try simp only [Act.put, List.setIfInBounds_toArray, List.set_cons_zero, List.set_cons_succ]
  refine wpAnyH_ready (rs := [8]) (by kernel_rfl) (by simp) ?_
  refine AllReadyH.cons (o := ⟨_, _, _, _, _, _⟩) rfl (fun K hK => ?_) AllReadyH.nil
  go_simp
  have HE8s := Lib.hid (HE5s.out.alloc (.cells #[.string (wordS 4), .string (itoaB day), .string part] 9))
  have HX := Lib.hid (show TxB w #[.int .i64 4, .int .i64 day, .string part, .string kind, .string into, .string slot, .string key, .string value, .int .i64 kl, .int .i64 kh, .int .i64 cl, .int .i64 ch, .int .i64 ll, .int .i64 lh] (.slice (some ⟨v5.heap.size, 0, none⟩) 3 3) [wordS 4, itoaB day, part] (v5.alloc (.cells #[.string (wordS 4), .string (itoaB day), .string part] 9)) from ⟨HE8s.out, own_of_has (n := 3) (sz := 1) (Has.new v5 9 #[.string (wordS 4), .string (itoaB day), .string part]) (by have := HE5s.out.lt; omega) rfl (by simp [maxLen]), HB5s.out.alloc HB5s.out.size _⟩)
  refine hK.out _ _ (HK.out _ (HE8s.out)) (fun hHeld => ?_)
  clear hK K
  try simp only [Act.put, List.setIfInBounds_toArray, List.set_cons_zero, List.set_cons_succ]
  refine plI [(9, false)] ?_
  repeat ((first | ((with_reducible show Plan ((_, true) :: _) _); refine plF ?_) | (refine plR (v := ?_) ?_ ?_; rotate_left; focus (intro W hSW; (try dsimp only at hSW); go_simp; all_goals (with_reducible rfl)))); try simp only [Act.put, List.setIfInBounds_toArray, List.set_cons_zero, List.set_cons_succ])
  refine plE ?_
  refine wpAnyH_done (by kernel_rfl) ?_ _
  clear hHeld
  obtain ⟨v8, hv8⟩ : ∃ V, V = v5.alloc (.cells #[.string (wordS 4), .string (itoaB day), .string part] 9) := ⟨_, rfl⟩
  rw [← hv8] at HX ⊢
  clear hv8
  obtain ⟨x8, y8⟩ := HX.out.e.facts
  go_wp2_with (go_at_call 45; refine (intervals_any _ _ _).mono ?_; rintro e v9 ⟨rfl, hb9⟩; have HX9 := Lib.hid (HX.out.below hb9); obtain ⟨x9, y9⟩ := HX9.out.e.facts; clear hb9)
  go_loopw [4, 41] (fun v i wr => ∃ k : Nat, k ≤ 3 ∧ i = .int .i64 k ∧ Hid (TxB w #[.int .i64 4, .int .i64 day, .string part, .string kind, .string into, .string slot, .string key, .string value, .int .i64 kl, .int .i64 kh, .int .i64 cl, .int .i64 ch, .int .i64 ll, .int .i64 lh] v ([wordS 4, itoaB day, part] ++ ([itoaB kl, itoaB kh, itoaB cl, itoaB ch, itoaB ll, itoaB lh] : List ByteArray).take (2 * k)) wr)) (fun _ i _ => 3 - (intOf i).toNat)
  case atStart => exact ⟨0, by omega, rfl, HX9.out⟩
  case round =>
    obtain ⟨k, hk, rfl, HR⟩ := hrel
    rcases (by omega : k = 0 ∨ k = 1 ∨ k = 2 ∨ k = 3) with rfl | rfl | rfl | rfl
    · have HJ := Lib.hid (fun W (h : Has W w.heap.size 49 #[.int .i64 4, .int .i64 day, .string part, .string kind, .string into, .string slot, .string key, .string value, .int .i64 kl, .int .i64 kh, .int .i64 cl, .int .i64 ch, .int .i64 ll, .int .i64 lh]) => (⟨h.facts.1 8, h.facts.1 9⟩ : (fun W => W.cell? ⟨w.heap.size, 8, none⟩ = some (.int .i64 kl) ∧ W.cell? ⟨w.heap.size, 9, none⟩ = some (.int .i64 kh)) W))
      go_wp2_with fail
      refine wp_region_held_drew (S := fun W => W.cell? ⟨w.heap.size, 8, none⟩ = some (.int .i64 kl) ∧ W.cell? ⟨w.heap.size, 9, none⟩ = some (.int .i64 kh)) (by kernel_rfl) (HJ.out _ HR.out.drew.e) (fun hHeld => ?_)
      refine plI [(0, false), (1, false), (2, false), (3, false), (4, false), (6, false), (7, false), (8, false), (9, false)] ?_
      repeat ((first | ((with_reducible show Plan ((_, true) :: _) _); refine plF ?_) | (refine plR (v := ?_) ?_ ?_; rotate_left; focus (intro W hSW; (try dsimp only at hSW); go_simp; all_goals (with_reducible rfl)))); try simp only [Act.put, List.setIfInBounds_toArray, List.set_cons_zero, List.set_cons_succ])
      refine plE ?_
      refine wpAnyH_ready (rs := [5]) (by kernel_rfl) (by simp) ?_
      refine AllReadyH.cons (o := ⟨_, _, _, _, _, _⟩) rfl (fun K hK => ?_) AllReadyH.nil
      go_simp
      go_at_call 44; refine (HIT.out kl hrkl _ HR.out.drew.b).mono ?_; rintro e u5 ⟨rfl, hb⟩; have HX5 := Lib.hid (HR.out.drew.below hb); clear hb
      refine hK.out _ _ (HJ.out _ HX5.out.e) (fun hHeld => ?_)
      clear hK K
      try simp only [Act.put, List.setIfInBounds_toArray, List.set_cons_zero, List.set_cons_succ]
      refine wpAnyH_ready (rs := [10]) (by kernel_rfl) (by simp) ?_
      refine AllReadyH.cons (o := ⟨_, _, _, _, _, _⟩) rfl (fun K hK => ?_) AllReadyH.nil
      go_simp
      go_at_call 44; refine (HIT.out kh hrkh _ HX5.out.b).mono ?_; rintro e u10 ⟨rfl, hb⟩; have HX10 := Lib.hid (HX5.out.below hb); clear hb
      refine hK.out _ _ (HJ.out _ HX10.out.e) (fun hHeld => ?_)
      clear hK K
      try simp only [Act.put, List.setIfInBounds_toArray, List.set_cons_zero, List.set_cons_succ]
      refine wpAnyH_ready (rs := [11]) (by kernel_rfl) (by simp) ?_
      refine AllReadyH.cons (o := ⟨_, _, _, _, _, _⟩) rfl (fun K hK => ?_) AllReadyH.nil
      go_simp
      have HX11 := Lib.hid (HX10.out.alloc (.cells #[.string (itoaB kl), .string (itoaB kh)] 9))
      refine hK.out _ _ (HJ.out _ HX11.out.e) (fun hHeld => ?_)
      clear hK K
      try simp only [Act.put, List.setIfInBounds_toArray, List.set_cons_zero, List.set_cons_succ]
      refine wpAnyH_ready (rs := [12]) (by kernel_rfl) (by simp) ?_
      refine AllReadyH.cons (o := ⟨_, _, _, _, _, _⟩) rfl (fun K hK => ?_) AllReadyH.nil
      rw [if_pos (show Region.wanted _ _ = true by rfl)]
      refine wp_append_own _ (.tmp 44) (.tmp 55) 41 rfl (w.heap.size + 1) 9 i0 (.string ⟨#[]⟩) 1 16 Tryz.underlying41 HI.out HZ.out hq1 hq2 rfl (by decide) _ _ _ rfl (HX11.out).o ⟨_, 0, none⟩ 2 2 (([itoaB kl, itoaB kh] : List ByteArray).map .string) rfl rfl (lit_src u10 [itoaB kl, itoaB kh] 9) (strs_one (l := [itoaB kl, itoaB kh])) (by unfold maxLen; simp) (by simp) ((HX11.out).e.lt) fun v12 w12 ho12 hg12 _ => ?_
      have HX12 := Lib.hid ((HX11.out).more (more := [itoaB kl, itoaB kh]) hg12 ho12)
      refine hK.out _ _ (HJ.out _ HX12.out.e) (fun hHeld => ?_)
      clear hK K
      try simp only [Act.put, List.setIfInBounds_toArray, List.set_cons_zero, List.set_cons_succ]
      refine plI [(13, false)] ?_
      repeat ((first | ((with_reducible show Plan ((_, true) :: _) _); refine plF ?_) | (refine plR (v := ?_) ?_ ?_; rotate_left; focus (intro W hSW; (try dsimp only at hSW); go_simp; all_goals (with_reducible rfl)))); try simp only [Act.put, List.setIfInBounds_toArray, List.set_cons_zero, List.set_cons_succ])
      refine plE ?_
      refine wpAnyH_done (by kernel_rfl) ?_ _
      clear hHeld HJ
      go_wp2_with fail
      go_roundw
      case rel => exact ⟨1, by omega, rfl, HX12.out⟩
      case measure => simp [intOf]
    · have HJ := Lib.hid (fun W (h : Has W w.heap.size 49 #[.int .i64 4, .int .i64 day, .string part, .string kind, .string into, .string slot, .string key, .string value, .int .i64 kl, .int .i64 kh, .int .i64 cl, .int .i64 ch, .int .i64 ll, .int .i64 lh]) => (⟨h.facts.1 10, h.facts.1 11⟩ : (fun W => W.cell? ⟨w.heap.size, 10, none⟩ = some (.int .i64 cl) ∧ W.cell? ⟨w.heap.size, 11, none⟩ = some (.int .i64 ch)) W))
      go_wp2_with fail
      refine wp_region_held_drew (S := fun W => W.cell? ⟨w.heap.size, 10, none⟩ = some (.int .i64 cl) ∧ W.cell? ⟨w.heap.size, 11, none⟩ = some (.int .i64 ch)) (by kernel_rfl) (HJ.out _ HR.out.drew.e) (fun hHeld => ?_)
      refine plI [(0, false), (1, false), (2, false), (3, false), (4, false), (6, false), (7, false), (8, false), (9, false)] ?_
      repeat ((first | ((with_reducible show Plan ((_, true) :: _) _); refine plF ?_) | (refine plR (v := ?_) ?_ ?_; rotate_left; focus (intro W hSW; (try dsimp only at hSW); go_simp; all_goals (with_reducible rfl)))); try simp only [Act.put, List.setIfInBounds_toArray, List.set_cons_zero, List.set_cons_succ])
      refine plE ?_
      refine wpAnyH_ready (rs := [5]) (by kernel_rfl) (by simp) ?_
      refine AllReadyH.cons (o := ⟨_, _, _, _, _, _⟩) rfl (fun K hK => ?_) AllReadyH.nil
      go_simp
      go_at_call 44; refine (HIT.out cl hrcl _ HR.out.drew.b).mono ?_; rintro e u5 ⟨rfl, hb⟩; have HX5 := Lib.hid (HR.out.drew.below hb); clear hb
      refine hK.out _ _ (HJ.out _ HX5.out.e) (fun hHeld => ?_)
      clear hK K
      try simp only [Act.put, List.setIfInBounds_toArray, List.set_cons_zero, List.set_cons_succ]
      refine wpAnyH_ready (rs := [10]) (by kernel_rfl) (by simp) ?_
      refine AllReadyH.cons (o := ⟨_, _, _, _, _, _⟩) rfl (fun K hK => ?_) AllReadyH.nil
      go_simp
      go_at_call 44; refine (HIT.out ch hrch _ HX5.out.b).mono ?_; rintro e u10 ⟨rfl, hb⟩; have HX10 := Lib.hid (HX5.out.below hb); clear hb
      refine hK.out _ _ (HJ.out _ HX10.out.e) (fun hHeld => ?_)
      clear hK K
      try simp only [Act.put, List.setIfInBounds_toArray, List.set_cons_zero, List.set_cons_succ]
      refine wpAnyH_ready (rs := [11]) (by kernel_rfl) (by simp) ?_
      refine AllReadyH.cons (o := ⟨_, _, _, _, _, _⟩) rfl (fun K hK => ?_) AllReadyH.nil
      go_simp
      have HX11 := Lib.hid (HX10.out.alloc (.cells #[.string (itoaB cl), .string (itoaB ch)] 9))
      refine hK.out _ _ (HJ.out _ HX11.out.e) (fun hHeld => ?_)
      clear hK K
      try simp only [Act.put, List.setIfInBounds_toArray, List.set_cons_zero, List.set_cons_succ]
      refine wpAnyH_ready (rs := [12]) (by kernel_rfl) (by simp) ?_
      refine AllReadyH.cons (o := ⟨_, _, _, _, _, _⟩) rfl (fun K hK => ?_) AllReadyH.nil
      rw [if_pos (show Region.wanted _ _ = true by rfl)]
      refine wp_append_own _ (.tmp 44) (.tmp 55) 41 rfl (w.heap.size + 1) 9 i0 (.string ⟨#[]⟩) 1 16 Tryz.underlying41 HI.out HZ.out hq1 hq2 rfl (by decide) _ _ _ rfl (HX11.out).o ⟨_, 0, none⟩ 2 2 (([itoaB cl, itoaB ch] : List ByteArray).map .string) rfl rfl (lit_src u10 [itoaB cl, itoaB ch] 9) (strs_one (l := [itoaB cl, itoaB ch])) (by unfold maxLen; simp) (by simp) ((HX11.out).e.lt) fun v12 w12 ho12 hg12 _ => ?_
      have HX12 := Lib.hid ((HX11.out).more (more := [itoaB cl, itoaB ch]) hg12 ho12)
      refine hK.out _ _ (HJ.out _ HX12.out.e) (fun hHeld => ?_)
      clear hK K
      try simp only [Act.put, List.setIfInBounds_toArray, List.set_cons_zero, List.set_cons_succ]
      refine plI [(13, false)] ?_
      repeat ((first | ((with_reducible show Plan ((_, true) :: _) _); refine plF ?_) | (refine plR (v := ?_) ?_ ?_; rotate_left; focus (intro W hSW; (try dsimp only at hSW); go_simp; all_goals (with_reducible rfl)))); try simp only [Act.put, List.setIfInBounds_toArray, List.set_cons_zero, List.set_cons_succ])
      refine plE ?_
      refine wpAnyH_done (by kernel_rfl) ?_ _
      clear hHeld HJ
      go_wp2_with fail
      go_roundw
      case rel => exact ⟨2, by omega, rfl, HX12.out⟩
      case measure => simp [intOf]
    · have HJ := Lib.hid (fun W (h : Has W w.heap.size 49 #[.int .i64 4, .int .i64 day, .string part, .string kind, .string into, .string slot, .string key, .string value, .int .i64 kl, .int .i64 kh, .int .i64 cl, .int .i64 ch, .int .i64 ll, .int .i64 lh]) => (⟨h.facts.1 12, h.facts.1 13⟩ : (fun W => W.cell? ⟨w.heap.size, 12, none⟩ = some (.int .i64 ll) ∧ W.cell? ⟨w.heap.size, 13, none⟩ = some (.int .i64 lh)) W))
      go_wp2_with fail
      refine wp_region_held_drew (S := fun W => W.cell? ⟨w.heap.size, 12, none⟩ = some (.int .i64 ll) ∧ W.cell? ⟨w.heap.size, 13, none⟩ = some (.int .i64 lh)) (by kernel_rfl) (HJ.out _ HR.out.drew.e) (fun hHeld => ?_)
      refine plI [(0, false), (1, false), (2, false), (3, false), (4, false), (6, false), (7, false), (8, false), (9, false)] ?_
      repeat ((first | ((with_reducible show Plan ((_, true) :: _) _); refine plF ?_) | (refine plR (v := ?_) ?_ ?_; rotate_left; focus (intro W hSW; (try dsimp only at hSW); go_simp; all_goals (with_reducible rfl)))); try simp only [Act.put, List.setIfInBounds_toArray, List.set_cons_zero, List.set_cons_succ])
      refine plE ?_
      refine wpAnyH_ready (rs := [5]) (by kernel_rfl) (by simp) ?_
      refine AllReadyH.cons (o := ⟨_, _, _, _, _, _⟩) rfl (fun K hK => ?_) AllReadyH.nil
      go_simp
      go_at_call 44; refine (HIT.out ll hrll _ HR.out.drew.b).mono ?_; rintro e u5 ⟨rfl, hb⟩; have HX5 := Lib.hid (HR.out.drew.below hb); clear hb
      refine hK.out _ _ (HJ.out _ HX5.out.e) (fun hHeld => ?_)
      clear hK K
      try simp only [Act.put, List.setIfInBounds_toArray, List.set_cons_zero, List.set_cons_succ]
      refine wpAnyH_ready (rs := [10]) (by kernel_rfl) (by simp) ?_
      refine AllReadyH.cons (o := ⟨_, _, _, _, _, _⟩) rfl (fun K hK => ?_) AllReadyH.nil
      go_simp
      go_at_call 44; refine (HIT.out lh hrlh _ HX5.out.b).mono ?_; rintro e u10 ⟨rfl, hb⟩; have HX10 := Lib.hid (HX5.out.below hb); clear hb
      refine hK.out _ _ (HJ.out _ HX10.out.e) (fun hHeld => ?_)
      clear hK K
      try simp only [Act.put, List.setIfInBounds_toArray, List.set_cons_zero, List.set_cons_succ]
      refine wpAnyH_ready (rs := [11]) (by kernel_rfl) (by simp) ?_
      refine AllReadyH.cons (o := ⟨_, _, _, _, _, _⟩) rfl (fun K hK => ?_) AllReadyH.nil
      go_simp
      have HX11 := Lib.hid (HX10.out.alloc (.cells #[.string (itoaB ll), .string (itoaB lh)] 9))
      refine hK.out _ _ (HJ.out _ HX11.out.e) (fun hHeld => ?_)
      clear hK K
      try simp only [Act.put, List.setIfInBounds_toArray, List.set_cons_zero, List.set_cons_succ]
      refine wpAnyH_ready (rs := [12]) (by kernel_rfl) (by simp) ?_
      refine AllReadyH.cons (o := ⟨_, _, _, _, _, _⟩) rfl (fun K hK => ?_) AllReadyH.nil
      rw [if_pos (show Region.wanted _ _ = true by rfl)]
      refine wp_append_own _ (.tmp 44) (.tmp 55) 41 rfl (w.heap.size + 1) 9 i0 (.string ⟨#[]⟩) 1 16 Tryz.underlying41 HI.out HZ.out hq1 hq2 rfl (by decide) _ _ _ rfl (HX11.out).o ⟨_, 0, none⟩ 2 2 (([itoaB ll, itoaB lh] : List ByteArray).map .string) rfl rfl (lit_src u10 [itoaB ll, itoaB lh] 9) (strs_one (l := [itoaB ll, itoaB lh])) (by unfold maxLen; simp) (by simp) ((HX11.out).e.lt) fun v12 w12 ho12 hg12 _ => ?_
      have HX12 := Lib.hid ((HX11.out).more (more := [itoaB ll, itoaB lh]) hg12 ho12)
      refine hK.out _ _ (HJ.out _ HX12.out.e) (fun hHeld => ?_)
      clear hK K
      try simp only [Act.put, List.setIfInBounds_toArray, List.set_cons_zero, List.set_cons_succ]
      refine plI [(13, false)] ?_
      repeat ((first | ((with_reducible show Plan ((_, true) :: _) _); refine plF ?_) | (refine plR (v := ?_) ?_ ?_; rotate_left; focus (intro W hSW; (try dsimp only at hSW); go_simp; all_goals (with_reducible rfl)))); try simp only [Act.put, List.setIfInBounds_toArray, List.set_cons_zero, List.set_cons_succ])
      refine plE ?_
      refine wpAnyH_done (by kernel_rfl) ?_ _
      clear hHeld HJ
      go_wp2_with fail
      go_roundw
      case rel => exact ⟨3, by omega, rfl, HX12.out⟩
      case measure => simp [intOf]
    · obtain ⟨x3, y3⟩ := HR.out.e.facts
      go_wp2_with (go_at_call 27; refine (join_any _ (evWords ⟨4, day, part, kind, into, slot, key, value, kl, kh, cl, ch, ll, lh⟩) _ _ (str_own (HR.out).o) (by show ([wordS 4, itoaB day, part] ++ [itoaB kl, itoaB kh, itoaB cl, itoaB ch, itoaB ll, itoaB lh] : List ByteArray).length ≤ _; simp) (by show (textB ⟨4, day, part, kind, into, slot, key, value, kl, kh, cl, ch, ll, lh⟩).size ≤ _; have := HTS.out; omega)).mono ?_; rintro e wj ⟨rfl, hbj⟩; have HBJ := Lib.hid ((HR.out).b.trans (hbj.mono (HR.out).b.size)); clear hbj)
      refine bodyPost_ret (v := .tuple #[.string (textB ⟨4, day, part, kind, into, slot, key, value, kl, kh, cl, ch, ll, lh⟩), .int .i64 0]) (by simp [results, Tryz.results26, go_sem]; rfl) rfl ?_
      exact ⟨rfl, HBJ.out⟩
set_option maxRecDepth 100000 in
set_option maxHeartbeats 4000000 in
theorem tx_no (e : Ev) (w : World) (hs : e.short) (hok : evOk e = false) :
    Calls Tryz.prog 26 #[.agg e.cells] w fun r w' => r = .returned (.tuple #[.string ⟨#[]⟩, .int .i64 1]) ∧ Below w.heap.size w w' := by
  obtain ⟨op, day, part, kind, into, slot, key, value, kl, kh, cl, ch, ll, lh⟩ := e
  show Calls Tryz.prog 26 #[.agg #[.int .i64 op, .int .i64 day, .string part, .string kind, .string into, .string slot, .string key, .string value, .int .i64 kl, .int .i64 kh, .int .i64 cl, .int .i64 ch, .int .i64 ll, .int .i64 lh]] w fun r w' => r = .returned (.tuple #[.string ⟨#[]⟩, .int .i64 1]) ∧ Below w.heap.size w w'
  have HS := Lib.hid hs
  have HOK := Lib.hid hok
  clear hs hok
  go_enter Tryz.func26, Tryz.ntmps26
  go_wp2_with (go_at_call 29; refine (valid_any ⟨op, day, part, kind, into, slot, key, value, kl, kh, cl, ch, ll, lh⟩ _ HS.out).mono ?_; rintro e w2 ⟨rfl, hb2⟩; rw [HOK.out]; have HB2 := Lib.hid (((Below.refl w.heap.size w).alloc (Nat.le_refl _) (.cells #[.int .i64 op, .int .i64 day, .string part, .string kind, .string into, .string slot, .string key, .string value, .int .i64 kl, .int .i64 kh, .int .i64 cl, .int .i64 ch, .int .i64 ll, .int .i64 lh] 49)).trans (hb2.mono (by simp))); clear hb2)
  refine bodyPost_ret (v := .tuple #[.string ⟨#[]⟩, .int .i64 1]) (by simp [results, Tryz.results26, go_sem]) rfl ?_
  exact ⟨rfl, HB2.out⟩
theorem text_any (e : Ev) (w0 w : World) (ht : Tab w0) (hb0 : Below w0.heap.size w0 w) (hs : e.short) :
    Calls Tryz.prog 26 #[.agg e.cells] w fun r w' => r = .returned (.tuple #[.string (if evOk e = true then textB e else ⟨#[]⟩), .int .i64 (if evOk e = true then 0 else 1)]) ∧ Below w.heap.size w w' := by
  cases hok : evOk e with
  | false => exact tx_no e w hs hok
  | true =>
    have hop := (evOk_parts hok).1
    obtain ⟨op, day, part, kind, into, slot, key, value, kl, kh, cl, ch, ll, lh⟩ := e
    dsimp only at hop
    simp only [if_true]
    rcases (by omega : op = 1 ∨ op = 2 ∨ op = 3 ∨ op = 4 ∨ op = 5 ∨ op = 6 ∨ op = 7) with rfl | rfl | rfl | rfl | rfl | rfl | rfl
    · exact tx_1 day part kind into slot key value kl kh cl ch ll lh w0 w ht hb0 hs hok
    · exact tx_2 day part kind into slot key value kl kh cl ch ll lh w0 w ht hb0 hs hok
    · exact tx_3 day part kind into slot key value kl kh cl ch ll lh w0 w ht hb0 hs hok
    · exact tx_4 day part kind into slot key value kl kh cl ch ll lh w0 w ht hb0 hs hok
    · exact tx_5 day part kind into slot key value kl kh cl ch ll lh w0 w ht hb0 hs hok
    · exact tx_6 day part kind into slot key value kl kh cl ch ll lh w0 w ht hb0 hs hok
    · exact tx_7 day part kind into slot key value kl kh cl ch ll lh w0 w ht hb0 hs hok
end Go.Proofs.YtjlpllnhefafkaaGreatDoor
