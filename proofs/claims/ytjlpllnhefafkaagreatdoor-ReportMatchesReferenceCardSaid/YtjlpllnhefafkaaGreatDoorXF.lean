/- event.Parse: the event of a text. Condition: the table of powers of ten, the error variables, and that the text lies in memory. -/
import Derived.Test.YtjlpllnhefafkaaGreatDoorXC
import Derived.Test.YtjlpllnhefafkaaGreatDoorXD
import Derived.Test.YtjlpllnhefafkaaGreatDoorXE
namespace Go.Proofs.YtjlpllnhefafkaaGreatDoor
open Go Go.RowKit
theorem cut_size (s : ByteArray) (i j : Nat) : (cut s i j).size ≤ s.size := by
  unfold cut
  rw [ByteArray.size_extract]; omega
theorem unqGo_len {t : ByteArray} : ∀ (n i : Nat) (acc l : List UInt8) (m : Nat), unqGo t n i acc = some (l, m) → l.length ≤ acc.length + n
  | 0, i, acc, l, m, h => by cases h
  | n + 1, i, acc, l, m, h => by
    rw [unqGo_succ] at h
    split at h
    · cases h
    · split at h
      · cases h; omega
      · split at h
        · cases h
        · split at h
          · split at h
            · cases h
            · split at h
              · cases h
              · have := unqGo_len n _ _ _ _ h; simp at this; omega
          · have := unqGo_len n _ _ _ _ h; simp at this; omega
/-- The texts of a text's tokens are not longer than it. -/
theorem lexGo_texts (s : ByteArray) : ∀ (n i : Nat), ∀ f ∈ lexGo s n i, f.text.size ≤ s.size
  | 0, i, f, h => by cases h
  | n + 1, i, f, h => by
    have c := cut_size s
    rw [lexGo_succ] at h
    split at h
    · cases h
    · split at h
      · exact lexGo_texts s n _ f h
      · split at h
        · exact lexGo_texts s n _ f h
        · split at h
          · split at h
            · rw [List.mem_singleton] at h; subst h; exact c _ _
            · rcases List.mem_cons.1 h with h | h
              · subst h; exact c _ _
              · exact lexGo_texts s n _ f h
          · split at h
            · split at h
              · rw [List.mem_singleton] at h; subst h; exact c _ _
              · rcases List.mem_cons.1 h with h | h
                · subst h; exact c _ _
                · exact lexGo_texts s n _ f h
            · split at h
              · split at h
                · rw [List.mem_singleton] at h; subst h; exact Nat.zero_le _
                · rename_i t m hu
                  rcases List.mem_cons.1 h with h | h
                  · subst h
                    have h1 := unqGo_len _ _ _ _ _ hu
                    have h2 := c i s.size
                    simp only [List.length_nil, Nat.zero_add] at h1
                    show t.toArray.size ≤ _
                    rw [List.size_toArray]; omega
                  · exact lexGo_texts s n _ f h
              · split at h
                · rcases List.mem_cons.1 h with h | h
                  · subst h; exact c _ _
                  · exact lexGo_texts s n _ f h
                · rw [List.mem_singleton] at h; subst h; exact Nat.zero_le _
theorem takeF_kept : ∀ (fs out : List Fnd), out.length ≤ 5000 → (takeF fs out).1.length ≤ 5000 ∧ ∀ f ∈ (takeF fs out).1, f ∈ out ∨ f ∈ fs
  | [], out, h => ⟨h, fun f hf => .inl hf⟩
  | x :: r, out, h => by
    unfold takeF
    split
    · exact ⟨Nat.zero_le _, fun f hf => by cases hf⟩
    · split
      · exact ⟨Nat.zero_le _, fun f hf => by cases hf⟩
      · have h1 := takeF_kept r (out ++ [x]) (by rw [List.length_append, List.length_singleton]; omega)
        refine ⟨h1.1, fun f hf => ?_⟩
        rcases h1.2 f hf with h2 | h2
        · rcases List.mem_append.1 h2 with h3 | h3
          · exact .inl h3
          · rw [List.mem_singleton] at h3; subst h3; exact .inr (List.mem_cons_self ..)
        · exact .inr (List.mem_cons_of_mem _ h2)
theorem lexL_kept (s : ByteArray) : (lexL s).1.length ≤ 5000 ∧ ∀ t ∈ (lexL s).1.map Fnd.text, t.size ≤ 1000000 := by
  unfold lexL
  split
  · exact ⟨Nat.zero_le _, fun t h => by cases h⟩
  · have h := takeF_kept (lexF s) [] (Nat.zero_le _)
    refine ⟨h.1, fun t ht => ?_⟩
    obtain ⟨f, hf, rfl⟩ := List.mem_map.1 ht
    rcases h.2 f hf with h1 | h1
    · cases h1
    · have := lexGo_texts s _ _ f h1; omega
theorem getD_size {ts : List ByteArray} (h : ∀ t ∈ ts, t.size ≤ 1000000) (i : Nat) : (ts.getD i ⟨#[]⟩).size ≤ maxLen := by
  unfold maxLen
  rw [List.getD_eq_getElem?_getD]
  rcases Nat.lt_or_ge i ts.length with h1 | h1
  · rw [List.getElem?_eq_getElem h1]
    have h2 := h _ (List.getElem_mem h1)
    show (ts[i]).size ≤ _
    omega
  · rw [List.getElem?_eq_none h1]; exact Nat.zero_le _
theorem ite_size {c : Prop} [Decidable c] {a : ByteArray} (h : a.size ≤ maxLen) : (if c then a else ⟨#[]⟩).size ≤ maxLen := by
  split
  · exact h
  · exact Nat.zero_le _
theorem readE_short {ts : List ByteArray} (h : ∀ t ∈ ts, t.size ≤ 1000000) : (readE ts).short :=
  ⟨getD_size h 2, ite_size (getD_size h 3), ite_size (getD_size h 3), ite_size (getD_size h 4), ite_size (getD_size h 3), ite_size (getD_size h 4)⟩
set_option maxRecDepth 100000 in
set_option maxHeartbeats 8000000 in
theorem parse_any (s : ByteArray) (w0 w : World) (ht : Tab w0) (hv : Evs w0) (hb0 : Below w0.heap.size w0 w) (hs : s.size ≤ maxLen) :
    Calls Tryz.prog 24 #[.string s] w fun r w' => r = .returned (.tuple #[.agg (parseE s).1.cells, .int .i64 (parseE s).2]) ∧ Below w.heap.size w w' := by
  have hsz0 := hb0.size
  have hk := lexL_kept s
  have hl := fun W => lex_any s W hs
  have hp : parseE s = if (lexL s).2.1 = 0 then (if evOk (readE ((lexL s).1.map Fnd.text)) = true ∧ textB (readE ((lexL s).1.map Fnd.text)) = s then (readE ((lexL s).1.map Fnd.text), 0) else (zeroE, 8)) else (zeroE, 8) := rfl
  generalize lexL s = q at *
  obtain ⟨fs, er, ap⟩ := q
  dsimp only at hk hl hp
  have HLX := Lib.hid hl
  clear hl
  by_cases he : er = 0
  · subst he
    rw [if_pos rfl] at hp
    have hsh := readE_short hk.2
    have HRD := Lib.hid (fun v W (ho : W.ownsRow (w.heap.size + 1) 99 3 v fs.length (tokCells fs)) (hb : Below w.heap.size w W) (hz : w.heap.size < W.heap.size) => read_any (w.heap.size + 1) fs v w0 W hv (hb0.trans (hb.mono hsz0)) ⟨by omega, hz⟩ ho hk.1 hk.2)
    generalize readE (fs.map Fnd.text) = e at *
    obtain ⟨op, day, part, kind, into, slot, key, value, kl, kh, cl, ch, ll, lh⟩ := e
    have HTX := Lib.hid (fun W (hb : Below w.heap.size w W) => text_any ⟨op, day, part, kind, into, slot, key, value, kl, kh, cl, ch, ll, lh⟩ w0 W ht (hb0.trans (hb.mono hsz0)) hsh)
    clear hk hsh ht hv
    by_cases hok : evOk ⟨op, day, part, kind, into, slot, key, value, kl, kh, cl, ch, ll, lh⟩ = true
    · have HOK := Lib.hid hok
      generalize hbb : ((textB ⟨op, day, part, kind, into, slot, key, value, kl, kh, cl, ch, ll, lh⟩).toList == s.toList) = bb
      rw [bytes_beq] at hbb
      cases bb
      · have hne := of_decide_eq_false hbb
        rw [if_neg (fun h => hne h.2)] at hp
        rw [hp]
        have HNE := Lib.hid (show ((textB ⟨op, day, part, kind, into, slot, key, value, kl, kh, cl, ch, ll, lh⟩).toList == s.toList) = false by rw [bytes_beq]; exact decide_eq_false hne)
        clear hbb hp hok hne
        go_enter Tryz.func24, Tryz.ntmps24
        go_wp2_with (first | (go_at_call 37; refine (HLX.out _).mono ?_; rintro e w2 ⟨vt, rfl, ho2, hb2⟩; rw [World.size_alloc] at ho2; have HO2 := Lib.hid ho2; have HB2 := Lib.hid (((Below.refl w.heap.size w).alloc (Nat.le_refl _) (.cells #[.int .i64 0, .int .i64 0, .string ⟨#[]⟩, .string ⟨#[]⟩, .string ⟨#[]⟩, .string ⟨#[]⟩, .string ⟨#[]⟩, .string ⟨#[]⟩, .int .i64 0, .int .i64 0, .int .i64 0, .int .i64 0, .int .i64 0, .int .i64 0] 49)).trans (hb2.mono (by simp))); have HZ2 := Lib.hid ((Has.new w 49 #[.int .i64 0, .int .i64 0, .string ⟨#[]⟩, .string ⟨#[]⟩, .string ⟨#[]⟩, .string ⟨#[]⟩, .string ⟨#[]⟩, .string ⟨#[]⟩, .int .i64 0, .int .i64 0, .int .i64 0, .int .i64 0, .int .i64 0, .int .i64 0]).below hb2 (by simp)); obtain ⟨xz, yz⟩ := HZ2.out.facts; clear ho2 hb2) | (go_at_call 38; refine (HRD.out vt w2 HO2.out HB2.out HZ2.out.lt).mono ?_; rintro e w3 ⟨he3, hb3⟩; obtain rfl : e = .returned (.agg #[.int .i64 op, .int .i64 day, .string part, .string kind, .string into, .string slot, .string key, .string value, .int .i64 kl, .int .i64 kh, .int .i64 cl, .int .i64 ch, .int .i64 ll, .int .i64 lh]) := he3; have HB3 := Lib.hid (HB2.out.trans (hb3.mono (by omega))); have HZ3 := Lib.hid (HZ2.out.below hb3 (by omega)); clear hb3) | (go_at_call 26; refine (HTX.out _ (HB3.out.alloc HB3.out.size (.cells #[.int .i64 op, .int .i64 day, .string part, .string kind, .string into, .string slot, .string key, .string value, .int .i64 kl, .int .i64 kh, .int .i64 cl, .int .i64 ch, .int .i64 ll, .int .i64 lh] 49))).mono ?_; rintro e w4 ⟨rfl, hb4⟩; simp only [HOK.out, if_true]; have hne2 := HNE.out; have HB4 := Lib.hid ((HB3.out.alloc HB3.out.size (.cells #[.int .i64 op, .int .i64 day, .string part, .string kind, .string into, .string slot, .string key, .string value, .int .i64 kl, .int .i64 kh, .int .i64 cl, .int .i64 ch, .int .i64 ll, .int .i64 lh] 49)).trans (hb4.mono (by have := HB3.out.size; simp; omega))); have HZ4 := Lib.hid ((HZ3.out.alloc (.cells #[.int .i64 op, .int .i64 day, .string part, .string kind, .string into, .string slot, .string key, .string value, .int .i64 kl, .int .i64 kh, .int .i64 cl, .int .i64 ch, .int .i64 ll, .int .i64 lh] 49)).below hb4 (by have := HZ3.out.lt; simp; omega)); have HE4 := Lib.hid ((Has.new w3 49 #[.int .i64 op, .int .i64 day, .string part, .string kind, .string into, .string slot, .string key, .string value, .int .i64 kl, .int .i64 kh, .int .i64 cl, .int .i64 ch, .int .i64 ll, .int .i64 lh]).below hb4 (by simp)); obtain ⟨xz4, yz4⟩ := HZ4.out.facts; obtain ⟨xe4, ye4⟩ := HE4.out.facts; clear hb4))
        obtain ⟨HF, HFB⟩ := put14 HB4.out (Nat.le_refl _) HZ4.out (.int .i64 0) (.int .i64 0) (.string ⟨#[]⟩) (.string ⟨#[]⟩) (.string ⟨#[]⟩) (.string ⟨#[]⟩) (.string ⟨#[]⟩) (.string ⟨#[]⟩) (.int .i64 0) (.int .i64 0) (.int .i64 0) (.int .i64 0) (.int .i64 0) (.int .i64 0)
        obtain ⟨xf, yf⟩ := HF.facts
        refine bodyPost_ret (v := .tuple #[.agg #[.int .i64 0, .int .i64 0, .string ⟨#[]⟩, .string ⟨#[]⟩, .string ⟨#[]⟩, .string ⟨#[]⟩, .string ⟨#[]⟩, .string ⟨#[]⟩, .int .i64 0, .int .i64 0, .int .i64 0, .int .i64 0, .int .i64 0, .int .i64 0], .int .i64 8]) (by simp [results, Tryz.results24, go_sem, xf]) rfl ?_
        exact ⟨rfl, HFB⟩

      · have heq := of_decide_eq_true hbb
        rw [if_pos ⟨hok, heq⟩] at hp
        rw [hp]
        have HNE := Lib.hid (show ((textB ⟨op, day, part, kind, into, slot, key, value, kl, kh, cl, ch, ll, lh⟩).toList == s.toList) = true by rw [bytes_beq]; exact decide_eq_true heq)
        clear hbb hp hok heq
        go_enter Tryz.func24, Tryz.ntmps24
        go_wp2_with (first | (go_at_call 37; refine (HLX.out _).mono ?_; rintro e w2 ⟨vt, rfl, ho2, hb2⟩; rw [World.size_alloc] at ho2; have HO2 := Lib.hid ho2; have HB2 := Lib.hid (((Below.refl w.heap.size w).alloc (Nat.le_refl _) (.cells #[.int .i64 0, .int .i64 0, .string ⟨#[]⟩, .string ⟨#[]⟩, .string ⟨#[]⟩, .string ⟨#[]⟩, .string ⟨#[]⟩, .string ⟨#[]⟩, .int .i64 0, .int .i64 0, .int .i64 0, .int .i64 0, .int .i64 0, .int .i64 0] 49)).trans (hb2.mono (by simp))); have HZ2 := Lib.hid ((Has.new w 49 #[.int .i64 0, .int .i64 0, .string ⟨#[]⟩, .string ⟨#[]⟩, .string ⟨#[]⟩, .string ⟨#[]⟩, .string ⟨#[]⟩, .string ⟨#[]⟩, .int .i64 0, .int .i64 0, .int .i64 0, .int .i64 0, .int .i64 0, .int .i64 0]).below hb2 (by simp)); obtain ⟨xz, yz⟩ := HZ2.out.facts; clear ho2 hb2) | (go_at_call 38; refine (HRD.out vt w2 HO2.out HB2.out HZ2.out.lt).mono ?_; rintro e w3 ⟨he3, hb3⟩; obtain rfl : e = .returned (.agg #[.int .i64 op, .int .i64 day, .string part, .string kind, .string into, .string slot, .string key, .string value, .int .i64 kl, .int .i64 kh, .int .i64 cl, .int .i64 ch, .int .i64 ll, .int .i64 lh]) := he3; have HB3 := Lib.hid (HB2.out.trans (hb3.mono (by omega))); have HZ3 := Lib.hid (HZ2.out.below hb3 (by omega)); clear hb3) | (go_at_call 26; refine (HTX.out _ (HB3.out.alloc HB3.out.size (.cells #[.int .i64 op, .int .i64 day, .string part, .string kind, .string into, .string slot, .string key, .string value, .int .i64 kl, .int .i64 kh, .int .i64 cl, .int .i64 ch, .int .i64 ll, .int .i64 lh] 49))).mono ?_; rintro e w4 ⟨rfl, hb4⟩; simp only [HOK.out, if_true]; have hne2 := HNE.out; have HB4 := Lib.hid ((HB3.out.alloc HB3.out.size (.cells #[.int .i64 op, .int .i64 day, .string part, .string kind, .string into, .string slot, .string key, .string value, .int .i64 kl, .int .i64 kh, .int .i64 cl, .int .i64 ch, .int .i64 ll, .int .i64 lh] 49)).trans (hb4.mono (by have := HB3.out.size; simp; omega))); have HZ4 := Lib.hid ((HZ3.out.alloc (.cells #[.int .i64 op, .int .i64 day, .string part, .string kind, .string into, .string slot, .string key, .string value, .int .i64 kl, .int .i64 kh, .int .i64 cl, .int .i64 ch, .int .i64 ll, .int .i64 lh] 49)).below hb4 (by have := HZ3.out.lt; simp; omega)); have HE4 := Lib.hid ((Has.new w3 49 #[.int .i64 op, .int .i64 day, .string part, .string kind, .string into, .string slot, .string key, .string value, .int .i64 kl, .int .i64 kh, .int .i64 cl, .int .i64 ch, .int .i64 ll, .int .i64 lh]).below hb4 (by simp)); obtain ⟨xz4, yz4⟩ := HZ4.out.facts; obtain ⟨xe4, ye4⟩ := HE4.out.facts; clear hb4))
        obtain ⟨HF, HFB⟩ := put14 HB4.out (Nat.le_refl _) HZ4.out (.int .i64 op) (.int .i64 day) (.string part) (.string kind) (.string into) (.string slot) (.string key) (.string value) (.int .i64 kl) (.int .i64 kh) (.int .i64 cl) (.int .i64 ch) (.int .i64 ll) (.int .i64 lh)
        obtain ⟨xf, yf⟩ := HF.facts
        refine bodyPost_ret (v := .tuple #[.agg #[.int .i64 op, .int .i64 day, .string part, .string kind, .string into, .string slot, .string key, .string value, .int .i64 kl, .int .i64 kh, .int .i64 cl, .int .i64 ch, .int .i64 ll, .int .i64 lh], .int .i64 0]) (by simp [results, Tryz.results24, go_sem, xf]) rfl ?_
        exact ⟨rfl, HFB⟩

    · have HOK := Lib.hid hok
      rw [if_neg (fun h => hok h.1)] at hp
      rw [hp]
      clear hp hok
      go_enter Tryz.func24, Tryz.ntmps24
      go_wp2_with (first | (go_at_call 37; refine (HLX.out _).mono ?_; rintro e w2 ⟨vt, rfl, ho2, hb2⟩; rw [World.size_alloc] at ho2; have HO2 := Lib.hid ho2; have HB2 := Lib.hid (((Below.refl w.heap.size w).alloc (Nat.le_refl _) (.cells #[.int .i64 0, .int .i64 0, .string ⟨#[]⟩, .string ⟨#[]⟩, .string ⟨#[]⟩, .string ⟨#[]⟩, .string ⟨#[]⟩, .string ⟨#[]⟩, .int .i64 0, .int .i64 0, .int .i64 0, .int .i64 0, .int .i64 0, .int .i64 0] 49)).trans (hb2.mono (by simp))); have HZ2 := Lib.hid ((Has.new w 49 #[.int .i64 0, .int .i64 0, .string ⟨#[]⟩, .string ⟨#[]⟩, .string ⟨#[]⟩, .string ⟨#[]⟩, .string ⟨#[]⟩, .string ⟨#[]⟩, .int .i64 0, .int .i64 0, .int .i64 0, .int .i64 0, .int .i64 0, .int .i64 0]).below hb2 (by simp)); obtain ⟨xz, yz⟩ := HZ2.out.facts; clear ho2 hb2) | (go_at_call 38; refine (HRD.out vt w2 HO2.out HB2.out HZ2.out.lt).mono ?_; rintro e w3 ⟨he3, hb3⟩; obtain rfl : e = .returned (.agg #[.int .i64 op, .int .i64 day, .string part, .string kind, .string into, .string slot, .string key, .string value, .int .i64 kl, .int .i64 kh, .int .i64 cl, .int .i64 ch, .int .i64 ll, .int .i64 lh]) := he3; have HB3 := Lib.hid (HB2.out.trans (hb3.mono (by omega))); have HZ3 := Lib.hid (HZ2.out.below hb3 (by omega)); clear hb3) | (go_at_call 26; refine (HTX.out _ (HB3.out.alloc HB3.out.size (.cells #[.int .i64 op, .int .i64 day, .string part, .string kind, .string into, .string slot, .string key, .string value, .int .i64 kl, .int .i64 kh, .int .i64 cl, .int .i64 ch, .int .i64 ll, .int .i64 lh] 49))).mono ?_; rintro e w4 ⟨rfl, hb4⟩; simp only [if_neg HOK.out]; have HB4 := Lib.hid ((HB3.out.alloc HB3.out.size (.cells #[.int .i64 op, .int .i64 day, .string part, .string kind, .string into, .string slot, .string key, .string value, .int .i64 kl, .int .i64 kh, .int .i64 cl, .int .i64 ch, .int .i64 ll, .int .i64 lh] 49)).trans (hb4.mono (by have := HB3.out.size; simp; omega))); have HZ4 := Lib.hid ((HZ3.out.alloc (.cells #[.int .i64 op, .int .i64 day, .string part, .string kind, .string into, .string slot, .string key, .string value, .int .i64 kl, .int .i64 kh, .int .i64 cl, .int .i64 ch, .int .i64 ll, .int .i64 lh] 49)).below hb4 (by have := HZ3.out.lt; simp; omega)); have HE4 := Lib.hid ((Has.new w3 49 #[.int .i64 op, .int .i64 day, .string part, .string kind, .string into, .string slot, .string key, .string value, .int .i64 kl, .int .i64 kh, .int .i64 cl, .int .i64 ch, .int .i64 ll, .int .i64 lh]).below hb4 (by simp)); obtain ⟨xz4, yz4⟩ := HZ4.out.facts; obtain ⟨xe4, ye4⟩ := HE4.out.facts; clear hb4))
      obtain ⟨HF, HFB⟩ := put14 HB4.out (Nat.le_refl _) HZ4.out (.int .i64 0) (.int .i64 0) (.string ⟨#[]⟩) (.string ⟨#[]⟩) (.string ⟨#[]⟩) (.string ⟨#[]⟩) (.string ⟨#[]⟩) (.string ⟨#[]⟩) (.int .i64 0) (.int .i64 0) (.int .i64 0) (.int .i64 0) (.int .i64 0) (.int .i64 0)
      obtain ⟨xf, yf⟩ := HF.facts
      refine bodyPost_ret (v := .tuple #[.agg #[.int .i64 0, .int .i64 0, .string ⟨#[]⟩, .string ⟨#[]⟩, .string ⟨#[]⟩, .string ⟨#[]⟩, .string ⟨#[]⟩, .string ⟨#[]⟩, .int .i64 0, .int .i64 0, .int .i64 0, .int .i64 0, .int .i64 0, .int .i64 0], .int .i64 8]) (by simp [results, Tryz.results24, go_sem, xf]) rfl ?_
      exact ⟨rfl, HFB⟩

  · rw [if_neg he] at hp
    rw [hp]
    have hbe : (er == 0) = false := by rw [beq_eq_false_iff_ne]; exact he
    clear hp hk ht hv
    go_enter Tryz.func24, Tryz.ntmps24
    go_wp2_with (go_at_call 37; refine (HLX.out _).mono ?_; rintro e w2 ⟨vt, rfl, ho2, hb2⟩; rw [World.size_alloc] at ho2; have HO2 := Lib.hid ho2; have HB2 := Lib.hid (((Below.refl w.heap.size w).alloc (Nat.le_refl _) (.cells #[.int .i64 0, .int .i64 0, .string ⟨#[]⟩, .string ⟨#[]⟩, .string ⟨#[]⟩, .string ⟨#[]⟩, .string ⟨#[]⟩, .string ⟨#[]⟩, .int .i64 0, .int .i64 0, .int .i64 0, .int .i64 0, .int .i64 0, .int .i64 0] 49)).trans (hb2.mono (by simp))); have HZ2 := Lib.hid ((Has.new w 49 #[.int .i64 0, .int .i64 0, .string ⟨#[]⟩, .string ⟨#[]⟩, .string ⟨#[]⟩, .string ⟨#[]⟩, .string ⟨#[]⟩, .string ⟨#[]⟩, .int .i64 0, .int .i64 0, .int .i64 0, .int .i64 0, .int .i64 0, .int .i64 0]).below hb2 (by simp)); obtain ⟨xz, yz⟩ := HZ2.out.facts; clear ho2 hb2)
    obtain ⟨HF, HFB⟩ := put14 HB2.out (Nat.le_refl _) HZ2.out (.int .i64 0) (.int .i64 0) (.string ⟨#[]⟩) (.string ⟨#[]⟩) (.string ⟨#[]⟩) (.string ⟨#[]⟩) (.string ⟨#[]⟩) (.string ⟨#[]⟩) (.int .i64 0) (.int .i64 0) (.int .i64 0) (.int .i64 0) (.int .i64 0) (.int .i64 0)
    obtain ⟨xf, yf⟩ := HF.facts
    refine bodyPost_ret (v := .tuple #[.agg #[.int .i64 0, .int .i64 0, .string ⟨#[]⟩, .string ⟨#[]⟩, .string ⟨#[]⟩, .string ⟨#[]⟩, .string ⟨#[]⟩, .string ⟨#[]⟩, .int .i64 0, .int .i64 0, .int .i64 0, .int .i64 0, .int .i64 0, .int .i64 0], .int .i64 8]) (by simp [results, Tryz.results24, go_sem, xf]) rfl ?_
    exact ⟨rfl, HFB⟩

end Go.Proofs.YtjlpllnhefafkaaGreatDoor
