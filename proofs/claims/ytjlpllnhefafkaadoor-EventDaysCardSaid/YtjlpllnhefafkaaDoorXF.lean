/- event.Parse: the event of a text. Condition: the table of powers of ten, the error variables, and that the text lies in memory. bogieref09.Strings: whether two lists of strings are one. Condition: the lists lie in memory. The head of bogielaw09: what its five texts are. The head of bogielaw09. Condition: the table of powers of ten, and the error variables. -/
import Derived.Test.YtjlpllnhefafkaaDoorU07
import Derived.Test.YtjlpllnhefafkaaDoorXC
import Derived.Test.YtjlpllnhefafkaaDoorXD
import Derived.Test.YtjlpllnhefafkaaDoorXE
namespace Go.Proofs.YtjlpllnhefafkaaDoor
open Go Go.RowKit
theorem cut_size (s : ByteArray) (i j : Nat) : (cut s i j).size ≤ s.size := by
  unfold cut
  rw [ByteArray.size_extract]; omega
theorem unqGo_len {t : ByteArray} : ∀ (n i : Nat) (acc l : List UInt8) (m : Nat), unqGo t n i acc = some (l, m) → l.length ≤ acc.length + n
  | 0, i, acc, l, m, h => by cases h
  | n + 1, i, acc, l, m, h => by
    rw [unqGo_succ] at h
    split at h
    · cases h
    · split at h
      · cases h; omega
      · split at h
        · cases h
        · split at h
          · split at h
            · cases h
            · split at h
              · cases h
              · have := unqGo_len n _ _ _ _ h; simp at this; omega
          · have := unqGo_len n _ _ _ _ h; simp at this; omega
/-- The texts of a text's tokens are not longer than it. -/
theorem lexGo_texts (s : ByteArray) : ∀ (n i : Nat), ∀ f ∈ lexGo s n i, f.text.size ≤ s.size
  | 0, i, f, h => by cases h
  | n + 1, i, f, h => by
    have c := cut_size s
    rw [lexGo_succ] at h
    split at h
    · cases h
    · split at h
      · exact lexGo_texts s n _ f h
      · split at h
        · exact lexGo_texts s n _ f h
        · split at h
          · split at h
            · rw [List.mem_singleton] at h; subst h; exact c _ _
            · rcases List.mem_cons.1 h with h | h
              · subst h; exact c _ _
              · exact lexGo_texts s n _ f h
          · split at h
            · split at h
              · rw [List.mem_singleton] at h; subst h; exact c _ _
              · rcases List.mem_cons.1 h with h | h
                · subst h; exact c _ _
                · exact lexGo_texts s n _ f h
            · split at h
              · split at h
                · rw [List.mem_singleton] at h; subst h; exact Nat.zero_le _
                · rename_i t m hu
                  rcases List.mem_cons.1 h with h | h
                  · subst h
                    have h1 := unqGo_len _ _ _ _ _ hu
                    have h2 := c i s.size
                    simp only [List.length_nil, Nat.zero_add] at h1
                    show t.toArray.size ≤ _
                    rw [List.size_toArray]; omega
                  · exact lexGo_texts s n _ f h
              · split at h
                · rcases List.mem_cons.1 h with h | h
                  · subst h; exact c _ _
                  · exact lexGo_texts s n _ f h
                · rw [List.mem_singleton] at h; subst h; exact Nat.zero_le _
theorem takeF_kept : ∀ (fs out : List Fnd), out.length ≤ 5000 → (takeF fs out).1.length ≤ 5000 ∧ ∀ f ∈ (takeF fs out).1, f ∈ out ∨ f ∈ fs
  | [], out, h => ⟨h, fun f hf => .inl hf⟩
  | x :: r, out, h => by
    unfold takeF
    split
    · exact ⟨Nat.zero_le _, fun f hf => by cases hf⟩
    · split
      · exact ⟨Nat.zero_le _, fun f hf => by cases hf⟩
      · have h1 := takeF_kept r (out ++ [x]) (by rw [List.length_append, List.length_singleton]; omega)
        refine ⟨h1.1, fun f hf => ?_⟩
        rcases h1.2 f hf with h2 | h2
        · rcases List.mem_append.1 h2 with h3 | h3
          · exact .inl h3
          · rw [List.mem_singleton] at h3; subst h3; exact .inr (List.mem_cons_self ..)
        · exact .inr (List.mem_cons_of_mem _ h2)
theorem lexL_kept (s : ByteArray) : (lexL s).1.length ≤ 5000 ∧ ∀ t ∈ (lexL s).1.map Fnd.text, t.size ≤ 1000000 := by
  unfold lexL
  split
  · exact ⟨Nat.zero_le _, fun t h => by cases h⟩
  · have h := takeF_kept (lexF s) [] (Nat.zero_le _)
    refine ⟨h.1, fun t ht => ?_⟩
    obtain ⟨f, hf, rfl⟩ := List.mem_map.1 ht
    rcases h.2 f hf with h1 | h1
    · cases h1
    · have := lexGo_texts s _ _ f h1; omega
theorem getD_size {ts : List ByteArray} (h : ∀ t ∈ ts, t.size ≤ 1000000) (i : Nat) : (ts.getD i ⟨#[]⟩).size ≤ maxLen := by
  unfold maxLen
  rw [List.getD_eq_getElem?_getD]
  rcases Nat.lt_or_ge i ts.length with h1 | h1
  · rw [List.getElem?_eq_getElem h1]
    have h2 := h _ (List.getElem_mem h1)
    show (ts[i]).size ≤ _
    omega
  · rw [List.getElem?_eq_none h1]; exact Nat.zero_le _
theorem ite_size {c : Prop} [Decidable c] {a : ByteArray} (h : a.size ≤ maxLen) : (if c then a else ⟨#[]⟩).size ≤ maxLen := by
  split
  · exact h
  · exact Nat.zero_le _
theorem readE_short {ts : List ByteArray} (h : ∀ t ∈ ts, t.size ≤ 1000000) : (readE ts).short :=
  ⟨getD_size h 2, ite_size (getD_size h 3), ite_size (getD_size h 3), ite_size (getD_size h 4), ite_size (getD_size h 3), ite_size (getD_size h 4)⟩
set_option maxRecDepth 100000 in
set_option maxHeartbeats 8000000 in
theorem parse_any (s : ByteArray) (w0 w : World) (ht : Tab w0) (hv : Evs w0) (hb0 : Below w0.heap.size w0 w) (hs : s.size ≤ maxLen) :
    Calls Tryd.prog 16 #[.string s] w fun r w' => r = .returned (.tuple #[.agg (parseE s).1.cells, .int .i64 (parseE s).2]) ∧ Below w.heap.size w w' := by
  have hsz0 := hb0.size
  have hk := lexL_kept s
  have hl := fun W => lex_any s W hs
  have hp : parseE s = if (lexL s).2.1 = 0 then (if evOk (readE ((lexL s).1.map Fnd.text)) = true ∧ textB (readE ((lexL s).1.map Fnd.text)) = s then (readE ((lexL s).1.map Fnd.text), 0) else (zeroE, 8)) else (zeroE, 8) := rfl
  generalize lexL s = q at *
  obtain ⟨fs, er, ap⟩ := q
  dsimp only at hk hl hp
  have HLX := Lib.hid hl
  clear hl
  by_cases he : er = 0
  · subst he
    rw [if_pos rfl] at hp
    have hsh := readE_short hk.2
    have HRD := Lib.hid (fun v W (ho : W.ownsRow (w.heap.size + 1) 91 3 v fs.length (tokCells fs)) (hb : Below w.heap.size w W) (hz : w.heap.size < W.heap.size) => read_any (w.heap.size + 1) fs v w0 W hv (hb0.trans (hb.mono hsz0)) ⟨by omega, hz⟩ ho hk.1 hk.2)
    generalize readE (fs.map Fnd.text) = e at *
    obtain ⟨op, day, part, kind, into, slot, key, value, kl, kh, cl, ch, ll, lh⟩ := e
    have HTX := Lib.hid (fun W (hb : Below w.heap.size w W) => text_any ⟨op, day, part, kind, into, slot, key, value, kl, kh, cl, ch, ll, lh⟩ w0 W ht (hb0.trans (hb.mono hsz0)) hsh)
    clear hk hsh ht hv
    by_cases hok : evOk ⟨op, day, part, kind, into, slot, key, value, kl, kh, cl, ch, ll, lh⟩ = true
    · have HOK := Lib.hid hok
      generalize hbb : ((textB ⟨op, day, part, kind, into, slot, key, value, kl, kh, cl, ch, ll, lh⟩).toList == s.toList) = bb
      rw [bytes_beq] at hbb
      cases bb
      · have hne := of_decide_eq_false hbb
        rw [if_neg (fun h => hne h.2)] at hp
        rw [hp]
        have HNE := Lib.hid (show ((textB ⟨op, day, part, kind, into, slot, key, value, kl, kh, cl, ch, ll, lh⟩).toList == s.toList) = false by rw [bytes_beq]; exact decide_eq_false hne)
        clear hbb hp hok hne
        go_enter Tryd.func16, Tryd.ntmps16
        go_wp2_with (first | (go_at_call 28; refine (HLX.out _).mono ?_; rintro e w2 ⟨vt, rfl, ho2, hb2⟩; rw [World.size_alloc] at ho2; have HO2 := Lib.hid ho2; have HB2 := Lib.hid (((Below.refl w.heap.size w).alloc (Nat.le_refl _) (.cells #[.int .i64 0, .int .i64 0, .string ⟨#[]⟩, .string ⟨#[]⟩, .string ⟨#[]⟩, .string ⟨#[]⟩, .string ⟨#[]⟩, .string ⟨#[]⟩, .int .i64 0, .int .i64 0, .int .i64 0, .int .i64 0, .int .i64 0, .int .i64 0] 27)).trans (hb2.mono (by simp))); have HZ2 := Lib.hid ((Has.new w 27 #[.int .i64 0, .int .i64 0, .string ⟨#[]⟩, .string ⟨#[]⟩, .string ⟨#[]⟩, .string ⟨#[]⟩, .string ⟨#[]⟩, .string ⟨#[]⟩, .int .i64 0, .int .i64 0, .int .i64 0, .int .i64 0, .int .i64 0, .int .i64 0]).below hb2 (by simp)); obtain ⟨xz, yz⟩ := HZ2.out.facts; clear ho2 hb2) | (go_at_call 29; refine (HRD.out vt w2 HO2.out HB2.out HZ2.out.lt).mono ?_; rintro e w3 ⟨he3, hb3⟩; obtain rfl : e = .returned (.agg #[.int .i64 op, .int .i64 day, .string part, .string kind, .string into, .string slot, .string key, .string value, .int .i64 kl, .int .i64 kh, .int .i64 cl, .int .i64 ch, .int .i64 ll, .int .i64 lh]) := he3; have HB3 := Lib.hid (HB2.out.trans (hb3.mono (by omega))); have HZ3 := Lib.hid (HZ2.out.below hb3 (by omega)); clear hb3) | (go_at_call 25; refine (HTX.out _ (HB3.out.alloc HB3.out.size (.cells #[.int .i64 op, .int .i64 day, .string part, .string kind, .string into, .string slot, .string key, .string value, .int .i64 kl, .int .i64 kh, .int .i64 cl, .int .i64 ch, .int .i64 ll, .int .i64 lh] 27))).mono ?_; rintro e w4 ⟨rfl, hb4⟩; simp only [HOK.out, if_true]; have hne2 := HNE.out; have HB4 := Lib.hid ((HB3.out.alloc HB3.out.size (.cells #[.int .i64 op, .int .i64 day, .string part, .string kind, .string into, .string slot, .string key, .string value, .int .i64 kl, .int .i64 kh, .int .i64 cl, .int .i64 ch, .int .i64 ll, .int .i64 lh] 27)).trans (hb4.mono (by have := HB3.out.size; simp; omega))); have HZ4 := Lib.hid ((HZ3.out.alloc (.cells #[.int .i64 op, .int .i64 day, .string part, .string kind, .string into, .string slot, .string key, .string value, .int .i64 kl, .int .i64 kh, .int .i64 cl, .int .i64 ch, .int .i64 ll, .int .i64 lh] 27)).below hb4 (by have := HZ3.out.lt; simp; omega)); have HE4 := Lib.hid ((Has.new w3 27 #[.int .i64 op, .int .i64 day, .string part, .string kind, .string into, .string slot, .string key, .string value, .int .i64 kl, .int .i64 kh, .int .i64 cl, .int .i64 ch, .int .i64 ll, .int .i64 lh]).below hb4 (by simp)); obtain ⟨xz4, yz4⟩ := HZ4.out.facts; obtain ⟨xe4, ye4⟩ := HE4.out.facts; clear hb4))
        obtain ⟨HF, HFB⟩ := put14 HB4.out (Nat.le_refl _) HZ4.out (.int .i64 0) (.int .i64 0) (.string ⟨#[]⟩) (.string ⟨#[]⟩) (.string ⟨#[]⟩) (.string ⟨#[]⟩) (.string ⟨#[]⟩) (.string ⟨#[]⟩) (.int .i64 0) (.int .i64 0) (.int .i64 0) (.int .i64 0) (.int .i64 0) (.int .i64 0)
        obtain ⟨xf, yf⟩ := HF.facts
        refine bodyPost_ret (v := .tuple #[.agg #[.int .i64 0, .int .i64 0, .string ⟨#[]⟩, .string ⟨#[]⟩, .string ⟨#[]⟩, .string ⟨#[]⟩, .string ⟨#[]⟩, .string ⟨#[]⟩, .int .i64 0, .int .i64 0, .int .i64 0, .int .i64 0, .int .i64 0, .int .i64 0], .int .i64 8]) (by simp [results, Tryd.results16, go_sem, xf]) rfl ?_
        exact ⟨rfl, HFB⟩

      · have heq := of_decide_eq_true hbb
        rw [if_pos ⟨hok, heq⟩] at hp
        rw [hp]
        have HNE := Lib.hid (show ((textB ⟨op, day, part, kind, into, slot, key, value, kl, kh, cl, ch, ll, lh⟩).toList == s.toList) = true by rw [bytes_beq]; exact decide_eq_true heq)
        clear hbb hp hok heq
        go_enter Tryd.func16, Tryd.ntmps16
        go_wp2_with (first | (go_at_call 28; refine (HLX.out _).mono ?_; rintro e w2 ⟨vt, rfl, ho2, hb2⟩; rw [World.size_alloc] at ho2; have HO2 := Lib.hid ho2; have HB2 := Lib.hid (((Below.refl w.heap.size w).alloc (Nat.le_refl _) (.cells #[.int .i64 0, .int .i64 0, .string ⟨#[]⟩, .string ⟨#[]⟩, .string ⟨#[]⟩, .string ⟨#[]⟩, .string ⟨#[]⟩, .string ⟨#[]⟩, .int .i64 0, .int .i64 0, .int .i64 0, .int .i64 0, .int .i64 0, .int .i64 0] 27)).trans (hb2.mono (by simp))); have HZ2 := Lib.hid ((Has.new w 27 #[.int .i64 0, .int .i64 0, .string ⟨#[]⟩, .string ⟨#[]⟩, .string ⟨#[]⟩, .string ⟨#[]⟩, .string ⟨#[]⟩, .string ⟨#[]⟩, .int .i64 0, .int .i64 0, .int .i64 0, .int .i64 0, .int .i64 0, .int .i64 0]).below hb2 (by simp)); obtain ⟨xz, yz⟩ := HZ2.out.facts; clear ho2 hb2) | (go_at_call 29; refine (HRD.out vt w2 HO2.out HB2.out HZ2.out.lt).mono ?_; rintro e w3 ⟨he3, hb3⟩; obtain rfl : e = .returned (.agg #[.int .i64 op, .int .i64 day, .string part, .string kind, .string into, .string slot, .string key, .string value, .int .i64 kl, .int .i64 kh, .int .i64 cl, .int .i64 ch, .int .i64 ll, .int .i64 lh]) := he3; have HB3 := Lib.hid (HB2.out.trans (hb3.mono (by omega))); have HZ3 := Lib.hid (HZ2.out.below hb3 (by omega)); clear hb3) | (go_at_call 25; refine (HTX.out _ (HB3.out.alloc HB3.out.size (.cells #[.int .i64 op, .int .i64 day, .string part, .string kind, .string into, .string slot, .string key, .string value, .int .i64 kl, .int .i64 kh, .int .i64 cl, .int .i64 ch, .int .i64 ll, .int .i64 lh] 27))).mono ?_; rintro e w4 ⟨rfl, hb4⟩; simp only [HOK.out, if_true]; have hne2 := HNE.out; have HB4 := Lib.hid ((HB3.out.alloc HB3.out.size (.cells #[.int .i64 op, .int .i64 day, .string part, .string kind, .string into, .string slot, .string key, .string value, .int .i64 kl, .int .i64 kh, .int .i64 cl, .int .i64 ch, .int .i64 ll, .int .i64 lh] 27)).trans (hb4.mono (by have := HB3.out.size; simp; omega))); have HZ4 := Lib.hid ((HZ3.out.alloc (.cells #[.int .i64 op, .int .i64 day, .string part, .string kind, .string into, .string slot, .string key, .string value, .int .i64 kl, .int .i64 kh, .int .i64 cl, .int .i64 ch, .int .i64 ll, .int .i64 lh] 27)).below hb4 (by have := HZ3.out.lt; simp; omega)); have HE4 := Lib.hid ((Has.new w3 27 #[.int .i64 op, .int .i64 day, .string part, .string kind, .string into, .string slot, .string key, .string value, .int .i64 kl, .int .i64 kh, .int .i64 cl, .int .i64 ch, .int .i64 ll, .int .i64 lh]).below hb4 (by simp)); obtain ⟨xz4, yz4⟩ := HZ4.out.facts; obtain ⟨xe4, ye4⟩ := HE4.out.facts; clear hb4))
        obtain ⟨HF, HFB⟩ := put14 HB4.out (Nat.le_refl _) HZ4.out (.int .i64 op) (.int .i64 day) (.string part) (.string kind) (.string into) (.string slot) (.string key) (.string value) (.int .i64 kl) (.int .i64 kh) (.int .i64 cl) (.int .i64 ch) (.int .i64 ll) (.int .i64 lh)
        obtain ⟨xf, yf⟩ := HF.facts
        refine bodyPost_ret (v := .tuple #[.agg #[.int .i64 op, .int .i64 day, .string part, .string kind, .string into, .string slot, .string key, .string value, .int .i64 kl, .int .i64 kh, .int .i64 cl, .int .i64 ch, .int .i64 ll, .int .i64 lh], .int .i64 0]) (by simp [results, Tryd.results16, go_sem, xf]) rfl ?_
        exact ⟨rfl, HFB⟩

    · have HOK := Lib.hid hok
      rw [if_neg (fun h => hok h.1)] at hp
      rw [hp]
      clear hp hok
      go_enter Tryd.func16, Tryd.ntmps16
      go_wp2_with (first | (go_at_call 28; refine (HLX.out _).mono ?_; rintro e w2 ⟨vt, rfl, ho2, hb2⟩; rw [World.size_alloc] at ho2; have HO2 := Lib.hid ho2; have HB2 := Lib.hid (((Below.refl w.heap.size w).alloc (Nat.le_refl _) (.cells #[.int .i64 0, .int .i64 0, .string ⟨#[]⟩, .string ⟨#[]⟩, .string ⟨#[]⟩, .string ⟨#[]⟩, .string ⟨#[]⟩, .string ⟨#[]⟩, .int .i64 0, .int .i64 0, .int .i64 0, .int .i64 0, .int .i64 0, .int .i64 0] 27)).trans (hb2.mono (by simp))); have HZ2 := Lib.hid ((Has.new w 27 #[.int .i64 0, .int .i64 0, .string ⟨#[]⟩, .string ⟨#[]⟩, .string ⟨#[]⟩, .string ⟨#[]⟩, .string ⟨#[]⟩, .string ⟨#[]⟩, .int .i64 0, .int .i64 0, .int .i64 0, .int .i64 0, .int .i64 0, .int .i64 0]).below hb2 (by simp)); obtain ⟨xz, yz⟩ := HZ2.out.facts; clear ho2 hb2) | (go_at_call 29; refine (HRD.out vt w2 HO2.out HB2.out HZ2.out.lt).mono ?_; rintro e w3 ⟨he3, hb3⟩; obtain rfl : e = .returned (.agg #[.int .i64 op, .int .i64 day, .string part, .string kind, .string into, .string slot, .string key, .string value, .int .i64 kl, .int .i64 kh, .int .i64 cl, .int .i64 ch, .int .i64 ll, .int .i64 lh]) := he3; have HB3 := Lib.hid (HB2.out.trans (hb3.mono (by omega))); have HZ3 := Lib.hid (HZ2.out.below hb3 (by omega)); clear hb3) | (go_at_call 25; refine (HTX.out _ (HB3.out.alloc HB3.out.size (.cells #[.int .i64 op, .int .i64 day, .string part, .string kind, .string into, .string slot, .string key, .string value, .int .i64 kl, .int .i64 kh, .int .i64 cl, .int .i64 ch, .int .i64 ll, .int .i64 lh] 27))).mono ?_; rintro e w4 ⟨rfl, hb4⟩; simp only [if_neg HOK.out]; have HB4 := Lib.hid ((HB3.out.alloc HB3.out.size (.cells #[.int .i64 op, .int .i64 day, .string part, .string kind, .string into, .string slot, .string key, .string value, .int .i64 kl, .int .i64 kh, .int .i64 cl, .int .i64 ch, .int .i64 ll, .int .i64 lh] 27)).trans (hb4.mono (by have := HB3.out.size; simp; omega))); have HZ4 := Lib.hid ((HZ3.out.alloc (.cells #[.int .i64 op, .int .i64 day, .string part, .string kind, .string into, .string slot, .string key, .string value, .int .i64 kl, .int .i64 kh, .int .i64 cl, .int .i64 ch, .int .i64 ll, .int .i64 lh] 27)).below hb4 (by have := HZ3.out.lt; simp; omega)); have HE4 := Lib.hid ((Has.new w3 27 #[.int .i64 op, .int .i64 day, .string part, .string kind, .string into, .string slot, .string key, .string value, .int .i64 kl, .int .i64 kh, .int .i64 cl, .int .i64 ch, .int .i64 ll, .int .i64 lh]).below hb4 (by simp)); obtain ⟨xz4, yz4⟩ := HZ4.out.facts; obtain ⟨xe4, ye4⟩ := HE4.out.facts; clear hb4))
      obtain ⟨HF, HFB⟩ := put14 HB4.out (Nat.le_refl _) HZ4.out (.int .i64 0) (.int .i64 0) (.string ⟨#[]⟩) (.string ⟨#[]⟩) (.string ⟨#[]⟩) (.string ⟨#[]⟩) (.string ⟨#[]⟩) (.string ⟨#[]⟩) (.int .i64 0) (.int .i64 0) (.int .i64 0) (.int .i64 0) (.int .i64 0) (.int .i64 0)
      obtain ⟨xf, yf⟩ := HF.facts
      refine bodyPost_ret (v := .tuple #[.agg #[.int .i64 0, .int .i64 0, .string ⟨#[]⟩, .string ⟨#[]⟩, .string ⟨#[]⟩, .string ⟨#[]⟩, .string ⟨#[]⟩, .string ⟨#[]⟩, .int .i64 0, .int .i64 0, .int .i64 0, .int .i64 0, .int .i64 0, .int .i64 0], .int .i64 8]) (by simp [results, Tryd.results16, go_sem, xf]) rfl ?_
      exact ⟨rfl, HFB⟩

  · rw [if_neg he] at hp
    rw [hp]
    have hbe : (er == 0) = false := by rw [beq_eq_false_iff_ne]; exact he
    clear hp hk ht hv
    go_enter Tryd.func16, Tryd.ntmps16
    go_wp2_with (go_at_call 28; refine (HLX.out _).mono ?_; rintro e w2 ⟨vt, rfl, ho2, hb2⟩; rw [World.size_alloc] at ho2; have HO2 := Lib.hid ho2; have HB2 := Lib.hid (((Below.refl w.heap.size w).alloc (Nat.le_refl _) (.cells #[.int .i64 0, .int .i64 0, .string ⟨#[]⟩, .string ⟨#[]⟩, .string ⟨#[]⟩, .string ⟨#[]⟩, .string ⟨#[]⟩, .string ⟨#[]⟩, .int .i64 0, .int .i64 0, .int .i64 0, .int .i64 0, .int .i64 0, .int .i64 0] 27)).trans (hb2.mono (by simp))); have HZ2 := Lib.hid ((Has.new w 27 #[.int .i64 0, .int .i64 0, .string ⟨#[]⟩, .string ⟨#[]⟩, .string ⟨#[]⟩, .string ⟨#[]⟩, .string ⟨#[]⟩, .string ⟨#[]⟩, .int .i64 0, .int .i64 0, .int .i64 0, .int .i64 0, .int .i64 0, .int .i64 0]).below hb2 (by simp)); obtain ⟨xz, yz⟩ := HZ2.out.facts; clear ho2 hb2)
    obtain ⟨HF, HFB⟩ := put14 HB2.out (Nat.le_refl _) HZ2.out (.int .i64 0) (.int .i64 0) (.string ⟨#[]⟩) (.string ⟨#[]⟩) (.string ⟨#[]⟩) (.string ⟨#[]⟩) (.string ⟨#[]⟩) (.string ⟨#[]⟩) (.int .i64 0) (.int .i64 0) (.int .i64 0) (.int .i64 0) (.int .i64 0) (.int .i64 0)
    obtain ⟨xf, yf⟩ := HF.facts
    refine bodyPost_ret (v := .tuple #[.agg #[.int .i64 0, .int .i64 0, .string ⟨#[]⟩, .string ⟨#[]⟩, .string ⟨#[]⟩, .string ⟨#[]⟩, .string ⟨#[]⟩, .string ⟨#[]⟩, .int .i64 0, .int .i64 0, .int .i64 0, .int .i64 0, .int .i64 0, .int .i64 0], .int .i64 8]) (by simp [results, Tryd.results16, go_sem, xf]) rfl ?_
    exact ⟨rfl, HFB⟩

end Go.Proofs.YtjlpllnhefafkaaDoor
namespace Go.Proofs.YtjlpllnhefafkaaDoor
open Go Go.RowKit
theorem list_byes {l1 l2 : List ByteArray} (hl : l1.length = l2.length) (h : ∀ j, j < l1.length → l1.getD j ⟨#[]⟩ = l2.getD j ⟨#[]⟩) : l1 = l2 :=
  List.ext_getElem hl fun j h1 h2 => by
    have h3 := h j h1
    rwa [List.getD_eq_getElem?_getD, List.getD_eq_getElem?_getD, List.getElem?_eq_getElem h1, List.getElem?_eq_getElem h2] at h3
set_option maxRecDepth 100000 in
set_option maxHeartbeats 4000000 in
theorem strings_any (v1 v2 : Value) (l1 l2 : List ByteArray) (w : World) (h1 : Sl w v1 l1.length 1 (strF l1)) (h2 : Sl w v2 l2.length 1 (strF l2)) (hm : l1.length ≤ 1000000) :
    Calls Tryd.prog 8 #[v1, v2] w fun e w' => e = .returned (.bool (decide (l1 = l2))) ∧ Below w.heap.size w w' := by
  obtain ⟨A1, c1, rfl, hn1, h1⟩ := h1
  obtain ⟨A2, c2, rfl, hn2, h2⟩ := h2
  by_cases hl : l1.length = l2.length
  · have hli : ((l1.length : Int) == (l2.length : Int)) = true := by rw [hl]; simp
    have hlb : (l1.length : Int) = (l2.length : Int) := by rw [hl]
    have HL := Lib.hid hl
    have H1 := Lib.hid h1
    have H2 := Lib.hid h2
    clear h1 h2
    go_enter Tryd.func8, Tryd.ntmps8
    go_wp2_with fail
    go_loopw [5] (fun i wr => ∃ k : Nat, k ≤ l1.length ∧ i = .int .i64 k ∧ Hid (∀ j, j < k → l1.getD j ⟨#[]⟩ = l2.getD j ⟨#[]⟩) ∧ Hid (Below w.heap.size w wr)) (fun i _ => l1.length - (intOf i).toNat)
    case atStart => exact ⟨0, by omega, rfl, Lib.hid (fun j hj => by omega), Lib.hid (Below.refl _ _)⟩
    case round =>
      obtain ⟨k, hk, rfl, HP, HB⟩ := hrel
      by_cases hke : k = l1.length
      · subst hke
        have HD := Lib.hid (show decide (l1 = l2) = true from decide_eq_true (list_byes HL.out HP.out))
        have hlt : ¬ ((l1.length : Int) < (l1.length : Int)) := by omega
        go_wp2_with fail
        refine bodyPost_ret (v := .bool true) (by simp [results, Tryd.results8, go_sem]) rfl ?_
        exact ⟨by rw [HD.out], HB.out⟩
      have hki : (k : Int) < (l1.length : Int) := by omega
      have hkj : (k : Int) < (l2.length : Int) := by omega
      have hkn : k < l1.length := by omega
      have hkm : k < l2.length := by omega
      obtain ⟨b1, o1, rfl, g1⟩ : ∃ b o, A1 = some ⟨b, o, none⟩ ∧ ∀ j, j < l1.length * 1 → w.cell? ⟨b, o + j, none⟩ = some (strF l1 j) := by
        rcases H1.out with h0 | h0
        · omega
        · exact h0
      obtain ⟨b2, o2, rfl, g2⟩ : ∃ b o, A2 = some ⟨b, o, none⟩ ∧ ∀ j, j < l2.length * 1 → w.cell? ⟨b, o + j, none⟩ = some (strF l2 j) := by
        rcases H2.out with h0 | h0
        · omega
        · exact h0
      obtain ⟨s1, hs1⟩ : ∃ s, s = l1.getD k ⟨#[]⟩ := ⟨_, rfl⟩
      obtain ⟨s2, hs2⟩ : ∃ s, s = l2.getD k ⟨#[]⟩ := ⟨_, rfl⟩
      have hx : wr.drew.cell? ⟨b1, o1 + k, none⟩ = some (.string s1) := hs1 ▸ cell_later HB.out.drew (g1 k (by omega))
      have hy : wr.drew.cell? ⟨b2, o2 + k, none⟩ = some (.string s2) := hs2 ▸ cell_later HB.out.drew (g2 k (by omega))
      have HS1 := Lib.hid hs1
      have HS2 := Lib.hid hs2
      clear hs1 hs2
      go_wp2_with fail
      refine wp_region_held_drew (S := fun W => W.cell? ⟨b1, o1 + k, none⟩ = some (.string s1) ∧ W.cell? ⟨b2, o2 + k, none⟩ = some (.string s2)) (by kernel_rfl) (⟨hx, hy⟩) (fun hHeld => ?_)
      refine plI [(0, false), (1, false), (2, false), (3, false), (4, false), (5, false), (6, false), (7, false), (8, false)] ?_
      repeat ((first | ((with_reducible show Plan ((_, true) :: _) _); refine plF ?_) | (refine plR (v := ?_) ?_ ?_; rotate_left; focus (intro W hSW; (try dsimp only at hSW); go_simp; all_goals (with_reducible rfl)))); try simp only [Act.put, List.setIfInBounds_toArray, List.set_cons_zero, List.set_cons_succ])
      refine plE ?_
      refine wpAnyH_done (by kernel_rfl) ?_ _
      clear hHeld
      generalize hbb : (s1.toList == s2.toList) = bb
      rw [bytes_beq, HS1.out, HS2.out] at hbb
      cases bb
      · have hne := of_decide_eq_false hbb
        have HD := Lib.hid (show decide (l1 = l2) = false from decide_eq_false (fun e => hne (by rw [e])))
        clear hbb hne
        go_wp2_with fail
        refine bodyPost_ret (v := .bool false) (by simp [results, Tryd.results8, go_sem]) rfl ?_
        exact ⟨by rw [HD.out], HB.out.drew⟩
      · have heq : l1.getD k ⟨#[]⟩ = l2.getD k ⟨#[]⟩ := of_decide_eq_true hbb
        clear hbb
        go_wp2_with fail
        go_roundw
        case rel => exact ⟨k + 1, by omega, rfl, Lib.hid (fun j hj => by rcases (by omega : j < k ∨ j = k) with h | h; exact HP.out j h; subst h; exact heq), Lib.hid HB.out.drew⟩
        case measure => simp [intOf]; omega
  · have hli : ((l1.length : Int) == (l2.length : Int)) = false := by rw [beq_eq_false_iff_ne]; omega
    have HD := Lib.hid (show decide (l1 = l2) = false from decide_eq_false (fun e => hl (by rw [e])))
    clear h1 h2
    go_enter Tryd.func8, Tryd.ntmps8
    go_wp2_with fail
    refine bodyPost_ret (v := .bool false) (by simp [results, Tryd.results8, go_sem]) rfl ?_
    exact ⟨by rw [HD.out], Below.refl _ _⟩
end Go.Proofs.YtjlpllnhefafkaaDoor
namespace Go.Proofs.YtjlpllnhefafkaaDoor
open Go Go.RowKit
def tx1 : ByteArray := ⟨#[109, 97, 107, 101, 32, 48, 32, 97, 49, 32, 97, 120, 108, 101]⟩
def tx2 : ByteArray := ⟨#[114, 117, 110, 32, 57, 32, 118, 49, 32, 49, 48, 32, 49, 50, 32, 51, 32, 51, 32, 48, 32, 53]⟩
def tx3 : ByteArray := ⟨#[110, 111, 116, 101, 32, 57, 32, 97, 49, 32, 98, 97, 116, 99, 104, 32, 34, 55, 98, 34]⟩
def tx4 : ByteArray := ⟨#[102, 105, 116, 32, 49, 32, 97, 49, 32, 97, 49, 32, 120]⟩
def tx5 : ByteArray := ⟨#[109, 97, 107, 101, 32, 48, 48, 32, 97, 49, 32, 97, 120, 108, 101]⟩
def ev1 : Ev := ⟨1, 0, ⟨#[97, 49]⟩, ⟨#[97, 120, 108, 101]⟩, ⟨#[]⟩, ⟨#[]⟩, ⟨#[]⟩, ⟨#[]⟩, 0, 0, 0, 0, 0, 0⟩
def ev2 : Ev := ⟨4, 9, ⟨#[118, 49]⟩, ⟨#[]⟩, ⟨#[]⟩, ⟨#[]⟩, ⟨#[]⟩, ⟨#[]⟩, 10, 12, 3, 3, 0, 5⟩
def ev3 : Ev := ⟨6, 9, ⟨#[97, 49]⟩, ⟨#[]⟩, ⟨#[]⟩, ⟨#[]⟩, ⟨#[98, 97, 116, 99, 104]⟩, ⟨#[55, 98]⟩, 0, 0, 0, 0, 0, 0⟩
theorem head_p1 : parseE tx1 = (ev1, 0) := (congrArg parseE (show tx1 = textB ev1 by decide +kernel)).trans (parse_text (by decide +kernel))
theorem head_p2 : parseE tx2 = (ev2, 0) := (congrArg parseE (show tx2 = textB ev2 by decide +kernel)).trans (parse_text (by decide +kernel))
theorem head_p3 : parseE tx3 = (ev3, 0) := (congrArg parseE (show tx3 = textB ev3 by decide +kernel)).trans (parse_text (by decide +kernel))
theorem head_p4 : parseE tx4 = (zeroE, 8) := by decide +kernel
theorem head_p5 : parseE tx5 = (zeroE, 8) := by decide +kernel
end Go.Proofs.YtjlpllnhefafkaaDoor
namespace Go.Proofs.YtjlpllnhefafkaaDoor
open Go Go.RowKit
theorem parse_lit {s : ByteArray} {e : Ev} {er : Int} (hp : parseE s = (e, er)) (hs : s.size ≤ 3000) (w0 w : World) (ht : Tab w0) (hv : Evs w0) (hb0 : Below w0.heap.size w0 w) :
    Calls Tryd.prog 16 #[.string s] w fun r w' => r = .returned (.tuple #[.agg e.cells, .int .i64 er]) ∧ Below w.heap.size w w' := by
  have h := parse_any s w0 w ht hv hb0 (by unfold maxLen; omega)
  rw [hp] at h
  exact h
theorem head_names : evNames ⟨2, 0, ⟨#[98]⟩, ⟨#[]⟩, ⟨#[97]⟩, ⟨#[120]⟩, ⟨#[]⟩, ⟨#[]⟩, 0, 0, 0, 0, 0, 0⟩ = [⟨#[97]⟩, ⟨#[98]⟩] := by decide +kernel
set_option maxRecDepth 100000 in
set_option maxHeartbeats 8000000 in
theorem head9_any (w0 w : World) (ht : Tab w0) (hv : Evs w0) (hb0 : Below w0.heap.size w0 w) :
    Calls Tryd.prog 5 #[] w fun r w' => r = .returned (.bool true) ∧ Below w.heap.size w w' := by
  have hsz0 := hb0.size
  have HP1 := Lib.hid (fun W (hb : Below w.heap.size w W) => (show Calls Tryd.prog 16 #[.string ⟨#[109, 97, 107, 101, 32, 48, 32, 97, 49, 32, 97, 120, 108, 101]⟩] W fun r w' => r = .returned (.tuple #[.agg #[.int .i64 1, .int .i64 0, .string ⟨#[97, 49]⟩, .string ⟨#[97, 120, 108, 101]⟩, .string ⟨#[]⟩, .string ⟨#[]⟩, .string ⟨#[]⟩, .string ⟨#[]⟩, .int .i64 0, .int .i64 0, .int .i64 0, .int .i64 0, .int .i64 0, .int .i64 0], .int .i64 0]) ∧ Below W.heap.size W w' from parse_lit head_p1 (by decide) w0 W ht hv (hb0.trans (hb.mono hsz0))))
  have HP2 := Lib.hid (fun W (hb : Below w.heap.size w W) => (show Calls Tryd.prog 16 #[.string ⟨#[114, 117, 110, 32, 57, 32, 118, 49, 32, 49, 48, 32, 49, 50, 32, 51, 32, 51, 32, 48, 32, 53]⟩] W fun r w' => r = .returned (.tuple #[.agg #[.int .i64 4, .int .i64 9, .string ⟨#[118, 49]⟩, .string ⟨#[]⟩, .string ⟨#[]⟩, .string ⟨#[]⟩, .string ⟨#[]⟩, .string ⟨#[]⟩, .int .i64 10, .int .i64 12, .int .i64 3, .int .i64 3, .int .i64 0, .int .i64 5], .int .i64 0]) ∧ Below W.heap.size W w' from parse_lit head_p2 (by decide) w0 W ht hv (hb0.trans (hb.mono hsz0))))
  have HP3 := Lib.hid (fun W (hb : Below w.heap.size w W) => (show Calls Tryd.prog 16 #[.string ⟨#[110, 111, 116, 101, 32, 57, 32, 97, 49, 32, 98, 97, 116, 99, 104, 32, 34, 55, 98, 34]⟩] W fun r w' => r = .returned (.tuple #[.agg #[.int .i64 6, .int .i64 9, .string ⟨#[97, 49]⟩, .string ⟨#[]⟩, .string ⟨#[]⟩, .string ⟨#[]⟩, .string ⟨#[98, 97, 116, 99, 104]⟩, .string ⟨#[55, 98]⟩, .int .i64 0, .int .i64 0, .int .i64 0, .int .i64 0, .int .i64 0, .int .i64 0], .int .i64 0]) ∧ Below W.heap.size W w' from parse_lit head_p3 (by decide) w0 W ht hv (hb0.trans (hb.mono hsz0))))
  have HP4 := Lib.hid (fun W (hb : Below w.heap.size w W) => (show Calls Tryd.prog 16 #[.string ⟨#[102, 105, 116, 32, 49, 32, 97, 49, 32, 97, 49, 32, 120]⟩] W fun r w' => r = .returned (.tuple #[.agg #[.int .i64 0, .int .i64 0, .string ⟨#[]⟩, .string ⟨#[]⟩, .string ⟨#[]⟩, .string ⟨#[]⟩, .string ⟨#[]⟩, .string ⟨#[]⟩, .int .i64 0, .int .i64 0, .int .i64 0, .int .i64 0, .int .i64 0, .int .i64 0], .int .i64 8]) ∧ Below W.heap.size W w' from parse_lit head_p4 (by decide) w0 W ht hv (hb0.trans (hb.mono hsz0))))
  have HP5 := Lib.hid (fun W (hb : Below w.heap.size w W) => (show Calls Tryd.prog 16 #[.string ⟨#[109, 97, 107, 101, 32, 48, 48, 32, 97, 49, 32, 97, 120, 108, 101]⟩] W fun r w' => r = .returned (.tuple #[.agg #[.int .i64 0, .int .i64 0, .string ⟨#[]⟩, .string ⟨#[]⟩, .string ⟨#[]⟩, .string ⟨#[]⟩, .string ⟨#[]⟩, .string ⟨#[]⟩, .int .i64 0, .int .i64 0, .int .i64 0, .int .i64 0, .int .i64 0, .int .i64 0], .int .i64 8]) ∧ Below W.heap.size W w' from parse_lit head_p5 (by decide) w0 W ht hv (hb0.trans (hb.mono hsz0))))
  have HNM := Lib.hid (fun W => names_any ⟨2, 0, ⟨#[98]⟩, ⟨#[]⟩, ⟨#[97]⟩, ⟨#[120]⟩, ⟨#[]⟩, ⟨#[]⟩, 0, 0, 0, 0, 0, 0⟩ W (by unfold Ev.short maxLen; decide))
  rw [head_names] at HNM
  clear ht hv hb0
  go_enter Tryd.func5, Tryd.ntmps5
  go_wp2_with (first | (go_at_call 16; first | ((with_reducible show Calls _ _ #[.string ⟨#[109, 97, 107, 101, 32, 48, 32, 97, 49, 32, 97, 120, 108, 101]⟩] _ _); refine (HP1.out _ (Below.refl w.heap.size w)).mono ?_; rintro e u1 ⟨rfl, hb⟩; have HB1 := Lib.hid ((((Below.refl w.heap.size w)).trans (hb.mono ((Below.refl w.heap.size w)).size)).alloc (by have h1 := ((Below.refl w.heap.size w)).size; have h2 := hb.size; omega) (.cells #[.int .i64 1, .int .i64 0, .string ⟨#[97, 49]⟩, .string ⟨#[97, 120, 108, 101]⟩, .string ⟨#[]⟩, .string ⟨#[]⟩, .string ⟨#[]⟩, .string ⟨#[]⟩, .int .i64 0, .int .i64 0, .int .i64 0, .int .i64 0, .int .i64 0, .int .i64 0] 27)); have HE1 := Lib.hid (Has.new u1 27 #[.int .i64 1, .int .i64 0, .string ⟨#[97, 49]⟩, .string ⟨#[97, 120, 108, 101]⟩, .string ⟨#[]⟩, .string ⟨#[]⟩, .string ⟨#[]⟩, .string ⟨#[]⟩, .int .i64 0, .int .i64 0, .int .i64 0, .int .i64 0, .int .i64 0, .int .i64 0]); clear hb) | ((with_reducible show Calls _ _ #[.string ⟨#[114, 117, 110, 32, 57, 32, 118, 49, 32, 49, 48, 32, 49, 50, 32, 51, 32, 51, 32, 48, 32, 53]⟩] _ _); refine (HP2.out _ HB1.out).mono ?_; rintro e u2 ⟨rfl, hb⟩; have HB2 := Lib.hid (((HB1.out).trans (hb.mono (HB1.out).size)).alloc (by have h1 := (HB1.out).size; have h2 := hb.size; omega) (.cells #[.int .i64 4, .int .i64 9, .string ⟨#[118, 49]⟩, .string ⟨#[]⟩, .string ⟨#[]⟩, .string ⟨#[]⟩, .string ⟨#[]⟩, .string ⟨#[]⟩, .int .i64 10, .int .i64 12, .int .i64 3, .int .i64 3, .int .i64 0, .int .i64 5] 27)); replace HE1 := Lib.hid ((HE1.out.below hb HE1.out.lt).alloc (.cells #[.int .i64 4, .int .i64 9, .string ⟨#[118, 49]⟩, .string ⟨#[]⟩, .string ⟨#[]⟩, .string ⟨#[]⟩, .string ⟨#[]⟩, .string ⟨#[]⟩, .int .i64 10, .int .i64 12, .int .i64 3, .int .i64 3, .int .i64 0, .int .i64 5] 27)); have HE2 := Lib.hid (Has.new u2 27 #[.int .i64 4, .int .i64 9, .string ⟨#[118, 49]⟩, .string ⟨#[]⟩, .string ⟨#[]⟩, .string ⟨#[]⟩, .string ⟨#[]⟩, .string ⟨#[]⟩, .int .i64 10, .int .i64 12, .int .i64 3, .int .i64 3, .int .i64 0, .int .i64 5]); clear hb) | ((with_reducible show Calls _ _ #[.string ⟨#[110, 111, 116, 101, 32, 57, 32, 97, 49, 32, 98, 97, 116, 99, 104, 32, 34, 55, 98, 34]⟩] _ _); refine (HP3.out _ HB2.out).mono ?_; rintro e u3 ⟨rfl, hb⟩; have HB3 := Lib.hid (((HB2.out).trans (hb.mono (HB2.out).size)).alloc (by have h1 := (HB2.out).size; have h2 := hb.size; omega) (.cells #[.int .i64 6, .int .i64 9, .string ⟨#[97, 49]⟩, .string ⟨#[]⟩, .string ⟨#[]⟩, .string ⟨#[]⟩, .string ⟨#[98, 97, 116, 99, 104]⟩, .string ⟨#[55, 98]⟩, .int .i64 0, .int .i64 0, .int .i64 0, .int .i64 0, .int .i64 0, .int .i64 0] 27)); replace HE1 := Lib.hid ((HE1.out.below hb HE1.out.lt).alloc (.cells #[.int .i64 6, .int .i64 9, .string ⟨#[97, 49]⟩, .string ⟨#[]⟩, .string ⟨#[]⟩, .string ⟨#[]⟩, .string ⟨#[98, 97, 116, 99, 104]⟩, .string ⟨#[55, 98]⟩, .int .i64 0, .int .i64 0, .int .i64 0, .int .i64 0, .int .i64 0, .int .i64 0] 27)); replace HE2 := Lib.hid ((HE2.out.below hb HE2.out.lt).alloc (.cells #[.int .i64 6, .int .i64 9, .string ⟨#[97, 49]⟩, .string ⟨#[]⟩, .string ⟨#[]⟩, .string ⟨#[]⟩, .string ⟨#[98, 97, 116, 99, 104]⟩, .string ⟨#[55, 98]⟩, .int .i64 0, .int .i64 0, .int .i64 0, .int .i64 0, .int .i64 0, .int .i64 0] 27)); have HE3 := Lib.hid (Has.new u3 27 #[.int .i64 6, .int .i64 9, .string ⟨#[97, 49]⟩, .string ⟨#[]⟩, .string ⟨#[]⟩, .string ⟨#[]⟩, .string ⟨#[98, 97, 116, 99, 104]⟩, .string ⟨#[55, 98]⟩, .int .i64 0, .int .i64 0, .int .i64 0, .int .i64 0, .int .i64 0, .int .i64 0]); clear hb) | ((with_reducible show Calls _ _ #[.string ⟨#[102, 105, 116, 32, 49, 32, 97, 49, 32, 97, 49, 32, 120]⟩] _ _); refine (HP4.out _ HB3.out).mono ?_; rintro e u4 ⟨rfl, hb⟩; have HB4 := Lib.hid (((HB3.out).trans (hb.mono (HB3.out).size)).alloc (by have h1 := (HB3.out).size; have h2 := hb.size; omega) (.cells #[.int .i64 0, .int .i64 0, .string ⟨#[]⟩, .string ⟨#[]⟩, .string ⟨#[]⟩, .string ⟨#[]⟩, .string ⟨#[]⟩, .string ⟨#[]⟩, .int .i64 0, .int .i64 0, .int .i64 0, .int .i64 0, .int .i64 0, .int .i64 0] 27)); replace HE1 := Lib.hid ((HE1.out.below hb HE1.out.lt).alloc (.cells #[.int .i64 0, .int .i64 0, .string ⟨#[]⟩, .string ⟨#[]⟩, .string ⟨#[]⟩, .string ⟨#[]⟩, .string ⟨#[]⟩, .string ⟨#[]⟩, .int .i64 0, .int .i64 0, .int .i64 0, .int .i64 0, .int .i64 0, .int .i64 0] 27)); replace HE2 := Lib.hid ((HE2.out.below hb HE2.out.lt).alloc (.cells #[.int .i64 0, .int .i64 0, .string ⟨#[]⟩, .string ⟨#[]⟩, .string ⟨#[]⟩, .string ⟨#[]⟩, .string ⟨#[]⟩, .string ⟨#[]⟩, .int .i64 0, .int .i64 0, .int .i64 0, .int .i64 0, .int .i64 0, .int .i64 0] 27)); replace HE3 := Lib.hid ((HE3.out.below hb HE3.out.lt).alloc (.cells #[.int .i64 0, .int .i64 0, .string ⟨#[]⟩, .string ⟨#[]⟩, .string ⟨#[]⟩, .string ⟨#[]⟩, .string ⟨#[]⟩, .string ⟨#[]⟩, .int .i64 0, .int .i64 0, .int .i64 0, .int .i64 0, .int .i64 0, .int .i64 0] 27)); have HE4 := Lib.hid (Has.new u4 27 #[.int .i64 0, .int .i64 0, .string ⟨#[]⟩, .string ⟨#[]⟩, .string ⟨#[]⟩, .string ⟨#[]⟩, .string ⟨#[]⟩, .string ⟨#[]⟩, .int .i64 0, .int .i64 0, .int .i64 0, .int .i64 0, .int .i64 0, .int .i64 0]); clear hb) | ((with_reducible show Calls _ _ #[.string ⟨#[109, 97, 107, 101, 32, 48, 48, 32, 97, 49, 32, 97, 120, 108, 101]⟩] _ _); refine (HP5.out _ HB4.out).mono ?_; rintro e u5 ⟨rfl, hb⟩; have HB5 := Lib.hid (((HB4.out).trans (hb.mono (HB4.out).size)).alloc (by have h1 := (HB4.out).size; have h2 := hb.size; omega) (.cells #[.int .i64 0, .int .i64 0, .string ⟨#[]⟩, .string ⟨#[]⟩, .string ⟨#[]⟩, .string ⟨#[]⟩, .string ⟨#[]⟩, .string ⟨#[]⟩, .int .i64 0, .int .i64 0, .int .i64 0, .int .i64 0, .int .i64 0, .int .i64 0] 27)); replace HE1 := Lib.hid ((HE1.out.below hb HE1.out.lt).alloc (.cells #[.int .i64 0, .int .i64 0, .string ⟨#[]⟩, .string ⟨#[]⟩, .string ⟨#[]⟩, .string ⟨#[]⟩, .string ⟨#[]⟩, .string ⟨#[]⟩, .int .i64 0, .int .i64 0, .int .i64 0, .int .i64 0, .int .i64 0, .int .i64 0] 27)); replace HE2 := Lib.hid ((HE2.out.below hb HE2.out.lt).alloc (.cells #[.int .i64 0, .int .i64 0, .string ⟨#[]⟩, .string ⟨#[]⟩, .string ⟨#[]⟩, .string ⟨#[]⟩, .string ⟨#[]⟩, .string ⟨#[]⟩, .int .i64 0, .int .i64 0, .int .i64 0, .int .i64 0, .int .i64 0, .int .i64 0] 27)); replace HE3 := Lib.hid ((HE3.out.below hb HE3.out.lt).alloc (.cells #[.int .i64 0, .int .i64 0, .string ⟨#[]⟩, .string ⟨#[]⟩, .string ⟨#[]⟩, .string ⟨#[]⟩, .string ⟨#[]⟩, .string ⟨#[]⟩, .int .i64 0, .int .i64 0, .int .i64 0, .int .i64 0, .int .i64 0, .int .i64 0] 27)); replace HE4 := Lib.hid ((HE4.out.below hb HE4.out.lt).alloc (.cells #[.int .i64 0, .int .i64 0, .string ⟨#[]⟩, .string ⟨#[]⟩, .string ⟨#[]⟩, .string ⟨#[]⟩, .string ⟨#[]⟩, .string ⟨#[]⟩, .int .i64 0, .int .i64 0, .int .i64 0, .int .i64 0, .int .i64 0, .int .i64 0] 27)); have HE5 := Lib.hid (Has.new u5 27 #[.int .i64 0, .int .i64 0, .string ⟨#[]⟩, .string ⟨#[]⟩, .string ⟨#[]⟩, .string ⟨#[]⟩, .string ⟨#[]⟩, .string ⟨#[]⟩, .int .i64 0, .int .i64 0, .int .i64 0, .int .i64 0, .int .i64 0, .int .i64 0]); clear hb; have HB6 := Lib.hid (HB5.out.alloc HB5.out.size (.cells #[.int .i64 10, .int .i64 12, .int .i64 3, .int .i64 3, .int .i64 0, .int .i64 5] 25)); replace HE1 := Lib.hid (HE1.out.alloc (.cells #[.int .i64 10, .int .i64 12, .int .i64 3, .int .i64 3, .int .i64 0, .int .i64 5] 25)); obtain ⟨x1, y1⟩ := HE1.out.facts; replace HE2 := Lib.hid (HE2.out.alloc (.cells #[.int .i64 10, .int .i64 12, .int .i64 3, .int .i64 3, .int .i64 0, .int .i64 5] 25)); obtain ⟨x2, y2⟩ := HE2.out.facts; replace HE3 := Lib.hid (HE3.out.alloc (.cells #[.int .i64 10, .int .i64 12, .int .i64 3, .int .i64 3, .int .i64 0, .int .i64 5] 25)); obtain ⟨x3, y3⟩ := HE3.out.facts; have HE6 := Lib.hid (Has.new (u5.alloc (.cells #[.int .i64 0, .int .i64 0, .string ⟨#[]⟩, .string ⟨#[]⟩, .string ⟨#[]⟩, .string ⟨#[]⟩, .string ⟨#[]⟩, .string ⟨#[]⟩, .int .i64 0, .int .i64 0, .int .i64 0, .int .i64 0, .int .i64 0, .int .i64 0] 27)) 25 #[.int .i64 10, .int .i64 12, .int .i64 3, .int .i64 3, .int .i64 0, .int .i64 5]); obtain ⟨x6, y6⟩ := HE6.out.facts; simp only [World.size_alloc] at x6 y6)) | (go_at_call 9; refine (HNM.out _).mono ?_; rintro e u7 ⟨v7, rfl, ho, hb⟩; have HB7 := Lib.hid (HB6.out.trans (hb.mono HB6.out.size)); have HS7 := Lib.hid (str_own ho); have HE3b := Lib.hid (HE3.out.below hb HE3.out.lt); obtain ⟨x9, y9⟩ := HE3b.out.facts; clear hb ho) | (go_at_call 8; refine (strings_any v7 _ [⟨#[97]⟩, ⟨#[98]⟩] [⟨#[97]⟩, ⟨#[98]⟩] _ (HS7.out.below ((Below.refl _ _).alloc (Nat.le_refl _) _)) (Sl.has (Has.new u7 9 #[.string ⟨#[97]⟩, .string ⟨#[98]⟩]) (Nat.le_refl 2) (fun j hj => by have hj : j < 2 := hj; rcases (by omega : j = 0 ∨ j = 1) with rfl | rfl <;> rfl)) (by decide)).mono ?_; rintro e u8 ⟨rfl, hb⟩; have HB8 := Lib.hid ((HB7.out.alloc HB7.out.size (.cells #[.string ⟨#[97]⟩, .string ⟨#[98]⟩] 9)).trans (hb.mono (by have := HB7.out.size; simp; omega))); clear hb))
  refine bodyPost_ret (v := .bool true) (by simp [results, Tryd.results5, go_sem]) rfl ?_
  exact ⟨rfl, HB8.out⟩
end Go.Proofs.YtjlpllnhefafkaaDoor
