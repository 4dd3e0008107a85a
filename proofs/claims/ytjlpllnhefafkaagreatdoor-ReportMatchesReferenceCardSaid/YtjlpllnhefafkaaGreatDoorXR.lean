/- Plain: the event of a text as the reference reads it is the one that event.Parse reads. No condition. bogieref09.decimal, both, words, word, number. Condition: numbers and tokens of a moderate size. -/
import Derived.Lib.IndexBytes
import Derived.Lib.ItoaLen
import Derived.Test.YtjlpllnhefafkaaGreatDoorU08
import Derived.Test.YtjlpllnhefafkaaGreatDoorXF
import Derived.Test.YtjlpllnhefafkaaGreatDoorXQ
namespace Go.Proofs.YtjlpllnhefafkaaGreatDoor
open Go Go.RowKit
theorem lexes_det {w : List UInt8} {k k' : Int} {t t' : ByteArray} (h : Lexes w k t) (h' : Lexes w k' t') : k = k' := by
  have h1 := h.2 ⟨w.toArray⟩ [] [] 0 (by simp) (.inl rfl)
  have h2 := h'.2 ⟨w.toArray⟩ [] [] 0 (by simp) (.inl rfl)
  rw [h1] at h2
  exact (Fnd.mk.inj (List.cons.inj h2).1).1
inductive KindsOk : List (List UInt8) → List Fnd → Prop
  | nil : KindsOk [] []
  | cons {w : List UInt8} {f : Fnd} {r : List (List UInt8)} {fr : List Fnd} : Lexes w f.kind f.text → KindsOk r fr → KindsOk (w :: r) (f :: fr)
theorem KindsOk.at : ∀ {ws : List (List UInt8)} {fs : List Fnd}, KindsOk ws fs → ∀ (i : Nat) (w : List UInt8), ws[i]? = some w → ∃ f, fs[i]? = some f ∧ Lexes w f.kind f.text
  | _, _, .nil, i, w, h => by simp at h
  | _, _, .cons hl hr, 0, w, h => by
    simp at h; subst h
    exact ⟨_, rfl, hl⟩
  | _, _, .cons hl hr, i + 1, w, h => by
    rw [List.getElem?_cons_succ] at h ⊢
    exact hr.at i w h
theorem lexGo_kinds (s : ByteArray) : ∀ (ws : List (List UInt8)) (ts : List ByteArray) (A : List UInt8) (n : Nat), AllLex ws ts → s.data.toList = A ++ spaced ws → s.size - A.length + 1 ≤ n → KindsOk ws (lexGo s n A.length)
  | _, _, A, n, .nil, hs, hn => by
    have hsz := size_of hs
    have h0 : s.size ≤ A.length := by simpa [spaced] using Nat.le_of_eq hsz
    cases n with
    | zero => omega
    | succ n => rw [lexGo_succ, if_pos h0]; exact .nil
  | _, _, A, n, .cons (w := w) (t := t) (r := r) (tr := tr) ⟨k, hk⟩ hr, hs, hn => by
    have hsz := size_of hs
    have hk0 := hk
    obtain ⟨h0, hx⟩ := hk
    cases n with
    | zero => omega
    | succ n =>
      have hst : Stops (r.flatMap (32 :: ·)) := by
        cases r with
        | nil => exact .inl rfl
        | cons w2 r2 => exact .inr ⟨_, by rw [List.flatMap_cons]; rfl⟩
      rw [hx s A _ n hs hst]
      refine .cons hk0 ?_
      have hsz2 : s.size = A.length + (w.length + (r.flatMap (32 :: ·)).length) := by rw [hsz]; simp [spaced]
      cases hr with
      | nil =>
        have := lexGo_kinds s [] [] (A ++ w) n .nil (by rw [hs]; simp [spaced]) (by rw [List.length_append]; omega)
        rwa [List.length_append] at this
      | cons hk2 hr2 =>
        rename_i w2 t2 r2 tr2
        have hfl : 1 ≤ ((w2 :: r2).flatMap (32 :: ·)).length := by rw [List.flatMap_cons, List.length_append, List.length_cons]; omega
        cases n with
        | zero => omega
        | succ n =>
          have hb := cls_in (s := s) (A := A ++ w) (w := [32]) (B := w2 ++ r2.flatMap (32 :: ·)) (by rw [hs]; simp [spaced]) (k := 0) (by simp)
          rw [Nat.add_zero, List.length_append] at hb
          have hc : clsAt s (A.length + w.length) = 1 := by rw [hb]; decide +kernel
          rw [lexGo_succ, if_neg (by rw [hsz2]; simp), if_pos hc]
          have := lexGo_kinds s (w2 :: r2) (t2 :: tr2) (A ++ w ++ [32]) n (.cons hk2 hr2) (by rw [hs]; simp [spaced]) (by simp; omega)
          rw [List.length_append, List.length_append] at this
          exact this
/-- The value of digits. -/
def numV (l : List UInt8) : Nat := l.foldl (fun n b => 10 * n + (b.toNat - 48)) 0
theorem numV_snoc (l : List UInt8) (b : UInt8) : numV (l ++ [b]) = 10 * numV l + (b.toNat - 48) := by
  unfold numV; rw [List.foldl_append]; rfl
theorem numV_dec : ∀ u : Nat, numV (Lib.decDigits u) = u := by
  intro u
  induction u using Nat.strongRecOn with
  | _ u ih =>
    rw [Lib.decDigits]
    split
    · show 10 * 0 + ((UInt8.ofNat (48 + u)).toNat - 48) = u
      rw [UInt8.toNat_ofNat']; omega
    · rw [numV_snoc, ih (u / 10) (by omega), UInt8.toNat_ofNat']; omega
theorem fold_lt : ∀ (l : List UInt8) (acc : Nat), (∀ b ∈ l, b.toNat ≤ 57) → l.foldl (fun n b => 10 * n + (b.toNat - 48)) acc < (acc + 1) * 10 ^ l.length
  | [], acc, _ => by simp
  | b :: l, acc, h => by
    have h1 := fold_lt l (10 * acc + (b.toNat - 48)) fun c hc => h c (List.mem_cons_of_mem _ hc)
    have h2 := h b (List.mem_cons_self ..)
    rw [List.foldl_cons, List.length_cons, Nat.pow_succ]
    have h3 : (10 * acc + (b.toNat - 48) + 1) * 10 ^ l.length ≤ (10 * (acc + 1)) * 10 ^ l.length := Nat.mul_le_mul_right _ (by omega)
    have h4 : (acc + 1) * (10 ^ l.length * 10) = (10 * (acc + 1)) * 10 ^ l.length := by rw [Nat.mul_comm (10 ^ l.length) 10, ← Nat.mul_assoc, Nat.mul_comm (acc + 1) 10]
    omega
theorem numV_lt (l : List UInt8) (k : Nat) (hk : l.length ≤ k) (hb : ∀ b ∈ l, b.toNat ≤ 57) : numV l < 10 ^ k := by
  have h := fold_lt l 0 hb
  have h2 : 10 ^ l.length ≤ 10 ^ k := Nat.pow_le_pow_right (by decide) hk
  unfold numV
  omega
/-- The value of the number token with an index; 0 if it is none. -/
def numK (fs : List Fnd) (i : Nat) : Int := match fs[i]? with
  | none => 0
  | some f => if f.kind = 2 then (numV f.text.data.toList : Nat) else 0
def refE (fs : List Fnd) : Ev :=
  let ts := fs.map Fnd.text
  let op := opOf (ts.getD 0 ⟨#[]⟩)
  ⟨op, numK fs 1, ts.getD 2 ⟨#[]⟩, if op = 1 then ts.getD 3 ⟨#[]⟩ else ⟨#[]⟩, if op = 2 then ts.getD 3 ⟨#[]⟩ else ⟨#[]⟩, if op = 2 then ts.getD 4 ⟨#[]⟩ else ⟨#[]⟩, if op = 6 then ts.getD 3 ⟨#[]⟩ else ⟨#[]⟩, if op = 6 then ts.getD 4 ⟨#[]⟩ else ⟨#[]⟩,
    if op = 4 then numK fs 3 else 0, if op = 4 then numK fs 4 else 0, if op = 4 then numK fs 5 else 0, if op = 4 then numK fs 6 else 0, if op = 4 then numK fs 7 else 0, if op = 4 then numK fs 8 else 0⟩
theorem num_same {ws : List (List UInt8)} {fs : List Fnd} {ts : List ByteArray} (hk : KindsOk ws fs) (ht : fs.map Fnd.text = ts) {i : Nat} {m : Int} (hw : ws[i]? = some (itoaB m).data.toList) (hm : 0 ≤ m ∧ m < 10000000) : numK fs i = numAt ts i ∧ numAt ts i = m := by
  obtain ⟨f, hf, hl⟩ := hk.at i _ hw
  obtain ⟨u, rfl⟩ : ∃ u : Nat, m = u := ⟨m.toNat, by omega⟩
  have e : itoaB (u : Int) = ⟨(Lib.decDigits u).toArray⟩ := by
    unfold itoaB Lib.itoa
    rw [if_neg (by omega)]; rfl
  have hn := lexes_num (u := u) (by omega)
  have hl2 : Lexes (Lib.decDigits u) f.kind f.text := by rw [e] at hl; exact hl
  have hkk := lexes_det hl2 hn
  have htt : f.text = itoaB (u : Int) := by
    have h1 := hl2.2 ⟨(Lib.decDigits u).toArray⟩ [] [] 0 (by simp) (.inl rfl)
    have h2 := hn.2 ⟨(Lib.decDigits u).toArray⟩ [] [] 0 (by simp) (.inl rfl)
    rw [h1] at h2
    rw [e]
    exact (Fnd.mk.inj (List.cons.inj h2).1).2.1
  have hd : numAt ts i = (u : Int) := by
    unfold numAt
    rw [← ht, List.getD_eq_getElem?_getD, List.getElem?_map, hf]
    show atoiV f.text.data.toList = _
    rw [htt]
    exact num_int (by omega) hm.2
  refine ⟨?_, hd⟩
  rw [hd]
  unfold numK
  rw [hf]
  show (if f.kind = 2 then ((numV f.text.data.toList : Nat) : Int) else 0) = _
  rw [if_pos hkk, htt, e]
  show ((numV (Lib.decDigits u) : Nat) : Int) = _
  rw [numV_dec]
theorem evOk_uses {e : Ev} (h : evOk e = true) (h4 : e.op = 4) : (0 ≤ e.kl ∧ e.kl < 10000000) ∧ (0 ≤ e.kh ∧ e.kh < 10000000) ∧ (0 ≤ e.cl ∧ e.cl < 10000000) ∧ (0 ≤ e.ch ∧ e.ch < 10000000) ∧ (0 ≤ e.ll ∧ e.ll < 10000000) ∧ (0 ≤ e.lh ∧ e.lh < 10000000) := by
  obtain ⟨_, _, _, hr⟩ := evOk_parts h
  unfold evRest at hr
  rw [if_neg (by omega), if_neg (by omega), if_neg (by omega), if_pos h4, Bool.and_eq_true] at hr
  have hu := of_decide_eq_true hr.1
  omega
theorem ref_read {e : Ev} (h : evOk e = true) {fs : List Fnd} (ht : fs.map Fnd.text = evTexts e) (hk : KindsOk ((evWords e).map fun b => b.data.toList) fs) : refE fs = e := by
  have hr := (event_words h).2.1
  have hday := (evOk_parts h).2.1
  have h1 := (num_same hk ht (i := 1) (m := e.day) rfl (by omega)).1
  have e1 : refE fs = readE (evTexts e) := by
    have hop : opOf ((evTexts e).getD 0 ⟨#[]⟩) = e.op := by
      have := congrArg Ev.op hr
      exact this
    unfold refE readE
    rw [ht]
    dsimp only
    rw [hop]
    by_cases h4 : e.op = 4
    · obtain ⟨u1, u2, u3, u4, u5, u6⟩ := evOk_uses h h4
      have hw : evWords e = [wordS e.op, itoaB e.day, e.part, itoaB e.kl, itoaB e.kh, itoaB e.cl, itoaB e.ch, itoaB e.ll, itoaB e.lh] := by
        unfold evWords evTail
        rw [if_neg (by omega), if_neg (by omega), if_pos h4]; rfl
      rw [hw] at hk
      have n3 := (num_same hk ht (i := 3) (m := e.kl) rfl u1).1
      have n4 := (num_same hk ht (i := 4) (m := e.kh) rfl u2).1
      have n5 := (num_same hk ht (i := 5) (m := e.cl) rfl u3).1
      have n6 := (num_same hk ht (i := 6) (m := e.ch) rfl u4).1
      have n7 := (num_same hk ht (i := 7) (m := e.ll) rfl u5).1
      have n8 := (num_same hk ht (i := 8) (m := e.lh) rfl u6).1
      rw [h1, n3, n4, n5, n6, n7, n8]
    · simp only [if_neg h4, h1]
  rw [e1, hr]
theorem text_small {e : Ev} (h : evOk e = true) : (textB e).size ≤ 600 := by
  have hs := size_of (s := textB e) (joined_spaced (evWords e))
  rw [hs]
  obtain ⟨⟨h1, h2⟩, ⟨h3, h4⟩, hp, hr⟩ := evOk_parts h
  obtain ⟨n1, n2, n3, n4, n5, n6, n7⟩ := words_names
  have hop : (wordS e.op).data.toList.length ≤ 24 := by
    have hc : e.op = 1 ∨ e.op = 2 ∨ e.op = 3 ∨ e.op = 4 ∨ e.op = 5 ∨ e.op = 6 ∨ e.op = 7 := by omega
    rcases hc with h | h | h | h | h | h | h <;> rw [h] <;> exact name_len (by assumption)
  have hd := int_len h3 (by omega : e.day < 10000000)
  have hpl := name_len hp
  unfold evRest at hr
  unfold evWords evTail
  by_cases c1 : e.op = 1
  · rw [if_pos c1] at hr ⊢
    simp only [Bool.and_eq_true, List.all_cons, List.all_nil, Bool.and_true] at hr
    have l1 := name_len hr.2
    simp only [List.cons_append, List.nil_append, List.map_cons, List.map_nil, spaced, List.flatMap_cons, List.flatMap_nil, List.length_append, List.length_cons, List.length_nil]
    omega
  · rw [if_neg c1] at hr ⊢
    by_cases c2 : e.op = 2
    · rw [if_pos c2] at hr ⊢
      simp only [Bool.and_eq_true, List.all_cons, List.all_nil, Bool.and_true] at hr
      have l1 := name_len hr.2.2.1
      have l2 := name_len hr.2.2.2
      simp only [List.cons_append, List.nil_append, List.map_cons, List.map_nil, spaced, List.flatMap_cons, List.flatMap_nil, List.length_append, List.length_cons, List.length_nil]
      omega
    · rw [if_neg c2] at hr ⊢
      by_cases c4 : e.op = 4
      · rw [if_pos c4]
        obtain ⟨u1, u2, u3, u4, u5, u6⟩ := evOk_uses h c4
        have l1 := int_len u1.1 u1.2
        have l2 := int_len u2.1 u2.2
        have l3 := int_len u3.1 u3.2
        have l4 := int_len u4.1 u4.2
        have l5 := int_len u5.1 u5.2
        have l6 := int_len u6.1 u6.2
        simp only [List.cons_append, List.nil_append, List.map_cons, List.map_nil, spaced, List.flatMap_cons, List.flatMap_nil, List.length_append, List.length_cons, List.length_nil]
        omega
      · rw [if_neg c4]
        by_cases c6 : e.op = 6
        · rw [if_pos c6] at hr ⊢
          simp only [Bool.and_eq_true, List.all_cons, List.all_nil, Bool.and_true, decide_eq_true_eq] at hr
          have l1 := name_len hr.2.2
          have l2 := quote_len e.value
          have l3 := hr.1.2
          simp only [List.cons_append, List.nil_append, List.map_cons, List.map_nil, spaced, List.flatMap_cons, List.flatMap_nil, List.length_append, List.length_cons, List.length_nil]
          omega
        · rw [if_neg c6]
          simp only [List.cons_append, List.map_cons, List.map_nil, spaced, List.flatMap_cons, List.flatMap_nil, List.append_nil, List.length_append, List.length_cons]
          omega
/-- The reference's event of a text. -/
def refParse (s : ByteArray) : Ev × Int :=
  if 2000 < s.size then (zeroE, 8) else if (lexL s).2.1 = 0 then (if evOk (refE (lexL s).1) = true ∧ textB (refE (lexL s).1) = s then (refE (lexL s).1, 0) else (zeroE, 8)) else (zeroE, 8)
theorem refParse_same (s : ByteArray) : refParse s = parseE s := by
  rcases parse_only (s := s) with ⟨h0, hok, ht⟩ | h8
  · have hz := text_small hok
    rw [ht] at hz
    generalize hp : parseE s = p at *
    obtain ⟨e, er⟩ := p
    dsimp only at h0 hok ht
    subst h0
    obtain ⟨w1, w2, w3, w4⟩ := event_words hok
    have hsp : s.data.toList = spaced ((evWords e).map fun b => b.data.toList) := by rw [← ht]; exact joined_spaced _
    obtain ⟨fs, hl, hf⟩ := lex_spaced w1 hsp (by omega) (by rw [List.length_map]; omega)
    have hkk := lexGo_kinds s _ _ [] (s.size + 1) w1 (by simpa using hsp) (by simp)
    have hfs : fs = lexF s := by
      have h1 := lexGo_spaced s _ _ [] (s.size + 1) w1 (by simpa using hsp) (by simp)
      unfold lexL at hl
      rw [if_neg (by omega), takeF_all (lexF s) [] (show ∀ f ∈ lexF s, f.err = 0 from h1.2.1) (by rw [show (lexF s).length = ((evWords e).map fun b => b.data.toList).length from h1.2.2, List.length_map]; simp; omega)] at hl
      exact (Prod.mk.inj hl).1.symm
    have hr := ref_read hok (fs := fs) hf (by rw [hfs]; exact hkk)
    unfold refParse
    rw [if_neg (by omega), hl]
    simp only [if_true]
    rw [hr, if_pos ⟨hok, ht⟩]
  · rw [h8]
    unfold refParse
    split
    · rfl
    · split
      · split
        · rename_i h
          have := parse_text h.1
          rw [h.2, h8] at this
          cases (Prod.mk.inj this).2
        · rfl
      · rfl
/-- The digits of number tokens. -/
def DigF (f : Fnd) : Prop := f.kind = 2 → f.err = 0 → f.text.size ≤ 7 ∧ ∀ b ∈ f.text.data.toList, 48 ≤ b.toNat ∧ b.toNat ≤ 57
theorem runTo_all (p : Nat → Bool) : ∀ (n i q : Nat), i ≤ q → q < runTo p n i → p q = true
  | 0, i, q, h1, h2 => absurd h2 (by show ¬ q < i; omega)
  | n + 1, i, q, h1, h2 => by
    rw [runTo_succ] at h2
    split at h2
    · rename_i hp
      by_cases e : q = i
      · rw [e]; exact hp
      · exact runTo_all p n (i + 1) q (by omega) h2
    · omega
theorem dig_cut {s : ByteArray} {i j : Nat} (h : ∀ q, i ≤ q → q < j → digP s q = true) : ∀ b ∈ (cut s i j).data.toList, 48 ≤ b.toNat ∧ b.toNat ≤ 57 := by
  intro b hb
  unfold cut at hb
  rw [Lib.extract_data] at hb
  obtain ⟨k, hk, rfl⟩ := List.getElem_of_mem hb
  rw [List.length_take, List.length_drop] at hk
  rw [List.getElem_take, List.getElem_drop]
  have hks : i + k < s.size := by
    have : s.data.toList.length = s.size := rfl
    omega
  have h1 := h (i + k) (by omega) (by omega)
  unfold digP clsAt at h1
  rw [if_pos hks, beq_iff_eq] at h1
  have hby : byteAt s (i + k) = (s.data.toList[i + k]).toNat := by
    unfold byteAt
    rw [List.getD_eq_getElem?_getD, List.getElem?_eq_getElem hks]; rfl
  rw [hby] at h1
  revert h1
  generalize (s.data.toList[i + k]).toNat = c
  intro h1
  unfold cls cls0 at h1
  repeat' split at h1
  all_goals first | assumption | omega | cases h1
theorem lexGo_digs (s : ByteArray) : ∀ (n i : Nat), ∀ f ∈ lexGo s n i, DigF f
  | 0, i, f, h => by cases h
  | n + 1, i, f, h => by
    have nk : ∀ (k : Int) (t : ByteArray) (p er : Int), k ≠ 2 → DigF ⟨k, t, p, er⟩ := fun k t p er hk h2 => absurd h2 hk
    rw [lexGo_succ] at h
    split at h
    · cases h
    · split at h
      · exact lexGo_digs s n _ f h
      · split at h
        · exact lexGo_digs s n _ f h
        · split at h
          · split at h
            · rw [List.mem_singleton] at h; subst h; exact nk _ _ _ _ (by decide)
            · rcases List.mem_cons.1 h with h | h
              · subst h; exact nk _ _ _ _ (by decide)
              · exact lexGo_digs s n _ f h
          · split at h
            · split at h
              · rw [List.mem_singleton] at h; subst h
                intro _ he; cases he
              · rename_i h7
                rcases List.mem_cons.1 h with h | h
                · subst h
                  intro _ _
                  refine ⟨?_, dig_cut (runTo_all _ _ _)⟩
                  show (cut s i (digEnd s i)).size ≤ 7
                  unfold cut
                  rw [ByteArray.size_extract]
                  omega
                · exact lexGo_digs s n _ f h
            · split at h
              · split at h
                · rw [List.mem_singleton] at h; subst h; exact nk _ _ _ _ (by decide)
                · rcases List.mem_cons.1 h with h | h
                  · subst h; exact nk _ _ _ _ (by decide)
                  · exact lexGo_digs s n _ f h
              · split at h
                · rcases List.mem_cons.1 h with h | h
                  · subst h; exact nk _ _ _ _ (by decide)
                  · exact lexGo_digs s n _ f h
                · rw [List.mem_singleton] at h; subst h; exact nk _ _ _ _ (by decide)
theorem takeF_digs : ∀ (fs out : List Fnd), (∀ f ∈ fs, DigF f) → (∀ f ∈ out, DigF f ∧ f.err = 0) → ∀ f ∈ (takeF fs out).1, DigF f ∧ f.err = 0
  | [], out, _, h, f, hf => h f hf
  | x :: r, out, hx, h, f, hf => by
    unfold takeF at hf
    split at hf
    · cases hf
    · rename_i he
      split at hf
      · cases hf
      · refine takeF_digs r (out ++ [x]) (fun g hg => hx g (List.mem_cons_of_mem _ hg)) (fun g hg => ?_) f hf
        rcases List.mem_append.1 hg with hg | hg
        · exact h g hg
        · rw [List.mem_singleton] at hg; subst hg
          exact ⟨hx _ (List.mem_cons_self ..), by simpa using he⟩
/-- The number tokens of a text are at most seven digits. -/
theorem lexL_digs (s : ByteArray) : ∀ f ∈ (lexL s).1, f.kind = 2 → f.text.size ≤ 7 ∧ ∀ b ∈ f.text.data.toList, 48 ≤ b.toNat ∧ b.toNat ≤ 57 := by
  intro f hf hk
  unfold lexL at hf
  split at hf
  · cases hf
  · obtain ⟨h1, h2⟩ := takeF_digs (lexF s) [] (lexGo_digs s _ _) (fun g hg => by cases hg) f hf
    exact h1 hk h2
end Go.Proofs.YtjlpllnhefafkaaGreatDoor
namespace Go.Proofs.YtjlpllnhefafkaaGreatDoor
open Go Go.RowKit
def decB (u : Nat) : ByteArray := ⟨(Lib.decDigits u).toArray⟩
theorem itoa_dec (u : Nat) : itoaB (u : Int) = decB u := by
  unfold itoaB Lib.itoa
  rw [if_neg (by omega)]; rfl
theorem digit_cut (d : Nat) (h : d < 10) : (⟨#[48, 49, 50, 51, 52, 53, 54, 55, 56, 57]⟩ : ByteArray).extract d (d + 1) = ⟨#[UInt8.ofNat (48 + d)]⟩ := by
  have : ∀ d : Fin 10, (⟨#[48, 49, 50, 51, 52, 53, 54, 55, 56, 57]⟩ : ByteArray).extract d.val (d.val + 1) = ⟨#[UInt8.ofNat (48 + d.val)]⟩ := by decide +kernel
  exact this ⟨d, h⟩
theorem dec_step (m : Nat) (h : 9 < m) (b : ByteArray) : Lib.decDigits m ++ b.data.toList = Lib.decDigits (m / 10) ++ ((⟨#[UInt8.ofNat (48 + m % 10)]⟩ : ByteArray) ++ b).data.toList := by
  conv => lhs; rw [Lib.decDigits]
  rw [dif_neg (by omega), app_data, List.append_assoc]
theorem dec_last (m : Nat) (h : m ≤ 9) (b : ByteArray) : Lib.decDigits m ++ b.data.toList = ((⟨#[UInt8.ofNat (48 + m)]⟩ : ByteArray) ++ b).data.toList := by
  rw [Lib.decDigits, dif_pos (by omega), app_data]
set_option maxRecDepth 100000 in
set_option maxHeartbeats 4000000 in
theorem decimal_any (u : Nat) (w : World) (hu : u ≤ 1000000000) :
    Calls Tryz.prog 50 #[.int .i64 u] w fun e w' => e = .returned (.string (itoaB u)) ∧ w' = w := by
  rw [itoa_dec]
  go_enter Tryz.func50, Tryz.ntmps50
  go_wp2_with fail
  go_loopw [0, 3] (fun n o wr => ∃ (m : Nat) (b : ByteArray), n = .int .i64 m ∧ o = .string b ∧ m ≤ 1000000000 ∧ Hid (Lib.decDigits u = Lib.decDigits m ++ b.data.toList) ∧ Hid (wr = w)) (fun n _ _ => (intOf n).toNat)
  case atStart => exact ⟨u, ⟨#[]⟩, rfl, rfl, hu, by show _ = _ ++ []; rw [List.append_nil], rfl⟩
  case round =>
    obtain ⟨m, b, rfl, rfl, hm, HD, HWW⟩ := hrel
    have hbz : (b.size : Int) ≤ 8388608 := by
      have h1 := congrArg List.length HD.out
      rw [List.length_append] at h1
      have h2 : (Lib.decDigits u).length ≤ 24 := by
        rw [Lib.decDigits_length]
        have := Lib.nDigits_le20 u (by omega)
        omega
      have h3 : b.data.toList.length = b.size := rfl
      omega
    by_cases h9 : 9 < m
    · have h9i : (9 : Int) < (m : Int) := by omega
      have HS := Lib.hid (HD.out.trans (dec_step m h9 b))
      have HC := Lib.hid (digit_cut (m % 10) (by omega))
      clear HD
      go_wp2_with fail
      go_roundw
      case rel => exact ⟨m / 10, _, by go_num, rfl, by omega, by rw [HC.out]; exact HS.out, HWW.out⟩
      case measure => simp [intOf]; omega
    · have h9i : ¬ (9 : Int) < (m : Int) := by omega
      have HS := Lib.hid (HD.out.trans (dec_last m (by omega) b))
      have HC := Lib.hid (digit_cut m (by omega))
      have hl1 : (m : Int) + 1 ≤ 10 := by omega
      clear HD
      go_wp2_with fail
      go_ret
      refine ⟨?_, HWW.out⟩
      show Ending.returned (.string ((⟨#[48, 49, 50, 51, 52, 53, 54, 55, 56, 57]⟩ : ByteArray).extract m (m + 1) ++ b)) = _
      rw [HC.out]
      have h := HS.out
      generalize (⟨#[UInt8.ofNat (48 + m)]⟩ : ByteArray) ++ b = x at *
      show _ = Ending.returned (.string ⟨(Lib.decDigits u).toArray⟩)
      rw [h]
/-- ... both -/
theorem itoa_len {u : Nat} (hu : u ≤ 1000000000) : (itoaB (u : Int)).size ≤ 20 := by
  rw [itoa_dec]
  have h : (decB u).size = (Lib.decDigits u).length := by show (Lib.decDigits u).toArray.size = _; rw [List.size_toArray]
  rw [h, Lib.decDigits_length]
  exact Lib.nDigits_le20 u (by omega)
def bothB (a b : Int) : ByteArray := (((⟨#[32]⟩ : ByteArray) ++ itoaB a) ++ ⟨#[32]⟩) ++ itoaB b
set_option maxRecDepth 100000 in
set_option maxHeartbeats 4000000 in
theorem both_any (a b : Nat) (w : World) (ha : a ≤ 1000000000) (hb : b ≤ 1000000000) :
    Calls Tryz.prog 51 #[.agg #[.int .i64 (a : Nat), .int .i64 (b : Nat)]] w fun e w' => e = .returned (.string (bothB a b)) ∧ Below w.heap.size w w' := by
  have la := itoa_len ha
  have lb := itoa_len hb
  have h1 : ¬ 9223372036854775807 < 1 + (itoaB (a : Int)).size := by omega
  have h2 : ¬ 9223372036854775807 < 1 + (itoaB (a : Int)).size + 1 := by omega
  have h3 : ¬ 9223372036854775807 < 1 + (itoaB (a : Int)).size + 1 + (itoaB (b : Int)).size := by omega
  have HA := Lib.hid (Has.new w 45 #[.int .i64 (a : Nat), .int .i64 (b : Nat)])
  have HB := Lib.hid ((Below.refl w.heap.size w).alloc (Nat.le_refl _) (.cells #[.int .i64 (a : Nat), .int .i64 (b : Nat)] 45))
  clear la lb
  go_enter Tryz.func51, Tryz.ntmps51
  go_wp2_with fail
  refine wp_region_held_drew (S := fun W => W.cell? ⟨w.heap.size, 0, none⟩ = some (.int .i64 (a : Nat)) ∧ W.cell? ⟨w.heap.size, 1, none⟩ = some (.int .i64 (b : Nat))) (by kernel_rfl) (⟨HA.out.drew.facts.1 0, HA.out.drew.facts.1 1⟩) (fun hHeld => ?_)
  refine plI [(0, false), (1, false), (5, false), (6, false)] ?_
  repeat ((first | ((with_reducible show Plan ((_, true) :: _) _); refine plF ?_) | (refine plR (v := ?_) ?_ ?_; rotate_left; focus (intro W hSW; (try dsimp only at hSW); go_simp; all_goals (with_reducible rfl)))); try simp only [Act.put, List.setIfInBounds_toArray, List.set_cons_zero, List.set_cons_succ])
  refine plE ?_
  refine plC (i := 2) (v := .string (itoaB (a : Nat))) 50 #[.int .i64 (a : Nat)] ?_ (fun W hSW => decimal_any a W ha) ?_ rfl (by kernel_rfl) (by kernel_rfl) (by kernel_rfl) (fun _ _ _ h => h) (by rfl) (by assumption)
  · intro W; go_simp; all_goals (with_reducible rfl)
  try simp only [Act.put, List.setIfInBounds_toArray, List.set_cons_zero, List.set_cons_succ]
  refine plI [(3, false), (4, false)] ?_
  repeat ((first | ((with_reducible show Plan ((_, true) :: _) _); refine plF ?_) | (refine plR (v := ?_) ?_ ?_; rotate_left; focus (intro W hSW; (try dsimp only at hSW); go_simp; all_goals (with_reducible rfl)))); try simp only [Act.put, List.setIfInBounds_toArray, List.set_cons_zero, List.set_cons_succ])
  refine plE ?_
  refine plC (i := 7) (v := .string (itoaB (b : Nat))) 50 #[.int .i64 (b : Nat)] ?_ (fun W hSW => decimal_any b W hb) ?_ rfl (by kernel_rfl) (by kernel_rfl) (by kernel_rfl) (fun _ _ _ h => h) (by rfl) (by assumption)
  · intro W; go_simp; all_goals (with_reducible rfl)
  try simp only [Act.put, List.setIfInBounds_toArray, List.set_cons_zero, List.set_cons_succ]
  refine plI [(8, false), (9, false)] ?_
  repeat ((first | ((with_reducible show Plan ((_, true) :: _) _); refine plF ?_) | (refine plR (v := ?_) ?_ ?_; rotate_left; focus (intro W hSW; (try dsimp only at hSW); go_simp; all_goals (with_reducible rfl)))); try simp only [Act.put, List.setIfInBounds_toArray, List.set_cons_zero, List.set_cons_succ])
  refine plE ?_
  refine wpAnyH_done (by kernel_rfl) ?_ _
  clear hHeld
  go_wp2_with fail
  go_ret
  exact ⟨rfl, HB.out.drew⟩
def wordsL : List ByteArray := [⟨#[]⟩, ⟨#[109, 97, 107, 101]⟩, ⟨#[102, 105, 116]⟩, ⟨#[114, 101, 109, 111, 118, 101]⟩, ⟨#[114, 117, 110]⟩, ⟨#[111, 118, 101, 114, 104, 97, 117, 108]⟩, ⟨#[110, 111, 116, 101]⟩, ⟨#[115, 99, 114, 97, 112]⟩]
theorem wordsL_at (i : Nat) (h : i < 8) : wordsL.getD i ⟨#[]⟩ = wordS i := by
  have : ∀ i : Fin 8, wordsL.getD i.val ⟨#[]⟩ = wordS i.val := by decide +kernel
  exact this ⟨i, h⟩
theorem words_any (w : World) : Calls Tryz.prog 42 #[] w fun e w' => e = .returned (.slice (some ⟨w.heap.size, 0, none⟩) 8 8) ∧ w' = w.alloc (.cells (wordsL.map Value.string).toArray 9) := by
  go_enter Tryz.func42, Tryz.ntmps42
  go_wp2_with fail
  go_ret
  exact ⟨rfl, rfl⟩
/-- A slice that reads as tokens. -/
def TokS (w : World) (v : Value) (fs : List Fnd) : Prop := ∃ A c, v = .slice A fs.length c ∧ fs.length ≤ c ∧ (fs.length = 0 ∨ ∃ b o, A = some ⟨b, o, none⟩ ∧ b < w.heap.size ∧ ∀ (i : Nat) (f : Fnd), fs[i]? = some f → w.cell? ⟨b, o + i * 3, none⟩ = some (.int .i64 f.kind) ∧ w.cell? ⟨b, o + i * 3 + 1, none⟩ = some (.string f.text))
theorem TokS.below {w w' : World} {v : Value} {fs : List Fnd} (h : TokS w v fs) (hb : Below w.heap.size w w') : TokS w' v fs := by
  obtain ⟨A, c, hv, hn, h0 | ⟨b, o, hA, hlt, hc⟩⟩ := h
  · exact ⟨A, c, hv, hn, .inl h0⟩
  · exact ⟨A, c, hv, hn, .inr ⟨b, o, hA, Nat.lt_of_lt_of_le hlt hb.size, fun i f hf => ⟨cell_later hb (hc i f hf).1, cell_later hb (hc i f hf).2⟩⟩⟩
theorem tokCells_at : ∀ (fs : List Fnd) (i : Nat) (f : Fnd), fs[i]? = some f → (tokCells fs)[i * 3]? = some (.int .i64 f.kind) ∧ (tokCells fs)[i * 3 + 1]? = some (.string f.text)
  | [], i, f, h => by simp at h
  | x :: r, 0, f, h => by
    simp at h; subst h
    exact ⟨rfl, rfl⟩
  | x :: r, i + 1, f, h => by
    rw [List.getElem?_cons_succ] at h
    have ih := tokCells_at r i f h
    have e : tokCells (x :: r) = tokV x ++ tokCells r := rfl
    have l : (tokV x).length = 3 := rfl
    rw [e, List.getElem?_append_right (by omega), List.getElem?_append_right (by omega), l]
    rw [show (i + 1) * 3 - 3 = i * 3 by omega, show (i + 1) * 3 + 1 - 3 = i * 3 + 1 by omega]
    exact ih
theorem toks_own {w : World} {base : Nat} {v : Value} {fs : List Fnd} (h : w.ownsRow base 99 3 v fs.length (tokCells fs)) : TokS w v fs := by
  rcases h.2 with ⟨rfl, h0⟩ | ⟨g, cap, cur, rfl, hg, hh, hn, hc, hs, ht⟩
  · exact ⟨none, 0, by rw [h0], by omega, .inl h0⟩
  · refine ⟨_, cap, rfl, hn, .inr ⟨g, 0, rfl, ?_, fun i f hf => ?_⟩⟩
    · rcases Nat.lt_or_ge g w.heap.size with h1 | h1
      · exact h1
      · rw [Array.getElem?_eq_none h1] at hh; cases hh
    · obtain ⟨h1, h2⟩ := tokCells_at fs i f hf
      have hi : i < fs.length := by
        rcases Nat.lt_or_ge i fs.length with h | h
        · exact h
        · rw [List.getElem?_eq_none h] at hf; cases hf
      rw [← ht, List.getElem?_take, if_pos (by omega)] at h1 h2
      rw [Nat.zero_add, cell_of_row w g (i * 3) cur _ (0, 0) hh, cell_of_row w g (i * 3 + 1) cur _ (0, 0) hh]
      exact ⟨by simpa using h1, by simpa using h2⟩
def wordK (fs : List Fnd) (i : Nat) : ByteArray := (fs.map Fnd.text).getD i ⟨#[]⟩
set_option maxRecDepth 100000 in
set_option maxHeartbeats 4000000 in
theorem wordK_any (v : Value) (fs : List Fnd) (i : Nat) (w : World) (hv : TokS w v fs) (_hl : fs.length ≤ 100000) (hi : i ≤ 100) :
    Calls Tryz.prog 41 #[v, .int .i64 (i : Nat)] w fun e w' => e = .returned (.string (wordK fs i)) ∧ w' = w := by
  obtain ⟨A, c, rfl, hn, hc⟩ := hv
  by_cases h : i < fs.length
  · rcases hc with h0 | ⟨b, o, rfl, hlt, hc⟩
    · omega
    have hf : fs[i]? = some fs[i] := List.getElem?_eq_getElem h
    obtain ⟨h1, h2⟩ := hc i _ hf
    have hw : wordK fs i = fs[i].text := by unfold wordK; rw [List.getD_eq_getElem?_getD, List.getElem?_map, hf]; rfl
    rw [hw]
    have hii : (i : Int) < (fs.length : Int) := by omega
    generalize fs[i].text = tx at *
    clear hc hf hw h1
    go_enter Tryz.func41, Tryz.ntmps41
    go_wp2_with fail
    go_ret
    exact ⟨rfl, rfl⟩
  · have hw : wordK fs i = ⟨#[]⟩ := by unfold wordK; rw [List.getD_eq_getElem?_getD, List.getElem?_map, List.getElem?_eq_none (by omega)]; rfl
    rw [hw]
    have hii : ¬ (i : Int) < (fs.length : Int) := by omega
    clear hc
    go_enter Tryz.func41, Tryz.ntmps41
    go_wp2_with fail
    go_ret
    exact ⟨rfl, rfl⟩
set_option maxRecDepth 100000 in
set_option maxHeartbeats 4000000 in
theorem numK_any (v : Value) (fs : List Fnd) (i : Nat) (w : World) (hv : TokS w v fs) (_hl : fs.length ≤ 100000) (hi : i ≤ 100) (hd : ∀ f ∈ fs, f.kind = 2 → f.text.size ≤ 7 ∧ ∀ b ∈ f.text.data.toList, 48 ≤ b.toNat ∧ b.toNat ≤ 57) :
    Calls Tryz.prog 40 #[v, .int .i64 (i : Nat)] w fun e w' => e = .returned (.int .i64 (numK fs i)) ∧ w' = w := by
  obtain ⟨A, c, rfl, hn, hc⟩ := hv
  by_cases h : i < fs.length
  · rcases hc with h0 | ⟨b, o, rfl, hlt, hc⟩
    · omega
    have hf : fs[i]? = some fs[i] := List.getElem?_eq_getElem h
    obtain ⟨h1, h2⟩ := hc i _ hf
    have hdf := hd fs[i] (List.getElem_mem h)
    have hw : numK fs i = if fs[i].kind = 2 then ((numV fs[i].text.data.toList : Nat) : Int) else 0 := by unfold numK; rw [hf]
    rw [hw]
    have hii : (i : Int) < (fs.length : Int) := by omega
    clear hc hf hw hd
    generalize fs[i].text = tx at *
    generalize fs[i].kind = kd at *
    by_cases hk : kd = 2
    · rw [if_pos hk]
      obtain ⟨h7, hdig⟩ := hdf hk
      have hkb : (kd == 2) = true := by rw [beq_iff_eq]; exact hk
      have HG := Lib.hid hdig
      clear hdig hdf
      subst hk
      go_enter Tryz.func40, Tryz.ntmps40
      go_wp2_with fail
      go_loopw [5, 6] (fun n i wr => ∃ k : Nat, n = .int .i64 (numV (tx.data.toList.take k) : Nat) ∧ i = .int .i64 k ∧ k ≤ tx.size ∧ Hid (wr = w)) (fun _ i _ => tx.size - (intOf i).toNat)
      case atStart => exact ⟨0, rfl, rfl, Nat.zero_le _, rfl⟩
      case round =>
        obtain ⟨k, rfl, rfl, hk, HWW⟩ := hrel
        by_cases hlt2 : k < tx.size
        · have hki : (k : Int) < (tx.size : Int) := by omega
          have hk2 : k < tx.data.toList.length := hlt2
          have hsn := numV_snoc (tx.data.toList.take k) tx.data.toList[k]
          rw [← take_next hk2] at hsn
          have hdk := HG.out _ (List.getElem_mem hk2)
          have hlim := numV_lt (tx.data.toList.take k) 7 (by rw [List.length_take]; omega) (fun b hb => (HG.out b (List.mem_of_mem_take hb)).2)
          have hlim2 := numV_lt (tx.data.toList.take (k + 1)) 7 (by rw [List.length_take]; have : tx.data.toList.length = tx.size := rfl; omega) (fun b hb => (HG.out b (List.mem_of_mem_take hb)).2)
          have hget : tx.data.toList[k] = tx[k] := rfl
          rw [hget] at hsn hdk
          generalize hM : numV (tx.data.toList.take k) = M at *
          generalize hM2 : numV (tx.data.toList.take (k + 1)) = M2 at *
          have h48 : (48 : Int) ≤ (tx[k].toNat : Int) := by omega
          have h57 : (tx[k].toNat : Int) ≤ 57 := by omega
          have hMM : (10 : Int) * (M : Int) + ((tx[k].toNat : Int) - 48) = (M2 : Int) := by omega
          have hML : (M : Int) < 10000000 := by omega
          have HM2 := Lib.hid hM2
          have HMM := Lib.hid hMM
          clear hsn hdk hlim hlim2 hget hM hM2 hMM
          have hw := HWW.out
          subst hw
          go_wp2_with fail
          go_roundw
          case rel => exact ⟨k + 1, by rw [HMM.out, HM2.out], by go_num, by omega, by first | exact rfl | exact trivial⟩
          case measure => simp [intOf]; omega
        · have hki : ¬ (k : Int) < (tx.size : Int) := by omega
          have hke : tx.data.toList.take k = tx.data.toList := List.take_of_length_le (by show tx.size ≤ k; omega)
          rw [hke]
          have hw := HWW.out
          subst hw
          clear hke
          go_wp2_with fail
          go_ret
          exact ⟨rfl, rfl⟩
    · rw [if_neg hk]
      have hkb : (kd == 2) = false := by rw [beq_eq_false_iff_ne]; exact hk
      clear hdf
      go_enter Tryz.func40, Tryz.ntmps40
      go_wp2_with fail
      go_ret
      exact ⟨rfl, rfl⟩
  · have hw : numK fs i = 0 := by unfold numK; rw [List.getElem?_eq_none (by omega)]
    rw [hw]
    have hii : ¬ (i : Int) < (fs.length : Int) := by omega
    clear hc hd
    go_enter Tryz.func40, Tryz.ntmps40
    go_wp2_with fail
    go_ret
    exact ⟨rfl, rfl⟩
end Go.Proofs.YtjlpllnhefafkaaGreatDoor
