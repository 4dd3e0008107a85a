/- The lexer, step by step: what it finds depends on what it has read. No condition. RuleBegins in plain words. No condition. -/
import Derived.Test.YtppoeiofdmlpeaaDoorZGa
namespace Go.Proofs.YtppoeiofdmlpeaaDoor
open Go Go.RowKit
/-- One step of the lexer: from i to j, with what it finds. -/
inductive One (s : ByteArray) (i : Nat) : Nat → List Fnd → Prop
  | blank (h : i < s.size) (c : clsAt s i = 1) : One s i (i + 1) []
  | hash (h : i < s.size) (c : clsAt s i = 2) : One s i (hashEnd s i) []
  | word (h : i < s.size) (c : clsAt s i = 3) (n : ¬ 24 < wordEnd s i - i) : One s i (wordEnd s i) [⟨1, cut s i (wordEnd s i), i, 0⟩]
  | num (h : i < s.size) (c : clsAt s i = 4) (n : ¬ (7 < digEnd s i - i ∨ clsAt s (digEnd s i) = 3 ∨ clsAt s (digEnd s i) = 5)) : One s i (digEnd s i) [⟨2, cut s i (digEnd s i), i, 0⟩]
  | str (h : i < s.size) (c : clsAt s i = 7) (t : List UInt8) (m : Nat) (u : unqL (cut s i s.size) = some (t, m)) : One s i (i + m) [⟨3, ⟨t.toArray⟩, i, 0⟩]
  | sym (h : i < s.size) (c : clsAt s i = 6) : One s i (i + 1) [⟨4, cut s i (i + 1), i, 0⟩]
/-- Steps of the lexer. -/
inductive Lxs (s : ByteArray) : Nat → Nat → List Fnd → Prop
  | refl (i : Nat) : Lxs s i i []
  | step {i j k : Nat} {t ts : List Fnd} (h : One s i j t) (r : Lxs s j k ts) : Lxs s i k (t ++ ts)
theorem hash_le {s : ByteArray} {i : Nat} (h : i ≤ s.size) : hashEnd s i ≤ s.size := runTo_le _ (fun j hj => by unfold hashP; rw [decide_eq_false (by omega)]; rfl) _ _ h
theorem run_pos {p : Nat → Bool} {n i : Nat} (hn : 0 < n) (hp : p i = true) : i < runTo p n i := by
  obtain ⟨m, rfl⟩ : ∃ m, n = m + 1 := ⟨n - 1, by omega⟩
  rw [runTo_succ, if_pos hp]
  exact runTo_ge _ _ _
theorem run_stop (p : Nat → Bool) : ∀ (n i B : Nat), B ≤ i + n → (∀ j, B ≤ j → p j = false) → p (runTo p n i) = false
  | 0, i, B, h, hb => hb i (by omega)
  | n + 1, i, B, h, hb => by
    rw [runTo_succ]
    split
    · exact run_stop p n (i + 1) B (by omega) hb
    · rename_i h1
      simpa using h1
theorem hash_cls {s : ByteArray} {i : Nat} (h : i < s.size) (c : clsAt s i = 2) : hashP s i = true := by
  unfold clsAt at c
  rw [if_pos h] at c
  unfold hashP
  rw [decide_eq_true h, Bool.true_and, bne_iff_ne]
  intro e
  rw [e] at c
  exact absurd c (by decide +kernel)
theorem One.lt {s : ByteArray} {i j : Nat} {t : List Fnd} (h : One s i j t) : i < j ∧ j ≤ s.size := by
  cases h with
  | blank h _ => exact ⟨by omega, h⟩
  | hash h c => exact ⟨run_pos (by omega) (hash_cls h c), hash_le (by omega)⟩
  | word h c _ => exact ⟨run_pos (by omega) (by unfold wordP; rw [c]; rfl), wordEnd_le (by omega)⟩
  | num h c _ => exact ⟨run_pos (by omega) (by unfold digP; rw [c]; rfl), digEnd_le (by omega)⟩
  | str h _ t m u =>
    have h1 := unqGo_size _ _ _ _ _ u
    have h2 := cut_size (s := s) (i := i) (Nat.le_refl s.size) (by omega)
    simp at h1
    exact ⟨by omega, by omega⟩
  | sym h _ => exact ⟨by omega, h⟩
theorem One.go {s : ByteArray} {i j : Nat} {t : List Fnd} (h : One s i j t) (n : Nat) : lexGo s (n + 1) i = t ++ lexGo s n j := by
  rw [lexGo_succ]
  cases h with
  | blank h c => rw [if_neg (by omega), if_pos c]; rfl
  | hash h c => rw [if_neg (by omega), if_neg (by omega), if_pos c]; rfl
  | word h c n => rw [if_neg (by omega), if_neg (by omega), if_neg (by omega), if_pos c, if_neg n]; rfl
  | num h c n => rw [if_neg (by omega), if_neg (by omega), if_neg (by omega), if_neg (by omega), if_pos c, if_neg n]; rfl
  | str h c t m u => rw [if_neg (by omega), if_neg (by omega), if_neg (by omega), if_neg (by omega), if_neg (by omega), if_pos c, u]; rfl
  | sym h c => rw [if_neg (by omega), if_neg (by omega), if_neg (by omega), if_neg (by omega), if_neg (by omega), if_neg (by omega), if_pos c]; rfl
theorem Lxs.le {s : ByteArray} {i j : Nat} {ts : List Fnd} (h : Lxs s i j ts) (hi : i ≤ s.size) : i ≤ j ∧ j ≤ s.size := by
  induction h with
  | refl i => exact ⟨Nat.le_refl _, hi⟩
  | step h _ ih =>
    have := h.lt
    have := ih (by omega)
    omega
theorem Lxs.go {s : ByteArray} {i j : Nat} {ts : List Fnd} (h : Lxs s i j ts) : ∀ n, s.size - i < n → i ≤ s.size → ∃ m, lexGo s n i = ts ++ lexGo s m j ∧ s.size - j < m := by
  induction h with
  | refl i => exact fun n hn _ => ⟨n, rfl, hn⟩
  | step h _ ih =>
    intro n hn hi
    obtain ⟨n, rfl⟩ : ∃ k, n = k + 1 := ⟨n - 1, by omega⟩
    have := h.lt
    obtain ⟨m, h1, h2⟩ := ih n (by omega) this.2
    exact ⟨m, by rw [h.go, h1, List.append_assoc], h2⟩
/-- A text without an error is read to its end. -/
theorem lxs_all (s : ByteArray) : ∀ (n i : Nat), s.size - i < n → i ≤ s.size → (∀ f ∈ lexGo s n i, f.err = 0) → Lxs s i s.size (lexGo s n i)
  | 0, _, hn, _, _ => by omega
  | n + 1, i, hn, hi, he => by
    by_cases h0 : s.size ≤ i
    · have : i = s.size := by omega
      subst this
      rw [lexGo_succ, if_pos h0]
      exact .refl _
    have key : ∀ {j : Nat} {t : List Fnd}, One s i j t → Lxs s i s.size (lexGo s (n + 1) i) := fun {j t} h => by
      have hl := h.lt
      rw [h.go] at he ⊢
      exact .step h (lxs_all s n j (by omega) hl.2 fun f hf => he f (List.mem_append.2 (.inr hf)))
    have hlt : i < s.size := by omega
    have bad : ∀ f : Fnd, lexGo s (n + 1) i = [f] → f.err ≠ 0 → Lxs s i s.size (lexGo s (n + 1) i) := fun f h1 h2 => by
      rw [h1] at he
      exact absurd (he f (List.mem_singleton.2 rfl)) h2
    by_cases c1 : clsAt s i = 1
    · exact key (.blank hlt c1)
    by_cases c2 : clsAt s i = 2
    · exact key (.hash hlt c2)
    by_cases c3 : clsAt s i = 3
    · by_cases hw : 24 < wordEnd s i - i
      · exact bad _ (by rw [lexGo_succ, if_neg h0, if_neg c1, if_neg c2, if_pos c3, if_pos hw]) (by show ¬ (7 : Int) = 0; decide)
      · exact key (.word hlt c3 hw)
    by_cases c4 : clsAt s i = 4
    · by_cases hw : 7 < digEnd s i - i ∨ clsAt s (digEnd s i) = 3 ∨ clsAt s (digEnd s i) = 5
      · exact bad _ (by rw [lexGo_succ, if_neg h0, if_neg c1, if_neg c2, if_neg c3, if_pos c4, if_pos hw]) (by show ¬ (11 : Int) = 0; decide)
      · exact key (.num hlt c4 hw)
    by_cases c7 : clsAt s i = 7
    · cases hu : unqL (cut s i s.size) with
      | none => exact bad ⟨0, ⟨#[]⟩, i, 10⟩ (by rw [lexGo_succ, if_neg h0, if_neg c1, if_neg c2, if_neg c3, if_neg c4, if_pos c7, hu]) (by show ¬ (10 : Int) = 0; decide)
      | some x => exact key (.str hlt c7 x.1 x.2 hu)
    by_cases c6 : clsAt s i = 6
    · exact key (.sym hlt c6)
    · exact bad ⟨0, ⟨#[]⟩, i, 10⟩ (by rw [lexGo_succ, if_neg h0, if_neg c1, if_neg c2, if_neg c3, if_neg c4, if_neg c7, if_neg c6]) (by show ¬ (10 : Int) = 0; decide)
theorem One.one {s : ByteArray} {i j : Nat} {t : List Fnd} (h : One s i j t) : t = [] ∨ ∃ f, t = [f] ∧ f.pos = i ∧ f.err = 0 := by
  cases h with
  | blank => exact .inl rfl
  | hash => exact .inl rfl
  | word => exact .inr ⟨_, rfl, rfl, rfl⟩
  | num => exact .inr ⟨_, rfl, rfl, rfl⟩
  | str => exact .inr ⟨_, rfl, rfl, rfl⟩
  | sym => exact .inr ⟨_, rfl, rfl, rfl⟩
theorem Lxs.pos {s : ByteArray} {i j : Nat} {ts : List Fnd} (h : Lxs s i j ts) : ∀ f ∈ ts, (i : Int) ≤ f.pos ∧ f.pos < (j : Int) ∧ f.err = 0 := by
  induction h with
  | refl i => exact fun f hf => by cases hf
  | step h r ih =>
    intro f hf
    have hl := h.lt
    have hr := r.le hl.2
    rcases List.mem_append.1 hf with hf | hf
    · rcases h.one with rfl | ⟨g, rfl, h1, h2⟩
      · cases hf
      · rw [List.mem_singleton] at hf
        subst hf
        exact ⟨by omega, by omega, h2⟩
    · have := ih f hf
      exact ⟨by omega, this.2.1, this.2.2⟩
/-- A token among those found: what is ahead of it, it, and what is behind it. -/
theorem Lxs.split {s : ByteArray} {i k : Nat} {l : List Fnd} (h : Lxs s i k l) : ∀ (p : List Fnd) (t : Fnd) (q : List Fnd), l = p ++ t :: q → ∃ a b : Nat, t.pos = (a : Int) ∧ Lxs s i a p ∧ One s a b [t] ∧ Lxs s b k q := by
  induction h with
  | refl i => intro p t q he; cases p <;> cases he
  | @step i j k u ts h r ih =>
    intro p t q he
    rcases h.one with rfl | ⟨g, rfl, h1, h2⟩
    · obtain ⟨a, b, h3, h4, h5, h6⟩ := ih p t q he
      exact ⟨a, b, h3, .step (t := []) h h4, h5, h6⟩
    · cases p with
      | nil =>
        injection he with e1 e2
        have e2 : ts = q := e2
        subst e1
        subst e2
        exact ⟨i, j, h1, .refl i, h, r⟩
      | cons g' p =>
        injection he with e1 e2
        subst e1
        obtain ⟨a, b, h3, h4, h5, h6⟩ := ih p t q e2
        exact ⟨a, b, h3, .step (t := [g]) h h4, h5, h6⟩
/-- Where the next token begins, or the text ends. -/
def nextPos (n : Nat) : List Fnd → Int
  | [] => n
  | u :: _ => u.pos
theorem Lxs.next {s : ByteArray} {b : Nat} {q : List Fnd} (h : Lxs s b s.size q) : ∃ e : Nat, nextPos s.size q = (e : Int) ∧ Lxs s b e [] := by
  cases q with
  | nil => exact ⟨s.size, rfl, h⟩
  | cons u q =>
    obtain ⟨a, c, h1, h2, _, _⟩ := h.split [] u q rfl
    exact ⟨a, h1, h2⟩
theorem Lxs.trans {s : ByteArray} {i j k : Nat} {a b : List Fnd} (h : Lxs s i j a) (h' : Lxs s j k b) : Lxs s i k (a ++ b) := by
  induction h with
  | refl i => exact h'
  | step h _ ih => rw [List.append_assoc]; exact .step h (ih h')
/-- Texts that are the same up to m; the second one ends there, or has a line feed. -/
structure Agree (s s' : ByteArray) (m : Nat) : Prop where
  le : m ≤ s.size
  le' : m ≤ s'.size
  same : ∀ i, i < m → byteAt s i = byteAt s' i
  stop : s'.size = m ∨ (m < s'.size ∧ byteAt s' m = 10)
section
variable {s s' : ByteArray} {m : Nat} (A : Agree s s' m)
include A
theorem Agree.cls {i : Nat} (h : i < m) : clsAt s' i = clsAt s i := by
  have h1 := A.le
  have h2 := A.le'
  unfold clsAt
  rw [if_pos (by omega), if_pos (by omega), A.same i h]
theorem Agree.clsm : clsAt s' m = 0 ∨ clsAt s' m = 1 := by
  unfold clsAt
  rcases A.stop with h | ⟨h, h2⟩
  · left; rw [if_neg (by omega)]
  · right; rw [if_pos h, h2]; decide +kernel
theorem Agree.cut {i j : Nat} (h : j ≤ m) (hi : i ≤ j) : Go.Proofs.YtppoeiofdmlpeaaDoor.cut s' i j = Go.Proofs.YtppoeiofdmlpeaaDoor.cut s i j := by
  have h1 := A.le
  have h2 := A.le'
  have z1 := cut_size (s := s) (i := i) (j := j) (by omega) hi
  have z2 := cut_size (s := s') (i := i) (j := j) (by omega) hi
  ext1
  apply Array.toList_inj.1
  apply List.ext_getElem?
  intro k
  have e1 : (Go.Proofs.YtppoeiofdmlpeaaDoor.cut s i j).data.toList.length = j - i := z1
  have e2 : (Go.Proofs.YtppoeiofdmlpeaaDoor.cut s' i j).data.toList.length = j - i := z2
  by_cases hk : k < j - i
  · have b1 := cut_byte (s := s) (i := i) (j := j) (k := k) (by omega) (by omega)
    have b2 := cut_byte (s := s') (i := i) (j := j) (k := k) (by omega) (by omega)
    rw [← A.same (i + k) (by omega), ← b1] at b2
    unfold byteAt at b2
    rw [List.getD_eq_getElem?_getD, List.getD_eq_getElem?_getD, List.getElem?_eq_getElem (by omega), List.getElem?_eq_getElem (by omega)] at b2
    rw [List.getElem?_eq_getElem (by omega), List.getElem?_eq_getElem (by omega)]
    exact congrArg some (UInt8.toNat_inj.1 b2)
  · rw [List.getElem?_eq_none (by omega), List.getElem?_eq_none (by omega)]
/-- A run ends where it ended. -/
theorem Agree.run {p p' : Nat → Bool} {i : Nat} (hi : i ≤ runTo p s.size i) (hm : runTo p s.size i ≤ m) (hp : ∀ k, k < m → p' k = p k) (hpm : p' m = false) (hs : p (runTo p s.size i) = false) : runTo p' s'.size i = runTo p s.size i := by
  have h1 := A.le'
  refine runTo_eq p' s'.size i _ hi (by omega) (fun k h2 h3 => ?_) ?_
  · rw [hp k (by omega)]
    exact runTo_all p s.size i k h2 h3
  · rcases Nat.eq_or_lt_of_le hm with h | h
    · rw [h]; exact hpm
    · rw [hp _ h]; exact hs
end
theorem unqGo_loc {t t' : ByteArray} : ∀ (n p : Nat) (acc x : List UInt8) (m : Nat), unqGo t n p acc = some (x, m) → m ≤ t'.size → (∀ i, i < m → byteAt t i = byteAt t' i) → ∀ n', m ≤ n' + p → unqGo t' n' p acc = some (x, m)
  | 0, _, _, _, _, h, _, _ => by cases h
  | n + 1, p, acc, x, m, h, hm, hs => by
    intro n' hn
    have hz := unqGo_size _ _ _ _ _ h
    have hpm : p < m := by
      have : ∀ (n p : Nat) (acc x : List UInt8) (m : Nat), unqGo t n p acc = some (x, m) → p < m := by
        intro n
        induction n with
        | zero => intro p acc x m h; cases h
        | succ n ih =>
          intro p acc x m h
          rw [unqGo_succ] at h
          split at h
          · cases h
          split at h
          · injection h with h; injection h with _ h2; omega
          split at h
          · cases h
          split at h
          · split at h
            · cases h
            · split at h
              · cases h
              · have := ih _ _ _ _ h; omega
          · have := ih _ _ _ _ h; omega
      exact this _ _ _ _ _ h
    obtain ⟨n', rfl⟩ : ∃ k, n' = k + 1 := ⟨n' - 1, by omega⟩
    rw [unqGo_succ] at h ⊢
    rw [← hs p hpm, if_neg (by omega)]
    split at h
    · cases h
    split at h
    · rename_i h34
      rw [if_pos h34]
      exact h
    rename_i h34
    rw [if_neg h34]
    split at h
    · cases h
    rename_i h10
    rw [if_neg h10]
    split at h
    · rename_i h92
      rw [if_pos h92]
      split at h
      · cases h
      · rename_i hsz
        have hm2 : p + 1 < m := by
          split at h
          · cases h
          · have := unqGo_size _ _ _ _ _ h
            have h3 : ∀ (n p : Nat) (acc x : List UInt8) (m : Nat), unqGo t n p acc = some (x, m) → p < m := by
              intro n
              induction n with
              | zero => intro p acc x m h; cases h
              | succ n ih =>
                intro p acc x m h
                rw [unqGo_succ] at h
                split at h
                · cases h
                split at h
                · injection h with h; injection h with _ h2; omega
                split at h
                · cases h
                split at h
                · split at h
                  · cases h
                  · split at h
                    · cases h
                    · have := ih _ _ _ _ h; omega
                · have := ih _ _ _ _ h; omega
            have := h3 _ _ _ _ _ h
            omega
        rw [if_neg (by omega), ← hs (p + 1) hm2]
        split at h
        · cases h
        · exact unqGo_loc n _ _ _ _ h hm hs n' (by omega)
    · rename_i h92
      rw [if_neg h92]
      exact unqGo_loc n _ _ _ _ h hm hs n' (by omega)
theorem One.agree {s s' : ByteArray} {m i j : Nat} {t : List Fnd} (A : Agree s s' m) (h : One s i j t) (hj : j ≤ m) : One s' i j t := by
  have hl := h.lt
  have h1 := A.le'
  have ci := A.cls (show i < m by omega)
  have hm := A.clsm
  cases h with
  | blank h c => exact .blank (by omega) (ci.trans c)
  | hash h c =>
    have e : hashEnd s' i = hashEnd s i := by
      refine A.run (p := hashP s) (p' := hashP s') (runTo_ge _ _ _) hj (fun k hk => ?_) ?_ (run_stop _ _ _ s.size (by omega) fun k hk => by unfold hashP; rw [decide_eq_false (by omega)]; rfl)
      · have := A.le
        unfold hashP
        rw [A.same k hk, decide_eq_true (by omega), decide_eq_true (by omega)]
      · unfold hashP
        rcases A.stop with h | ⟨_, h2⟩
        · rw [decide_eq_false (by omega)]; rfl
        · rw [h2]; simp
    rw [← e]
    exact .hash (by omega) (ci.trans c)
  | word h c n =>
    have e : wordEnd s' i = wordEnd s i := by
      refine A.run (p := wordP s) (p' := wordP s') (runTo_ge _ _ _) hj (fun k hk => ?_) ?_ (run_stop _ _ _ s.size (by omega) fun k hk => by unfold wordP clsAt; rw [if_neg (by omega)]; rfl)
      · unfold wordP; rw [A.cls hk]
      · unfold wordP
        rcases hm with h | h <;> rw [h] <;> rfl
    have h2 := One.word (s := s') (i := i) (by omega) (ci.trans c) (by rw [e]; exact n)
    rw [e, A.cut hj (by omega)] at h2
    exact h2
  | num h c n =>
    have e : digEnd s' i = digEnd s i := by
      refine A.run (p := digP s) (p' := digP s') (runTo_ge _ _ _) hj (fun k hk => ?_) ?_ (run_stop _ _ _ s.size (by omega) fun k hk => by unfold digP clsAt; rw [if_neg (by omega)]; rfl)
      · unfold digP; rw [A.cls hk]
      · unfold digP
        rcases hm with h | h <;> rw [h] <;> rfl
    have h2 := One.num (s := s') (i := i) (by omega) (ci.trans c) (by
      rw [e]
      rcases Nat.eq_or_lt_of_le hj with hh | hh
      · rw [hh]
        intro hx
        rcases hx with hx | hx
        · exact n (.inl (by omega))
        · omega
      · rw [A.cls hh]; exact n)
    rw [e, A.cut hj (by omega)] at h2
    exact h2
  | str h c x k u =>
    have hle := A.le
    have z1 := cut_size (s := s) (i := i) (Nat.le_refl s.size) (by omega)
    have z2 := cut_size (s := s') (i := i) (Nat.le_refl s'.size) (by omega)
    refine .str (by omega) (ci.trans c) x k ?_
    refine unqGo_loc _ _ _ _ _ u (by omega) (fun q hq => ?_) _ (by omega)
    rw [cut_byte (Nat.le_refl _) (by omega), cut_byte (Nat.le_refl _) (by omega)]
    exact A.same _ (by omega)
  | sym h c =>
    have h2 := One.sym (s := s') (i := i) (by omega) (ci.trans c)
    rw [A.cut hj (by omega)] at h2
    exact h2
theorem Lxs.agree {s s' : ByteArray} {i j : Nat} {ts : List Fnd} (h : Lxs s i j ts) {m : Nat} (A : Agree s s' m) (hj : j ≤ m) : Lxs s' i j ts := by
  have hz := A.le
  induction h with
  | refl i => exact .refl i
  | step h r ih =>
    have := h.lt
    have := r.le this.2
    exact .step (h.agree A (by omega)) (ih hj)
end Go.Proofs.YtppoeiofdmlpeaaDoor
namespace Go.Proofs.YtppoeiofdmlpeaaDoor
open Go Go.RowKit
/-- No place is negative. -/
def NonNeg (l : List Fnd) : Prop := ∀ t ∈ l, 0 ≤ t.pos
def Lo {α : Type} : Got α → Prop
  | .bad _ a => 0 ≤ a
  | .ok _ r => NonNeg r
theorem Lo.bind {α β : Type} {g : Got α} {f : α → List Fnd → Got β} (hg : Lo g) (hf : ∀ x r, NonNeg r → Lo (f x r)) : Lo (g.bind f) := by
  cases g with
  | bad e a => exact hg
  | ok x r => exact hf x r hg
theorem nn_tail {l : List Fnd} (h : NonNeg l) : NonNeg l.tail := fun t ht => h t (List.mem_of_mem_tail ht)
section
variable {E : Int} (hE : 0 ≤ E)
include hE
theorem fail_lo {α : Type} {e : Int} {l : List Fnd} (h : NonNeg l) : Lo (failP E e l : Got α) := by
  cases l with
  | nil => exact hE
  | cons t r => exact h t (List.mem_cons_self ..)
theorem want_lo (s : ByteArray) {l : List Fnd} (h : NonNeg l) : Lo (wantP E s l) := by
  unfold wantP
  split
  · exact nn_tail h
  · exact fail_lo hE h
theorem next_lo (k : Int) (c : ByteArray → Bool) {l : List Fnd} (h : NonNeg l) : Lo (nextP E k c l) := by
  cases l with
  | nil => exact hE
  | cons t r =>
    have ht := h t (List.mem_cons_self ..)
    show Lo (if t.kind = k then (if c t.text then Got.ok t.text r else .bad 13 t.pos) else .bad 8 t.pos)
    split
    · split
      · exact fun x hx => h x (List.mem_cons_of_mem _ hx)
      · exact ht
    · exact ht
theorem num_lo (low : Int) {l : List Fnd} (h : NonNeg l) : Lo (numP E low l) := (next_lo hE 2 _ h).bind fun _ _ h => h
omit hE
def LoF (one : List Fnd → Got Ex) : Prop := ∀ l, NonNeg l → Lo (one l)
theorem more_lo {one : List Fnd → Got Ex} (h1 : LoF one) (word : ByteArray) : ∀ (n : Nat) (l : List Fnd), NonNeg l → Lo (moreP word one n l)
  | 0, _, h => h
  | n + 1, l, h => by
    show Lo (if skipB word l then (one l.tail).bind fun c r => (moreP word one n r).bind fun cs r2 => .ok (c :: cs) r2 else .ok [] l)
    split
    · exact (h1 _ (nn_tail h)).bind fun c r hr => (more_lo h1 word n r hr).bind fun cs r2 h2 => h2
    · exact h
theorem ser_lo {one : List Fnd → Got Ex} (h1 : LoF one) (word : ByteArray) (op : Int) : LoF (serP word op one) := fun l h => (h1 l h).bind fun _c r hr => (more_lo h1 word _ r hr).bind fun _cs _r2 h2 => h2
theorem cond_lo {one : List Fnd → Got Ex} (h1 : LoF one) : LoF (condP one) := ser_lo (ser_lo h1 wAnd 3) wOr 4
include hE
theorem in_lo {one : List Fnd → Got Ex} (h1 : LoF one) : LoF (inP E one) := fun _l h => (want_lo hE _ h).bind fun _ r hr => (cond_lo h1 r hr).bind fun _c _r2 h2 => (want_lo hE _ h2).bind fun _ _r3 h3 => h3
theorem within_lo {one : List Fnd → Got Ex} (h1 : LoF one) (op : Int) : LoF (withinP E op one) := fun _l h => (next_lo hE 1 _ h).bind fun _a r hr => (in_lo hE h1 r hr).bind fun _c _r2 h2 => h2
theorem limit_lo : LoF (limitP E) := fun l h => (next_lo hE 1 _ h).bind fun a r hr => (num_lo hE 0 hr).bind fun n r2 h2 => by
  split
  · exact (num_lo hE 0 (nn_tail h2)).bind fun x r3 h3 => h3
  · exact h2
theorem over_lo : LoF (overP E) := fun _l h => (next_lo hE 1 _ h).bind fun _a _r hr => (num_lo hE 0 hr).bind fun _n _r2 h2 => h2
theorem has_lo : LoF (hasP E) := fun _l h => (next_lo hE 1 _ h).bind fun _a _r hr => hr
theorem slot_lo : LoF (slotP E) := fun _l h => (next_lo hE 1 _ h).bind fun _a _r hr => (want_lo hE _ hr).bind fun _ _r2 h2 => (next_lo hE 1 _ h2).bind fun _v _r3 h3 => h3
theorem at_lo : LoF (atP E) := fun _l h => (want_lo hE _ h).bind fun _ _r hr => (num_lo hE 1 hr).bind fun _n _r2 h2 => (next_lo hE 1 _ h2).bind fun _a _r3 h3 => h3
theorem is_lo : LoF (isP E) := fun _l h => (next_lo hE 1 _ h).bind fun _a _r hr => (want_lo hE _ hr).bind fun _ _r2 h2 => (next_lo hE 3 _ h2).bind fun _v _r3 h3 => h3
theorem not1_lo {one : List Fnd → Got Ex} (h1 : LoF one) : LoF (notP1 E one) := by
  intro l h
  cases l with
  | nil => exact hE
  | cons t r =>
    have ht := h t (List.mem_cons_self ..)
    have hr : NonNeg r := fun x hx => h x (List.mem_cons_of_mem _ hx)
    show Lo (if t.kind = 4 ∧ t.text = wOpen then inP E one (t :: r) else if t.kind = 1 ∧ resB t.text = true then wordsP E one t r else isP E (t :: r))
    split
    · exact in_lo hE h1 _ h
    split
    · unfold wordsP
      split
      · exact hr
      split
      · exact (h1 r hr).bind fun c r2 h2 => h2
      split
      · exact limit_lo hE r hr
      split
      · exact over_lo hE r hr
      split
      · exact has_lo hE r hr
      split
      · exact slot_lo hE r hr
      split
      · exact within_lo hE h1 10 r hr
      split
      · exact within_lo hE h1 11 r hr
      split
      · exact at_lo hE r hr
      · exact ht
    · exact is_lo hE _ h
theorem not_lo : ∀ k : Nat, LoF (notP E k)
  | 0 => fun _ _ => Int.le_refl 0
  | k + 1 => not1_lo hE (not_lo k)
theorem rule_lo {l : List Fnd} (h : NonNeg l) : Lo (ruleP E l) :=
  (want_lo hE _ h).bind fun _ r hr => (next_lo hE 1 _ hr).bind fun a r1 h1 => (want_lo hE _ h1).bind fun _ r2 h2 => (next_lo hE 1 _ h2).bind fun b r3 h3 => (want_lo hE _ h3).bind fun _ r4 h4 =>
    (cond_lo (not_lo hE _) r4 h4).bind fun c r5 h5 => (want_lo hE _ h5).bind fun _ r6 h6 => by
      cases r6 with
      | nil => exact h6
      | cons t r => exact h6 t (List.mem_cons_self ..)
end
theorem lexGo_nn (s : ByteArray) : ∀ (n i : Nat), NonNeg (lexGo s n i)
  | 0, _ => fun f h => by cases h
  | n + 1, i => by
    have ih := lexGo_nn s n
    have hi : (0 : Int) ≤ ((i : Nat) : Int) := Int.natCast_nonneg _
    have hone : ∀ f : Fnd, f.pos = (i : Nat) → NonNeg [f] := fun f h1 g hg => by rw [List.mem_singleton] at hg; subst hg; rw [h1]; exact hi
    have hcons : ∀ (f : Fnd) (j : Nat), f.pos = (i : Nat) → NonNeg (f :: lexGo s n j) := fun f j h1 g hg => (List.mem_cons.1 hg).elim (fun e => by rw [e, h1]; exact hi) (ih j g)
    rw [lexGo_succ]
    split
    · exact fun f h => by cases h
    split
    · exact ih _
    split
    · exact ih _
    split
    · split
      · exact hone _ rfl
      · exact hcons _ _ rfl
    split
    · split
      · exact hone _ rfl
      · exact hcons _ _ rfl
    split
    · split
      · exact hone _ rfl
      · exact hcons _ _ rfl
    split
    · exact hcons _ _ rfl
    · exact hone _ rfl
theorem takeF_low : ∀ (fs out : List Fnd), NonNeg fs → 0 ≤ (takeF fs out).2.2
  | [], _, _ => Int.le_refl 0
  | f :: r, out, h => by
    unfold takeF
    split
    · exact h f (List.mem_cons_self ..)
    · split
      · exact h f (List.mem_cons_self ..)
      · exact takeF_low r _ fun x hx => h x (List.mem_cons_of_mem _ hx)
theorem lexL_nn {s : ByteArray} (h : (lexL s).2.1 = 0) : NonNeg (lexL s).1 ∧ ∀ t ∈ (lexL s).1, t.err = 0 := by
  unfold lexL at *
  split at h
  · exact absurd h (show ¬ (7 : Int) = 0 by decide)
  · rename_i hs
    rw [if_neg hs]
    obtain ⟨g1, g2⟩ := takeF_ok _ _ h
    rw [g1, List.nil_append]
    exact ⟨lexGo_nn s _ _, g2⟩
theorem parseU_low {s : ByteArray} : -1 ≤ (parseU s).2.2 := by
  unfold parseU
  by_cases he : (lexL s).2.1 ≠ 0
  · rw [if_pos he]
    show -1 ≤ (lexL s).2.2
    unfold lexL
    split
    · exact Int.le_refl _
    · have := takeF_low (lexF s) [] (lexGo_nn s _ _)
      omega
  · rw [if_neg he]
    have hl := rule_lo (E := s.size) (Int.natCast_nonneg _) (lexL_nn (Decidable.not_not.1 he)).1
    cases hq : ruleP s.size (lexL s).1 with
    | bad e a =>
      rw [hq] at hl
      have hl : 0 ≤ a := hl
      show -1 ≤ a
      omega
    | ok q r =>
      show -1 ≤ (if 60 < cnt q.cond then (ru0, (7 : Int), (0 : Int)) else (q, 0, 0)).2.2
      split
      · show (-1 : Int) ≤ 0; decide
      · show (-1 : Int) ≤ 0; decide
theorem byte_front {s u : ByteArray} {a i : Nat} (ha : a ≤ s.size) (hi : i < a) : byteAt (s.extract 0 a ++ u) i = byteAt s i := by
  have h1 := cut_byte (s := s) (i := 0) (j := a) (k := i) ha (by omega)
  rw [Nat.zero_add] at h1
  rw [← h1]
  have h2 := cut_size (s := s) (i := 0) (j := a) ha (by omega)
  unfold byteAt cut at *
  rw [toL_app, List.getD_eq_getElem?_getD, List.getD_eq_getElem?_getD, List.getElem?_append_left (by show i < (s.extract 0 a).size; omega)]
theorem agree_end {s : ByteArray} {a : Nat} (ha : a ≤ s.size) : Agree s (s.extract 0 a) a := by
  have h2 := cut_size (s := s) (i := 0) (j := a) ha (by omega)
  unfold cut at h2
  refine ⟨ha, by omega, fun i hi => ?_, .inl (by omega)⟩
  have h1 := cut_byte (s := s) (i := 0) (j := a) (k := i) ha (by omega)
  rw [Nat.zero_add] at h1
  exact h1.symm
theorem agree_more {s u : ByteArray} {a : Nat} (ha : a ≤ s.size) : Agree s (s.extract 0 a ++ ⟨#[10]⟩ ++ u) a := by
  have h2 := cut_size (s := s) (i := 0) (j := a) ha (by omega)
  unfold cut at h2
  have e : s.extract 0 a ++ ⟨#[10]⟩ ++ u = s.extract 0 a ++ (⟨#[10]⟩ ++ u) := ByteArray.append_assoc
  have hz : (s.extract 0 a ++ ⟨#[10]⟩ ++ u).size = a + 1 + u.size := by
    rw [size_app, size_app]
    show (s.extract 0 a).size + 1 + _ = _
    omega
  refine ⟨ha, by omega, fun i hi => ?_, .inr ⟨by omega, ?_⟩⟩
  · rw [e, byte_front ha hi]
  · rw [e]
    unfold byteAt
    rw [toL_app, List.getD_eq_getElem?_getD, List.getElem?_append_right (by show (s.extract 0 a).size ≤ a; omega)]
    rw [show a - (s.extract 0 a).data.toList.length = 0 by show a - (s.extract 0 a).size = 0; omega]
    rw [toL_app]
    rfl
/-- The tokens of a text that begins so. -/
theorem lex_front {s s' : ByteArray} {a : Nat} {p : List Fnd} (h : Lxs s 0 a p) (A : Agree s s' a) (hs : s'.size ≤ 20000) (h0 : (lexL s').2.1 = 0) : ∃ r, (lexL s').1 = p ++ r := by
  obtain ⟨m, h1, _⟩ := (h.agree A (Nat.le_refl _)).go (s'.size + 1) (by omega) (Nat.zero_le _)
  unfold lexL at *
  rw [if_neg (by omega)] at *
  obtain ⟨g1, _⟩ := takeF_ok _ _ h0
  rw [g1, List.nil_append]
  exact ⟨_, h1⟩
theorem lex_end {s : ByteArray} {a : Nat} {p : List Fnd} (h : Lxs s 0 a p) (ha : a ≤ s.size) (hs : s.size ≤ 20000) (hp : p.length ≤ 5000) : lexL (s.extract 0 a) = (p, 0, 0) := by
  have A := agree_end ha
  have h2 := cut_size (s := s) (i := 0) (j := a) ha (by omega)
  unfold cut at h2
  have hL := h.agree A (Nat.le_refl _)
  obtain ⟨m, h1, hm⟩ := hL.go ((s.extract 0 a).size + 1) (by omega) (Nat.zero_le _)
  have hn : lexGo (s.extract 0 a) m a = [] := by
    cases m with
    | zero => rfl
    | succ m => rw [lexGo_succ, if_pos (by omega)]
  rw [hn, List.append_nil] at h1
  unfold lexL
  rw [if_neg (by omega), show lexF (s.extract 0 a) = p from h1, takeF_all p [] (fun f hf => (hL.pos f hf).2.2) (by simpa using hp)]
  rfl
theorem parse_of {s : ByteArray} (h : (lexL s).2.1 = 0) : parseU s = match ruleP s.size (lexL s).1 with
    | .bad e a => (ru0, e, a)
    | .ok r _ => if 60 < cnt r.cond then (ru0, 7, 0) else (r, 0, 0) := by
  unfold parseU
  rw [if_neg (by rw [h]; exact fun h => h rfl)]
  rfl
/-- Where an error is, and what it says of the text ahead of it, and of another one behind it. -/
theorem begins_plain {s : ByteArray} (hs : s.size ≤ 1500) (he : (lexL s).2.1 = 0) (h8 : (parseU s).2.1 = 8 ∨ (parseU s).2.1 = 13) :
    ∃ (p : List Fnd) (t : Fnd) (q : List Fnd) (a e : Nat), (lexL s).1 = p ++ t :: q ∧ (parseU s).2.2 = (a : Int) ∧ t.pos = (a : Int) ∧ a ≤ s.size ∧ nextPos s.size q = (e : Int) ∧ e ≤ s.size ∧ (∀ x ∈ p, x.pos ≠ (a : Int)) ∧ (∀ x ∈ q, x.pos ≠ (a : Int)) ∧
      ((parseU (s.extract 0 a)).2.1 = 0 ∨ (parseU (s.extract 0 a)).2.1 = 9 ∨ (parseU (s.extract 0 a)).2.1 = 7) ∧
      ∀ u : ByteArray, u.size ≤ 1500 → (lexL (s.extract 0 e ++ ⟨#[10]⟩ ++ u)).2.1 = 0 → (parseU (s.extract 0 e ++ ⟨#[10]⟩ ++ u)).2.1 = (parseU s).2.1 ∧ (parseU (s.extract 0 e ++ ⟨#[10]⟩ ++ u)).2.2 = (a : Int) := by
  have e1 := parse_of he
  obtain ⟨hToks, _⟩ := lexL_toks he
  have hlen := (lexL_wf he).2
  have hL : Lxs s 0 s.size (lexL s).1 := by
    have h2 := (lexL_nn he).2
    have h3 : (lexL s).1 = lexGo s (s.size + 1) 0 := by
      unfold lexL at *
      rw [if_neg (by omega)] at *
      obtain ⟨g1, _⟩ := takeF_ok _ _ he
      rw [g1, List.nil_append]
      rfl
    rw [h3] at h2 ⊢
    exact lxs_all s _ _ (by omega) (Nat.zero_le _) h2
  cases hq : ruleP s.size (lexL s).1 with
  | ok q r =>
    rw [e1, hq] at h8
    exfalso
    have h9 : (if 60 < cnt q.cond then (ru0, (7 : Int), (0 : Int)) else (q, 0, 0)).2.1 = 8 ∨ (if 60 < cnt q.cond then (ru0, (7 : Int), (0 : Int)) else (q, 0, 0)).2.1 = 13 := h8
    split at h9
    · rcases h9 with h | h
      · exact absurd (show (7 : Int) = 8 from h) (by decide)
      · exact absurd (show (7 : Int) = 13 from h) (by decide)
    · rcases h9 with h | h
      · exact absurd (show (0 : Int) = 8 from h) (by decide)
      · exact absurd (show (0 : Int) = 13 from h) (by decide)
  | bad er at' =>
    have hpu : parseU s = (ru0, er, at') := by rw [e1, hq]
    rw [hpu] at h8 ⊢
    have h8 : er = 8 ∨ er = 13 := h8
    obtain ⟨p, t, q, hl, hat, hre⟩ := rule_err (E' := s.size) hq h8
    rw [hl] at hL
    obtain ⟨a, b, ha, l1, l2, l3⟩ := hL.split p t q rfl
    obtain ⟨e, hne, l4⟩ := l3.next
    have hab := l2.lt
    have hle := l3.le hab.2
    have hbe := l4.le hab.2
    have l5 : Lxs s 0 e (p ++ [t]) := l1.trans ((Lxs.step l2 l4))
    have pp := l1.pos
    have pq := l3.pos
    rw [hl, List.length_append, List.length_cons] at hlen
    refine ⟨p, t, q, a, e, hl, by show at' = _; rw [hat, ha], ha, by omega, hne, hbe.2, fun x hx hxa => ?_, fun x hx hxa => ?_, ?_, fun u hu h0 => ?_⟩
    · have := (pp x hx).2.1; omega
    · have := (pq x hx).1; omega
    · have hx := lex_end l1 (by omega) (by omega) (by omega)
      have e2 := parse_of (s := s.extract 0 a) (by rw [hx])
      rw [e2, hx]
      have hTp : Toks (s.extract 0 a).size p := by
        have h5 := (lexL_toks (s := s.extract 0 a) (by rw [hx])).1
        rw [hx] at h5
        exact h5
      have hg := rule_ga (E := (s.extract 0 a).size) (Int.le_refl _) hTp
      cases hr : ruleP (s.extract 0 a).size p with
      | ok r' rest =>
        show (if 60 < cnt r'.cond then (ru0, (7 : Int), (0 : Int)) else (r', 0, 0)).2.1 = 0 ∨ (if 60 < cnt r'.cond then (ru0, (7 : Int), (0 : Int)) else (r', 0, 0)).2.1 = 9 ∨ (if 60 < cnt r'.cond then (ru0, (7 : Int), (0 : Int)) else (r', 0, 0)).2.1 = 7
        split
        · exact .inr (.inr rfl)
        · exact .inl rfl
      | bad e3 a3 =>
        rw [hr] at hg
        show e3 = 0 ∨ e3 = 9 ∨ e3 = 7
        rcases hg.2 with h | h | h
        · exfalso
          obtain ⟨m2, t2, q2, g1, g2, g3⟩ := rule_err (E' := s.size) hr (.inl h)
          have g4 := g3 m2 t2 (q2 ++ t :: q) rfl rfl
          rw [show m2 ++ t2 :: (q2 ++ t :: q) = p ++ t :: q by rw [g1]; simp, ← hl, hq] at g4
          injection g4 with _ g5
          have := (pp t2 (by rw [g1]; simp)).2.1
          omega
        · exact .inr (.inl h)
        · exfalso
          obtain ⟨m2, t2, q2, g1, g2, g3⟩ := rule_err (E' := s.size) hr (.inr h)
          have g4 := g3 m2 t2 (q2 ++ t :: q) rfl rfl
          rw [show m2 ++ t2 :: (q2 ++ t :: q) = p ++ t :: q by rw [g1]; simp, ← hl, hq] at g4
          injection g4 with _ g5
          have := (pp t2 (by rw [g1]; simp)).2.1
          omega
    · have hz : (s.extract 0 e ++ ⟨#[10]⟩ ++ u).size ≤ 20000 := by
        have h2 := cut_size (s := s) (i := 0) (j := e) hbe.2 (by omega)
        unfold cut at h2
        rw [size_app, size_app]
        show (s.extract 0 e).size + 1 + _ ≤ _
        omega
      obtain ⟨r, hr⟩ := lex_front l5 (agree_more hbe.2) hz h0
      obtain ⟨_, _, _, _, _, hre2⟩ := rule_err (E' := (s.extract 0 e ++ ⟨#[10]⟩ ++ u).size) hq h8
      have e2 := parse_of h0
      obtain ⟨p3, t3, q3, hl3, hat3, hre3⟩ := rule_err (E' := (s.extract 0 e ++ ⟨#[10]⟩ ++ u).size) hq h8
      have hsame : p3 = p ∧ t3 = t := by
        have hpos : ∀ (x y : List Fnd) (v w : Fnd) (xs ys : List Fnd), x ++ v :: xs = y ++ w :: ys → (∀ z ∈ x, z.pos ≠ v.pos) → (∀ z ∈ y, z.pos ≠ w.pos) → v.pos = w.pos → x = y ∧ v = w := by
          intro x
          induction x with
          | nil =>
            intro y v w xs ys h1 _ h3 h4
            cases y with
            | nil => injection h1 with h1 _; exact ⟨rfl, h1⟩
            | cons z y =>
              injection h1 with h1 _
              exact absurd (by rw [← h1]; exact h4) (h3 z (List.mem_cons_self ..))
          | cons z x ih =>
            intro y v w xs ys h1 h2 h3 h4
            cases y with
            | nil =>
              injection h1 with h1 _
              exact absurd (by rw [h1]; exact h4.symm) (h2 z (List.mem_cons_self ..))
            | cons z' y =>
              injection h1 with h1 h5
              obtain ⟨i1, i2⟩ := ih y v w xs ys h5 (fun z hz => h2 z (List.mem_cons_of_mem _ hz)) (fun z hz => h3 z (List.mem_cons_of_mem _ hz)) h4
              exact ⟨by rw [h1, i1], i2⟩
        have hL3 : Lxs s 0 s.size (p3 ++ t3 :: q3) := by rw [← hl3, hl]; exact hL
        obtain ⟨a3, _, ha3, l31, _, _⟩ := hL3.split p3 t3 q3 rfl
        have pp3 := l31.pos
        refine hpos p3 p t3 t q3 q (hl3.symm.trans hl) (fun z hz => ?_) (fun z hz => ?_) (by rw [← hat3, ← hat])
        · have := (pp3 z hz).2.1; omega
        · have := (pp z hz).2.1; omega
      obtain ⟨rfl, rfl⟩ := hsame
      have h6 := hre3 p3 t3 r rfl rfl
      rw [e2, hr, List.append_assoc, List.singleton_append, h6]
      exact ⟨rfl, ha⟩
end Go.Proofs.YtppoeiofdmlpeaaDoor
