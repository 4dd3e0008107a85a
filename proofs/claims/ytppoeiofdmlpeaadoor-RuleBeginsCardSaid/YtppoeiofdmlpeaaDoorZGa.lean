/- What the parser reads depends on what it reads, and on the next token alone. No condition. An error at a token depends on the tokens up to it alone. No condition. Rules with other gaps; with parentheses around the condition; with another text behind an error. No condition. Tokens written with a line feed behind each are the same tokens. No condition. -/
import Derived.Test.YtppoeiofdmlpeaaDoorU15
import Derived.Test.YtppoeiofdmlpeaaDoorU17
namespace Go.Proofs.YtppoeiofdmlpeaaDoor
open Go Go.RowKit
/-- Lists of the same tokens, apart from their places. -/
def Eqv (l l' : List Fnd) : Prop := l.map tkOf = l'.map tkOf
theorem Eqv.len {l l' : List Fnd} (h : Eqv l l') : l.length = l'.length := by
  have := congrArg List.length h
  simpa using this
theorem Eqv.refl (l : List Fnd) : Eqv l l := rfl
theorem Eqv.symm {l l' : List Fnd} (h : Eqv l l') : Eqv l' l := Eq.symm h
theorem Eqv.nil {l : List Fnd} (h : Eqv l []) : l = [] := List.map_eq_nil_iff.1 h
theorem Eqv.cons {l r : List Fnd} {t : Fnd} (h : Eqv l (t :: r)) : ∃ t' r', l = t' :: r' ∧ tkOf t' = tkOf t ∧ Eqv r' r := by
  obtain ⟨f, g, rfl, h1, h2⟩ := List.map_eq_cons_iff.1 (show l.map tkOf = tkOf t :: r.map tkOf from h)
  exact ⟨f, g, rfl, h1, h2⟩
theorem Eqv.app {l a b : List Fnd} (h : Eqv l (a ++ b)) : ∃ a' b', l = a' ++ b' ∧ Eqv a' a ∧ Eqv b' b := by
  have h' : l.map tkOf = a.map tkOf ++ b.map tkOf := by rw [← List.map_append]; exact h
  obtain ⟨f, g, h1, h2, h3⟩ := List.map_eq_append_iff.1 h'
  exact ⟨f, g, h1, h2, h3⟩
theorem tk_kind {t t' : Fnd} (h : tkOf t = tkOf t') : t.kind = t'.kind := congrArg Prod.fst h
theorem tk_text {t t' : Fnd} (h : tkOf t = tkOf t') : t.text = t'.text := congrArg Prod.snd h
theorem skip_tk {t t' : Fnd} (h : tkOf t = tkOf t') (w : ByteArray) (r r' : List Fnd) : skipB w (t :: r) = skipB w (t' :: r') := by
  show decide (t.text = w ∧ (t.kind = 1 ∨ t.kind = 4)) = decide (t'.text = w ∧ (t'.kind = 1 ∨ t'.kind = 4))
  rw [tk_kind h, tk_text h]
/-- The next token says the same to those who look. -/
def Look (r r' : List Fnd) : Prop := skipB wPlus r = skipB wPlus r' ∧ skipB wAnd r = skipB wAnd r' ∧ skipB wOr r = skipB wOr r'
theorem Look.cons {t t' : Fnd} (h : tkOf t = tkOf t') (r r' : List Fnd) : Look (t :: r) (t' :: r') := ⟨skip_tk h _ _ _, skip_tk h _ _ _, skip_tk h _ _ _⟩
theorem Look.app {m m' r r' : List Fnd} (hm : Eqv m' m) (h : Look r r') : Look (m ++ r) (m' ++ r') := by
  cases m with
  | nil => rw [hm.nil]; exact h
  | cons t m =>
    obtain ⟨t', m2, rfl, h1, _⟩ := hm.cons
    exact Look.cons h1.symm _ _
/-- What is read, is read again: from the same tokens, whatever follows that looks the same. -/
def LocP {α : Type} (k d : Nat) (g g' : List Fnd → Got α) : Prop := ∀ l x r, g l = .ok x r → ∃ m, d ≤ m.length ∧ l = m ++ r ∧ ∀ m' r', Eqv m' m → Look r r' → (m' ++ r').length < k → g' (m' ++ r') = .ok x r'
theorem LocP.mono {α : Type} {k k' d d' : Nat} {g g' : List Fnd → Got α} (h : LocP k d g g') (hk : k' ≤ k) (hd : d' ≤ d) : LocP k' d' g g' := fun l x r he => by
  obtain ⟨m, h1, h2, h3⟩ := h l x r he
  exact ⟨m, Nat.le_trans hd h1, h2, fun m' r' e1 e2 e3 => h3 m' r' e1 e2 (Nat.lt_of_lt_of_le e3 hk)⟩
theorem LocP.bind {α β : Type} {k d d' : Nat} {g g' : List Fnd → Got α} {f f' : α → List Fnd → Got β} (hg : LocP k d g g') (hf : ∀ x, LocP (k - d) d' (f x) (f' x)) : LocP k (d + d') (fun l => (g l).bind f) (fun l => (g' l).bind f') := by
  intro l x r he
  obtain ⟨y, r1, h1, h2⟩ := Got.bind_ok he
  obtain ⟨m1, a1, rfl, a3⟩ := hg l y r1 h1
  obtain ⟨m2, b1, rfl, b3⟩ := hf y r1 x r h2
  refine ⟨m1 ++ m2, by rw [List.length_append]; omega, by rw [List.append_assoc], fun m' r' e1 e2 e3 => ?_⟩
  obtain ⟨n1, n2, rfl, f1, f2⟩ := e1.app
  rw [List.append_assoc] at e3 ⊢
  have hl := f1.len
  show (g' (n1 ++ (n2 ++ r'))).bind f' = _
  rw [a3 n1 (n2 ++ r') f1 (Look.app f2 e2) e3]
  exact b3 n2 r' f2 e2 (by rw [List.length_append] at e3; omega)
theorem loc_ok {α β : Type} (k : Nat) (φ : α → β) (x : α) : LocP k 0 (fun r => Got.ok (φ x) r) (fun r => Got.ok (φ x) r) := fun l y r he => by
  injection he with h1 h2
  subst h1
  subst h2
  exact ⟨[], Nat.zero_le _, rfl, fun m' r' e1 _ _ => by rw [e1.nil]; rfl⟩
theorem want_loc (E E' : Int) (k : Nat) (s : ByteArray) : LocP k 1 (wantP E s) (wantP E' s) := by
  intro l x r he
  cases l with
  | nil => cases he
  | cons t l =>
    unfold wantP at he
    split at he
    · rename_i hs
      injection he with _ h2
      subst h2
      refine ⟨[t], Nat.le_refl _, rfl, fun m' r' e1 _ _ => ?_⟩
      obtain ⟨t', m2, rfl, h1, h3⟩ := e1.cons
      rw [h3.nil]
      show wantP E' s (t' :: r') = _
      unfold wantP
      rw [skip_tk h1 s r' l, if_pos hs]
      rfl
    · cases he
theorem next_loc (E E' : Int) (k : Nat) (kind : Int) (c : ByteArray → Bool) : LocP k 1 (nextP E kind c) (nextP E' kind c) := by
  intro l x r he
  cases l with
  | nil => cases he
  | cons t l =>
    have he' : (if t.kind = kind then (if c t.text then Got.ok t.text l else .bad 13 t.pos) else .bad 8 t.pos) = .ok x r := he
    split at he'
    · rename_i h1
      split at he'
      · rename_i h2
        injection he' with h3 h4
        subst h3
        subst h4
        refine ⟨[t], Nat.le_refl _, rfl, fun m' r' e1 _ _ => ?_⟩
        obtain ⟨t', m2, rfl, h5, h6⟩ := e1.cons
        rw [h6.nil]
        show (if t'.kind = kind then (if c t'.text then Got.ok t'.text r' else .bad 13 t'.pos) else .bad 8 t'.pos) = _
        rw [tk_kind h5, tk_text h5, if_pos h1, if_pos h2]
      · cases he'
    · cases he'
theorem num_loc (E E' : Int) (k : Nat) (low : Int) : LocP k 1 (numP E low) (numP E' low) :=
  LocP.bind (d := 1) (d' := 0) (next_loc E E' k 2 (numB low)) fun s => loc_ok _ (fun s : ByteArray => atoiV s.data.toList) s
section
variable {E E' : Int} {k : Nat} {one one' : List Fnd → Got Ex} (h1 : LocP k 1 one one')
include h1
theorem more_loc {word : ByteArray} (hw : ∀ r r', Look r r' → skipB word r = skipB word r') : ∀ (n : Nat) (l : List Fnd) (cs : List Ex) (r : List Fnd), l.length ≤ n → moreP word one n l = .ok cs r →
    ∃ m, l = m ++ r ∧ ∀ n' m' r', Eqv m' m → Look r r' → (m' ++ r').length ≤ n' → (m' ++ r').length ≤ k → moreP word one' n' (m' ++ r') = .ok cs r' := by
  intro n
  induction n with
  | zero =>
    intro l cs r hn he
    obtain rfl : l = [] := List.eq_nil_of_length_eq_zero (by omega)
    injection he with a1 a2
    subst a1
    subst a2
    refine ⟨[], rfl, fun n' m' r' e1 e2 _ _ => ?_⟩
    rw [e1.nil, List.nil_append]
    exact moreP_zero (by rw [← hw _ _ e2]; rfl)
  | succ n ih =>
    intro l cs r hn he
    cases hs : skipB word l with
    | false =>
      rw [moreP_zero hs] at he
      injection he with a1 a2
      subst a1
      subst a2
      refine ⟨[], rfl, fun n' m' r' e1 e2 _ _ => ?_⟩
      rw [e1.nil, List.nil_append]
      exact moreP_zero (by rw [← hw _ _ e2]; exact hs)
    | true =>
      have ht := tail_len hs
      rw [moreP_succ hs] at he
      obtain ⟨c, r1, b1, he⟩ := Got.bind_ok he
      obtain ⟨cs2, r2, b2, he⟩ := Got.bind_ok he
      injection he with a1 a2
      subst a1
      subst a2
      cases l with
      | nil => cases hs
      | cons t l =>
      obtain ⟨m1, d1, d2, d3⟩ := h1 _ _ _ b1
      have d2 : l = m1 ++ r1 := d2
      subst d2
      have hl : (m1 ++ r1).length + 1 ≤ n + 1 := hn
      rw [List.length_append] at hl
      obtain ⟨m2, rfl, g3⟩ := ih r1 cs2 r2 (by omega) b2
      refine ⟨t :: (m1 ++ m2), by simp, fun n' m' r' e1 e2 e3 e4 => ?_⟩
      obtain ⟨t', m3, rfl, f1, f2⟩ := e1.cons
      obtain ⟨n1, n2, rfl, f3, f4⟩ := f2.app
      cases n' with
      | zero => simp at e3
      | succ n' =>
        rw [List.cons_append, List.append_assoc] at e3 e4 ⊢
        have hl1 := f3.len
        rw [List.length_cons, List.length_append] at e3 e4
        rw [moreP_succ (by rw [skip_tk f1 word _ (m1 ++ (m2 ++ r2))]; exact hs)]
        show ((one' (n1 ++ (n2 ++ r'))).bind fun c r => (moreP word one' n' r).bind fun cs r2 => .ok (c :: cs) r2) = _
        rw [d3 n1 (n2 ++ r') f3 (Look.app f4 e2) (by rw [List.length_append]; omega)]
        show ((moreP word one' n' (n2 ++ r')).bind fun cs r2 => .ok (c :: cs) r2) = _
        rw [g3 n' n2 r' f4 e2 (by omega) (by omega)]
        rfl
theorem ser_loc {word : ByteArray} (hw : ∀ r r', Look r r' → skipB word r = skipB word r') (op : Int) : LocP k 1 (serP word op one) (serP word op one') := by
  refine LocP.bind (d := 1) (d' := 0) h1 fun c => ?_
  intro l x r he
  obtain ⟨cs, r1, b1, he⟩ := Got.bind_ok he
  injection he with a1 a2
  subst a1
  subst a2
  obtain ⟨m, rfl, hm⟩ := more_loc h1 hw _ _ _ _ (Nat.le_refl _) b1
  refine ⟨m, Nat.zero_le _, rfl, fun m' r' e1 e2 e3 => ?_⟩
  show ((moreP word one' (m' ++ r').length (m' ++ r')).bind fun cs r2 => .ok (oneOf op c cs) r2) = _
  rw [hm _ m' r' e1 e2 (Nat.le_refl _) (by omega)]
  rfl
theorem cond_loc : LocP k 1 (condP one) (condP one') := ser_loc (ser_loc h1 (fun _ _ h => h.2.1) 3) (fun _ _ h => h.2.2) 4
theorem in_loc : LocP (k + 1) 1 (inP E one) (inP E' one') := by
  refine (LocP.bind (d := 1) (d' := 1) (want_loc E E' _ wOpen) fun _ => ?_).mono (Nat.le_refl _) (by omega)
  refine (LocP.bind (d := 1) (d' := 0) (cond_loc h1) fun c => ?_)
  exact (LocP.bind (d := 1) (d' := 0) (want_loc E E' _ wShut) fun _ => loc_ok _ (fun c : Ex => c) c).mono (Nat.le_refl _) (by omega)
theorem within_loc (op : Int) : LocP (k + 1) 1 (withinP E op one) (withinP E' op one') := by
  refine (LocP.bind (d := 1) (d' := 1) (next_loc E E' _ 1 nameB) fun a => ?_).mono (Nat.le_refl _) (by omega)
  exact LocP.bind (d := 1) (d' := 0) ((in_loc (E := E) (E' := E') h1).mono (by omega) (Nat.le_refl _)) fun c => loc_ok _ (fun c : Ex => Ex.mk op a e0 0 0 [c]) c
omit h1
theorem limit_loc : LocP k 1 (limitP E) (limitP E') := by
  refine (LocP.bind (d := 1) (d' := 1) (next_loc E E' _ 1 nameB) fun a => ?_).mono (Nat.le_refl _) (by omega)
  refine LocP.bind (d := 1) (d' := 0) (num_loc E E' _ 0) fun n => ?_
  intro l x r he
  have he' : (if skipB wPlus l then (numP E 0 l.tail).bind fun x r3 => .ok (.mk 5 a e0 n x []) r3 else Got.ok (Ex.mk 5 a e0 n 0 []) l) = .ok x r := he
  split at he'
  · rename_i hs
    cases l with
    | nil => cases hs
    | cons t l =>
      obtain ⟨v, r1, b1, b2⟩ := Got.bind_ok he'
      injection b2 with a1 a2
      subst a1
      subst a2
      obtain ⟨m, d1, d2, d3⟩ := num_loc E E' (k + 1) 0 _ _ _ b1
      have d2 : l = m ++ r1 := d2
      subst d2
      refine ⟨t :: m, Nat.zero_le _, rfl, fun m' r' e1 e2 e3 => ?_⟩
      obtain ⟨t', m2, rfl, f1, f2⟩ := e1.cons
      show (if skipB wPlus (t' :: (m2 ++ r')) then (numP E' 0 (m2 ++ r')).bind fun x r3 => .ok (.mk 5 a e0 n x []) r3 else Got.ok (Ex.mk 5 a e0 n 0 []) _) = _
      rw [if_pos (by rw [skip_tk f1 wPlus _ (m ++ r1)]; exact hs), d3 m2 r' f2 e2 (by rw [List.cons_append, List.length_cons] at e3; omega)]
      rfl
  · rename_i hs
    injection he' with a1 a2
    subst a1
    subst a2
    refine ⟨[], Nat.zero_le _, rfl, fun m' r' e1 e2 _ => ?_⟩
    rw [e1.nil, List.nil_append]
    show (if skipB wPlus r' then _ else Got.ok (Ex.mk 5 a e0 n 0 []) r') = _
    rw [← e2.1, if_neg hs]
theorem over_loc : LocP k 1 (overP E) (overP E') := by
  refine (LocP.bind (d := 1) (d' := 1) (next_loc E E' _ 1 nameB) fun a => ?_).mono (Nat.le_refl _) (by omega)
  exact LocP.bind (d := 1) (d' := 0) (num_loc E E' _ 0) fun n => loc_ok _ (fun n : Int => Ex.mk 6 a e0 n 0 []) n
theorem has_loc : LocP k 1 (hasP E) (hasP E') :=
  LocP.bind (d := 1) (d' := 0) (next_loc E E' _ 1 nameB) fun a => loc_ok _ (fun a : ByteArray => Ex.mk 8 a e0 0 0 []) a
theorem slot_loc : LocP k 1 (slotP E) (slotP E') := by
  refine (LocP.bind (d := 1) (d' := 1) (next_loc E E' _ 1 nameB) fun a => ?_).mono (Nat.le_refl _) (by omega)
  refine (LocP.bind (d := 1) (d' := 1) (want_loc E E' _ wIs) fun _ => ?_).mono (Nat.le_refl _) (by omega)
  exact LocP.bind (d := 1) (d' := 0) (next_loc E E' _ 1 nameB) fun v => loc_ok _ (fun v : ByteArray => Ex.mk 9 a v 0 0 []) v
theorem at_loc : LocP k 1 (atP E) (atP E') := by
  refine (LocP.bind (d := 1) (d' := 1) (want_loc E E' _ wLeast) fun _ => ?_).mono (Nat.le_refl _) (by omega)
  refine (LocP.bind (d := 1) (d' := 1) (num_loc E E' _ 1) fun n => ?_).mono (Nat.le_refl _) (by omega)
  exact LocP.bind (d := 1) (d' := 0) (next_loc E E' _ 1 nameB) fun a => loc_ok _ (fun a : ByteArray => Ex.mk 12 a e0 n 0 []) a
theorem is_loc : LocP k 1 (isP E) (isP E') := by
  refine (LocP.bind (d := 1) (d' := 1) (next_loc E E' _ 1 nameB) fun a => ?_).mono (Nat.le_refl _) (by omega)
  refine (LocP.bind (d := 1) (d' := 1) (want_loc E E' _ wEq) fun _ => ?_).mono (Nat.le_refl _) (by omega)
  exact LocP.bind (d := 1) (d' := 0) (next_loc E E' _ 3 valB) fun v => loc_ok _ (fun v : ByteArray => Ex.mk 7 a v 0 0 []) v
include h1
theorem words_loc {t t' : Fnd} (ht : t'.text = t.text) : LocP k 0 (wordsP E one t) (wordsP E' one' t') := by
  intro l x r he
  unfold wordsP at he
  have key : ∀ {g g' : List Fnd → Got Ex} {d : Nat}, LocP k d g g' → g l = .ok x r → (∀ q, wordsP E' one' t' q = g' q) → ∃ m, 0 ≤ m.length ∧ l = m ++ r ∧ ∀ m' r', Eqv m' m → Look r r' → (m' ++ r').length < k → wordsP E' one' t' (m' ++ r') = .ok x r' := fun hL hg hq => by
    obtain ⟨m, _, h2, h3⟩ := hL l x r hg
    exact ⟨m, Nat.zero_le _, h2, fun m' r' e1 e2 e3 => (hq _).trans (h3 m' r' e1 e2 e3)⟩
  split at he
  · rename_i hx
    exact key (loc_ok k (fun c : Ex => c) (.mk 1 e0 e0 0 0 [])) he fun q => by unfold wordsP; rw [ht, if_pos hx]
  split at he
  · rename_i n1 hx
    exact key (LocP.bind (d := 1) (d' := 0) h1 fun c => loc_ok _ (fun c : Ex => Ex.mk 2 e0 e0 0 0 [c]) c) he fun q => by unfold wordsP; rw [ht, if_neg n1, if_pos hx]
  split at he
  · rename_i n1 n2 hx
    exact key (limit_loc (E := E) (E' := E') (k := k)) he fun q => by unfold wordsP; rw [ht, if_neg n1, if_neg n2, if_pos hx]
  split at he
  · rename_i n1 n2 n3 hx
    exact key (over_loc (E := E) (E' := E') (k := k)) he fun q => by unfold wordsP; rw [ht, if_neg n1, if_neg n2, if_neg n3, if_pos hx]
  split at he
  · rename_i n1 n2 n3 n4 hx
    exact key (has_loc (E := E) (E' := E') (k := k)) he fun q => by unfold wordsP; rw [ht, if_neg n1, if_neg n2, if_neg n3, if_neg n4, if_pos hx]
  split at he
  · rename_i n1 n2 n3 n4 n5 hx
    exact key (slot_loc (E := E) (E' := E') (k := k)) he fun q => by unfold wordsP; rw [ht, if_neg n1, if_neg n2, if_neg n3, if_neg n4, if_neg n5, if_pos hx]
  split at he
  · rename_i n1 n2 n3 n4 n5 n6 hx
    exact key ((within_loc (E := E) (E' := E') h1 10).mono (Nat.le_succ k) (Nat.le_refl _)) he fun q => by unfold wordsP; rw [ht, if_neg n1, if_neg n2, if_neg n3, if_neg n4, if_neg n5, if_neg n6, if_pos hx]
  split at he
  · rename_i n1 n2 n3 n4 n5 n6 n7 hx
    exact key ((within_loc (E := E) (E' := E') h1 11).mono (Nat.le_succ k) (Nat.le_refl _)) he fun q => by unfold wordsP; rw [ht, if_neg n1, if_neg n2, if_neg n3, if_neg n4, if_neg n5, if_neg n6, if_neg n7, if_pos hx]
  split at he
  · rename_i n1 n2 n3 n4 n5 n6 n7 n8 hx
    exact key (at_loc (E := E) (E' := E') (k := k)) he fun q => by unfold wordsP; rw [ht, if_neg n1, if_neg n2, if_neg n3, if_neg n4, if_neg n5, if_neg n6, if_neg n7, if_neg n8, if_pos hx]
  · cases he
theorem not1_loc : LocP (k + 1) 1 (notP1 E one) (notP1 E' one') := by
  intro l x r he
  cases l with
  | nil => cases he
  | cons t l =>
    have he' : (if t.kind = 4 ∧ t.text = wOpen then inP E one (t :: l) else if t.kind = 1 ∧ resB t.text = true then wordsP E one t l else isP E (t :: l)) = .ok x r := he
    have hd : ∀ (m : List Fnd), 1 ≤ m.length → t :: l = m ++ r → ∀ m', Eqv m' m → ∃ t' m2, m' = t' :: m2 ∧ tkOf t' = tkOf t := fun m h2 h3 m' h4 => by
      cases m with
      | nil => cases h2
      | cons u m =>
        obtain ⟨t', m2, rfl, f1, _⟩ := h4.cons
        injection h3 with h3 _
        exact ⟨t', m2, rfl, by rw [h3]; exact f1⟩
    split at he'
    · rename_i hx
      obtain ⟨m, d1, d2, d3⟩ := in_loc (E := E) (E' := E') h1 _ _ _ he'
      refine ⟨m, d1, d2, fun m' r' e1 e2 e3 => ?_⟩
      have h := d3 m' r' e1 e2 e3
      obtain ⟨t', m2, rfl, f1⟩ := hd m d1 d2 m' e1
      show (if t'.kind = 4 ∧ t'.text = wOpen then inP E' one' (t' :: m2 ++ r') else _) = _
      rw [tk_kind f1, tk_text f1, if_pos hx]
      exact h
    · rename_i n1
      split at he'
      · rename_i hx
        obtain ⟨m, d1, rfl, d3⟩ := words_loc (E := E) (E' := E') h1 (t := t) (t' := t) rfl _ _ _ he'
        refine ⟨t :: m, by simp, rfl, fun m' r' e1 e2 e3 => ?_⟩
        obtain ⟨t', m2, rfl, f1, f2⟩ := e1.cons
        obtain ⟨m3, _, e5, e6⟩ := words_loc (E := E) (E' := E') h1 (t := t) (t' := t') (tk_text f1) _ _ _ he'
        obtain rfl := List.append_cancel_right e5
        show (if t'.kind = 4 ∧ t'.text = wOpen then inP E' one' (t' :: m2 ++ r') else if t'.kind = 1 ∧ resB t'.text = true then wordsP E' one' t' (m2 ++ r') else _) = _
        rw [tk_kind f1, tk_text f1, if_neg n1, if_pos hx]
        exact e6 m2 r' f2 e2 (by rw [List.cons_append, List.length_cons] at e3; omega)
      · rename_i hx
        obtain ⟨m, d1, d2, d3⟩ := is_loc (E := E) (E' := E') (k := k + 1) _ _ _ he'
        refine ⟨m, d1, d2, fun m' r' e1 e2 e3 => ?_⟩
        have h := d3 m' r' e1 e2 e3
        obtain ⟨t', m2, rfl, f1⟩ := hd m d1 d2 m' e1
        show (if t'.kind = 4 ∧ t'.text = wOpen then inP E' one' (t' :: m2 ++ r') else if t'.kind = 1 ∧ resB t'.text = true then wordsP E' one' t' (m2 ++ r') else isP E' (t' :: m2 ++ r')) = _
        rw [tk_kind f1, tk_text f1, if_neg n1, if_neg hx]
        exact h
end
theorem not_loc (E E' : Int) : ∀ k k' : Nat, LocP k' 1 (notP E k) (notP E' k')
  | 0, _ => fun l x r he => by cases he
  | k + 1, k' + 1 => not1_loc (not_loc E E' k k')
  | k + 1, 0 => fun l x r he => by
    obtain ⟨m, d1, d2, _⟩ := not1_loc (E := E) (E' := E') (not_loc E E' k 0) l x r he
    exact ⟨m, d1, d2, fun m' r' _ _ h => absurd h (Nat.not_lt_zero _)⟩
end Go.Proofs.YtppoeiofdmlpeaaDoor
namespace Go.Proofs.YtppoeiofdmlpeaaDoor
open Go Go.RowKit
/-- A reading with an error at a token has it with whatever follows this token. -/
def ErrF {α : Type} (δ : Nat) (g : List Fnd → Got α) (g' : Nat → List Fnd → Got α) : Prop := ∀ l e a, g l = .bad e a → e = 8 ∨ e = 13 →
  ∃ m t s, l = m ++ t :: s ∧ a = t.pos ∧ ∀ k m' t' s', Eqv m' m → tkOf t' = tkOf t → (m' ++ t' :: s').length < k + δ → g' k (m' ++ t' :: s') = .bad e t'.pos
def LocF {α : Type} (δ d : Nat) (g : List Fnd → Got α) (g' : Nat → List Fnd → Got α) : Prop := ∀ k, LocP (k + δ) d g (g' k)
theorem ErrF.down {α : Type} {δ δ' : Nat} {g : List Fnd → Got α} {g' : Nat → List Fnd → Got α} (h : ErrF δ g g') (hd : δ' ≤ δ) : ErrF δ' g g' := fun l e a hg he => by
  obtain ⟨m, t, s, h1, h2, h3⟩ := h l e a hg he
  exact ⟨m, t, s, h1, h2, fun k m' t' s' e1 e2 e3 => h3 k m' t' s' e1 e2 (by omega)⟩
theorem ErrF.bind {α β : Type} {δ δ' d : Nat} {g : List Fnd → Got α} {g' : Nat → List Fnd → Got α} {f : α → List Fnd → Got β} {f' : Nat → α → List Fnd → Got β} (hl : LocF δ d g g') (he : ErrF δ g g') (hf : ∀ x, ErrF δ' (f x) (fun k => f' k x)) (hδ : δ ≤ δ' + d) :
    ErrF δ (fun l => (g l).bind f) (fun k l => (g' k l).bind (f' k)) := by
  intro l e a hb h8
  have hb' : (g l).bind f = .bad e a := hb
  cases hg : g l with
  | bad e1 a1 =>
    rw [hg] at hb'
    injection hb' with a1' a2'
    subst a1'
    subst a2'
    obtain ⟨m, t, s, h1, h2, h3⟩ := he l e1 a1 hg h8
    exact ⟨m, t, s, h1, h2, fun k m' t' s' e1 e2 e3 => by show (g' k (m' ++ t' :: s')).bind (f' k) = _; rw [h3 k m' t' s' e1 e2 e3]; rfl⟩
  | ok y r1 =>
    rw [hg] at hb'
    obtain ⟨m2, t, s, rfl, h2, h3⟩ := hf y r1 e a hb' h8
    obtain ⟨m1, _, rfl, _⟩ := hl 0 l y _ hg
    refine ⟨m1 ++ m2, t, s, by rw [List.append_assoc], h2, fun k m' t' s' e1 e2 e3 => ?_⟩
    obtain ⟨n1, n2, rfl, f1, f2⟩ := e1.app
    obtain ⟨m1b, q0, q1, q2⟩ := hl k _ y _ hg
    obtain rfl := List.append_cancel_right q1
    rw [List.append_assoc] at e3 ⊢
    show (g' k (n1 ++ (n2 ++ t' :: s'))).bind (f' k) = _
    rw [q2 n1 (n2 ++ t' :: s') f1 (Look.app f2 (Look.cons e2.symm _ _)) e3]
    exact h3 k n2 t' s' f2 e2 (by have := f1.len; rw [List.length_append] at e3; omega)
theorem ok_err {α β : Type} (δ : Nat) (φ : α → β) (x : α) : ErrF δ (fun r => Got.ok (φ x) r) (fun _ r => Got.ok (φ x) r) := fun l e a h => by cases h
theorem want_err (E E' : Int) (δ : Nat) (s : ByteArray) : ErrF δ (wantP E s) (fun _ => wantP E' s) := by
  intro l e a hb h8
  cases l with
  | nil =>
    injection (show Got.bad (α := Unit) 9 E = .bad e a from hb) with a1 _
    subst a1
    omega
  | cons t r =>
    unfold wantP at hb
    split at hb
    · cases hb
    · rename_i hs
      injection (show Got.bad (α := Unit) 8 t.pos = .bad e a from hb) with a1 a2
      subst a1
      subst a2
      refine ⟨[], t, r, rfl, rfl, fun k m' t' s' e1 e2 _ => ?_⟩
      rw [e1.nil]
      show wantP E' s (t' :: s') = _
      unfold wantP
      rw [if_neg (by rw [skip_tk e2 s s' r]; exact hs)]
      rfl
theorem next_err (E E' : Int) (δ : Nat) (kind : Int) (c : ByteArray → Bool) : ErrF δ (nextP E kind c) (fun _ => nextP E' kind c) := by
  intro l e a hb h8
  cases l with
  | nil =>
    injection (show Got.bad (α := ByteArray) 9 E = .bad e a from hb) with a1 _
    subst a1
    omega
  | cons t r =>
    have hb' : (if t.kind = kind then (if c t.text then Got.ok t.text r else .bad 13 t.pos) else .bad 8 t.pos) = .bad e a := hb
    have hk : ∀ (t' : Fnd) (s' : List Fnd), nextP E' kind c (t' :: s') = (if t'.kind = kind then (if c t'.text then Got.ok t'.text s' else .bad 13 t'.pos) else .bad 8 t'.pos) := fun _ _ => rfl
    split at hb'
    · rename_i h1
      split at hb'
      · cases hb'
      · rename_i h2
        injection hb' with a1 a2
        subst a1
        subst a2
        refine ⟨[], t, r, rfl, rfl, fun k m' t' s' e1 e2 _ => ?_⟩
        rw [e1.nil, List.nil_append]
        show nextP E' kind c (t' :: s') = _
        rw [hk, tk_kind e2, tk_text e2, if_pos h1, if_neg h2]
    · rename_i h1
      injection hb' with a1 a2
      subst a1
      subst a2
      refine ⟨[], t, r, rfl, rfl, fun k m' t' s' e1 e2 _ => ?_⟩
      rw [e1.nil, List.nil_append]
      show nextP E' kind c (t' :: s') = _
      rw [hk, tk_kind e2, if_neg h1]
theorem num_err (E E' : Int) (δ : Nat) (low : Int) : ErrF δ (numP E low) (fun _ => numP E' low) :=
  ErrF.bind (δ' := δ) (d := 1) (fun k => next_loc E E' _ 2 (numB low)) (next_err E E' δ 2 (numB low)) (fun s => ok_err δ (fun s : ByteArray => atoiV s.data.toList) s) (by omega)
section
variable {E E' : Int} {one : List Fnd → Got Ex} {one' : Nat → List Fnd → Got Ex} (hl : LocF 0 1 one one') (he : ErrF 0 one one')
include hl he
theorem more_err {word : ByteArray} (_hw : ∀ r r', Look r r' → skipB word r = skipB word r') : ∀ (n : Nat) (l : List Fnd) (e a : Int), l.length ≤ n → moreP word one n l = .bad e a → e = 8 ∨ e = 13 →
    ∃ m t s, l = m ++ t :: s ∧ a = t.pos ∧ ∀ k n' m' t' s', Eqv m' m → tkOf t' = tkOf t → (m' ++ t' :: s').length ≤ n' → (m' ++ t' :: s').length ≤ k → moreP word (one' k) n' (m' ++ t' :: s') = .bad e t'.pos := by
  intro n
  induction n with
  | zero => intro l e a hn hb; cases hb
  | succ n ih =>
    intro l e a hn hb h8
    cases hs : skipB word l with
    | false => rw [moreP_zero hs] at hb; cases hb
    | true =>
      have ht := tail_len hs
      rw [moreP_succ hs] at hb
      cases l with
      | nil => cases hs
      | cons u l =>
      have hb' : ((one l).bind fun c r => (moreP word one n r).bind fun cs r2 => .ok (c :: cs) r2) = .bad e a := hb
      cases hg : one l with
      | bad e1 a1 =>
        rw [hg] at hb'
        injection hb' with x1 x2
        subst x1
        subst x2
        obtain ⟨m, t, s, rfl, h2, h3⟩ := he l e1 a1 hg h8
        refine ⟨u :: m, t, s, rfl, h2, fun k n' m' t' s' q1 q2 q3 q4 => ?_⟩
        obtain ⟨u', m2, rfl, f1, f2⟩ := q1.cons
        cases n' with
        | zero => simp at q3
        | succ n' =>
          rw [List.cons_append, List.length_cons] at q4
          rw [List.cons_append, moreP_succ (by rw [skip_tk f1 word _ (m ++ t :: s)]; exact hs)]
          show ((one' k (m2 ++ t' :: s')).bind _) = _
          rw [h3 k m2 t' s' f2 q2 (by omega)]
          rfl
      | ok c r1 =>
        rw [hg] at hb'
        have hb2 : ((moreP word one n r1).bind fun cs r2 => .ok (c :: cs) r2) = .bad e a := hb'
        cases hg2 : moreP word one n r1 with
        | ok cs r2 => rw [hg2] at hb2; cases hb2
        | bad e1 a1 =>
          rw [hg2] at hb2
          injection hb2 with x1 x2
          subst x1
          subst x2
          obtain ⟨m1, d1, d2, _⟩ := hl 0 l c r1 hg
          subst d2
          have hlen : (m1 ++ r1).length + 1 ≤ n + 1 := hn
          rw [List.length_append] at hlen
          obtain ⟨m2, t, s, rfl, h2, h3⟩ := ih r1 e1 a1 (by omega) hg2 h8
          refine ⟨u :: (m1 ++ m2), t, s, by simp, h2, fun k n' m' t' s' q1 q2 q3 q4 => ?_⟩
          obtain ⟨u', m3, rfl, f1, f2⟩ := q1.cons
          obtain ⟨n1, n2, rfl, f3, f4⟩ := f2.app
          have hl1 := f3.len
          cases n' with
          | zero => simp at q3
          | succ n' =>
            rw [List.cons_append, List.append_assoc] at q3 q4 ⊢
            rw [List.length_cons, List.length_append] at q3 q4
            rw [moreP_succ (by rw [skip_tk f1 word _ (m1 ++ (m2 ++ t :: s))]; exact hs)]
            obtain ⟨m1b, _, y1, y2⟩ := hl k _ c _ hg
            obtain rfl := List.append_cancel_right y1
            show ((one' k (n1 ++ (n2 ++ t' :: s'))).bind fun c r => (moreP word (one' k) n' r).bind fun cs r2 => .ok (c :: cs) r2) = _
            rw [y2 n1 (n2 ++ t' :: s') f3 (Look.app f4 (Look.cons q2.symm _ _)) (by rw [List.length_append]; omega)]
            show ((moreP word (one' k) n' (n2 ++ t' :: s')).bind fun cs r2 => .ok (c :: cs) r2) = _
            rw [h3 k n' n2 t' s' f4 q2 (by omega) (by omega)]
            rfl
theorem ser_err {word : ByteArray} (hw : ∀ r r', Look r r' → skipB word r = skipB word r') (op : Int) : ErrF 0 (serP word op one) (fun k => serP word op (one' k)) := by
  refine ErrF.bind (δ' := 0) (d := 1) (f' := fun k c r => (moreP word (one' k) r.length r).bind fun cs r2 => .ok (oneOf op c cs) r2) hl he (fun c => ?_) (by omega)
  intro l e a hb h8
  have hb' : ((moreP word one l.length l).bind fun cs r2 => .ok (oneOf op c cs) r2) = .bad e a := hb
  cases hg : moreP word one l.length l with
  | ok cs r2 => rw [hg] at hb'; cases hb'
  | bad e1 a1 =>
    rw [hg] at hb'
    injection hb' with x1 x2
    subst x1
    subst x2
    obtain ⟨m, t, s, h1, h2, h3⟩ := more_err hl he hw _ l e1 a1 (Nat.le_refl _) hg h8
    refine ⟨m, t, s, h1, h2, fun k m' t' s' q1 q2 q3 => ?_⟩
    show ((moreP word (one' k) (m' ++ t' :: s').length (m' ++ t' :: s')).bind _) = _
    rw [h3 k _ m' t' s' q1 q2 (Nat.le_refl _) (by omega)]
    rfl
omit he in
theorem ser_locF {word : ByteArray} (hw : ∀ r r', Look r r' → skipB word r = skipB word r') (op : Int) : LocF 0 1 (serP word op one) (fun k => serP word op (one' k)) := fun k => ser_loc (hl k) hw op
theorem cond_err : ErrF 0 (condP one) (fun k => condP (one' k)) :=
  ser_err (ser_locF hl (fun _ _ h => h.2.1) 3) (ser_err hl he (fun _ _ h => h.2.1) 3) (fun _ _ h => h.2.2) 4
theorem in_err : ErrF 1 (inP E one) (fun k => inP E' (one' k)) := by
  refine ErrF.bind (δ' := 0) (d := 1) (f' := fun k _ r => (condP (one' k) r).bind fun c r2 => (wantP E' wShut r2).bind fun _ r3 => .ok c r3) (fun k => want_loc E E' _ wOpen) (want_err E E' 1 wOpen) (fun _ => ?_) (by omega)
  refine ErrF.bind (δ' := 0) (d := 1) (f' := fun k c r2 => (wantP E' wShut r2).bind fun _ r3 => .ok c r3) (fun k => cond_loc (hl k)) (cond_err hl he) (fun c => ?_) (by omega)
  exact ErrF.bind (δ' := 0) (d := 1) (fun k => want_loc E E' _ wShut) (want_err E E' 0 wShut) (fun _ => ok_err 0 (fun c : Ex => c) c) (by omega)
theorem within_err (op : Int) : ErrF 1 (withinP E op one) (fun k => withinP E' op (one' k)) := by
  refine ErrF.bind (δ' := 1) (d := 1) (f' := fun k a r => (inP E' (one' k) r).bind fun c r2 => Got.ok (Ex.mk op a e0 0 0 [c]) r2) (fun k => next_loc E E' _ 1 nameB) (next_err E E' 1 1 nameB) (fun a => ?_) (by omega)
  exact ErrF.bind (δ' := 1) (d := 1) (fun k => in_loc (hl k)) (in_err hl he) (fun c => ok_err 1 (fun c : Ex => Ex.mk op a e0 0 0 [c]) c) (by omega)
omit hl he
theorem limit_err (δ : Nat) : ErrF δ (limitP E) (fun _ => limitP E') := by
  refine ErrF.bind (δ' := δ) (d := 1) (f' := fun _ a r => (numP E' 0 r).bind fun n r2 => if skipB wPlus r2 then (numP E' 0 r2.tail).bind fun x r3 => Got.ok (Ex.mk 5 a e0 n x []) r3 else Got.ok (Ex.mk 5 a e0 n 0 []) r2) (fun k => next_loc E E' _ 1 nameB) (next_err E E' δ 1 nameB) (fun a => ?_) (by omega)
  refine ErrF.bind (δ' := δ) (d := 1) (f' := fun _ n r2 => if skipB wPlus r2 then (numP E' 0 r2.tail).bind fun x r3 => Got.ok (Ex.mk 5 a e0 n x []) r3 else Got.ok (Ex.mk 5 a e0 n 0 []) r2) (fun k => num_loc E E' _ 0) (num_err E E' δ 0) (fun n => ?_) (by omega)
  intro l e b hb h8
  have hb' : (if skipB wPlus l then (numP E 0 l.tail).bind fun x r3 => Got.ok (Ex.mk 5 a e0 n x []) r3 else Got.ok (Ex.mk 5 a e0 n 0 []) l) = .bad e b := hb
  split at hb'
  · rename_i hs
    cases l with
    | nil => cases hs
    | cons u l =>
      cases hg : numP E 0 l with
      | ok v r => rw [show (u :: l).tail = l from rfl, hg] at hb'; cases hb'
      | bad e1 a1 =>
        rw [show (u :: l).tail = l from rfl, hg] at hb'
        injection hb' with x1 x2
        subst x1
        subst x2
        obtain ⟨m, t, s, rfl, h2, h3⟩ := num_err E E' (δ + 1) 0 l e1 a1 hg h8
        refine ⟨u :: m, t, s, rfl, h2, fun k m' t' s' q1 q2 q3 => ?_⟩
        obtain ⟨u', m2, rfl, f1, f2⟩ := q1.cons
        show (if skipB wPlus (u' :: (m2 ++ t' :: s')) then (numP E' 0 (m2 ++ t' :: s')).bind fun x r3 => Got.ok (Ex.mk 5 a e0 n x []) r3 else Got.ok (Ex.mk 5 a e0 n 0 []) _) = _
        rw [if_pos (by rw [skip_tk f1 wPlus _ (m ++ t :: s)]; exact hs), show numP E' 0 (m2 ++ t' :: s') = _ from h3 k m2 t' s' f2 q2 (by rw [List.cons_append, List.length_cons] at q3; omega)]
        rfl
  · cases hb'
theorem over_err (δ : Nat) : ErrF δ (overP E) (fun _ => overP E') := by
  refine ErrF.bind (δ' := δ) (d := 1) (f' := fun _ a r => (numP E' 0 r).bind fun n r2 => Got.ok (Ex.mk 6 a e0 n 0 []) r2) (fun k => next_loc E E' _ 1 nameB) (next_err E E' δ 1 nameB) (fun a => ?_) (by omega)
  exact ErrF.bind (δ' := δ) (d := 1) (fun k => num_loc E E' _ 0) (num_err E E' δ 0) (fun n => ok_err δ (fun n : Int => Ex.mk 6 a e0 n 0 []) n) (by omega)
theorem has_err (δ : Nat) : ErrF δ (hasP E) (fun _ => hasP E') :=
  ErrF.bind (δ' := δ) (d := 1) (fun k => next_loc E E' _ 1 nameB) (next_err E E' δ 1 nameB) (fun a => ok_err δ (fun a : ByteArray => Ex.mk 8 a e0 0 0 []) a) (by omega)
theorem slot_err (δ : Nat) : ErrF δ (slotP E) (fun _ => slotP E') := by
  refine ErrF.bind (δ' := δ) (d := 1) (f' := fun _ a r => (wantP E' wIs r).bind fun _ r2 => (nameP E' r2).bind fun v r3 => Got.ok (Ex.mk 9 a v 0 0 []) r3) (fun k => next_loc E E' _ 1 nameB) (next_err E E' δ 1 nameB) (fun a => ?_) (by omega)
  refine ErrF.bind (δ' := δ) (d := 1) (f' := fun _ _ r2 => (nameP E' r2).bind fun v r3 => Got.ok (Ex.mk 9 a v 0 0 []) r3) (fun k => want_loc E E' _ wIs) (want_err E E' δ wIs) (fun _ => ?_) (by omega)
  exact ErrF.bind (δ' := δ) (d := 1) (fun k => next_loc E E' _ 1 nameB) (next_err E E' δ 1 nameB) (fun v => ok_err δ (fun v : ByteArray => Ex.mk 9 a v 0 0 []) v) (by omega)
theorem at_err (δ : Nat) : ErrF δ (atP E) (fun _ => atP E') := by
  refine ErrF.bind (δ' := δ) (d := 1) (f' := fun _ _ r => (numP E' 1 r).bind fun n r2 => (nameP E' r2).bind fun a r3 => Got.ok (Ex.mk 12 a e0 n 0 []) r3) (fun k => want_loc E E' _ wLeast) (want_err E E' δ wLeast) (fun _ => ?_) (by omega)
  refine ErrF.bind (δ' := δ) (d := 1) (f' := fun _ n r2 => (nameP E' r2).bind fun a r3 => Got.ok (Ex.mk 12 a e0 n 0 []) r3) (fun k => num_loc E E' _ 1) (num_err E E' δ 1) (fun n => ?_) (by omega)
  exact ErrF.bind (δ' := δ) (d := 1) (fun k => next_loc E E' _ 1 nameB) (next_err E E' δ 1 nameB) (fun a => ok_err δ (fun a : ByteArray => Ex.mk 12 a e0 n 0 []) a) (by omega)
theorem is_err (δ : Nat) : ErrF δ (isP E) (fun _ => isP E') := by
  refine ErrF.bind (δ' := δ) (d := 1) (f' := fun _ a r => (wantP E' wEq r).bind fun _ r2 => (nextP E' 3 valB r2).bind fun v r3 => Got.ok (Ex.mk 7 a v 0 0 []) r3) (fun k => next_loc E E' _ 1 nameB) (next_err E E' δ 1 nameB) (fun a => ?_) (by omega)
  refine ErrF.bind (δ' := δ) (d := 1) (f' := fun _ _ r2 => (nextP E' 3 valB r2).bind fun v r3 => Got.ok (Ex.mk 7 a v 0 0 []) r3) (fun k => want_loc E E' _ wEq) (want_err E E' δ wEq) (fun _ => ?_) (by omega)
  exact ErrF.bind (δ' := δ) (d := 1) (fun k => next_loc E E' _ 3 valB) (next_err E E' δ 3 valB) (fun v => ok_err δ (fun v : ByteArray => Ex.mk 7 a v 0 0 []) v) (by omega)
include hl he
/-- An error behind a reserved word; or at it. -/
theorem words_err {t : Fnd} {l : List Fnd} {e a : Int} (hb : wordsP E one t l = .bad e a) (h8 : e = 8 ∨ e = 13) :
    (a = t.pos ∧ ∀ (k : Nat) (t' : Fnd) (q : List Fnd), tkOf t' = tkOf t → wordsP E' (one' k) t' q = .bad e t'.pos) ∨
    ∃ m u s, l = m ++ u :: s ∧ a = u.pos ∧ ∀ k t' m' u' s', tkOf t' = tkOf t → Eqv m' m → tkOf u' = tkOf u → (m' ++ u' :: s').length < k → wordsP E' (one' k) t' (m' ++ u' :: s') = .bad e u'.pos := by
  unfold wordsP at hb
  have key : ∀ {g : List Fnd → Got Ex} {g' : Nat → List Fnd → Got Ex}, ErrF 0 g g' → g l = .bad e a → (∀ k t' q, tkOf t' = tkOf t → wordsP E' (one' k) t' q = g' k q) → ∃ m u s, l = m ++ u :: s ∧ a = u.pos ∧ ∀ k t' m' u' s', tkOf t' = tkOf t → Eqv m' m → tkOf u' = tkOf u → (m' ++ u' :: s').length < k → wordsP E' (one' k) t' (m' ++ u' :: s') = .bad e u'.pos := fun hL hg hq => by
    obtain ⟨m, u, s, h1, h2, h3⟩ := hL l e a hg h8
    exact ⟨m, u, s, h1, h2, fun k t' m' u' s' e1 e2 e3 e4 => (hq k t' _ e1).trans (h3 k m' u' s' e2 e3 e4)⟩
  split at hb
  · cases hb
  split at hb
  · rename_i n1 hx
    exact .inr (key (ErrF.bind (δ' := 0) (d := 1) (f' := fun _ c r2 => Got.ok (Ex.mk 2 e0 e0 0 0 [c]) r2) hl he (fun c => ok_err 0 (fun c : Ex => Ex.mk 2 e0 e0 0 0 [c]) c) (by omega)) hb fun k t' q ht => by unfold wordsP; rw [tk_text ht, if_neg n1, if_pos hx])
  split at hb
  · rename_i n1 n2 hx
    exact .inr (key (limit_err (E := E) (E' := E') 0) hb fun k t' q ht => by unfold wordsP; rw [tk_text ht, if_neg n1, if_neg n2, if_pos hx])
  split at hb
  · rename_i n1 n2 n3 hx
    exact .inr (key (over_err (E := E) (E' := E') 0) hb fun k t' q ht => by unfold wordsP; rw [tk_text ht, if_neg n1, if_neg n2, if_neg n3, if_pos hx])
  split at hb
  · rename_i n1 n2 n3 n4 hx
    exact .inr (key (has_err (E := E) (E' := E') 0) hb fun k t' q ht => by unfold wordsP; rw [tk_text ht, if_neg n1, if_neg n2, if_neg n3, if_neg n4, if_pos hx])
  split at hb
  · rename_i n1 n2 n3 n4 n5 hx
    exact .inr (key (slot_err (E := E) (E' := E') 0) hb fun k t' q ht => by unfold wordsP; rw [tk_text ht, if_neg n1, if_neg n2, if_neg n3, if_neg n4, if_neg n5, if_pos hx])
  split at hb
  · rename_i n1 n2 n3 n4 n5 n6 hx
    exact .inr (key ((within_err (E := E) (E' := E') hl he 10).down (Nat.zero_le _)) hb fun k t' q ht => by unfold wordsP; rw [tk_text ht, if_neg n1, if_neg n2, if_neg n3, if_neg n4, if_neg n5, if_neg n6, if_pos hx])
  split at hb
  · rename_i n1 n2 n3 n4 n5 n6 n7 hx
    exact .inr (key ((within_err (E := E) (E' := E') hl he 11).down (Nat.zero_le _)) hb fun k t' q ht => by unfold wordsP; rw [tk_text ht, if_neg n1, if_neg n2, if_neg n3, if_neg n4, if_neg n5, if_neg n6, if_neg n7, if_pos hx])
  split at hb
  · rename_i n1 n2 n3 n4 n5 n6 n7 n8 hx
    exact .inr (key (at_err (E := E) (E' := E') 0) hb fun k t' q ht => by unfold wordsP; rw [tk_text ht, if_neg n1, if_neg n2, if_neg n3, if_neg n4, if_neg n5, if_neg n6, if_neg n7, if_neg n8, if_pos hx])
  · rename_i n1 n2 n3 n4 n5 n6 n7 n8 n9
    injection hb with a1 a2
    subst a1
    exact .inl ⟨a2.symm, fun k t' q ht => by unfold wordsP; rw [tk_text ht, if_neg n1, if_neg n2, if_neg n3, if_neg n4, if_neg n5, if_neg n6, if_neg n7, if_neg n8, if_neg n9]⟩
theorem not1_err : ErrF 1 (notP1 E one) (fun k => notP1 E' (one' k)) := by
  intro l e a hb h8
  cases l with
  | nil =>
    injection (show Got.bad (α := Ex) 9 E = .bad e a from hb) with a1 _
    subst a1
    omega
  | cons t l =>
    have hb' : (if t.kind = 4 ∧ t.text = wOpen then inP E one (t :: l) else if t.kind = 1 ∧ resB t.text = true then wordsP E one t l else isP E (t :: l)) = .bad e a := hb
    have hu : ∀ (k : Nat) (t' : Fnd) (q : List Fnd), tkOf t' = tkOf t → notP1 E' (one' k) (t' :: q) = (if t.kind = 4 ∧ t.text = wOpen then inP E' (one' k) (t' :: q) else if t.kind = 1 ∧ resB t.text = true then wordsP E' (one' k) t' q else isP E' (t' :: q)) := fun k t' q ht => by
      show (if t'.kind = 4 ∧ t'.text = wOpen then inP E' (one' k) (t' :: q) else if t'.kind = 1 ∧ resB t'.text = true then wordsP E' (one' k) t' q else isP E' (t' :: q)) = _
      rw [tk_kind ht, tk_text ht]
    have hd : ∀ (m : List Fnd) (u : Fnd) (s : List Fnd), t :: l = m ++ u :: s → ∀ m' u' s', Eqv m' m → tkOf u' = tkOf u → ∃ t' q, m' ++ u' :: s' = t' :: q ∧ tkOf t' = tkOf t := fun m u s h3 m' u' s' h4 h5 => by
      cases m with
      | nil =>
        rw [h4.nil]
        injection h3 with h3 _
        exact ⟨u', s', rfl, by rw [h3]; exact h5⟩
      | cons v m =>
        obtain ⟨t', m2, rfl, f1, _⟩ := h4.cons
        injection h3 with h3 _
        exact ⟨t', m2 ++ u' :: s', rfl, by rw [h3]; exact f1⟩
    split at hb'
    · rename_i hx
      obtain ⟨m, u, s, h1, h2, h3⟩ := in_err (E := E) (E' := E') hl he _ _ _ hb' h8
      refine ⟨m, u, s, h1, h2, fun k m' u' s' e1 e2 e3 => ?_⟩
      have h := h3 k m' u' s' e1 e2 e3
      obtain ⟨t', q, hq, f1⟩ := hd m u s h1 m' u' s' e1 e2
      rw [hq] at h ⊢
      refine (hu k t' q f1).trans ?_
      rw [if_pos hx]
      exact h
    · rename_i n1
      split at hb'
      · rename_i hx
        rcases words_err (E := E) (E' := E') hl he hb' h8 with ⟨h1, h2⟩ | ⟨m, u, s, rfl, h2, h3⟩
        · refine ⟨[], t, l, rfl, h1, fun k m' u' s' e1 e2 e3 => ?_⟩
          rw [e1.nil, List.nil_append]
          refine (hu k u' s' e2).trans ?_
          rw [if_neg n1, if_pos hx]
          exact h2 k u' s' e2
        · refine ⟨t :: m, u, s, rfl, h2, fun k m' u' s' e1 e2 e3 => ?_⟩
          obtain ⟨t', m2, rfl, f1, f2⟩ := e1.cons
          rw [List.cons_append]
          refine (hu k t' _ f1).trans ?_
          rw [if_neg n1, if_pos hx]
          exact h3 k t' m2 u' s' f1 f2 e2 (by rw [List.cons_append, List.length_cons] at e3; omega)
      · rename_i hx
        obtain ⟨m, u, s, h1, h2, h3⟩ := is_err (E := E) (E' := E') 1 _ _ _ hb' h8
        refine ⟨m, u, s, h1, h2, fun k m' u' s' e1 e2 e3 => ?_⟩
        have h := h3 k m' u' s' e1 e2 e3
        obtain ⟨t', q, hq, f1⟩ := hd m u s h1 m' u' s' e1 e2
        rw [hq] at h ⊢
        refine (hu k t' q f1).trans ?_
        rw [if_neg n1, if_neg hx]
        exact h
end
theorem not_err (E E' : Int) : ∀ K : Nat, ErrF 0 (notP E K) (fun k => notP E' k)
  | 0 => fun l e a hb h8 => by
    injection (show Got.bad (α := Ex) 0 0 = .bad e a from hb) with a1 _
    subst a1
    omega
  | K + 1 => fun l e a hb h8 => by
    obtain ⟨m, t, s, h1, h2, h3⟩ := not1_err (E := E) (E' := E') (fun k => not_loc E E' K k) (not_err E E' K) l e a hb h8
    refine ⟨m, t, s, h1, h2, fun k m' t' s' e1 e2 e3 => ?_⟩
    cases k with
    | zero => omega
    | succ k => exact h3 k m' t' s' e1 e2 e3
end Go.Proofs.YtppoeiofdmlpeaaDoor
namespace Go.Proofs.YtppoeiofdmlpeaaDoor
open Go Go.RowKit
theorem Got.bind_assoc {α β γ : Type} (g : Got α) (f : α → List Fnd → Got β) (h : β → List Fnd → Got γ) : (g.bind f).bind h = g.bind fun x r => (f x r).bind h := by cases g <;> rfl
/-- The first five tokens of a rule. -/
def hdP (E : Int) (l : List Fnd) : Got (ByteArray × ByteArray) :=
  (wantP E wRule l).bind fun _ r => (nameP E r).bind fun a r1 => (wantP E wFor r1).bind fun _ r2 => (nameP E r2).bind fun b r3 => (wantP E wColon r3).bind fun _ r4 => .ok (a, b) r4
/-- The rest of a rule. -/
def tlP (E : Int) (one : List Fnd → Got Ex) (ab : ByteArray × ByteArray) (r4 : List Fnd) : Got Ru :=
  (condP one r4).bind fun c r5 => (wantP E wSemi r5).bind fun _ r6 => match r6 with
    | [] => .ok ⟨ab.1, ab.2, c⟩ []
    | t :: _ => .bad 8 t.pos
theorem ruleP_eq (E : Int) (l : List Fnd) : ruleP E l = (hdP E l).bind (tlP E (notP E (l.length + 1))) := by
  unfold ruleP hdP
  rw [Got.bind_assoc]
  congr 1
  funext _ r
  rw [Got.bind_assoc]
  congr 1
  funext a r1
  rw [Got.bind_assoc]
  congr 1
  funext _ r2
  rw [Got.bind_assoc]
  congr 1
  funext b r3
  rw [Got.bind_assoc]
  rfl
theorem want_ok {E : Int} {s : ByteArray} {l r : List Fnd} {u : Unit} (h : wantP E s l = .ok u r) : ∃ t, l = t :: r ∧ ∀ E' t' r', tkOf t' = tkOf t → wantP E' s (t' :: r') = .ok () r' := by
  obtain ⟨m, h1, h2, h3⟩ := want_loc E E 0 s l u r h
  cases l with
  | nil => cases h
  | cons t l =>
    have h4 := (wantP_len h).2
    have h4 : r = l := h4
    subst h4
    refine ⟨t, rfl, fun E' t' r' e => ?_⟩
    unfold wantP at h ⊢
    split at h
    · rename_i hs
      rw [skip_tk e s r' r, if_pos hs]
      rfl
    · cases h
theorem name_ok {E : Int} {l r : List Fnd} {a : ByteArray} (h : nameP E l = .ok a r) : ∃ t, l = t :: r ∧ ∀ E' t' r', tkOf t' = tkOf t → nameP E' (t' :: r') = .ok a r' := by
  cases l with
  | nil => cases h
  | cons t l =>
    have h' : (if t.kind = 1 then (if nameB t.text then Got.ok t.text l else .bad 13 t.pos) else .bad 8 t.pos) = .ok a r := h
    split at h'
    · rename_i h1
      split at h'
      · rename_i h2
        injection h' with h3 h4
        subst h3
        subst h4
        refine ⟨t, rfl, fun E' t' r' e => ?_⟩
        show (if t'.kind = 1 then (if nameB t'.text then Got.ok t'.text r' else .bad 13 t'.pos) else .bad 8 t'.pos) = _
        rw [tk_kind e, tk_text e, if_pos h1, if_pos h2]
      · cases h'
    · cases h'
/-- The first five tokens, whatever follows. -/
theorem hd_ok {E : Int} {l r : List Fnd} {ab : ByteArray × ByteArray} (h : hdP E l = .ok ab r) : ∃ m, m.length = 5 ∧ l = m ++ r ∧ ∀ E' m' r', Eqv m' m → hdP E' (m' ++ r') = .ok ab r' := by
  obtain ⟨_, r1, h1, h⟩ := Got.bind_ok h
  obtain ⟨a, r2, h2, h⟩ := Got.bind_ok h
  obtain ⟨_, r3, h3, h⟩ := Got.bind_ok h
  obtain ⟨b, r4, h4, h⟩ := Got.bind_ok h
  obtain ⟨_, r5, h5, h⟩ := Got.bind_ok h
  injection h with h6 h7
  subst h6
  subst h7
  obtain ⟨t1, rfl, g1⟩ := want_ok h1
  obtain ⟨t2, rfl, g2⟩ := name_ok h2
  obtain ⟨t3, rfl, g3⟩ := want_ok h3
  obtain ⟨t4, rfl, g4⟩ := name_ok h4
  obtain ⟨t5, rfl, g5⟩ := want_ok h5
  refine ⟨[t1, t2, t3, t4, t5], rfl, rfl, fun E' m' r' e => ?_⟩
  obtain ⟨u1, m1, rfl, e1, e⟩ := e.cons
  obtain ⟨u2, m2, rfl, e2, e⟩ := e.cons
  obtain ⟨u3, m3, rfl, e3, e⟩ := e.cons
  obtain ⟨u4, m4, rfl, e4, e⟩ := e.cons
  obtain ⟨u5, m5, rfl, e5, e⟩ := e.cons
  rw [e.nil]
  unfold hdP
  simp only [List.cons_append, List.nil_append]
  rw [g1 E' u1 _ e1]
  show (nameP E' (u2 :: u3 :: u4 :: u5 :: r')).bind _ = _
  rw [g2 E' u2 _ e2]
  show (wantP E' wFor (u3 :: u4 :: u5 :: r')).bind _ = _
  rw [g3 E' u3 _ e3]
  show (nameP E' (u4 :: u5 :: r')).bind _ = _
  rw [g4 E' u4 _ e4]
  show (wantP E' wColon (u5 :: r')).bind _ = _
  rw [g5 E' u5 _ e5]
  rfl
/-- The parts of what is read as a rule. -/
theorem rule_parts {E : Int} {l r : List Fnd} {q : Ru} (h : ruleP E l = .ok q r) : r = [] ∧ ∃ m1 m t, m1.length = 5 ∧ l = m1 ++ (m ++ [t]) ∧ t.text = wSemi ∧ (t.kind = 1 ∨ t.kind = 4) ∧
    (∀ E' n1 r', Eqv n1 m1 → hdP E' (n1 ++ r') = .ok (q.name, q.kind) r') ∧ ∀ E' K n r', Eqv n m → Look [t] r' → (n ++ r').length < K → condP (notP E' K) (n ++ r') = .ok q.cond r' := by
  rw [ruleP_eq] at h
  obtain ⟨ab, r4, h1, h⟩ := Got.bind_ok h
  obtain ⟨c, r5, h2, h⟩ := Got.bind_ok h
  obtain ⟨_, r6, h3, h⟩ := Got.bind_ok h
  cases r6 with
  | cons t r6 => cases h
  | nil =>
    have h' : Got.ok (⟨ab.1, ab.2, c⟩ : Ru) [] = .ok q r := h
    injection h' with h4 h5
    subst h4
    subst h5
    obtain ⟨t, rfl, _⟩ := want_ok h3
    obtain ⟨m1, k1, rfl, k3⟩ := hd_ok h1
    obtain ⟨m, _, rfl, _⟩ := cond_loc (not_loc E E ((m1 ++ r4).length + 1) 0) _ _ _ h2
    have hs : skipB wSemi [t] = true := by
      unfold wantP at h3
      split at h3
      · assumption
      · cases h3
    have hs2 : t.text = wSemi ∧ (t.kind = 1 ∨ t.kind = 4) := of_decide_eq_true hs
    refine ⟨rfl, m1, m, t, k1, rfl, hs2.1, hs2.2, k3, fun E' K n r' e1 e2 e3 => ?_⟩
    obtain ⟨m', _, y1, y2⟩ := cond_loc (not_loc E E' ((m1 ++ (m ++ [t])).length + 1) K) _ _ _ h2
    obtain rfl := List.append_cancel_right y1
    exact y2 n r' e1 e2 e3
theorem tl_ok {E : Int} {one : List Fnd → Got Ex} {ab : ByteArray × ByteArray} {r4 : List Fnd} {c : Ex} {t : Fnd} (h : condP one r4 = .ok c [t]) (ht : t.text = wSemi) (hk : t.kind = 1 ∨ t.kind = 4) : tlP E one ab r4 = .ok ⟨ab.1, ab.2, c⟩ [] := by
  unfold tlP
  rw [h]
  show (wantP E wSemi [t]).bind _ = _
  rw [want_is [] rfl hk ht]
  rfl
/-- The same tokens elsewhere are the same rule. -/
theorem rule_same {E E' : Int} {l l' : List Fnd} {q : Ru} {r : List Fnd} (h : ruleP E l = .ok q r) (he : Eqv l' l) : ruleP E' l' = .ok q [] := by
  obtain ⟨_, m1, m, t, _, rfl, ht, hk, h1, h2⟩ := rule_parts h
  obtain ⟨n1, n2, rfl, e1, e2⟩ := he.app
  obtain ⟨n, n3, rfl, e3, e4⟩ := e2.app
  obtain ⟨t', n4, rfl, e5, e6⟩ := e4.cons
  have := e6.nil
  subst this
  rw [ruleP_eq, h1 E' n1 _ e1]
  show tlP E' _ (q.name, q.kind) (n ++ [t']) = _
  exact tl_ok (h2 E' _ n [t'] e3 (Look.cons e5.symm _ _) (by simp only [List.length_append]; omega)) ((tk_text e5).trans ht) (by rw [tk_kind e5]; exact hk)
/-- With parentheses around the condition it is the same rule. -/
theorem rule_paren {E E' : Int} {m1 m : List Fnd} {t : Fnd} {q : Ru} {r l' : List Fnd} {o s : Fnd} (h : ruleP E (m1 ++ (m ++ [t])) = .ok q r) (h5 : m1.length = 5) (ho : tkOf o = (4, wOpen)) (hs : tkOf s = (4, wShut))
    (he : Eqv l' (m1 ++ (o :: (m ++ (s :: [t]))))) : ruleP E' l' = .ok q [] := by
  obtain ⟨_, p1, p, u, k1, k2, ht, hk, h1, h2⟩ := rule_parts h
  obtain ⟨x1, x2⟩ := List.append_inj k2 (h5.trans k1.symm)
  subst x1
  obtain ⟨x3, x4⟩ := List.append_inj' x2 rfl
  subst x3
  injection x4 with x4 _
  subst x4
  obtain ⟨n1, n2, rfl, e1, e2⟩ := he.app
  obtain ⟨o', n3, rfl, e3, e4⟩ := e2.cons
  obtain ⟨n, n5, rfl, e5, e6⟩ := e4.app
  obtain ⟨s', n6, rfl, e7, e8⟩ := e6.cons
  obtain ⟨t', n7, rfl, e9, e10⟩ := e8.cons
  have := e10.nil
  subst this
  have ok : o'.kind = 4 ∧ o'.text = wOpen := ⟨(tk_kind e3).trans (congrArg Prod.fst ho), (tk_text e3).trans (congrArg Prod.snd ho)⟩
  have sk : s'.kind = 4 ∧ s'.text = wShut := ⟨(tk_kind e7).trans (congrArg Prod.fst hs), (tk_text e7).trans (congrArg Prod.snd hs)⟩
  have ht' := (tk_text e9).trans ht
  have no : ∀ (x : Fnd) (r : List Fnd) (w v : ByteArray), x.text = v → v ≠ w → skipB w (x :: r) = false := fun x r w v h1 h2 => skip_not r h1 h2
  rw [ruleP_eq, h1 E' n1 _ e1]
  show tlP E' (notP E' ((n1 ++ (o' :: (n ++ (s' :: [t'])))).length + 1)) (q.name, q.kind) (o' :: (n ++ (s' :: [t']))) = _
  have hlen : (n1 ++ (o' :: (n ++ (s' :: [t'])))).length = n1.length + (n.length + 3) := by simp only [List.length_append, List.length_cons, List.length_nil]
  rw [hlen]
  have hc : condP (notP E' (n1.length + (n.length + 3))) (n ++ (s' :: [t'])) = .ok q.cond (s' :: [t']) := h2 E' _ n _ e5 ⟨(no t _ _ _ ht (by decide)).trans (no s' _ _ _ sk.2 (by decide)).symm, (no t _ _ _ ht (by decide)).trans (no s' _ _ _ sk.2 (by decide)).symm, (no t _ _ _ ht (by decide)).trans (no s' _ _ _ sk.2 (by decide)).symm⟩ (by simp only [List.length_append, List.length_cons, List.length_nil]; omega)
  have hn : notP E' (n1.length + (n.length + 3) + 1) (o' :: (n ++ (s' :: [t']))) = .ok q.cond [t'] := by
    rw [notP_succ]
    show (if o'.kind = 4 ∧ o'.text = wOpen then inP E' (notP E' (n1.length + (n.length + 3))) (o' :: (n ++ (s' :: [t']))) else _) = _
    rw [if_pos ok]
    unfold inP
    rw [want_is _ ok.1 (.inr rfl) ok.2]
    show ((condP (notP E' (n1.length + (n.length + 3))) (n ++ (s' :: [t']))).bind fun c r2 => (wantP E' wShut r2).bind fun _ r3 => .ok c r3) = _
    rw [hc]
    show ((wantP E' wShut (s' :: [t'])).bind fun _ r3 => .ok q.cond r3) = _
    rw [want_is _ sk.1 (.inr rfl) sk.2]
    rfl
  exact tl_ok (ser_one (ser_one hn (no t' _ _ _ ht' (by decide))) (no t' _ _ _ ht' (by decide))) ht' (by rw [tk_kind e9]; exact hk)
theorem hd_err (E E' : Int) : ErrF 0 (hdP E) (fun _ => hdP E') := by
  refine ErrF.bind (δ' := 0) (d := 1) (f' := fun _ _ r => (nameP E' r).bind fun a r1 => (wantP E' wFor r1).bind fun _ r2 => (nameP E' r2).bind fun b r3 => (wantP E' wColon r3).bind fun _ r4 => Got.ok (a, b) r4) (fun k => want_loc E E' _ wRule) (want_err E E' 0 wRule) (fun _ => ?_) (by omega)
  refine ErrF.bind (δ' := 0) (d := 1) (f' := fun _ a r1 => (wantP E' wFor r1).bind fun _ r2 => (nameP E' r2).bind fun b r3 => (wantP E' wColon r3).bind fun _ r4 => Got.ok (a, b) r4) (fun k => next_loc E E' _ 1 nameB) (next_err E E' 0 1 nameB) (fun a => ?_) (by omega)
  refine ErrF.bind (δ' := 0) (d := 1) (f' := fun _ _ r2 => (nameP E' r2).bind fun b r3 => (wantP E' wColon r3).bind fun _ r4 => Got.ok (a, b) r4) (fun k => want_loc E E' _ wFor) (want_err E E' 0 wFor) (fun _ => ?_) (by omega)
  refine ErrF.bind (δ' := 0) (d := 1) (f' := fun _ b r3 => (wantP E' wColon r3).bind fun _ r4 => Got.ok (a, b) r4) (fun k => next_loc E E' _ 1 nameB) (next_err E E' 0 1 nameB) (fun b => ?_) (by omega)
  exact ErrF.bind (δ' := 0) (d := 1) (fun k => want_loc E E' _ wColon) (want_err E E' 0 wColon) (fun _ => ok_err 0 (fun ab : ByteArray × ByteArray => ab) (a, b)) (by omega)
theorem hd_locP (E E' : Int) (k : Nat) : LocP k 0 (hdP E) (hdP E') := fun l x r h => by
  obtain ⟨m, _, h2, h3⟩ := hd_ok h
  exact ⟨m, Nat.zero_le _, h2, fun m' r' e1 _ _ => h3 E' m' r' e1⟩
/-- An error at a token of a rule, whatever follows. -/
theorem rule_err {E E' : Int} {l : List Fnd} {e a : Int} (h : ruleP E l = .bad e a) (h8 : e = 8 ∨ e = 13) : ∃ m t s, l = m ++ t :: s ∧ a = t.pos ∧ ∀ m' t' s', Eqv m' m → tkOf t' = tkOf t → ruleP E' (m' ++ t' :: s') = .bad e t'.pos := by
  have hT : ErrF 0 (fun l' => (hdP E l').bind (tlP E (notP E (l.length + 1)))) (fun k l' => (hdP E' l').bind (tlP E' (notP E' k))) := by
    refine ErrF.bind (δ' := 0) (d := 0) (f' := fun k => tlP E' (notP E' k)) (fun k => hd_locP E E' _) (hd_err E E') (fun ab => ?_) (by omega)
    have h2 : ∀ c : Ex, ErrF 0 (fun r5 => (wantP E wSemi r5).bind fun _ r6 => match r6 with
        | [] => Got.ok (⟨ab.1, ab.2, c⟩ : Ru) []
        | t :: _ => .bad 8 t.pos) (fun _ r5 => (wantP E' wSemi r5).bind fun _ r6 => match r6 with
        | [] => Got.ok (⟨ab.1, ab.2, c⟩ : Ru) []
        | t :: _ => .bad 8 t.pos) := fun c => by
      refine ErrF.bind (δ' := 0) (d := 1) (f' := fun _ _ r6 => match r6 with
        | [] => Got.ok (⟨ab.1, ab.2, c⟩ : Ru) []
        | t :: _ => .bad 8 t.pos) (fun k => want_loc E E' _ wSemi) (want_err E E' 0 wSemi) (fun _ => ?_) (by omega)
      intro l e a hb _
      cases l with
      | nil => cases hb
      | cons t r =>
        injection (show Got.bad (α := Ru) 8 t.pos = .bad e a from hb) with a1 a2
        subst a1
        subst a2
        exact ⟨[], t, r, rfl, rfl, fun k m' t' s' e1 _ _ => by rw [e1.nil]; rfl⟩
    exact ErrF.bind (δ' := 0) (d := 1) (g := condP (notP E (l.length + 1))) (g' := fun k => condP (notP E' k)) (f' := fun _ c r5 => (wantP E' wSemi r5).bind fun _ r6 => match r6 with
      | [] => Got.ok (⟨ab.1, ab.2, c⟩ : Ru) []
      | t :: _ => .bad 8 t.pos) (fun k => cond_loc (not_loc E E' (l.length + 1) k)) (cond_err (fun k => not_loc E E' _ k) (not_err E E' _)) h2 (by omega)
  rw [ruleP_eq] at h
  obtain ⟨m, t, s, h1, h2, h3⟩ := hT l e a h h8
  refine ⟨m, t, s, h1, h2, fun m' t' s' e1 e2 => ?_⟩
  rw [ruleP_eq]
  exact h3 _ m' t' s' e1 e2 (by omega)
/-- The same tokens elsewhere have the same error. -/
theorem rule_code {E E' : Int} {l l' : List Fnd} {e a : Int} (h : ruleP E l = .bad e a) (he : Eqv l' l) (ht : Toks E l) (ht' : Toks E' l') : ∃ a', ruleP E' l' = .bad e a' := by
  have key : ∀ {E E' : Int} {l l' : List Fnd} {e a : Int}, ruleP E l = .bad e a → Eqv l' l → (e = 8 ∨ e = 13) → ∃ a', ruleP E' l' = .bad e a' := fun h he h8 => by
    obtain ⟨m, t, s, rfl, _, h3⟩ := rule_err h h8
    obtain ⟨m', n, rfl, e1, e2⟩ := he.app
    obtain ⟨t', s', rfl, e3, _⟩ := e2.cons
    exact ⟨_, h3 m' t' s' e1 e3⟩
  have hg := rule_ga (Int.le_refl E) ht
  rw [h] at hg
  by_cases h8 : e = 8 ∨ e = 13
  · exact key h he h8
  have h9 : e = 9 := by have := hg.2; omega
  cases hq : ruleP E' l' with
  | ok q r =>
    have := rule_same (E' := E) hq he.symm
    rw [h] at this
    cases this
  | bad e' a' =>
    have hg' := rule_ga (Int.le_refl E') ht'
    rw [hq] at hg'
    by_cases h8' : e' = 8 ∨ e' = 13
    · obtain ⟨a2, h2⟩ := key (E' := E) hq he.symm h8'
      rw [h] at h2
      injection h2 with h2 _
      omega
    · have := hg'.2
      exact ⟨a', by congr 1; omega⟩
end Go.Proofs.YtppoeiofdmlpeaaDoor
namespace Go.Proofs.YtppoeiofdmlpeaaDoor
open Go Go.RowKit
theorem cut_byte {s : ByteArray} {i j k : Nat} (_h : j ≤ s.size) (hk : i + k < j) : byteAt (cut s i j) k = byteAt s (i + k) := by
  unfold byteAt cut
  rw [ByteArray.data_extract, Array.toList_extract, List.extract_eq_take_drop, List.getD_eq_getElem?_getD, List.getD_eq_getElem?_getD, List.getElem?_take, if_pos (by omega), List.getElem?_drop]
theorem lexT_digits {l : List UInt8} (hd : ∀ c ∈ l, 48 ≤ c.toNat ∧ c.toNat ≤ 57) (h0 : 0 < l.length) (h7 : l.length ≤ 7) : LexT l [(2, ⟨l.toArray⟩)] := by
  intro B hB s A n hs hn
  have hsz := size_of hs
  rw [List.length_append, List.length_append] at hsz
  have hc : ∀ k (hk : k < l.length), cls (l[k]).toNat = 4 := fun k hk => cls_digit (hd _ (List.getElem_mem hk))
  have hfirst : clsAt s A.length = 4 := by
    have h4 := cls_in hs (k := 0) h0
    rw [Nat.add_zero] at h4
    rw [h4]; exact hc 0 h0
  have hst := brk_at hs hB
  have hend : digEnd s A.length = A.length + l.length := by
    refine end_at hs (digP s) (fun k hk => ?_) ?_
    · unfold digP
      rw [cls_in hs hk, hc k hk]; rfl
    · unfold digP
      rcases hst with h | h | h <;> rw [h] <;> rfl
  cases n with
  | zero => omega
  | succ n =>
    refine ⟨[⟨2, ⟨l.toArray⟩, (A.length : Nat), 0⟩], n, ?_, rfl, fun f hf => ?_, by omega⟩
    · rw [lexGo_succ, if_neg (by omega), if_neg (by omega), if_neg (by omega), if_neg (by omega), if_pos hfirst, hend, if_neg (by omega), cut_mid hs]
      rfl
    · rw [List.mem_singleton] at hf; subst hf; rfl
/-- A token as it is written. -/
def wr (t : Fnd) : ByteArray := if t.kind = 3 then quoteB t.text else t.text
def WfT (t : Fnd) : Prop := LexT (wr t).data.toList [tkOf t] ∧ (wr t).size ≤ 2 * t.text.size + 2
theorem wf_plain {t : Fnd} (h : t.kind ≠ 3) (hl : LexT t.text.data.toList [tkOf t]) : WfT t := by
  have e : wr t = t.text := if_neg h
  unfold WfT
  rw [e]
  exact ⟨hl, by omega⟩
set_option maxHeartbeats 1000000 in
theorem lexGo_wf (s : ByteArray) : ∀ (n i : Nat), (∀ f ∈ lexGo s n i, f.err = 0 → WfT f) ∧ (lexGo s n i).length ≤ s.size - i + 1
  | 0, _ => ⟨fun f h => (by cases h), Nat.zero_le _⟩
  | n + 1, i => by
    have ih := lexGo_wf s n
    rw [lexGo_succ]
    by_cases h0 : s.size ≤ i
    · rw [if_pos h0]; exact ⟨fun f h => (by cases h), Nat.zero_le _⟩
    have hbad : ∀ f : Fnd, f.err ≠ 0 → (∀ g ∈ [f], g.err = 0 → WfT g) ∧ [f].length ≤ s.size - i + 1 := fun f h1 => ⟨fun g hg h2 => (by rw [List.mem_singleton] at hg; subst hg; exact absurd h2 h1), by simp⟩
    have hcons : ∀ (f : Fnd) (j : Nat), WfT f → i < j → (∀ g ∈ f :: lexGo s n j, g.err = 0 → WfT g) ∧ (f :: lexGo s n j).length ≤ s.size - i + 1 := fun f j h1 h2 =>
      ⟨fun g hg h3 => (List.mem_cons.1 hg).elim (fun e => e ▸ h1) (fun h => (ih j).1 g h h3), (by have := (ih j).2; rw [List.length_cons]; omega)⟩
    rw [if_neg h0]
    split
    · exact ⟨(ih _).1, by have := (ih (i + 1)).2; omega⟩
    split
    · have := runTo_ge (hashP s) s.size i
      exact ⟨(ih _).1, by have h2 := (ih (hashEnd s i)).2; unfold hashEnd at *; omega⟩
    split
    · rename_i c3
      have h1 := runTo_ge (wordP s) s.size i
      have h2 := wordEnd_le (s := s) (i := i) (by omega)
      have h3 := cut_size (s := s) (i := i) h2 h1
      have h4 : i < wordEnd s i := by
        rcases Nat.eq_or_lt_of_le h1 with h | h
        · have hs : s.size = s.size - 1 + 1 := by omega
          unfold wordEnd
          rw [hs, runTo_succ, if_pos (by unfold wordP; rw [c3]; rfl)]
          exact runTo_ge _ _ _
        · exact h
      split
      · exact hbad _ (show ¬ (7 : Int) = 0 by decide)
      · rename_i hn
        refine hcons _ _ (wf_plain (show ¬ (1 : Int) = 3 by decide) (lexT_name (nameB_true ?_ ?_ ?_))) h4
        · rw [h3]; omega
        · rw [h3]; omega
        · intro k hk
          rw [h3] at hk
          rw [cut_byte h2 (by omega)]
          have h5 := runTo_all (wordP s) s.size i (i + k) (by omega) (show i + k < wordEnd s i by omega)
          unfold wordP clsAt at h5
          rw [if_pos (by omega)] at h5
          cases k with
          | zero =>
            unfold clsAt at c3
            rw [if_pos (by omega)] at c3
            unfold okAt
            rw [Nat.add_zero, c3]
            rfl
          | succ k =>
            unfold okAt
            simpa using h5
    split
    · rename_i c4
      have h1 := runTo_ge (digP s) s.size i
      have h2 := digEnd_le (s := s) (i := i) (by omega)
      have h3 := cut_size (s := s) (i := i) h2 h1
      have h4 : i < digEnd s i := by
        rcases Nat.eq_or_lt_of_le h1 with h | h
        · have hs : s.size = s.size - 1 + 1 := by omega
          unfold digEnd
          rw [hs, runTo_succ, if_pos (by unfold digP; rw [c4]; rfl)]
          exact runTo_ge _ _ _
        · exact h
      split
      · exact hbad _ (show ¬ (11 : Int) = 0 by decide)
      · rename_i hn
        refine hcons _ _ (wf_plain (show ¬ (2 : Int) = 3 by decide) ?_) h4
        refine lexT_digits (fun c hc => ?_) (show 0 < (cut s i (digEnd s i)).size by omega) ?_
        · obtain ⟨k, k1, k2, k3⟩ := cut_get h2 hc
          have k4 := runTo_all (digP s) s.size i k k1 k2
          unfold digP clsAt at k4
          rw [if_pos (by omega), k3, beq_iff_eq] at k4
          exact digit_cls k4 (UInt8.toNat_lt c)
        · show (cut s i (digEnd s i)).size ≤ 7
          rw [h3]
          exact Nat.le_of_not_lt fun h => hn (.inl h)
    split
    · split
      · exact hbad _ (show ¬ (10 : Int) = 0 by decide)
      · rename_i t m hu
        have h1 := unqGo_size _ _ _ _ _ hu
        simp at h1
        refine hcons _ _ ⟨?_, ?_⟩ (by omega)
        · exact (lexF_quote t).t
        · exact quote_size ⟨t.toArray⟩
    split
    · rename_i c6
      refine hcons _ _ (wf_plain (show ¬ (4 : Int) = 3 by decide) ?_) (by omega)
      have h2 := cut_size (s := s) (i := i) (j := i + 1) (by omega) (by omega)
      have hb := cut_byte (s := s) (i := i) (j := i + 1) (k := 0) (by omega) (by omega)
      obtain ⟨c, hc⟩ : ∃ c, cut s i (i + 1) = ⟨#[c]⟩ := by
        have h3 : (cut s i (i + 1)).data.toList.length = 1 := by
          show (cut s i (i + 1)).size = 1
          omega
        obtain ⟨c, hc⟩ := List.length_eq_one_iff.1 h3
        exact ⟨c, ByteArray.ext (Array.toList_inj.1 hc)⟩
      have hcl : cls c.toNat = 6 := by
        unfold clsAt at c6
        rw [if_pos (by omega)] at c6
        rw [hc] at hb
        have hb2 : c.toNat = byteAt s (i + 0) := hb
        rw [hb2]
        exact c6
      show LexT (cut s i (i + 1)).data.toList [(4, cut s i (i + 1))]
      rw [hc]
      exact (lexF_sym hcl).t
    · exact hbad _ (show ¬ (10 : Int) = 0 by decide)
theorem lexL_wf {s : ByteArray} (h : (lexL s).2.1 = 0) : (∀ t ∈ (lexL s).1, WfT t) ∧ (lexL s).1.length ≤ s.size + 1 := by
  obtain ⟨h1, h2⟩ := lexGo_wf s (s.size + 1) 0
  unfold lexL at *
  split at h
  · exact absurd h (show ¬ (7 : Int) = 0 by decide)
  · rename_i hs
    rw [if_neg hs]
    obtain ⟨g1, g2⟩ := takeF_ok _ _ h
    rw [g1, List.nil_append]
    exact ⟨fun t ht => h1 t ht (g2 t ht), h2⟩
/-- Tokens as a text, with a line feed after each. -/
def wrL (l : List Fnd) : List UInt8 := l.flatMap fun t => (wr t).data.toList ++ [10]
def gapT (l : List Fnd) : ByteArray := ⟨(wrL l).toArray⟩
theorem wrL_lex : ∀ l : List Fnd, (∀ t ∈ l, WfT t) → LexF (wrL l) (l.map tkOf)
  | [], _ => fun B s A n hs hn => ⟨[], n, by simp [wrL], rfl, fun f hf => (by cases hf), by simpa [wrL] using hn⟩
  | t :: l, h => by
    have h1 := ((h t (List.mem_cons_self ..)).1.tf (lexF_blank (c := 10) (by decide +kernel)) ⟨10, [], rfl, .inl (by decide +kernel)⟩).ff (wrL_lex l fun x hx => h x (List.mem_cons_of_mem _ hx))
    show LexF (((t :: l).flatMap fun t => (wr t).data.toList ++ [10])) (tkOf t :: l.map tkOf)
    rw [List.flatMap_cons]
    exact h1
theorem wrL_len : ∀ l : List Fnd, (∀ t ∈ l, WfT t) → (wrL l).length ≤ 2 * tsum l + 3 * l.length
  | [], _ => Nat.zero_le _
  | t :: l, h => by
    have h1 := wrL_len l fun x hx => h x (List.mem_cons_of_mem _ hx)
    have h2 := (h t (List.mem_cons_self ..)).2
    have h3 : (t :: l).length = l.length + 1 := rfl
    unfold wrL at h1 ⊢
    rw [List.flatMap_cons, List.length_append, List.length_append, h3]
    show (wr t).size + 1 + _ ≤ 2 * (t.text.size + tsum l) + _
    omega
theorem wrL_app (a b : List Fnd) : wrL (a ++ b) = wrL a ++ wrL b := by unfold wrL; rw [List.flatMap_append]
theorem gapT_cons (l : List Fnd) (t : Fnd) : gapT (l ++ [t]) = gapT l ++ wr t ++ ⟨#[10]⟩ := by
  ext1
  apply Array.toList_inj.1
  rw [ByteArray.data_append, ByteArray.data_append, Array.toList_append, Array.toList_append]
  show wrL (l ++ [t]) = wrL l ++ (wr t).data.toList ++ [10]
  rw [wrL_app, List.append_assoc]
  congr 1
  unfold wrL
  simp
/-- A text that is these tokens has the same rule, or the same error. -/
theorem parse_eqv {s s' : ByteArray} {fs : List Fnd} (h : (lexL s).2.1 = 0) (h' : lexL s' = (fs, 0, 0)) (he : Eqv fs (lexL s).1) : (parseU s').1 = (parseU s).1 ∧ (parseU s').2.1 = (parseU s).2.1 := by
  have ht := (lexL_toks h).1
  have ht' : Toks s'.size fs := by
    have := (lexL_toks (s := s') (by rw [h'])).1
    rw [h'] at this
    exact this
  have e1 : parseU s = match ruleP s.size (lexL s).1 with
      | .bad e a => (ru0, e, a)
      | .ok r _ => if 60 < cnt r.cond then (ru0, 7, 0) else (r, 0, 0) := by unfold parseU; rw [if_neg (by rw [h]; exact fun h => h rfl)]; rfl
  have e2 : parseU s' = match ruleP s'.size fs with
      | .bad e a => (ru0, e, a)
      | .ok r _ => if 60 < cnt r.cond then (ru0, 7, 0) else (r, 0, 0) := by unfold parseU; rw [h']; rfl
  rw [e1, e2]
  cases hq : ruleP s.size (lexL s).1 with
  | ok q r => rw [rule_same hq he]; exact ⟨rfl, rfl⟩
  | bad e a =>
    obtain ⟨a', h2⟩ := rule_code hq he ht ht'
    rw [h2]
    exact ⟨rfl, rfl⟩
theorem gap_lex {s : ByteArray} (hs : s.size ≤ 2000) (h : (lexL s).2.1 = 0) : (gapT (lexL s).1).size ≤ 20000 ∧ ∃ fs, lexL (gapT (lexL s).1) = (fs, 0, 0) ∧ Eqv fs (lexL s).1 := by
  obtain ⟨h1, h2⟩ := lexL_wf h
  obtain ⟨_, h3⟩ := lexL_toks h
  have h4 := wrL_len _ h1
  have h5 : (gapT (lexL s).1).size ≤ 20000 := by show (wrL (lexL s).1).toArray.size ≤ _; rw [List.size_toArray]; omega
  obtain ⟨fs, g1, g2⟩ := lex_whole (s := gapT (lexL s).1) (wrL_lex _ h1).t h5 (by rw [List.length_map]; omega)
  exact ⟨h5, fs, g1, g2⟩
/-- The tokens with a line feed after each have the same rule, or the same error. -/
theorem gap_same {s : ByteArray} (hs : s.size ≤ 2000) (h : (lexL s).2.1 = 0) : (parseU (gapT (lexL s).1)).1 = (parseU s).1 ∧ (parseU (gapT (lexL s).1)).2.1 = (parseU s).2.1 := by
  obtain ⟨_, fs, h1, h2⟩ := gap_lex hs h
  exact parse_eqv h h1 h2
/-- The text with parentheses. -/
def parT (l : List Fnd) : ByteArray := gapT (l.take 5) ++ ⟨#[40]⟩ ++ gapT ((l.take (l.length - 1)).drop 5) ++ ⟨#[41]⟩ ++ gapT (l.drop (l.length - 1))
theorem gap_paren {s : ByteArray} (hs : s.size ≤ 2000) (h : (lexL s).2.1 = 0) (hp : (parseU s).2.1 = 0) : 7 ≤ (lexL s).1.length ∧ (parT (lexL s).1).size ≤ 20000 ∧ parseU (parT (lexL s).1) = ((parseU s).1, 0, 0) := by
  obtain ⟨h1, h2⟩ := lexL_wf h
  obtain ⟨_, h3⟩ := lexL_toks h
  have e1 : parseU s = match ruleP s.size (lexL s).1 with
      | .bad e a => (ru0, e, a)
      | .ok r _ => if 60 < cnt r.cond then (ru0, 7, 0) else (r, 0, 0) := by unfold parseU; rw [if_neg (by rw [h]; exact fun h => h rfl)]; rfl
  have hg := rule_ga (E := s.size) (Int.le_refl _) (lexL_toks h).1
  cases hq : ruleP s.size (lexL s).1 with
  | bad e a =>
    rw [hq] at hg
    rw [e1, hq] at hp
    have h4 := hg.2
    have h5 : e = 0 := hp
    omega
  | ok q r =>
    rw [e1, hq] at hp
    have hc : ¬ 60 < cnt q.cond := fun hc => by
      rw [show (match Got.ok q r with | .bad e a => (ru0, e, a) | .ok r _ => if 60 < cnt r.cond then (ru0, (7 : Int), (0 : Int)) else (r, 0, 0)) = (ru0, 7, 0) from if_pos hc] at hp
      exact absurd hp (by decide)
    have hpu : parseU s = (q, 0, 0) := by rw [e1, hq]; exact if_neg hc
    obtain ⟨_, m1, m, t, k1, k2, k3, k4, _, kc⟩ := rule_parts hq
    have hm : 1 ≤ m.length := by
      cases m with
      | nil =>
        exfalso
        have hz := kc s.size 2 [] [t] rfl ⟨rfl, rfl, rfl⟩ (by simp)
        obtain ⟨m', d1, d2, _⟩ := cond_loc (not_loc s.size s.size 2 0) _ _ _ hz
        have h6 := congrArg List.length d2
        rw [List.length_append, List.length_append] at h6
        simp only [List.length_nil, List.length_cons] at h6
        omega
      | cons x m => simp
    rw [k2] at h1 h2 h3 ⊢
    have hl : (m1 ++ (m ++ [t])).length = m.length + 6 := by rw [List.length_append, List.length_append, k1]; simp; omega
    have e5 : (m1 ++ (m ++ [t])).take 5 = m1 := by rw [← k1, List.take_left]
    have e6 : (m1 ++ (m ++ [t])).take ((m1 ++ (m ++ [t])).length - 1) = m1 ++ m := by
      rw [hl, ← List.append_assoc, show m.length + 6 - 1 = (m1 ++ m).length by rw [List.length_append, k1]; omega, List.take_left]
    have e7 : (m1 ++ (m ++ [t])).drop ((m1 ++ (m ++ [t])).length - 1) = [t] := by
      rw [hl, ← List.append_assoc, show m.length + 6 - 1 = (m1 ++ m).length by rw [List.length_append, k1]; omega, List.drop_left]
    have e8 : (m1 ++ m).drop 5 = m := by rw [← k1, List.drop_left]
    have f1 : ∀ x ∈ m1, WfT x := fun x hx => h1 x (List.mem_append.2 (.inl hx))
    have f2 : ∀ x ∈ m, WfT x := fun x hx => h1 x (List.mem_append.2 (.inr (List.mem_append.2 (.inl hx))))
    have f3 : ∀ x ∈ [t], WfT x := fun x hx => h1 x (List.mem_append.2 (.inr (List.mem_append.2 (.inr hx))))
    have hT : parT (m1 ++ (m ++ [t])) = gapT m1 ++ ⟨#[40]⟩ ++ gapT m ++ ⟨#[41]⟩ ++ gapT [t] := by unfold parT; rw [e5, e6, e7, e8]
    have hdt : (parT (m1 ++ (m ++ [t]))).data.toList = wrL m1 ++ ([40] ++ (wrL m ++ ([41] ++ wrL [t]))) := by
      rw [hT, toL_app, toL_app, toL_app, toL_app, List.append_assoc, List.append_assoc, List.append_assoc]
      rfl
    have hlex : LexT (parT (m1 ++ (m ++ [t]))).data.toList (m1.map tkOf ++ ([(4, wOpen)] ++ (m.map tkOf ++ ([(4, wShut)] ++ [t].map tkOf)))) := by
      rw [hdt]
      exact ((wrL_lex m1 f1).ff (lexF_open.ff ((wrL_lex m f2).ff (lexF_shut.ff (wrL_lex [t] f3))))).t
    have g1 := wrL_len m1 f1
    have g2 := wrL_len m f2
    have g3 := wrL_len [t] f3
    rw [tsum_app, tsum_app] at h3
    have hsz : (parT (m1 ++ (m ++ [t]))).size ≤ 20000 := by
      show (parT (m1 ++ (m ++ [t]))).data.toList.length ≤ _
      rw [hdt]
      simp only [List.length_append, List.length_cons, List.length_nil] at *
      omega
    obtain ⟨fs, q1, q2⟩ := lex_whole hlex hsz (by simp only [List.length_append, List.length_map, List.length_cons, List.length_nil] at *; omega)
    refine ⟨by omega, hsz, ?_⟩
    have hr : ruleP (parT (m1 ++ (m ++ [t]))).size fs = .ok q [] := by
      rw [k2] at hq
      refine rule_paren (o := ⟨4, wOpen, 0, 0⟩) (s := ⟨4, wShut, 0, 0⟩) hq k1 rfl rfl ?_
      show fs.map tkOf = (m1 ++ (⟨4, wOpen, 0, 0⟩ :: (m ++ (⟨4, wShut, 0, 0⟩ :: [t])))).map tkOf
      rw [q2]
      simp [tkOf]
    rw [show parseU (parT (m1 ++ (m ++ [t]))) = match ruleP (parT (m1 ++ (m ++ [t]))).size fs with
      | .bad e a => (ru0, e, a)
      | .ok r _ => if 60 < cnt r.cond then (ru0, 7, 0) else (r, 0, 0) by unfold parseU; rw [q1]; rfl, hr, hpu]
    exact if_neg hc
end Go.Proofs.YtppoeiofdmlpeaaDoor
