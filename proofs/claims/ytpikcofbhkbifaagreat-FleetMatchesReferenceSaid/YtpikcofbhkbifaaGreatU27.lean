/- fleet.Find: the state of a part. Plain facts of what an event makes of a valid state: it is valid again. Plain laws of the fleet: changes, means, there and back. What an event makes of short parts is short; one event as a slice. The cells of a part; what the test of sizes gives. bogieref10.SamePart: are two parts equal? bogieref10.Same: are two states equal? -/
import Derived.BigQuiet
import Derived.Deep.QuietTactic
import Derived.Deep.RegionHeld3
import Derived.Test.YtpikcofbhkbifaaGreatU01
import Derived.Test.YtpikcofbhkbifaaGreatU04
import Derived.Test.YtpikcofbhkbifaaGreatU07
import Derived.Test.YtpikcofbhkbifaaGreatU24
import Derived.Test.YtpikcofbhkbifaaGreatU25
import Derived.Test.YtpikcofbhkbifaaGreatU26
namespace Go.Proofs.YtpikcofbhkbifaaGreat
open Go Go.RowKit
theorem pfind_all {l : List Pa} {x : ByteArray} (h : ∀ q ∈ l.take l.length, q.name ≠ x) : pfind l x = none := by
  rw [List.take_length] at h
  unfold pfind; rw [List.find?_eq_none]
  intro q hq; simpa using h q hq
theorem take_next {l : List Pa} {x : ByteArray} {k : Nat} (hk : k < l.length) (h : ∀ q ∈ l.take k, q.name ≠ x) (he : (l.getD k noPa).name ≠ x) : ∀ q ∈ l.take (k + 1), q.name ≠ x := by
  intro q hq
  rw [List.take_succ_eq_append_getElem hk, List.mem_append, List.mem_singleton] at hq
  rcases hq with hq | rfl
  · exact h q hq
  · rwa [List.getD_eq_getElem?_getD, List.getElem?_eq_getElem hk] at he
theorem thereH {w : World} {g t n : Nat} {cs : Array Value} (h : Has w g t cs) (hn : n ≤ cs.size) : w.there g 0 n := fun j hj => ⟨by rw [Nat.zero_add, h.cell, Array.getElem?_eq_getElem (by omega)]; rfl, h.free _⟩
theorem setAllH {w : World} {g t : Nat} {cs : Array Value} (h : Has w g t cs) (ds : List Value) (hl : ds.length = cs.size) : Has (w.setCells g 0 ds) g t ds.toArray := by
  have := setCells_block g t ds 0 cs.toList w (by have := h; unfold Has at this; simpa using this) (by simp; omega)
  unfold Has; rw [this]; unfold splice; simp; omega
/-- A row stored into a block: what is known of the world behind it. -/
theorem stored {w0 w : World} {g t B : Nat} {cs : Array Value} (h : Has w g t cs) (hb : Below B w0 w) (hg : B ≤ g) (ds : Array Value) (hl : ds.size = cs.size) : ∃ W, w.setCells g 0 ds.toList = W ∧ Has W g t ds ∧ Below B w0 W :=
  ⟨_, rfl, by have := setAllH h ds.toList (by simpa using hl); simpa using this, below_setCells hg ds.toList 0 w hb⟩
end Go.Proofs.YtpikcofbhkbifaaGreat
namespace Go.Proofs.YtpikcofbhkbifaaGreat
open Go Go.RowKit
theorem seats_app (A B : List Pa) : seats (A ++ B) = seats A ++ seats B := by unfold seats; rw [List.filter_append, List.map_append]
theorem seats_cons (p : Pa) (B : List Pa) : seats (p :: B) = (if p.into = eS then [] else [seatOf p]) ++ seats B := by
  unfold seats
  rw [List.filter_cons]
  by_cases h : p.into = eS
  · simp [h]
  · simp [h]
theorem seats_not {l : List Pa} {into slot : ByteArray} (h : heldAt l into slot = false) : ¬ (into, slot) ∈ seats l := by
  intro hm
  unfold seats at hm
  obtain ⟨q, hq, he⟩ := List.mem_map.1 hm
  rw [List.mem_filter] at hq
  unfold heldAt at h
  rw [List.any_eq_false] at h
  refine h q hq.1 ?_
  unfold seatOf at he
  simp only [Prod.mk.injEq] at he
  simp [he.1, he.2]
theorem place_keep {c : List Kd} {l t : List Pa} {q : Pa} (h : placeOk c l q = true) (hh : ∀ a, pfind l q.into = some a → ∃ b, pfind t q.into = some b ∧ b.kind = a.kind ∧ b.gone = a.gone) : placeOk c t q = true := by
  rw [placeOk_eq] at h ⊢
  cases hf : pfind l q.into with
  | none => rw [hf] at h; cases h
  | some a =>
    obtain ⟨b, h1, h2, h3⟩ := hh a hf
    rw [hf, Option.getD_some, Option.isSome_some] at h
    rw [h1, Option.getD_some, Option.isSome_some, h2, h3]
    exact h
theorem part_iff {c : List Kd} {l : List Pa} {p : Pa} : partOk c l p = true ↔ rightB c p = true ∧ (p.into = eS ↔ p.slot = eS) ∧ (p.into = eS ∨ placeOk c l p = true) := by
  unfold partOk
  rw [Bool.and_eq_true, Bool.and_eq_true, Bool.or_eq_true, decide_eq_true_iff, beq_iff_eq, decide_eq_decide]
/-- A valid state with a part in place of the one with its name. -/
theorem vld_old {c : List Kd} {l : List Pa} (V : Vld c l) {p x : Pa} (hp : p ∈ l) (hn : x.name = p.name) (hk : x.kind = p.kind) (hr : rightB c x = true) (hs : x.into = eS ↔ x.slot = eS)
    (hpl : x.into = eS ∨ placeOk c (putP l x) x = true) (hg : x.gone = p.gone ∨ heldIn l p.name = false)
    (hse : (x.into = p.into ∧ x.slot = p.slot) ∨ x.into = eS ∨ heldAt l x.into x.slot = false) : Vld c (putP l x) := by
  obtain ⟨A, B, h1, h2⟩ := putG_old Pa.name V.ord hp hn.symm
  change putP l x = _ at h2
  refine ⟨V.cat, ?_, putP_ord V.ord x, fun q hq => ?_, ?_⟩
  · have := putG_len_old Pa.name V.ord hp hn.symm
    change (putP l x).length = _ at this
    rw [this]; exact V.len
  · rcases (putP_mem V.ord x q).1 hq with rfl | ⟨hq, hqn⟩
    · exact part_iff.2 ⟨hr, hs, hpl⟩
    · obtain ⟨r1, r2, r3⟩ := part_iff.1 (V.right q hq)
      refine part_iff.2 ⟨r1, r2, ?_⟩
      by_cases hi : q.into = eS
      · exact .inl hi
      · have r4 := r3.resolve_left hi
        refine .inr (place_keep r4 fun a ha => ?_)
        by_cases hx : q.into = x.name
        · have ea : a = p := by
            obtain ⟨a1, a2⟩ := pfind_mem ha
            exact ord_inj V.ord a1 hp (by rw [a2, hx, hn])
          subst ea
          refine ⟨x, by rw [hx]; exact pfind_put_same V.ord x, hk, ?_⟩
          rcases hg with hg | hg
          · exact hg
          · unfold heldIn at hg
            rw [List.any_eq_false] at hg
            exact absurd (by simp [hx, hn]) (hg q hq)
        · exact ⟨a, by rw [pfind_put_other V.ord hx]; exact ha, rfl, rfl⟩
  · have hN := V.seat
    rw [h1, seats_app, seats_cons] at hN
    rw [h2, seats_app, seats_cons]
    rcases hse with ⟨e1, e2⟩ | e | e
    · unfold seatOf at hN ⊢
      rw [e1, e2]; exact hN
    · rw [if_pos e, List.nil_append]
      exact hN.sublist (List.Sublist.append_left (List.sublist_append_right _ _) _)
    · have hno := seats_not e
      rw [h1, seats_app, seats_cons] at hno
      by_cases hi : x.into = eS
      · rw [if_pos hi, List.nil_append]
        exact hN.sublist (List.Sublist.append_left (List.sublist_append_right _ _) _)
      · rw [if_neg hi]
        show (seats A ++ (x.into, x.slot) :: seats B).Nodup
        rw [List.perm_middle.nodup_iff, List.nodup_cons]
        refine ⟨fun hm => hno ?_, hN.sublist (List.Sublist.append_left (List.sublist_append_right _ _) _)⟩
        rw [List.mem_append] at hm ⊢
        rcases hm with hm | hm
        · exact .inl hm
        · exact .inr (List.mem_append.2 (.inr hm))
theorem vld_new {c : List Kd} {l : List Pa} (V : Vld c l) {x : Pa} (hn : ∀ q ∈ l, q.name ≠ x.name) (hlen : l.length < 20000) (hr : rightB c x = true) (hi : x.into = eS) (hs : x.slot = eS) : Vld c (putP l x) := by
  obtain ⟨A, B, h1, h2⟩ := putG_new Pa.name V.ord hn
  change putP l x = _ at h2
  refine ⟨V.cat, ?_, putP_ord V.ord x, fun q hq => ?_, ?_⟩
  · have := putG_len_new Pa.name V.ord hn
    change (putP l x).length = _ at this
    omega
  · rcases (putP_mem V.ord x q).1 hq with rfl | ⟨hq, hqn⟩
    · exact part_iff.2 ⟨hr, by rw [hi, hs], .inl hi⟩
    · obtain ⟨r1, r2, r3⟩ := part_iff.1 (V.right q hq)
      refine part_iff.2 ⟨r1, r2, r3.imp id fun r4 => place_keep r4 fun a ha => ?_⟩
      obtain ⟨a1, a2⟩ := pfind_mem ha
      exact ⟨a, by rw [pfind_put_other V.ord (by rw [← a2]; exact hn a a1)]; exact ha, rfl, rfl⟩
  · have hN := V.seat
    rw [h1, seats_app] at hN
    rw [h2, seats_app, seats_cons, if_pos hi, List.nil_append]
    exact hN
/-- The part that an event makes of one that is there, where it is possible. -/
def TurnR (c : List Kd) (l : List Pa) (e : Ev) (p h r : Pa) : Prop :=
  (e.op = 2 ∧ ((kfind c p.kind).getD noKd).veh = false ∧ takesB c h.kind e.slot p.kind = true ∧ p.into = eS ∧ heldAt l e.into e.slot = false ∧ r = { p with into := e.into, slot := e.slot }) ∨
  (e.op = 3 ∧ p.into ≠ eS ∧ r = { p with into := eS, slot := eS }) ∨
  (e.op = 4 ∧ ((kfind c p.kind).getD noKd).veh = true ∧ r = p) ∨
  (e.op = 5 ∧ r = { p with since := max p.since e.day, kl := 0, kh := 0, cl := 0, ch := 0, dl := 0, dh := 0 }) ∨
  (e.op = 6 ∧ (putX p.props ⟨e.key, e.value⟩).length ≤ 60 ∧ r = { p with props := putX p.props ⟨e.key, e.value⟩ }) ∨
  (e.op = 7 ∧ p.into = eS ∧ heldIn l p.name = false ∧ r = { p with gone := true })
theorem turn_ok {c : List Kd} {l : List Pa} {e : Ev} {p h : Pa} (ho : 2 ≤ e.op ∧ e.op ≤ 7) : (turnL c l e p h).2 = 0 ↔ p.gone = false ∧ h.gone = false ∧ TurnR c l e p h (turnL c l e p h).1 := by
  have hc : e.op = 2 ∨ e.op = 3 ∨ e.op = 4 ∨ e.op = 5 ∨ e.op = 6 ∨ e.op = 7 := by omega
  unfold turnL TurnR
  cases p.gone <;> cases h.gone <;> simp only [Bool.or_false, Bool.or_true, Bool.false_eq_true, if_false, if_true, Bool.true_eq_false, false_and, and_false, true_and, iff_false]
  any_goals decide
  rcases hc with hc | hc | hc | hc | hc | hc
  · rw [hc]
    cases ((kfind c p.kind).getD noKd).veh <;> cases takesB c h.kind e.slot p.kind <;> cases heldAt l e.into e.slot <;> by_cases hi : p.into = eS <;> simp [hi]
  · rw [hc]
    by_cases hi : p.into = eS <;> simp [hi]
  · rw [hc]
    cases ((kfind c p.kind).getD noKd).veh <;> simp
  · rw [hc]; simp
  · rw [hc]
    by_cases hl : (putX p.props ⟨e.key, e.value⟩).length > 60
    · simp [hl]; intro; omega
    · simp [hl]; omega
  · rw [hc]
    cases heldIn l p.name <;> by_cases hi : p.into = eS <;> simp [hi]
theorem turn_eq {c : List Kd} {l : List Pa} {e : Ev} {p h r : Pa} (h1 : p.gone = false) (h2 : h.gone = false) (hr : TurnR c l e p h r) : turnL c l e p h = (r, 0) := by
  unfold turnL
  rw [h1, h2]
  rcases hr with ⟨ho, a1, a2, a3, a4, rfl⟩ | ⟨ho, a1, rfl⟩ | ⟨ho, a1, rfl⟩ | ⟨ho, rfl⟩ | ⟨ho, a1, rfl⟩ | ⟨ho, a1, a2, rfl⟩
  · simp [ho, a1, a2, a3, a4, h1]
  · simp [ho, a1, h1]
  · simp [ho, a1]
  · simp [ho, h1]
  · have hl : ¬ 60 < (putX p.props ⟨e.key, e.value⟩).length := by omega
    simp [ho, h1, hl]
  · simp [ho, a1, a2]
/-- When an event is possible, and what it then makes. -/
def StepR (c : List Kd) (l : List Pa) (e : Ev) (r : Pa) : Prop :=
  (e.op = 1 ∧ (∀ q ∈ l, q.name ≠ e.part) ∧ (kfind c e.kind).isSome = true ∧ l.length ≠ 20000 ∧ r = newPa e) ∨
  (2 ≤ e.op ∧ e.op ≤ 7 ∧ ∃ p h, p ∈ l ∧ p.name = e.part ∧ pfind l (if e.op = 2 then e.into else e.part) = some h ∧ p.gone = false ∧ h.gone = false ∧ TurnR c l e p h r)
theorem step_iff {c : List Kd} {l t : List Pa} {e : Ev} (O : Ord l) (ho : 1 ≤ e.op ∧ e.op ≤ 7) : stepL c l e = (t, 0) ↔ ∃ r, StepR c l e r ∧ t = putP l r := by
  unfold stepL StepR
  by_cases h1 : e.op = 1
  · rw [if_pos h1]
    cases hf : pfind l e.part with
    | some p =>
      obtain ⟨a1, a2⟩ := pfind_mem hf
      rw [if_pos (by simp)]
      constructor
      · intro h; simp at h
      · rintro ⟨r, h | h, _⟩
        · exact absurd a2 (h.2.1 p a1)
        · omega
    | none =>
      have hn := pfind_none.1 hf
      rw [if_neg (by simp)]
      cases hk : kfind c e.kind with
      | none =>
        rw [if_pos (by simp)]
        constructor
        · intro h; simp at h
        · rintro ⟨r, h | h, _⟩
          · exact absurd h.2.2.1 (by simp)
          · omega
      | some k =>
        rw [if_neg (by simp)]
        by_cases hl : l.length = 20000
        · rw [if_pos hl]
          constructor
          · intro h; simp at h
          · rintro ⟨r, h | h, _⟩
            · exact absurd hl h.2.2.2.1
            · omega
        · rw [if_neg hl]
          constructor
          · intro h
            simp only [Prod.mk.injEq, and_true] at h
            exact ⟨_, .inl ⟨h1, hn, rfl, hl, rfl⟩, h.symm⟩
          · rintro ⟨r, h | h, rfl⟩
            · rw [h.2.2.2.2]
            · omega
  · rw [if_neg h1]
    have hh : (if e.op = 2 then pfind l e.into else pfind l e.part) = pfind l (if e.op = 2 then e.into else e.part) := by split <;> rfl
    rw [hh]
    constructor
    · intro h
      cases hf : pfind l e.part with
      | none => rw [hf] at h; simp at h
      | some p =>
        cases hg : pfind l (if e.op = 2 then e.into else e.part) with
        | none => rw [hf, hg] at h; simp at h
        | some q =>
          rw [hf, hg] at h
          simp only at h
          by_cases ht : (turnL c l e p q).2 = 0
          · rw [if_pos ht] at h
            simp only [Prod.mk.injEq, and_true] at h
            obtain ⟨a1, a2⟩ := pfind_mem hf
            obtain ⟨b1, b2, b3⟩ := (turn_ok (by omega)).1 ht
            exact ⟨_, .inr ⟨by omega, by omega, p, q, a1, a2, rfl, b1, b2, b3⟩, h.symm⟩
          · rw [if_neg ht] at h
            simp only [Prod.mk.injEq] at h
            exact absurd h.2 ht
    · rintro ⟨r, h | ⟨_, _, p, q, a1, a2, hg, b1, b2, b3⟩, rfl⟩
      · exact absurd h.1 h1
      · have hf : pfind l e.part = some p := by rw [← a2]; exact pfind_self O a1
        rw [hf, hg]
        simp only [turn_eq b1 b2 b3]
        rfl
theorem apply_iff {c : List Kd} {l t : List Pa} {e : Ev} : applyL c l e = (t, 0) ↔ validB c l = true ∧ evOk e = true ∧ ∃ r, StepR c l e r ∧ t = putP l r := by
  unfold applyL
  by_cases h : (validB c l && evOk e) = true
  · rw [if_pos h]
    rw [Bool.and_eq_true] at h
    rw [step_iff (vld_iff.1 h.1).ord (evOk_iff.1 h.2).1]
    exact ⟨fun h2 => ⟨h.1, h.2, h2⟩, fun h2 => h2.2.2⟩
  · rw [if_neg h]
    constructor
    · intro h2; simp at h2
    · rintro ⟨h1, h2, _⟩
      exact absurd (by rw [h1, h2]; rfl) h
theorem apply_err {c : List Kd} {l : List Pa} {e : Ev} (h : (applyL c l e).2 ≠ 0) : (applyL c l e).1 = [] := by
  revert h
  unfold applyL stepL
  split
  · split
    · split
      · intro _; rfl
      · split
        · intro _; rfl
        · split
          · intro _; rfl
          · intro h; exact absurd rfl h
    · split
      · split
        · intro h; exact absurd rfl h
        · intro _; rfl
      · intro _; rfl
  · intro _; rfl
/-- The words of rightB. -/
theorem right_iff {c : List Kd} {p : Pa} : rightB c p = true ↔ ((kfind c p.kind).isSome = true ∧ nameB p.name = true ∧ 0 ≤ p.made ∧ p.made ≤ p.since ∧ p.since ≤ 40000 ∧ p.props.length ≤ 60) ∧
    ((∀ x ∈ p.props, propOk x = true) ∧ OrdK Pr.key p.props ∧ amountB p.kl p.kh = true ∧ amountB p.cl p.ch = true ∧ amountB p.dl p.dh = true) := by
  unfold rightB
  simp only [Bool.and_eq_true, decide_eq_true_eq, List.all_eq_true, sorted_iff, List.pairwise_map]
  constructor
  · rintro ⟨⟨⟨⟨a1, a2⟩, a3, a4, a5⟩, a6⟩, b1, b2, b3, b4, b5⟩
    exact ⟨⟨a1, a2, a3, a4, a5, a6⟩, b1, b2, b3, b4, b5⟩
  · rintro ⟨⟨a1, a2, a3, a4, a5, a6⟩, b1, b2, b3, b4, b5⟩
    exact ⟨⟨⟨⟨a1, a2⟩, a3, a4, a5⟩, a6⟩, b1, b2, b3, b4, b5⟩
theorem ev_prop {e : Ev} (h : evOk e = true) (ho : e.op = 6) : propOk ⟨e.key, e.value⟩ = true := by
  have h2 := (evOk_iff.1 h).2.2.2
  unfold evRest at h2
  rw [if_neg (by omega), if_neg (by omega), if_pos ho] at h2
  simp only [Bool.and_eq_true, List.all_cons, List.all_nil, Bool.and_true] at h2
  unfold propOk
  rw [Bool.and_eq_true, Bool.and_eq_true]
  exact ⟨h2.2.2, h2.1⟩
theorem eS_not_name : nameB eS = false := by decide +kernel
theorem name_ne {x : ByteArray} (h : nameB x = true) : x ≠ eS := by
  rintro rfl; rw [eS_not_name] at h; cases h
theorem ev_fit {e : Ev} (h : evOk e = true) (ho : e.op = 2) : e.into ≠ e.part ∧ nameB e.into = true ∧ nameB e.slot = true := by
  have h2 := (evOk_iff.1 h).2.2.2
  unfold evRest at h2
  rw [if_neg (by omega), if_pos ho] at h2
  simp only [Bool.and_eq_true, List.all_cons, List.all_nil, Bool.and_true] at h2
  refine ⟨fun e1 => ?_, h2.2.2.1, h2.2.2.2⟩
  rw [e1] at h2
  simp at h2
theorem step_valid {c : List Kd} {l : List Pa} {e : Ev} {r : Pa} (V : Vld c l) (he : evOk e = true) (h : StepR c l e r) : Vld c (putP l r) := by
  have hE := evOk_iff.1 he
  rcases h with ⟨ho, hn, hk, hlen, rfl⟩ | ⟨ho1, ho2, p, q, hp, hpn, hq, g1, g2, hr⟩
  · refine vld_new V hn (by have := V.len; omega) ?_ rfl rfl
    refine right_iff.2 ⟨⟨hk, hE.2.2.1, hE.2.1.1, Int.le_refl _, hE.2.1.2, by simp [newPa]⟩, by simp [newPa], by simp [newPa, OrdK], by simp [newPa, amountB], by simp [newPa, amountB], by simp [newPa, amountB]⟩
  · obtain ⟨r1, r2, r3⟩ := part_iff.1 (V.right p hp)
    have R := right_iff.1 r1
    have keep : ∀ x : Pa, x.name = p.name → x.into = p.into → x.slot = p.slot → x.gone = false → x.kind = p.kind → p.into = eS ∨ placeOk c (putP l x) x = true := by
      intro x e1 e2 e3 e4 e5
      by_cases hi : p.into = eS
      · exact .inl hi
      · refine .inr ?_
        have r4 := r3.resolve_left hi
        have r5 : placeOk c l x = true := by
          rw [placeOk_eq] at r4 ⊢
          rw [e2, e3, e4, e5, ← g1]; exact r4
        refine place_keep r5 fun a ha => ?_
        by_cases hx : x.into = x.name
        · refine ⟨x, by rw [hx]; exact pfind_put_same V.ord x, ?_⟩
          rw [hx, e1, pfind_self V.ord hp] at ha
          cases ha
          exact ⟨e5, by rw [e4, g1]⟩
        · exact ⟨a, by rw [pfind_put_other V.ord hx]; exact ha, rfl, rfl⟩
    rcases hr with ⟨ho, a1, a2, a3, a4, rfl⟩ | ⟨ho, a1, rfl⟩ | ⟨ho, a1, rfl⟩ | ⟨ho, rfl⟩ | ⟨ho, a1, rfl⟩ | ⟨ho, a1, a2, rfl⟩
    · obtain ⟨f1, f2, f3⟩ := ev_fit he ho
      rw [if_pos ho] at hq
      refine vld_old V hp rfl rfl r1 (by constructor <;> intro h; exact absurd h (name_ne f2); exact absurd h (name_ne f3)) (.inr ?_) (.inl rfl) (.inr (.inr a4))
      rw [placeOk_eq]
      show ((pfind _ e.into).isSome && (!p.gone && (!((pfind _ e.into).getD noPa).gone && takesB c ((pfind _ e.into).getD noPa).kind e.slot p.kind))) = true
      rw [pfind_put_other V.ord (by show e.into ≠ p.name; rw [hpn]; exact f1), hq, g1]
      simp [g2, a2]
    · exact vld_old V hp rfl rfl r1 (by simp) (.inl rfl) (.inl rfl) (.inr (.inl rfl))
    · exact vld_old V hp rfl rfl r1 r2 (keep r rfl rfl rfl g1 rfl) (.inl rfl) (.inl ⟨rfl, rfl⟩)
    · refine vld_old V hp rfl rfl ?_ r2 (keep _ rfl rfl rfl g1 rfl) (.inl rfl) (.inl ⟨rfl, rfl⟩)
      refine right_iff.2 ⟨⟨R.1.1, R.1.2.1, R.1.2.2.1, ?_, ?_, R.1.2.2.2.2.2⟩, R.2.1, R.2.2.1, by simp [amountB], by simp [amountB], by simp [amountB]⟩
      · have := R.1.2.2.2.1; show p.made ≤ max p.since e.day; omega
      · have := R.1.2.2.2.2.1; have := hE.2.1.2; show max p.since e.day ≤ 40000; omega
    · refine vld_old V hp rfl rfl ?_ r2 (keep _ rfl rfl rfl g1 rfl) (.inl rfl) (.inl ⟨rfl, rfl⟩)
      refine right_iff.2 ⟨⟨R.1.1, R.1.2.1, R.1.2.2.1, R.1.2.2.2.1, R.1.2.2.2.2.1, a1⟩, fun x hx => ?_, putG_ord Pr.key R.2.2.1 _, R.2.2.2⟩
      rcases (putG_mem Pr.key R.2.2.1 _ x).1 hx with rfl | ⟨h1, _⟩
      · exact ev_prop he ho
      · exact R.2.1 x h1
    · exact vld_old V hp rfl rfl r1 r2 (.inl a1) (.inr a2) (.inl ⟨rfl, rfl⟩)
theorem apply_valid {c : List Kd} {l t : List Pa} {e : Ev} (h : applyL c l e = (t, 0)) : validB c t = true := by
  obtain ⟨h1, h2, r, h3, rfl⟩ := apply_iff.1 h
  exact vld_iff.2 (step_valid (vld_iff.1 h1) h2 h3)
end Go.Proofs.YtpikcofbhkbifaaGreat
namespace Go.Proofs.YtpikcofbhkbifaaGreat
open Go Go.RowKit
end Go.Proofs.YtpikcofbhkbifaaGreat
namespace Go.Proofs.YtpikcofbhkbifaaGreat
open Go Go.RowKit
theorem eS_max : eS.size ≤ maxLen := by decide
theorem step_short {c : List Kd} {l : List Pa} {e : Ev} {r : Pa} (V : Vld c l) (hl : ∀ p ∈ l, p.short) (he : e.short) (h : StepR c l e r) : r.short := by
  rcases h with ⟨_, _, _, _, rfl⟩ | ⟨_, _, p, q, hp, _, _, _, _, h3⟩
  · exact ⟨he.1, he.2.1, eS_max, eS_max, by simp [newPa], by simp [newPa]⟩
  · obtain ⟨s1, s2, s3, s4, s5, s6⟩ := hl p hp
    rcases h3 with ⟨_, _, _, _, _, rfl⟩ | ⟨_, _, rfl⟩ | ⟨_, _, rfl⟩ | ⟨_, rfl⟩ | ⟨_, h60, rfl⟩ | ⟨_, _, _, rfl⟩
    · exact ⟨s1, s2, he.2.2.1, he.2.2.2.1, s5, s6⟩
    · exact ⟨s1, s2, eS_max, eS_max, s5, s6⟩
    · exact ⟨s1, s2, s3, s4, s5, s6⟩
    · exact ⟨s1, s2, s3, s4, s5, s6⟩
    · refine ⟨s1, s2, s3, s4, by show (putX p.props _).length ≤ 100000; omega, fun x hx => ?_⟩
      have R := right_iff.1 (part_iff.1 (V.right p hp)).1
      rcases (putG_mem Pr.key R.2.2.1 _ x).1 hx with rfl | ⟨h1, _⟩
      · exact ⟨he.2.2.2.2.1, he.2.2.2.2.2⟩
      · exact s6 x h1
    · exact ⟨s1, s2, s3, s4, s5, s6⟩
theorem apply_short {c : List Kd} {l t : List Pa} {e : Ev} (hl : ∀ p ∈ l, p.short) (he : e.short) (h : applyL c l e = (t, 0)) : t.length ≤ 20000 ∧ ∀ p ∈ t, p.short := by
  have hv := apply_valid h
  obtain ⟨g1, g2, r, g3, rfl⟩ := apply_iff.1 h
  have V := vld_iff.1 g1
  refine ⟨(vld_iff.1 hv).len, fun p hp => ?_⟩
  rcases (putP_mem V.ord r p).1 hp with rfl | ⟨h1, _⟩
  · exact step_short V hl he g3
  · exact hl p h1
theorem evF_one (e : Ev) : ∀ j, j < 1 * 14 → e.cells[j]? = some (evF [e] j) := by
  intro j hj
  match j, hj with
  | 0, _ | 1, _ | 2, _ | 3, _ | 4, _ | 5, _ | 6, _ | 7, _ | 8, _ | 9, _ | 10, _ | 11, _ | 12, _ | 13, _ => rfl
theorem ev_sl {w : World} {g t : Nat} {e : Ev} (h : Has w g t e.cells) : Sl w (.slice (some ⟨g, 0, none⟩) 1 1) 1 14 (evF [e]) := Sl.has h (Nat.le_refl _) (evF_one e)
theorem apply_err0 {c : List Kd} {l : List Pa} {e : Ev} (h : (applyL c l e).2 = 0) : applyL c l e = ((applyL c l e).1, 0) := by rw [← h]
end Go.Proofs.YtpikcofbhkbifaaGreat
namespace Go.Proofs.YtpikcofbhkbifaaGreat
open Go Go.RowKit
theorem fewB_take {c : List Kd} {l : List Pa} {es : List Ev} (h : fewB c l es = true) : (c.length ≤ 65 ∧ ∀ k ∈ c, k.short) ∧ (l.length ≤ 20 ∧ ∀ p ∈ l, p.short) := by
  unfold fewB at h
  simp only [Bool.and_eq_true] at h
  exact ⟨fewCa_short h.1, fewSt_short h.2.1⟩
theorem part_facts {w : World} {b o : Nat} {x0 x1 x2 x3 x4 x5 x6 x7 x8 x9 x10 x11 x12 x13 : Value} (h : w.rangeAt b o [x0, x1, x2, x3, x4, x5, x6, x7, x8, x9, x10, x11, x12, x13]) :
    w.cell? ⟨b, o, none⟩ = some x0 ∧ w.cell? ⟨b, o + 1, none⟩ = some x1 ∧ w.cell? ⟨b, o + 2, none⟩ = some x2 ∧ w.cell? ⟨b, o + 3, none⟩ = some x3 ∧ w.cell? ⟨b, o + 4, none⟩ = some x4 ∧ w.cell? ⟨b, o + 5, none⟩ = some x5 ∧ w.cell? ⟨b, o + 6, none⟩ = some x6 ∧ w.cell? ⟨b, o + 7, none⟩ = some x7 ∧ w.cell? ⟨b, o + 8, none⟩ = some x8 ∧ w.cell? ⟨b, o + 9, none⟩ = some x9 ∧ w.cell? ⟨b, o + 10, none⟩ = some x10 ∧ w.cell? ⟨b, o + 11, none⟩ = some x11 ∧ w.cell? ⟨b, o + 12, none⟩ = some x12 ∧ w.cell? ⟨b, o + 13, none⟩ = some x13 :=
  ⟨h 0 _ rfl, h 1 _ rfl, h 2 _ rfl, h 3 _ rfl, h 4 _ rfl, h 5 _ rfl, h 6 _ rfl, h 7 _ rfl, h 8 _ rfl, h 9 _ rfl, h 10 _ rfl, h 11 _ rfl, h 12 _ rfl, h 13 _ rfl⟩
end Go.Proofs.YtpikcofbhkbifaaGreat
namespace Go.Proofs.YtpikcofbhkbifaaGreat
open Go Go.RowKit
theorem Pr_ext {l m : List Pr} (hl : l.length = m.length) (h : ∀ j, j < l.length → l.getD j noPr = m.getD j noPr) : l = m := by
  apply List.ext_getElem?
  intro j
  by_cases hj : j < l.length
  · have := h j hj
    rw [List.getD_eq_getElem?_getD, List.getD_eq_getElem?_getD, List.getElem?_eq_getElem hj, List.getElem?_eq_getElem (by omega)] at this
    rw [List.getElem?_eq_getElem hj, List.getElem?_eq_getElem (by omega)]
    simpa using this
  · rw [List.getElem?_eq_none (by omega), List.getElem?_eq_none (by omega)]
theorem neS {a b : ByteArray} (h : a ≠ b) : (a.toList != b.toList) = true := by
  rw [bne, beq_bytes, decide_eq_false h]; rfl
theorem beS {a b : ByteArray} (h : ¬ a = b) : (a.toList == b.toList) = false := by rw [beq_bytes, decide_eq_false h]
theorem beB {a b : Bool} (h : ¬ a = b) : (a == b) = false := by simpa using h
theorem eqS (a : ByteArray) : (a.toList != a.toList) = false := by simp
theorem neI {a b : Int} (h : a ≠ b) : (a != b) = true := by simpa using h
theorem neB {a b : Bool} (h : a ≠ b) : (a != b) = true := by simpa using h
set_option maxRecDepth 100000 in
set_option maxHeartbeats 4000000 in
theorem samePart_any (pname pkind pinto pslot : ByteArray) (pmade psince : Int) (pgone : Bool) (pprops : List Pr) (pkl pkh pcl pch pdl pdh : Int) (qname qkind qinto qslot : ByteArray) (qmade qsince : Int) (qgone : Bool) (qprops : List Pr) (qkl qkh qcl qch qdl qdh : Int)
    (A1 A2 : Option Addr) (c1 c2 : Nat) (w : World) (h1 : Rd 2 PrR w (.slice A1 pprops.length c1) pprops) (h2 : Rd 2 PrR w (.slice A2 qprops.length c2) qprops) (hl1 : pprops.length ≤ 100000) (_hl2 : qprops.length ≤ 100000) :
    Calls Tryz.prog 17 #[.agg #[.string pname, .string pkind, .string pinto, .string pslot, .int .i64 pmade, .int .i64 psince, .bool pgone, .slice A1 pprops.length c1, .int .i64 pkl, .int .i64 pkh, .int .i64 pcl, .int .i64 pch, .int .i64 pdl, .int .i64 pdh], .agg #[.string qname, .string qkind, .string qinto, .string qslot, .int .i64 qmade, .int .i64 qsince, .bool qgone, .slice A2 qprops.length c2, .int .i64 qkl, .int .i64 qkh, .int .i64 qcl, .int .i64 qch, .int .i64 qdl, .int .i64 qdh]] w fun e w' => e = .returned (.bool (decide ((⟨pname, pkind, pinto, pslot, pmade, psince, pgone, pprops, pkl, pkh, pcl, pch, pdl, pdh⟩ : Pa) = ⟨qname, qkind, qinto, qslot, qmade, qsince, qgone, qprops, qkl, qkh, qcl, qch, qdl, qdh⟩))) ∧ Below w.heap.size w w' := by
  have HB := Lib.hid (((Below.refl w.heap.size w).alloc (Nat.le_refl _) (.cells #[.string pname, .string pkind, .string pinto, .string pslot, .int .i64 pmade, .int .i64 psince, .bool pgone, .slice A1 pprops.length c1, .int .i64 pkl, .int .i64 pkh, .int .i64 pcl, .int .i64 pch, .int .i64 pdl, .int .i64 pdh] 47)).alloc (by simp) (.cells #[.string qname, .string qkind, .string qinto, .string qslot, .int .i64 qmade, .int .i64 qsince, .bool qgone, .slice A2 qprops.length c2, .int .i64 qkl, .int .i64 qkh, .int .i64 qcl, .int .i64 qch, .int .i64 qdl, .int .i64 qdh] 47))
  have H1 := Lib.hid h1
  have H2 := Lib.hid h2
  clear h1 h2
  by_cases ename : ¬ pname = qname
  · have hb := neS ename
    have hb2 := beS ename
    have hd := Lib.hid (show decide ((⟨pname, pkind, pinto, pslot, pmade, psince, pgone, pprops, pkl, pkh, pcl, pch, pdl, pdh⟩ : Pa) = ⟨qname, qkind, qinto, qslot, qmade, qsince, qgone, qprops, qkl, qkh, qcl, qch, qdl, qdh⟩) = false from decide_eq_false fun e => ename (by injection e))
    clear ename
    rw [hd.out]
    go_enter Tryz.func17, Tryz.ntmps17
    go_wp2_with fail
    all_goals
      go_ret
      exact ⟨rfl, ((Below.refl _ _).alloc (Nat.le_refl _) _).alloc (by simp) _⟩
  obtain rfl := Classical.not_not.1 ename
  have rname := eqS pname
  by_cases ekind : ¬ pkind = qkind
  · have hb := neS ekind
    have hb2 := beS ekind
    have hd := Lib.hid (show decide ((⟨pname, pkind, pinto, pslot, pmade, psince, pgone, pprops, pkl, pkh, pcl, pch, pdl, pdh⟩ : Pa) = ⟨pname, qkind, qinto, qslot, qmade, qsince, qgone, qprops, qkl, qkh, qcl, qch, qdl, qdh⟩) = false from decide_eq_false fun e => ekind (by injection e))
    clear ekind
    rw [hd.out]
    go_enter Tryz.func17, Tryz.ntmps17
    go_wp2_with fail
    all_goals
      go_ret
      exact ⟨rfl, ((Below.refl _ _).alloc (Nat.le_refl _) _).alloc (by simp) _⟩
  obtain rfl := Classical.not_not.1 ekind
  have rkind := eqS pkind
  by_cases einto : ¬ pinto = qinto
  · have hb := neS einto
    have hb2 := beS einto
    have hd := Lib.hid (show decide ((⟨pname, pkind, pinto, pslot, pmade, psince, pgone, pprops, pkl, pkh, pcl, pch, pdl, pdh⟩ : Pa) = ⟨pname, pkind, qinto, qslot, qmade, qsince, qgone, qprops, qkl, qkh, qcl, qch, qdl, qdh⟩) = false from decide_eq_false fun e => einto (by injection e))
    clear einto
    rw [hd.out]
    go_enter Tryz.func17, Tryz.ntmps17
    go_wp2_with fail
    all_goals
      go_ret
      exact ⟨rfl, ((Below.refl _ _).alloc (Nat.le_refl _) _).alloc (by simp) _⟩
  obtain rfl := Classical.not_not.1 einto
  have rinto := eqS pinto
  by_cases eslot : ¬ pslot = qslot
  · have hb := neS eslot
    have hb2 := beS eslot
    have hd := Lib.hid (show decide ((⟨pname, pkind, pinto, pslot, pmade, psince, pgone, pprops, pkl, pkh, pcl, pch, pdl, pdh⟩ : Pa) = ⟨pname, pkind, pinto, qslot, qmade, qsince, qgone, qprops, qkl, qkh, qcl, qch, qdl, qdh⟩) = false from decide_eq_false fun e => eslot (by injection e))
    clear eslot
    rw [hd.out]
    go_enter Tryz.func17, Tryz.ntmps17
    go_wp2_with fail
    all_goals
      go_ret
      exact ⟨rfl, ((Below.refl _ _).alloc (Nat.le_refl _) _).alloc (by simp) _⟩
  obtain rfl := Classical.not_not.1 eslot
  have rslot := eqS pslot
  by_cases emade : ¬ pmade = qmade
  · have hb := neI emade
    have hb2 := neI emade
    have hd := Lib.hid (show decide ((⟨pname, pkind, pinto, pslot, pmade, psince, pgone, pprops, pkl, pkh, pcl, pch, pdl, pdh⟩ : Pa) = ⟨pname, pkind, pinto, pslot, qmade, qsince, qgone, qprops, qkl, qkh, qcl, qch, qdl, qdh⟩) = false from decide_eq_false fun e => emade (by injection e))
    clear emade
    rw [hd.out]
    go_enter Tryz.func17, Tryz.ntmps17
    go_wp2_with fail
    all_goals
      go_ret
      exact ⟨rfl, ((Below.refl _ _).alloc (Nat.le_refl _) _).alloc (by simp) _⟩
  obtain rfl := Classical.not_not.1 emade
  by_cases esince : ¬ psince = qsince
  · have hb := neI esince
    have hb2 := neI esince
    have hd := Lib.hid (show decide ((⟨pname, pkind, pinto, pslot, pmade, psince, pgone, pprops, pkl, pkh, pcl, pch, pdl, pdh⟩ : Pa) = ⟨pname, pkind, pinto, pslot, pmade, qsince, qgone, qprops, qkl, qkh, qcl, qch, qdl, qdh⟩) = false from decide_eq_false fun e => esince (by injection e))
    clear esince
    rw [hd.out]
    go_enter Tryz.func17, Tryz.ntmps17
    go_wp2_with fail
    all_goals
      go_ret
      exact ⟨rfl, ((Below.refl _ _).alloc (Nat.le_refl _) _).alloc (by simp) _⟩
  obtain rfl := Classical.not_not.1 esince
  by_cases egone : ¬ pgone = qgone
  · have hb := neB egone
    have hb2 := beB egone
    have hd := Lib.hid (show decide ((⟨pname, pkind, pinto, pslot, pmade, psince, pgone, pprops, pkl, pkh, pcl, pch, pdl, pdh⟩ : Pa) = ⟨pname, pkind, pinto, pslot, pmade, psince, qgone, qprops, qkl, qkh, qcl, qch, qdl, qdh⟩) = false from decide_eq_false fun e => egone (by injection e))
    clear egone
    rw [hd.out]
    go_enter Tryz.func17, Tryz.ntmps17
    go_wp2_with fail
    all_goals
      go_ret
      exact ⟨rfl, ((Below.refl _ _).alloc (Nat.le_refl _) _).alloc (by simp) _⟩
  obtain rfl := Classical.not_not.1 egone
  by_cases elife : ¬ (pkl = qkl ∧ pkh = qkh ∧ pcl = qcl ∧ pch = qch ∧ pdl = qdl ∧ pdh = qdh)
  · have hd := Lib.hid (show decide ((⟨pname, pkind, pinto, pslot, pmade, psince, pgone, pprops, pkl, pkh, pcl, pch, pdl, pdh⟩ : Pa) = ⟨pname, pkind, pinto, pslot, pmade, psince, pgone, qprops, qkl, qkh, qcl, qch, qdl, qdh⟩) = false from decide_eq_false fun e => elife (by injection e; exact ⟨by assumption, by assumption, by assumption, by assumption, by assumption, by assumption⟩))
    rw [hd.out]
    have HL := Lib.hid elife
    clear elife
    go_enter Tryz.func17, Tryz.ntmps17
    go_wp2_with fail
    all_goals first | (go_ret; exact ⟨rfl, ((Below.refl _ _).alloc (Nat.le_refl _) _).alloc (by simp) _⟩) | (exfalso; exact HL.out ⟨by assumption, by assumption, by assumption, by assumption, by assumption, by assumption⟩)
  obtain ⟨rfl, rfl, rfl, rfl, rfl, rfl⟩ := Classical.not_not.1 elife
  have hpp : decide ((⟨pname, pkind, pinto, pslot, pmade, psince, pgone, pprops, pkl, pkh, pcl, pch, pdl, pdh⟩ : Pa) = ⟨pname, pkind, pinto, pslot, pmade, psince, pgone, qprops, pkl, pkh, pcl, pch, pdl, pdh⟩) = decide (pprops = qprops) := by
    rw [decide_eq_decide]; exact ⟨fun e => by injection e, fun e => by rw [e]⟩
  rw [hpp]
  clear hpp
  by_cases hlen : ¬ pprops.length = qprops.length
  · have hb : ((pprops.length : Int) != (qprops.length : Int)) = true := by rw [bne_iff_ne]; omega
    have hd := Lib.hid (show decide (pprops = qprops) = false from decide_eq_false fun e => hlen (by rw [e]))
    rw [hd.out]
    clear hlen
    go_enter Tryz.func17, Tryz.ntmps17
    go_wp2_with fail
    go_ret
    exact ⟨rfl, HB.out⟩
  have HLN := Lib.hid (Classical.not_not.1 hlen)
  have hb : ((pprops.length : Int) != (qprops.length : Int)) = false := by rw [bne_eq_false_iff_eq]; have := Classical.not_not.1 hlen; omega
  clear hlen
  have k1 := (Has.new w 47 #[.string pname, .string pkind, .string pinto, .string pslot, .int .i64 pmade, .int .i64 psince, .bool pgone, .slice A1 pprops.length c1, .int .i64 pkl, .int .i64 pkh, .int .i64 pcl, .int .i64 pch, .int .i64 pdl, .int .i64 pdh]).alloc (.cells #[.string pname, .string pkind, .string pinto, .string pslot, .int .i64 pmade, .int .i64 psince, .bool pgone, .slice A2 qprops.length c2, .int .i64 pkl, .int .i64 pkh, .int .i64 pcl, .int .i64 pch, .int .i64 pdl, .int .i64 pdh] 47)
  have k2 := Has.new (w.alloc (.cells #[.string pname, .string pkind, .string pinto, .string pslot, .int .i64 pmade, .int .i64 psince, .bool pgone, .slice A1 pprops.length c1, .int .i64 pkl, .int .i64 pkh, .int .i64 pcl, .int .i64 pch, .int .i64 pdl, .int .i64 pdh] 47)) 47 #[.string pname, .string pkind, .string pinto, .string pslot, .int .i64 pmade, .int .i64 psince, .bool pgone, .slice A2 qprops.length c2, .int .i64 pkl, .int .i64 pkh, .int .i64 pcl, .int .i64 pch, .int .i64 pdl, .int .i64 pdh]
  simp only [World.size_alloc] at k2
  have K1 := Lib.hid k1
  have K2 := Lib.hid k2
  clear k1 k2
  go_enter Tryz.func17, Tryz.ntmps17
  go_wp2_with fail
  go_loopw [5] (fun i wr => ∃ k : Nat, k ≤ pprops.length ∧ i = .int .i64 k ∧ Hid (∀ j, j < k → pprops.getD j noPr = qprops.getD j noPr) ∧ Hid (Has wr w.heap.size 47 #[.string pname, .string pkind, .string pinto, .string pslot, .int .i64 pmade, .int .i64 psince, .bool pgone, .slice A1 pprops.length c1, .int .i64 pkl, .int .i64 pkh, .int .i64 pcl, .int .i64 pch, .int .i64 pdl, .int .i64 pdh]) ∧ Hid (Has wr (w.heap.size + 1) 47 #[.string pname, .string pkind, .string pinto, .string pslot, .int .i64 pmade, .int .i64 psince, .bool pgone, .slice A2 qprops.length c2, .int .i64 pkl, .int .i64 pkh, .int .i64 pcl, .int .i64 pch, .int .i64 pdl, .int .i64 pdh]) ∧ Hid (Below w.heap.size w wr)) (fun i _ => pprops.length - (intOf i).toNat)
  case atStart => exact ⟨0, Nat.zero_le _, rfl, fun j hj => absurd hj (by omega), K1.out, K2.out, HB.out⟩
  case round =>
    obtain ⟨k, hk, rfl, HT, HK1, HK2, HBB⟩ := hrel
    obtain ⟨x1, x2⟩ := HK1.out.facts
    obtain ⟨x3, x4⟩ := HK2.out.facts
    by_cases hlt : k < pprops.length
    · have hlq : k < qprops.length := by rw [← HLN.out]; exact hlt
      obtain ⟨b1, o1, c', cs', he, _, rfl, _, hr1⟩ := H1.out.get hlt noPr
      injection he with e1 e2 e3
      subst e1; subst e3
      obtain ⟨b2, o2, c'', cs'', he, _, rfl, _, hr2⟩ := H2.out.get hlq noPr
      injection he with e1 e2 e3
      subst e1; subst e3
      have hki : (k : Int) < (pprops.length : Int) := by omega
      have hkq : (k : Int) < (qprops.length : Int) := by omega
      have hd := Lib.hid (fun h : pprops.getD k noPr ≠ qprops.getD k noPr => (decide_eq_false fun e => h (by rw [e]) : decide (pprops = qprops) = false))
      have hs := Lib.hid (fun h : pprops.getD k noPr = qprops.getD k noPr => fun j (hj : j < k + 1) => (by
        rcases Nat.lt_or_ge j k with h1 | h1
        · exact HT.out j h1
        · obtain rfl : j = k := by omega
          exact h : pprops.getD j noPr = qprops.getD j noPr))
      have g1 := range_later hr1 HBB.out
      have g2 := range_later hr2 HBB.out
      clear hr1 hr2
      generalize pprops.getD k noPr = x at *
      generalize qprops.getD k noPr = y at *
      obtain ⟨xk, xv⟩ := x
      obtain ⟨yk, yv⟩ := y
      have y0 : wr.cell? ⟨b1, o1 + k * 2, none⟩ = some (.string xk) := g1 0 _ rfl
      have y1 : wr.cell? ⟨b1, o1 + k * 2 + 1, none⟩ = some (.string xv) := g1 1 _ rfl
      have y2 : wr.cell? ⟨b2, o2 + k * 2, none⟩ = some (.string yk) := g2 0 _ rfl
      have y3 : wr.cell? ⟨b2, o2 + k * 2 + 1, none⟩ = some (.string yv) := g2 1 _ rfl
      clear g1 g2
      cases ek : (xk.toList == yk.toList)
      · have hne := Lib.hid (hd.out (by rw [beq_bytes] at ek; have := of_decide_eq_false ek; simp [this]))
        go_wp2_with fail
        go_quiet (fail)
        go_wp2_with fail
        go_ret
        exact ⟨ret_bool (by rw [hne.out]), below_drewN HBB.out _⟩
      · cases ev : (xv.toList == yv.toList)
        · have hne := Lib.hid (hd.out (by rw [beq_bytes] at ev; have := of_decide_eq_false ev; simp [this]))
          go_wp2_with fail
          go_quiet (fail)
          go_wp2_with fail
          go_ret
          exact ⟨ret_bool (by rw [hne.out]), below_drewN HBB.out _⟩
        · have hst := Lib.hid (hs.out (by rw [beq_bytes] at ek ev; rw [of_decide_eq_true ek, of_decide_eq_true ev]))
          go_wp2_with fail
          go_quiet (fail)
          go_wp2_with fail
          go_roundw
          case rel => exact ⟨k + 1, by omega, by go_num, hst.out, HK1.out.drewN _, HK2.out.drewN _, below_drewN HBB.out _⟩
          case measure => simp [intOf]; omega
    · obtain rfl : k = pprops.length := by omega
      have hfin := Lib.hid (decide_eq_true (Pr_ext HLN.out HT.out) : decide (pprops = qprops) = true)
      go_wp2_with fail
      go_ret
      exact ⟨ret_bool (by rw [hfin.out]), HBB.out⟩
end Go.Proofs.YtpikcofbhkbifaaGreat
namespace Go.Proofs.YtpikcofbhkbifaaGreat
open Go Go.RowKit
theorem Pa_ext {l m : List Pa} (hl : l.length = m.length) (h : ∀ j, j < l.length → l.getD j noPa = m.getD j noPa) : l = m := by
  apply List.ext_getElem?
  intro j
  by_cases hj : j < l.length
  · have := h j hj
    rw [List.getD_eq_getElem?_getD, List.getD_eq_getElem?_getD, List.getElem?_eq_getElem hj, List.getElem?_eq_getElem (by omega)] at this
    rw [List.getElem?_eq_getElem hj, List.getElem?_eq_getElem (by omega)]
    simpa using this
  · rw [List.getElem?_eq_none (by omega), List.getElem?_eq_none (by omega)]
set_option maxRecDepth 100000 in
set_option maxHeartbeats 4000000 in
theorem same10_any (w0 : World) (v1 v2 : Value) (l m : List Pa) (w : World) (hb0 : Below w0.heap.size w0 w) (h1 : Sta w0 v1 l) (h2 : Sta w0 v2 m) (hl1 : l.length ≤ 1000000) (_hl2 : m.length ≤ 1000000) (hs1 : ∀ p ∈ l, p.props.length ≤ 100000) (hs2 : ∀ p ∈ m, p.props.length ≤ 100000) :
    Calls Tryz.prog 12 #[.agg #[v1], .agg #[v2]] w fun e w' => e = .returned (.bool (decide (l = m))) ∧ Below w.heap.size w w' := by
  obtain ⟨A1, c1, rfl, hn1⟩ := Rd.form h1
  obtain ⟨A2, c2, rfl, hn2⟩ := Rd.form h2
  have H1 := Lib.hid h1
  have H2 := Lib.hid h2
  have HB0 := Lib.hid hb0
  have HS1 := Lib.hid hs1
  have HS2 := Lib.hid hs2
  have k1 := (Has.new w 27 #[.slice A1 l.length c1]).alloc (.cells #[.slice A2 m.length c2] 27)
  have k2 := Has.new (w.alloc (.cells #[.slice A1 l.length c1] 27)) 27 #[.slice A2 m.length c2]
  simp only [World.size_alloc] at k2
  have K1 := Lib.hid k1
  have K2 := Lib.hid k2
  have HB := Lib.hid (((Below.refl w.heap.size w).alloc (Nat.le_refl _) (.cells #[.slice A1 l.length c1] 27)).alloc (by simp) (.cells #[.slice A2 m.length c2] 27))
  clear h1 h2 hb0 hs1 hs2 k1 k2
  by_cases hlen : ¬ l.length = m.length
  · have hb : ((l.length : Int) != (m.length : Int)) = true := by rw [bne_iff_ne]; omega
    have hd := Lib.hid (show decide (l = m) = false from decide_eq_false fun e => hlen (by rw [e]))
    rw [hd.out]
    clear hlen
    go_enter Tryz.func12, Tryz.ntmps12
    go_wp2_with fail
    go_ret
    exact ⟨rfl, HB.out⟩
  have HLN := Lib.hid (Classical.not_not.1 hlen)
  have hb : ((l.length : Int) != (m.length : Int)) = false := by rw [bne_eq_false_iff_eq]; have := Classical.not_not.1 hlen; omega
  clear hlen
  go_enter Tryz.func12, Tryz.ntmps12
  go_wp2_with fail
  go_loopw [5] (fun i wr => ∃ k : Nat, k ≤ l.length ∧ i = .int .i64 k ∧ Hid (∀ j, j < k → l.getD j noPa = m.getD j noPa) ∧ Hid (Has wr w.heap.size 27 #[.slice A1 l.length c1]) ∧ Hid (Has wr (w.heap.size + 1) 27 #[.slice A2 m.length c2]) ∧ Hid (Below w.heap.size w wr)) (fun i _ => l.length - (intOf i).toNat)
  case atStart => exact ⟨0, Nat.zero_le _, rfl, fun j hj => absurd hj (by omega), K1.out, K2.out, HB.out⟩
  case round =>
    obtain ⟨k, hk, rfl, HT, HK1, HK2, HBB⟩ := hrel
    by_cases hlt : k < l.length
    · have hlq : k < m.length := by rw [← HLN.out]; exact hlt
      obtain ⟨b1, o1, c', cs', he, _, ⟨sv1, rfl, hp1⟩, _, hr1⟩ := H1.out.get hlt noPa
      injection he with e1 e2 e3
      subst e1; subst e3
      obtain ⟨b2, o2, c'', cs'', he, _, ⟨sv2, rfl, hp2⟩, _, hr2⟩ := H2.out.get hlq noPa
      injection he with e1 e2 e3
      subst e1; subst e3
      obtain ⟨A3, c3, rfl, hn3⟩ := hp1.form
      obtain ⟨A4, c4, rfl, hn4⟩ := hp2.form
      have hki : (k : Int) < (l.length : Int) := by omega
      have hkq : (k : Int) < (m.length : Int) := by omega
      have hd := Lib.hid (fun h : l.getD k noPa ≠ m.getD k noPa => (decide_eq_false fun e => h (by rw [e]) : decide (l = m) = false))
      have hs := Lib.hid (fun h : l.getD k noPa = m.getD k noPa => fun j (hj : j < k + 1) => (by
        rcases Nat.lt_or_ge j k with h1 | h1
        · exact HT.out j h1
        · obtain rfl : j = k := by omega
          exact h : l.getD j noPa = m.getD j noPa))
      have hB0 := HB0.out.trans (HBB.out.mono HB0.out.size)
      have g1 := range_later hr1 hB0
      have g2 := range_later hr2 hB0
      have HP1 := Lib.hid (hp1.below PrR.stays hB0)
      have HP2 := Lib.hid (hp2.below PrR.stays hB0)
      have hl3 := HS1.out _ (getD_mem l k noPa hlt)
      have hl4 := HS2.out _ (getD_mem m k noPa hlq)
      have x1 : wr.cell? ⟨w.heap.size, 0, none⟩ = some (.slice (some ⟨b1, o1, none⟩) l.length c1) := HK1.out.facts.1 0
      have x2 : wr.cell? ⟨w.heap.size + 1, 0, none⟩ = some (.slice (some ⟨b2, o2, none⟩) m.length c2) := HK2.out.facts.1 0
      clear hr1 hr2 hp1 hp2 hB0
      generalize l.getD k noPa = x at *
      generalize m.getD k noPa = y at *
      obtain ⟨pname, pkind, pinto, pslot, pmade, psince, pgone, pprops, pkl, pkh, pcl, pch, pdl, pdh⟩ := x
      obtain ⟨qname, qkind, qinto, qslot, qmade, qsince, qgone, qprops, qkl, qkh, qcl, qch, qdl, qdh⟩ := y
      unfold Pa.cells at g1 g2
      dsimp only at g1 g2 hn3 hn4 HP1 HP2 hl3 hl4
      obtain ⟨y0, y1, y2, y3, y4, y5, y6, y7, y8, y9, y10, y11, y12, y13⟩ := part_facts g1
      obtain ⟨z0, z1, z2, z3, z4, z5, z6, z7, z8, z9, z10, z11, z12, z13⟩ := part_facts g2
      clear g1 g2 hn3 hn4
      have hbb : Below wr.heap.size wr wr := Below.refl _ _
      have HSP := Lib.hid (fun W (h : Below wr.heap.size wr W) => samePart_any pname pkind pinto pslot pmade psince pgone pprops pkl pkh pcl pch pdl pdh qname qkind qinto qslot qmade qsince qgone qprops qkl qkh qcl qch qdl qdh A3 A4 c3 c4 W (HP1.out.below PrR.stays h) (HP2.out.below PrR.stays h) hl3 hl4)
      cases hE : decide ((⟨pname, pkind, pinto, pslot, pmade, psince, pgone, pprops, pkl, pkh, pcl, pch, pdl, pdh⟩ : Pa) = ⟨qname, qkind, qinto, qslot, qmade, qsince, qgone, qprops, qkl, qkh, qcl, qch, qdl, qdh⟩)
      all_goals
        have hE2 := Lib.hid hE
        clear hE
        go_wp2_with fail
        go_region_held3 (fun w' => Below wr.heap.size wr w' ∧ w'.cell? ⟨w.heap.size, 0, none⟩ = some (.slice (some ⟨b1, o1, none⟩) l.length c1) ∧ w'.cell? ⟨w.heap.size + 1, 0, none⟩ = some (.slice (some ⟨b2, o2, none⟩) m.length c2) ∧ w'.cell? ⟨b1, o1 + k * 14, none⟩ = some (.string pname) ∧ w'.cell? ⟨b1, o1 + k * 14 + 1, none⟩ = some (.string pkind) ∧ w'.cell? ⟨b1, o1 + k * 14 + 2, none⟩ = some (.string pinto) ∧ w'.cell? ⟨b1, o1 + k * 14 + 3, none⟩ = some (.string pslot) ∧ w'.cell? ⟨b1, o1 + k * 14 + 4, none⟩ = some (.int .i64 pmade) ∧ w'.cell? ⟨b1, o1 + k * 14 + 5, none⟩ = some (.int .i64 psince) ∧ w'.cell? ⟨b1, o1 + k * 14 + 6, none⟩ = some (.bool pgone) ∧ w'.cell? ⟨b1, o1 + k * 14 + 7, none⟩ = some (.slice A3 pprops.length c3) ∧ w'.cell? ⟨b1, o1 + k * 14 + 8, none⟩ = some (.int .i64 pkl) ∧ w'.cell? ⟨b1, o1 + k * 14 + 9, none⟩ = some (.int .i64 pkh) ∧ w'.cell? ⟨b1, o1 + k * 14 + 10, none⟩ = some (.int .i64 pcl) ∧ w'.cell? ⟨b1, o1 + k * 14 + 11, none⟩ = some (.int .i64 pch) ∧ w'.cell? ⟨b1, o1 + k * 14 + 12, none⟩ = some (.int .i64 pdl) ∧ w'.cell? ⟨b1, o1 + k * 14 + 13, none⟩ = some (.int .i64 pdh) ∧ w'.cell? ⟨b2, o2 + k * 14, none⟩ = some (.string qname) ∧ w'.cell? ⟨b2, o2 + k * 14 + 1, none⟩ = some (.string qkind) ∧ w'.cell? ⟨b2, o2 + k * 14 + 2, none⟩ = some (.string qinto) ∧ w'.cell? ⟨b2, o2 + k * 14 + 3, none⟩ = some (.string qslot) ∧ w'.cell? ⟨b2, o2 + k * 14 + 4, none⟩ = some (.int .i64 qmade) ∧ w'.cell? ⟨b2, o2 + k * 14 + 5, none⟩ = some (.int .i64 qsince) ∧ w'.cell? ⟨b2, o2 + k * 14 + 6, none⟩ = some (.bool qgone) ∧ w'.cell? ⟨b2, o2 + k * 14 + 7, none⟩ = some (.slice A4 qprops.length c4) ∧ w'.cell? ⟨b2, o2 + k * 14 + 8, none⟩ = some (.int .i64 qkl) ∧ w'.cell? ⟨b2, o2 + k * 14 + 9, none⟩ = some (.int .i64 qkh) ∧ w'.cell? ⟨b2, o2 + k * 14 + 10, none⟩ = some (.int .i64 qcl) ∧ w'.cell? ⟨b2, o2 + k * 14 + 11, none⟩ = some (.int .i64 qch) ∧ w'.cell? ⟨b2, o2 + k * 14 + 12, none⟩ = some (.int .i64 qdl) ∧ w'.cell? ⟨b2, o2 + k * 14 + 13, none⟩ = some (.int .i64 qdh))
          (refine ⟨?_, ?_, ?_, ?_, ?_, ?_, ?_, ?_, ?_, ?_, ?_, ?_, ?_, ?_, ?_, ?_, ?_, ?_, ?_, ?_, ?_, ?_, ?_, ?_, ?_, ?_, ?_, ?_, ?_, ?_, ?_⟩ <;> first | assumption | exact hbb.drew | exact hbw | exact hbw.drew | exact cell_later hbb.drew (by assumption) | exact cell_later hbw (by assumption) | exact cell_later hbw.drew (by assumption))
          ((go_at_call 17; refine (HSP.out _ (by first | exact hbb | exact hbb.drew)).mono ?_; rintro e w5 ⟨rfl, hb5⟩; rw [hE2.out]; have hbw : Below wr.heap.size wr w5 := (by first | exact hb5 | exact hbb.drew.trans hb5); clear hb5))
        rename_i hHeld
        have hBW := hHeld.1
        clear hHeld
      · have hne := Lib.hid (hd.out (of_decide_eq_false hE2.out))
        go_wp2_with fail
        go_ret
        exact ⟨ret_bool (by rw [hne.out]), HBB.out.trans (hBW.mono HBB.out.size)⟩
      · have hst := Lib.hid (hs.out (of_decide_eq_true hE2.out))
        go_wp2_with fail
        go_roundw
        case rel => exact ⟨k + 1, by omega, by go_num, hst.out, HK1.out.below hBW HK1.out.lt, HK2.out.below hBW HK2.out.lt, HBB.out.trans (hBW.mono HBB.out.size)⟩
        case measure => simp [intOf]; omega
    · obtain rfl : k = l.length := by omega
      obtain ⟨x1, x2⟩ := HK1.out.facts
      have hfin := Lib.hid (decide_eq_true (Pa_ext HLN.out HT.out) : decide (l = m) = true)
      go_wp2_with fail
      go_ret
      exact ⟨ret_bool (by rw [hfin.out]), HBB.out⟩
end Go.Proofs.YtpikcofbhkbifaaGreat
