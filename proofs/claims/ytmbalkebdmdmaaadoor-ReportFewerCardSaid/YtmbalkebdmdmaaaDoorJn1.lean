/- Reports, numbers and events one behind the other: plain laws for the statement ReportJoins. -/
import Derived.Test.YtmbalkebdmdmaaaDoorPk1
import Derived.Test.YtmbalkebdmdmaaaDoorApp
namespace Go.Proofs.YtmbalkebdmdmaaaDoor
open Go Go.RowKit
theorem getD_app_l {α : Type} (l m : List α) (d : α) {i : Nat} (h : i < l.length) : (l ++ m).getD i d = l.getD i d := by
  rw [List.getD_eq_getElem?_getD, List.getElem?_append_left h, ← List.getD_eq_getElem?_getD]
theorem getD_app_r {α : Type} (l m : List α) (d : α) (k : Nat) : (l ++ m).getD (l.length + k) d = m.getD k d := by
  rw [List.getD_eq_getElem?_getD, List.getElem?_append_right (by omega), Nat.add_sub_cancel_left, ← List.getD_eq_getElem?_getD]
theorem pickOk_app {L M : List Rep} {ch ot : List Int} (h1 : L.length = ch.length) (h2 : M.length = ot.length) : pickOk (L ++ M) (ch ++ ot) = (pickOk L ch && pickOk M ot) := by
  unfold pickOk
  rw [Bool.eq_iff_iff, Bool.and_eq_true, decide_eq_true_iff, decide_eq_true_iff, decide_eq_true_iff]
  constructor
  · rintro ⟨_, h⟩
    refine ⟨⟨h1, fun i hi => ?_⟩, h2, fun i hi => ?_⟩
    · have := h i (by simp; omega)
      rwa [getD_app_l _ _ _ hi, getD_app_l _ _ _ (by omega)] at this
    · have := h (L.length + i) (by simp; omega)
      rw [getD_app_r] at this
      rw [h1, getD_app_r] at this
      exact this
  · rintro ⟨⟨_, ha⟩, _, hb⟩
    refine ⟨by simp; omega, fun i hi => ?_⟩
    rcases Nat.lt_or_ge i L.length with h | h
    · rw [getD_app_l _ _ _ h, getD_app_l _ _ _ (by omega)]; exact ha i h
    · obtain ⟨k, rfl⟩ : ∃ k, i = L.length + k := ⟨i - L.length, by omega⟩
      rw [getD_app_r, h1, getD_app_r]
      exact hb k (by simp at hi; omega)
theorem pk_congr {L M : List Rep} {ch ot : List Int} {k : Nat} (h : ∀ i, i < k → one (L.getD i noRep) (ch.getD i 0) = one (M.getD i noRep) (ot.getD i 0)) : pk L ch k = pk M ot k := by
  induction k with
  | zero => rfl
  | succ k ih => rw [pk_succ, pk_succ, ih fun i hi => h i (by omega), h k (by omega)]
theorem pk_app {L M : List Rep} {ch ot : List Int} (h1 : L.length = ch.length) (k : Nat) : pk (L ++ M) (ch ++ ot) (L.length + k) = pk L ch L.length ++ pk M ot k := by
  induction k with
  | zero =>
    rw [Nat.add_zero, pk_zero, List.append_nil]
    exact pk_congr fun i hi => by rw [getD_app_l _ _ _ hi, getD_app_l _ _ _ (by omega)]
  | succ k ih =>
    rw [← Nat.add_assoc, pk_succ, ih, pk_succ, List.append_assoc, getD_app_r]
    rw [h1, getD_app_r]
/-- The cells of a list of reports, in memory w. -/
def RepsC (w : World) (cs : List Value) (L : List Rep) : Prop :=
  cs.length = L.length * 2 ∧ (∀ u ∈ cs, u.oneCell' = true) ∧ ∀ i, i < L.length → ∃ sv, cs[i * 2]? = some sv ∧ cs[i * 2 + 1]? = some (.bool (L.getD i noRep).doubt) ∧ Sl w sv (L.getD i noRep).opts.length 14 (evF (L.getD i noRep).opts)
theorem RepsC.below {w w' : World} {cs : List Value} {L : List Rep} (h : RepsC w cs L) (hb : Below w.heap.size w w') : RepsC w' cs L :=
  ⟨h.1, h.2.1, fun i hi => by obtain ⟨sv, h1, h2, h3⟩ := h.2.2 i hi; exact ⟨sv, h1, h2, h3.below hb⟩⟩
theorem RepsC.app {w : World} {cs ds : List Value} {L M : List Rep} (h : RepsC w cs L) (h' : RepsC w ds M) : RepsC w (cs ++ ds) (L ++ M) := by
  refine ⟨by rw [List.length_append, List.length_append, h.1, h'.1]; omega, fun u hu => ?_, fun i hi => ?_⟩
  · rcases List.mem_append.1 hu with h1 | h1
    · exact h.2.1 u h1
    · exact h'.2.1 u h1
  · rcases Nat.lt_or_ge i L.length with hlt | hge
    · rw [getD_app_l _ _ _ hlt, List.getElem?_append_left (by have := h.1; omega), List.getElem?_append_left (by have := h.1; omega)]
      exact h.2.2 i hlt
    · obtain ⟨k, rfl⟩ : ∃ k, i = L.length + k := ⟨i - L.length, by omega⟩
      rw [getD_app_r, List.getElem?_append_right (by have := h.1; omega), List.getElem?_append_right (by have := h.1; omega), h.1]
      rw [show (L.length + k) * 2 - L.length * 2 = k * 2 by omega, show (L.length + k) * 2 + 1 - L.length * 2 = k * 2 + 1 by omega]
      exact h'.2.2 k (by simp at hi; omega)
theorem RepsC.none_ (w : World) : RepsC w [] [] := ⟨rfl, (fun u hu => by cases hu), fun i hi => by simp at hi⟩
/-- What a slice of reports holds. -/
theorem Reps.cells {w : World} {A : Option Addr} {n c : Nat} {L : List Rep} (h : Reps w (.slice A n c) L) : n = L.length ∧ ∃ cs, RepsC w cs L ∧ (L.length = 0 ∨ ∃ ad, A = some ad ∧ ∀ j u, cs[j]? = some u → w.cell? (ad.add j) = some u) := by
  obtain ⟨A', c', he, _, h0 | ⟨b, o, hA, hc⟩⟩ := h
  · injection he with e1 e2 e3
    obtain rfl := List.eq_nil_of_length_eq_zero h0
    exact ⟨e2, [], RepsC.none_ w, .inl h0⟩
  · injection he with e1 e2 e3
    let f : Nat → Value := fun i => if h : i < L.length then Classical.choose (hc i h) else undef
    have hf : ∀ i (hi : i < L.length), w.cell? ⟨b, o + i * 2, none⟩ = some (f i) ∧ w.cell? ⟨b, o + i * 2 + 1, none⟩ = some (.bool (L.getD i noRep).doubt) ∧ Sl w (f i) (L.getD i noRep).opts.length 14 (evF (L.getD i noRep).opts) := by
      intro i hi
      have : f i = Classical.choose (hc i hi) := dif_pos hi
      rw [this]; exact Classical.choose_spec (hc i hi)
    let g : Nat → Value := fun j => if j % 2 = 0 then f (j / 2) else .bool (L.getD (j / 2) noRep).doubt
    have hg : ∀ j, j < L.length * 2 → w.cell? ⟨b, o + j, none⟩ = some (g j) := by
      intro j hj
      obtain ⟨h1, h2, _⟩ := hf (j / 2) (by omega)
      rcases (show j % 2 = 0 ∨ j % 2 = 1 by omega) with hm | hm
      · show _ = some (if j % 2 = 0 then f (j / 2) else _)
        rw [if_pos hm, ← h1]; congr 2; omega
      · show _ = some (if j % 2 = 0 then f (j / 2) else _)
        rw [if_neg (by omega), ← h2]; congr 2; omega
    refine ⟨e2, slCells (L.length * 2) g, ⟨slCells_len _ _, fun u hu => ?_, fun i hi => ?_⟩, .inr ⟨_, e1.trans hA, fun j u hu => ?_⟩⟩
    · simp only [slCells, List.mem_map, List.mem_range] at hu
      obtain ⟨j, hj, rfl⟩ := hu
      show (if j % 2 = 0 then f (j / 2) else _).oneCell' = true
      split
      · obtain ⟨A3, c3, h3, _⟩ := (hf (j / 2) (by omega)).2.2
        rw [h3]; rfl
      · rfl
    · refine ⟨f i, ?_, ?_, (hf i hi).2.2⟩
      · rw [slCells_get _ _ _ (by omega)]
        show some (if i * 2 % 2 = 0 then f (i * 2 / 2) else _) = _
        rw [if_pos (by omega), show i * 2 / 2 = i by omega]
      · rw [slCells_get _ _ _ (by omega)]
        show some (if (i * 2 + 1) % 2 = 0 then _ else Value.bool (L.getD ((i * 2 + 1) / 2) noRep).doubt) = _
        rw [if_neg (by omega), show (i * 2 + 1) / 2 = i by omega]
    · have hj : j < L.length * 2 := by
        rcases Nat.lt_or_ge j (L.length * 2) with h1 | h1
        · exact h1
        · rw [List.getElem?_eq_none (by rw [slCells_len]; exact h1)] at hu; cases hu
      rw [slCells_get _ _ _ hj] at hu
      rw [Addr.add_mid, hg j hj, hu]
/-- An owned row of reports' cells reads as reports. -/
theorem reps_own {w : World} {base t : Nat} {v : Value} {cs : List Value} {L : List Rep} (h : w.ownsRow base t 2 v L.length cs) (hc : RepsC w cs L) : Reps w v L := by
  obtain ⟨A, c, hv, hn, h0 | ⟨b, o, hA, hcell⟩⟩ := sl_row h
  · exact ⟨A, c, hv, hn, .inl h0⟩
  · refine ⟨A, c, hv, hn, .inr ⟨b, o, hA, fun i hi => ?_⟩⟩
    obtain ⟨sv, h1, h2, h3⟩ := hc.2.2 i hi
    refine ⟨sv, ?_, ?_, h3⟩
    · rw [hcell _ (by omega)]; show some ((cs[i * 2]?).getD undef) = _; rw [h1]; rfl
    · rw [Nat.add_assoc, hcell _ (by omega)]; show some ((cs[i * 2 + 1]?).getD undef) = _; rw [h2]; rfl
theorem intF_app (l m : List Int) (j : Nat) (h : j < l.length + m.length) : ((slCells (l.length * 1) (intF l) ++ slCells (m.length * 1) (intF m))[j]?).getD undef = intF (l ++ m) j := by
  rcases Nat.lt_or_ge j l.length with h1 | h1
  · rw [List.getElem?_append_left (by rw [slCells_len]; omega), slCells_get _ _ _ (by omega)]
    unfold intF; rw [getD_app_l _ _ _ h1]; rfl
  · obtain ⟨k, rfl⟩ : ∃ k, j = l.length + k := ⟨j - l.length, by omega⟩
    rw [List.getElem?_append_right (by rw [slCells_len]; omega), slCells_len, slCells_get _ _ _ (by omega), Nat.mul_one, Nat.add_sub_cancel_left]
    unfold intF; rw [getD_app_r]; rfl
theorem evF_app (l m : List Ev) (j : Nat) (h : j < (l.length + m.length) * 14) : ((slCells (l.length * 14) (evF l) ++ slCells (m.length * 14) (evF m))[j]?).getD undef = evF (l ++ m) j := by
  rcases Nat.lt_or_ge j (l.length * 14) with h1 | h1
  · rw [List.getElem?_append_left (by rw [slCells_len]; omega), slCells_get _ _ _ (by omega)]
    unfold evF; rw [getD_app_l _ _ _ (by omega)]; rfl
  · obtain ⟨k, rfl⟩ : ∃ k, j = l.length * 14 + k := ⟨j - l.length * 14, by omega⟩
    rw [List.getElem?_append_right (by rw [slCells_len]; omega), slCells_len, Nat.add_sub_cancel_left, slCells_get _ _ _ (by omega)]
    unfold evF
    rw [show (l.length * 14 + k) / 14 = l.length + k / 14 by omega, getD_app_r, show (l.length * 14 + k) % 14 = k % 14 by omega]; rfl
theorem slCells_one {k : Nat} {f : Nat → Value} (h : ∀ j, j < k → (f j).oneCell' = true) : ∀ u ∈ slCells k f, u.oneCell' = true := by
  intro u hu
  simp only [slCells, List.mem_map, List.mem_range] at hu
  obtain ⟨j, hj, rfl⟩ := hu
  exact h j hj
theorem intF_one (l : List Int) (j : Nat) : (intF l j).oneCell' = true := rfl
theorem evF_one (l : List Ev) (j : Nat) : (evF l j).oneCell' = true := by
  unfold evF
  have hj : j % 14 < 14 := Nat.mod_lt _ (by omega)
  generalize j % 14 = r at *
  obtain rfl | rfl | rfl | rfl | rfl | rfl | rfl | rfl | rfl | rfl | rfl | rfl | rfl | rfl : r = 0 ∨ r = 1 ∨ r = 2 ∨ r = 3 ∨ r = 4 ∨ r = 5 ∨ r = 6 ∨ r = 7 ∨ r = 8 ∨ r = 9 ∨ r = 10 ∨ r = 11 ∨ r = 12 ∨ r = 13 := by omega
  all_goals rfl
end Go.Proofs.YtmbalkebdmdmaaaDoor
