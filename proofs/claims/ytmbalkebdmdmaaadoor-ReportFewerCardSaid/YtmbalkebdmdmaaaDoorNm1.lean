/- Sorted lists of names, each once: plain laws. -/
import Derived.Test.YtmbalkebdmdmaaaDoorJoi
namespace Go.Proofs.YtmbalkebdmdmaaaDoor
open Go Go.RowKit
theorem le_tot (a b : List UInt8) : (decide (a ≤ b) || decide (b ≤ a)) = true := by
  rcases List.le_total a b with h | h <;> simp [h]
theorem le_tr (a b c : List UInt8) (h1 : decide (a ≤ b) = true) (h2 : decide (b ≤ c) = true) : decide (a ≤ c) = true := by
  simp only [decide_eq_true_eq] at *
  exact List.le_trans h1 h2
theorem lt_of_le_ne (a b : List UInt8) (h : a ≤ b) (hn : a ≠ b) : a < b := by
  by_cases h1 : a < b
  · exact h1
  · exact absurd (List.le_antisymm h (List.not_lt.1 h1)) hn
theorem sorted_ms (S : List (List UInt8)) : (S.mergeSort fun x y => decide (x ≤ y)).Pairwise (· ≤ ·) := by
  have := List.pairwise_mergeSort le_tr le_tot S
  simpa using this
theorem getbang (zs : List (List UInt8)) (j : Nat) (h : j < zs.length) : zs.toArray[j]! = zs[j] := by
  rw [getElem!_pos _ j (by simpa using h)]; simp
theorem mem_upTo (zs : List (List UInt8)) : ∀ m, m ≤ zs.length → ∀ x, x ∈ Lib.compactUpTo zs.toArray m ↔ ∃ j, j < m ∧ x = zs.toArray[j]! := by
  intro m
  induction m with
  | zero => intro _ x; simp [Lib.compactUpTo]
  | succ m ih =>
    intro hm x
    rw [Lib.compactUpTo_succ, List.mem_append, ih (by omega)]
    constructor
    · rintro (⟨j, hj, rfl⟩ | h)
      · exact ⟨j, by omega, rfl⟩
      · split at h
        · exact ⟨m, by omega, by simpa using h⟩
        · cases h
    · rintro ⟨j, hj, rfl⟩
      rcases Nat.lt_or_ge j m with h | h
      · exact .inl ⟨j, h, rfl⟩
      · obtain rfl : j = m := by omega
        by_cases hk : Lib.keeps zs.toArray j = true
        · right; rw [if_pos hk]; simp
        · left
          simp only [Lib.keeps, decide_eq_true_eq, not_or, Decidable.not_not] at hk
          exact ⟨j - 1, by omega, hk.2⟩
theorem upTo_sorted (zs : List (List UInt8)) (hs : zs.Pairwise (· ≤ ·)) : ∀ m, m ≤ zs.length → (Lib.compactUpTo zs.toArray m).Pairwise (· < ·) := by
  intro m
  induction m with
  | zero => intro _; simp [Lib.compactUpTo]
  | succ m ih =>
    intro hm
    rw [Lib.compactUpTo_succ, List.pairwise_append]
    refine ⟨ih (by omega), by split <;> simp, fun x hx y hy => ?_⟩
    split at hy
    · rename_i hk
      obtain rfl : y = zs.toArray[m]! := by simpa using hy
      obtain ⟨j, hj, rfl⟩ := (mem_upTo zs m (by omega) x).1 hx
      simp only [Lib.keeps, decide_eq_true_eq] at hk
      have hk' := hk.resolve_left (by omega)
      rw [getbang _ _ (by omega), getbang _ _ (by omega)] at hk'
      rw [getbang _ _ (by omega), getbang _ _ (by omega)]
      have h1 : ∀ a b (ha : a < b) (hb : b < zs.length), zs[a] ≤ zs[b] := fun a b ha hb => List.pairwise_iff_getElem.1 hs a b (by omega) hb ha
      have h2 : zs[m - 1] < zs[m] := lt_of_le_ne _ _ (h1 _ _ (by omega) (by omega)) (fun e => hk' e.symm)
      rcases Nat.lt_or_ge j (m - 1) with h | h
      · exact List.lt_of_le_of_lt (h1 j (m - 1) h (by omega)) h2
      · obtain rfl : j = m - 1 := by omega
        exact h2
    · cases hy
theorem joinL_mem (S : List ByteArray) (s : ByteArray) : s ∈ joinL S ↔ s ∈ S := by
  unfold joinL
  rw [List.mem_map]
  constructor
  · rintro ⟨l, hl, rfl⟩
    obtain ⟨j, hj, rfl⟩ := (mem_upTo _ _ (Nat.le_refl _) l).1 hl
    rw [getbang _ _ hj]
    have : (sortL S)[j] ∈ sortL S := List.getElem_mem _
    have h2 : (sortL S)[j] ∈ S.map toL := by unfold sortL at this; exact List.mem_mergeSort.1 this
    obtain ⟨t, ht, he⟩ := List.mem_map.1 h2
    rw [← he, ofL_toL]; exact ht
  · intro hs
    refine ⟨toL s, ?_, ofL_toL s⟩
    have h2 : toL s ∈ sortL S := by unfold sortL; exact List.mem_mergeSort.2 (List.mem_map.2 ⟨s, hs, rfl⟩)
    obtain ⟨j, hj, he⟩ := List.getElem_of_mem h2
    exact (mem_upTo _ _ (Nat.le_refl _) _).2 ⟨j, hj, by rw [getbang _ _ hj, he]⟩
theorem joinL_sorted (S : List ByteArray) : (joinL S).Pairwise (fun a b => toL a < toL b) := by
  unfold joinL
  rw [List.pairwise_map]
  have := upTo_sorted (sortL S) (sorted_ms _) _ (Nat.le_refl _)
  exact this.imp fun h => by rw [toL_ofL, toL_ofL]; exact h
theorem joinL_step (S : List ByteArray) (k : Nat) (h : k + 1 < (joinL S).length) : toL ((joinL S).getD k ByteArray.empty) < toL ((joinL S).getD (k + 1) ByteArray.empty) := by
  rw [List.getD_eq_getElem?_getD, List.getD_eq_getElem?_getD, List.getElem?_eq_getElem (by omega), List.getElem?_eq_getElem h]
  exact List.pairwise_iff_getElem.1 (joinL_sorted S) k (k + 1) (by omega) h (by omega)
end Go.Proofs.YtmbalkebdmdmaaaDoor
