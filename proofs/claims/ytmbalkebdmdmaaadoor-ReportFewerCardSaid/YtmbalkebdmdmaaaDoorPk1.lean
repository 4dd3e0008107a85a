/- What choices pick: plain lemmas for the statement ReportPicks. -/
import Derived.Test.YtmbalkebdmdmaaaDoorRep4
namespace Go.Proofs.YtmbalkebdmdmaaaDoor
open Go Go.RowKit
theorem pk_ext (L : List Rep) (ch : List Int) (k m : Nat) : ∃ t, pk L ch (k + m) = pk L ch k ++ t := by
  induction m with
  | zero => exact ⟨[], by simp⟩
  | succ m ih =>
    obtain ⟨t, ht⟩ := ih
    exact ⟨t ++ one (L.getD (k + m) noRep) (ch.getD (k + m) 0), by rw [← Nat.add_assoc, pk_succ, ht, List.append_assoc]⟩
theorem pk_at {L : List Rep} {ch : List Int} {k : Nat} {e : Ev} (hk : k < L.length) (h : one (L.getD k noRep) (ch.getD k 0) = [e]) :
    (pk L ch k).length < (pk L ch L.length).length ∧ (pk L ch L.length).getD (pk L ch k).length noEv = e := by
  obtain ⟨t, ht⟩ := pk_ext L ch (k + 1) (L.length - (k + 1))
  rw [show k + 1 + (L.length - (k + 1)) = L.length by omega, pk_succ, h] at ht
  rw [ht]
  constructor
  · simp; try omega
  · rw [List.getD_eq_getElem?_getD, List.append_assoc, List.getElem?_append_right (Nat.le_refl _)]; simp
/-- Are the first k numbers choices, and are there as many numbers as reports? -/
def rtB (L : List Rep) (ch : List Int) (k : Nat) : Bool := decide (L.length = ch.length ∧ ∀ i, i < k → isC (L.getD i noRep) (ch.getD i 0) = true)
theorem rtB_all (L : List Rep) (ch : List Int) : rtB L ch L.length = pickOk L ch := rfl
theorem rtB_zero (L : List Rep) (ch : List Int) : rtB L ch 0 = decide (L.length = ch.length) := by
  unfold rtB; simp
theorem rtB_succ (L : List Rep) (ch : List Int) (k : Nat) : rtB L ch (k + 1) = (rtB L ch k && isC (L.getD k noRep) (ch.getD k 0)) := by
  unfold rtB
  rw [Bool.eq_iff_iff, Bool.and_eq_true, decide_eq_true_iff, decide_eq_true_iff]
  constructor
  · rintro ⟨h1, h2⟩; exact ⟨⟨h1, fun i hi => h2 i (by omega)⟩, h2 k (by omega)⟩
  · rintro ⟨⟨h1, h2⟩, h3⟩
    refine ⟨h1, fun i hi => ?_⟩
    rcases Nat.lt_or_ge i k with h | h
    · exact h2 i h
    · obtain rfl : i = k := by omega
      exact h3
theorem rtB_len {L : List Rep} {ch : List Int} {k : Nat} (h : rtB L ch k = true) : L.length = ch.length := by
  unfold rtB at h; exact (decide_eq_true_iff.1 h).1
theorem isC_no {r : Rep} {n : Int} (h : repOk r.opts = false) : isC r n = false := by
  unfold isC; rw [numC_no h]; exact decide_eq_false (by omega)
theorem isC_of {r : Rep} {n : Int} (h0 : 0 ≤ n) (h1 : n < numC r.opts r.doubt) : isC r n = true := decide_eq_true ⟨h0, h1⟩
theorem isC_lo {r : Rep} {n : Int} (h0 : n < 0) : isC r n = false := decide_eq_false (by omega)
theorem isC_hi {r : Rep} {n : Int} (h1 : (numC r.opts r.doubt : Int) ≤ n) : isC r n = false := decide_eq_false (by omega)
theorem isC_pick {L : List Rep} {ch : List Int} (h : pickOk L ch = true) {k : Nat} (hk : k < L.length) : L.length = ch.length ∧ isC (L.getD k noRep) (ch.getD k 0) = true := by
  have := decide_eq_true_iff.1 h; exact ⟨this.1, this.2 k hk⟩
theorem repOk_pos {l : List Ev} (h : repOk l = true) : 1 ≤ l.length := by
  simp only [repOk, Bool.and_eq_true, decide_eq_true_eq] at h; exact h.1.1
end Go.Proofs.YtmbalkebdmdmaaaDoor
