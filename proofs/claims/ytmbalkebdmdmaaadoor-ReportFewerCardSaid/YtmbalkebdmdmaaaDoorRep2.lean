/- report.Choices; the sizes that the statements ask. -/
import Derived.Test.YtmbalkebdmdmaaaDoorRep1
namespace Go.Proofs.YtmbalkebdmdmaaaDoor
open Go Go.RowKit
/-- How many choices a report has. -/
def numC (l : List Ev) (d : Bool) : Nat := if repOk l then l.length + (if d then 1 else 0) else 0
theorem numC_no {l : List Ev} {d : Bool} (h : repOk l = false) : numC l d = 0 := by simp [numC, h]
theorem numC_yes {l : List Ev} {d : Bool} (h : repOk l = true) : numC l d = l.length + (if d then 1 else 0) := by simp [numC, h]
theorem repOk_le {l : List Ev} (h : repOk l = true) : l.length ≤ 4 := by
  simp only [repOk, Bool.and_eq_true, decide_eq_true_eq] at h; exact h.1.2
theorem sl_len {w : World} {v : Value} {n sz : Nat} {f : Nat → Value} (h : Sl w v n sz f) : ∃ A c, v = .slice A n c ∧ n ≤ c := by
  obtain ⟨A, c, h1, h2, _⟩ := h; exact ⟨A, c, h1, h2⟩

set_option maxHeartbeats 1000000 in
theorem choices_any (v : Value) (l : List Ev) (d : Bool) (w : World) (hv : Sl w v l.length 14 (evF l)) (hs : ∀ e ∈ l, e.short) (hl : l.length ≤ 1000) :
    Calls Tryd.prog 11 #[.agg #[v, .bool d]] w fun r w' => r = .returned (.int .i64 (numC l d)) ∧ Below w.heap.size w w' := by
  have hv1 := fun o => hv.below (((Below.refl w.heap.size w).alloc (Nat.le_refl _) o))
  have HV := Lib.hid hv1
  obtain ⟨A, c, rfl, hn⟩ := sl_len hv
  clear hv hv1
  cases hr : repOk l
  · have hnum := Lib.hid (numC_no (d := d) hr)
    have HR := Lib.hid hr
    clear hr
    go_enter Tryd.func11, Tryd.ntmps11
    go_wp2_with (go_at_call 12; refine (repValid_any _ l d _ (HV.out _) hs hl).mono ?_; rintro e w2 ⟨rfl, hb2⟩; rw [HR.out]; obtain ⟨hE2, hB2, hz2⟩ := boxed hb2; obtain ⟨hc2, hf2⟩ := hE2.facts; have HB2 := Lib.hid hB2; clear hb2 hE2 hB2)
    go_ret
    exact ⟨by rw [hnum.out]; rfl, HB2.out⟩
  · have hnum := Lib.hid (numC_yes (d := d) hr)
    have hle := repOk_le hr
    have HR := Lib.hid hr
    clear hr
    cases d
    all_goals
      go_enter Tryd.func11, Tryd.ntmps11
      go_wp2_with (go_at_call 12; refine (repValid_any _ l _ _ (HV.out _) hs hl).mono ?_; rintro e w2 ⟨rfl, hb2⟩; rw [HR.out]; obtain ⟨hE2, hB2, hz2⟩ := boxed hb2; obtain ⟨hc2, hf2⟩ := hE2.facts; have HB2 := Lib.hid hB2; clear hb2 hE2 hB2)
      go_ret
      exact ⟨ret_int (by rw [hnum.out]; simp), HB2.out⟩

def shortB (e : Ev) : Bool := decide (e.part.size ≤ 300 ∧ e.kind.size ≤ 300 ∧ e.into.size ≤ 300 ∧ e.slot.size ≤ 300 ∧ e.key.size ≤ 300 ∧ e.value.size ≤ 300)
set_option maxHeartbeats 1000000 in
theorem short_any (e : Ev) (w : World) : Calls Tryd.prog 16 #[.agg e.cells] w fun r w' => r = .returned (.bool (shortB e)) ∧ Below w.heap.size w w' := by
  obtain ⟨op, day, part, kind, into, slot, key, value, kl, kh, cl, ch, ll, lh⟩ := e
  show Calls Tryd.prog 16 #[.agg #[.int .i64 op, .int .i64 day, .string part, .string kind, .string into, .string slot, .string key, .string value, .int .i64 kl, .int .i64 kh, .int .i64 cl, .int .i64 ch, .int .i64 ll, .int .i64 lh]] w _
  go_enter Tryd.func16, Tryd.ntmps16
  go_wp2
  all_goals
    go_ret
    refine ⟨ret_bool ?_, (Below.refl _ _).alloc (Nat.le_refl _) _⟩
    unfold shortB
    rw [Bool.eq_iff_iff]
    simp
    try omega
end Go.Proofs.YtmbalkebdmdmaaaDoor
