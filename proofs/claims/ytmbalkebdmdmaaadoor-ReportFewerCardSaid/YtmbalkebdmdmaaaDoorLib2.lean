/- More small words on memory: a boxed argument behind a call. No condition. -/
import Derived.Test.YtmbalkebdmdmaaaDoorLib
import Derived.RegionTactic
import Derived.Laws.CopyOwn
namespace Go.Proofs.YtmbalkebdmdmaaaDoor
open Go Go.RowKit
theorem Has.facts {w : World} {g t : Nat} {cs : Array Value} (h : Has w g t cs) :
    (∀ o, w.cell? ⟨g, o, none⟩ = cs[o]?) ∧ (∀ o, w.frozen? ⟨g, o, none⟩ = false) := ⟨fun o => h.cell o, fun o => h.free o⟩
/-- A boxed argument behind the first call. -/
theorem boxed {w w1 : World} {t : Nat} {cs : Array Value} (hb : Below (w.alloc (.cells cs t)).heap.size (w.alloc (.cells cs t)) w1) :
    Has w1 w.heap.size t cs ∧ Below w.heap.size w w1 ∧ w.heap.size < w1.heap.size := by
  have hs := hb.size
  rw [World.size_alloc] at hs
  exact ⟨(Has.new w t cs).below hb (by simp), ((Below.refl _ _).alloc (Nat.le_refl _) _).trans (hb.mono (by simp)), by omega⟩
/-- The same behind a further call. -/
theorem Has.next {w w1 w2 : World} {t g B : Nat} {cs : Array Value} (h : Has w1 g t cs) (hB : Below B w w1) (hs : g < w1.heap.size) (hb : Below w1.heap.size w1 w2) (hBs : B ≤ w1.heap.size) :
    Has w2 g t cs ∧ Below B w w2 ∧ g < w2.heap.size :=
  ⟨h.below hb hs, hB.trans (hb.mono hBs), Nat.lt_of_lt_of_le hs hb.size⟩
end Go.Proofs.YtmbalkebdmdmaaaDoor
