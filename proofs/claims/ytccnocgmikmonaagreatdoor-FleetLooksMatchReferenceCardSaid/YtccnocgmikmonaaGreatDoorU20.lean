/- Stores of a whole block. -/
import Derived.Test.YtccnocgmikmonaaGreatDoorU14
namespace Go.Proofs.YtccnocgmikmonaaGreatDoor
open Go Go.RowKit
theorem size_setCells (g : Nat) : ∀ (ds : List Value) (o : Nat) (k : World), (k.setCells g o ds).heap.size = k.heap.size
  | [], _, _ => rfl
  | v :: r, o, k => by rw [World.setCells, size_setCells g r]; simp
theorem there_of_has {w : World} {g t n : Nat} {cs : Array Value} (h : Has w g t cs) (hn : n ≤ cs.size) : w.there g 0 n := fun j hj => ⟨by rw [Nat.zero_add, h.cell, Array.getElem?_eq_getElem (by omega)]; rfl, h.free _⟩
end Go.Proofs.YtccnocgmikmonaaGreatDoor
