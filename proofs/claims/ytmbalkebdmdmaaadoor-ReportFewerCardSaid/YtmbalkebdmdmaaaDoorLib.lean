/- Small words on memory that the walks of this seat use: a block known whole, and what stays of it. No condition. -/
import Derived.WalkKit
import Derived.WalkLawsBesides
import Derived.WalkSpells
import Derived.Lib.Hide
import Derived.Deep.MidRow
import Derived.Deep.QuietTactic
import Derived.BigQuiet
namespace Go.Proofs.YtmbalkebdmdmaaaDoor
open Go Go.RowKit

/-- Block g is just the cells cs, of element type t, none of them frozen. -/
def Has (w : World) (g : Nat) (t : TypeId) (cs : Array Value) : Prop := w.heap[g]? = some (.cells cs t (0, 0))

section
variable {w w' : World} {g : Nat} {t : TypeId} {cs : Array Value}
theorem Has.lt (h : Has w g t cs) : g < w.heap.size := by
  unfold Has at h
  by_cases hl : g < w.heap.size
  · exact hl
  · rw [Array.getElem?_eq_none (by omega)] at h; cases h
theorem Has.cell (h : Has w g t cs) (i : Nat) : w.cell? ⟨g, i, none⟩ = cs[i]? := cell_of_row w g i cs t (0, 0) h
theorem Has.free (h : Has w g t cs) (i : Nat) : w.frozen? ⟨g, i, none⟩ = false := frozen_of_row w g i cs t h
theorem Has.new (w : World) (t : TypeId) (cs : Array Value) : Has (w.alloc (.cells cs t)) w.heap.size t cs := heap_alloc_new w _
theorem Has.alloc (h : Has w g t cs) (o : Obj) : Has (w.alloc o) g t cs := (Below.heap_alloc w o g h.lt).trans h
theorem Has.put (h : Has w g t cs) (i : Nat) (u : Value) : Has (w.setCell ⟨g, i, none⟩ u) g t (cs.setIfInBounds i u) := heap_setCell_same w g i cs t u h
theorem Has.far (h : Has w g t cs) (p : Addr) (hp : g ≠ p.block) (u : Value) : Has (w.setCell p u) g t cs := (heap_setCell_other w p g u hp).trans h
theorem Has.drew (h : Has w g t cs) : Has w.drew g t cs := h
theorem Has.drewN (h : Has w g t cs) (n : Nat) : Has (w.drewN n) g t cs := h
theorem Has.below {B : Nat} (h : Has w g t cs) (hb : Below B w w') (hg : g < B) : Has w' g t cs := (hb.block g hg).trans h
theorem Has.grown {row : Option Nat} (h : Has w g t cs) (hb : w.grownBy w' row) (hg : some g ≠ row) : Has w' g t cs := (hb.block g h.lt hg).trans h
end

theorem below_drewN {B : Nat} {a w : World} (h : Below B a w) (n : Nat) : Below B a (w.drewN n) := ⟨h.os, h.tape, h.output, h.size, h.block⟩

/-- Old cells and marks, as the walk asks for them. -/
theorem bcell {W w1 : World} (hb : Below W.heap.size W w1) :
    (∀ b o, b < W.heap.size → w1.cell? ⟨b, o, none⟩ = W.cell? ⟨b, o, none⟩) ∧ (∀ b o, b < W.heap.size → w1.frozen? ⟨b, o, none⟩ = W.frozen? ⟨b, o, none⟩) :=
  ⟨fun b o h => hb.cell (p := ⟨b, o, none⟩) h, fun b o h => hb.frozen (p := ⟨b, o, none⟩) h⟩

/-- A row of n cells by a function. -/
def row (n : Nat) (f : Nat → Value) : Array Value := ((List.range n).map f).toArray
theorem row_size (n : Nat) (f : Nat → Value) : (row n f).size = n := by simp [row]
theorem row_get (n : Nat) (f : Nat → Value) (i : Nat) (h : i < n) : (row n f)[i]? = some (f i) := by simp [row, h]
theorem row_congr {n : Nat} {f g : Nat → Value} (h : ∀ i, i < n → f i = g i) : row n f = row n g := by
  unfold row
  exact congrArg List.toArray (List.map_congr_left fun i hi => h i (by simpa using hi))
theorem row_one {n : Nat} {f : Nat → Value} (h : ∀ i, (f i).oneCell' = true) : ((row n f).all fun x => x.oneCell') = true := by
  simp [row, h]
theorem row_put (n : Nat) (f : Nat → Value) (i : Nat) (v : Value) : (row n f).setIfInBounds i v = row n (fun j => if j = i then v else f j) := by
  apply Array.ext_getElem?
  intro j
  rw [Array.getElem?_setIfInBounds, row_size]
  by_cases hj : j < n
  · rw [row_get _ _ _ hj, row_get _ _ _ hj]
    by_cases e : i = j
    · subst e; simp [hj]
    · rw [if_neg e, if_neg (Ne.symm e)]
  · rw [Array.getElem?_eq_none (by rw [row_size]; omega), Array.getElem?_eq_none (by rw [row_size]; omega)]
    split
    · rw [if_neg (by omega)]
    · rfl
theorem Has.rput {w : World} {g t n : Nat} {f : Nat → Value} (h : Has w g t (row n f)) (i : Nat) (v : Value) :
    Has (w.setCell ⟨g, i, none⟩ v) g t (row n (fun j => if j = i then v else f j)) := by
  rw [← row_put]; exact h.put i v
theorem Has.rcell {w : World} {g t n : Nat} {f : Nat → Value} (h : Has w g t (row n f)) (i : Nat) (hi : i < n) : w.cell? ⟨g, i, none⟩ = some (f i) :=
  (h.cell i).trans (row_get n f i hi)

theorem isEmpty_size (s : ByteArray) : s.toList.isEmpty = decide (s.size = 0) := by
  rw [Bool.eq_iff_iff, List.isEmpty_iff_length_eq_zero, decide_eq_true_iff, _root_.Go.ByteArray.toList_eq]
  exact Iff.of_eq (congrArg (· = 0) (by cases s; rfl))
theorem ret_int {k : IntKind} {a b : Int} (h : a = b) : Ending.returned (.int k a) = .returned (.int k b) := by rw [h]
theorem ret_bool {a b : Bool} (h : a = b) : Ending.returned (.bool a) = .returned (.bool b) := by rw [h]

/-- A slice of n elements, sz cells each; cell j of all is f j. -/
def Sl (w : World) (v : Value) (n sz : Nat) (f : Nat → Value) : Prop :=
  ∃ A c, v = .slice A n c ∧ n ≤ c ∧ (n = 0 ∨ ∃ b o, A = some ⟨b, o, none⟩ ∧ ∀ j, j < n * sz → w.cell? ⟨b, o + j, none⟩ = some (f j))
theorem Sl.below {w w' : World} {v : Value} {n sz : Nat} {f : Nat → Value} (h : Sl w v n sz f) (hb : Below w.heap.size w w') : Sl w' v n sz f := by
  obtain ⟨A, c, hv, hn, h0 | ⟨b, o, hA, hc⟩⟩ := h
  · exact ⟨A, c, hv, hn, .inl h0⟩
  · exact ⟨A, c, hv, hn, .inr ⟨b, o, hA, fun j hj => cell_later hb (hc j hj)⟩⟩
theorem Sl.congr {w : World} {v : Value} {n sz : Nat} {f g : Nat → Value} (h : Sl w v n sz f) (hfg : ∀ j, j < n * sz → f j = g j) : Sl w v n sz g := by
  obtain ⟨A, c, hv, hn, h0 | ⟨b, o, hA, hc⟩⟩ := h
  · exact ⟨A, c, hv, hn, .inl h0⟩
  · exact ⟨A, c, hv, hn, .inr ⟨b, o, hA, fun j hj => by rw [hc j hj, hfg j hj]⟩⟩
/-- A slice over a new block. -/
theorem Sl.has {w : World} {g t : Nat} {cs : Array Value} (h : Has w g t cs) {n sz c : Nat} (hn : n ≤ c) {f : Nat → Value} (hf : ∀ j, j < n * sz → cs[j]? = some (f j)) : Sl w (.slice (some ⟨g, 0, none⟩) n c) n sz f :=
  ⟨_, c, rfl, hn, .inr ⟨g, 0, rfl, fun j hj => by rw [Nat.zero_add, h.cell j, hf j hj]⟩⟩
/-- Cells of a list of strings. -/
def strF (l : List ByteArray) (j : Nat) : Value := .string (l.getD j ByteArray.empty)

end Go.Proofs.YtmbalkebdmdmaaaDoor
