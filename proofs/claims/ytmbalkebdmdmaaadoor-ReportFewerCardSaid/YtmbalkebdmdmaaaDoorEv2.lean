/- event.Valid at every operation but OpRun. -/
import Derived.Test.YtmbalkebdmdmaaaDoorEvEq
namespace Go.Proofs.YtmbalkebdmdmaaaDoor
open Go Go.RowKit
def noStr : ByteArray := ⟨#[]⟩
def zeroEv : Ev := ⟨0, 0, ⟨#[]⟩, ⟨#[]⟩, ⟨#[]⟩, ⟨#[]⟩, ⟨#[]⟩, ⟨#[]⟩, 0, 0, 0, 0, 0, 0⟩
def useOk (e : Ev) : Bool := decide (0 ≤ e.kl ∧ e.kl ≤ e.kh ∧ e.kh ≤ 1000000 ∧ 0 ≤ e.cl ∧ e.cl ≤ e.ch ∧ e.ch ≤ 1000000 ∧ 0 ≤ e.ll ∧ e.ll ≤ e.lh ∧ e.lh ≤ 1000000)
def rest1 (e : Ev) : Bool := evEq ⟨0, 0, ⟨#[]⟩, ⟨#[]⟩, e.into, e.slot, e.key, e.value, e.kl, e.kh, e.cl, e.ch, e.ll, e.lh⟩ ⟨0, 0, ⟨#[]⟩, ⟨#[]⟩, ⟨#[]⟩, ⟨#[]⟩, ⟨#[]⟩, ⟨#[]⟩, 0, 0, 0, 0, 0, 0⟩
def rest2 (e : Ev) : Bool := evEq ⟨0, 0, ⟨#[]⟩, e.kind, ⟨#[]⟩, ⟨#[]⟩, e.key, e.value, e.kl, e.kh, e.cl, e.ch, e.ll, e.lh⟩ ⟨0, 0, ⟨#[]⟩, ⟨#[]⟩, ⟨#[]⟩, ⟨#[]⟩, ⟨#[]⟩, ⟨#[]⟩, 0, 0, 0, 0, 0, 0⟩
def rest6 (e : Ev) : Bool := evEq ⟨0, 0, ⟨#[]⟩, e.kind, e.into, e.slot, ⟨#[]⟩, ⟨#[]⟩, e.kl, e.kh, e.cl, e.ch, e.ll, e.lh⟩ ⟨0, 0, ⟨#[]⟩, ⟨#[]⟩, ⟨#[]⟩, ⟨#[]⟩, ⟨#[]⟩, ⟨#[]⟩, 0, 0, 0, 0, 0, 0⟩
def rest4 (e : Ev) : Bool := evEq ⟨0, 0, ⟨#[]⟩, e.kind, e.into, e.slot, e.key, e.value, 0, 0, 0, 0, 0, 0⟩ ⟨0, 0, ⟨#[]⟩, ⟨#[]⟩, ⟨#[]⟩, ⟨#[]⟩, ⟨#[]⟩, ⟨#[]⟩, 0, 0, 0, 0, 0, 0⟩
def rest0 (e : Ev) : Bool := evEq ⟨0, 0, ⟨#[]⟩, e.kind, e.into, e.slot, e.key, e.value, e.kl, e.kh, e.cl, e.ch, e.ll, e.lh⟩ ⟨0, 0, ⟨#[]⟩, ⟨#[]⟩, ⟨#[]⟩, ⟨#[]⟩, ⟨#[]⟩, ⟨#[]⟩, 0, 0, 0, 0, 0, 0⟩
/-- What an event must be beside its day and its part. -/
def evRest (e : Ev) : Bool :=
  if e.op = 1 then rest1 e && [e.kind].all nameB
  else if e.op = 2 then !(e.into.toList == e.part.toList) && (rest2 e && [e.into, e.slot].all nameB)
  else if e.op = 6 then (!e.value.toList.isEmpty && decide ((e.value.size : Int) ≤ 200)) && (rest6 e && [e.key].all nameB)
  else if e.op = 4 then useOk e && rest4 e
  else rest0 e
/-- Is the event valid? -/
def evOk (e : Ev) : Bool := decide (1 ≤ e.op ∧ e.op ≤ 7) && (decide (0 ≤ e.day ∧ e.day ≤ 40000) && (nameB e.part && evRest e))
/-- All its strings are strings that lie in memory. -/
def Ev.short (e : Ev) : Prop := e.part.size ≤ maxLen ∧ e.kind.size ≤ maxLen ∧ e.into.size ≤ maxLen ∧ e.slot.size ≤ maxLen ∧ e.key.size ≤ maxLen ∧ e.value.size ≤ maxLen
theorem has_new2 (w : World) (A B : Obj) (t : Nat) (cs : Array Value) : Has (((w.alloc A).alloc B).alloc (.cells cs t)) (w.heap.size + 2) t cs := by
  have h := Has.new ((w.alloc A).alloc B) t cs
  have e : ((w.alloc A).alloc B).heap.size = w.heap.size + 2 := by simp
  rwa [e] at h
theorem wordS_some {op : Int} (h : 1 ≤ op ∧ op ≤ 7) : (wordS op).toList.isEmpty = false := by
  have hc : op = 1 ∨ op = 2 ∨ op = 3 ∨ op = 4 ∨ op = 5 ∨ op = 6 ∨ op = 7 := by omega
  rcases hc with rfl | rfl | rfl | rfl | rfl | rfl | rfl <;> (rw [isEmpty_size]; rfl)
theorem wordS_some' {op : Int} (h : 1 ≤ op ∧ op ≤ 7) : ¬ (wordS op).toList = [] := by
  have := wordS_some h
  intro e; rw [e] at this; cases this
end Go.Proofs.YtmbalkebdmdmaaaDoor
