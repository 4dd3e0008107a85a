/- Maps that a call makes: what a look-up and a store do, over whatever keys can be told apart. No condition. -/
import Derived.Test.YtmbalkebdmdmaaaDoorLib2
namespace Go.Proofs.YtmbalkebdmdmaaaDoor
open Go Go.RowKit

/-- How the keys of type k stand for things of type α. -/
structure Keying (P : Program) (k : TypeId) (α : Type) [DecidableEq α] (enc : α → Value) : Prop where
  check : ∀ (w : World) (em : Bool) (a : α), (Instr.checkKey em 10000 k (enc a)).run P w = .ok () w
  find : ∀ (w : World) (a : α) (es : List MapEntry) (m : List (α × Value)), es.map (fun e => (e.key, e.val)) = m.map (fun p => (enc p.1, p.2)) →
    (Instr.findKey k (enc a) es).run P w = .ok ((m.findIdx? (fun p => decide (p.1 = a))).bind fun i => (m[i]?).map fun p => (i, p.2)) w
  stays : ∀ (w : World) (a : α), (Instr.keyThatStays (enc a) (enc a)).run P w = .ok (enc a) w

/-- Block g is a map that holds m, in the order of its making. -/
def Mp {α : Type} (w : World) (enc : α → Value) (g : Nat) (m : List (α × Value)) : Prop :=
  ∃ es clock, w.heap[g]? = some (.map es clock) ∧ es.toList.map (fun e => (e.key, e.val)) = m.map (fun p => (enc p.1, p.2))

/-- What is at a key. -/
def mget {α : Type} [DecidableEq α] (m : List (α × Value)) (a : α) : Option Value := (m.find? (fun p => decide (p.1 = a))).map (·.2)
/-- The map behind a store. -/
def mput {α : Type} [DecidableEq α] (m : List (α × Value)) (a : α) (v : Value) : List (α × Value) :=
  match m.findIdx? (fun p => decide (p.1 = a)) with
  | some i => m.set i (a, v)
  | none => m ++ [(a, v)]

section
variable {α : Type} {enc : α → Value} {w w' : World} {g : Nat} {m : List (α × Value)}
theorem Mp.lt (h : Mp w enc g m) : g < w.heap.size := by
  obtain ⟨es, clock, hb, _⟩ := h
  by_cases hl : g < w.heap.size
  · exact hl
  · rw [Array.getElem?_eq_none (by omega)] at hb; cases hb
theorem Mp.new (w : World) (enc : α → Value) : Mp (w.alloc (.map #[] 0)) enc w.heap.size [] := ⟨#[], 0, heap_alloc_new w _, rfl⟩
theorem Mp.alloc (h : Mp w enc g m) (o : Obj) : Mp (w.alloc o) enc g m := by
  have hl := h.lt
  obtain ⟨es, clock, hb, he⟩ := h
  exact ⟨es, clock, (Below.heap_alloc w o g hl).trans hb, he⟩
theorem Mp.below {B : Nat} (h : Mp w enc g m) (hb : Below B w w') (hg : g < B) : Mp w' enc g m := by
  obtain ⟨es, clock, hh, he⟩ := h
  exact ⟨es, clock, (hb.block g hg).trans hh, he⟩
theorem Mp.far (h : Mp w enc g m) (p : Addr) (hp : g ≠ p.block) (u : Value) : Mp (w.setCell p u) enc g m := by
  obtain ⟨es, clock, hh, he⟩ := h
  exact ⟨es, clock, (heap_setCell_other w p g u hp).trans hh, he⟩

end
section
variable {P : Program} {k : TypeId} {α : Type} [DecidableEq α] {enc : α → Value} {w : World} {g : Nat} {m : List (α × Value)}
theorem find_some {m : List (α × Value)} {a : α} {i : Nat} (h : m.findIdx? (fun p => decide (p.1 = a)) = some i) : ∃ v, m[i]? = some (a, v) ∧ mget m a = some v := by
  rw [List.findIdx?_eq_some_iff_getElem] at h
  obtain ⟨hi, h1, h2⟩ := h
  have e : m[i].1 = a := by simpa using h1
  refine ⟨m[i].2, by rw [List.getElem?_eq_getElem hi]; exact congrArg some (Prod.ext e rfl), ?_⟩
  have : m.find? (fun p => decide (p.1 = a)) = some m[i] := by
    rw [List.find?_eq_some_iff_getElem]
    exact ⟨h1, i, hi, rfl, fun j hj => by have := h2 j hj; simpa using this⟩
  unfold mget; rw [this]; rfl
theorem find_none {m : List (α × Value)} {a : α} (h : m.findIdx? (fun p => decide (p.1 = a)) = none) : mget m a = none := by
  rw [List.findIdx?_eq_none_iff] at h
  unfold mget
  rw [List.find?_eq_none.2 (by intro x hx; have := h x hx; simp_all)]; rfl

/-- 'm[k]', 'v, ok := m[k]'. -/
theorem run_look (K : Keying P k α enc) {T el : TypeId} (hT : P.underlying T = some (.map k el)) (h : Mp w enc g m) (a : α) {z : Value} (hz : (zeroValue el).run P w = .ok z w) (ok : Bool) :
    (Instr.lookup T (.map (some g)) (enc a) ok).run P w = .ok (if ok then .tuple #[(mget m a).getD z, .bool (mget m a).isSome] else (mget m a).getD z) w := by
  obtain ⟨es, clock, hb, he⟩ := h
  have hf := K.find w a es.toList m he
  cases hi : m.findIdx? (fun p => decide (p.1 = a)) with
  | none =>
    rw [hi] at hf
    simp only [Instr.lookup, Sem.run_bind, run_underlying hT, Result.andThen_ok, MapKept.run_getObj_map hb, K.check, hf, Option.bind_none, hz, Sem.run_pure]
    rw [find_none hi]; cases ok <;> simp
  | some i =>
    obtain ⟨v, hv, hg⟩ := find_some hi
    rw [hi] at hf
    simp only [Instr.lookup, Sem.run_bind, run_underlying hT, Result.andThen_ok, MapKept.run_getObj_map hb, K.check, hf, Option.bind_some, hv, Option.map_some, Sem.run_pure]
    rw [hg]; cases ok <;> simp

/-- 'm[k] = v'. -/
theorem run_put (K : Keying P k α enc) {T el : TypeId} (hT : P.underlying T = some (.map k el)) (h : Mp w enc g m) (a : α) (v : Value) :
    ∃ w', (Instr.mapUpdate T (.map (some g)) (enc a) v).run P w = .ok () w' ∧ Mp w' enc g (mput m a v) ∧ w.grownBy w' (some g) ∧ w'.heap.size = w.heap.size := by
  obtain ⟨es, clock, hb, he⟩ := h
  have hf := K.find w a es.toList m he
  have hlen : es.size = m.length := by have := congrArg List.length he; simpa using this
  have hlt : g < w.heap.size := Mp.lt (enc := enc) ⟨es, clock, hb, he⟩
  have grow : ∀ o : Obj, w.grownBy { w with heap := w.heap.setIfInBounds g o } (some g) := fun o =>
    ⟨rfl, rfl, rfl, by simp, fun j _ hj => by
      have : g ≠ j := fun e => hj (by rw [e])
      simp [this]⟩
  cases hi : m.findIdx? (fun p => decide (p.1 = a)) with
  | none =>
    rw [hi] at hf
    refine ⟨{ w with heap := w.heap.setIfInBounds g (.map (es.push { key := enc a, val := v, born := clock }) (clock + 1)) }, ?_, ⟨es.push { key := enc a, val := v, born := clock }, clock + 1, by simp [hlt], ?_⟩, grow _, by simp⟩
    · simp only [Instr.mapUpdate, Sem.run_bind, run_underlying hT, Result.andThen_ok, MapKept.run_getObj_map hb, K.check, hf, Option.bind_none, MapKept.run_setObj_map _ hb]
    · unfold mput; rw [hi]
      simp [he]
  | some i =>
    obtain ⟨u, hv, hg⟩ := find_some hi
    rw [hi] at hf
    have him : i < m.length := by
      rcases Nat.lt_or_ge i m.length with h1 | h1
      · exact h1
      · rw [List.getElem?_eq_none h1] at hv; cases hv
    have hies : i < es.size := by omega
    have hkey : (es[i]?).map (·.key) = some (enc a) := by
      have h1 : (es.toList.map (fun e => (e.key, e.val)))[i]? = some (enc a, u) := by rw [he, List.getElem?_map, hv]; rfl
      rw [List.getElem?_map, Array.getElem?_toList, Array.getElem?_eq_getElem hies] at h1
      rw [Array.getElem?_eq_getElem hies]
      simp only [Option.map_some, Option.some.injEq, Prod.mk.injEq] at h1 ⊢
      exact h1.1
    refine ⟨{ w with heap := w.heap.setIfInBounds g (.map (es.modify i fun e => { e with key := enc a, val := v }) clock) }, ?_, ⟨es.modify i fun e => { e with key := enc a, val := v }, clock, by simp [hlt], ?_⟩, grow _, by simp⟩
    · simp only [Instr.mapUpdate, Sem.run_bind, run_underlying hT, Result.andThen_ok, MapKept.run_getObj_map hb, K.check, hf, Option.bind_some, hv, Option.map_some, hkey, Option.getD_some, K.stays, MapKept.run_setObj_map _ hb]
    · unfold mput; rw [hi]
      apply List.ext_getElem?
      intro j
      have h1 : (es.toList.map (fun e => (e.key, e.val)))[j]? = (m.map (fun p => (enc p.1, p.2)))[j]? := by rw [he]
      rw [List.getElem?_map, Array.getElem?_toList] at h1
      rw [List.getElem?_map, Array.getElem?_toList, Array.getElem?_modify, List.getElem?_map, List.getElem?_set]
      by_cases e : i = j
      · subst e
        simp [hies, him]
      · simp only [e, if_false]
        rw [h1, List.getElem?_map]
end
/-- How a list of entries is gone through, key by key. -/
theorem findAsking_run {P : Program} {k : TypeId} {α : Type} [DecidableEq α] {enc : α → Value} (heq : ∀ (w : World) (a b : α), (Op.equal k (enc a) (enc b)).run P w = .ok (decide (a = b)) w) (w : World) (a : α) :
    ∀ (es : List MapEntry) (m : List (α × Value)) (n : Nat), es.map (fun e => (e.key, e.val)) = m.map (fun p => (enc p.1, p.2)) →
    (Instr.findAsking k (enc a) es n).run P w = .ok ((m.findIdx? (fun p => decide (p.1 = a))).bind fun i => (m[i]?).map fun p => (n + i, p.2)) w
  | [], [], n, _ => by simp [Instr.findAsking]
  | [], _ :: _, _, h => by cases h
  | _ :: _, [], _, h => by cases h
  | e :: es, p :: m, n, h => by
    simp only [List.map_cons, List.cons.injEq, Prod.mk.injEq] at h
    obtain ⟨⟨h1, h2⟩, h3⟩ := h
    have hq : (Op.equal k (enc a) e.key).run P w = .ok (decide (a = p.1)) w := by rw [h1]; exact heq w a p.1
    have ih := findAsking_run heq w a es m (n + 1) h3
    by_cases ha : a = p.1
    · simp only [Instr.findAsking, Sem.run_bind, hq, Result.andThen_ok, decide_eq_true ha, decide_eq_true ha.symm, if_true, Sem.run_pure, List.findIdx?_cons]
      simp [h2]
    · have ha' : ¬ p.1 = a := fun e => ha e.symm
      simp only [Instr.findAsking, Sem.run_bind, hq, Result.andThen_ok, ha, decide_false, Bool.false_eq_true, if_false, ih, List.findIdx?_cons, ha']
      congr 1
      cases m.findIdx? (fun p => decide (p.1 = a)) with
      | none => rfl
      | some i => simp; congr 1; funext x; simp; omega
end Go.Proofs.YtmbalkebdmdmaaaDoor
