/- append onto a row of the call's own, whatever the source; also in a guarded operation. What such rows read as. No condition. -/
import Derived.Test.YtmbalkebdmdmaaaDoorLib2
import Derived.Laws.AppendOwn
import Derived.Laws.AppendOwnNone
import Derived.BigFrame
namespace Go.Proofs.YtmbalkebdmdmaaaDoor
open Go Go.RowKit
section
variable {P : Program} {w : World}
/-- A source without an address adds nothing. -/
theorem append_nil_run (base : Nat) (t ty e : TypeId) (i : TypeInfo) (size : Nat) (ht : P.underlying t = some (.slice e)) (hi : P.info? e = some i) (v : Value) (n : Nat) (xs : List Value) (hown : w.ownsRow base e size v n xs) (c : Nat) :
    (Builtin.append_ #[t, t] ty #[v, .slice none 0 c]).run P w = .ok v w := by
  rcases hown.2 with ⟨rfl, rfl⟩ | ⟨g, cap, cur, rfl, _, _, hnc, _⟩
  · simp [Builtin.append_, run_underlying ht, sizeOf, typeInfo, hi, Builtin.lenOf, Builtin.firstCells]
  · simp [Builtin.append_, run_underlying ht, sizeOf, typeInfo, hi, Builtin.lenOf, Builtin.firstCells, hnc, storeCells]
/-- The law at the operation: the source has an address, or no element. -/
theorem wpList_app {ops : Array Oper} {rest : List Oper} {o : Oper} {a : Act} {Q : Exit → Act → World → Prop} (hw : Region.wanted o (yielded ops a.tmps) = true) (s x : Operand) (t : TypeId)
    (ho : o.op = .call { callee := .builtin .append, args := #[s, x], argTypes := #[t, t] })
    (base : Nat) (e : TypeId) (i : TypeInfo) (z : Value) (size bytes : Nat) (ht : P.underlying t = some (.slice e)) (hi : P.info? e = some i) (hz : i.zero = some z)
    (hsize : i.size = size) (hby : i.bytes = bytes) (hzs : z.cells.size = size) (hsz : 0 < size)
    (v : Value) (n : Nat) (xs : List Value) (hs : a.eval s = v) (hown : w.ownsRow base e size v n xs)
    (A : Option Addr) (m c : Nat) (news : List Value) (hx : a.eval x = .slice A m c) (hl : news.length = m * size) (hA : m = 0 ∨ ∃ ad, A = some ad ∧ ∀ j u, news[j]? = some u → w.cell? (ad.add j) = some u)
    (h1 : ∀ u ∈ news, u.oneCell' = true) (h63 : n + m ≤ maxLen) (hbytes : (n + m) * bytes ≤ 140737488355328) (hbase : base ≤ w.heap.size)
    (h : ∀ v' w', w'.ownsRow base e size v' (n + m) (xs ++ news) → w.grownBy w' v.ownBlock → wpList P ops Q rest (a.put o.dst v') w') : wpList P ops Q (o :: rest) a w := by
  refine BigFrame.wpList_want hw fun K hK => ?_
  rcases A with _ | ad
  · have hm : m = 0 := by
      rcases hA with h0 | ⟨_, h0, _⟩
      · exact h0
      · cases h0
    subst hm
    obtain rfl : news = [] := List.eq_nil_of_length_eq_zero (by simpa using hl)
    have hr := append_nil_run (P := P) base t o.type e i size ht hi v n xs hown c
    unfold Oper.wp execOp
    simp only [ho, resolve, invoke, builtin, Sem.run_bind, Sem.run_pure, Result.andThen_ok, List.map_toArray, List.map_cons, List.map_nil, hs, hx, hr]
    exact hK _ _ (h v w (by simpa using hown) (World.grownBy.refl w _))
  · refine wp_append_own w s x t ho base e i z size bytes ht hi hz hsize hby hzs hsz v n xs hs hown ad m c news hx hl ?_ h1 h63 hbytes hbase fun v' w' h2 h3 _ => hK _ _ (h v' w' h2 h3)
    rcases hA with rfl | ⟨ad', h0, hc⟩
    · obtain rfl : news = [] := List.eq_nil_of_length_eq_zero (by simpa using hl)
      intro j u hu; cases hu
    · cases h0; exact hc
end
/-- The cells that a slice reads, as a list. -/
def slCells (k : Nat) (f : Nat → Value) : List Value := (List.range k).map f
theorem slCells_len (k : Nat) (f : Nat → Value) : (slCells k f).length = k := by simp [slCells]
theorem slCells_get (k : Nat) (f : Nat → Value) (j : Nat) (h : j < k) : (slCells k f)[j]? = some (f j) := by simp [slCells, h]
theorem sl_src {w : World} {A : Option Addr} {n m c sz : Nat} {f : Nat → Value} (h : Sl w (.slice A n c) m sz f) : n = m ∧ (m = 0 ∨ ∃ ad, A = some ad ∧ ∀ j u, (slCells (m * sz) f)[j]? = some u → w.cell? (ad.add j) = some u) := by
  obtain ⟨A', c', he, _, h0 | ⟨b, o, hA, hc⟩⟩ := h
  · injection he with e1 e2 e3; exact ⟨e2, .inl h0⟩
  · injection he with e1 e2 e3
    refine ⟨e2, .inr ⟨_, e1.trans hA, fun j u hu => ?_⟩⟩
    have hj : j < m * sz := by
      rcases Nat.lt_or_ge j (m * sz) with h1 | h1
      · exact h1
      · rw [List.getElem?_eq_none (by rw [slCells_len]; exact h1)] at hu; cases hu
    rw [slCells_get _ _ _ hj] at hu
    rw [Addr.add_mid, hc j hj, hu]
/-- An owned row reads as a slice. -/
theorem sl_row {w : World} {base t sz n : Nat} {v : Value} {xs : List Value} (h : w.ownsRow base t sz v n xs) : Sl w v n sz (fun j => (xs[j]?).getD undef) := by
  rcases h.2 with ⟨rfl, h0⟩ | ⟨g, cap, cur, rfl, hg, hh, hn, hc, hs, ht⟩
  · subst h0; exact ⟨_, _, rfl, Nat.le_refl _, .inl rfl⟩
  · refine ⟨_, cap, rfl, hn, .inr ⟨g, 0, rfl, fun j hj => ?_⟩⟩
    have hx : xs.length = n * sz := h.1
    rw [Nat.zero_add, cell_of_row w g j cur t (0, 0) hh]
    obtain ⟨x, h1⟩ : ∃ x, xs[j]? = some x := ⟨_, List.getElem?_eq_getElem (by omega)⟩
    show _ = some ((xs[j]?).getD undef)
    rw [h1, Option.getD_some]
    rw [← ht, List.getElem?_take, if_pos hj] at h1
    simpa using h1
end Go.Proofs.YtmbalkebdmdmaaaDoor
