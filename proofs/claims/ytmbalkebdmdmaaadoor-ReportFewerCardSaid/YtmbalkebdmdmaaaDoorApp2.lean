/- append in a region that draws its order: onto an empty literal, and onto what that gives. No condition. -/
import Derived.Test.YtmbalkebdmdmaaaDoorApp
namespace Go.Proofs.YtmbalkebdmdmaaaDoor
open Go Go.RowKit
section
variable {P : Program} {w : World}
/-- An owned row, or an empty slice of whatever address. -/
def Own0 (w : World) (base e size : Nat) (v : Value) (n : Nat) (xs : List Value) : Prop := w.ownsRow base e size v n xs ∨ (n = 0 ∧ xs = [] ∧ ∃ B, v = .slice B 0 0)
/-- What an append may have done: it wrote one row of the element type from base on, or none; and made blocks. -/
def Grew (w w' : World) (base e : Nat) : Prop := ∃ row, w.grownBy w' row ∧ ∀ g, row = some g → base ≤ g ∧ ∃ cur, w.heap[g]? = some (.cells cur e (0, 0))
theorem Grew.below {w' : World} {base e B : Nat} {a : World} (h : Grew w w' base e) (hb : Below B a w) (hB : B ≤ w.heap.size) (hbase : B ≤ base) : Below B a w' := by
  obtain ⟨row, hg, hr⟩ := h
  exact hb.grown hg hB fun g hg => Nat.le_trans hbase (hr g hg).1
theorem Grew.has {w' : World} {base e g t : Nat} {cs : Array Value} (h : Grew w w' base e) (hh : Has w g t cs) (hne : t ≠ e) : Has w' g t cs := by
  obtain ⟨row, hg, hr⟩ := h
  refine hh.grown hg fun he => ?_
  obtain ⟨_, cur, hc⟩ := hr g he.symm
  unfold Has at hh
  rw [hh] at hc
  injection hc with hc
  injection hc with _ h2
  exact hne h2
theorem Own0.sl {base e size n : Nat} {v : Value} {xs : List Value} (h : Own0 w base e size v n xs) : Sl w v n size (fun j => (xs[j]?).getD undef) := by
  rcases h with h | ⟨rfl, _, B, rfl⟩
  · exact sl_row h
  · exact ⟨_, _, rfl, Nat.le_refl _, .inl rfl⟩
theorem Own0.form {base e size n : Nat} {v : Value} {xs : List Value} (h : Own0 w base e size v n xs) : ∃ A c, v = .slice A n c := by
  rcases h with h | ⟨rfl, _, B, rfl⟩
  · rcases h.2 with ⟨rfl, rfl⟩ | ⟨g, cap, cur, rfl, _⟩
    · exact ⟨_, _, rfl⟩
    · exact ⟨_, _, rfl⟩
  · exact ⟨_, _, rfl⟩
theorem Own0.alloc {base e size n : Nat} {v : Value} {xs : List Value} (h : Own0 w base e size v n xs) (o : Obj) : Own0 (w.alloc o) base e size v n xs := h.elim (fun h => .inl (h.alloc o)) .inr
theorem Own0.drew {base e size n : Nat} {v : Value} {xs : List Value} (h : Own0 w base e size v n xs) : Own0 w.drew base e size v n xs := h.elim (fun h => .inl h.drew) .inr
theorem Own0.put {base e size n g t : Nat} {v : Value} {xs : List Value} {cs : Array Value} (h : Own0 w base e size v n xs) (hh : Has w g t cs) (hne : t ≠ e) (i : Nat) (u : Value) : Own0 (w.setCell ⟨g, i, none⟩ u) base e size v n xs := by
  rcases h with h | h
  · refine .inl ⟨h.1, ?_⟩
    rcases h.2 with h0 | ⟨g', cap, cur, rfl, hb, hg, rest⟩
    · exact .inl h0
    · refine .inr ⟨g', cap, cur, rfl, hb, ?_, rest⟩
      have hgg : g' ≠ g := by
        rintro rfl
        unfold Has at hh
        rw [hg] at hh
        injection hh with hh
        injection hh with _ e2
        exact hne e2.symm
      exact (heap_setCell_other w ⟨g, i, none⟩ g' u hgg).trans hg
  · exact .inr h
theorem append_empty_run (t ty e : TypeId) (i : TypeInfo) (ht : P.underlying t = some (.slice e)) (hi : P.info? e = some i) (B : Option Addr) (A : Option Addr) (m c : Nat) (h0 : 0 < m) (hb : m * i.bytes ≤ 140737488355328) :
    (Builtin.append_ #[t, t] ty #[.slice B 0 0, .slice A m c]).run P w = (Builtin.append_ #[t, t] ty #[.slice none 0 0, .slice A m c]).run P w := by
  cases B with
  | none => rfl
  | some a =>
    have hm : ¬ m = 0 := by omega
    have h48 : ¬ (281474976710656 < Builtin.nextslicecap m 0 * i.bytes) := by rw [nextslicecap_zero h0]; omega
    simp [Builtin.append_, run_underlying ht, sizeOf, typeInfo, hi, Builtin.lenOf, Builtin.firstCells, loadCells, loadCellsFrom, hm, h48]
/-- append onto either. -/
theorem wp_app0 {o : Oper} {a : Act} {K : Act → World → Prop} {Q : Exit → Act → World → Prop} (s x : Operand) (t : TypeId)
    (ho : o.op = .call { callee := .builtin .append, args := #[s, x], argTypes := #[t, t] })
    (base : Nat) (e : TypeId) (i : TypeInfo) (z : Value) (size bytes : Nat) (ht : P.underlying t = some (.slice e)) (hi : P.info? e = some i) (hz : i.zero = some z)
    (hsize : i.size = size) (hby : i.bytes = bytes) (hzs : z.cells.size = size) (hsz : 0 < size)
    (v : Value) (n : Nat) (xs : List Value) (hs : a.eval s = v) (hown : Own0 w base e size v n xs)
    (A : Option Addr) (m c : Nat) (news : List Value) (hx : a.eval x = .slice A m c) (hl : news.length = m * size) (hA : m = 0 ∨ ∃ ad, A = some ad ∧ ∀ j u, news[j]? = some u → w.cell? (ad.add j) = some u)
    (h1 : ∀ u ∈ news, u.oneCell' = true) (h63 : n + m ≤ maxLen) (hbytes : (n + m) * bytes ≤ 140737488355328) (hbase : base ≤ w.heap.size)
    (h : ∀ v' w', Own0 w' base e size v' (n + m) (xs ++ news) → Grew w w' base e → K (a.put o.dst v') w') : o.wp P a w K Q := by
  have run : ∃ v' w', (Builtin.append_ #[t, t] o.type #[v, .slice A m c]).run P w = .ok v' w' ∧ Own0 w' base e size v' (n + m) (xs ++ news) ∧ Grew w w' base e := by
    have own : ∀ v n xs, w.ownsRow base e size v n xs → (∀ (hh : n + m ≤ maxLen), (n + m) * bytes ≤ 140737488355328 → ∃ v' w', (Builtin.append_ #[t, t] o.type #[v, .slice A m c]).run P w = .ok v' w' ∧ Own0 w' base e size v' (n + m) (xs ++ news) ∧ Grew w w' base e) := by
      intro v n xs hown h63 hbytes
      have hrow : ∀ g, v.ownBlock = some g → base ≤ g ∧ ∃ cur, w.heap[g]? = some (.cells cur e (0, 0)) := fun g hg => by
        refine ⟨(hown.lt g hg).1, ?_⟩
        rcases hown.2 with ⟨rfl, _⟩ | ⟨g', cap, cur, rfl, _, hh, _⟩
        · cases hg
        · obtain rfl : g' = g := Option.some.inj hg
          exact ⟨cur, hh⟩
      rcases A with _ | ad
      · have hm : m = 0 := by
          rcases hA with h0 | ⟨_, h0, _⟩
          · exact h0
          · cases h0
        subst hm
        obtain rfl : news = [] := List.eq_nil_of_length_eq_zero (by simpa using hl)
        exact ⟨v, w, append_nil_run (P := P) base t o.type e i size ht hi v n xs hown c, .inl (by simpa using hown), _, World.grownBy.refl w v.ownBlock, hrow⟩
      · obtain ⟨v', w', hr, h2, h3, _⟩ := run_append_own (P := P) w base t o.type e i z size bytes ht hi hz hsize hby hzs hsz v n xs hown ad m c news hl (by
          rcases hA with rfl | ⟨ad', h0, hc⟩
          · obtain rfl : news = [] := List.eq_nil_of_length_eq_zero (by simpa using hl)
            intro j u hu; cases hu
          · cases h0; exact hc) h1 h63 hbytes hbase
        exact ⟨v', w', hr, .inl h2, _, h3, hrow⟩
    rcases hown with hown | ⟨rfl, rfl, B, rfl⟩
    · exact own v n xs hown h63 hbytes
    · rcases Nat.eq_zero_or_pos m with rfl | h0
      · obtain rfl : news = [] := List.eq_nil_of_length_eq_zero (by simpa using hl)
        refine ⟨.slice B 0 0, w, ?_, .inr ⟨rfl, rfl, B, rfl⟩, none, World.grownBy.refl w none, fun g hg => by cases hg⟩
        cases A <;> cases B <;> simp [Builtin.append_, run_underlying ht, sizeOf, typeInfo, hi, Builtin.lenOf, Builtin.firstCells, loadCells, loadCellsFrom, storeCells]
      · obtain ⟨v', w', hr, h2, h3⟩ := own (.slice none 0 0) 0 [] (World.ownsRow_nil _ _ _ _) h63 hbytes
        exact ⟨v', w', by rw [append_empty_run t o.type e i ht hi B A m c h0 (by rw [hby]; simpa using hbytes)]; exact hr, h2, h3⟩
  obtain ⟨v', w', hr, h2, h3⟩ := run
  unfold Oper.wp execOp
  simp only [ho, resolve, invoke, builtin, Sem.run_bind, Sem.run_pure, Result.andThen_ok, List.map_toArray, List.map_cons, List.map_nil, hs, hx, hr]
  exact h v' w' h2 h3
end
end Go.Proofs.YtmbalkebdmdmaaaDoor
