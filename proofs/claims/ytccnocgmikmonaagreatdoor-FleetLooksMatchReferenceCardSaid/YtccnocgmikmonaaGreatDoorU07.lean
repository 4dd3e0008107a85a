/- append onto a row of the call's own, whatever the source; also in a guarded operation. What such rows read as. No condition. append in a region that draws its order: onto an empty literal, and onto what that gives. No condition. copy at elements of any number of cells; what slices.Insert wants of the builtins. No condition. Rows as lists of the things' cells. No condition. slices.Insert of one part. cmp.Compare at strings; how many keys of a sorted list stand ahead of one. slices.BinarySearchFunc at parts, by their names. slices.Clone, slices.Insert at parts. fleet.put at parts. -/
import Derived.BigFrame
import Derived.Laws.AppendOwn
import Derived.Laws.AppendOwnNone
import Derived.Laws.CopyOwn
import Derived.Lib.AppendZerosOnto
import Derived.Lib.Overlaps
import Derived.RegionTactic
import Derived.Test.YtccnocgmikmonaaGreatDoorU02
import Derived.Test.YtccnocgmikmonaaGreatDoorU03
import Derived.Test.YtccnocgmikmonaaGreatDoorU04
namespace Go.Proofs.YtccnocgmikmonaaGreatDoor
open Go Go.RowKit
section
variable {P : Program} {w : World}
/-- A source without an address adds nothing. -/
theorem append_nil_run (base : Nat) (t ty e : TypeId) (i : TypeInfo) (size : Nat) (ht : P.underlying t = some (.slice e)) (hi : P.info? e = some i) (v : Value) (n : Nat) (xs : List Value) (hown : w.ownsRow base e size v n xs) (c : Nat) :
    (Builtin.append_ #[t, t] ty #[v, .slice none 0 c]).run P w = .ok v w := by
  rcases hown.2 with ⟨rfl, rfl⟩ | ⟨g, cap, cur, rfl, _, _, hnc, _⟩
  · simp [Builtin.append_, run_underlying ht, sizeOf, typeInfo, hi, Builtin.lenOf, Builtin.firstCells]
  · simp [Builtin.append_, run_underlying ht, sizeOf, typeInfo, hi, Builtin.lenOf, Builtin.firstCells, hnc, storeCells]
/-- The law at the operation: the source has an address, or no element. -/
theorem wpList_app {ops : Array Oper} {rest : List Oper} {o : Oper} {a : Act} {Q : Exit → Act → World → Prop} (hw : Region.wanted o (yielded ops a.tmps) = true) (s x : Operand) (t : TypeId)
    (ho : o.op = .call { callee := .builtin .append, args := #[s, x], argTypes := #[t, t] })
    (base : Nat) (e : TypeId) (i : TypeInfo) (z : Value) (size bytes : Nat) (ht : P.underlying t = some (.slice e)) (hi : P.info? e = some i) (hz : i.zero = some z)
    (hsize : i.size = size) (hby : i.bytes = bytes) (hzs : z.cells.size = size) (hsz : 0 < size)
    (v : Value) (n : Nat) (xs : List Value) (hs : a.eval s = v) (hown : w.ownsRow base e size v n xs)
    (A : Option Addr) (m c : Nat) (news : List Value) (hx : a.eval x = .slice A m c) (hl : news.length = m * size) (hA : m = 0 ∨ ∃ ad, A = some ad ∧ ∀ j u, news[j]? = some u → w.cell? (ad.add j) = some u)
    (h1 : ∀ u ∈ news, u.oneCell' = true) (h63 : n + m ≤ maxLen) (hbytes : (n + m) * bytes ≤ 140737488355328) (hbase : base ≤ w.heap.size)
    (h : ∀ v' w', w'.ownsRow base e size v' (n + m) (xs ++ news) → w.grownBy w' v.ownBlock → wpList P ops Q rest (a.put o.dst v') w') : wpList P ops Q (o :: rest) a w := by
  refine BigFrame.wpList_want hw fun K hK => ?_
  rcases A with _ | ad
  · have hm : m = 0 := by
      rcases hA with h0 | ⟨_, h0, _⟩
      · exact h0
      · cases h0
    subst hm
    obtain rfl : news = [] := List.eq_nil_of_length_eq_zero (by simpa using hl)
    have hr := append_nil_run (P := P) base t o.type e i size ht hi v n xs hown c
    unfold Oper.wp execOp
    simp only [ho, resolve, invoke, builtin, Sem.run_bind, Sem.run_pure, Result.andThen_ok, List.map_toArray, List.map_cons, List.map_nil, hs, hx, hr]
    exact hK _ _ (h v w (by simpa using hown) (World.grownBy.refl w _))
  · refine wp_append_own w s x t ho base e i z size bytes ht hi hz hsize hby hzs hsz v n xs hs hown ad m c news hx hl ?_ h1 h63 hbytes hbase fun v' w' h2 h3 _ => hK _ _ (h v' w' h2 h3)
    rcases hA with rfl | ⟨ad', h0, hc⟩
    · obtain rfl : news = [] := List.eq_nil_of_length_eq_zero (by simpa using hl)
      intro j u hu; cases hu
    · cases h0; exact hc
end
/-- The cells that a slice reads, as a list. -/
def slCells (k : Nat) (f : Nat → Value) : List Value := (List.range k).map f
theorem slCells_len (k : Nat) (f : Nat → Value) : (slCells k f).length = k := by simp [slCells]
theorem slCells_get (k : Nat) (f : Nat → Value) (j : Nat) (h : j < k) : (slCells k f)[j]? = some (f j) := by simp [slCells, h]
theorem sl_src {w : World} {A : Option Addr} {n m c sz : Nat} {f : Nat → Value} (h : Sl w (.slice A n c) m sz f) : n = m ∧ (m = 0 ∨ ∃ ad, A = some ad ∧ ∀ j u, (slCells (m * sz) f)[j]? = some u → w.cell? (ad.add j) = some u) := by
  obtain ⟨A', c', he, _, h0 | ⟨b, o, hA, hc⟩⟩ := h
  · injection he with e1 e2 e3; exact ⟨e2, .inl h0⟩
  · injection he with e1 e2 e3
    refine ⟨e2, .inr ⟨_, e1.trans hA, fun j u hu => ?_⟩⟩
    have hj : j < m * sz := by
      rcases Nat.lt_or_ge j (m * sz) with h1 | h1
      · exact h1
      · rw [List.getElem?_eq_none (by rw [slCells_len]; exact h1)] at hu; cases hu
    rw [slCells_get _ _ _ hj] at hu
    rw [Addr.add_mid, hc j hj, hu]
/-- An owned row reads as a slice. -/
theorem sl_row {w : World} {base t sz n : Nat} {v : Value} {xs : List Value} (h : w.ownsRow base t sz v n xs) : Sl w v n sz (fun j => (xs[j]?).getD undef) := by
  rcases h.2 with ⟨rfl, h0⟩ | ⟨g, cap, cur, rfl, hg, hh, hn, hc, hs, ht⟩
  · subst h0; exact ⟨_, _, rfl, Nat.le_refl _, .inl rfl⟩
  · refine ⟨_, cap, rfl, hn, .inr ⟨g, 0, rfl, fun j hj => ?_⟩⟩
    have hx : xs.length = n * sz := h.1
    rw [Nat.zero_add, cell_of_row w g j cur t (0, 0) hh]
    obtain ⟨x, h1⟩ : ∃ x, xs[j]? = some x := ⟨_, List.getElem?_eq_getElem (by omega)⟩
    show _ = some ((xs[j]?).getD undef)
    rw [h1, Option.getD_some]
    rw [← ht, List.getElem?_take, if_pos hj] at h1
    simpa using h1
end Go.Proofs.YtccnocgmikmonaaGreatDoor
namespace Go.Proofs.YtccnocgmikmonaaGreatDoor
open Go Go.RowKit
section
variable {P : Program} {w : World}
/-- An owned row, or an empty slice of whatever address. -/
def Own0 (w : World) (base e size : Nat) (v : Value) (n : Nat) (xs : List Value) : Prop := w.ownsRow base e size v n xs ∨ (n = 0 ∧ xs = [] ∧ ∃ B, v = .slice B 0 0)
/-- What an append may have done: it wrote one row of the element type from base on, or none; and made blocks. -/
def Grew (w w' : World) (base e : Nat) : Prop := ∃ row, w.grownBy w' row ∧ ∀ g, row = some g → base ≤ g ∧ ∃ cur, w.heap[g]? = some (.cells cur e (0, 0))
theorem Grew.below {w' : World} {base e B : Nat} {a : World} (h : Grew w w' base e) (hb : Below B a w) (hB : B ≤ w.heap.size) (hbase : B ≤ base) : Below B a w' := by
  obtain ⟨row, hg, hr⟩ := h
  exact hb.grown hg hB fun g hg => Nat.le_trans hbase (hr g hg).1
theorem Grew.has {w' : World} {base e g t : Nat} {cs : Array Value} (h : Grew w w' base e) (hh : Has w g t cs) (hne : t ≠ e) : Has w' g t cs := by
  obtain ⟨row, hg, hr⟩ := h
  refine hh.grown hg fun he => ?_
  obtain ⟨_, cur, hc⟩ := hr g he.symm
  unfold Has at hh
  rw [hh] at hc
  injection hc with hc
  injection hc with _ h2
  exact hne h2
theorem Own0.sl {base e size n : Nat} {v : Value} {xs : List Value} (h : Own0 w base e size v n xs) : Sl w v n size (fun j => (xs[j]?).getD undef) := by
  rcases h with h | ⟨rfl, _, B, rfl⟩
  · exact sl_row h
  · exact ⟨_, _, rfl, Nat.le_refl _, .inl rfl⟩
theorem Own0.form {base e size n : Nat} {v : Value} {xs : List Value} (h : Own0 w base e size v n xs) : ∃ A c, v = .slice A n c := by
  rcases h with h | ⟨rfl, _, B, rfl⟩
  · rcases h.2 with ⟨rfl, rfl⟩ | ⟨g, cap, cur, rfl, _⟩
    · exact ⟨_, _, rfl⟩
    · exact ⟨_, _, rfl⟩
  · exact ⟨_, _, rfl⟩
theorem Own0.alloc {base e size n : Nat} {v : Value} {xs : List Value} (h : Own0 w base e size v n xs) (o : Obj) : Own0 (w.alloc o) base e size v n xs := h.elim (fun h => .inl (h.alloc o)) .inr
theorem Own0.drew {base e size n : Nat} {v : Value} {xs : List Value} (h : Own0 w base e size v n xs) : Own0 w.drew base e size v n xs := h.elim (fun h => .inl h.drew) .inr
theorem Own0.put {base e size n g t : Nat} {v : Value} {xs : List Value} {cs : Array Value} (h : Own0 w base e size v n xs) (hh : Has w g t cs) (hne : t ≠ e) (i : Nat) (u : Value) : Own0 (w.setCell ⟨g, i, none⟩ u) base e size v n xs := by
  rcases h with h | h
  · refine .inl ⟨h.1, ?_⟩
    rcases h.2 with h0 | ⟨g', cap, cur, rfl, hb, hg, rest⟩
    · exact .inl h0
    · refine .inr ⟨g', cap, cur, rfl, hb, ?_, rest⟩
      have hgg : g' ≠ g := by
        rintro rfl
        unfold Has at hh
        rw [hg] at hh
        injection hh with hh
        injection hh with _ e2
        exact hne e2.symm
      exact (heap_setCell_other w ⟨g, i, none⟩ g' u hgg).trans hg
  · exact .inr h
theorem append_empty_run (t ty e : TypeId) (i : TypeInfo) (ht : P.underlying t = some (.slice e)) (hi : P.info? e = some i) (B : Option Addr) (A : Option Addr) (m c : Nat) (h0 : 0 < m) (hb : m * i.bytes ≤ 140737488355328) :
    (Builtin.append_ #[t, t] ty #[.slice B 0 0, .slice A m c]).run P w = (Builtin.append_ #[t, t] ty #[.slice none 0 0, .slice A m c]).run P w := by
  cases B with
  | none => rfl
  | some a =>
    have hm : ¬ m = 0 := by omega
    have h48 : ¬ (281474976710656 < Builtin.nextslicecap m 0 * i.bytes) := by rw [nextslicecap_zero h0]; omega
    simp [Builtin.append_, run_underlying ht, sizeOf, typeInfo, hi, Builtin.lenOf, Builtin.firstCells, loadCells, loadCellsFrom, hm, h48]
/-- append onto either. -/
theorem wp_app0 {o : Oper} {a : Act} {K : Act → World → Prop} {Q : Exit → Act → World → Prop} (s x : Operand) (t : TypeId)
    (ho : o.op = .call { callee := .builtin .append, args := #[s, x], argTypes := #[t, t] })
    (base : Nat) (e : TypeId) (i : TypeInfo) (z : Value) (size bytes : Nat) (ht : P.underlying t = some (.slice e)) (hi : P.info? e = some i) (hz : i.zero = some z)
    (hsize : i.size = size) (hby : i.bytes = bytes) (hzs : z.cells.size = size) (hsz : 0 < size)
    (v : Value) (n : Nat) (xs : List Value) (hs : a.eval s = v) (hown : Own0 w base e size v n xs)
    (A : Option Addr) (m c : Nat) (news : List Value) (hx : a.eval x = .slice A m c) (hl : news.length = m * size) (hA : m = 0 ∨ ∃ ad, A = some ad ∧ ∀ j u, news[j]? = some u → w.cell? (ad.add j) = some u)
    (h1 : ∀ u ∈ news, u.oneCell' = true) (h63 : n + m ≤ maxLen) (hbytes : (n + m) * bytes ≤ 140737488355328) (hbase : base ≤ w.heap.size)
    (h : ∀ v' w', Own0 w' base e size v' (n + m) (xs ++ news) → Grew w w' base e → K (a.put o.dst v') w') : o.wp P a w K Q := by
  have run : ∃ v' w', (Builtin.append_ #[t, t] o.type #[v, .slice A m c]).run P w = .ok v' w' ∧ Own0 w' base e size v' (n + m) (xs ++ news) ∧ Grew w w' base e := by
    have own : ∀ v n xs, w.ownsRow base e size v n xs → (∀ (hh : n + m ≤ maxLen), (n + m) * bytes ≤ 140737488355328 → ∃ v' w', (Builtin.append_ #[t, t] o.type #[v, .slice A m c]).run P w = .ok v' w' ∧ Own0 w' base e size v' (n + m) (xs ++ news) ∧ Grew w w' base e) := by
      intro v n xs hown h63 hbytes
      have hrow : ∀ g, v.ownBlock = some g → base ≤ g ∧ ∃ cur, w.heap[g]? = some (.cells cur e (0, 0)) := fun g hg => by
        refine ⟨(hown.lt g hg).1, ?_⟩
        rcases hown.2 with ⟨rfl, _⟩ | ⟨g', cap, cur, rfl, _, hh, _⟩
        · cases hg
        · obtain rfl : g' = g := Option.some.inj hg
          exact ⟨cur, hh⟩
      rcases A with _ | ad
      · have hm : m = 0 := by
          rcases hA with h0 | ⟨_, h0, _⟩
          · exact h0
          · cases h0
        subst hm
        obtain rfl : news = [] := List.eq_nil_of_length_eq_zero (by simpa using hl)
        exact ⟨v, w, append_nil_run (P := P) base t o.type e i size ht hi v n xs hown c, .inl (by simpa using hown), _, World.grownBy.refl w v.ownBlock, hrow⟩
      · obtain ⟨v', w', hr, h2, h3, _⟩ := run_append_own (P := P) w base t o.type e i z size bytes ht hi hz hsize hby hzs hsz v n xs hown ad m c news hl (by
          rcases hA with rfl | ⟨ad', h0, hc⟩
          · obtain rfl : news = [] := List.eq_nil_of_length_eq_zero (by simpa using hl)
            intro j u hu; cases hu
          · cases h0; exact hc) h1 h63 hbytes hbase
        exact ⟨v', w', hr, .inl h2, _, h3, hrow⟩
    rcases hown with hown | ⟨rfl, rfl, B, rfl⟩
    · exact own v n xs hown h63 hbytes
    · rcases Nat.eq_zero_or_pos m with rfl | h0
      · obtain rfl : news = [] := List.eq_nil_of_length_eq_zero (by simpa using hl)
        refine ⟨.slice B 0 0, w, ?_, .inr ⟨rfl, rfl, B, rfl⟩, none, World.grownBy.refl w none, fun g hg => by cases hg⟩
        cases A <;> cases B <;> simp [Builtin.append_, run_underlying ht, sizeOf, typeInfo, hi, Builtin.lenOf, Builtin.firstCells, loadCells, loadCellsFrom, storeCells]
      · obtain ⟨v', w', hr, h2, h3⟩ := own (.slice none 0 0) 0 [] (World.ownsRow_nil _ _ _ _) h63 hbytes
        exact ⟨v', w', by rw [append_empty_run t o.type e i ht hi B A m c h0 (by rw [hby]; simpa using hbytes)]; exact hr, h2, h3⟩
  obtain ⟨v', w', hr, h2, h3⟩ := run
  unfold Oper.wp execOp
  simp only [ho, resolve, invoke, builtin, Sem.run_bind, Sem.run_pure, Result.andThen_ok, List.map_toArray, List.map_cons, List.map_nil, hs, hx, hr]
  exact h v' w' h2 h3
end
end Go.Proofs.YtccnocgmikmonaaGreatDoor
namespace Go.Proofs.YtccnocgmikmonaaGreatDoor
open Go Go.RowKit
section
variable {P : Program}
theorem run_copyK (w : World) (dT sT ty elem : TypeId) (size g o dLen dCap : Nat) (a : Addr) (sLen sCap n : Nat) (cur : Array Value) (t : TypeId) (cs : List Value)
    (hu : P.underlying dT = some (.slice elem)) (hs : (P.info? elem).map (·.size) = some size)
    (hg : w.heap[g]? = some (.cells cur t (0, 0))) (hm : Nat.min sLen dLen = n) (hn : cs.length = n * size)
    (hsrc : ∀ j v, cs[j]? = some v → w.cell? (a.add j) = some v) (hfit : o + cs.length ≤ cur.size) (h1 : ∀ v ∈ cs, v.oneCell' = true) :
    (Builtin.copy_ #[dT, sT] ty #[.slice (some ⟨g, o, none⟩) dLen dCap, .slice (some a) sLen sCap]).run P w =
      .ok (goInt n) (w.setRow g (cur.toList.take o ++ cs ++ cur.toList.drop (o + cs.length)).toArray) := by
  have hl := run_loadCells_list (P := P) w a cs hsrc
  rw [hn] at hl
  have hst := run_storeCells_at P g o t cs 0 cur w hg (by simpa using hfit) h1
  rw [show o + 0 = o by omega] at hst
  cases hq : P.info? elem with
  | none => simp [hq] at hs
  | some i =>
    have hi : i.size = size := by simpa [hq] using hs
    have hm' : min sLen dLen = n := hm
    simp [Builtin.copy_, run_underlying hu, Builtin.lenOf, Builtin.firstCells, sizeOf, typeInfo, hq, hi, hm', hl, hst]
/-- What a copy into block g leaves. -/
structure Copied (w w' : World) (g : Nat) (t : TypeId) (cur : List Value) (off : Nat) (cs : List Value) : Prop where
  row : w'.heap[g]? = some (.cells (splice cur off cs).toArray t (0, 0))
  rest : ∀ g', g' ≠ g → w'.heap[g']? = w.heap[g']?
  size : w'.heap.size = w.heap.size
  below : ∀ B w0, Below B w0 w → B ≤ g → Below B w0 w'
theorem copied_of (w : World) (g : Nat) (t : TypeId) (cur : List Value) (off : Nat) (cs : List Value) (hg : w.heap[g]? = some (.cells cur.toArray t (0, 0))) :
    Copied w (w.setRow g (cur.take off ++ cs ++ cur.drop (off + cs.length)).toArray) g t cur off cs := by
  refine ⟨?_, fun g' h => setRow_other w g g' _ h, by simp [World.setRow], fun B w0 hb hB => below_setRow hb hB _⟩
  have := setRow_heap w g _ (cur.take off ++ cs ++ cur.drop (off + cs.length)).toArray t _ hg
  rw [this]; unfold splice; rw [List.append_assoc]
theorem wpList_copyK {w : World} {ops : Array Oper} {rest : List Oper} {o : Oper} {a : Act} {Q : Exit → Act → World → Prop} (hgd : o.guard = none) (d s : Operand) (dT sT : TypeId)
    (ho : o.op = .call { callee := .builtin .copy, args := #[d, s], argTypes := #[dT, sT] }) (elem : TypeId) (size : Nat) (hu : P.underlying dT = some (.slice elem)) (hsz : (P.info? elem).map (·.size) = some size)
    (g off dLen dCap : Nat) (ad : Addr) (sLen sCap n : Nat) (hd : a.eval d = .slice (some ⟨g, off, none⟩) dLen dCap) (hs : a.eval s = .slice (some ad) sLen sCap)
    (cur : List Value) (t : TypeId) (hg : w.heap[g]? = some (.cells cur.toArray t (0, 0))) (cs : List Value) (hm : Nat.min sLen dLen = n) (hn : cs.length = n * size)
    (hsrc : ∀ j v, cs[j]? = some v → w.cell? (ad.add j) = some v) (hfit : off + cs.length ≤ cur.length) (h1 : ∀ v ∈ cs, v.oneCell' = true)
    (h : ∀ w', Hid (Copied w w' g t cur off cs) → wpList P ops Q rest (a.put o.dst (goInt n)) w') : wpList P ops Q (o :: rest) a w := by
  refine wpList_plain hgd fun K hK => ?_
  have hrun := run_copyK (P := P) w dT sT o.type elem size g off dLen dCap ad sLen sCap n cur.toArray t cs hu hsz hg hm hn hsrc (by simpa using hfit) h1
  unfold Oper.wp
  simp [execOp, ho, resolve, invoke, builtin, hd, hs, hrun, Result.andThen]
  exact hK _ _ (h _ (Lib.hid (by have := copied_of w g t cur off cs hg; simpa using this)))
theorem step_copyK {ops : Array Oper} {o : Oper} {a : Act} {w : World} {K : Act → World → Prop} {Q : Exit → Act → World → Prop} {E : Prop} (hgd : o.guard = none) (d s : Operand) (dT sT : TypeId)
    (ho : o.op = .call { callee := .builtin .copy, args := #[d, s], argTypes := #[dT, sT] }) (elem : TypeId) (size : Nat) (hu : P.underlying dT = some (.slice elem)) (hsz : (P.info? elem).map (·.size) = some size)
    (g off dLen dCap : Nat) (ad : Addr) (sLen sCap n : Nat) (hd : a.eval d = .slice (some ⟨g, off, none⟩) dLen dCap) (hs : a.eval s = .slice (some ad) sLen sCap)
    (cur : List Value) (t : TypeId) (hg : w.heap[g]? = some (.cells cur.toArray t (0, 0))) (cs : List Value) (hm : Nat.min sLen dLen = n) (hn : cs.length = n * size)
    (hsrc : ∀ j v, cs[j]? = some v → w.cell? (ad.add j) = some v) (hfit : off + cs.length ≤ cur.length) (h1 : ∀ v ∈ cs, v.oneCell' = true)
    (h : ∀ w', Hid (Copied w w' g t cur off cs) → K (a.put o.dst (goInt n)) w') :
    if Region.wanted o (yielded ops a.tmps) = true then Oper.wp P o a w K Q else E := by
  have hw : Region.wanted o (yielded ops a.tmps) = true := by simp [Region.wanted, hgd]
  rw [if_pos hw]
  have hrun := run_copyK (P := P) w dT sT o.type elem size g off dLen dCap ad sLen sCap n cur.toArray t cs hu hsz hg hm hn hsrc (by simpa using hfit) h1
  unfold Oper.wp
  simp [execOp, ho, resolve, invoke, builtin, hd, hs, hrun, Result.andThen]
  exact h _ (Lib.hid (by have := copied_of w g t cur off cs hg; simpa using this))
end
theorem splice_app {α : Type} (A B C D : List α) (h : B.length = D.length) (n : Nat) (hn : n = A.length) : splice (A ++ (B ++ C)) n D = A ++ (D ++ C) := by
  subst hn
  unfold splice
  have h1 : (A ++ (B ++ C)).drop (A.length + D.length) = C := by
    rw [← List.append_assoc, ← h, ← List.length_append, List.drop_left]
  rw [List.take_left, h1]
/-- Where two splices make an insertion: into a new row that ends in other cells, and in place. -/
theorem ins_new {α : Type} (X Y Z R E : List α) (hZ : Z.length = Y.length + R.length) (n m : Nat) (hn : n = X.length) (hm : m = X.length + Y.length) :
    splice (splice (X ++ (Z ++ E)) n Y) m R = X ++ (Y ++ (R ++ E)) := by
  have e : X ++ (Z ++ E) = X ++ (Z.take Y.length ++ (Z.drop Y.length ++ E)) := by rw [← List.append_assoc (Z.take _), List.take_append_drop]
  rw [e, splice_app X (Z.take Y.length) (Z.drop Y.length ++ E) Y (by simp; omega) n hn, ← List.append_assoc X Y, splice_app (X ++ Y) (Z.drop Y.length) E R (by simp; omega) m (by simp; omega), List.append_assoc]
theorem ins_here {α : Type} (X Y R E F : List α) (hE : E.length = Y.length) (n m : Nat) (hn : n = X.length) (hm : m = X.length + Y.length) :
    splice (splice (X ++ (R ++ (E ++ F))) m R) n Y = X ++ (Y ++ (R ++ F)) := by
  have e : X ++ (R ++ (E ++ F)) = (X ++ (R ++ E).take Y.length) ++ ((R ++ E).drop Y.length ++ F) := by
    rw [List.append_assoc X, ← List.append_assoc (List.take _ _), List.take_append_drop, List.append_assoc]
  have hl : ((R ++ E).take Y.length).length = Y.length := by simp; omega
  rw [e, splice_app _ ((R ++ E).drop Y.length) F R (by simp; omega) m (by rw [List.length_append, hl]; exact hm), List.append_assoc X, splice_app X ((R ++ E).take Y.length) (R ++ F) Y hl n hn]
end Go.Proofs.YtccnocgmikmonaaGreatDoor
namespace Go.Proofs.YtccnocgmikmonaaGreatDoor
open Go Go.RowKit
/-- The cells of the things of l, thing by thing. -/
structure RL {α : Type} (C : Nat) (R : World → List Value → α → Prop) (w : World) (css : List (List Value)) (l : List α) : Prop where
  len : css.length = l.length
  each : ∀ (i : Nat) cs a, css[i]? = some cs → l[i]? = some a → R w cs a ∧ cs.length = C
section
variable {α : Type} {C : Nat} {R : World → List Value → α → Prop} {w : World}
theorem RL.size {css : List (List Value)} {l : List α} (h : RL C R w css l) : ∀ cs ∈ css, cs.length = C := by
  intro cs hcs
  obtain ⟨i, hi, rfl⟩ := List.getElem_of_mem hcs
  have hl : i < l.length := by rw [← h.len]; exact hi
  exact (h.each i _ _ (List.getElem?_eq_getElem hi) (List.getElem?_eq_getElem hl)).2
theorem flat_len : ∀ (css : List (List Value)), (∀ cs ∈ css, cs.length = C) → css.flatten.length = css.length * C
  | [], _ => by simp
  | c :: r, h => by
    have h1 := h c (by simp)
    have h2 := flat_len r (fun x hx => h x (by simp [hx]))
    rw [List.flatten_cons, List.length_append, h1, h2, List.length_cons, Nat.add_mul]; omega
theorem flat_get : ∀ (css : List (List Value)), (∀ cs ∈ css, cs.length = C) → ∀ i j cs, css[i]? = some cs → j < C → css.flatten[i * C + j]? = cs[j]?
  | [], _, _, _, _, h, _ => by simp at h
  | c :: r, h, 0, j, cs, hi, hj => by
    have : c = cs := by simpa using hi
    subst this
    have h1 := h c (by simp)
    rw [List.flatten_cons, Nat.zero_mul, Nat.zero_add, List.getElem?_append_left (by omega)]
  | c :: r, h, i + 1, j, cs, hi, hj => by
    have h1 := h c (by simp)
    have h2 := flat_get r (fun x hx => h x (by simp [hx])) i j cs (by simpa using hi) hj
    rw [List.flatten_cons, List.getElem?_append_right (by rw [h1, Nat.add_mul]; omega), h1, show (i + 1) * C + j - C = i * C + j by rw [Nat.add_mul]; omega]
    exact h2
theorem flat_take : ∀ (css : List (List Value)), (∀ cs ∈ css, cs.length = C) → ∀ i, (css.take i).flatten = css.flatten.take (i * C)
  | [], _, i => by simp
  | c :: r, h, 0 => by simp
  | c :: r, h, i + 1 => by
    have h1 := h c (by simp)
    have h2 := flat_take r (fun x hx => h x (by simp [hx])) i
    rw [List.take_succ_cons, List.flatten_cons, h2, List.flatten_cons, List.take_append, h1, List.take_of_length_le (l := c) (by rw [h1, Nat.add_mul]; omega), show (i + 1) * C - C = i * C by rw [Nat.add_mul]; omega]
theorem flat_drop : ∀ (css : List (List Value)), (∀ cs ∈ css, cs.length = C) → ∀ i, (css.drop i).flatten = css.flatten.drop (i * C)
  | [], _, i => by simp
  | c :: r, h, 0 => by simp
  | c :: r, h, i + 1 => by
    have h1 := h c (by simp)
    have h2 := flat_drop r (fun x hx => h x (by simp [hx])) i
    rw [List.drop_succ_cons, h2, List.flatten_cons, List.drop_append, h1, List.drop_of_length_le (l := c) (by rw [h1, Nat.add_mul]; omega), show (i + 1) * C - C = i * C by rw [Nat.add_mul]; omega]; simp
/-- A slice's things as such a row. -/
theorem Rd.rows {v : Value} {l : List α} (h : Rd C R w v l) : ∃ A c css, v = .slice A l.length c ∧ l.length ≤ c ∧ RL C R w css l ∧ (l.length = 0 ∨ ∃ ad, A = some ad ∧ ∀ j u, css.flatten[j]? = some u → w.cell? (ad.add j) = some u) := by
  obtain ⟨A, c, hv, hn, h0 | ⟨b, o, rfl, hc⟩⟩ := h
  · have : l = [] := List.eq_nil_of_length_eq_zero h0
    subst this
    exact ⟨A, c, [], hv, hn, ⟨rfl, fun i cs a hi => by simp at hi⟩, .inl rfl⟩
  · have hex : ∀ i, i < l.length → ∃ cs, ∀ a, l[i]? = some a → R w cs a ∧ cs.length = C ∧ w.rangeAt b (o + i * C) cs := fun i hi => by
      obtain ⟨cs, h1⟩ := hc i l[i] (List.getElem?_eq_getElem hi)
      exact ⟨cs, fun a ha => by rw [List.getElem?_eq_getElem hi] at ha; cases ha; exact h1⟩
    let f : Nat → List Value := fun i => if h : i < l.length then Classical.choose (hex i h) else []
    have hf : ∀ i a, l[i]? = some a → R w (f i) a ∧ (f i).length = C ∧ w.rangeAt b (o + i * C) (f i) := by
      intro i a ha
      have hi : i < l.length := by
        rcases Nat.lt_or_ge i l.length with h | h
        · exact h
        · rw [List.getElem?_eq_none h] at ha; cases ha
      have : f i = Classical.choose (hex i hi) := dif_pos hi
      rw [this]; exact Classical.choose_spec (hex i hi) a ha
    have hcss : ∀ i cs, ((List.range l.length).map f)[i]? = some cs → i < l.length ∧ cs = f i := fun i cs h => by
      have hi : i < l.length := by
        rcases Nat.lt_or_ge i l.length with h1 | h1
        · exact h1
        · rw [List.getElem?_eq_none (by simpa using h1)] at h; cases h
      refine ⟨hi, ?_⟩
      simp [hi] at h; exact h.symm
    have hRL : RL C R w ((List.range l.length).map f) l := ⟨by simp, fun i cs a h1 h2 => by
      obtain ⟨_, rfl⟩ := hcss i cs h1
      obtain ⟨q1, q2, _⟩ := hf i a h2
      exact ⟨q1, q2⟩⟩
    refine ⟨_, c, (List.range l.length).map f, hv, hn, hRL, .inr ⟨_, rfl, fun j u hj => ?_⟩⟩
    have hlen := flat_len _ hRL.size
    rw [hRL.len] at hlen
    have hjl : j < l.length * C := by
      rcases Nat.lt_or_ge j (l.length * C) with h | h
      · exact h
      · rw [List.getElem?_eq_none (by omega)] at hj; cases hj
    have hC : 0 < C := by
      rcases Nat.eq_zero_or_pos C with h | h
      · rw [h] at hjl; simp at hjl
      · exact h
    have hi : j / C < l.length := by
      rw [Nat.div_lt_iff_lt_mul hC]; exact hjl
    have hd : j / C * C + j % C = j := Nat.div_add_mod' j C
    have hg := flat_get _ hRL.size (j / C) (j % C) (f (j / C)) (by simp [hi]) (Nat.mod_lt _ hC)
    rw [hd, hj] at hg
    obtain ⟨_, _, h3⟩ := hf (j / C) l[j / C] (List.getElem?_eq_getElem hi)
    have := h3 (j % C) u hg.symm
    rw [Addr.add_mid]
    rwa [Nat.add_assoc, hd] at this
/-- .. and back. -/
theorem RL.rd {w' : World} {v : Value} {css : List (List Value)} {l : List α} {g : Nat} {t : TypeId} {c : Nat} {F : List Value} (hR : Stays R) (h : RL C R w css l) (hb : Below w.heap.size w w') (hv : v = .slice (some ⟨g, 0, none⟩) l.length c) (hc : l.length ≤ c)
    (hg : w'.heap[g]? = some (.cells (css.flatten ++ F).toArray t (0, 0))) : Rd C R w' v l := by
  refine ⟨_, c, hv, hc, .inr ⟨g, 0, rfl, fun i a hi => ?_⟩⟩
  have hil : i < l.length := by
    rcases Nat.lt_or_ge i l.length with h1 | h1
    · exact h1
    · rw [List.getElem?_eq_none h1] at hi; cases hi
  have hic : i < css.length := by rw [h.len]; exact hil
  obtain ⟨h1, h2⟩ := h.each i css[i] a (List.getElem?_eq_getElem hic) hi
  refine ⟨css[i], hR _ _ _ _ h1 hb, h2, fun j u hj => ?_⟩
  have hjc : j < C := by
    rcases Nat.lt_or_ge j C with h3 | h3
    · exact h3
    · rw [List.getElem?_eq_none (by omega)] at hj; cases hj
  rw [cell_of_row w' g (0 + i * C + j) _ t (0, 0) hg]
  have hf := flat_get css h.size i j css[i] (List.getElem?_eq_getElem hic) hjc
  have hl := flat_len css h.size
  simp only [List.getElem?_toArray]
  rw [Nat.zero_add, List.getElem?_append_left, hf]
  · exact hj
  · rw [hl]
    have : i * C + C ≤ css.length * C := by
      have := Nat.mul_le_mul_right C (show i + 1 ≤ css.length by omega)
      rwa [Nat.add_mul, Nat.one_mul] at this
    omega
theorem RL.set {css : List (List Value)} {l : List α} (h : RL C R w css l) (i : Nat) {cs : List Value} {x : α} (hx : R w cs x) (hc : cs.length = C) : RL C R w (css.set i cs) (l.set i x) := by
  refine ⟨by simp [h.len], fun k c a h1 h2 => ?_⟩
  rw [List.getElem?_set] at h1 h2
  by_cases e : i = k
  · subst e
    rw [if_pos rfl] at h1 h2
    split at h1 <;> split at h2
    · cases h1; cases h2; exact ⟨hx, hc⟩
    · cases h2
    · cases h1
    · cases h1
  · rw [if_neg e] at h1 h2
    exact h.each k c a h1 h2
theorem RL.ins {css : List (List Value)} {l : List α} (h : RL C R w css l) (i : Nat) (hi : i ≤ l.length) {cs : List Value} {x : α} (hx : R w cs x) (hc : cs.length = C) : RL C R w (css.take i ++ cs :: css.drop i) (l.take i ++ x :: l.drop i) := by
  have hl := h.len
  refine ⟨by simp [h.len], fun k c a h1 h2 => ?_⟩
  have e1 : (css.take i).length = i := by simp; omega
  have e2 : (l.take i).length = i := by simp; omega
  rcases Nat.lt_trichotomy k i with hk | hk | hk
  · rw [List.getElem?_append_left (by omega), List.getElem?_take, if_pos hk] at h1 h2
    exact h.each k c a h1 h2
  · subst hk
    rw [List.getElem?_append_right (by omega), e1] at h1
    rw [List.getElem?_append_right (by omega), e2] at h2
    simp at h1 h2
    subst h1; subst h2
    exact ⟨hx, hc⟩
  · rw [List.getElem?_append_right (by omega), e1] at h1
    rw [List.getElem?_append_right (by omega), e2] at h2
    obtain ⟨m, hm⟩ : ∃ m, k - i = m + 1 := ⟨k - i - 1, by omega⟩
    rw [hm, List.getElem?_cons_succ, List.getElem?_drop] at h1 h2
    exact h.each (i + m) c a h1 h2
theorem RL.below {w' : World} {css : List (List Value)} {l : List α} (hR : Stays R) (h : RL C R w css l) (hb : Below w.heap.size w w') : RL C R w' css l :=
  ⟨h.len, fun i cs a h1 h2 => ⟨hR _ _ _ _ (h.each i cs a h1 h2).1 hb, (h.each i cs a h1 h2).2⟩⟩
end
theorem flat_set {C : Nat} (css : List (List Value)) (h : ∀ cs ∈ css, cs.length = C) (i : Nat) (hi : i < css.length) (cs : List Value) (hc : cs.length = C) : (css.set i cs).flatten = splice css.flatten (i * C) cs := by
  have e : css.set i cs = css.take i ++ cs :: css.drop (i + 1) := by
    rw [List.set_eq_take_append_cons_drop, if_pos hi]
  rw [e, List.flatten_append, List.flatten_cons, flat_take css h, flat_drop css h]
  unfold splice
  rw [hc, Nat.add_mul, Nat.one_mul]
/-- The cells of a block behind a run of stores. -/
theorem setCells_block (g : Nat) (t : TypeId) : ∀ (cs : List Value) (o : Nat) (cur : List Value) (w : World), w.heap[g]? = some (.cells cur.toArray t (0, 0)) → o + cs.length ≤ cur.length → (w.setCells g o cs).heap[g]? = some (.cells (splice cur o cs).toArray t (0, 0))
  | [], o, cur, w, h, _ => by
    rw [World.setCells, h]; unfold splice; simp
  | v :: r, o, cur, w, h, hl => by
    have h1 : (w.setCell ⟨g, o, none⟩ v).heap[g]? = some (.cells (cur.set o v).toArray t (0, 0)) := by
      have := heap_setCell_same w g o cur.toArray t v h
      rw [this]; simp
    rw [World.setCells, setCells_block g t r (o + 1) (cur.set o v) _ h1 (by simp at hl ⊢; omega)]
    congr 3
    have := list_seg_step cur o v r (by simp at hl; omega)
    unfold splice
    rw [List.append_assoc] at this
    rw [this]; simp
theorem setCells_other (g : Nat) : ∀ (cs : List Value) (o : Nat) (w : World) (g' : Nat), g' ≠ g → (w.setCells g o cs).heap[g']? = w.heap[g']?
  | [], _, _, _, _ => rfl
  | v :: r, o, w, g', h => by
    rw [World.setCells, setCells_other g r (o + 1) _ g' h]
    exact heap_setCell_other w ⟨g, o, none⟩ g' v (fun e => h e)
theorem below_setCells {B g : Nat} {w0 : World} (hB : B ≤ g) : ∀ (cs : List Value) (o : Nat) (w : World), Below B w0 w → Below B w0 (w.setCells g o cs)
  | [], _, _, h => h
  | v :: r, o, w, h => by
    rw [World.setCells]
    exact below_setCells hB r (o + 1) _ (h.setCell hB _)
end Go.Proofs.YtccnocgmikmonaaGreatDoor
namespace Go.Proofs.YtccnocgmikmonaaGreatDoor
open Go Go.RowKit
theorem infoP : (Tryz.prog.info? 33).map (fun i => (i.zero, i.size, i.bytes)) = some (some (.agg #[.string ⟨#[]⟩, .string ⟨#[]⟩, .string ⟨#[]⟩, .string ⟨#[]⟩, .int .i64 0, .int .i64 0, .bool false, .slice none 0 0, .int .i64 0, .int .i64 0, .int .i64 0, .int .i64 0, .int .i64 0, .int .i64 0]), 14, 160) := by kernel_rfl
theorem sizeP : (Tryz.prog.info? 33).map (·.size) = some 14 := by kernel_rfl
set_option maxRecDepth 100000 in
set_option maxHeartbeats 2000000 in
theorem insEndP_any (base : Nat) (A : Option Addr) (n cap : Nat) (xs : List Value) (gv : Nat) (cs : Array Value) (w : World) (hown : Own0 w base 33 14 (.slice A n cap) n xs) (hnc : n ≤ cap) (hn : n ≤ 100000) (hv : Has w gv 33 cs) (hcs : cs.size = 14) (h1 : ∀ u ∈ cs.toList, u.oneCell' = true) (hb : base ≤ w.heap.size) (hA : A = none → cap = 0) :
    Calls Tryz.prog 92 #[.slice A n cap, .int .i64 n, .slice (some ⟨gv, 0, none⟩) 1 1] w fun e w' => ∃ v', e = .returned v' ∧ Own0 w' base 33 14 v' (n + 1) (xs ++ cs.toList) ∧ ∀ B, B ≤ base → Below B w w' := by
  obtain ⟨i0, hi, hz0, hq1, hq2⟩ := info_parts infoP
  have hI := Lib.hid hi
  have hZ := Lib.hid hz0
  have HO := Lib.hid hown
  have HV := Lib.hid hv
  have HX : Hid (∀ j u, cs.toList[j]? = some u → w.cell? ((⟨gv, 0, none⟩ : Addr).add j) = some u) := fun j u hu => by
    rw [Addr.add_mid, Nat.zero_add, HV.out.cell j]; simpa using hu
  have H1 := Lib.hid h1
  have HL : Hid (cs.toList.length = 1 * 14) := by show _ = _; simp [hcs]
  clear hi hz0 hown hv h1
  cases A with
  | none =>
    obtain rfl := hA rfl
    obtain rfl : n = 0 := by omega
    go_enter Tryz.func92, Tryz.ntmps92
    go_wp2_with (at_builtin; refine BigFrame.wpList_want (by kernel_rfl) (fun K hK => wp_app0 (.tmp 23) (.tmp 24) 22 rfl base 33 i0 (.agg #[.string ⟨#[]⟩, .string ⟨#[]⟩, .string ⟨#[]⟩, .string ⟨#[]⟩, .int .i64 0, .int .i64 0, .bool false, .slice none 0 0, .int .i64 0, .int .i64 0, .int .i64 0, .int .i64 0, .int .i64 0, .int .i64 0]) 14 160 Tryz.underlying22 hI.out hZ.out hq1 hq2 rfl (by decide) _ 0 _ rfl HO.out (some ⟨gv, 0, none⟩) 1 1 cs.toList rfl HL.out (.inr ⟨_, rfl, HX.out⟩) H1.out (by unfold maxLen; omega) (by omega) hb ?_); intro v7 w7 hown7 hg7; refine hK _ _ ?_; have HO7 := Lib.hid hown7; have HG7 := Lib.hid hg7; clear hown7 hg7)
    go_ret
    exact ⟨_, rfl, HO7.out, fun B hB => HG7.out.below (Below.refl _ _) (by omega) hB⟩
  | some ad =>
    by_cases hnc2 : n = cap
    · subst hnc2
      have hw0 : ¬ (n : Int) < 0 := by omega
      go_enter Tryz.func92, Tryz.ntmps92
      go_wp2_with (at_builtin; refine BigFrame.wpList_want (by kernel_rfl) (fun K hK => wp_app0 (.tmp 23) (.tmp 24) 22 rfl base 33 i0 (.agg #[.string ⟨#[]⟩, .string ⟨#[]⟩, .string ⟨#[]⟩, .string ⟨#[]⟩, .int .i64 0, .int .i64 0, .bool false, .slice none 0 0, .int .i64 0, .int .i64 0, .int .i64 0, .int .i64 0, .int .i64 0, .int .i64 0]) 14 160 Tryz.underlying22 hI.out hZ.out hq1 hq2 rfl (by decide) _ n _ rfl HO.out (some ⟨gv, 0, none⟩) 1 1 cs.toList rfl HL.out (.inr ⟨_, rfl, HX.out⟩) H1.out (by unfold maxLen; omega) (by omega) hb ?_); intro v7 w7 hown7 hg7; refine hK _ _ ?_; have HO7 := Lib.hid hown7; have HG7 := Lib.hid hg7; clear hown7 hg7)
      go_ret
      exact ⟨_, rfl, HO7.out, fun B hB => HG7.out.below (Below.refl _ _) (by omega) hB⟩
    · have hnc3 : n < cap := by omega
      have hw0 : ¬ (n : Int) < 0 := by omega
      go_enter Tryz.func92, Tryz.ntmps92
      go_wp2_with (at_builtin; refine BigFrame.wpList_want (by kernel_rfl) (fun K hK => wp_app0 (.tmp 23) (.tmp 24) 22 rfl base 33 i0 (.agg #[.string ⟨#[]⟩, .string ⟨#[]⟩, .string ⟨#[]⟩, .string ⟨#[]⟩, .int .i64 0, .int .i64 0, .bool false, .slice none 0 0, .int .i64 0, .int .i64 0, .int .i64 0, .int .i64 0, .int .i64 0, .int .i64 0]) 14 160 Tryz.underlying22 hI.out hZ.out hq1 hq2 rfl (by decide) _ n _ rfl HO.out (some ⟨gv, 0, none⟩) 1 1 cs.toList rfl HL.out (.inr ⟨_, rfl, HX.out⟩) H1.out (by unfold maxLen; omega) (by omega) hb ?_); intro v7 w7 hown7 hg7; refine hK _ _ ?_; have HO7 := Lib.hid hown7; have HG7 := Lib.hid hg7; clear hown7 hg7)
      go_ret
      exact ⟨_, rfl, HO7.out, fun B hB => HG7.out.below (Below.refl _ _) (by omega) hB⟩
theorem shapeOf {w : World} {g t : Nat} {cs : Array Value} (h : Has w g t cs) : w.shape? g = some (t, cs.size) := by
  unfold Has at h; simp [World.shape?, h]
set_option maxRecDepth 100000 in
set_option maxHeartbeats 4000000 in
theorem insHereP_any (g n cap i gv : Nat) (X R E F Y : List Value) (w : World) (hin : i < n) (hnc : n < cap) (hn : n ≤ 100000) (hcap : cap ≤ maxLen)
    (h0 : w.heap[g]? = some (.cells (X ++ (R ++ (E ++ F))).toArray 33 (0, 0))) (hX : X.length = i * 14) (hR : R.length = (n - i) * 14) (hE : E.length = 14)
    (hv : Has w gv 33 Y.toArray) (hY : Y.length = 14) (hne : gv ≠ g) (h1R : ∀ u ∈ R, u.oneCell' = true) (h1Y : ∀ u ∈ Y, u.oneCell' = true) :
    Calls Tryz.prog 92 #[.slice (some ⟨g, 0, none⟩) n cap, .int .i64 i, .slice (some ⟨gv, 0, none⟩) 1 1] w fun e w' => e = .returned (.slice (some ⟨g, 0, none⟩) (n + 1) cap) ∧ w'.heap[g]? = some (.cells (X ++ (Y ++ (R ++ F))).toArray 33 (0, 0)) ∧ ∀ B, B ≤ g → Below B w w' := by
  unfold maxLen at hcap
  obtain ⟨i0, hi, hz0, hq1, hq2⟩ := info_parts infoP
  have hz2 : ¬ ((i : Int) = (n : Int)) := by omega
  have h0' : Has w g 33 (X ++ (R ++ (E ++ F))).toArray := h0
  have hov : ∀ lb cb, (callFunc 126 #[.slice (some ⟨gv, 0, none⟩) 1 1, .slice (some ⟨g, (i + 1) * 14, none⟩) lb cb]).run Tryz.prog w = .ok (.value (.bool false)) w := fun lb cb => by
    rw [run_callFunc_extern Tryz.func126 (by kernel_rfl) (by kernel_rfl) (by kernel_rfl) (e := Extern.SlicesOverlaps.overlaps #[22, 22] #[4]) (by kernel_rfl),
      Lib.run_overlaps_apart w 22 4 33 Tryz.underlying22 14 Tryz.sizeOf33 ⟨gv, 0, none⟩ ⟨g, (i + 1) * 14, none⟩ 1 1 lb cb hne 33 33 Y.length (X ++ (R ++ (E ++ F))).length (by rw [shapeOf hv]; simp) (by rw [shapeOf h0']; simp) (by simp only [List.length_append]; omega) (hv.free 0) (hv.free _)]
    rfl
  have hw1 : IntKind.i64.wrap ((i : Int) + 1) = (i : Int) + 1 := by rw [IntKind.wrap_i64]; omega
  have hw2 : IntKind.i64.wrap ((n : Int) + 1) = (n : Int) + 1 := by rw [IntKind.wrap_i64]; omega
  have hb1 : (0 : Int) ≤ (i : Int) + 1 := by omega
  have htn : ((i : Int) + 1).toNat = i + 1 := by omega
  have hb2 : ¬ (cap = i + 1) := by omega
  have hb3 : (i : Int) ≤ (n : Int) + 1 := by omega
  have hb4 : ¬ (cap = i) := by omega
  have hb5 : (i : Int) ≤ (n : Int) := by omega
  have hb6 : ¬ ((cap : Int) < (n : Int) + 1) := by omega
  have hsR : ∀ j v, R[j]? = some v → w.cell? ((⟨g, i * 14, none⟩ : Addr).add j) = some v := fun j v hj => by
    rw [Addr.add_mid, h0'.cell]
    have hjl : j < R.length := by
      rcases Nat.lt_or_ge j R.length with h | h
      · exact h
      · rw [List.getElem?_eq_none h] at hj; cases hj
    simp only [List.getElem?_toArray]
    rw [List.getElem?_append_right (by omega), hX, show i * 14 + j - i * 14 = j by omega, List.getElem?_append_left hjl]
    exact hj
  have hsY : ∀ j v, Y[j]? = some v → w.cell? ((⟨gv, 0, none⟩ : Addr).add j) = some v := fun j v hj => by
    rw [Addr.add_mid, Nat.zero_add, hv.cell]; simpa using hj
  have H0 := Lib.hid h0
  have HSR := Lib.hid hsR
  have HSY := Lib.hid hsY
  have H1R := Lib.hid h1R
  have H1Y := Lib.hid h1Y
  have HX := Lib.hid hX
  have HR := Lib.hid hR
  have HE := Lib.hid hE
  have HY := Lib.hid hY
  have HV := Lib.hid hv
  clear hi hz0 h0 h0' hsR hsY h1R h1Y hX hR hE hY hv
  go_enter Tryz.func92, Tryz.ntmps92
  go_wp2_with (simp only [hov])
  go_region_law (refine step_copyK rfl (.tmp 73) (.tmp 76) 22 22 rfl 33 14 Tryz.underlying22 sizeP g ((i + 1) * 14) (n + 1 - (i + 1)) (cap - (i + 1)) ⟨g, i * 14, none⟩ (n + 1 - i) (cap - i) (n - i) (by simp [Act.eval, Act.put]) (by simp [Act.eval, Act.put]) (X ++ (R ++ (E ++ F))) 33 H0.out R (by simp only [Nat.min_def]; split <;> omega) HR.out HSR.out (by have h1 := HX.out; have h2 := HR.out; have h3 := HE.out; simp only [List.length_append]; have h4 : (i + 1) * 14 = i * 14 + 14 := (by omega); omega) H1R.out ?_; intro w1 HC1)
  have hgv1 : Has w1 gv 33 Y.toArray := (HC1.out.rest gv hne).trans HV.out
  have HSY1 : Hid (∀ j v, Y[j]? = some v → w1.cell? ((⟨gv, 0, none⟩ : Addr).add j) = some v) := fun j v hj => by
    rw [Addr.add_mid, Nat.zero_add, hgv1.cell]; simpa using hj
  have hlen : (splice (X ++ (R ++ (E ++ F))) ((i + 1) * 14) R).length = (X ++ (R ++ (E ++ F))).length := length_splice _ _ _ (by have h1 := HX.out; have h2 := HR.out; have h3 := HE.out; simp only [List.length_append]; have h4 : (i + 1) * 14 = i * 14 + 14 := (by omega); omega)
  have HLEN := Lib.hid hlen
  clear hgv1 hlen
  obtain ⟨S1, hS1⟩ : ∃ S1, S1 = splice (X ++ (R ++ (E ++ F))) ((i + 1) * 14) R := ⟨_, rfl⟩
  have HS1 := Lib.hid hS1
  have hr1 := HC1.out.row
  rw [← hS1] at hr1 HLEN
  have HR1 := Lib.hid hr1
  clear hr1 hS1
  go_wp2_with ((with_reducible show wpList _ _ _ (Oper.mk (some 82) _ _ _ _ _ :: _) _ _); refine wpList_copyK rfl (.tmp 80) (.tmp 81) 22 22 rfl 33 14 Tryz.underlying22 sizeP g (i * 14) (n + 1 - i) (cap - i) ⟨gv, 0, none⟩ 1 1 1 rfl rfl S1 33 HR1.out Y (by simp only [Nat.min_def]; split <;> omega) (by have h5 := HY.out; omega) HSY1.out (by have h0 := HLEN.out; have h1 := HX.out; have h2 := HR.out; have h3 := HE.out; have h5 := HY.out; simp only [List.length_append] at h0; omega) H1Y.out ?_; intro w2 HC2)
  go_ret
  refine ⟨rfl, ?_, fun B hB => HC2.out.below _ _ (HC1.out.below _ _ ((Below.refl _ _).drew) hB |>.mono (Nat.le_refl _)) hB⟩
  rw [HC2.out.row, HS1.out, ins_here X Y R E F (by rw [HE.out, HY.out]) _ _ HX.out.symm (by have h1 := HX.out; have h5 := HY.out; omega)]
set_option maxRecDepth 100000 in
set_option maxHeartbeats 4000000 in
theorem insGrowP_any (g n i gv : Nat) (X R Y : List Value) (w : World) (hin : i < n) (hn : n ≤ 100000)
    (h0 : w.heap[g]? = some (.cells (X ++ R).toArray 33 (0, 0))) (hX : X.length = i * 14) (hR : R.length = (n - i) * 14)
    (hv : Has w gv 33 Y.toArray) (hY : Y.length = 14) (h1R : ∀ u ∈ R, u.oneCell' = true) (h1Y : ∀ u ∈ Y, u.oneCell' = true) :
    Calls Tryz.prog 92 #[.slice (some ⟨g, 0, none⟩) n n, .int .i64 i, .slice (some ⟨gv, 0, none⟩) 1 1] w fun e w' => ∃ G F, e = .returned (.slice (some ⟨w.heap.size, 0, none⟩) (n + 1) G) ∧ w'.heap[w.heap.size]? = some (.cells (X ++ (Y ++ (R ++ F))).toArray 33 (0, 0)) ∧ n + 1 ≤ G ∧ G ≤ maxLen ∧ F.length = (G - (n + 1)) * 14 ∧ ∀ B, B ≤ w.heap.size → Below B w w' := by
  obtain ⟨i0, hi, hz0, hq1, hq2⟩ := info_parts infoP
  have hz2 : ¬ ((i : Int) = (n : Int)) := by omega
  have h0' : Has w g 33 (X ++ R).toArray := h0
  have hgl := h0'.lt
  have hvl := hv.lt
  have hold : (Builtin.firstCells i0.size i (.slice (some ⟨g, 0, none⟩) i n)).run Tryz.prog w.drew = .ok X.toArray w.drew := by
    rw [hq1]
    unfold Builtin.firstCells
    rw [← hX]
    exact run_loadCells_list (P := Tryz.prog) w.drew ⟨g, 0, none⟩ X (fun j v hj => by
      rw [Addr.add_mid, Nat.zero_add]
      show w.cell? _ = _
      rw [h0'.cell]
      have hjl : j < X.length := by
        rcases Nat.lt_or_ge j X.length with h | h
        · exact h
        · rw [List.getElem?_eq_none h] at hj; cases hj
      simp only [List.getElem?_toArray]
      rw [List.getElem?_append_left hjl]; exact hj)
  have hkk : (n : Int) + 1 - (i : Int) = ((n + 1 - i : Nat) : Int) := by omega
  have hik : i + (n + 1 - i) = n + 1 := by omega
  have hfit := growslice_fits (show n < n + 1 by omega) (show (n + 1) * 160 ≤ 140737488355328 by omega)
  have hrz : ∀ ty, (Builtin.append_ #[22, 3] ty #[.slice (some ⟨g, 0, none⟩) i n, .int .i64 ((n : Int) + 1 - (i : Int))]).run Tryz.prog w =
      .ok (.slice (some ⟨w.heap.size, 0, none⟩) (n + 1) (grownCap w (n + 1) n 33)) (w.drew.alloc (.cells (X.toArray ++ Builtin.zeroCells (Value.agg #[.string ⟨#[]⟩, .string ⟨#[]⟩, .string ⟨#[]⟩, .string ⟨#[]⟩, .int .i64 0, .int .i64 0, .bool false, .slice none 0 0, .int .i64 0, .int .i64 0, .int .i64 0, .int .i64 0, .int .i64 0, .int .i64 0]).cells (n + 1 - i) ++ Builtin.zeroCells (Value.agg #[.string ⟨#[]⟩, .string ⟨#[]⟩, .string ⟨#[]⟩, .string ⟨#[]⟩, .int .i64 0, .int .i64 0, .bool false, .slice none 0 0, .int .i64 0, .int .i64 0, .int .i64 0, .int .i64 0, .int .i64 0, .int .i64 0]).cells (grownCap w (n + 1) n 33 - (n + 1))) 33)) := fun ty => by
    have h := Lib.run_append_grow_zeros (P := Tryz.prog) w 22 3 ty 33 i0 _ .i64 .i64 Tryz.underlying22 Tryz.underlying3 hi hz0 (some ⟨g, 0, none⟩) i n X hold (n + 1 - i) (by omega) (by omega) (by omega) (by omega) (by rw [hq2]; omega) (by rw [hq2, hik]; exact hfit)
    rw [hik] at h
    rw [hkk]
    exact h
  have hG1 := grownCap_ge w (n + 1) n 33
  have hG2 := grownCap_le_maxLen w (n + 1) n 33 (by unfold maxLen; omega)
  generalize grownCap w (n + 1) n 33 = G at *
  have hG63 : G ≤ 9223372036854775807 := by unfold maxLen at hG2; omega
  obtain ⟨ZK, hZK⟩ : ∃ ZK : List Value, ZK = (Builtin.zeroCells (Value.agg #[.string ⟨#[]⟩, .string ⟨#[]⟩, .string ⟨#[]⟩, .string ⟨#[]⟩, .int .i64 0, .int .i64 0, .bool false, .slice none 0 0, .int .i64 0, .int .i64 0, .int .i64 0, .int .i64 0, .int .i64 0, .int .i64 0]).cells (n + 1 - i)).toList := ⟨_, rfl⟩
  obtain ⟨ZE, hZE⟩ : ∃ ZE : List Value, ZE = (Builtin.zeroCells (Value.agg #[.string ⟨#[]⟩, .string ⟨#[]⟩, .string ⟨#[]⟩, .string ⟨#[]⟩, .int .i64 0, .int .i64 0, .bool false, .slice none 0 0, .int .i64 0, .int .i64 0, .int .i64 0, .int .i64 0, .int .i64 0, .int .i64 0]).cells (G - (n + 1))).toList := ⟨_, rfl⟩
  have hZKl : ZK.length = (n + 1 - i) * 14 := by rw [hZK]; simp [Builtin.zeroCells, Value.cells]
  have hZEl : ZE.length = (G - (n + 1)) * 14 := by rw [hZE]; simp [Builtin.zeroCells, Value.cells]
  have hrow : X.toArray ++ Builtin.zeroCells (Value.agg #[.string ⟨#[]⟩, .string ⟨#[]⟩, .string ⟨#[]⟩, .string ⟨#[]⟩, .int .i64 0, .int .i64 0, .bool false, .slice none 0 0, .int .i64 0, .int .i64 0, .int .i64 0, .int .i64 0, .int .i64 0, .int .i64 0]).cells (n + 1 - i) ++ Builtin.zeroCells (Value.agg #[.string ⟨#[]⟩, .string ⟨#[]⟩, .string ⟨#[]⟩, .string ⟨#[]⟩, .int .i64 0, .int .i64 0, .bool false, .slice none 0 0, .int .i64 0, .int .i64 0, .int .i64 0, .int .i64 0, .int .i64 0, .int .i64 0]).cells (G - (n + 1)) = (X ++ (ZK ++ ZE)).toArray := by
    rw [hZK, hZE]; apply Array.ext'; simp
  rw [hrow] at hrz
  clear hrow hZK hZE hold hkk hik hfit hi hz0
  obtain ⟨C0, hC0⟩ : ∃ C0, C0 = X ++ (ZK ++ ZE) := ⟨_, rfl⟩
  rw [← hC0] at hrz
  have hw1 : IntKind.i64.wrap ((i : Int) + 1) = (i : Int) + 1 := by rw [IntKind.wrap_i64]; omega
  have hw2 : IntKind.i64.wrap ((n : Int) + 1) = (n : Int) + 1 := by rw [IntKind.wrap_i64]; omega
  have hw3 : IntKind.i64.wrap ((n : Int) + 1 - (i : Int)) = (n : Int) + 1 - (i : Int) := by rw [IntKind.wrap_i64]; omega
  have hb1 : (0 : Int) ≤ (i : Int) + 1 := by omega
  have htn : ((i : Int) + 1).toNat = i + 1 := by omega
  have hb3 : (i : Int) ≤ (n : Int) := by omega
  have hb4 : ¬ (n = i) := by omega
  have hb5 : ¬ (G = i) := by omega
  have hb6 : ¬ (G = i + 1) := by omega
  have hb7 : (n : Int) < (n : Int) + 1 := by omega
  have hgn : g ≠ w.heap.size := by omega
  have hvn : gv ≠ w.heap.size := by omega
  have HG0 : Hid ((w.drew.alloc (.cells C0.toArray 33)).heap[w.heap.size]? = some (.cells C0.toArray 33 (0, 0))) := Has.new w.drew _ _
  have HV0 : Hid (Has (w.drew.alloc (.cells C0.toArray 33)) gv 33 Y.toArray) := Has.alloc (w := w.drew) hv _
  have HS0 : Hid (Has (w.drew.alloc (.cells C0.toArray 33)) g 33 (X ++ R).toArray) := Has.alloc (w := w.drew) h0' _
  have HBl : Hid (∀ B, B ≤ w.heap.size → Below B w (w.drew.alloc (.cells C0.toArray 33))) := fun B hB => ((Below.refl _ _).drew).alloc (by show B ≤ w.heap.size; exact hB) _
  have HSY : Hid (∀ j v, Y[j]? = some v → (w.drew.alloc (.cells C0.toArray 33)).cell? ((⟨gv, 0, none⟩ : Addr).add j) = some v) := fun j v hj => by
    rw [Addr.add_mid, Nat.zero_add, HV0.out.cell]; simpa using hj
  have hCl : C0.length = G * 14 := by rw [hC0]; simp only [List.length_append]; omega
  have HCl := Lib.hid hCl
  have HC0 := Lib.hid hC0
  have H1R := Lib.hid h1R
  have H1Y := Lib.hid h1Y
  have HX := Lib.hid hX
  have HR := Lib.hid hR
  have HY := Lib.hid hY
  have HZK := Lib.hid hZKl
  have HZE := Lib.hid hZEl
  clear h0 h0' h1R h1Y hX hR hY hv hC0 hZKl hZEl hCl
  have hgs : w.drew.heap.size = w.heap.size := rfl
  go_enter Tryz.func92, Tryz.ntmps92
  go_wp2_with (first
    | ((with_reducible show wpList _ _ _ (Oper.mk (some 40) _ _ _ _ _ :: _) _ _); refine Lib.wpList_append_run _ rfl _ _ _ _ rfl _ _ rfl rfl _ _ (hrz _) ?_)
    | ((with_reducible show wpList _ _ _ (Oper.mk (some 45) _ _ _ _ _ :: _) _ _); refine wpList_copyK rfl (.tmp 43) (.tmp 44) 22 22 rfl 33 14 Tryz.underlying22 sizeP w.heap.size (i * 14) (n + 1 - i) (G - i) ⟨gv, 0, none⟩ 1 1 1 rfl rfl C0 33 HG0.out Y (by simp only [Nat.min_def]; split <;> omega) (by have h5 := HY.out; omega) HSY.out (by have h0 := HCl.out; have h5 := HY.out; omega) H1Y.out ?_; intro w1 HC1))
  have hs1 : Has w1 g 33 (X ++ R).toArray := (HC1.out.rest g hgn).trans HS0.out
  have HSR1 : Hid (∀ j v, R[j]? = some v → w1.drew.cell? ((⟨g, i * 14, none⟩ : Addr).add j) = some v) := fun j v hj => by
    rw [Addr.add_mid]
    show w1.cell? _ = _
    rw [hs1.cell]
    have hX := HX.out
    simp only [List.getElem?_toArray]
    rw [List.getElem?_append_right (by omega), hX, show i * 14 + j - i * 14 = j by omega]
    exact hj
  have hlen : (splice C0 (i * 14) Y).length = C0.length := length_splice _ _ _ (by have h0 := HCl.out; have h5 := HY.out; omega)
  obtain ⟨S1, hS1⟩ : ∃ S1, S1 = splice C0 (i * 14) Y := ⟨_, rfl⟩
  have hr1 := HC1.out.row
  rw [← hS1] at hr1 hlen
  have HR1 := Lib.hid hr1
  have HLEN := Lib.hid hlen
  have HS1 := Lib.hid hS1
  clear hr1 hS1 hlen hs1
  go_region_law (refine step_copyK rfl (.tmp 50) (.tmp 53) 22 22 rfl 33 14 Tryz.underlying22 sizeP w.heap.size ((i + 1) * 14) (n + 1 - (i + 1)) (G - (i + 1)) ⟨g, i * 14, none⟩ (n - i) (n - i) (n - i) (by simp [Act.eval, Act.put]) (by simp [Act.eval, Act.put]) S1 33 HR1.out R (by simp only [Nat.min_def]; split <;> omega) HR.out HSR1.out (by have h0 := HLEN.out; have h1 := HCl.out; have h3 := HR.out; omega) H1R.out ?_; intro w2 HC2)
  go_wp2_with fail
  go_ret
  have h1 := HX.out
  have h5 := HY.out
  have h3 := HR.out
  have h6 := HZK.out
  refine ⟨G, ZE, rfl, ?_, hG1, hG2, HZE.out, fun B hB => HC2.out.below _ _ ((HC1.out.below _ _ (HBl.out B hB) hB).drew) hB⟩
  rw [HC2.out.row, HS1.out, HC0.out, ins_new X Y ZK R ZE (by omega) _ _ h1.symm (by omega)]
end Go.Proofs.YtccnocgmikmonaaGreatDoor
namespace Go.Proofs.YtccnocgmikmonaaGreatDoor
open Go Go.RowKit
def cmpS (a b : ByteArray) : Int := if ltS a b then -1 else if a = b then 0 else 1
theorem isNaN_any (s : ByteArray) (w : World) : Calls Tryz.prog 125 #[.string s] w fun e w' => e = .returned (.bool false) ∧ w' = w := by
  go_enter Tryz.func125, Tryz.ntmps125
  go_wp2
  go_ret
  exact ⟨ret_bool (by simp), rfl⟩
theorem compare_any (a b : ByteArray) (w : World) : Calls Tryz.prog 90 #[.string a, .string b] w fun e w' => e = .returned (.int .i64 (cmpS a b)) ∧ w' = w := by
  unfold cmpS ltS
  cases hlt : Op.bytesLess a.toList b.toList
  · have hbe := bytes_beq a b
    cases he : (a.toList == b.toList)
    · rw [he] at hbe
      have hne := Lib.hid (of_decide_eq_false hbe.symm)
      clear hbe
      go_enter Tryz.func90, Tryz.ntmps90
      go_wp2_with (go_at_call 125; refine (isNaN_any _ _).mono ?_; rintro e w1 ⟨rfl, rfl⟩)
      go_ret
      exact ⟨ret_int (by simp ), rfl⟩
    · rw [he] at hbe
      have hne := Lib.hid (of_decide_eq_true hbe.symm)
      clear hbe
      go_enter Tryz.func90, Tryz.ntmps90
      go_wp2_with (go_at_call 125; refine (isNaN_any _ _).mono ?_; rintro e w1 ⟨rfl, rfl⟩)
      go_ret
      exact ⟨ret_int (by simp ), rfl⟩
  · go_enter Tryz.func90, Tryz.ntmps90
    go_wp2_with (go_at_call 125; refine (isNaN_any _ _).mono ?_; rintro e w1 ⟨rfl, rfl⟩)
    go_ret
    exact ⟨ret_int (by simp), rfl⟩
theorem cmpS_neg (a b : ByteArray) : decide (cmpS a b < 0) = ltS a b := by
  unfold cmpS
  cases ltS a b
  · by_cases h : a = b <;> simp [h]
  · simp
theorem cmpS_zero (a b : ByteArray) : (cmpS a b == 0) = decide (a = b) := by
  unfold cmpS
  by_cases h : a = b
  · subst h; rw [ltS_irr]; simp
  · cases ltS a b <;> simp [h]
/-- Sorted keys, pair by pair. -/
theorem sorted_adj {l : List ByteArray} (h : sortedB l = true) {i : Nat} (hi : i + 1 < l.length) : ltS (l.getD i eS) (l.getD (i + 1) eS) = true := by
  unfold sortedB sortTo at h
  rw [List.all_eq_true] at h
  exact h i (List.mem_range.2 (by omega))
theorem sorted_lt {l : List ByteArray} (h : sortedB l = true) {i : Nat} : ∀ {j : Nat}, i < j → j < l.length → ltS (l.getD i eS) (l.getD j eS) = true
  | 0, hij, _ => by omega
  | j + 1, hij, hj => by
    rcases Nat.lt_or_ge i j with h1 | h1
    · exact ltS_trans (sorted_lt h h1 (by omega)) (sorted_adj h hj)
    · obtain rfl : i = j := by omega
      exact sorted_adj h hj
theorem low_le {α : Type} (key : α → ByteArray) (l : List α) (x : ByteArray) : lowG key l x ≤ l.length := by
  unfold lowG; exact (List.takeWhile_sublist _).length_le
theorem low_pre {α : Type} (key : α → ByteArray) : ∀ (l : List α) (x : ByteArray) (d : α) (i : Nat), i < lowG key l x → ltS (key (l.getD i d)) x = true
  | [], _, _, i, h => by simp [lowG] at h
  | a :: l, x, d, i, h => by
    unfold lowG at h
    rw [List.takeWhile_cons] at h
    cases ha : ltS (key a) x with
    | false => rw [ha] at h; simp at h
    | true =>
      rw [ha] at h
      cases i with
      | zero => simpa using ha
      | succ i =>
        have := low_pre key l x d i (by unfold lowG; simp at h; omega)
        simpa using this
theorem low_at {α : Type} (key : α → ByteArray) : ∀ (l : List α) (x : ByteArray) (d : α), lowG key l x < l.length → ltS (key (l.getD (lowG key l x) d)) x = false
  | [], _, _, h => by simp at h
  | a :: l, x, d, h => by
    unfold lowG at h ⊢
    rw [List.takeWhile_cons] at h ⊢
    cases ha : ltS (key a) x with
    | false => simpa using ha
    | true =>
      rw [ha] at h
      have := low_at key l x d (by unfold lowG; simp at h; omega)
      unfold lowG at this
      simpa using this
/-- What stands at a place of a sorted list, by that place. -/
theorem low_iff {α : Type} (key : α → ByteArray) (l : List α) (x : ByteArray) (d : α) (hs : sortedB (l.map key) = true) {i : Nat} (hi : i < l.length) : ltS (key (l.getD i d)) x = decide (i < lowG key l x) := by
  have hm : ∀ j, j < l.length → (l.map key).getD j eS = key (l.getD j d) := fun j hj => by
    rw [List.getD_eq_getElem?_getD, List.getElem?_map, List.getD_eq_getElem?_getD, List.getElem?_eq_getElem hj]; rfl
  rcases Nat.lt_or_ge i (lowG key l x) with h | h
  · rw [low_pre key l x d i h, decide_eq_true h]
  · rw [decide_eq_false (by omega)]
    have h0 := low_at key l x d (by omega)
    rcases Nat.lt_or_ge (lowG key l x) i with h1 | h1
    · have h2 := sorted_lt hs h1 (by simpa using hi)
      rw [hm _ (by omega), hm _ hi] at h2
      rw [Bool.eq_false_iff]
      intro h3
      rw [ltS_trans h2 h3] at h0; cases h0
    · obtain rfl : i = lowG key l x := by omega
      exact h0
end Go.Proofs.YtccnocgmikmonaaGreatDoor
namespace Go.Proofs.YtccnocgmikmonaaGreatDoor
open Go Go.RowKit
theorem keyP_any (name kind into slot : ByteArray) (made since : Int) (gone : Bool) (A : Option Addr) (n c : Nat) (kl kh cl ch dl dh : Int) (w : World) :
    Calls Tryz.prog 53 #[.agg #[.string name, .string kind, .string into, .string slot, .int .i64 made, .int .i64 since, .bool gone, .slice A n c, .int .i64 kl, .int .i64 kh, .int .i64 cl, .int .i64 ch, .int .i64 dl, .int .i64 dh]] w fun e w' => e = .returned (.string name) ∧ Below w.heap.size w w' := by
  go_enter Tryz.func53, Tryz.ntmps53
  go_wp2
  go_ret
  exact ⟨rfl, (Below.refl _ _).alloc (Nat.le_refl _) _⟩
set_option maxRecDepth 100000 in
set_option maxHeartbeats 1000000 in
theorem cmpP_any (name kind into slot : ByteArray) (made since : Int) (gone : Bool) (A : Option Addr) (n c : Nat) (kl kh cl ch dl dh : Int) (x : ByteArray) (g : Nat) (w : World) (h1 : Has w g 101 #[.func (.func 53) #[] #[]]) :
    Calls Tryz.prog 89 #[.agg #[.string name, .string kind, .string into, .string slot, .int .i64 made, .int .i64 since, .bool gone, .slice A n c, .int .i64 kl, .int .i64 kh, .int .i64 cl, .int .i64 ch, .int .i64 dl, .int .i64 dh], .string x, .pointer (some ⟨g, 0, none⟩)] w fun e w' => e = .returned (.int .i64 (cmpS name x)) ∧ Below w.heap.size w w' := by
  obtain ⟨c1, c2⟩ := (h1.alloc (.cells #[.string name, .string kind, .string into, .string slot, .int .i64 made, .int .i64 since, .bool gone, .slice A n c, .int .i64 kl, .int .i64 kh, .int .i64 cl, .int .i64 ch, .int .i64 dl, .int .i64 dh] 33)).facts
  obtain ⟨c3, c4⟩ := h1.facts
  have hl := h1.lt
  go_enter Tryz.func89, Tryz.ntmps89
  go_wp2_with (first | (go_at_call 53; refine (keyP_any name kind into slot made since gone A n c kl kh cl ch dl dh _).mono ?_; rintro e w1 ⟨rfl, hb1⟩) | (go_at_call 90; refine (compare_any _ _ _).mono ?_; rintro e w2 ⟨rfl, rfl⟩))
  go_ret
  exact ⟨rfl, ((Below.refl _ _).alloc (Nat.le_refl _) _).trans (hb1.mono (by simp))⟩
set_option maxRecDepth 100000 in
set_option maxHeartbeats 2000000 in
theorem bsP_any (w0 : World) (v : Value) (l : List Pa) (x : ByteArray) (g : Nat) (w : World) (hb0 : Below w0.heap.size w0 w) (hv : Rd 14 PaR w0 v l) (hl : l.length ≤ 100000) (hs : sortedB (l.map Pa.name) = true) (h1 : Has w g 101 #[.func (.func 53) #[] #[]]) :
    Calls Tryz.prog 88 #[v, .string x, .func (.func 89) #[] #[.pointer (some ⟨g, 0, none⟩)]] w fun e w' => e = .returned (.tuple #[.int .i64 (lowG Pa.name l x), .bool (decide (lowG Pa.name l x < l.length ∧ (l.getD (lowG Pa.name l x) noPa).name = x))]) ∧ Below w.heap.size w w' := by
  obtain ⟨A0, cc, rfl, hn⟩ := hv.form
  have HV := Lib.hid hv
  have HB0 := Lib.hid hb0
  have HB0s := hb0.size
  have H1 := Lib.hid h1
  have hgl := h1.lt
  have hlo := low_le Pa.name l x
  have HIF := Lib.hid (fun i (hi : i < l.length) => low_iff Pa.name l x noPa hs hi)
  clear hv hb0 h1 hs
  generalize hlw : lowG Pa.name l x = lo at *
  have HLW := Lib.hid hlw
  clear hlw
  go_enter Tryz.func88, Tryz.ntmps88
  go_wp2_with fail
  go_loopw [9, 10] (fun i j wr => ∃ a b : Nat, a ≤ lo ∧ lo ≤ b ∧ b ≤ l.length ∧ i = .int .i64 a ∧ j = .int .i64 b ∧ Hid (Below w.heap.size w wr)) (fun i j _ => (intOf j).toNat - (intOf i).toNat)
  case atStart => exact ⟨0, l.length, Nat.zero_le _, hlo, Nat.le_refl _, rfl, rfl, Below.refl _ _⟩
  case round =>
    obtain ⟨a, b, ha, hb, hbl, rfl, rfl, HB⟩ := hrel
    have q1 := H1.out.below HB.out hgl
    have HQ1 := Lib.hid q1
    clear q1
    by_cases hab : a < b
    · obtain ⟨m, hm⟩ : ∃ m, m = (a + b) / 2 := ⟨_, rfl⟩
      have hm1 : a ≤ m := by omega
      have hm2 : m < b := by omega
      have hml : m < l.length := by omega
      obtain ⟨bb, o, c', cs, he, _, ⟨sv, rfl, hsv⟩, _, hrg⟩ := HV.out.get hml noPa
      injection he with e1 e2 e3
      subst e1; subst e3
      obtain ⟨A2, c2, rfl, hn2⟩ := hsv.form
      clear hsv
      have hrg' := range_later hrg (HB0.out.trans (HB.out.mono HB0s))
      have hif := HIF.out m hml
      clear hrg
      generalize l.getD m noPa = q at *
      obtain ⟨name, kind, into, slot, made, since, gone, props, kl, kh, cl, ch, dl, dh⟩ := q
      replace hrg' : wr.rangeAt bb (o + m * 14) [.string name, .string kind, .string into, .string slot, .int .i64 made, .int .i64 since, .bool gone, .slice A2 props.length c2, .int .i64 kl, .int .i64 kh, .int .i64 cl, .int .i64 ch, .int .i64 dl, .int .i64 dh] := hrg'
      have hcn := cmpS_neg name x
      change ltS name x = _ at hif
      rw [hif] at hcn
      rw [hm] at hrg'
      have hC := Lib.hid (fun W g (h : Has W g _ _) => cmpP_any name kind into slot made since gone A2 props.length c2 kl kh cl ch dl dh x g W h)
      generalize cmpS name x = cv at *
      have HM := Lib.hid hm
      clear hm hif
      by_cases hmlo : m < lo
      · have hcv : cv < 0 := by rw [decide_eq_true hmlo] at hcn; exact of_decide_eq_true hcn
        clear hcn
        go_wp2_with (first | ((with_reducible show wpList _ _ _ (Oper.mk (some 28) _ _ _ _ _ :: _) _ _); refine wpList_load_mid rfl 33 _ rfl bb (o + (a + b) / 2 * 14) rfl _ _ hrg' Tryz.underlying33 rfl rfl ?_) | (go_at_call 89; refine (hC.out _ g HQ1.out).mono ?_; rintro e w2 ⟨rfl, hb2⟩; have HB2 := Lib.hid (HB.out.trans (hb2.mono HB.out.size)); clear hb2))
        go_roundw
        case rel => exact ⟨(a + b) / 2 + 1, b, by have := HM.out; omega, hb, hbl, by go_num, rfl, HB2.out⟩
        case measure => simp [intOf]; omega
      · have hcv : ¬ cv < 0 := by rw [decide_eq_false hmlo] at hcn; exact of_decide_eq_false hcn
        clear hcn
        go_wp2_with (first | ((with_reducible show wpList _ _ _ (Oper.mk (some 28) _ _ _ _ _ :: _) _ _); refine wpList_load_mid rfl 33 _ rfl bb (o + (a + b) / 2 * 14) rfl _ _ hrg' Tryz.underlying33 rfl rfl ?_) | (go_at_call 89; refine (hC.out _ g HQ1.out).mono ?_; rintro e w2 ⟨rfl, hb2⟩; have HB2 := Lib.hid (HB.out.trans (hb2.mono HB.out.size)); clear hb2))
        go_roundw
        case rel => exact ⟨a, (a + b) / 2, ha, by have := HM.out; omega, by omega, rfl, by go_num, HB2.out⟩
        case measure => simp [intOf]; omega
    · obtain rfl : a = lo := by omega
      obtain rfl : a = b := by omega
      by_cases hal : a < l.length
      · obtain ⟨bb, o, c', cs, he, _, ⟨sv, rfl, hsv⟩, _, hrg⟩ := HV.out.get hal noPa
        injection he with e1 e2 e3
        subst e1; subst e3
        obtain ⟨A2, c2, rfl, hn2⟩ := hsv.form
        clear hsv
        have hrg' := range_later hrg (HB0.out.trans (HB.out.mono HB0s))
        clear hrg
        generalize hqq : l.getD a noPa = q at *
        have HQE := Lib.hid hqq
        clear hqq
        obtain ⟨name, kind, into, slot, made, since, gone, props, kl, kh, cl, ch, dl, dh⟩ := q
        replace hrg' : wr.rangeAt bb (o + a * 14) [.string name, .string kind, .string into, .string slot, .int .i64 made, .int .i64 since, .bool gone, .slice A2 props.length c2, .int .i64 kl, .int .i64 kh, .int .i64 cl, .int .i64 ch, .int .i64 dl, .int .i64 dh] := hrg'
        have hcz := cmpS_zero name x
        have hC := Lib.hid (fun W g (h : Has W g _ _) => cmpP_any name kind into slot made since gone A2 props.length c2 kl kh cl ch dl dh x g W h)
        generalize cmpS name x = cv at *
        have hal2 : (a : Int) < (l.length : Int) := by omega
        have HCZ := Lib.hid hcz
        clear hcz
        go_wp2_with (first | ((with_reducible show wpList _ _ _ (Oper.mk (some 44) _ _ _ _ _ :: _) _ _); refine BigFrame.wpList_want (by kernel_rfl) (fun K hK => wp_load_mid 33 _ rfl bb (o + a * 14) rfl _ _ hrg' Tryz.underlying33 rfl rfl (hK _ _ ?_))) | (go_at_call 89; refine (hC.out _ g HQ1.out).mono ?_; rintro e w2 ⟨rfl, hb2⟩; have HB2 := Lib.hid (HB.out.trans (hb2.mono HB.out.size)); clear hb2))
        go_ret2
        refine ⟨?_, HB2.out⟩
        have h := HCZ.out
        refine congrArg (fun b => Ending.returned (.tuple #[.int .i64 a, .bool b])) ?_
        refine h.trans ?_
        rw [HQE.out]
        simp [hal]
      · have hal2 : ¬ (a : Int) < (l.length : Int) := by omega
        go_wp2_with fail
        go_ret2
        exact ⟨rfl, HB.out⟩
end Go.Proofs.YtccnocgmikmonaaGreatDoor
namespace Go.Proofs.YtccnocgmikmonaaGreatDoor
open Go Go.RowKit
theorem own0formP {w : World} {base n : Nat} {v : Value} {xs : List Value} (h : Own0 w base 33 14 v n xs) (hn : 0 < n) : ∃ g cap F, v = .slice (some ⟨g, 0, none⟩) n cap ∧ base ≤ g ∧ w.heap[g]? = some (.cells (xs ++ F).toArray 33 (0, 0)) ∧ n ≤ cap ∧ cap ≤ maxLen ∧ F.length = (cap - n) * 14 ∧ xs.length = n * 14 := by
  rcases h with h | ⟨rfl, _⟩
  · obtain ⟨hl, ⟨_, h0⟩ | ⟨g, cap, cur, rfl, hb, hh, hc, hm, hs, ht⟩⟩ := h
    · omega
    · refine ⟨g, cap, cur.toList.drop (n * 14), rfl, hb, ?_, hc, hm, ?_, hl⟩
      · rw [← ht, List.take_append_drop]; exact hh
      · simp [hs]; omega
  · omega
theorem own0lenP {w : World} {base n : Nat} {v : Value} {xs : List Value} (h : Own0 w base 33 14 v n xs) : xs.length = n * 14 := by
  rcases h with h | ⟨rfl, rfl, _⟩
  · exact h.1
  · rfl
set_option maxRecDepth 100000 in
set_option maxHeartbeats 2000000 in
theorem cloneP_any (A : Option Addr) (n c : Nat) (xs : List Value) (w : World) (hsrc : n = 0 ∨ ∃ ad, A = some ad ∧ ∀ j u, xs[j]? = some u → w.cell? (ad.add j) = some u) (hl : xs.length = n * 14) (h1 : ∀ u ∈ xs, u.oneCell' = true) (hn : n ≤ 100000) :
    Calls Tryz.prog 91 #[.slice A n c] w fun e w' => ∃ v', e = .returned v' ∧ Own0 w' w.heap.size 33 14 v' n xs ∧ Below w.heap.size w w' := by
  obtain ⟨i0, hi, hz0, hq1, hq2⟩ := info_parts infoP
  have hI := Lib.hid hi
  have hZ := Lib.hid hz0
  have HS := Lib.hid hsrc
  have HL := Lib.hid hl
  have H1 := Lib.hid h1
  clear hi hz0 hsrc hl h1
  have q22 : ∀ (w : World) (a : Option Addr) (n c : Nat), (binOp .eql 22 (.slice a n c) (.slice none 0 0)).run Tryz.prog w = .ok (.bool a.isNone) w := fun w a n c => by
    simp [binOp, run_equal_slice_nil w _ _ a n c Tryz.underlying22]
  cases A with
  | none =>
    have h0 : n = 0 := by
      rcases HS.out with h | ⟨_, h, _⟩
      · exact h
      · cases h
    subst h0
    have hx : xs = [] := List.eq_nil_of_length_eq_zero (by have := HL.out; omega)
    subst hx
    go_enter Tryz.func91, Tryz.ntmps91
    go_wp2
    go_ret
    exact ⟨_, rfl, .inl (World.ownsRow_nil _ _ _ _), Below.refl _ _⟩
  | some ad =>
    have hb : Below w.heap.size w (w.alloc (.cells #[] 33)) := (Below.refl _ _).alloc (Nat.le_refl _) _
    have HB := Lib.hid hb
    have HSA : Hid (n = 0 ∨ ∃ ad', some ad = some ad' ∧ ∀ j u, xs[j]? = some u → (w.alloc (.cells #[] 33)).cell? (ad'.add j) = some u) := by
      rcases HS.out with h | ⟨ad', h, hc⟩
      · exact .inl h
      · exact .inr ⟨ad', h, fun j u hj => cell_later HB.out (hc j u hj)⟩
    clear hb
    go_enter Tryz.func91, Tryz.ntmps91
    go_wp2_with ((with_reducible show wpList _ _ _ (Oper.mk (some 7) _ _ _ _ _ :: _) _ _); refine BigFrame.wpList_want (by kernel_rfl) (fun K hK => wp_app0 (.tmp 5) (.tmp 6) 22 rfl w.heap.size 33 i0 (.agg #[.string ⟨#[]⟩, .string ⟨#[]⟩, .string ⟨#[]⟩, .string ⟨#[]⟩, .int .i64 0, .int .i64 0, .bool false, .slice none 0 0, .int .i64 0, .int .i64 0, .int .i64 0, .int .i64 0, .int .i64 0, .int .i64 0]) 14 160 Tryz.underlying22 hI.out hZ.out hq1 hq2 rfl (by decide) _ 0 [] rfl (.inr ⟨rfl, rfl, _, rfl⟩) (some ad) n c xs rfl HL.out HSA.out H1.out (by unfold maxLen; omega) (by omega) (by simp) ?_); intro v7 w7 hown7 hg7; refine hK _ _ ?_; have HO7 := Lib.hid hown7; have HG7 := Lib.hid hg7; clear hown7 hg7)
    go_ret
    exact ⟨_, rfl, by simpa using HO7.out, HG7.out.below HB.out (by simp) (Nat.le_refl _)⟩
/-- slices.Insert of one thing into a row of the call's own. -/
theorem insP_any (base : Nat) (v : Value) (n i : Nat) (xs : List Value) (gv : Nat) (Y : List Value) (w : World) (hown : Own0 w base 33 14 v n xs) (hin : i ≤ n) (hn : n ≤ 100000) (h1x : ∀ u ∈ xs, u.oneCell' = true) (hv : Has w gv 33 Y.toArray) (hY : Y.length = 14) (h1Y : ∀ u ∈ Y, u.oneCell' = true) (hb : base ≤ w.heap.size)
    (hne : i < n → v.ownBlock ≠ some gv) :
    Calls Tryz.prog 92 #[v, .int .i64 i, .slice (some ⟨gv, 0, none⟩) 1 1] w fun e w' => ∃ g cap F, e = .returned (.slice (some ⟨g, 0, none⟩) (n + 1) cap) ∧ base ≤ g ∧ w'.heap[g]? = some (.cells ((xs.take (i * 14) ++ (Y ++ xs.drop (i * 14))) ++ F).toArray 33 (0, 0)) ∧ n + 1 ≤ cap ∧ Below base w w' := by
  by_cases hi : i = n
  · subst hi
    have hxl := own0lenP hown
    obtain ⟨A, c, rfl⟩ := hown.form
    have hAc : (A = none → c = 0) ∧ i ≤ c := by
      rcases hown with h | ⟨h0, _, B, h⟩
      · rcases h.2 with ⟨h, h0⟩ | ⟨g, cap, cur, h, _, _, hc, _⟩
        · injection h with h2 h3 h4
          exact ⟨fun _ => h4, by omega⟩
        · injection h with h2 h3 h4
          exact ⟨fun e => by rw [e] at h2; (cases h2), by omega⟩
      · injection h with h2 h3 h4
        exact ⟨fun _ => h4, by omega⟩
    refine (insEndP_any base A i c xs gv Y.toArray w hown hAc.2 hn hv (by simp [hY]) (by simpa using h1Y) hb hAc.1).mono ?_
    rintro e w' ⟨v', rfl, ho, hB⟩
    obtain ⟨g, cap, F, rfl, h1, h2, h3, h4, h5, h6⟩ := own0formP ho (by omega)
    refine ⟨g, cap, F, rfl, h1, ?_, h3, hB base (Nat.le_refl _)⟩
    rw [List.take_of_length_le (by omega), List.drop_of_length_le (by omega), h2]; simp
  · obtain ⟨g, cap, F, rfl, h1, h2, h3, h4, h5, h6⟩ := own0formP hown (by omega)
    have hgl : g < w.heap.size := by
      rcases Nat.lt_or_ge g w.heap.size with h | h
      · exact h
      · rw [Array.getElem?_eq_none h] at h2; cases h2
    have hX : (xs.take (i * 14)).length = i * 14 := by simp; omega
    have hR : (xs.drop (i * 14)).length = (n - i) * 14 := by simp; omega
    have h1R : ∀ u ∈ xs.drop (i * 14), u.oneCell' = true := fun u hu => h1x u (List.mem_of_mem_drop hu)
    by_cases hc : cap = n
    · subst hc
      have hF : F = [] := List.eq_nil_of_length_eq_zero (by rw [h5]; simp)
      subst hF
      refine (insGrowP_any g cap i gv (xs.take (i * 14)) (xs.drop (i * 14)) Y w (by omega) hn (by rw [List.take_append_drop]; simpa using h2) hX hR hv hY h1R h1Y).mono ?_
      rintro e w' ⟨G, F, rfl, hh, hG1, hG2, hF, hB⟩
      exact ⟨_, G, F, rfl, hb, by rw [hh]; simp, hG1, hB base hb⟩
    · have hE : (F.take 14).length = 14 := by simp; omega
      refine (insHereP_any g n cap i gv (xs.take (i * 14)) (xs.drop (i * 14)) (F.take 14) (F.drop 14) Y w (by omega) (by omega) hn h4 (by rw [List.take_append_drop, ← List.append_assoc, List.take_append_drop]; exact h2) hX hR hE hv hY (fun e => hne (by omega) (by rw [e]; rfl)) h1R h1Y).mono ?_
      rintro e w' ⟨rfl, hh, hB⟩
      exact ⟨g, cap, F.drop 14, rfl, h1, by rw [hh]; simp, by omega, hB base h1⟩
end Go.Proofs.YtccnocgmikmonaaGreatDoor
namespace Go.Proofs.YtccnocgmikmonaaGreatDoor
open Go Go.RowKit
set_option maxRecDepth 100000 in
set_option maxHeartbeats 4000000 in
theorem putP_any (v : Value) (l : List Pa) (name kind into slot : ByteArray) (made since : Int) (gone : Bool) (props : List Pr) (A : Option Addr) (c : Nat) (kl kh cl ch dl dh : Int) (w : World) (hv : Rd 14 PaR w v l) (hl : l.length ≤ 99999) (hs : sortedB (l.map Pa.name) = true) (hx : Rd 2 PrR w (.slice A props.length c) props) :
    Calls Tryz.prog 52 #[v, .agg #[.string name, .string kind, .string into, .string slot, .int .i64 made, .int .i64 since, .bool gone, .slice A props.length c, .int .i64 kl, .int .i64 kh, .int .i64 cl, .int .i64 ch, .int .i64 dl, .int .i64 dh], .func (.func 53) #[] #[]] w fun e w' => ∃ v', e = .returned v' ∧ Rd 14 PaR w' v' (putP l ⟨name, kind, into, slot, made, since, gone, props, kl, kh, cl, ch, dl, dh⟩) ∧ Below w.heap.size w w' := by
  obtain ⟨A0, c0, css, rfl, hnc, hRL, hcell⟩ := hv.rows
  have hfl := flat_len css hRL.size
  rw [hRL.len] at hfl
  have hxl : (lowG Pa.name l name) ≤ l.length := low_le _ _ _
  have hput : putP l ⟨name, kind, into, slot, made, since, gone, props, kl, kh, cl, ch, dl, dh⟩ = if (decide (lowG Pa.name l name < l.length ∧ (l.getD (lowG Pa.name l name) noPa).name = name)) = true then l.set (lowG Pa.name l name) ⟨name, kind, into, slot, made, since, gone, props, kl, kh, cl, ch, dl, dh⟩ else l.take (lowG Pa.name l name) ++ ⟨name, kind, into, slot, made, since, gone, props, kl, kh, cl, ch, dl, dh⟩ :: l.drop (lowG Pa.name l name) := by
    unfold putP putG
    show (if (l[lowG Pa.name l name]?).map Pa.name = some name then _ else _) = _
    by_cases h : lowG Pa.name l name < l.length
    · rw [List.getElem?_eq_getElem h, List.getD_eq_getElem?_getD, List.getElem?_eq_getElem h]
      simp [h]
    · rw [List.getElem?_eq_none (by omega)]
      simp [h]
  have hone : ∀ u ∈ css.flatten, u.oneCell' = true := by
    intro u hu
    obtain ⟨cs, hcs, hu⟩ := List.mem_flatten.1 hu
    obtain ⟨i, hi, rfl⟩ := List.getElem_of_mem hcs
    have hil : i < l.length := by rw [← hRL.len]; exact hi
    have hR := (hRL.each i _ _ (List.getElem?_eq_getElem hi) (List.getElem?_eq_getElem hil)).1
    obtain ⟨sv, hcs9, hsv⟩ := hR; obtain ⟨A9, c9, hsv9, _⟩ := hsv.form; subst hsv9; rw [hcs9] at hu; simp only [Pa.cells, List.mem_cons, List.mem_nil_iff, or_false] at hu; rcases hu with rfl | rfl | rfl | rfl | rfl | rfl | rfl | rfl | rfl | rfl | rfl | rfl | rfl | rfl <;> rfl
  have h1Y : ∀ u ∈ ([.string name, .string kind, .string into, .string slot, .int .i64 made, .int .i64 since, .bool gone, .slice A props.length c, .int .i64 kl, .int .i64 kh, .int .i64 cl, .int .i64 ch, .int .i64 dl, .int .i64 dh] : List Value), u.oneCell' = true := by
    intro u hu
    simp only [List.mem_cons, List.mem_nil_iff, or_false] at hu
    rcases hu with rfl | rfl | rfl | rfl | rfl | rfl | rfl | rfl | rfl | rfl | rfl | rfl | rfl | rfl <;> rfl
  have hBX := Has.new w 33 #[.string name, .string kind, .string into, .string slot, .int .i64 made, .int .i64 since, .bool gone, .slice A props.length c, .int .i64 kl, .int .i64 kh, .int .i64 cl, .int .i64 ch, .int .i64 dl, .int .i64 dh]
  have hBF := Has.new (w.alloc (.cells #[.string name, .string kind, .string into, .string slot, .int .i64 made, .int .i64 since, .bool gone, .slice A props.length c, .int .i64 kl, .int .i64 kh, .int .i64 cl, .int .i64 ch, .int .i64 dl, .int .i64 dh] 33)) 101 #[.func (.func 53) #[] #[]]
  simp only [World.size_alloc] at hBF
  have hb2 : Below w.heap.size w ((w.alloc (.cells #[.string name, .string kind, .string into, .string slot, .int .i64 made, .int .i64 since, .bool gone, .slice A props.length c, .int .i64 kl, .int .i64 kh, .int .i64 cl, .int .i64 ch, .int .i64 dl, .int .i64 dh] 33)).alloc (.cells #[.func (.func 53) #[] #[]] 101)) := ((Below.refl _ _).alloc (Nat.le_refl _) _).alloc (by simp) _
  have HV := Lib.hid hv
  have HXX := Lib.hid hx
  have HC := Lib.hid hcell
  have HRL := Lib.hid hRL
  have HFL := Lib.hid hfl
  have HPUT := Lib.hid hput
  have HONE := Lib.hid hone
  have H1Y := Lib.hid h1Y
  have HBX := Lib.hid (hBX.alloc (.cells #[.func (.func 53) #[] #[]] 101))
  have HBF := Lib.hid hBF
  have HB2 := Lib.hid hb2
  have HS := Lib.hid hs
  clear hx hv hcell hRL hfl hput hone h1Y hBX hBF hb2 hs
  have HBS := Lib.hid (fun g W (h : Below w.heap.size w W) (h1 : Has W g _ _) => bsP_any w _ l name g W h HV.out (by omega) HS.out h1)
  generalize hfd : decide (lowG Pa.name l name < l.length ∧ (l.getD (lowG Pa.name l name) noPa).name = name) = fd at *
  generalize hlo : lowG Pa.name l name = lo at *
  have HFD := Lib.hid hfd
  have HLO := Lib.hid hlo
  clear hfd hlo
  cases fd
  · go_enter Tryz.func52, Tryz.ntmps52
    go_wp2_with (first | (go_at_call 53; refine (keyP_any name kind into slot made since gone A props.length c kl kh cl ch dl dh _).mono ?_; rintro e w3 ⟨rfl, hb3⟩; have hh3 := HBX.out.below hb3 (by simp; omega); have hh4 := HBF.out.below hb3 (by simp); have HX3 := Lib.hid hh3; have HY3 := Lib.hid hh4; obtain ⟨p3, p4⟩ := hh4.facts; have HB3 := Lib.hid (HB2.out.trans (hb3.mono (by simp; omega))); have z3 := hb3.size; simp only [World.size_alloc] at z3; clear hb3 hh3 hh4) | (go_at_call 88; refine (HBS.out _ _ HB3.out HY3.out).mono ?_; rintro e w4 ⟨rfl, hb4⟩; have HX4 := Lib.hid (HX3.out.below hb4 (by omega)); have HB4 := Lib.hid (HB3.out.trans (hb4.mono HB3.out.size)); have z4 := hb4.size; clear hb4) | (go_at_call 91; refine (cloneP_any A0 l.length c0 css.flatten _ (HC.out.imp id (fun ⟨ad, h1, h2⟩ => ⟨ad, h1, fun j u hj => cell_later HB4.out (h2 j u hj)⟩)) HFL.out HONE.out (by omega)).mono ?_; rintro e w5 ⟨v5, rfl, ho5, hb5⟩; have hx5 := HX4.out.below hb5 (by omega); obtain ⟨p5, p6⟩ := hx5.facts; have z5 := hb5.size; have HX5 := Lib.hid hx5; have HB5 := Lib.hid (HB4.out.trans (hb5.mono HB4.out.size)); have HO5 := Lib.hid ho5; clear hb5 ho5 hx5) | (go_at_call 92; refine (insP_any w4.heap.size _ l.length lo css.flatten w5.heap.size [.string name, .string kind, .string into, .string slot, .int .i64 made, .int .i64 since, .bool gone, .slice A props.length c, .int .i64 kl, .int .i64 kh, .int .i64 cl, .int .i64 ch, .int .i64 dl, .int .i64 dh] _ (HO5.out.alloc _) hxl (by omega) HONE.out (Has.new w5 _ _) rfl H1Y.out (by simp; omega) (fun hlt => by rcases HO5.out with h | ⟨h0, _⟩ <;> first | (intro he; have := (h.lt _ he).2; omega) | omega)).mono ?_; rintro e w7 ⟨g7, cap7, F7, rfl, hg7, hh7, hc7, hb7⟩; have HF7 := Lib.hid ((HB5.out.alloc HB5.out.size _).trans (hb7.mono (by omega))); have HH7 := Lib.hid hh7; clear hb7 hh7))
    go_ret
    refine ⟨_, rfl, ?_, HF7.out⟩
    rw [HPUT.out]
    have e9 : (l.take lo ++ ⟨name, kind, into, slot, made, since, gone, props, kl, kh, cl, ch, dl, dh⟩ :: l.drop lo).length = l.length + 1 := by simp; omega
    rw [if_neg (by decide)]
    refine ((HRL.out.below PaR.stays HF7.out).ins lo hxl (cs := [.string name, .string kind, .string into, .string slot, .int .i64 made, .int .i64 since, .bool gone, .slice A props.length c, .int .i64 kl, .int .i64 kh, .int .i64 cl, .int .i64 ch, .int .i64 dl, .int .i64 dh]) (x := ⟨name, kind, into, slot, made, since, gone, props, kl, kh, cl, ch, dl, dh⟩) ⟨_, rfl, HXX.out.below PrR.stays HF7.out⟩ rfl).rd PaR.stays (Below.refl _ _) (t := 33) (c := cap7) (g := g7) (by rw [e9]; rfl) (by rw [e9]; exact hc7) (F := F7) ?_
    have hz := HRL.out.size
    rw [List.flatten_append, List.flatten_cons, flat_take css hz, flat_drop css hz]
    exact HH7.out
  · go_enter Tryz.func52, Tryz.ntmps52
    have hlt : lo < l.length := (of_decide_eq_true HFD.out).1
    have hlt2 : (lo : Int) < (l.length : Int) := by omega
    go_wp2_with (first | (go_at_call 53; refine (keyP_any name kind into slot made since gone A props.length c kl kh cl ch dl dh _).mono ?_; rintro e w3 ⟨rfl, hb3⟩; have hh3 := HBX.out.below hb3 (by simp; omega); have hh4 := HBF.out.below hb3 (by simp); have HX3 := Lib.hid hh3; have HY3 := Lib.hid hh4; obtain ⟨p3, p4⟩ := hh4.facts; have HB3 := Lib.hid (HB2.out.trans (hb3.mono (by simp; omega))); have z3 := hb3.size; simp only [World.size_alloc] at z3; clear hb3 hh3 hh4) | (go_at_call 88; refine (HBS.out _ _ HB3.out HY3.out).mono ?_; rintro e w4 ⟨rfl, hb4⟩; have HX4 := Lib.hid (HX3.out.below hb4 (by omega)); have HB4 := Lib.hid (HB3.out.trans (hb4.mono HB3.out.size)); have z4 := hb4.size; clear hb4) | (go_at_call 91; refine (cloneP_any A0 l.length c0 css.flatten _ (HC.out.imp id (fun ⟨ad, h1, h2⟩ => ⟨ad, h1, fun j u hj => cell_later HB4.out (h2 j u hj)⟩)) HFL.out HONE.out (by omega)).mono ?_; rintro e w5 ⟨v5, rfl, ho5, hb5⟩; have hx5 := HX4.out.below hb5 (by omega); obtain ⟨p5, p6⟩ := hx5.facts; have z5 := hb5.size; have HX5 := Lib.hid hx5; have HB5 := Lib.hid (HB4.out.trans (hb5.mono HB4.out.size)); obtain ⟨g6, cap6, F6, rfl, hg6, hh6, hc6, _⟩ := own0formP ho5 (by omega); have HH6 := Lib.hid hh6; have HT6 : Hid (w5.there g6 (lo * 14) 14) := (fun j hj => ⟨by rw [cell_of_row w5 g6 _ _ _ (0, 0) HH6.out]; have hl1 := HFL.out; simp only [List.getElem?_toArray]; rw [List.getElem?_eq_getElem (by simp only [List.length_append]; omega)]; rfl, frozen_of_row w5 g6 _ _ _ HH6.out⟩); have HF7 := Lib.hid (below_setCells (B := w.heap.size) (g := g6) (by have := HB4.out.size; omega) [.string name, .string kind, .string into, .string slot, .int .i64 made, .int .i64 since, .bool gone, .slice A props.length c, .int .i64 kl, .int .i64 kh, .int .i64 cl, .int .i64 ch, .int .i64 dl, .int .i64 dh] (lo * 14) w5 HB5.out); clear hb5 ho5 hx5 hh6) | ((with_reducible show wpList _ _ _ (Oper.mk none (Op.store 33 _ _) _ _ _ _ :: _) _ _); refine wpList_store_mid rfl 33 _ _ rfl g6 (lo * 14) #[.string name, .string kind, .string into, .string slot, .int .i64 made, .int .i64 since, .bool gone, .slice A props.length c, .int .i64 kl, .int .i64 kh, .int .i64 cl, .int .i64 ch, .int .i64 dl, .int .i64 dh] rfl rfl HT6.out sizeP (all_oneCell_toArray H1Y.out) ?_))
    go_ret
    refine ⟨_, rfl, ?_, HF7.out⟩
    rw [HPUT.out]
    have e9 : (l.set lo ⟨name, kind, into, slot, made, since, gone, props, kl, kh, cl, ch, dl, dh⟩).length = l.length := by simp
    rw [if_pos trivial]
    refine ((HRL.out.below PaR.stays HF7.out).set lo (cs := [.string name, .string kind, .string into, .string slot, .int .i64 made, .int .i64 since, .bool gone, .slice A props.length c, .int .i64 kl, .int .i64 kh, .int .i64 cl, .int .i64 ch, .int .i64 dl, .int .i64 dh]) (x := ⟨name, kind, into, slot, made, since, gone, props, kl, kh, cl, ch, dl, dh⟩) ⟨_, rfl, HXX.out.below PrR.stays HF7.out⟩ rfl).rd PaR.stays (Below.refl _ _) (t := 33) (c := cap6) (g := g6) (by rw [e9]; rfl) (by rw [e9]; exact hc6) (F := F6) ?_
    have hz := HRL.out.size
    rw [flat_set css hz lo (by rw [HRL.out.len]; exact hlt) _ rfl]
    have := setCells_block g6 33 [.string name, .string kind, .string into, .string slot, .int .i64 made, .int .i64 since, .bool gone, .slice A props.length c, .int .i64 kl, .int .i64 kh, .int .i64 cl, .int .i64 ch, .int .i64 dl, .int .i64 dh] (lo * 14) (css.flatten ++ F6) _ HH6.out (by have := HFL.out; simp only [List.length_append, List.length_cons, List.length_nil]; omega)
    rw [show splice (css.flatten ++ F6) (lo * 14) [.string name, .string kind, .string into, .string slot, .int .i64 made, .int .i64 since, .bool gone, .slice A props.length c, .int .i64 kl, .int .i64 kh, .int .i64 cl, .int .i64 ch, .int .i64 dl, .int .i64 dh] = splice css.flatten (lo * 14) [.string name, .string kind, .string into, .string slot, .int .i64 made, .int .i64 since, .bool gone, .slice A props.length c, .int .i64 kl, .int .i64 kh, .int .i64 cl, .int .i64 ch, .int .i64 dl, .int .i64 dh] ++ F6 by
      have hl1 := HFL.out
      unfold splice
      rw [List.take_append_of_le_length (by omega), List.drop_append_of_le_length (by simp only [List.length_cons, List.length_nil]; omega)]; simp] at this
    exact this
end Go.Proofs.YtccnocgmikmonaaGreatDoor
