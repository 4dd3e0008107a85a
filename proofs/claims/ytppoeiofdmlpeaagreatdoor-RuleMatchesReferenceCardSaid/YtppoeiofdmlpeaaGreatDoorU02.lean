/- More small words on memory: a boxed argument behind a call. No condition. rule.node: whether a node is valid. Condition: the kids' slice has a length. strings.Builder at this program: WriteString (and copyCheck, whose panic the translation leaves out). No condition but that the bytes fit a machine. append onto a row of the call's own, whatever the source; also in a guarded operation. What such rows read as. No condition. strings.Builder.WriteByte at this program. No condition but that the bytes fit a machine. lexer.unquoted: what the string at the beginning of a text stands for, and its length. Condition: the text is not too long. lexer.tokens' functions: the class at an offset; what tokens hands back. Condition: the text is a string that lies in memory. A region that draws its order, walked by a plan: the operations that only read, or whose guard is false, are taken first, in the order of a list. No condition. -/
import Derived.BigFrame
import Derived.Deep.Cut
import Derived.Deep.RegionHeld3
import Derived.Laws.AppendOwn
import Derived.Laws.AppendOwnNone
import Derived.Laws.CopyOwn
import Derived.Laws.EntriesVeiled
import Derived.Lib.AppendStr
import Derived.Lib.Builder
import Derived.RegionTactic
import Derived.Test.YtppoeiofdmlpeaaGreatDoorProg
import Derived.Test.YtppoeiofdmlpeaaGreatDoorU01
namespace Go.Proofs.YtppoeiofdmlpeaaGreatDoor
open Go Go.RowKit
theorem Has.facts {w : World} {g t : Nat} {cs : Array Value} (h : Has w g t cs) :
    (∀ o, w.cell? ⟨g, o, none⟩ = cs[o]?) ∧ (∀ o, w.frozen? ⟨g, o, none⟩ = false) := ⟨fun o => h.cell o, fun o => h.free o⟩
/-- A boxed argument behind the first call. -/
theorem boxed {w w1 : World} {t : Nat} {cs : Array Value} (hb : Below (w.alloc (.cells cs t)).heap.size (w.alloc (.cells cs t)) w1) :
    Has w1 w.heap.size t cs ∧ Below w.heap.size w w1 ∧ w.heap.size < w1.heap.size := by
  have hs := hb.size
  rw [World.size_alloc] at hs
  exact ⟨(Has.new w t cs).below hb (by simp), ((Below.refl _ _).alloc (Nat.le_refl _) _).trans (hb.mono (by simp)), by omega⟩
/-- The same behind a further call. -/
theorem Has.next {w w1 w2 : World} {t g B : Nat} {cs : Array Value} (h : Has w1 g t cs) (hB : Below B w w1) (hs : g < w1.heap.size) (hb : Below w1.heap.size w1 w2) (hBs : B ≤ w1.heap.size) :
    Has w2 g t cs ∧ Below B w w2 ∧ g < w2.heap.size :=
  ⟨h.below hb hs, hB.trans (hb.mono hBs), Nat.lt_of_lt_of_le hs hb.size⟩
end Go.Proofs.YtppoeiofdmlpeaaGreatDoor
namespace Go.Proofs.YtppoeiofdmlpeaaGreatDoor
open Go Go.RowKit
theorem size0 (s : ByteArray) : decide (s.toList = []) = decide (s.size = 0) := by
  have h := isEmpty_size s
  rw [← h, Bool.eq_iff_iff, decide_eq_true_iff, List.isEmpty_iff]
set_option maxRecDepth 100000 in
set_option maxHeartbeats 8000000 in
theorem node_1 (name value : ByteArray) (n extra : Int) (A : Option Addr) (len c : Nat) (w : World) (_hlen : len ≤ 1000000) :
    Calls Tryz.prog 32 #[.agg #[.int .i64 1, .string name, .string value, .int .i64 n, .int .i64 extra, .slice A len c]] w fun r w' => r = .returned (.bool (decide (NodeOk 1 name value n extra len))) ∧ Below w.heap.size w w' := by
  have hE : decide (NodeOk 1 name value n extra len) = (decide (len = 0) && (decide (name.toList = []) && (decide (value.toList = []) && (decide (0 = n) && decide (0 = extra))))) := by
    rw [size0, size0, Bool.eq_iff_iff]
    simp [NodeOk]
    omega
  rw [hE]
  clear hE
  go_enter Tryz.func32, Tryz.ntmps32
  go_wp2_with fail
  all_goals
    go_ret
    refine ⟨?_, ((Below.refl _ _).alloc (Nat.le_refl _) _).alloc (by simp) _⟩
    simp [*]
    try (rw [Bool.eq_iff_iff, beq_iff_eq, decide_eq_true_iff])
end Go.Proofs.YtppoeiofdmlpeaaGreatDoor
namespace Go.Proofs.YtppoeiofdmlpeaaGreatDoor
open Go Go.RowKit
set_option maxHeartbeats 1000000 in
set_option maxRecDepth 100000 in
theorem check_any (B b : Nat) (bs : List Value) (w : World) (h : Lib.IsBuilder 89 5 B b bs w) :
    Calls Tryz.prog 87 #[.pointer (some ⟨b, 0, none⟩)] w fun e w' => e = .returned (.tuple #[]) ∧ Lib.BuilderAt 89 5 B b (.pointer (some ⟨b, 0, none⟩)) bs w' ∧ Below B w w' := by
  obtain ⟨j, hj, hjs⟩ := Option.map_eq_some_iff.1 (show (Tryz.prog.info? 89).map (·.size) = some 2 by kernel_rfl)
  rcases h with h | h
  · have HB := Lib.hid (h.used (.pointer (some ⟨b, 0, none⟩)))
    have hbb := (Below.refl B w).setCell (p := ⟨b, 0, none⟩) h.1 (.pointer (some ⟨b, 0, none⟩))
    have hsh := h.shape
    have hc := h.cell0
    have hf := h.frozen0
    clear h
    go_enter Tryz.func87, Tryz.ntmps87
    go_wp2
    rw [Lib.run_to_unsafe w ⟨b, 0, none⟩ Tryz.underlying86 Tryz.underlying121 hj (by rw [hjs]; decide) hsh (Nat.zero_lt_succ 1)]
    simp only [Result.andThen]
    rw [Oper.upon_value]
    go_wp2
    rw [run_callFunc_extern Tryz.func99 (by kernel_rfl) (by kernel_rfl) (by kernel_rfl) (e := Extern.AbiNoEscape.same) (by kernel_rfl), Lib.run_noEscape]
    simp only [Result.andThen]
    rw [Oper.upon_value]
    go_wp2
    rw [Lib.run_from_unsafe w ⟨b, 0, none⟩ Tryz.underlying121 Tryz.underlying86 hj hsh (by kernel_rfl)]
    simp only [Result.andThen]
    rw [Oper.upon_value]
    go_wp2
    go_end0
    exact ⟨rfl, HB.out, hbb⟩
  · have hc := h.cell0
    have HB := Lib.hid h
    clear h
    go_enter Tryz.func87, Tryz.ntmps87
    go_wp2
    rw [Lib.run_neq_ptr_same w _ Tryz.underlying86 hj]
    go_wp2
    go_end0
    exact ⟨rfl, HB.out, Below.refl B _⟩
theorem own_slice {w : World} {base e size n : Nat} {v : Value} {xs : List Value} (h : w.ownsRow base e size v n xs) : ∃ A c, v = .slice A n c := by
  rcases h.2 with ⟨rfl, h0⟩ | ⟨g, cap, cur, rfl, _⟩
  · exact ⟨none, 0, by rw [h0]⟩
  · exact ⟨_, _, rfl⟩
theorem infoB : (Tryz.prog.info? 5).map (fun i => (i.zero, i.size, i.bytes)) = some (some (.int .u8 0), 1, 1) := by kernel_rfl
set_option maxHeartbeats 2000000 in
set_option maxRecDepth 100000 in
theorem writeStr_any (B b : Nat) (bs : List Value) (s : ByteArray) (w : World) (h : Lib.IsBuilder 89 5 B b bs w) (hlen : bs.length + s.size ≤ 140737488355328) (hBw : B ≤ w.heap.size) :
    Calls Tryz.prog 64 #[.pointer (some ⟨b, 0, none⟩), .string s] w fun e w' => e = .returned (.tuple #[.int .i64 s.size, .nilIface]) ∧ Lib.IsBuilder 89 5 B b (bs ++ Lib.strCells s) w' ∧ Below B w w' := by
  obtain ⟨i0, hi, hz0, hz1, hz2⟩ := info_parts infoB
  have HC := Lib.hid (check_any B b bs w h)
  have HI := Lib.hid hi
  have HZ := Lib.hid hz0
  clear h hi hz0
  go_enter Tryz.func64, Tryz.ntmps64
  go_wp2_with (first
    | (go_at_call 87; refine HC.out.mono ?_; rintro e w1 ⟨rfl, hb1, hbb1⟩; obtain ⟨hB1, v1, hk1, hown1, hne1⟩ := hb1; obtain ⟨A1, c1', hf1⟩ := own_slice hown1; subst hf1; have c1 : w1.cell? ⟨b, 1, none⟩ = some (.slice A1 bs.length c1') := (by rw [Lib.cell_of_heap hk1]; rfl); have HBB := Lib.hid hbb1; have HK := Lib.hid hk1; have HO := Lib.hid hown1; have HNE := Lib.hid hne1; have f1 := Lib.frozen_of_heap hk1 1; clear hbb1 hk1 hown1 hne1)
    | ((with_reducible show wpList _ _ _ (Oper.mk (some 14) _ _ _ _ _ :: _) _ _); refine Lib.wpList_append_own_string _ rfl (.tmp 12) (.tmp 13) 87 9 rfl B 5 i0 Tryz.underlying87 Tryz.underlying9 HI.out HZ.out hz1 hz2 _ _ bs rfl HO.out s rfl (by unfold maxLen; omega) hlen (by have := HBB.out.size; omega) ?_; intro v2 w2 hown2 hg2 hnil2; obtain ⟨A2, c2', hf2⟩ := own_slice hown2; subst hf2; have hk2 := (hg2.block b (by have := HK.out; exact (Array.getElem?_eq_some_iff.1 this).1) (fun e => HNE.out e.symm)).trans HK.out; have HO2 := Lib.hid hown2; have HG2 := Lib.hid hg2; have HK2 := Lib.hid hk2; have f2 := Lib.frozen_of_heap hk2 1; have c2 : w2.cell? ⟨b, 1, none⟩ = some (.slice A1 bs.length c1') := (by rw [Lib.cell_of_heap hk2]; rfl); clear hown2 hg2 hnil2 hk2))
  go_ret2
  refine ⟨rfl, .inr (Lib.BuilderAt.put hB1 HK2.out ?_ (by decide)), ?_⟩
  · rw [List.length_append, Lib.strCells_length]
    exact HO2.out
  · exact ((HBB.out.grown HG2.out (Nat.le_trans hBw HBB.out.size) (fun j hj => (HO.out.lt j hj).1)).setCell (p := ⟨b, 1, none⟩) hB1 _)
end Go.Proofs.YtppoeiofdmlpeaaGreatDoor
namespace Go.Proofs.YtppoeiofdmlpeaaGreatDoor
open Go Go.RowKit
section
variable {P : Program} {w : World}
/-- A source without an address adds nothing. -/
theorem append_nil_run (base : Nat) (t ty e : TypeId) (i : TypeInfo) (size : Nat) (ht : P.underlying t = some (.slice e)) (hi : P.info? e = some i) (v : Value) (n : Nat) (xs : List Value) (hown : w.ownsRow base e size v n xs) (c : Nat) :
    (Builtin.append_ #[t, t] ty #[v, .slice none 0 c]).run P w = .ok v w := by
  rcases hown.2 with ⟨rfl, rfl⟩ | ⟨g, cap, cur, rfl, _, _, hnc, _⟩
  · simp [Builtin.append_, run_underlying ht, sizeOf, typeInfo, hi, Builtin.lenOf, Builtin.firstCells]
  · simp [Builtin.append_, run_underlying ht, sizeOf, typeInfo, hi, Builtin.lenOf, Builtin.firstCells, hnc, storeCells]
/-- The law at the operation: the source has an address, or no element. -/
theorem wpList_app {ops : Array Oper} {rest : List Oper} {o : Oper} {a : Act} {Q : Exit → Act → World → Prop} (hw : Region.wanted o (yielded ops a.tmps) = true) (s x : Operand) (t : TypeId)
    (ho : o.op = .call { callee := .builtin .append, args := #[s, x], argTypes := #[t, t] })
    (base : Nat) (e : TypeId) (i : TypeInfo) (z : Value) (size bytes : Nat) (ht : P.underlying t = some (.slice e)) (hi : P.info? e = some i) (hz : i.zero = some z)
    (hsize : i.size = size) (hby : i.bytes = bytes) (hzs : z.cells.size = size) (hsz : 0 < size)
    (v : Value) (n : Nat) (xs : List Value) (hs : a.eval s = v) (hown : w.ownsRow base e size v n xs)
    (A : Option Addr) (m c : Nat) (news : List Value) (hx : a.eval x = .slice A m c) (hl : news.length = m * size) (hA : m = 0 ∨ ∃ ad, A = some ad ∧ ∀ j u, news[j]? = some u → w.cell? (ad.add j) = some u)
    (h1 : ∀ u ∈ news, u.oneCell' = true) (h63 : n + m ≤ maxLen) (hbytes : (n + m) * bytes ≤ 140737488355328) (hbase : base ≤ w.heap.size)
    (h : ∀ v' w', w'.ownsRow base e size v' (n + m) (xs ++ news) → w.grownBy w' v.ownBlock → wpList P ops Q rest (a.put o.dst v') w') : wpList P ops Q (o :: rest) a w := by
  refine BigFrame.wpList_want hw fun K hK => ?_
  rcases A with _ | ad
  · have hm : m = 0 := by
      rcases hA with h0 | ⟨_, h0, _⟩
      · exact h0
      · cases h0
    subst hm
    obtain rfl : news = [] := List.eq_nil_of_length_eq_zero (by simpa using hl)
    have hr := append_nil_run (P := P) base t o.type e i size ht hi v n xs hown c
    unfold Oper.wp execOp
    simp only [ho, resolve, invoke, builtin, Sem.run_bind, Sem.run_pure, Result.andThen_ok, List.map_toArray, List.map_cons, List.map_nil, hs, hx, hr]
    exact hK _ _ (h v w (by simpa using hown) (World.grownBy.refl w _))
  · refine wp_append_own w s x t ho base e i z size bytes ht hi hz hsize hby hzs hsz v n xs hs hown ad m c news hx hl ?_ h1 h63 hbytes hbase fun v' w' h2 h3 _ => hK _ _ (h v' w' h2 h3)
    rcases hA with rfl | ⟨ad', h0, hc⟩
    · obtain rfl : news = [] := List.eq_nil_of_length_eq_zero (by simpa using hl)
      intro j u hu; cases hu
    · cases h0; exact hc
end
/-- The cells that a slice reads, as a list. -/
def slCells (k : Nat) (f : Nat → Value) : List Value := (List.range k).map f
theorem slCells_len (k : Nat) (f : Nat → Value) : (slCells k f).length = k := by simp [slCells]
theorem slCells_get (k : Nat) (f : Nat → Value) (j : Nat) (h : j < k) : (slCells k f)[j]? = some (f j) := by simp [slCells, h]
theorem sl_src {w : World} {A : Option Addr} {n m c sz : Nat} {f : Nat → Value} (h : Sl w (.slice A n c) m sz f) : n = m ∧ (m = 0 ∨ ∃ ad, A = some ad ∧ ∀ j u, (slCells (m * sz) f)[j]? = some u → w.cell? (ad.add j) = some u) := by
  obtain ⟨A', c', he, _, h0 | ⟨b, o, hA, hc⟩⟩ := h
  · injection he with e1 e2 e3; exact ⟨e2, .inl h0⟩
  · injection he with e1 e2 e3
    refine ⟨e2, .inr ⟨_, e1.trans hA, fun j u hu => ?_⟩⟩
    have hj : j < m * sz := by
      rcases Nat.lt_or_ge j (m * sz) with h1 | h1
      · exact h1
      · rw [List.getElem?_eq_none (by rw [slCells_len]; exact h1)] at hu; cases hu
    rw [slCells_get _ _ _ hj] at hu
    rw [Addr.add_mid, hc j hj, hu]
/-- An owned row reads as a slice. -/
theorem sl_row {w : World} {base t sz n : Nat} {v : Value} {xs : List Value} (h : w.ownsRow base t sz v n xs) : Sl w v n sz (fun j => (xs[j]?).getD undef) := by
  rcases h.2 with ⟨rfl, h0⟩ | ⟨g, cap, cur, rfl, hg, hh, hn, hc, hs, ht⟩
  · subst h0; exact ⟨_, _, rfl, Nat.le_refl _, .inl rfl⟩
  · refine ⟨_, cap, rfl, hn, .inr ⟨g, 0, rfl, fun j hj => ?_⟩⟩
    have hx : xs.length = n * sz := h.1
    rw [Nat.zero_add, cell_of_row w g j cur t (0, 0) hh]
    obtain ⟨x, h1⟩ : ∃ x, xs[j]? = some x := ⟨_, List.getElem?_eq_getElem (by omega)⟩
    show _ = some ((xs[j]?).getD undef)
    rw [h1, Option.getD_some]
    rw [← ht, List.getElem?_take, if_pos hj] at h1
    simpa using h1
end Go.Proofs.YtppoeiofdmlpeaaGreatDoor
namespace Go.Proofs.YtppoeiofdmlpeaaGreatDoor
open Go Go.RowKit
theorem new_byte (w : World) (x : Value) (t : TypeId) : ∀ j u, ([x] : List Value)[j]? = some u → (w.alloc (.cells #[x] t)).cell? ((⟨w.heap.size, 0, none⟩ : Addr).add j) = some u := fun j u h => by
  have h1 := (Has.new w t #[x]).facts.1 j
  rw [Addr.add_mid, Nat.zero_add, h1]; simpa using h
set_option maxHeartbeats 2000000 in
set_option maxRecDepth 100000 in
theorem writeByte_any (B b : Nat) (bs : List Value) (c : Int) (w : World) (h : Lib.IsBuilder 89 5 B b bs w) (hlen : bs.length + 1 ≤ 140737488355328) (hBw : B ≤ w.heap.size) :
    Calls Tryz.prog 66 #[.pointer (some ⟨b, 0, none⟩), .int .u8 c] w fun e w' => e = .returned .nilIface ∧ Lib.IsBuilder 89 5 B b (bs ++ [.int .u8 c]) w' ∧ Below B w w' := by
  obtain ⟨i0, hi, hz0, hz1, hz2⟩ := info_parts infoB
  have HC := Lib.hid (check_any B b bs w h)
  have HI := Lib.hid hi
  have HZ := Lib.hid hz0
  clear h hi hz0
  go_enter Tryz.func66, Tryz.ntmps66
  go_wp2_with (first
    | (go_at_call 87; refine HC.out.mono ?_; rintro e w1 ⟨rfl, hb1, hbb1⟩; obtain ⟨hB1, v1, hk1, hown1, hne1⟩ := hb1; obtain ⟨A1, c1', hf1⟩ := own_slice hown1; subst hf1; have c1 : w1.cell? ⟨b, 1, none⟩ = some (.slice A1 bs.length c1') := (by rw [Lib.cell_of_heap hk1]; rfl); have HBB := Lib.hid hbb1; have HK := Lib.hid hk1; have HO := Lib.hid hown1; have HNE := Lib.hid hne1; have f1 := Lib.frozen_of_heap hk1 1; clear hbb1 hk1 hown1 hne1)
    | ((with_reducible show wpList _ _ _ (Oper.mk (some 14) _ _ _ _ _ :: _) _ _); refine wpList_app rfl (.tmp 11) (.tmp 13) 87 rfl B 5 i0 (.int .u8 0) 1 1 Tryz.underlying87 HI.out HZ.out hz1 hz2 rfl (by decide) _ bs.length bs rfl (HO.out.alloc _) (some ⟨w1.heap.size, 0, none⟩) 1 1 [.int .u8 c] rfl rfl (.inr ⟨_, rfl, new_byte w1 (.int .u8 c) _⟩) (fun u hu => by rw [List.mem_singleton] at hu; subst hu; rfl) (by unfold maxLen; omega) (by omega) (by have := HBB.out.size; simp; omega) ?_; intro v2 w2 hown2 hg2; obtain ⟨A2, c2', hf2⟩ := own_slice hown2; subst hf2; have hk2 := (hg2.block b (by have := HK.out; have := (Array.getElem?_eq_some_iff.1 this).1; simp; omega) (fun e => HNE.out e.symm)).trans ((Below.heap_alloc _ _ _ ((Array.getElem?_eq_some_iff.1 HK.out).1)).trans HK.out); have HO2 := Lib.hid hown2; have HG2 := Lib.hid hg2; have HK2 := Lib.hid hk2; have f2 := Lib.frozen_of_heap hk2 1; have c2 : w2.cell? ⟨b, 1, none⟩ = some (.slice A1 bs.length c1') := (by rw [Lib.cell_of_heap hk2]; rfl); clear hown2 hg2 hk2))
  go_ret
  refine ⟨rfl, .inr (Lib.BuilderAt.put hB1 HK2.out ?_ (by decide)), ?_⟩
  · rw [List.length_append]
    exact HO2.out
  · exact (((HBB.out.alloc (Nat.le_trans hBw HBB.out.size) (.cells #[.int .u8 c] 5)).grown HG2.out (by have := HBB.out.size; simp; omega) (fun j hj => (HO.out.lt j hj).1)).setCell (p := ⟨b, 1, none⟩) hB1 _)
end Go.Proofs.YtppoeiofdmlpeaaGreatDoor
namespace Go.Proofs.YtppoeiofdmlpeaaGreatDoor
open Go Go.RowKit
theorem unq_end {t : ByteArray} {n k : Nat} {acc : List UInt8} (h : t.size ≤ k) : unqGo t n k acc = none := by
  cases n with
  | zero => rfl
  | succ n => rw [unqGo_succ, if_pos h]
theorem ixb_esc {c : Nat} (h : c < 256) (h1 : c ≠ 92) (h2 : c ≠ 34) (h3 : c ≠ 110) : ixb [92, 34, 110] c = -1 := by
  have : ∀ c : Fin 256, c.val ≠ 92 → c.val ≠ 34 → c.val ≠ 110 → ixb [92, 34, 110] c.val = -1 := by decide +kernel
  exact this ⟨c, h⟩ h1 h2 h3
theorem cells_snoc (acc : List UInt8) (b : UInt8) : Lib.byteCells acc ++ [.int .u8 (b.toNat : Int)] = Lib.byteCells (acc ++ [b]) := by
  simp [Lib.byteCells]
/-- The string and its length; nothing and 0, if there is none. -/
def unqV (t : ByteArray) : ByteArray × Nat := match unqL t with
  | none => (⟨#[]⟩, 0)
  | some (l, m) => (⟨l.toArray⟩, m)
theorem unqV_none {t : ByteArray} (h : unqL t = none) : unqV t = (⟨#[]⟩, 0) := by unfold unqV; rw [h]
theorem unqV_some {t : ByteArray} {l : List UInt8} {m : Nat} (h : unqL t = some (l, m)) : unqV t = (⟨l.toArray⟩, m) := by unfold unqV; rw [h]
set_option maxRecDepth 100000 in
set_option maxHeartbeats 8000000 in
theorem unquoted_any (t : ByteArray) (w : World) (hs : t.size ≤ 1000000) :
    Calls Tryz.prog 70 #[.string t] w fun e w' => e = .returned (.tuple #[.string (unqV t).1, .int .i64 ((unqV t).2 : Nat)]) ∧ Below w.heap.size w w' := by
  have HB0 := Lib.hid (Lib.fresh_isBuilder 89 5 w)
  have HBw := Lib.hid ((Below.refl w.heap.size w).alloc (Nat.le_refl _) (.cells #[.pointer none, .slice none 0 0] 89))
  go_enter Tryz.func70, Tryz.ntmps70
  go_wp2_with fail
  go_loopw [5] (fun i wr => ∃ (k n : Nat) (acc : List UInt8), i = .int .i64 k ∧ Hid (unqL t = unqGo t n k acc) ∧ t.size < n + k ∧ acc.length ≤ k ∧ k ≤ t.size + 1 ∧ Hid (Lib.IsBuilder 89 5 w.heap.size w.heap.size (Lib.byteCells acc) wr) ∧ Hid (Below w.heap.size w wr)) (fun i _ => t.size + 1 - (intOf i).toNat)
  case atStart => exact ⟨1, t.size, [], rfl, rfl, by omega, by simp, by omega, HB0.out, HBw.out⟩
  case round =>
    clear HB0 HBw
    obtain ⟨k, n, acc, rfl, HU, hn, hacc, hk1, HI, HB⟩ := hrel
    have hzw := HB.out.size
    by_cases hlt : k < t.size
    · obtain ⟨m, rfl⟩ : ∃ m, n = m + 1 := ⟨n - 1, by omega⟩
      have hki : (k : Int) < (t.size : Int) := by omega
      have hb8 := UInt8.toNat_lt t[k]
      have hby := byteAt_eq t k hlt
      have HS := Lib.hid (HU.out.trans (unqGo_succ t m k acc))
      clear HU
      rw [hby, if_neg (show ¬ t.size ≤ k by omega)] at HS
      by_cases e1 : t[k].toNat = 34
      · have HE := Lib.hid (unqV_some (show unqL t = some (acc, k + 1) by rw [HS.out, if_pos e1]))
        clear HS hby
        go_wp2_with (go_at_call 65; refine (Tryz.Builder_String_any w.heap.size w.heap.size acc _ HI.out hzw).mono ?_; rintro e w2 ⟨rfl, hb2⟩; have HB2 := Lib.hid (HB.out.trans hb2); clear hb2)
        refine bodyPost_ret (v := .tuple #[.string ⟨acc.toArray⟩, .int .i64 ((k : Int) + 1)]) (by simp [results, Tryz.results70, go_sem]) rfl ?_
        exact ⟨by rw [HE.out]; rfl, HB2.out⟩
      · by_cases e2 : t[k].toNat = 10
        · have HE := Lib.hid (unqV_none (show unqL t = none by rw [HS.out, if_neg e1, if_pos e2]))
          clear HS hby
          go_wp2_with fail
          refine bodyPost_ret (v := .tuple #[.string ⟨#[]⟩, .int .i64 0]) (by simp [results, Tryz.results70, go_sem]) rfl ?_
          exact ⟨by rw [HE.out]; rfl, HB.out⟩
        · by_cases e3 : t[k].toNat = 92
          · rw [if_neg e1, if_neg e2, if_pos e3] at HS
            by_cases hl1 : k + 1 < t.size
            · have hki1 : (k : Int) + 1 < (t.size : Int) := by omega
              have hb81 := UInt8.toNat_lt t[k + 1]
              have hby1 := byteAt_eq t (k + 1) hl1
              rw [hby1, if_neg (show ¬ t.size ≤ k + 1 by omega)] at HS
              clear hby hby1
              by_cases f : t[k + 1].toNat = 92
              · have HIX := Lib.hid (show ixb (⟨#[92, 34, 110]⟩ : ByteArray).data.toList 92 = 0 by decide +kernel)
                have HS2 := Lib.hid (show unqL t = unqGo t m (k + 2) (acc ++ [92]) by rw [HS.out, f]; rfl)
                clear HS
                go_wp2_with (first | (go_at_call 60; refine (indexByte_n ⟨#[92, 34, 110]⟩ 92 _).mono ?_; rintro e w2 ⟨rfl, rfl⟩; rw [HIX.out]) | (go_at_call 66; refine (writeByte_any w.heap.size w.heap.size (Lib.byteCells acc) 92 _ HI.out (by rw [Lib.byteCells_length]; omega) hzw).mono ?_; rintro e w3 ⟨rfl, hi2, hb2⟩; have HB2 := Lib.hid (HB.out.trans hb2); rw [show Lib.byteCells acc ++ [.int .u8 92] = Lib.byteCells (acc ++ [92]) from cells_snoc acc 92] at hi2; have HI2 := Lib.hid hi2; clear hb2 hi2))
                go_roundw
                case rel => exact ⟨k + 2, m, acc ++ [92], by go_num, HS2.out, by omega, by simp; omega, by omega, HI2.out, HB2.out⟩
                case measure => simp [intOf]; omega
              · by_cases g : t[k + 1].toNat = 34
                · have f := g
                  have HIX := Lib.hid (show ixb (⟨#[92, 34, 110]⟩ : ByteArray).data.toList 34 = 1 by decide +kernel)
                  have HS2 := Lib.hid (show unqL t = unqGo t m (k + 2) (acc ++ [34]) by rw [HS.out, f]; rfl)
                  clear HS
                  go_wp2_with (first | (go_at_call 60; refine (indexByte_n ⟨#[92, 34, 110]⟩ 34 _).mono ?_; rintro e w2 ⟨rfl, rfl⟩; rw [HIX.out]) | (go_at_call 66; refine (writeByte_any w.heap.size w.heap.size (Lib.byteCells acc) 34 _ HI.out (by rw [Lib.byteCells_length]; omega) hzw).mono ?_; rintro e w3 ⟨rfl, hi2, hb2⟩; have HB2 := Lib.hid (HB.out.trans hb2); rw [show Lib.byteCells acc ++ [.int .u8 34] = Lib.byteCells (acc ++ [34]) from cells_snoc acc 34] at hi2; have HI2 := Lib.hid hi2; clear hb2 hi2))
                  go_roundw
                  case rel => exact ⟨k + 2, m, acc ++ [34], by go_num, HS2.out, by omega, by simp; omega, by omega, HI2.out, HB2.out⟩
                  case measure => simp [intOf]; omega
                · by_cases h : t[k + 1].toNat = 110
                  · have f := h
                    have HIX := Lib.hid (show ixb (⟨#[92, 34, 110]⟩ : ByteArray).data.toList 110 = 2 by decide +kernel)
                    have HS2 := Lib.hid (show unqL t = unqGo t m (k + 2) (acc ++ [10]) by rw [HS.out, f]; rfl)
                    clear HS
                    go_wp2_with (first | (go_at_call 60; refine (indexByte_n ⟨#[92, 34, 110]⟩ 110 _).mono ?_; rintro e w2 ⟨rfl, rfl⟩; rw [HIX.out]) | (go_at_call 66; refine (writeByte_any w.heap.size w.heap.size (Lib.byteCells acc) 10 _ HI.out (by rw [Lib.byteCells_length]; omega) hzw).mono ?_; rintro e w3 ⟨rfl, hi2, hb2⟩; have HB2 := Lib.hid (HB.out.trans hb2); rw [show Lib.byteCells acc ++ [.int .u8 10] = Lib.byteCells (acc ++ [10]) from cells_snoc acc 10] at hi2; have HI2 := Lib.hid hi2; clear hb2 hi2))
                    go_roundw
                    case rel => exact ⟨k + 2, m, acc ++ [10], by go_num, HS2.out, by omega, by simp; omega, by omega, HI2.out, HB2.out⟩
                    case measure => simp [intOf]; omega
                  · have HIX := Lib.hid (show ixb (⟨#[92, 34, 110]⟩ : ByteArray).data.toList t[k + 1].toNat = -1 from ixb_esc hb81 f g h)
                    have HE := Lib.hid (unqV_none (show unqL t = none by rw [HS.out]; unfold escB; rw [if_neg f, if_neg g, if_neg h]))
                    clear HS
                    go_wp2_with (go_at_call 60; refine (indexByte_n _ _ _).mono ?_; rintro e w2 ⟨rfl, rfl⟩; rw [HIX.out])
                    refine bodyPost_ret (v := .tuple #[.string ⟨#[]⟩, .int .i64 0]) (by simp [results, Tryz.results70, go_sem]) rfl ?_
                    exact ⟨by rw [HE.out]; rfl, HB.out⟩
            · have HE := Lib.hid (unqV_none (show unqL t = none by rw [HS.out, if_pos (show t.size ≤ k + 1 by omega)]))
              have hki1 : ¬ (k : Int) + 1 < (t.size : Int) := by omega
              clear HS hby
              go_wp2_with fail
              refine bodyPost_ret (v := .tuple #[.string ⟨#[]⟩, .int .i64 0]) (by simp [results, Tryz.results70, go_sem]) rfl ?_
              exact ⟨by rw [HE.out]; rfl, HB.out⟩
          · have HS2 := Lib.hid (show unqL t = unqGo t m (k + 1) (acc ++ [t[k]]) by rw [HS.out, if_neg e1, if_neg e2, if_neg e3, UInt8.ofNat_toNat])
            clear HS hby
            go_wp2_with (go_at_call 66; refine (writeByte_any w.heap.size w.heap.size (Lib.byteCells acc) _ _ HI.out (by rw [Lib.byteCells_length]; omega) hzw).mono ?_; rintro e w2 ⟨rfl, hi2, hb2⟩; have HB2 := Lib.hid (HB.out.trans hb2); rw [cells_snoc] at hi2; have HI2 := Lib.hid hi2; clear hb2 hi2)
            go_roundw
            case rel => exact ⟨k + 1, m, acc ++ [t[k]], by go_num, HS2.out, by omega, by simp; omega, by omega, HI2.out, HB2.out⟩
            case measure => simp [intOf]; omega
    · have HE := Lib.hid (unqV_none (HU.out.trans (unq_end (by omega))))
      have hki : ¬ (k : Int) < (t.size : Int) := by omega
      go_wp2_with fail
      refine bodyPost_ret (v := .tuple #[.string ⟨#[]⟩, .int .i64 0]) (by simp [results, Tryz.results70, go_sem]) rfl ?_
      exact ⟨by rw [HE.out]; rfl, HB.out⟩
end Go.Proofs.YtppoeiofdmlpeaaGreatDoor
namespace Go.Proofs.YtppoeiofdmlpeaaGreatDoor
open Go Go.RowKit
set_option maxHeartbeats 1000000 in
theorem at_any (s : ByteArray) (i bt bc : Nat) (w : World) (h1 : Has w bt 9 #[.string s]) (h2 : Has w bc 64 clsAll) (hi : i ≤ s.size) (_hs : s.size ≤ 1000000) :
    Calls Tryz.prog 68 #[.int .i64 i, .pointer (some ⟨bt, 0, none⟩), .pointer (some ⟨bc, 0, none⟩)] w fun e w' => e = .returned (.int .u8 (clsAt s i : Nat)) ∧ w' = w := by
  obtain ⟨x1, y1⟩ := h1.facts
  have hcell : ∀ n : Nat, n < 256 → w.cell? ⟨bc, n, none⟩ = some (.int .u8 (cls n)) := fun n hn => h2.rcell n hn
  have hf : ∀ o, w.frozen? ⟨bc, o, none⟩ = false := h2.facts.2
  clear h1 h2
  by_cases hlt : i < s.size
  · have hki : (i : Int) < (s.size : Int) := by omega
    have hb8 := UInt8.toNat_lt s[i]
    have HE := Lib.hid (show clsAt s i = cls s[i].toNat by unfold clsAt; rw [if_pos hlt, byteAt_eq s i hlt])
    have hc := hcell s[i].toNat (by omega)
    clear hcell
    go_enter Tryz.func68, Tryz.ntmps68
    go_wp2_with fail
    go_ret
    exact ⟨by rw [HE.out]; rfl, rfl⟩
  · have hki : ¬ (i : Int) < (s.size : Int) := by omega
    have HE := Lib.hid (show clsAt s i = 0 by unfold clsAt; rw [if_neg hlt])
    clear hcell
    go_enter Tryz.func68, Tryz.ntmps68
    go_wp2_with fail
    go_ret
    exact ⟨by rw [HE.out]; rfl, rfl⟩
/-- What tokens lays: the text, the classes, the function that reads them. -/
structure LexB (w : World) (s : ByteArray) (bt bc ba : Nat) (W : World) : Prop where
  t : Has W bt 9 #[.string s]
  c : Has W bc 64 clsAll
  a : Has W ba 98 #[.func (.func 68) #[] #[.pointer (some ⟨bt, 0, none⟩), .pointer (some ⟨bc, 0, none⟩)]]
  b : Below w.heap.size w W
theorem LexB.below {w W W' : World} {s : ByteArray} {bt bc ba : Nat} (h : LexB w s bt bc ba W) (hb : Below W.heap.size W W') : LexB w s bt bc ba W' := ⟨h.t.below hb h.t.lt, h.c.below hb h.c.lt, h.a.below hb h.a.lt, h.b.trans (hb.mono h.b.size)⟩
set_option maxRecDepth 100000 in
set_option maxHeartbeats 2000000 in
theorem tokens_any (s : ByteArray) (w : World) :
    Calls Tryz.prog 42 #[.string s] w fun e w' => ∃ bt bc ba, e = .returned (.func (.func 69) #[] #[.pointer (some ⟨bt, 0, none⟩), .pointer (some ⟨ba, 0, none⟩)]) ∧ LexB w s bt bc ba w' := by
  have HT := Lib.hid (Has.new w 9 #[.string s])
  have HB := Lib.hid ((Below.refl w.heap.size w).alloc (Nat.le_refl _) (.cells #[.string s] 9))
  go_enter Tryz.func42, Tryz.ntmps42
  go_upto_region 2 with (first
    | (go_at_call 35; refine (classes_any _).mono ?_; rintro e w1 ⟨rfl, hb1⟩)
    | ((with_reducible show wpList _ _ _ (Oper.mk none (Op.store 64 _ _) _ _ _ _ :: _) _ _); refine wpList_store_row rfl 64 _ _ rfl w1.heap.size clsAll rfl rfl 64 Tryz.zeroCells64 (Has.new w1 _ _) clsAll_info clsAll_zero clsAll_one ?_))
  have hg : Has ((w1.alloc (.cells Tryz.zeroCells64 64)).setRow w1.heap.size clsAll) w1.heap.size 64 clsAll := setRow_heap _ _ _ _ _ _ (Has.new w1 _ _)
  have hb : Below w1.heap.size w1 ((w1.alloc (.cells Tryz.zeroCells64 64)).setRow w1.heap.size clsAll) := below_setRow (((Below.refl w1.heap.size w1).alloc (Nat.le_refl _) _)) (Nat.le_refl _) _
  generalize (w1.alloc (.cells Tryz.zeroCells64 64)).setRow w1.heap.size clsAll = W at *
  have hT1 := HT.out.below hb1 HT.out.lt
  have HTW := Lib.hid (hT1.below hb hT1.lt)
  have HBW := Lib.hid ((HB.out.trans (hb1.mono HB.out.size)).trans (hb.mono (HB.out.trans (hb1.mono HB.out.size)).size))
  have HGW := Lib.hid hg
  clear hg hb hb1 hT1 HT HB
  go_wp2_with fail
  go_ret
  exact ⟨_, w1.heap.size, _, rfl, ⟨HTW.out.alloc _, HGW.out.alloc _, Has.new _ _ _, HBW.out.alloc HBW.out.size _⟩⟩
end Go.Proofs.YtppoeiofdmlpeaaGreatDoor
namespace Go.Proofs.YtppoeiofdmlpeaaGreatDoor
open Go
/-- The operations that are taken next, in this order (true: its guard is false). -/
structure Plan (_ : List (Nat × Bool)) (G : Prop) : Prop where
  out : G
theorem plI (p : List (Nat × Bool)) {G : Prop} (h : Plan p G) : G := h.out
theorem plE {G : Prop} (h : G) : Plan [] G := ⟨h⟩
section
variable {P : Program} {ops : Array Oper} {md : Region.Mode} {Q : Exit → Act → World → Prop} {S : World → Prop}
theorem plF {i : Nat} {d : Option Tmp} {o : Op} {ty : TypeId} {ps : String} {af : Array Edge} {g : Option (Nat × Bool)} {fuel : Nat} {listed : Array Bool} {a : Act} {w : World} {is : List (Nat × Bool)}
    (h : Plan is (wpAnyH P md ops Q S fuel (listed.setIfInBounds i true) (a.put d undef) w))
    (hi : ops[i]? = some ⟨d, o, ty, ps, af, g⟩ := by exact rfl) (hs : Region.noSelect ops = true := by kernel_rfl) (hf : Region.free md ops listed i = true := by kernel_rfl) (hr : (Region.ready md ops listed).contains i = true := by kernel_rfl)
    (hQ : ∀ c a w, Q (.panic c) (a.put d undef) w → Q (.panic c) a w := by exact fun _ _ _ h => h) (hw : Region.wanted ⟨d, o, ty, ps, af, g⟩ (yielded ops a.tmps) = false := by kernel_rfl) (hS : S w := by assumption) :
    Plan ((i, true) :: is) (wpAnyH P md ops Q S (fuel + 1) listed a w) :=
  ⟨wpAnyH_take hi hs hf hr hQ (.inr ⟨hw, rfl⟩) hS h.out⟩
theorem plR {i : Nat} {d : Option Tmp} {o : Op} {ty : TypeId} {ps : String} {af : Array Edge} {g : Option (Nat × Bool)} {v : Value} {fuel : Nat} {listed : Array Bool} {a : Act} {w : World} {is : List (Nat × Bool)}
    (hy : ∀ w, S w → (execOp a.eval ⟨d, o, ty, ps, af, g⟩).run P w = .ok (.value v) w)
    (h : Plan is (wpAnyH P md ops Q S fuel (listed.setIfInBounds i true) (a.put d v) w))
    (hi : ops[i]? = some ⟨d, o, ty, ps, af, g⟩ := by exact rfl) (hs : Region.noSelect ops = true := by kernel_rfl) (hf : Region.free md ops listed i = true := by kernel_rfl) (hr : (Region.ready md ops listed).contains i = true := by kernel_rfl)
    (hQ : ∀ c a w, Q (.panic c) (a.put d v) w → Q (.panic c) a w := by exact fun _ _ _ h => h) (hw : Region.wanted ⟨d, o, ty, ps, af, g⟩ (yielded ops a.tmps) = true := by rfl) (hS : S w := by assumption) :
    Plan ((i, false) :: is) (wpAnyH P md ops Q S (fuel + 1) listed a w) :=
  ⟨wpAnyH_take hi hs hf hr hQ (.inl ⟨hw, hy⟩) hS h.out⟩
end
end Go.Proofs.YtppoeiofdmlpeaaGreatDoor
