/- Small words on memory that the walks of this seat use: a block known whole, and what stays of it. No condition. Contracts of library functions at this translation, as the shelf lays them: strings_IndexByte, strings_Join, strings_Join_none, strconv_Itoa_small, strconv_Itoa, Builder_String_any, strconv_Atoi_ok, strconv_Atoi_syntax_var, strconv_Atoi_range_var. lexer.classes and lexer.Name: what they return. No condition. lexer.Name: whether a string is a name. No condition but that the string's length is a length. The tokens of a text, in plain words. No condition. The tokens of words with single spaces between them: plain laws. No condition. Texts of words: numbers, quoted strings, lists joined by spaces. No condition. Conditions of rules in plain words, and how they lie in memory. No condition. slices.Contains at strings; rule.reserved. Condition: none but that the strings lie in memory. -/
import Derived.BigQuiet
import Derived.Deep.MidRow
import Derived.Deep.QuietTactic
import Derived.Handy
import Derived.Laws.CopyOwn
import Derived.Lib.AtoiAll
import Derived.Lib.Hide
import Derived.Lib.ItoaNum
import Derived.Lib.Join
import Derived.Shelf.LaysC
import Derived.Shelf.LaysM
import Derived.Shelf.Small.Strs
import Derived.Shelf.Strconv.Atoi
import Derived.Shelf.Strconv.AtoiAll
import Derived.Shelf.Strconv.AtoiErrFast
import Derived.Shelf.Strconv.AtoiFail
import Derived.Shelf.Strconv.AtoiInnerAll
import Derived.Shelf.Strconv.AtoiLong
import Derived.Shelf.Strconv.Clone
import Derived.Shelf.Strconv.ErrVarAll
import Derived.Shelf.Strconv.Itoa0
import Derived.Shelf.Strconv.Itoa1
import Derived.Shelf.Strconv.Itoa2
import Derived.Shelf.Strconv.Itoa3
import Derived.Shelf.Strconv.Lower
import Derived.Shelf.Strconv.ParseInt10
import Derived.Shelf.Strconv.ParseIntEmpty
import Derived.Shelf.Strconv.ParseUint10
import Derived.Shelf.Strconv.ParseUint10Any
import Derived.Shelf.Strconv.ParseUint10Empty
import Derived.Shelf.Strconv.RangeError
import Derived.Shelf.Strconv.SyntaxError
import Derived.Shelf.Strconv.ToError
import Derived.Shelf.Strconv.ToErrorRange
import Derived.Shelf.Strings.Builder1
import Derived.Shelf.Strings.Builder2
import Derived.Shelf.Strings.Builder2Cap
import Derived.Shelf.Strings.BuilderCap
import Derived.Shelf.Strings.BuilderF
import Derived.Shelf.Strings.BuilderK
import Derived.Shelf.Strings.OnBuilder
import Derived.Shelf.Strings.Search1
import Derived.WalkKit
import Derived.WalkLawsBesides
import Derived.WalkSpells
import Derived.Test.YtppoeiofdmlpeaaGreatDoorProg
namespace Go.Proofs.YtppoeiofdmlpeaaGreatDoor
open Go Go.RowKit

/-- Block g is just the cells cs, of element type t, none of them frozen. -/
def Has (w : World) (g : Nat) (t : TypeId) (cs : Array Value) : Prop := w.heap[g]? = some (.cells cs t (0, 0))

section
variable {w w' : World} {g : Nat} {t : TypeId} {cs : Array Value}
theorem Has.lt (h : Has w g t cs) : g < w.heap.size := by
  unfold Has at h
  by_cases hl : g < w.heap.size
  · exact hl
  · rw [Array.getElem?_eq_none (by omega)] at h; cases h
theorem Has.cell (h : Has w g t cs) (i : Nat) : w.cell? ⟨g, i, none⟩ = cs[i]? := cell_of_row w g i cs t (0, 0) h
theorem Has.free (h : Has w g t cs) (i : Nat) : w.frozen? ⟨g, i, none⟩ = false := frozen_of_row w g i cs t h
theorem Has.new (w : World) (t : TypeId) (cs : Array Value) : Has (w.alloc (.cells cs t)) w.heap.size t cs := heap_alloc_new w _
theorem Has.alloc (h : Has w g t cs) (o : Obj) : Has (w.alloc o) g t cs := (Below.heap_alloc w o g h.lt).trans h
theorem Has.put (h : Has w g t cs) (i : Nat) (u : Value) : Has (w.setCell ⟨g, i, none⟩ u) g t (cs.setIfInBounds i u) := heap_setCell_same w g i cs t u h
theorem Has.far (h : Has w g t cs) (p : Addr) (hp : g ≠ p.block) (u : Value) : Has (w.setCell p u) g t cs := (heap_setCell_other w p g u hp).trans h
theorem Has.drew (h : Has w g t cs) : Has w.drew g t cs := h
theorem Has.drewN (h : Has w g t cs) (n : Nat) : Has (w.drewN n) g t cs := h
theorem Has.below {B : Nat} (h : Has w g t cs) (hb : Below B w w') (hg : g < B) : Has w' g t cs := (hb.block g hg).trans h
theorem Has.grown {row : Option Nat} (h : Has w g t cs) (hb : w.grownBy w' row) (hg : some g ≠ row) : Has w' g t cs := (hb.block g h.lt hg).trans h
end

theorem below_drewN {B : Nat} {a w : World} (h : Below B a w) (n : Nat) : Below B a (w.drewN n) := ⟨h.os, h.tape, h.output, h.size, h.block⟩

/-- Old cells and marks, as the walk asks for them. -/
theorem bcell {W w1 : World} (hb : Below W.heap.size W w1) :
    (∀ b o, b < W.heap.size → w1.cell? ⟨b, o, none⟩ = W.cell? ⟨b, o, none⟩) ∧ (∀ b o, b < W.heap.size → w1.frozen? ⟨b, o, none⟩ = W.frozen? ⟨b, o, none⟩) :=
  ⟨fun b o h => hb.cell (p := ⟨b, o, none⟩) h, fun b o h => hb.frozen (p := ⟨b, o, none⟩) h⟩

/-- A row of n cells by a function. -/
def row (n : Nat) (f : Nat → Value) : Array Value := ((List.range n).map f).toArray
theorem row_size (n : Nat) (f : Nat → Value) : (row n f).size = n := by simp [row]
theorem row_get (n : Nat) (f : Nat → Value) (i : Nat) (h : i < n) : (row n f)[i]? = some (f i) := by simp [row, h]
theorem row_congr {n : Nat} {f g : Nat → Value} (h : ∀ i, i < n → f i = g i) : row n f = row n g := by
  unfold row
  exact congrArg List.toArray (List.map_congr_left fun i hi => h i (by simpa using hi))
theorem row_one {n : Nat} {f : Nat → Value} (h : ∀ i, (f i).oneCell' = true) : ((row n f).all fun x => x.oneCell') = true := by
  simp [row, h]
theorem row_put (n : Nat) (f : Nat → Value) (i : Nat) (v : Value) : (row n f).setIfInBounds i v = row n (fun j => if j = i then v else f j) := by
  apply Array.ext_getElem?
  intro j
  rw [Array.getElem?_setIfInBounds, row_size]
  by_cases hj : j < n
  · rw [row_get _ _ _ hj, row_get _ _ _ hj]
    by_cases e : i = j
    · subst e; simp [hj]
    · rw [if_neg e, if_neg (Ne.symm e)]
  · rw [Array.getElem?_eq_none (by rw [row_size]; omega), Array.getElem?_eq_none (by rw [row_size]; omega)]
    split
    · rw [if_neg (by omega)]
    · rfl
theorem Has.rput {w : World} {g t n : Nat} {f : Nat → Value} (h : Has w g t (row n f)) (i : Nat) (v : Value) :
    Has (w.setCell ⟨g, i, none⟩ v) g t (row n (fun j => if j = i then v else f j)) := by
  rw [← row_put]; exact h.put i v
theorem Has.rcell {w : World} {g t n : Nat} {f : Nat → Value} (h : Has w g t (row n f)) (i : Nat) (hi : i < n) : w.cell? ⟨g, i, none⟩ = some (f i) :=
  (h.cell i).trans (row_get n f i hi)

theorem isEmpty_size (s : ByteArray) : s.toList.isEmpty = decide (s.size = 0) := by
  rw [Bool.eq_iff_iff, List.isEmpty_iff_length_eq_zero, decide_eq_true_iff, _root_.Go.ByteArray.toList_eq]
  exact Iff.of_eq (congrArg (· = 0) (by cases s; rfl))
theorem ret_int {k : IntKind} {a b : Int} (h : a = b) : Ending.returned (.int k a) = .returned (.int k b) := by rw [h]
theorem ret_bool {a b : Bool} (h : a = b) : Ending.returned (.bool a) = .returned (.bool b) := by rw [h]

/-- A slice of n elements, sz cells each; cell j of all is f j. -/
def Sl (w : World) (v : Value) (n sz : Nat) (f : Nat → Value) : Prop :=
  ∃ A c, v = .slice A n c ∧ n ≤ c ∧ (n = 0 ∨ ∃ b o, A = some ⟨b, o, none⟩ ∧ ∀ j, j < n * sz → w.cell? ⟨b, o + j, none⟩ = some (f j))
theorem Sl.below {w w' : World} {v : Value} {n sz : Nat} {f : Nat → Value} (h : Sl w v n sz f) (hb : Below w.heap.size w w') : Sl w' v n sz f := by
  obtain ⟨A, c, hv, hn, h0 | ⟨b, o, hA, hc⟩⟩ := h
  · exact ⟨A, c, hv, hn, .inl h0⟩
  · exact ⟨A, c, hv, hn, .inr ⟨b, o, hA, fun j hj => cell_later hb (hc j hj)⟩⟩
theorem Sl.congr {w : World} {v : Value} {n sz : Nat} {f g : Nat → Value} (h : Sl w v n sz f) (hfg : ∀ j, j < n * sz → f j = g j) : Sl w v n sz g := by
  obtain ⟨A, c, hv, hn, h0 | ⟨b, o, hA, hc⟩⟩ := h
  · exact ⟨A, c, hv, hn, .inl h0⟩
  · exact ⟨A, c, hv, hn, .inr ⟨b, o, hA, fun j hj => by rw [hc j hj, hfg j hj]⟩⟩
/-- A slice over a new block. -/
theorem Sl.has {w : World} {g t : Nat} {cs : Array Value} (h : Has w g t cs) {n sz c : Nat} (hn : n ≤ c) {f : Nat → Value} (hf : ∀ j, j < n * sz → cs[j]? = some (f j)) : Sl w (.slice (some ⟨g, 0, none⟩) n c) n sz f :=
  ⟨_, c, rfl, hn, .inr ⟨g, 0, rfl, fun j hj => by rw [Nat.zero_add, h.cell j, hf j hj]⟩⟩
/-- Cells of a list of strings. -/
def strF (l : List ByteArray) (j : Nat) : Value := .string (l.getD j ByteArray.empty)

end Go.Proofs.YtppoeiofdmlpeaaGreatDoor
namespace Go.Proofs
open Go.Shelf
def Tryz.lays169_ren : Go.Shelf.Ren := ⟨fun | 169 => 65 | n => n, fun | 70 => 86 | 9 => 9 | 0 => 0 | 72 => 89 | 37 => 87 | 127 => 113 | 3 => 3 | 5 => 5 | n => n, fun | n => n⟩
theorem Tryz.lays169 : Go.Proofs.Lays.n169 Tryz.prog Tryz.lays169_ren := {
  mixed := by kernel_rfl
  f169 := Tryz.func65.trans (congrArg some (by kernel_rfl))
  t0 := Tryz.underlying0
  a0 := Tryz.isAgg0
  z0 := Tryz.sizeOf0
  v0 := Tryz.zeroValue0
  t3 := Tryz.underlying3
  a3 := Tryz.isAgg3
  z3 := Tryz.sizeOf3
  v3 := Tryz.zeroValue3
  t9 := Tryz.underlying9
  a9 := Tryz.isAgg9
  z9 := Tryz.sizeOf9
  v9 := Tryz.zeroValue9
  t37 := Tryz.underlying87
  a37 := Tryz.isAgg87
  z37 := Tryz.sizeOf87
  v37 := Tryz.zeroValue87
  t70 := Tryz.underlying86
  a70 := Tryz.isAgg86
  z70 := Tryz.sizeOf86
  v70 := Tryz.zeroValue86
  t72 := Tryz.underlying89
  a72 := Tryz.isAgg89
  z72 := Tryz.sizeOf89
  v72 := Tryz.zeroValue89
  t127 := Tryz.underlying113
  a127 := Tryz.isAgg113
  z127 := Tryz.sizeOf113
  v127 := Tryz.zeroValue113 }
theorem Tryz.Builder_Extra_169 : Builder.Extra Tryz.prog Tryz.lays169_ren := {
  sizeBuilder := by kernel_rfl
  liesBuilder := by kernel_rfl
  t5 := Tryz.underlying5
  a5 := Tryz.isAgg5
  z5 := Tryz.sizeOf5
  v5 := Tryz.zeroValue5
  infoByte := by kernel_rfl
  cellsByte := by kernel_rfl
  sizeByte := by kernel_rfl
  neB5 := by decide }
open Go.RowKit in
theorem Tryz.Builder_String_any (B b : Nat) (l : List UInt8) (w : World) (h : Lib.IsBuilder 89 5 B b (Lib.byteCells l) w) (hBw : B ≤ w.heap.size) :
    Calls Tryz.prog 65 #[.pointer (some ⟨b, 0, none⟩)] w fun e w' => e = .returned (.string ⟨l.toArray⟩) ∧ Below B w w' := Any.Builder_String_any Tryz.lays169 Tryz.Builder_Extra_169 B b l w h hBw
def Tryz.lays156_ren : Go.Shelf.Ren := ⟨fun | 156 => 38 | 165 => 63 | 166 => 64 | 169 => 65 | 240 => 87 | 241 => 88 | 276 => 99 | 277 => 100 | n => n, fun | 31 => 66 | 9 => 9 | 3 => 3 | 4 => 4 | 0 => 0 | 20 => 20 | 72 => 89 | 76 => 93 | 70 => 86 | 37 => 87 | 75 => 92 | 127 => 113 | 164 => 121 | 5 => 5 | 80 => 77 | n => n, fun | n => n⟩
theorem Tryz.lays156 : Go.Proofs.Lays.n156 Tryz.prog Tryz.lays156_ren := {
  mixed := by kernel_rfl
  f156 := Tryz.func38.trans (congrArg some (by kernel_rfl))
  f165 := Tryz.func63.trans (congrArg some (by kernel_rfl))
  f166 := Tryz.func64.trans (congrArg some (by kernel_rfl))
  f169 := Tryz.func65.trans (congrArg some (by kernel_rfl))
  f240 := Tryz.func87.trans (congrArg some (by kernel_rfl))
  f241 := Tryz.func88.trans (congrArg some (by kernel_rfl))
  f276 := Tryz.func99.trans (congrArg some (by kernel_rfl))
  f277 := Tryz.func100.trans (congrArg some (by kernel_rfl))
  t0 := Tryz.underlying0
  a0 := Tryz.isAgg0
  z0 := Tryz.sizeOf0
  v0 := Tryz.zeroValue0
  t3 := Tryz.underlying3
  a3 := Tryz.isAgg3
  z3 := Tryz.sizeOf3
  v3 := Tryz.zeroValue3
  t4 := Tryz.underlying4
  a4 := Tryz.isAgg4
  z4 := Tryz.sizeOf4
  v4 := Tryz.zeroValue4
  t9 := Tryz.underlying9
  a9 := Tryz.isAgg9
  z9 := Tryz.sizeOf9
  v9 := Tryz.zeroValue9
  t20 := Tryz.underlying20
  a20 := Tryz.isAgg20
  z20 := Tryz.sizeOf20
  v20 := Tryz.zeroValue20
  t31 := Tryz.underlying66
  a31 := Tryz.isAgg66
  z31 := Tryz.sizeOf66
  v31 := Tryz.zeroValue66
  t37 := Tryz.underlying87
  a37 := Tryz.isAgg87
  z37 := Tryz.sizeOf87
  v37 := Tryz.zeroValue87
  t70 := Tryz.underlying86
  a70 := Tryz.isAgg86
  z70 := Tryz.sizeOf86
  v70 := Tryz.zeroValue86
  t72 := Tryz.underlying89
  a72 := Tryz.isAgg89
  z72 := Tryz.sizeOf89
  v72 := Tryz.zeroValue89
  t75 := Tryz.underlying92
  a75 := Tryz.isAgg92
  z75 := Tryz.sizeOf92
  v75 := Tryz.zeroValue92
  t76 := Tryz.underlying93
  a76 := Tryz.isAgg93
  z76 := Tryz.sizeOf93
  v76 := Tryz.zeroValue93
  t127 := Tryz.underlying113
  a127 := Tryz.isAgg113
  z127 := Tryz.sizeOf113
  v127 := Tryz.zeroValue113
  t164 := Tryz.underlying121
  a164 := Tryz.isAgg121
  z164 := Tryz.sizeOf121
  v164 := Tryz.zeroValue121 }
theorem Tryz.Builder_Extra_156 : Builder.Extra Tryz.prog Tryz.lays156_ren := {
  sizeBuilder := by kernel_rfl
  liesBuilder := by kernel_rfl
  t5 := Tryz.underlying5
  a5 := Tryz.isAgg5
  z5 := Tryz.sizeOf5
  v5 := Tryz.zeroValue5
  infoByte := by kernel_rfl
  cellsByte := by kernel_rfl
  sizeByte := by kernel_rfl
  neB5 := by decide }
open Go.RowKit in
theorem Tryz.strings_Join_none (a : Option Addr) (c : Nat) (sep : ByteArray) (w : World) :
    Calls Tryz.prog 38 #[.slice a 0 c, .string sep] w fun e w' => e = .returned (.string ⟨#[]⟩) ∧ w' = w := Any.strings_Join_none Tryz.lays156 Tryz.Builder_Extra_156 a c sep w
open Go.RowKit in
theorem Tryz.strings_Join (bk o c : Nat) (xs : List ByteArray) (sep : ByteArray) (w : World) (hcells : ∀ (j : Nat) x, xs[j]? = some x → w.cell? ⟨bk, o + j, none⟩ = some (.string x)) (hbk : bk < w.heap.size) (hN : xs.length ≤ 140737488355328) (hcap : xs.length ≤ c) (hlen : (Lib.join (xs.map (·.data.toList)) sep.data.toList).length ≤ 140737488355328) :
    Calls Tryz.prog 38 #[.slice (some ⟨bk, o, none⟩) xs.length c, .string sep] w fun e w' => e = .returned (.string ⟨(Lib.join (xs.map (·.data.toList)) sep.data.toList).toArray⟩) ∧ Below w.heap.size w w' := Any.strings_Join Tryz.lays156 Tryz.Builder_Extra_156 bk o c xs sep w hcells hbk hN hcap hlen
def Tryz.lays137_ren : Go.Shelf.Ren := ⟨fun | 137 => 60 | 217 => 84 | 266 => 94 | n => n, fun | 9 => 9 | 5 => 5 | 3 => 3 | n => n, fun | n => n⟩
theorem Tryz.lays137 : Go.Proofs.Lays.n137 Tryz.prog Tryz.lays137_ren := {
  mixed := by kernel_rfl
  f137 := Tryz.func60.trans (congrArg some (by kernel_rfl))
  f217 := Tryz.func84.trans (congrArg some (by kernel_rfl))
  f266 := Tryz.func94.trans (congrArg some (by kernel_rfl))
  t3 := Tryz.underlying3
  a3 := Tryz.isAgg3
  z3 := Tryz.sizeOf3
  v3 := Tryz.zeroValue3
  t5 := Tryz.underlying5
  a5 := Tryz.isAgg5
  z5 := Tryz.sizeOf5
  v5 := Tryz.zeroValue5
  t9 := Tryz.underlying9
  a9 := Tryz.isAgg9
  z9 := Tryz.sizeOf9
  v9 := Tryz.zeroValue9 }
open Go.RowKit in
theorem Tryz.strings_IndexByte (s : ByteArray) (c : Int) (w : World) :
    Calls Tryz.prog 60 #[.string s, .int .u8 c] w fun e w' => e = .returned (.int .i64 (Lib.indexByte s.data.toList c.toNat.toUInt8)) ∧ w' = w := Any.strings_IndexByte Tryz.lays137 s c w
def Tryz.laysM171_ren : Go.Shelf.Ren := ⟨fun | 171 => 37 | 243 => 62 | 246 => 86 | 283 => 95 | 284 => 96 | 285 => 97 | 286 => 98 | 129 => 105 | 317 => 104 | 318 => 106 | 319 => 107 | 320 => 108 | 337 => 119 | 338 => 120 | n => n, fun | 3 => 3 | 9 => 9 | 2 => 2 | 4 => 4 | 171 => 116 | 0 => 0 | 53 => 97 | 37 => 87 | 5 => 5 | 173 => 119 | 212 => 128 | 51 => 129 | 20 => 20 | 213 => 130 | 46 => 132 | 232 => 136 | 233 => 137 | n => n, fun | 17 => 1 | 18 => 2 | 19 => 3 | n => n⟩
theorem Tryz.laysM171 : Go.Proofs.LaysM.n171 Tryz.prog Tryz.laysM171_ren := {
  mixed := by kernel_rfl
  f129 := Tryz.func105.trans (congrArg some (by kernel_rfl))
  f171 := Tryz.func37.trans (congrArg some (by kernel_rfl))
  f243 := Tryz.func62.trans (congrArg some (by kernel_rfl))
  f246 := Tryz.func86.trans (congrArg some (by kernel_rfl))
  f283 := Tryz.func95.trans (congrArg some (by kernel_rfl))
  f284 := Tryz.func96.trans (congrArg some (by kernel_rfl))
  f285 := Tryz.func97.trans (congrArg some (by kernel_rfl))
  f286 := Tryz.func98.trans (congrArg some (by kernel_rfl))
  f317 := Tryz.func104.trans (congrArg some (by kernel_rfl))
  f318 := Tryz.func106.trans (congrArg some (by kernel_rfl))
  f319 := Tryz.func107.trans (congrArg some (by kernel_rfl))
  f320 := Tryz.func108.trans (congrArg some (by kernel_rfl))
  f337 := Tryz.func119.trans (congrArg some (by kernel_rfl))
  f338 := Tryz.func120.trans (congrArg some (by kernel_rfl))
  t0 := Tryz.underlying0
  a0 := Tryz.isAgg0
  z0 := Tryz.sizeOf0
  v0 := Tryz.zeroValue0
  t2 := Tryz.underlying2
  a2 := Tryz.isAgg2
  z2 := Tryz.sizeOf2
  v2 := Tryz.zeroValue2
  t3 := Tryz.underlying3
  a3 := Tryz.isAgg3
  z3 := Tryz.sizeOf3
  v3 := Tryz.zeroValue3
  t4 := Tryz.underlying4
  a4 := Tryz.isAgg4
  z4 := Tryz.sizeOf4
  v4 := Tryz.zeroValue4
  t5 := Tryz.underlying5
  a5 := Tryz.isAgg5
  z5 := Tryz.sizeOf5
  v5 := Tryz.zeroValue5
  t9 := Tryz.underlying9
  a9 := Tryz.isAgg9
  z9 := Tryz.sizeOf9
  v9 := Tryz.zeroValue9
  t20 := Tryz.underlying20
  a20 := Tryz.isAgg20
  z20 := Tryz.sizeOf20
  v20 := Tryz.zeroValue20
  t37 := Tryz.underlying87
  a37 := Tryz.isAgg87
  z37 := Tryz.sizeOf87
  v37 := Tryz.zeroValue87
  t46 := Tryz.underlying132
  a46 := Tryz.isAgg132
  z46 := Tryz.sizeOf132
  v46 := Tryz.zeroValue132
  t51 := Tryz.underlying129
  a51 := Tryz.isAgg129
  z51 := Tryz.sizeOf129
  v51 := Tryz.zeroValue129
  t53 := Tryz.underlying97
  a53 := Tryz.isAgg97
  z53 := Tryz.sizeOf97
  v53 := Tryz.zeroValue97
  t171 := Tryz.underlying116
  a171 := Tryz.isAgg116
  z171 := Tryz.sizeOf116
  v171 := Tryz.zeroValue116
  t173 := Tryz.underlying119
  a173 := Tryz.isAgg119
  z173 := Tryz.sizeOf119
  v173 := Tryz.zeroValue119
  t212 := Tryz.underlying128
  a212 := Tryz.isAgg128
  z212 := Tryz.sizeOf128
  v212 := Tryz.zeroValue128
  t213 := Tryz.underlying130
  a213 := Tryz.isAgg130
  z213 := Tryz.sizeOf130
  t232 := Tryz.underlying136
  a232 := Tryz.isAgg136
  z232 := Tryz.sizeOf136
  v232 := Tryz.zeroValue136
  t233 := Tryz.underlying137
  a233 := Tryz.isAgg137
  z233 := Tryz.sizeOf137
  v233 := Tryz.zeroValue137
  g17 := by kernel_rfl
  g18 := by kernel_rfl
  g19 := by kernel_rfl
  i0 := by kernel_rfl
  i2 := by kernel_rfl
  i3 := by kernel_rfl
  i4 := by kernel_rfl
  i5 := by kernel_rfl
  i9 := by kernel_rfl
  i20 := by kernel_rfl
  i37 := by kernel_rfl
  i46 := by kernel_rfl
  i51 := by kernel_rfl
  i53 := by kernel_rfl
  i171 := by kernel_rfl
  i173 := by kernel_rfl
  i212 := by kernel_rfl
  i232 := by kernel_rfl
  i233 := by kernel_rfl
  m17 := by kernel_rfl
  m18 := by kernel_rfl
  m19 := by kernel_rfl }
open Go.RowKit Go.Sort Go.Lib in
theorem Tryz.strconv_Itoa (n : Int) (h0 : -9223372036854775808 ≤ n) (h1 : n ≤ 9223372036854775807) (w : World) (htab : Lib.TabIs Tryz.prog w "internal/strconv.uint64pow10" .u64 Lib.pow10Tab) :
    Calls Tryz.prog 37 #[.int .i64 n] w fun e w' => e = .returned (.string ⟨(Lib.itoa n).toArray⟩) ∧ ∃ k os, w' = grow (w.drewN k) os := Any.strconv_Itoa Tryz.laysM171 n h0 h1 w htab
def Tryz.lays171_ren : Go.Shelf.Ren := ⟨fun | 171 => 37 | 243 => 62 | 246 => 86 | 283 => 95 | 284 => 96 | 285 => 97 | 286 => 98 | 129 => 105 | 317 => 104 | 318 => 106 | 319 => 107 | 320 => 108 | 337 => 119 | 338 => 120 | n => n, fun | 3 => 3 | 9 => 9 | 2 => 2 | 4 => 4 | 171 => 116 | 0 => 0 | 53 => 97 | 37 => 87 | 5 => 5 | 173 => 119 | 212 => 128 | 51 => 129 | 20 => 20 | 213 => 130 | 46 => 132 | 232 => 136 | 233 => 137 | n => n, fun | 17 => 1 | 18 => 2 | 19 => 3 | n => n⟩
theorem Tryz.lays171 : Go.Proofs.Lays.n171 Tryz.prog Tryz.lays171_ren := {
  mixed := by kernel_rfl
  f129 := Tryz.func105.trans (congrArg some (by kernel_rfl))
  f171 := Tryz.func37.trans (congrArg some (by kernel_rfl))
  f243 := Tryz.func62.trans (congrArg some (by kernel_rfl))
  f246 := Tryz.func86.trans (congrArg some (by kernel_rfl))
  f283 := Tryz.func95.trans (congrArg some (by kernel_rfl))
  f284 := Tryz.func96.trans (congrArg some (by kernel_rfl))
  f285 := Tryz.func97.trans (congrArg some (by kernel_rfl))
  f286 := Tryz.func98.trans (congrArg some (by kernel_rfl))
  f317 := Tryz.func104.trans (congrArg some (by kernel_rfl))
  f318 := Tryz.func106.trans (congrArg some (by kernel_rfl))
  f319 := Tryz.func107.trans (congrArg some (by kernel_rfl))
  f320 := Tryz.func108.trans (congrArg some (by kernel_rfl))
  f337 := Tryz.func119.trans (congrArg some (by kernel_rfl))
  f338 := Tryz.func120.trans (congrArg some (by kernel_rfl))
  t0 := Tryz.underlying0
  a0 := Tryz.isAgg0
  z0 := Tryz.sizeOf0
  v0 := Tryz.zeroValue0
  t2 := Tryz.underlying2
  a2 := Tryz.isAgg2
  z2 := Tryz.sizeOf2
  v2 := Tryz.zeroValue2
  t3 := Tryz.underlying3
  a3 := Tryz.isAgg3
  z3 := Tryz.sizeOf3
  v3 := Tryz.zeroValue3
  t4 := Tryz.underlying4
  a4 := Tryz.isAgg4
  z4 := Tryz.sizeOf4
  v4 := Tryz.zeroValue4
  t5 := Tryz.underlying5
  a5 := Tryz.isAgg5
  z5 := Tryz.sizeOf5
  v5 := Tryz.zeroValue5
  t9 := Tryz.underlying9
  a9 := Tryz.isAgg9
  z9 := Tryz.sizeOf9
  v9 := Tryz.zeroValue9
  t20 := Tryz.underlying20
  a20 := Tryz.isAgg20
  z20 := Tryz.sizeOf20
  v20 := Tryz.zeroValue20
  t37 := Tryz.underlying87
  a37 := Tryz.isAgg87
  z37 := Tryz.sizeOf87
  v37 := Tryz.zeroValue87
  t46 := Tryz.underlying132
  a46 := Tryz.isAgg132
  z46 := Tryz.sizeOf132
  v46 := Tryz.zeroValue132
  t51 := Tryz.underlying129
  a51 := Tryz.isAgg129
  z51 := Tryz.sizeOf129
  v51 := Tryz.zeroValue129
  t53 := Tryz.underlying97
  a53 := Tryz.isAgg97
  z53 := Tryz.sizeOf97
  v53 := Tryz.zeroValue97
  t171 := Tryz.underlying116
  a171 := Tryz.isAgg116
  z171 := Tryz.sizeOf116
  v171 := Tryz.zeroValue116
  t173 := Tryz.underlying119
  a173 := Tryz.isAgg119
  z173 := Tryz.sizeOf119
  v173 := Tryz.zeroValue119
  t212 := Tryz.underlying128
  a212 := Tryz.isAgg128
  z212 := Tryz.sizeOf128
  v212 := Tryz.zeroValue128
  t213 := Tryz.underlying130
  a213 := Tryz.isAgg130
  z213 := Tryz.sizeOf130
  t232 := Tryz.underlying136
  a232 := Tryz.isAgg136
  z232 := Tryz.sizeOf136
  v232 := Tryz.zeroValue136
  t233 := Tryz.underlying137
  a233 := Tryz.isAgg137
  z233 := Tryz.sizeOf137
  v233 := Tryz.zeroValue137
  g17 := by kernel_rfl
  g18 := by kernel_rfl
  g19 := by kernel_rfl }
open Go.RowKit Go.Sort Go.Lib in
theorem Tryz.strconv_Itoa_small (i : Nat) (hi : i < 100) (w : World) :
    Calls Tryz.prog 37 #[.int .i64 i] w fun e w' => e = .returned (.string ⟨(Lib.decDigits i).toArray⟩) ∧ w' = w := Any.strconv_Itoa_small Tryz.lays171 i hi w
def Tryz.laysC172_ren : Go.Shelf.Ren := ⟨fun | 172 => 122 | 244 => 123 | 245 => 124 | 247 => 125 | 279 => 126 | 280 => 127 | 281 => 128 | 282 => 129 | 287 => 130 | 316 => 131 | 171 => 37 | 205 => 132 | 321 => 133 | 322 => 134 | 243 => 62 | 246 => 86 | 283 => 95 | 284 => 96 | 285 => 97 | 286 => 98 | 129 => 105 | 317 => 104 | 318 => 106 | 319 => 107 | 320 => 108 | 337 => 119 | 338 => 120 | n => n, fun | 9 => 9 | 3 => 3 | 75 => 92 | 76 => 93 | 4 => 4 | 5 => 5 | 167 => 139 | 37 => 87 | 0 => 0 | 85 => 140 | 2 => 2 | 168 => 142 | 53 => 97 | 175 => 145 | 46 => 132 | 210 => 148 | 127 => 113 | 145 => 153 | 143 => 151 | 21 => 21 | 171 => 116 | 173 => 119 | 212 => 128 | 51 => 129 | 20 => 20 | 213 => 130 | 232 => 136 | 233 => 137 | 80 => 77 | n => n, fun | 15 => 4 | 16 => 5 | 17 => 1 | 18 => 2 | 19 => 3 | n => n⟩
theorem Tryz.laysC172 : Go.Proofs.LaysC.n172 Tryz.prog Tryz.laysC172_ren := {
  mixed := by kernel_rfl
  f129 := Tryz.func105.trans (congrArg some (by kernel_rfl))
  f171 := Tryz.func37.trans (congrArg some (by kernel_rfl))
  f172 := Tryz.func122.trans (congrArg some (by kernel_rfl))
  f205 := Tryz.func132.trans (congrArg some (by kernel_rfl))
  f243 := Tryz.func62.trans (congrArg some (by kernel_rfl))
  f244 := Tryz.func123.trans (congrArg some (by kernel_rfl))
  f245 := Tryz.func124.trans (congrArg some (by kernel_rfl))
  f246 := Tryz.func86.trans (congrArg some (by kernel_rfl))
  f247 := Tryz.func125.trans (congrArg some (by kernel_rfl))
  f279 := Tryz.func126.trans (congrArg some (by kernel_rfl))
  f280 := Tryz.func127.trans (congrArg some (by kernel_rfl))
  f281 := Tryz.func128.trans (congrArg some (by kernel_rfl))
  f282 := Tryz.func129.trans (congrArg some (by kernel_rfl))
  f283 := Tryz.func95.trans (congrArg some (by kernel_rfl))
  f284 := Tryz.func96.trans (congrArg some (by kernel_rfl))
  f285 := Tryz.func97.trans (congrArg some (by kernel_rfl))
  f286 := Tryz.func98.trans (congrArg some (by kernel_rfl))
  f287 := Tryz.func130.trans (congrArg some (by kernel_rfl))
  f316 := Tryz.func131.trans (congrArg some (by kernel_rfl))
  f317 := Tryz.func104.trans (congrArg some (by kernel_rfl))
  f318 := Tryz.func106.trans (congrArg some (by kernel_rfl))
  f319 := Tryz.func107.trans (congrArg some (by kernel_rfl))
  f320 := Tryz.func108.trans (congrArg some (by kernel_rfl))
  f321 := Tryz.func133.trans (congrArg some (by kernel_rfl))
  f322 := Tryz.func134.trans (congrArg some (by kernel_rfl))
  f337 := Tryz.func119.trans (congrArg some (by kernel_rfl))
  f338 := Tryz.func120.trans (congrArg some (by kernel_rfl))
  t0 := Tryz.underlying0
  a0 := Tryz.isAgg0
  z0 := Tryz.sizeOf0
  v0 := Tryz.zeroValue0
  t2 := Tryz.underlying2
  a2 := Tryz.isAgg2
  z2 := Tryz.sizeOf2
  v2 := Tryz.zeroValue2
  t3 := Tryz.underlying3
  a3 := Tryz.isAgg3
  z3 := Tryz.sizeOf3
  v3 := Tryz.zeroValue3
  t4 := Tryz.underlying4
  a4 := Tryz.isAgg4
  z4 := Tryz.sizeOf4
  v4 := Tryz.zeroValue4
  t5 := Tryz.underlying5
  a5 := Tryz.isAgg5
  z5 := Tryz.sizeOf5
  v5 := Tryz.zeroValue5
  t9 := Tryz.underlying9
  a9 := Tryz.isAgg9
  z9 := Tryz.sizeOf9
  v9 := Tryz.zeroValue9
  t20 := Tryz.underlying20
  a20 := Tryz.isAgg20
  z20 := Tryz.sizeOf20
  v20 := Tryz.zeroValue20
  t21 := Tryz.underlying21
  a21 := Tryz.isAgg21
  z21 := Tryz.sizeOf21
  v21 := Tryz.zeroValue21
  t37 := Tryz.underlying87
  a37 := Tryz.isAgg87
  z37 := Tryz.sizeOf87
  v37 := Tryz.zeroValue87
  t46 := Tryz.underlying132
  a46 := Tryz.isAgg132
  z46 := Tryz.sizeOf132
  v46 := Tryz.zeroValue132
  t51 := Tryz.underlying129
  a51 := Tryz.isAgg129
  z51 := Tryz.sizeOf129
  v51 := Tryz.zeroValue129
  t53 := Tryz.underlying97
  a53 := Tryz.isAgg97
  z53 := Tryz.sizeOf97
  v53 := Tryz.zeroValue97
  t75 := Tryz.underlying92
  a75 := Tryz.isAgg92
  z75 := Tryz.sizeOf92
  v75 := Tryz.zeroValue92
  t76 := Tryz.underlying93
  a76 := Tryz.isAgg93
  z76 := Tryz.sizeOf93
  v76 := Tryz.zeroValue93
  t85 := Tryz.underlying140
  a85 := Tryz.isAgg140
  z85 := Tryz.sizeOf140
  v85 := Tryz.zeroValue140
  t127 := Tryz.underlying113
  a127 := Tryz.isAgg113
  z127 := Tryz.sizeOf113
  v127 := Tryz.zeroValue113
  t143 := Tryz.underlying151
  a143 := Tryz.isAgg151
  z143 := Tryz.sizeOf151
  v143 := Tryz.zeroValue151
  t145 := Tryz.underlying153
  a145 := Tryz.isAgg153
  z145 := Tryz.sizeOf153
  v145 := Tryz.zeroValue153
  t167 := Tryz.underlying139
  a167 := Tryz.isAgg139
  z167 := Tryz.sizeOf139
  v167 := Tryz.zeroValue139
  t168 := Tryz.underlying142
  a168 := Tryz.isAgg142
  z168 := Tryz.sizeOf142
  v168 := Tryz.zeroValue142
  t171 := Tryz.underlying116
  a171 := Tryz.isAgg116
  z171 := Tryz.sizeOf116
  v171 := Tryz.zeroValue116
  t173 := Tryz.underlying119
  a173 := Tryz.isAgg119
  z173 := Tryz.sizeOf119
  v173 := Tryz.zeroValue119
  t175 := Tryz.underlying145
  a175 := Tryz.isAgg145
  z175 := Tryz.sizeOf145
  v175 := Tryz.zeroValue145
  t210 := Tryz.underlying148
  a210 := Tryz.isAgg148
  z210 := Tryz.sizeOf148
  v210 := Tryz.zeroValue148
  t212 := Tryz.underlying128
  a212 := Tryz.isAgg128
  z212 := Tryz.sizeOf128
  v212 := Tryz.zeroValue128
  t213 := Tryz.underlying130
  a213 := Tryz.isAgg130
  z213 := Tryz.sizeOf130
  t232 := Tryz.underlying136
  a232 := Tryz.isAgg136
  z232 := Tryz.sizeOf136
  v232 := Tryz.zeroValue136
  t233 := Tryz.underlying137
  a233 := Tryz.isAgg137
  z233 := Tryz.sizeOf137
  v233 := Tryz.zeroValue137
  g15 := by kernel_rfl
  g16 := by kernel_rfl
  g17 := by kernel_rfl
  g18 := by kernel_rfl
  g19 := by kernel_rfl
  t80 := Tryz.underlying77
  a80 := Tryz.isAgg77
  z80 := Tryz.sizeOf77
  v80 := Tryz.zeroValue77
  i0 := by kernel_rfl
  i2 := by kernel_rfl
  i3 := by kernel_rfl
  i4 := by kernel_rfl
  i5 := by kernel_rfl
  i9 := by kernel_rfl
  i20 := by kernel_rfl
  i21 := by kernel_rfl
  i37 := by kernel_rfl
  i46 := by kernel_rfl
  i51 := by kernel_rfl
  i53 := by kernel_rfl
  i75 := by kernel_rfl
  i76 := by kernel_rfl
  i80 := by kernel_rfl
  i85 := by kernel_rfl
  i127 := by kernel_rfl
  i143 := by kernel_rfl
  i145 := by kernel_rfl
  i167 := by kernel_rfl
  i168 := by kernel_rfl
  i171 := by kernel_rfl
  i173 := by kernel_rfl
  i175 := by kernel_rfl
  i210 := by kernel_rfl
  i212 := by kernel_rfl
  i232 := by kernel_rfl
  i233 := by kernel_rfl
  m15 := by kernel_rfl
  m16 := by kernel_rfl
  m17 := by kernel_rfl
  m18 := by kernel_rfl
  m19 := by kernel_rfl
  c0 := by kernel_rfl
  c2 := by kernel_rfl
  c3 := by kernel_rfl
  c4 := by kernel_rfl
  c5 := by kernel_rfl
  c9 := by kernel_rfl
  c20 := by kernel_rfl
  c21 := by kernel_rfl
  c37 := by kernel_rfl
  c46 := by kernel_rfl
  c51 := by kernel_rfl
  c53 := by kernel_rfl
  c75 := by kernel_rfl
  c76 := by kernel_rfl
  c80 := by kernel_rfl
  c85 := by kernel_rfl
  c127 := by kernel_rfl
  c143 := by kernel_rfl
  c145 := by kernel_rfl
  c167 := by kernel_rfl
  c168 := by kernel_rfl
  c171 := by kernel_rfl
  c173 := by kernel_rfl
  c175 := by kernel_rfl
  c210 := by kernel_rfl
  c212 := by kernel_rfl
  c213 := by kernel_rfl
  c232 := by kernel_rfl
  c233 := by kernel_rfl }
open Go.RowKit in
theorem Tryz.strconv_Atoi_ok (s : ByteArray) (hmax : s.size ≤ 9223372036854775806) (v : Int) (h : Lib.atoiAll s.data.toList = .ok v) (w : World) :
    Calls Tryz.prog 122 #[.string s] w fun e w' => e = .returned (.tuple #[.int .i64 v, .nilIface]) ∧ (w' = w ∨ ∃ t, w' = Lib.bytesWorld w 5 t) := Any.strconv_Atoi_ok Tryz.laysC172 s hmax v h w
open Go.RowKit in
theorem Tryz.strconv_Atoi_syntax_var (s : ByteArray) (hlim : s.size ≤ 281474976710656) (h : Lib.atoiAll s.data.toList = .«syntax») (tp : TypeId) (p : Value) (w : World) (hvar : w.var? Tryz.prog "strconv.ErrSyntax" = some #[.iface tp p]) :
    Calls Tryz.prog 122 #[.string s] w fun e w' => ∃ N, e = .returned (.tuple #[.int .i64 0, .iface 142 (.pointer (some ⟨N, 0, none⟩))]) ∧ w.heap.size ≤ N ∧ w'.heap[N]? = some (.cells #[.string ⟨#[65, 116, 111, 105]⟩, .string s, .iface tp p] 148 (0, 0)) ∧ Below w.heap.size w w' := Any.strconv_Atoi_syntax_var Tryz.laysC172 s hlim h tp p w hvar
open Go.RowKit in
theorem Tryz.strconv_Atoi_range_var (s : ByteArray) (hlim : s.size ≤ 281474976710656) (h : Lib.atoiAll s.data.toList = .range) (tp : TypeId) (p : Value) (w : World) (hvar : w.var? Tryz.prog "strconv.ErrRange" = some #[.iface tp p]) :
    Calls Tryz.prog 122 #[.string s] w fun e w' => ∃ N, e = .returned (.tuple #[.int .i64 (Lib.atoiSat s.data.toList), .iface 142 (.pointer (some ⟨N, 0, none⟩))]) ∧ w.heap.size ≤ N ∧ w'.heap[N]? = some (.cells #[.string ⟨#[65, 116, 111, 105]⟩, .string s, .iface tp p] 148 (0, 0)) ∧ Below w.heap.size w w' := Any.strconv_Atoi_range_var Tryz.laysC172 s hlim h tp p w hvar
end Go.Proofs
namespace Go.Proofs.YtppoeiofdmlpeaaGreatDoor
open Go Go.RowKit
/-- strings.IndexByte, by the byte's number. -/
def ixb (l : List UInt8) (c : Nat) : Int := Lib.indexByte l c.toUInt8
theorem indexByte_n (s : ByteArray) (c : Nat) (w : World) :
    Calls Tryz.prog 60 #[.string s, .int .u8 c] w fun e w' => e = .returned (.int .i64 (ixb s.data.toList c)) ∧ w = w' :=
  (Tryz.strings_IndexByte s c w).mono fun _ _ ⟨h1, h2⟩ => ⟨h1, h2.symm⟩

def blanks : List UInt8 := [32, 9, 10]
def signs : List UInt8 := [59, 44, 46, 58, 40, 41, 123, 125, 91, 93, 61, 60, 62, 47, 43, 45, 42]
def cls0 (c : Nat) : Nat :=
  if 97 ≤ c ∧ c ≤ 122 ∨ 65 ≤ c ∧ c ≤ 90 then 3 else if 48 ≤ c ∧ c ≤ 57 then 4
  else if 0 ≤ ixb [32, 9, 10] c then 1
  else if 0 ≤ ixb [59, 44, 46, 58, 40, 41, 123, 125, 91, 93, 61, 60, 62, 47, 43, 45, 42] c then 6 else 0
/-- The class of a byte. -/
def cls (c : Nat) : Nat := if c = 34 then 7 else if c = 95 then 5 else if c = 35 then 2 else cls0 c
def clsF (k : Nat) (j : Nat) : Value := Value.int .u8 (if j < k then (cls0 j : Int) else 0)
def clsTo (k : Nat) : Array Value := row 256 (clsF k)
def clsAll : Array Value := row 256 fun j => Value.int .u8 (cls j : Int)

set_option maxRecDepth 100000 in
theorem clsTo_zero : clsTo 0 = Tryz.zeroCells64 := by
  have h : clsTo 0 = row 256 fun _ => Value.int .u8 0 := row_congr fun i _ => by simp [clsF]
  rw [h]
  exact (by kernel_rfl : row 256 (fun _ => Value.int .u8 0) = Tryz.zeroCells64)
theorem clsTo_step (k : Nat) (c : Int) (hc : c = cls0 k) : row 256 (fun j => if j = k then Value.int .u8 c else clsF k j) = clsTo (k + 1) := by
  subst hc
  refine row_congr fun i _ => ?_
  unfold clsF
  by_cases e : i = k
  · subst e; simp
  · rw [if_neg e]
    by_cases h3 : i < k
    · rw [if_pos h3, if_pos (by omega)]
    · rw [if_neg h3, if_neg (by omega)]
theorem clsTo_keep (k : Nat) (hc : cls0 k = 0) : clsTo k = clsTo (k + 1) := by
  refine row_congr fun i _ => ?_
  unfold clsF
  by_cases e : i = k
  · subst e; simp [hc]
  · by_cases h3 : i < k
    · rw [if_pos h3, if_pos (by omega)]
    · rw [if_neg h3, if_neg (by omega)]
theorem clsTo_all : row 256 (fun j => if j = 34 then Value.int .u8 7 else if j = 95 then .int .u8 5 else if j = 35 then .int .u8 2 else clsF 256 j) = clsAll := by
  refine row_congr fun i hi => ?_
  unfold clsF cls
  rw [if_pos hi]
  split
  · rfl
  · split
    · rfl
    · split <;> rfl

theorem clsAll_one : (clsAll.all fun x => x.oneCell') = true := row_one fun _ => rfl
theorem clsAll_info : (Tryz.prog.info? 64).map (·.size) = some clsAll.size := by rw [clsAll, row_size]; kernel_rfl
theorem clsAll_zero : Tryz.zeroCells64.size = clsAll.size := by rw [clsAll, row_size]; kernel_rfl

set_option maxRecDepth 100000 in
set_option maxHeartbeats 2000000 in
theorem classes_any (w : World) : Calls Tryz.prog 35 #[] w fun e w' => e = .returned (.agg clsAll) ∧ Below w.heap.size w w' := by
  go_enter Tryz.func35, Tryz.ntmps35
  go_wp2_with fail
  go_loopw [4] (fun i wr => ∃ k : Nat, k ≤ 256 ∧ i = .int .i64 k ∧ Has wr (w.heap.size + 1) 64 (clsTo k) ∧ Has wr w.heap.size 64 Tryz.zeroCells64 ∧ Below w.heap.size w wr) (fun i _ => 256 - (intOf i).toNat)
  case atStart =>
    refine ⟨0, by omega, rfl, ?_, ?_, ?_⟩
    · rw [clsTo_zero]
      have := Has.new (w.alloc (.cells Tryz.zeroCells64 64)) 64 Tryz.zeroCells64
      simpa using this
    · exact (Has.new w 64 _).alloc _
    · exact ((Below.refl _ _).alloc (Nat.le_refl _) _).alloc (by simp) _
  case round =>
    obtain ⟨k, hk, rfl, hO, hR, hB⟩ := hrel
    by_cases hlt : k < 256
    · have c0 : wr.cell? ⟨w.heap.size + 1, k, none⟩ = some (.int .u8 0) := by
        have := hO.rcell k hlt
        simpa [clsF] using this
      have f0 := hO.free k
      have HO := Lib.hid hO
      have HR := Lib.hid hR
      have HB := Lib.hid hB
      clear hO hR hB
      have fin : ∀ c : Int, c = cls0 k → (Has (wr.setCell ⟨w.heap.size + 1, k, none⟩ (.int .u8 c)) (w.heap.size + 1) 64 (clsTo (k + 1)) ∧ Has (wr.setCell ⟨w.heap.size + 1, k, none⟩ (.int .u8 c)) w.heap.size 64 Tryz.zeroCells64 ∧ Below w.heap.size w (wr.setCell ⟨w.heap.size + 1, k, none⟩ (.int .u8 c))) := by
        intro c hc
        refine ⟨?_, HR.out.far _ (by simp) _, HB.out.setCell (by simp) _⟩
        have := HO.out.rput k (.int .u8 c)
        rwa [clsTo_step k c hc] at this
      have FIN := Lib.hid fin
      clear fin
      have hcs : (97 ≤ k ∧ k ≤ 122) ∨ (65 ≤ k ∧ k ≤ 90) ∨ (48 ≤ k ∧ k ≤ 57) ∨ (k < 48 ∨ (57 < k ∧ k < 65) ∨ (90 < k ∧ k < 97) ∨ 122 < k) := by omega
      rcases hcs with hc | hc | hc | hc
      · go_wp2_with fail
        go_roundw
        case rel => exact ⟨k + 1, by omega, by go_num, FIN.out 3 (by unfold cls0; rw [if_pos (by omega)]; rfl)⟩
        case measure => simp [intOf]; omega
      · go_wp2_with fail
        go_roundw
        case rel => exact ⟨k + 1, by omega, by go_num, FIN.out 3 (by unfold cls0; rw [if_pos (by omega)]; rfl)⟩
        case measure => simp [intOf]; omega
      · go_wp2_with fail
        go_roundw
        case rel => exact ⟨k + 1, by omega, by go_num, FIN.out 4 (by unfold cls0; rw [if_neg (by omega), if_pos (by omega)]; rfl)⟩
        case measure => simp [intOf]; omega
      · have hk0 : cls0 k = if 0 ≤ ixb [32, 9, 10] k then 1 else if 0 ≤ ixb [59, 44, 46, 58, 40, 41, 123, 125, 91, 93, 61, 60, 62, 47, 43, 45, 42] k then 6 else 0 := by
          unfold cls0; rw [if_neg (by omega), if_neg (by omega)]
        have HK := Lib.hid hk0
        clear hk0
        rcases hc with hc | hc | hc | hc
        all_goals
          by_cases h1 : 0 ≤ ixb [32, 9, 10] k
          · go_wp2_with (go_at_call 60; refine (indexByte_n _ _ _).mono ?_; rintro e w' ⟨rfl, rfl⟩)
            go_roundw
            case rel => exact ⟨k + 1, by omega, by go_num, FIN.out 1 (by rw [HK.out, if_pos h1]; rfl)⟩
            case measure => simp [intOf]; omega
          · by_cases h2 : 0 ≤ ixb [59, 44, 46, 58, 40, 41, 123, 125, 91, 93, 61, 60, 62, 47, 43, 45, 42] k
            · go_wp2_with (go_at_call 60; refine (indexByte_n _ _ _).mono ?_; rintro e w' ⟨rfl, rfl⟩)
              go_roundw
              case rel => exact ⟨k + 1, by omega, by go_num, FIN.out 6 (by rw [HK.out, if_neg (by omega), if_pos h2]; rfl)⟩
              case measure => simp [intOf]; omega
            · go_wp2_with (go_at_call 60; refine (indexByte_n _ _ _).mono ?_; rintro e w' ⟨rfl, rfl⟩)
              go_roundw
              case rel => exact ⟨k + 1, by omega, by go_num, by rw [← clsTo_keep k (by rw [HK.out, if_neg (by omega), if_neg (by omega)])]; exact HO.out, HR.out, HB.out⟩
              case measure => simp [intOf]; omega
    · obtain rfl : k = 256 := by omega
      have c1 := hO.rcell 35 (by omega)
      have c2 := hO.rcell 95 (by omega)
      have c3 := hO.rcell 34 (by omega)
      have f1 := hO.free 35
      have f2 := hO.free 95
      have f3 := hO.free 34
      have hO' := ((hO.rput 35 (.int .u8 2)).rput 95 (.int .u8 5)).rput 34 (.int .u8 7)
      rw [clsTo_all] at hO'
      have hR' := ((hR.far ⟨w.heap.size + 1, 35, none⟩ (by simp) (.int .u8 2)).far ⟨w.heap.size + 1, 95, none⟩ (by simp) (.int .u8 5)).far ⟨w.heap.size + 1, 34, none⟩ (by simp) (.int .u8 7)
      have hB' := ((hB.setCell (p := ⟨w.heap.size + 1, 35, none⟩) (by simp) (.int .u8 2)).setCell (p := ⟨w.heap.size + 1, 95, none⟩) (by simp) (.int .u8 5)).setCell (p := ⟨w.heap.size + 1, 34, none⟩) (by simp) (.int .u8 7)
      clear hO hR hB
      go_wp2_with (first
        | ((with_reducible show wpList _ _ _ (Oper.mk (some 49) _ _ _ _ _ :: _) _ _); refine wpList_load_row rfl 64 _ rfl (w.heap.size + 1) rfl 64 clsAll (0, 0) _ hO' Tryz.underlying64 rfl clsAll_info ?_)
        | ((with_reducible show wpList _ _ _ (Oper.mk none (Op.store 64 _ _) _ _ _ _ :: _) _ _); refine wpList_store_row rfl 64 _ _ rfl w.heap.size clsAll rfl rfl 64 Tryz.zeroCells64 hR' clsAll_info clsAll_zero clsAll_one ?_))
      have hG := setRow_heap _ w.heap.size _ clsAll _ _ hR'
      show bodyPost _ _ _ _ _ _
      refine bodyPost_ret (v := .agg clsAll) ?_ rfl ?_
      · exact results_cell_row Tryz.results35 _ _ w.heap.size 64 clsAll (0, 0) _ rfl hG Tryz.underlying64 rfl clsAll_info
      · exact ⟨rfl, below_setRow hB' (Nat.le_refl _) _⟩
end Go.Proofs.YtppoeiofdmlpeaaGreatDoor
namespace Go.Proofs.YtppoeiofdmlpeaaGreatDoor
open Go Go.RowKit
/-- May byte c stand at place i of a name? -/
def okAt (i c : Nat) : Bool := cls c == 3 || (i != 0 && (cls c == 4 || cls c == 5))
def byteAt (s : ByteArray) (i : Nat) : Nat := (s.data.toList.getD i 0).toNat
/-- Is the string a name? -/
def nameB (s : ByteArray) : Bool := decide (s.size ≠ 0 ∧ s.size ≤ 24 ∧ ∀ i, i < s.size → okAt i (byteAt s i) = true)
theorem nameB_true {s : ByteArray} (h0 : s.size ≠ 0) (h1 : s.size ≤ 24) (h : ∀ i, i < s.size → okAt i (byteAt s i) = true) : nameB s = true := decide_eq_true ⟨h0, h1, h⟩
theorem nameB_no {s : ByteArray} {i : Nat} (hi : i < s.size) (h : okAt i (byteAt s i) = false) : nameB s = false :=
  decide_eq_false fun ⟨_, _, h3⟩ => by rw [h3 i hi] at h; cases h
theorem byteAt_eq (s : ByteArray) (i : Nat) (h : i < s.size) : byteAt s i = s[i].toNat := by
  unfold byteAt
  have : s.data.toList.getD i 0 = s[i] := by
    have hl : i < s.data.toList.length := by simpa using h
    rw [List.getD_eq_getElem?_getD, List.getElem?_eq_getElem hl]; rfl
  rw [this]
theorem cls_small (c : Nat) : cls c ≤ 7 := by
  unfold cls cls0
  repeat' split
  all_goals omega

set_option maxHeartbeats 1000000 in
theorem name_any (s : ByteArray) (w : World) (hs : s.size ≤ maxLen) :
    Calls Tryz.prog 17 #[.string s] w fun e w' => e = .returned (.bool (nameB s)) ∧ Below w.heap.size w w' := by
  unfold maxLen at hs
  go_enter Tryz.func17, Tryz.ntmps17
  go_wp2_with (first
    | (go_at_call 35; refine (classes_any _).mono ?_; rintro e w1 ⟨rfl, hb1⟩)
    | ((with_reducible show wpList _ _ _ (Oper.mk none (Op.store 64 _ _) _ _ _ _ :: _) _ _); refine wpList_store_row rfl 64 _ _ rfl w1.heap.size clsAll rfl rfl 64 Tryz.zeroCells64 (Has.new w1 _ _) clsAll_info clsAll_zero clsAll_one ?_))
  have hg : Has ((w1.alloc (.cells Tryz.zeroCells64 64)).setRow w1.heap.size clsAll) w1.heap.size 64 clsAll := setRow_heap _ _ _ _ _ _ (Has.new w1 _ _)
  have hb : Below w.heap.size w ((w1.alloc (.cells Tryz.zeroCells64 64)).setRow w1.heap.size clsAll) := below_setRow (hb1.alloc hb1.size _) hb1.size _
  generalize (w1.alloc (.cells Tryz.zeroCells64 64)).setRow w1.heap.size clsAll = W at *
  go_loop [9] (fun i => ∃ k : Nat, k ≤ s.size ∧ i = .int .i64 k ∧ Hid (∀ j, j < k → okAt j (byteAt s j) = true)) (fun i => s.size - (intOf i).toNat)
  case atStart => exact ⟨0, Nat.zero_le _, rfl, fun j hj => absurd hj (Nat.not_lt_zero _)⟩
  case round =>
    obtain ⟨k, hk, rfl, hrel⟩ := hrel
    by_cases hlt : k < s.size
    · have hcell : ∀ n : Nat, n < 256 → W.cell? ⟨w1.heap.size, n, none⟩ = some (.int .u8 (cls n)) := fun n hn => hg.rcell n hn
      have hb8 := UInt8.toNat_lt s[k]
      have hby := byteAt_eq s k hlt
      have yes : okAt k (byteAt s k) = true → Hid (∀ j, j < k + 1 → okAt j (byteAt s j) = true) := fun h j hj => by
        rcases Nat.lt_or_ge j k with h1 | h1
        · exact hrel.out j h1
        · obtain rfl : j = k := by omega
          exact h
      have no : okAt k (byteAt s k) = false → nameB s = false := fun h => nameB_no hlt h
      rw [hby] at yes no
      have YES := Lib.hid yes
      have NO := Lib.hid no
      clear yes no hby
      by_cases e3 : cls s[k].toNat = 3
      · go_wp2_with fail
        go_round
        case rel => exact ⟨k + 1, by omega, by go_num, YES.out (by simp [okAt, e3])⟩
        case measure => simp [intOf]; omega
      · by_cases hk0 : k = 0
        · subst hk0
          go_wp2_with fail
          go_ret
          exact ⟨ret_bool (by rw [NO.out (by simp [okAt, e3])]), hb⟩
        · by_cases e4 : cls s[k].toNat = 4
          · go_wp2_with fail
            go_round
            case rel => exact ⟨k + 1, by omega, by go_num, YES.out (by simp [okAt, e4, hk0])⟩
            case measure => simp [intOf]; omega
          · by_cases e5 : cls s[k].toNat = 5
            · go_wp2_with fail
              go_round
              case rel => exact ⟨k + 1, by omega, by go_num, YES.out (by simp [okAt, e5, hk0])⟩
              case measure => simp [intOf]; omega
            · have b3 : ((cls s[k].toNat : Int) != 3) = true := by rw [bne_iff_ne]; omega
              have b4 : ((cls s[k].toNat : Int) != 4) = true := by rw [bne_iff_ne]; omega
              have b5 : ((cls s[k].toNat : Int) != 5) = true := by rw [bne_iff_ne]; omega
              go_wp2_with fail
              go_ret
              exact ⟨ret_bool (by rw [NO.out (by simp [okAt, e3, e4, e5])]), hb⟩
    · obtain rfl : k = s.size := by omega
      have hall := hrel.out
      clear hrel
      have fin : nameB s = (!s.toList.isEmpty && decide ((s.size : Int) ≤ 24)) := by
        have he : s.toList.isEmpty = decide (s.size = 0) := by
          exact isEmpty_size s
        rw [he]
        unfold nameB
        rw [Bool.eq_iff_iff]
        simp only [decide_eq_true_eq, Bool.and_eq_true, Bool.not_eq_true', decide_eq_false_iff_not]
        constructor
        · intro ⟨h1, h2, _⟩; exact ⟨h1, by omega⟩
        · intro ⟨h1, h2⟩; exact ⟨h1, by omega, hall⟩
      have FIN := Lib.hid fin
      clear fin hall
      go_wp2_with fail
      all_goals
        go_ret
        refine ⟨ret_bool ?_, hb⟩
        rw [FIN.out]
        try simp_all
end Go.Proofs.YtppoeiofdmlpeaaGreatDoor
namespace Go.Proofs.YtppoeiofdmlpeaaGreatDoor
open Go Go.RowKit
/-- The class of the byte at an offset; 0 behind the end. -/
def clsAt (s : ByteArray) (i : Nat) : Nat := if i < s.size then cls (byteAt s i) else 0
/-- The first offset from i on that a test refuses, in at most n steps. -/
def runTo (p : Nat → Bool) : Nat → Nat → Nat
  | 0, i => i
  | n + 1, i => if p i then runTo p n (i + 1) else i
theorem runTo_succ (p : Nat → Bool) (n i : Nat) : runTo p (n + 1) i = if p i then runTo p n (i + 1) else i := rfl
theorem runTo_eq (p : Nat → Bool) : ∀ (n i j : Nat), i ≤ j → j ≤ i + n → (∀ k, i ≤ k → k < j → p k = true) → p j = false → runTo p n i = j
  | 0, i, j, h1, h2, _, _ => by show i = j; omega
  | n + 1, i, j, h1, h2, h3, h4 => by
    rw [runTo_succ]
    rcases Nat.lt_or_ge i j with h | h
    · rw [if_pos (h3 i (Nat.le_refl _) h)]
      exact runTo_eq p n (i + 1) j h (by omega) (fun k hk hk2 => h3 k (by omega) hk2) h4
    · obtain rfl : i = j := by omega
      rw [if_neg (by rw [h4]; decide)]
theorem runTo_ge (p : Nat → Bool) : ∀ (n i : Nat), i ≤ runTo p n i
  | 0, i => Nat.le_refl _
  | n + 1, i => by
    rw [runTo_succ]
    split
    · exact Nat.le_trans (Nat.le_succ i) (runTo_ge p n (i + 1))
    · exact Nat.le_refl _
theorem runTo_le (p : Nat → Bool) {B : Nat} (hp : ∀ j, B ≤ j → p j = false) : ∀ (n i : Nat), i ≤ B → runTo p n i ≤ B
  | 0, _, h => h
  | n + 1, i, h => by
    rw [runTo_succ]
    split
    · rename_i hi
      rcases Nat.lt_or_ge i B with h2 | h2
      · exact runTo_le p hp n (i + 1) h2
      · rw [hp i h2] at hi; cases hi
    · exact h
def wordP (s : ByteArray) (i : Nat) : Bool := clsAt s i == 3 || (clsAt s i == 4 || clsAt s i == 5)
def digP (s : ByteArray) (i : Nat) : Bool := clsAt s i == 4
def hashP (s : ByteArray) (i : Nat) : Bool := decide (i < s.size) && byteAt s i != 10
def wordEnd (s : ByteArray) (i : Nat) : Nat := runTo (wordP s) s.size i
def digEnd (s : ByteArray) (i : Nat) : Nat := runTo (digP s) s.size i
def hashEnd (s : ByteArray) (i : Nat) : Nat := runTo (hashP s) s.size i
/-- What a byte behind a backslash stands for. -/
def escB (c : Nat) : Option UInt8 := if c = 92 then some 92 else if c = 34 then some 34 else if c = 110 then some 10 else none
/-- What the string at the beginning of a text stands for, and its length: from offset i on, with what has come. -/
def unqGo (t : ByteArray) : Nat → Nat → List UInt8 → Option (List UInt8 × Nat)
  | 0, _, _ => none
  | n + 1, i, acc => if t.size ≤ i then none else if byteAt t i = 34 then some (acc, i + 1) else if byteAt t i = 10 then none
    else if byteAt t i = 92 then (if t.size ≤ i + 1 then none else match escB (byteAt t (i + 1)) with
      | none => none
      | some b => unqGo t n (i + 2) (acc ++ [b]))
    else unqGo t n (i + 1) (acc ++ [UInt8.ofNat (byteAt t i)])
theorem unqGo_succ (t : ByteArray) (n i : Nat) (acc : List UInt8) : unqGo t (n + 1) i acc = if t.size ≤ i then none else if byteAt t i = 34 then some (acc, i + 1) else if byteAt t i = 10 then none
    else if byteAt t i = 92 then (if t.size ≤ i + 1 then none else match escB (byteAt t (i + 1)) with
      | none => none
      | some b => unqGo t n (i + 2) (acc ++ [b]))
    else unqGo t n (i + 1) (acc ++ [UInt8.ofNat (byteAt t i)]) := rfl
def unqL (t : ByteArray) : Option (List UInt8 × Nat) := unqGo t t.size 1 []
/-- A token, or an error. -/
structure Fnd where
  kind : Int
  text : ByteArray
  pos : Int
  err : Int
/-- The text from i up to j. -/
def cut (s : ByteArray) (i j : Nat) : ByteArray := s.extract i j
/-- The tokens of a text from an offset on; an error as the last one. -/
def lexGo (s : ByteArray) : Nat → Nat → List Fnd
  | 0, _ => []
  | n + 1, i => if s.size ≤ i then [] else
    if clsAt s i = 1 then lexGo s n (i + 1)
    else if clsAt s i = 2 then lexGo s n (hashEnd s i)
    else if clsAt s i = 3 then (if 24 < wordEnd s i - i then [⟨1, cut s i (wordEnd s i), i, 7⟩] else ⟨1, cut s i (wordEnd s i), i, 0⟩ :: lexGo s n (wordEnd s i))
    else if clsAt s i = 4 then (if 7 < digEnd s i - i ∨ clsAt s (digEnd s i) = 3 ∨ clsAt s (digEnd s i) = 5 then [⟨2, cut s i (digEnd s i), i, 11⟩] else ⟨2, cut s i (digEnd s i), i, 0⟩ :: lexGo s n (digEnd s i))
    else if clsAt s i = 7 then (match unqL (cut s i s.size) with
      | none => [⟨0, ⟨#[]⟩, i, 10⟩]
      | some (t, m) => ⟨3, ⟨t.toArray⟩, i, 0⟩ :: lexGo s n (i + m))
    else if clsAt s i = 6 then ⟨4, cut s i (i + 1), i, 0⟩ :: lexGo s n (i + 1)
    else [⟨0, ⟨#[]⟩, i, 10⟩]
theorem lexGo_succ (s : ByteArray) (n i : Nat) : lexGo s (n + 1) i = if s.size ≤ i then [] else
    if clsAt s i = 1 then lexGo s n (i + 1)
    else if clsAt s i = 2 then lexGo s n (hashEnd s i)
    else if clsAt s i = 3 then (if 24 < wordEnd s i - i then [⟨1, cut s i (wordEnd s i), i, 7⟩] else ⟨1, cut s i (wordEnd s i), i, 0⟩ :: lexGo s n (wordEnd s i))
    else if clsAt s i = 4 then (if 7 < digEnd s i - i ∨ clsAt s (digEnd s i) = 3 ∨ clsAt s (digEnd s i) = 5 then [⟨2, cut s i (digEnd s i), i, 11⟩] else ⟨2, cut s i (digEnd s i), i, 0⟩ :: lexGo s n (digEnd s i))
    else if clsAt s i = 7 then (match unqL (cut s i s.size) with
      | none => [⟨0, ⟨#[]⟩, i, 10⟩]
      | some (t, m) => ⟨3, ⟨t.toArray⟩, i, 0⟩ :: lexGo s n (i + m))
    else if clsAt s i = 6 then ⟨4, cut s i (i + 1), i, 0⟩ :: lexGo s n (i + 1)
    else [⟨0, ⟨#[]⟩, i, 10⟩] := rfl
def lexF (s : ByteArray) : List Fnd := lexGo s (s.size + 1) 0
/-- What comes of tokens that are found one after the other: those that are kept, the error and its offset. -/
def takeF : List Fnd → List Fnd → List Fnd × Int × Int
  | [], out => (out, 0, 0)
  | f :: r, out => if f.err ≠ 0 then ([], f.err, f.pos) else if out.length = 5000 then ([], 7, f.pos) else takeF r (out ++ [f])
/-- The tokens of a text, or an error and its offset. -/
def lexL (s : ByteArray) : List Fnd × Int × Int := if 20000 < s.size then ([], 7, -1) else takeF (lexF s) []
end Go.Proofs.YtppoeiofdmlpeaaGreatDoor
namespace Go.Proofs.YtppoeiofdmlpeaaGreatDoor
open Go Go.RowKit
theorem size_of {s : ByteArray} {l : List UInt8} (h : s.data.toList = l) : s.size = l.length := by
  rw [← h]; rfl
theorem byte_in {s : ByteArray} {A w B : List UInt8} (h : s.data.toList = A ++ (w ++ B)) {k : Nat} (hk : k < w.length) : byteAt s (A.length + k) = (w[k]).toNat := by
  unfold byteAt
  rw [h, List.getD_eq_getElem?_getD, List.getElem?_append_right (by omega), List.getElem?_append_left (by omega), show A.length + k - A.length = k by omega, List.getElem?_eq_getElem hk]
  rfl
theorem cls_in {s : ByteArray} {A w B : List UInt8} (h : s.data.toList = A ++ (w ++ B)) {k : Nat} (hk : k < w.length) : clsAt s (A.length + k) = cls (w[k]).toNat := by
  unfold clsAt
  have hs := size_of h
  rw [List.length_append, List.length_append] at hs
  rw [if_pos (by omega), byte_in h hk]
def Stops (B : List UInt8) : Prop := B = [] ∨ ∃ B', B = 32 :: B'
theorem cls_stop {s : ByteArray} {A B : List UInt8} (h : s.data.toList = A ++ B) (hB : Stops B) : clsAt s A.length = 0 ∨ clsAt s A.length = 1 := by
  have hs := size_of h
  rcases hB with rfl | ⟨B', rfl⟩
  · left; unfold clsAt; rw [if_neg (by simp at hs; omega)]
  · right
    have := cls_in (A := A) (w := [32]) (B := B') h (k := 0) (by simp)
    rw [Nat.add_zero] at this
    rw [this]; decide +kernel
theorem cut_mid {s : ByteArray} {A w B : List UInt8} (h : s.data.toList = A ++ (w ++ B)) : cut s A.length (A.length + w.length) = ⟨w.toArray⟩ := by
  unfold cut
  have e : (s.extract A.length (A.length + w.length)).data.toList = w := by
    rw [ByteArray.data_extract, Array.toList_extract, h]
    rw [List.extract_eq_take_drop, List.drop_left]
    simp
  cases hx : s.extract A.length (A.length + w.length) with
  | mk d => rw [hx] at e; congr 1; rw [← e]
/-- A word that is one token, wherever a space or the end follows. -/
def Lexes (w : List UInt8) (k : Int) (t : ByteArray) : Prop :=
  0 < w.length ∧ ∀ (s : ByteArray) (A B : List UInt8) (n : Nat), s.data.toList = A ++ (w ++ B) → Stops B → lexGo s (n + 1) A.length = ⟨k, t, (A.length : Nat), 0⟩ :: lexGo s n (A.length + w.length)
theorem end_at {s : ByteArray} {A w B : List UInt8} (h : s.data.toList = A ++ (w ++ B)) (p : Nat → Bool) (hp : ∀ k, k < w.length → p (A.length + k) = true) (he : p (A.length + w.length) = false) : runTo p s.size A.length = A.length + w.length := by
  have hs := size_of h
  rw [List.length_append, List.length_append] at hs
  refine runTo_eq p s.size _ _ (by omega) (by omega) (fun k h1 h2 => ?_) he
  have := hp (k - A.length) (by omega)
  rwa [show A.length + (k - A.length) = k by omega] at this
theorem stop_at {s : ByteArray} {A w B : List UInt8} (h : s.data.toList = A ++ (w ++ B)) (hB : Stops B) : clsAt s (A.length + w.length) = 0 ∨ clsAt s (A.length + w.length) = 1 := by
  have := cls_stop (A := A ++ w) (B := B) (s := s) (by rw [h, List.append_assoc]) hB
  rwa [List.length_append] at this
theorem lexes_name {b : ByteArray} (h : nameB b = true) : Lexes b.data.toList 1 b := by
  unfold nameB at h
  obtain ⟨h0, h1, h2⟩ := of_decide_eq_true h
  have hl : b.data.toList.length = b.size := rfl
  refine ⟨by omega, fun s A B n hs hB => ?_⟩
  have hsz := size_of hs
  rw [List.length_append, List.length_append] at hsz
  have hc : ∀ k (hk : k < b.data.toList.length), okAt k (b.data.toList[k]).toNat = true := fun k hk => by
    have := h2 k (by omega)
    have e : byteAt b k = (b.data.toList[k]).toNat := by
      unfold byteAt; rw [List.getD_eq_getElem?_getD, List.getElem?_eq_getElem hk]; rfl
    rwa [e] at this
  have hfirst : clsAt s A.length = 3 := by
    have h3 := hc 0 (by omega)
    have h4 := cls_in hs (k := 0) (by omega)
    rw [Nat.add_zero] at h4
    rw [h4]
    simpa [okAt] using h3
  have hend : wordEnd s A.length = A.length + b.data.toList.length := by
    refine end_at hs (wordP s) (fun k hk => ?_) ?_
    · unfold wordP
      rw [cls_in hs hk]
      have := hc k hk
      unfold okAt at this
      simp only [Bool.or_eq_true, Bool.and_eq_true] at this ⊢
      rcases this with h | ⟨_, h | h⟩
      · exact .inl h
      · exact .inr (.inl h)
      · exact .inr (.inr h)
    · unfold wordP
      rcases stop_at hs hB with h | h <;> rw [h] <;> rfl
  rw [lexGo_succ, if_neg (by omega), if_neg (by omega), if_neg (by omega), if_pos hfirst, hend, if_neg (by omega), cut_mid hs]
theorem dig_in : ∀ (u : Nat) (c : UInt8), c ∈ Lib.decDigits u → 48 ≤ c.toNat ∧ c.toNat ≤ 57 := by
  intro u
  induction u using Nat.strongRecOn with
  | _ u ih =>
    intro c hc
    rw [Lib.decDigits] at hc
    split at hc
    · rw [List.mem_singleton] at hc
      subst hc
      rw [UInt8.toNat_ofNat']
      omega
    · rw [List.mem_append, List.mem_singleton] at hc
      rcases hc with hc | rfl
      · exact ih (u / 10) (by omega) c hc
      · rw [UInt8.toNat_ofNat']
        omega
theorem cls_digit {c : UInt8} (h : 48 ≤ c.toNat ∧ c.toNat ≤ 57) : cls c.toNat = 4 := by
  unfold cls cls0
  rw [if_neg (by omega), if_neg (by omega), if_neg (by omega), if_neg (by omega), if_pos h]
theorem dec_len {u : Nat} (h : u < 10000000) : 0 < (Lib.decDigits u).length ∧ (Lib.decDigits u).length ≤ 7 := by
  rw [Lib.decDigits_length]
  refine ⟨Lib.nDigits_pos u, ?_⟩
  by_cases h0 : u < 10
  · rw [Lib.nDigits_small h0]; omega
  by_cases h1 : u < 100
  · rw [Lib.nDigits_unique 1 u (by omega) (by omega)]; omega
  by_cases h2 : u < 1000
  · rw [Lib.nDigits_unique 2 u (by omega) (by omega)]; omega
  by_cases h3 : u < 10000
  · rw [Lib.nDigits_unique 3 u (by omega) (by omega)]; omega
  by_cases h4 : u < 100000
  · rw [Lib.nDigits_unique 4 u (by omega) (by omega)]; omega
  by_cases h5 : u < 1000000
  · rw [Lib.nDigits_unique 5 u (by omega) (by omega)]; omega
  · rw [Lib.nDigits_unique 6 u (by omega) (by omega)]; omega
theorem lexes_num {u : Nat} (h : u < 10000000) : Lexes (Lib.decDigits u) 2 ⟨(Lib.decDigits u).toArray⟩ := by
  obtain ⟨h0, h7⟩ := dec_len h
  refine ⟨h0, fun s A B n hs hB => ?_⟩
  have hsz := size_of hs
  rw [List.length_append, List.length_append] at hsz
  have hc : ∀ k (hk : k < (Lib.decDigits u).length), cls ((Lib.decDigits u)[k]).toNat = 4 := fun k hk => cls_digit (dig_in u _ (List.getElem_mem hk))
  have hfirst : clsAt s A.length = 4 := by
    have h4 := cls_in hs (k := 0) h0
    rw [Nat.add_zero] at h4
    rw [h4]; exact hc 0 h0
  have hst := stop_at hs hB
  have hend : digEnd s A.length = A.length + (Lib.decDigits u).length := by
    refine end_at hs (digP s) (fun k hk => ?_) ?_
    · unfold digP
      rw [cls_in hs hk, hc k hk]; rfl
    · unfold digP
      rcases hst with h | h <;> rw [h] <;> rfl
  rw [lexGo_succ, if_neg (by omega), if_neg (by omega), if_neg (by omega), if_neg (by omega), if_pos hfirst, hend, if_neg (by omega), cut_mid hs]
/-- A string in double quotes. -/
def escL (c : UInt8) : List UInt8 := if c = 10 then [92, 110] else if c = 34 ∨ c = 92 then [92, c] else [c]
def quoteL (v : List UInt8) : List UInt8 := 34 :: (v.flatMap escL ++ [34])
theorem unq_esc (t : ByteArray) : ∀ (v P Q acc : List UInt8) (n : Nat), t.data.toList = P ++ (v.flatMap escL ++ 34 :: Q) → v.length < n → unqGo t n P.length acc = some (acc ++ v, P.length + (v.flatMap escL).length + 1)
  | [], P, Q, acc, n + 1, ht, _ => by
    have hb := byte_in (A := P) (w := [34]) (B := Q) (s := t) (by simpa using ht) (k := 0) (by simp)
    have hs := size_of ht
    rw [Nat.add_zero] at hb
    rw [unqGo_succ, if_neg (by simp at hs; omega), if_pos (by rw [hb]; rfl)]
    simp
  | c :: v, P, Q, acc, n + 1, ht, hn => by
    have hs := size_of ht
    have ih := unq_esc t v (P ++ escL c) Q
    have ht2 : t.data.toList = (P ++ escL c) ++ (v.flatMap escL ++ 34 :: Q) := by rw [ht]; simp
    have hlt : P.length < t.size := by
      rw [hs]; simp only [List.length_append, List.length_cons]; omega
    by_cases h10 : c = 10
    · have e : escL c = [92, 110] := by unfold escL; rw [if_pos h10]
      rw [e] at ht2 ih
      have b0 := byte_in (A := P) (w := [92, 110]) (B := v.flatMap escL ++ 34 :: Q) (s := t) (by simpa using ht2) (k := 0) (by simp)
      have b1 := byte_in (A := P) (w := [92, 110]) (B := v.flatMap escL ++ 34 :: Q) (s := t) (by simpa using ht2) (k := 1) (by simp)
      rw [Nat.add_zero] at b0
      have hs2 := size_of ht2
      rw [unqGo_succ, if_neg (by omega), if_neg (by rw [b0]; decide), if_neg (by rw [b0]; decide), if_pos (by rw [b0]; decide), if_neg (by simp at hs2; omega), b1]
      show unqGo t n (P.length + 2) (acc ++ [10]) = _
      have := ih (acc ++ [10]) n ht2 (by simp at hn; omega)
      rw [List.length_append] at this
      rw [show P.length + 2 = P.length + ([92, 110] : List UInt8).length from rfl, this, h10]
      simp [escL]; omega
    · by_cases h34 : c = 34 ∨ c = 92
      · have e : escL c = [92, c] := by unfold escL; rw [if_neg h10, if_pos h34]
        rw [e] at ht2 ih
        have b0 := byte_in (A := P) (w := [92, c]) (B := v.flatMap escL ++ 34 :: Q) (s := t) (by simpa using ht2) (k := 0) (by simp)
        have b1 := byte_in (A := P) (w := [92, c]) (B := v.flatMap escL ++ 34 :: Q) (s := t) (by simpa using ht2) (k := 1) (by simp)
        rw [Nat.add_zero] at b0
        have hs2 := size_of ht2
        have he : escB c.toNat = some c := by rcases h34 with rfl | rfl <;> rfl
        rw [unqGo_succ, if_neg (by omega), if_neg (by rw [b0]; exact (by decide : ¬ (92 : UInt8).toNat = 34)), if_neg (by rw [b0]; exact (by decide : ¬ (92 : UInt8).toNat = 10)), if_pos (by rw [b0]; exact (by decide : (92 : UInt8).toNat = 92)), if_neg (by simp at hs2; omega), b1]
        show (match escB c.toNat with | none => none | some b => unqGo t n (P.length + 2) (acc ++ [b])) = _
        rw [he]
        show unqGo t n (P.length + 2) (acc ++ [c]) = _
        have := ih (acc ++ [c]) n ht2 (by simp at hn; omega)
        rw [List.length_append] at this
        rw [show P.length + 2 = P.length + ([92, c] : List UInt8).length from rfl, this]
        simp [e]; omega
      · have e : escL c = [c] := by unfold escL; rw [if_neg h10, if_neg h34]
        rw [e] at ht2 ih
        have b0 := byte_in (A := P) (w := [c]) (B := v.flatMap escL ++ 34 :: Q) (s := t) (by simpa using ht2) (k := 0) (by simp)
        rw [Nat.add_zero] at b0
        have hne : ∀ (d : UInt8) (m : Nat), d.toNat = m → c ≠ d → ¬ byteAt t P.length = m := fun d m hm hd hb => by
          rw [b0, ← hm] at hb
          exact hd (UInt8.toNat_inj.1 hb)
        rw [unqGo_succ, if_neg (by omega), if_neg (hne 34 34 rfl fun h => h34 (.inl h)), if_neg (hne 10 10 rfl h10), if_neg (hne 92 92 rfl fun h => h34 (.inr h)), b0]
        show unqGo t n (P.length + 1) (acc ++ [UInt8.ofNat c.toNat]) = _
        rw [UInt8.ofNat_toNat]
        have := ih (acc ++ [c]) n ht2 (by simp at hn; omega)
        rw [List.length_append] at this
        rw [show P.length + 1 = P.length + ([c] : List UInt8).length from rfl, this]
        simp [e]; omega
theorem esc_len : ∀ v : List UInt8, v.length ≤ (v.flatMap escL).length
  | [] => Nat.le_refl _
  | c :: v => by
    have := esc_len v
    rw [List.flatMap_cons, List.length_append, List.length_cons]
    have : 1 ≤ (escL c).length := by
      unfold escL
      split
      · exact Nat.le_add_left 1 1
      · split
        · exact Nat.le_add_left 1 1
        · exact Nat.le_refl _
    omega
theorem unq_quote {t : ByteArray} {v Q : List UInt8} (h : t.data.toList = quoteL v ++ Q) : unqL t = some (v, (quoteL v).length) := by
  unfold unqL
  have hs := size_of h
  have := esc_len v
  have h1 := unq_esc t v [34] Q [] t.size (by rw [h]; simp [quoteL]) (by rw [hs]; unfold quoteL; rw [List.length_append, List.length_cons, List.length_append]; omega)
  show unqGo t t.size ([34] : List UInt8).length [] = _
  rw [h1]
  simp [quoteL]; omega
theorem cut_rest {s : ByteArray} {A w : List UInt8} (h : s.data.toList = A ++ w) : (cut s A.length s.size).data.toList = w := by
  have h2 := cut_mid (s := s) (A := A) (w := w) (B := []) (by simpa using h)
  have hs := size_of h
  rw [List.length_append] at hs
  rw [hs, h2]
theorem lexes_quote (v : List UInt8) : Lexes (quoteL v) 3 ⟨v.toArray⟩ := by
  have hl : 0 < (quoteL v).length := by simp [quoteL]
  refine ⟨hl, fun s A B n hs hB => ?_⟩
  have hsz := size_of hs
  rw [List.length_append, List.length_append] at hsz
  have hfirst : clsAt s A.length = 7 := by
    have h4 := cls_in hs (k := 0) hl
    rw [Nat.add_zero] at h4
    rw [h4]; rfl
  have hu := unq_quote (cut_rest hs)
  rw [lexGo_succ, if_neg (by omega), if_neg (by omega), if_neg (by omega), if_neg (by omega), if_neg (by omega), if_pos hfirst, hu]
/-- Words with single spaces between them. -/
def spaced : List (List UInt8) → List UInt8
  | [] => []
  | w :: r => w ++ r.flatMap (32 :: ·)
inductive AllLex : List (List UInt8) → List ByteArray → Prop
  | nil : AllLex [] []
  | cons {w : List UInt8} {t : ByteArray} {r : List (List UInt8)} {tr : List ByteArray} : (∃ k, Lexes w k t) → AllLex r tr → AllLex (w :: r) (t :: tr)
theorem lexGo_spaced (s : ByteArray) : ∀ (ws : List (List UInt8)) (ts : List ByteArray) (A : List UInt8) (n : Nat), AllLex ws ts → s.data.toList = A ++ spaced ws → s.size - A.length + 1 ≤ n →
    (lexGo s n A.length).map Fnd.text = ts ∧ (∀ f ∈ lexGo s n A.length, f.err = 0) ∧ (lexGo s n A.length).length = ws.length
  | _, _, A, n, .nil, hs, hn => by
    have hsz := size_of hs
    have h0 : s.size ≤ A.length := by simpa [spaced] using Nat.le_of_eq hsz
    cases n with
    | zero => omega
    | succ n => rw [lexGo_succ, if_pos h0]; exact ⟨rfl, fun f hf => (by cases hf), rfl⟩
  | _, _, A, n, .cons (w := w) (t := t) (r := r) (tr := tr) ⟨k, hk⟩ hr, hs, hn => by
    have hsz := size_of hs
    obtain ⟨h0, hx⟩ := hk
    cases n with
    | zero => omega
    | succ n =>
      have hst : Stops (r.flatMap (32 :: ·)) := by
        cases r with
        | nil => exact .inl rfl
        | cons w2 r2 => exact .inr ⟨_, by rw [List.flatMap_cons]; rfl⟩
      rw [hx s A _ n hs hst]
      have hgo : (lexGo s n (A.length + w.length)).map Fnd.text = tr ∧ (∀ f ∈ lexGo s n (A.length + w.length), f.err = 0) ∧ (lexGo s n (A.length + w.length)).length = r.length := by
        have hsz2 : s.size = A.length + (w.length + (r.flatMap (32 :: ·)).length) := by rw [hsz]; simp [spaced]
        cases hr with
        | nil =>
          have := lexGo_spaced s [] [] (A ++ w) n .nil (by rw [hs]; simp [spaced]) (by rw [List.length_append]; omega)
          rwa [List.length_append] at this
        | cons hk2 hr2 =>
          rename_i w2 t2 r2 tr2
          have hfl : 1 ≤ ((w2 :: r2).flatMap (32 :: ·)).length := by rw [List.flatMap_cons, List.length_append, List.length_cons]; omega
          cases n with
          | zero => omega
          | succ n =>
            have hb := cls_in (s := s) (A := A ++ w) (w := [32]) (B := w2 ++ r2.flatMap (32 :: ·)) (by rw [hs]; simp [spaced]) (k := 0) (by simp)
            rw [Nat.add_zero, List.length_append] at hb
            have hc : clsAt s (A.length + w.length) = 1 := by rw [hb]; decide +kernel
            rw [lexGo_succ, if_neg (by rw [hsz2]; simp), if_pos hc]
            have := lexGo_spaced s (w2 :: r2) (t2 :: tr2) (A ++ w ++ [32]) n (.cons hk2 hr2) (by rw [hs]; simp [spaced]) (by simp; omega)
            rw [List.length_append, List.length_append] at this
            exact this
      obtain ⟨g1, g2, g3⟩ := hgo
      refine ⟨by rw [List.map_cons, g1], fun f hf => ?_, by rw [List.length_cons, g3]; rfl⟩
      rcases List.mem_cons.1 hf with rfl | hf
      · rfl
      · exact g2 f hf
theorem takeF_all : ∀ (fs out : List Fnd), (∀ f ∈ fs, f.err = 0) → out.length + fs.length ≤ 5000 → takeF fs out = (out ++ fs, 0, 0)
  | [], out, _, _ => by simp [takeF]
  | f :: r, out, he, hl => by
    unfold takeF
    rw [if_neg (by rw [he f (List.mem_cons_self ..)]; decide), if_neg (by simp at hl; omega), takeF_all r (out ++ [f]) (fun g hg => he g (List.mem_cons_of_mem _ hg)) (by simp at hl ⊢; omega)]
    simp
/-- Words that are tokens, with spaces between them: the tokens' texts. -/
theorem lex_spaced {s : ByteArray} {ws : List (List UInt8)} {ts : List ByteArray} (hk : AllLex ws ts) (hs : s.data.toList = spaced ws) (h1 : s.size ≤ 20000) (h2 : ws.length ≤ 5000) :
    ∃ fs, lexL s = (fs, 0, 0) ∧ fs.map Fnd.text = ts := by
  obtain ⟨g1, g2, g3⟩ := lexGo_spaced s ws ts [] (s.size + 1) hk (by simpa using hs) (by simp)
  refine ⟨lexF s, ?_, g1⟩
  unfold lexL
  rw [if_neg (by omega), takeF_all (lexF s) [] (show ∀ f ∈ lexF s, f.err = 0 from g2) (by rw [show (lexF s).length = ws.length from g3]; simpa using h2)]
  rfl
theorem parse_cons (acc : Nat) (c : UInt8) (r : List UInt8) : Lib.parseUint10 acc (c :: r) = if 48 ≤ c.toNat ∧ c.toNat ≤ 57 then (if 1844674407370955162 ≤ acc then .range else if 18446744073709551616 ≤ acc * 10 + (c.toNat - 48) then .range else Lib.parseUint10 (acc * 10 + (c.toNat - 48)) r) else .syntax := rfl
theorem parse_app : ∀ (l r : List UInt8) (acc a : Nat), Lib.parseUint10 acc l = .ok a → Lib.parseUint10 acc (l ++ r) = Lib.parseUint10 a r
  | [], r, acc, a, h => by
    have : acc = a := by injection h
    rw [this]; rfl
  | c :: l, r, acc, a, h => by
    rw [List.cons_append, parse_cons]
    rw [parse_cons] at h
    split at h
    · rename_i h1
      rw [if_pos h1]
      split at h
      · cases h
      · rename_i h2
        rw [if_neg h2]
        split at h
        · cases h
        · rename_i h3
          rw [if_neg h3]
          exact parse_app l r _ a h
    · cases h
theorem parse_dec : ∀ u : Nat, u < 1000000000000000000 → Lib.parseUint10 0 (Lib.decDigits u) = .ok u := by
  intro u
  induction u using Nat.strongRecOn with
  | _ u ih =>
    intro hu
    rw [Lib.decDigits]
    split
    · rename_i h
      rw [parse_cons, UInt8.toNat_ofNat', if_pos (by omega), if_neg (by omega), if_neg (by omega)]
      show Lib.NumEnd.ok _ = _
      congr 1; omega
    · rename_i h
      rw [parse_app _ _ _ _ (ih (u / 10) (by omega) (by omega)), parse_cons, UInt8.toNat_ofNat', if_pos (by omega), if_neg (by omega), if_neg (by omega)]
      show Lib.NumEnd.ok _ = _
      congr 1; omega
theorem atoi_dec {u : Nat} (hu : u < 1000000000000000000) : Lib.atoiAll (Lib.decDigits u) = .ok (u : Int) := by
  have hp := parse_dec u hu
  have hne : Lib.decDigits u ≠ [] := by
    intro h
    have := Lib.nDigits_pos u
    rw [← Lib.decDigits_length, h] at this
    simp at this
  have hd := dig_in u
  cases hl : Lib.decDigits u with
  | nil => exact absurd hl hne
  | cons c r =>
    have hc := hd c (by rw [hl]; exact List.mem_cons_self ..)
    rw [hl] at hp
    unfold Lib.atoiAll
    simp only
    rw [if_neg (by omega)]
    unfold Lib.parseMag
    rw [if_neg (by simp), hp]
    simp only
    rw [if_neg (by omega), if_neg (by omega), if_neg (by omega)]
end Go.Proofs.YtppoeiofdmlpeaaGreatDoor
namespace Go.Proofs.YtppoeiofdmlpeaaGreatDoor
open Go Go.RowKit
def itoaB (n : Int) : ByteArray := ⟨(Lib.itoa n).toArray⟩
def quoteB (v : ByteArray) : ByteArray := ⟨(quoteL v.data.toList).toArray⟩
def joined (l : List ByteArray) (sep : ByteArray) : ByteArray := ⟨(Lib.join (l.map (·.data.toList)) sep.data.toList).toArray⟩
theorem joined_spaced (ws : List ByteArray) : (joined ws ⟨#[32]⟩).data.toList = spaced (ws.map fun b => b.data.toList) := by
  show (Lib.join (ws.map fun b => b.data.toList) [32]) = _
  cases ws with
  | nil => rfl
  | cons w r =>
    rw [List.map_cons, Lib.join_cons]
    show _ = w.data.toList ++ _
    congr 1
def atoiV (l : List UInt8) : Int := match Lib.atoiAll l with
  | .ok v => v
  | .syntax => 0
  | .range => Lib.atoiSat l
def numAt (ts : List ByteArray) (i : Nat) : Int := atoiV (ts.getD i ⟨#[]⟩).data.toList
theorem lexes_int {n : Int} (h0 : 0 ≤ n) (h1 : n < 10000000) : ∃ k, Lexes (itoaB n).data.toList k (itoaB n) := by
  obtain ⟨u, rfl⟩ : ∃ u : Nat, n = u := ⟨n.toNat, by omega⟩
  have e : itoaB (u : Int) = ⟨(Lib.decDigits u).toArray⟩ := by
    unfold itoaB Lib.itoa
    rw [if_neg (by omega)]; rfl
  rw [e]
  exact ⟨2, lexes_num (by omega)⟩
theorem lexes_nm {b : ByteArray} (h : nameB b = true) : ∃ k, Lexes b.data.toList k b := ⟨1, lexes_name h⟩
theorem lexes_qt (v : ByteArray) : ∃ k, Lexes (quoteB v).data.toList k v := ⟨3, lexes_quote v.data.toList⟩
theorem num_int {n : Int} (h0 : 0 ≤ n) (h1 : n < 10000000) : atoiV (itoaB n).data.toList = n := by
  obtain ⟨u, rfl⟩ : ∃ u : Nat, n = u := ⟨n.toNat, by omega⟩
  have e : (itoaB (u : Int)).data.toList = Lib.decDigits u := by
    unfold itoaB Lib.itoa
    rw [if_neg (by omega)]; rfl
  unfold atoiV
  rw [e, atoi_dec (by omega)]
theorem name_len {b : ByteArray} (h : nameB b = true) : b.data.toList.length ≤ 24 := (of_decide_eq_true h).2.1
theorem int_len {n : Int} (h0 : 0 ≤ n) (h1 : n < 10000000) : (itoaB n).data.toList.length ≤ 24 := by
  obtain ⟨u, rfl⟩ : ∃ u : Nat, n = u := ⟨n.toNat, by omega⟩
  have e : (itoaB (u : Int)).data.toList = Lib.decDigits u := by
    unfold itoaB Lib.itoa
    rw [if_neg (by omega)]; rfl
  rw [e]
  have := (dec_len (u := u) (by omega)).2
  omega
theorem quote_len (v : ByteArray) : (quoteB v).data.toList.length ≤ 2 * v.size + 2 := by
  show (quoteL v.data.toList).length ≤ _
  have h : ∀ l : List UInt8, (l.flatMap escL).length ≤ 2 * l.length := by
    intro l
    induction l with
    | nil => exact Nat.le_refl _
    | cons c l ih =>
      rw [List.flatMap_cons, List.length_append, List.length_cons]
      have : (escL c).length ≤ 2 := by
        unfold escL
        split
        · exact Nat.le_refl _
        · split
          · exact Nat.le_refl _
          · exact Nat.le_succ _
      omega
  have h2 := h v.data.toList
  have h3 : v.data.toList.length = v.size := rfl
  unfold quoteL
  rw [List.length_cons, List.length_append, List.length_singleton]
  omega
theorem spaced_len : ∀ (ws : List (List UInt8)) (b : Nat), (∀ w ∈ ws, w.length ≤ b) → (spaced ws).length ≤ ws.length * (b + 1)
  | [], _, _ => Nat.zero_le _
  | w :: r, b, h => by
    have hw := h w (List.mem_cons_self ..)
    have hr : ∀ r : List (List UInt8), (∀ w ∈ r, w.length ≤ b) → (r.flatMap (32 :: ·)).length ≤ r.length * (b + 1) := by
      intro r
      induction r with
      | nil => intro _; exact Nat.zero_le _
      | cons a r ih =>
        intro h
        rw [List.flatMap_cons, List.length_append, List.length_cons, List.length_cons, Nat.succ_mul]
        have := h a (List.mem_cons_self ..)
        have := ih fun w hw => h w (List.mem_cons_of_mem _ hw)
        omega
    show (w ++ r.flatMap (32 :: ·)).length ≤ _
    rw [List.length_append, List.length_cons, Nat.succ_mul]
    have := hr r fun w hw => h w (List.mem_cons_of_mem _ hw)
    omega
end Go.Proofs.YtppoeiofdmlpeaaGreatDoor
namespace Go.Proofs.YtppoeiofdmlpeaaGreatDoor
open Go Go.RowKit
/-- A condition: a tree of nodes. -/
inductive Ex where
  | mk (op : Int) (name value : ByteArray) (n extra : Int) (kids : List Ex)
namespace Ex
def op : Ex → Int | .mk o _ _ _ _ _ => o
def name : Ex → ByteArray | .mk _ a _ _ _ _ => a
def value : Ex → ByteArray | .mk _ _ v _ _ _ => v
def n : Ex → Int | .mk _ _ _ n _ _ => n
def extra : Ex → Int | .mk _ _ _ _ x _ => x
def kids : Ex → List Ex | .mk _ _ _ _ _ ks => ks
end Ex
mutual
/-- How many nodes a condition has. -/
def cnt : Ex → Nat
  | .mk _ _ _ _ _ ks => cnts ks + 1
def cnts : List Ex → Nat
  | [] => 0
  | k :: ks => cnt k + cnts ks
end
theorem cnt_eq (e : Ex) : cnt e = cnts e.kids + 1 := by cases e; rw [cnt]; rfl
theorem cnt_pos (e : Ex) : 0 < cnt e := by rw [cnt_eq]; omega
theorem cnts_cons (k : Ex) (ks : List Ex) : cnts (k :: ks) = cnt k + cnts ks := by rw [cnts]
theorem cnts_nil : cnts [] = 0 := by rw [cnts]
theorem cnts_app : ∀ a b : List Ex, cnts (a ++ b) = cnts a + cnts b
  | [], b => by rw [cnts_nil, List.nil_append]; omega
  | k :: a, b => by rw [List.cons_append, cnts_cons, cnts_cons, cnts_app a b]; omega
theorem cnt_mem : ∀ {k : Ex} {ks : List Ex}, k ∈ ks → cnt k ≤ cnts ks
  | k, [], h => by cases h
  | k, x :: ks, h => by
    rw [cnts_cons]
    rcases List.mem_cons.1 h with rfl | h
    · omega
    · have := cnt_mem h; omega
theorem cnt_kid {e k : Ex} (h : k ∈ e.kids) : cnt k < cnt e := by
  have := cnt_mem h
  rw [cnt_eq e]; omega
theorem len_cnts : ∀ ks : List Ex, ks.length ≤ cnts ks
  | [] => Nat.zero_le _
  | k :: ks => by
    have := len_cnts ks
    have := cnt_pos k
    rw [cnts_cons, List.length_cons]; omega
/-- Induction on the kids of a condition. -/
theorem Ex.ind {C : Ex → Prop} (h : ∀ e, (∀ k ∈ e.kids, C k) → C e) : ∀ e, C e := by
  have H : ∀ m e, cnt e ≤ m → C e := by
    intro m
    induction m with
    | zero => intro e he; have := cnt_pos e; omega
    | succ m ih => intro e he; exact h e fun k hk => ih k (by have := cnt_kid hk; omega)
  exact fun e => H _ e (Nat.le_refl _)
/-- The six cells of a node; the last one is the slice of its kids. -/
def exF (e : Ex) (kv : Value) (j : Nat) : Value :=
  if j = 0 then .int .i64 e.op else if j = 1 then .string e.name else if j = 2 then .string e.value else if j = 3 then .int .i64 e.n else if j = 4 then .int .i64 e.extra else kv
def exA (e : Ex) (kv : Value) : Array Value := #[.int .i64 e.op, .string e.name, .string e.value, .int .i64 e.n, .int .i64 e.extra, kv]
/-- A slice that reads as a list of conditions, in blocks of some kind. -/
inductive LayS (S : Nat → Prop) (w : World) : Value → List Ex → Prop
  | mk (A : Option Addr) (c : Nat) (ks : List Ex) (kvs : Nat → Value) (hc : ks.length ≤ c)
      (h : ks.length = 0 ∨ ∃ b o, A = some ⟨b, o, none⟩ ∧ S b ∧ ∀ i (hi : i < ks.length) j, j < 6 → w.cell? ⟨b, o + (i * 6 + j), none⟩ = some (exF (ks[i]) (kvs i) j))
      (hk : ∀ i (hi : i < ks.length), LayS S w (kvs i) (ks[i]).kids) : LayS S w (.slice A ks.length c) ks
abbrev Lay : World → Value → List Ex → Prop := LayS (fun _ => True)
/-- What keeps every reading of rows of more than two cells. -/
def KeepsC (w w' : World) : Prop := ∀ b, (∃ o v, 2 ≤ o ∧ w.cell? ⟨b, o, none⟩ = some v) → ∀ j, w'.cell? ⟨b, j, none⟩ = w.cell? ⟨b, j, none⟩
theorem KeepsC.refl (w : World) : KeepsC w w := fun _ _ _ => rfl
theorem KeepsC.trans {a b c : World} (h : KeepsC a b) (h' : KeepsC b c) : KeepsC a c := fun x ⟨o, v, ho, hv⟩ j =>
  (h' x ⟨o, v, ho, (h x ⟨o, v, ho, hv⟩ o).trans hv⟩ j).trans (h x ⟨o, v, ho, hv⟩ j)
theorem cell_size {w : World} {b o : Nat} {v : Value} (h : w.cell? ⟨b, o, none⟩ = some v) : b < w.heap.size := by
  by_cases hb : b < w.heap.size
  · exact hb
  · unfold World.cell? at h
    rw [Array.getElem?_eq_none (show w.heap.size ≤ (⟨b, o, none⟩ : Addr).block by show w.heap.size ≤ b; omega)] at h
    cases h
theorem KeepsC.below {w w' : World} (h : Below w.heap.size w w') : KeepsC w w' := fun b ⟨_, _, _, hv⟩ j => h.cell (p := ⟨b, j, none⟩) (cell_size hv)
theorem KeepsC.drew {w w' : World} (h : KeepsC w w') : KeepsC w w'.drew := h
theorem LayS.keeps {S : Nat → Prop} {w w' : World} (hk : KeepsC w w') : ∀ {v : Value} {ks : List Ex}, LayS S w v ks → LayS S w' v ks := by
  intro v ks h
  induction h with
  | mk A c ks kvs hc h _ ih =>
    refine .mk A c ks kvs hc ?_ ih
    rcases h with h | ⟨b, o, e, hS, hh⟩
    · exact .inl h
    · rcases Nat.eq_zero_or_pos ks.length with h0 | h0
      · exact .inl h0
      · exact .inr ⟨b, o, e, hS, fun i hi j hj => (hk b ⟨_, _, by omega, hh 0 h0 5 (by omega)⟩ _).trans (hh i hi j hj)⟩
theorem LayS.later {S : Nat → Prop} {w w' : World} {v : Value} {ks : List Ex} (h : LayS S w v ks) (hb : Below w.heap.size w w') : LayS S w' v ks := h.keeps (.below hb)
/-- Where the blocks stay, and another word for which they are. -/
theorem LayS.on {S T : Nat → Prop} {w w' : World} (hk : ∀ b, S b → b < w.heap.size → w'.heap[b]? = w.heap[b]?) (hT : ∀ b, S b → b < w.heap.size → T b) : ∀ {v : Value} {ks : List Ex}, LayS S w v ks → LayS T w' v ks := by
  intro v ks h
  induction h with
  | mk A c ks kvs hc h _ ih =>
    refine .mk A c ks kvs hc ?_ ih
    rcases h with h | ⟨b, o, e, hS, hh⟩
    · exact .inl h
    · rcases Nat.eq_zero_or_pos ks.length with h0 | h0
      · exact .inl h0
      · have hb := cell_size (hh 0 h0 5 (by omega))
        refine .inr ⟨b, o, e, hT b hS hb, fun i hi j hj => ?_⟩
        have := hh i hi j hj
        unfold World.cell? at this ⊢
        show (match w'.heap[b]? with | _ => _) = _
        rw [hk b hS hb]
        exact this
theorem LayS.mono {S T : Nat → Prop} {w : World} {v : Value} {ks : List Ex} (h : LayS S w v ks) (hT : ∀ b, S b → b < w.heap.size → T b) : LayS T w v ks := h.on (fun _ _ _ => rfl) hT
theorem LayS.any {S : Nat → Prop} {w : World} {v : Value} {ks : List Ex} (h : LayS S w v ks) : Lay w v ks := h.mono fun _ _ _ => trivial
theorem LayS.slice {S : Nat → Prop} {w : World} {v : Value} {ks : List Ex} (h : LayS S w v ks) : ∃ A c, v = .slice A ks.length c ∧ ks.length ≤ c := by
  cases h with | mk A c _ _ hc _ _ => exact ⟨A, c, rfl, hc⟩
theorem LayS.nil (S : Nat → Prop) (w : World) : LayS S w (.slice none 0 0) [] := .mk none 0 [] (fun _ => undef) (Nat.le_refl _) (.inl rfl) (fun i hi => absurd hi (Nat.not_lt_zero i))
/-- A kid's cells, and its own kids. -/
theorem LayS.kid {S : Nat → Prop} {w : World} {A : Option Addr} {n c : Nat} {ks : List Ex} (h : LayS S w (.slice A n c) ks) : n = ks.length ∧ n ≤ c ∧ ∀ i (hi : i < ks.length), ∃ b o kv, A = some ⟨b, o, none⟩ ∧ (∀ j, j < 6 → w.cell? ⟨b, o + (i * 6 + j), none⟩ = some (exF ks[i] kv j)) ∧ LayS S w kv (ks[i]).kids := by
  cases h with | mk _ _ _ kvs hc h hk =>
  refine ⟨rfl, hc, fun i hi => ?_⟩
  rcases h with h | ⟨b, o, e, _, hh⟩
  · omega
  · exact ⟨b, o, kvs i, e, hh i hi, hk i hi⟩
/-- Reserved words. -/
def resL : List ByteArray := [⟨#[116, 114, 117, 101]⟩, ⟨#[110, 111, 116]⟩, ⟨#[97, 110, 100]⟩, ⟨#[111, 114]⟩, ⟨#[108, 105, 109, 105, 116]⟩, ⟨#[111, 118, 101, 114]⟩, ⟨#[104, 97, 115]⟩, ⟨#[115, 108, 111, 116]⟩, ⟨#[97, 108, 108]⟩, ⟨#[97, 110, 121]⟩, ⟨#[97, 116]⟩]
def resB (s : ByteArray) : Bool := resL.any fun x => decide (s = x)
/-- A node is valid, apart from its kids. -/
def NodeOk (op : Int) (name value : ByteArray) (n extra : Int) (len : Nat) : Prop :=
  (1 ≤ op ∧ op ≤ 12) ∧ (if op = 2 ∨ op = 10 ∨ op = 11 then len = 1 else if op = 3 ∨ op = 4 then 2 ≤ len else len = 0) ∧
  (if op ≤ 4 then name.size = 0 else nameB name = true) ∧ (op = 7 → resB name = false) ∧
  (if op = 7 then 1 ≤ value.size ∧ value.size ≤ 200 else if op = 9 then nameB value = true else value.size = 0) ∧
  (if op = 5 ∨ op = 6 then 0 ≤ n ∧ n ≤ 9999999 else if op = 12 then 1 ≤ n ∧ n ≤ 9999999 else n = 0) ∧
  (if op = 5 then 0 ≤ extra ∧ extra ≤ 9999999 else extra = 0)
instance (op : Int) (name value : ByteArray) (n extra : Int) (len : Nat) : Decidable (NodeOk op name value n extra len) := by
  unfold NodeOk; infer_instance
def nodeB (e : Ex) : Bool := decide (NodeOk e.op e.name e.value e.n e.extra e.kids.length)
mutual
/-- All nodes are valid. -/
def allB : Ex → Bool
  | .mk o a v n x ks => nodeB (.mk o a v n x ks) && allsB ks
def allsB : List Ex → Bool
  | [] => true
  | k :: ks => allB k && allsB ks
end
theorem allB_eq (e : Ex) : allB e = (nodeB e && allsB e.kids) := by cases e; rw [allB]; rfl
theorem allsB_cons (k : Ex) (ks : List Ex) : allsB (k :: ks) = (allB k && allsB ks) := by rw [allsB]
theorem allsB_nil : allsB [] = true := by rw [allsB]
theorem allsB_all : ∀ ks : List Ex, allsB ks = ks.all allB
  | [] => by rw [allsB_nil]; rfl
  | k :: ks => by rw [allsB_cons, allsB_all ks]; rfl
def condB (e : Ex) : Bool := decide (cnt e ≤ 60) && allB e
/-- A rule. -/
structure Ru where
  name : ByteArray
  kind : ByteArray
  cond : Ex
def ruleB (r : Ru) : Bool := nameB r.name && (nameB r.kind && condB r.cond)
def ruF (r : Ru) (kv : Value) (j : Nat) : Value := if j = 0 then .string r.name else if j = 1 then .string r.kind else exF r.cond kv (j - 2)
def ruA (r : Ru) (kv : Value) : Array Value := #[.string r.name, .string r.kind, .int .i64 r.cond.op, .string r.cond.name, .string r.cond.value, .int .i64 r.cond.n, .int .i64 r.cond.extra, kv]
end Go.Proofs.YtppoeiofdmlpeaaGreatDoor
namespace Go.Proofs.YtppoeiofdmlpeaaGreatDoor
open Go Go.RowKit
def eS : ByteArray := ⟨#[]⟩
theorem bytes_beq (a b : ByteArray) : (a.toList == b.toList) = decide (a = b) := by
  rw [Bool.eq_iff_iff, beq_iff_eq, decide_eq_true_iff, _root_.Go.ByteArray.toList_eq, _root_.Go.ByteArray.toList_eq]
  constructor
  · intro h
    cases a; cases b
    simpa using h
  · rintro rfl; rfl
def ixL (l : List ByteArray) (x : ByteArray) : Int := match l.findIdx? (fun y => decide (y = x)) with | some i => i | none => -1
theorem ixL_hit {l : List ByteArray} {x : ByteArray} {k : Nat} (hk : k < l.length) (h : ∀ j, j < k → l.getD j eS ≠ x) (he : l.getD k eS = x) : ixL l x = k := by
  have : l.findIdx? (fun y => decide (y = x)) = some k := by
    rw [List.findIdx?_eq_some_iff_getElem]
    refine ⟨hk, ?_, fun j hj => ?_⟩
    · rw [List.getD_eq_getElem?_getD, List.getElem?_eq_getElem hk] at he
      simpa using he
    · have := h j hj
      rw [List.getD_eq_getElem?_getD, List.getElem?_eq_getElem (by omega)] at this
      simpa using this
  unfold ixL; rw [this]
theorem ixL_miss {l : List ByteArray} {x : ByteArray} (h : ∀ j, j < l.length → l.getD j eS ≠ x) : ixL l x = -1 := by
  have : l.findIdx? (fun y => decide (y = x)) = none := by
    rw [List.findIdx?_eq_none_iff]
    intro y hy
    obtain ⟨j, hj, rfl⟩ := List.getElem_of_mem hy
    have := h j hj
    rw [List.getD_eq_getElem?_getD, List.getElem?_eq_getElem hj] at this
    simpa using this
  unfold ixL; rw [this]
theorem ixL_find {α : Type} (key : α → ByteArray) (l : List α) (x : ByteArray) (d : α) :
    (ixL (l.map key) x = -1 ∧ l.find? (fun a => decide (key a = x)) = none) ∨
    ∃ k : Nat, ixL (l.map key) x = k ∧ k < l.length ∧ l.find? (fun a => decide (key a = x)) = some (l.getD k d) := by
  unfold ixL
  rw [List.findIdx?_map]
  cases h : l.findIdx? ((fun y => decide (y = x)) ∘ key) with
  | none =>
    left
    rw [List.findIdx?_eq_none_iff] at h
    exact ⟨rfl, List.find?_eq_none.2 fun a ha => by have := h a ha; simpa using this⟩
  | some k =>
    right
    rw [List.findIdx?_eq_some_iff_getElem] at h
    obtain ⟨hk, h1, h2⟩ := h
    refine ⟨k, rfl, hk, ?_⟩
    rw [List.find?_eq_some_iff_getElem]
    refine ⟨?_, k, hk, ?_, fun j hj => ?_⟩
    · rw [List.getD_eq_getElem?_getD, List.getElem?_eq_getElem hk]; simpa using h1
    · rw [List.getD_eq_getElem?_getD, List.getElem?_eq_getElem hk]; rfl
    · have := h2 j hj; simpa using this

set_option maxRecDepth 100000 in
set_option maxHeartbeats 1000000 in
theorem strIdx_any (v : Value) (l : List ByteArray) (x : ByteArray) (w : World) (hv : Sl w v l.length 1 (strF l)) (hl : l.length ≤ 100000) :
    Calls Tryz.prog 92 #[v, .string x] w fun e w' => e = .returned (.int .i64 (ixL l x)) ∧ w' = w := by
  obtain ⟨A, c, rfl, hn, hc⟩ := hv
  have HC := Lib.hid hc
  clear hc
  go_enter Tryz.func92, Tryz.ntmps92
  go_wp2_with fail
  go_loop [8] (fun i => ∃ k : Nat, k ≤ l.length ∧ i = .int .i64 k ∧ Hid (∀ j, j < k → l.getD j eS ≠ x)) (fun i => l.length - (intOf i).toNat)
  case atStart => exact ⟨0, Nat.zero_le _, rfl, fun j hj => absurd hj (Nat.not_lt_zero _)⟩
  case round =>
    obtain ⟨k, hk, rfl, hrel⟩ := hrel
    by_cases hlt : k < l.length
    · rcases HC.out with h0 | ⟨b, o, rfl, hc⟩
      · omega
      have hcell : w.cell? ⟨b, o + k, none⟩ = some (.string (l.getD k eS)) := hc k (by omega)
      have hit := Lib.hid (fun he => ixL_hit (l := l) (x := x) hlt hrel.out he)
      have hno : Hid (l.getD k eS ≠ x → ∀ j, j < k + 1 → l.getD j eS ≠ x) := fun h j hj => by
        rcases Nat.lt_or_ge j k with h1 | h1
        · exact hrel.out j h1
        · obtain rfl : j = k := by omega
          exact h
      clear hc
      generalize l.getD k eS = s at *
      have hbe := bytes_beq x s
      cases hN : (x.toList == s.toList)
      · have HE := Lib.hid (show s ≠ x by rw [hN] at hbe; exact fun e => of_decide_eq_false hbe.symm e.symm)
        clear hbe
        go_wp2_with fail
        go_round
        case rel => exact ⟨k + 1, by omega, by go_num, hno.out HE.out⟩
        case measure => simp [intOf]; omega
      · have HE := Lib.hid (show s = x by rw [hN] at hbe; exact (of_decide_eq_true hbe.symm).symm)
        clear hbe
        go_wp2_with fail
        go_ret
        exact ⟨ret_int (hit.out HE.out).symm, rfl⟩
    · obtain rfl : k = l.length := by omega
      have hmiss := Lib.hid (ixL_miss (l := l) (x := x) (fun j hj => hrel.out j hj))
      go_wp2_with fail
      go_ret
      exact ⟨ret_int hmiss.out.symm, rfl⟩
def hasB (l : List ByteArray) (x : ByteArray) : Bool := l.any fun y => decide (y = x)
theorem ixL_has (l : List ByteArray) (x : ByteArray) : decide (0 ≤ ixL l x) = hasB l x := by
  rcases ixL_find id l x eS with ⟨h1, h2⟩ | ⟨k, h1, h2, h3⟩
  · rw [List.map_id] at h1
    rw [h1]
    have : hasB l x = false := by
      rw [Bool.eq_false_iff]
      intro h
      unfold hasB at h
      rw [List.any_eq_true] at h
      obtain ⟨y, hy, he⟩ := h
      exact absurd he (List.find?_eq_none.1 h2 y hy)
    rw [this]; rfl
  · rw [List.map_id] at h1
    rw [h1]
    have : hasB l x = true := by
      unfold hasB
      rw [List.any_eq_true]
      exact ⟨l.getD k eS, List.mem_of_find?_eq_some h3, by have := List.find?_some h3; simpa using this⟩
    rw [this, decide_eq_true_iff]; omega
theorem hasStr_any (v : Value) (l : List ByteArray) (x : ByteArray) (w : World) (hv : Sl w v l.length 1 (strF l)) (hl : l.length ≤ 100000) :
    Calls Tryz.prog 82 #[v, .string x] w fun e w' => e = .returned (.bool (hasB l x)) ∧ w' = w := by
  have HV := Lib.hid hv
  have hh := Lib.hid (ixL_has l x)
  clear hv
  go_enter Tryz.func82, Tryz.ntmps82
  go_wp2_with (go_at_call 92; refine (strIdx_any _ l x _ HV.out hl).mono ?_; rintro e w1 ⟨rfl, rfl⟩)
  go_ret
  exact ⟨ret_bool (by rw [← hh.out]), rfl⟩

theorem hasB_res (s : ByteArray) : hasB resL s = resB s := by
  unfold hasB resB
  congr 1
  funext y
  exact decide_eq_decide.2 ⟨fun h => h.symm, fun h => h.symm⟩
def resV : List Value := resL.map .string
set_option maxRecDepth 100000 in
set_option maxHeartbeats 4000000 in
theorem reserved_any (s : ByteArray) (w : World) : Calls Tryz.prog 56 #[.string s] w fun e w' => e = .returned (.bool (resB s)) ∧ Below w.heap.size w w' := by
  have HB := Lib.hid ((Below.refl w.heap.size w).alloc (Nat.le_refl _) (.cells resV.toArray 9))
  have HSl := Lib.hid (show Sl (w.alloc (.cells resV.toArray 9)) (.slice (some ⟨w.heap.size, 0, none⟩) 11 11) resL.length 1 (strF resL) from Sl.has (Has.new w _ _) (Nat.le_refl _) fun j hj => by
    have hj' : j < 11 := hj
    rcases j with _ | _ | _ | _ | _ | _ | _ | _ | _ | _ | _ | j
    all_goals first | rfl | omega)
  have HH := Lib.hid (hasStr_any _ resL s _ HSl.out (by decide))
  rw [hasB_res] at HH
  generalize resB s = rs at *
  go_enter Tryz.func56, Tryz.ntmps56
  go_wp2_with (go_at_call 82; refine HH.out.mono ?_; rintro e w1 ⟨rfl, rfl⟩)
  go_ret
  exact ⟨rfl, HB.out⟩
end Go.Proofs.YtppoeiofdmlpeaaGreatDoor
