/- Small words on memory that the walks of this seat use: a block known whole, and what stays of it. No condition. Contracts of library functions at this translation, as the shelf lays them: strings_IndexByte, strconv_Itoa, bits_Mul64. lexer.classes and lexer.Name: what they return. No condition. lexer.Name: whether a string is a name. No condition but that the string's length is a length. Catalogs, parts and states as plain data; how slices of them read. No condition. -/
import Derived.BigQuiet
import Derived.Deep.MidRow
import Derived.Deep.QuietTactic
import Derived.Laws.CopyOwn
import Derived.Lib.Hide
import Derived.Shelf.Bits.Mul64
import Derived.Shelf.LaysM
import Derived.Shelf.Slices.In.SortNone
import Derived.Shelf.Small.Bits
import Derived.Shelf.Small.Strs
import Derived.Shelf.Small.Utf8
import Derived.Shelf.Sort.Plain
import Derived.Shelf.Strconv.Itoa0
import Derived.Shelf.Strconv.Itoa1
import Derived.Shelf.Strconv.Itoa2
import Derived.Shelf.Strconv.Itoa3
import Derived.Shelf.Strings.AsciiSet
import Derived.Shelf.Strings.Builder1
import Derived.Shelf.Strings.BuilderCap
import Derived.Shelf.Strings.BuilderF
import Derived.Shelf.Strings.BuilderK
import Derived.Shelf.Strings.Runes
import Derived.Shelf.Strings.Search1
import Derived.Shelf.Strings.Trim
import Derived.Shelf.Unicode.DecodeSlow
import Derived.WalkKit
import Derived.WalkLawsBesides
import Derived.WalkSpells
import Derived.Test.YtccnocgmikmonaaGreatDoorProg
namespace Go.Proofs.YtccnocgmikmonaaGreatDoor
open Go Go.RowKit

/-- Block g is just the cells cs, of element type t, none of them frozen. -/
def Has (w : World) (g : Nat) (t : TypeId) (cs : Array Value) : Prop := w.heap[g]? = some (.cells cs t (0, 0))

section
variable {w w' : World} {g : Nat} {t : TypeId} {cs : Array Value}
theorem Has.lt (h : Has w g t cs) : g < w.heap.size := by
  unfold Has at h
  by_cases hl : g < w.heap.size
  · exact hl
  · rw [Array.getElem?_eq_none (by omega)] at h; cases h
theorem Has.cell (h : Has w g t cs) (i : Nat) : w.cell? ⟨g, i, none⟩ = cs[i]? := cell_of_row w g i cs t (0, 0) h
theorem Has.free (h : Has w g t cs) (i : Nat) : w.frozen? ⟨g, i, none⟩ = false := frozen_of_row w g i cs t h
theorem Has.new (w : World) (t : TypeId) (cs : Array Value) : Has (w.alloc (.cells cs t)) w.heap.size t cs := heap_alloc_new w _
theorem Has.alloc (h : Has w g t cs) (o : Obj) : Has (w.alloc o) g t cs := (Below.heap_alloc w o g h.lt).trans h
theorem Has.put (h : Has w g t cs) (i : Nat) (u : Value) : Has (w.setCell ⟨g, i, none⟩ u) g t (cs.setIfInBounds i u) := heap_setCell_same w g i cs t u h
theorem Has.far (h : Has w g t cs) (p : Addr) (hp : g ≠ p.block) (u : Value) : Has (w.setCell p u) g t cs := (heap_setCell_other w p g u hp).trans h
theorem Has.drew (h : Has w g t cs) : Has w.drew g t cs := h
theorem Has.drewN (h : Has w g t cs) (n : Nat) : Has (w.drewN n) g t cs := h
theorem Has.below {B : Nat} (h : Has w g t cs) (hb : Below B w w') (hg : g < B) : Has w' g t cs := (hb.block g hg).trans h
theorem Has.grown {row : Option Nat} (h : Has w g t cs) (hb : w.grownBy w' row) (hg : some g ≠ row) : Has w' g t cs := (hb.block g h.lt hg).trans h
end

theorem below_drewN {B : Nat} {a w : World} (h : Below B a w) (n : Nat) : Below B a (w.drewN n) := ⟨h.os, h.tape, h.output, h.size, h.block⟩

/-- Old cells and marks, as the walk asks for them. -/
theorem bcell {W w1 : World} (hb : Below W.heap.size W w1) :
    (∀ b o, b < W.heap.size → w1.cell? ⟨b, o, none⟩ = W.cell? ⟨b, o, none⟩) ∧ (∀ b o, b < W.heap.size → w1.frozen? ⟨b, o, none⟩ = W.frozen? ⟨b, o, none⟩) :=
  ⟨fun b o h => hb.cell (p := ⟨b, o, none⟩) h, fun b o h => hb.frozen (p := ⟨b, o, none⟩) h⟩

/-- A row of n cells by a function. -/
def row (n : Nat) (f : Nat → Value) : Array Value := ((List.range n).map f).toArray
theorem row_size (n : Nat) (f : Nat → Value) : (row n f).size = n := by simp [row]
theorem row_get (n : Nat) (f : Nat → Value) (i : Nat) (h : i < n) : (row n f)[i]? = some (f i) := by simp [row, h]
theorem row_congr {n : Nat} {f g : Nat → Value} (h : ∀ i, i < n → f i = g i) : row n f = row n g := by
  unfold row
  exact congrArg List.toArray (List.map_congr_left fun i hi => h i (by simpa using hi))
theorem row_one {n : Nat} {f : Nat → Value} (h : ∀ i, (f i).oneCell' = true) : ((row n f).all fun x => x.oneCell') = true := by
  simp [row, h]
theorem row_put (n : Nat) (f : Nat → Value) (i : Nat) (v : Value) : (row n f).setIfInBounds i v = row n (fun j => if j = i then v else f j) := by
  apply Array.ext_getElem?
  intro j
  rw [Array.getElem?_setIfInBounds, row_size]
  by_cases hj : j < n
  · rw [row_get _ _ _ hj, row_get _ _ _ hj]
    by_cases e : i = j
    · subst e; simp [hj]
    · rw [if_neg e, if_neg (Ne.symm e)]
  · rw [Array.getElem?_eq_none (by rw [row_size]; omega), Array.getElem?_eq_none (by rw [row_size]; omega)]
    split
    · rw [if_neg (by omega)]
    · rfl
theorem Has.rput {w : World} {g t n : Nat} {f : Nat → Value} (h : Has w g t (row n f)) (i : Nat) (v : Value) :
    Has (w.setCell ⟨g, i, none⟩ v) g t (row n (fun j => if j = i then v else f j)) := by
  rw [← row_put]; exact h.put i v
theorem Has.rcell {w : World} {g t n : Nat} {f : Nat → Value} (h : Has w g t (row n f)) (i : Nat) (hi : i < n) : w.cell? ⟨g, i, none⟩ = some (f i) :=
  (h.cell i).trans (row_get n f i hi)

theorem isEmpty_size (s : ByteArray) : s.toList.isEmpty = decide (s.size = 0) := by
  rw [Bool.eq_iff_iff, List.isEmpty_iff_length_eq_zero, decide_eq_true_iff, _root_.Go.ByteArray.toList_eq]
  exact Iff.of_eq (congrArg (· = 0) (by cases s; rfl))
theorem ret_int {k : IntKind} {a b : Int} (h : a = b) : Ending.returned (.int k a) = .returned (.int k b) := by rw [h]
theorem ret_bool {a b : Bool} (h : a = b) : Ending.returned (.bool a) = .returned (.bool b) := by rw [h]

/-- A slice of n elements, sz cells each; cell j of all is f j. -/
def Sl (w : World) (v : Value) (n sz : Nat) (f : Nat → Value) : Prop :=
  ∃ A c, v = .slice A n c ∧ n ≤ c ∧ (n = 0 ∨ ∃ b o, A = some ⟨b, o, none⟩ ∧ ∀ j, j < n * sz → w.cell? ⟨b, o + j, none⟩ = some (f j))
theorem Sl.below {w w' : World} {v : Value} {n sz : Nat} {f : Nat → Value} (h : Sl w v n sz f) (hb : Below w.heap.size w w') : Sl w' v n sz f := by
  obtain ⟨A, c, hv, hn, h0 | ⟨b, o, hA, hc⟩⟩ := h
  · exact ⟨A, c, hv, hn, .inl h0⟩
  · exact ⟨A, c, hv, hn, .inr ⟨b, o, hA, fun j hj => cell_later hb (hc j hj)⟩⟩
theorem Sl.congr {w : World} {v : Value} {n sz : Nat} {f g : Nat → Value} (h : Sl w v n sz f) (hfg : ∀ j, j < n * sz → f j = g j) : Sl w v n sz g := by
  obtain ⟨A, c, hv, hn, h0 | ⟨b, o, hA, hc⟩⟩ := h
  · exact ⟨A, c, hv, hn, .inl h0⟩
  · exact ⟨A, c, hv, hn, .inr ⟨b, o, hA, fun j hj => by rw [hc j hj, hfg j hj]⟩⟩
/-- A slice over a new block. -/
theorem Sl.has {w : World} {g t : Nat} {cs : Array Value} (h : Has w g t cs) {n sz c : Nat} (hn : n ≤ c) {f : Nat → Value} (hf : ∀ j, j < n * sz → cs[j]? = some (f j)) : Sl w (.slice (some ⟨g, 0, none⟩) n c) n sz f :=
  ⟨_, c, rfl, hn, .inr ⟨g, 0, rfl, fun j hj => by rw [Nat.zero_add, h.cell j, hf j hj]⟩⟩
/-- Cells of a list of strings. -/
def strF (l : List ByteArray) (j : Nat) : Value := .string (l.getD j ByteArray.empty)

end Go.Proofs.YtccnocgmikmonaaGreatDoor
namespace Go.Proofs
open Go.Shelf
def Tryz.lays137_ren : Go.Shelf.Ren := ⟨fun | 137 => 147 | 217 => 160 | 266 => 165 | n => n, fun | 9 => 9 | 5 => 5 | 3 => 3 | n => n, fun | n => n⟩
theorem Tryz.lays137 : Go.Proofs.Lays.n137 Tryz.prog Tryz.lays137_ren := {
  mixed := by kernel_rfl
  f137 := Tryz.func147.trans (congrArg some (by kernel_rfl))
  f217 := Tryz.func160.trans (congrArg some (by kernel_rfl))
  f266 := Tryz.func165.trans (congrArg some (by kernel_rfl))
  t3 := Tryz.underlying3
  a3 := Tryz.isAgg3
  z3 := Tryz.sizeOf3
  v3 := Tryz.zeroValue3
  t5 := Tryz.underlying5
  a5 := Tryz.isAgg5
  z5 := Tryz.sizeOf5
  v5 := Tryz.zeroValue5
  t9 := Tryz.underlying9
  a9 := Tryz.isAgg9
  z9 := Tryz.sizeOf9
  v9 := Tryz.zeroValue9 }
open Go.RowKit in
theorem Tryz.strings_IndexByte (s : ByteArray) (c : Int) (w : World) :
    Calls Tryz.prog 147 #[.string s, .int .u8 c] w fun e w' => e = .returned (.int .i64 (Lib.indexByte s.data.toList c.toNat.toUInt8)) ∧ w' = w := Any.strings_IndexByte Tryz.lays137 s c w
def Tryz.laysM171_ren : Go.Shelf.Ren := ⟨fun | 171 => 40 | 243 => 70 | 246 => 116 | 283 => 139 | 284 => 140 | 285 => 141 | 286 => 142 | 129 => 115 | 317 => 153 | 318 => 154 | 319 => 155 | 320 => 156 | 337 => 163 | 338 => 164 | n => n, fun | 3 => 3 | 9 => 9 | 2 => 2 | 4 => 4 | 171 => 197 | 0 => 0 | 53 => 86 | 37 => 85 | 5 => 5 | 173 => 199 | 212 => 212 | 51 => 172 | 20 => 20 | 213 => 213 | 46 => 88 | 232 => 221 | 233 => 222 | n => n, fun | 17 => 0 | 18 => 4 | 19 => 5 | n => n⟩
theorem Tryz.laysM171 : Go.Proofs.LaysM.n171 Tryz.prog Tryz.laysM171_ren := {
  mixed := by kernel_rfl
  f129 := Tryz.func115.trans (congrArg some (by kernel_rfl))
  f171 := Tryz.func40.trans (congrArg some (by kernel_rfl))
  f243 := Tryz.func70.trans (congrArg some (by kernel_rfl))
  f246 := Tryz.func116.trans (congrArg some (by kernel_rfl))
  f283 := Tryz.func139.trans (congrArg some (by kernel_rfl))
  f284 := Tryz.func140.trans (congrArg some (by kernel_rfl))
  f285 := Tryz.func141.trans (congrArg some (by kernel_rfl))
  f286 := Tryz.func142.trans (congrArg some (by kernel_rfl))
  f317 := Tryz.func153.trans (congrArg some (by kernel_rfl))
  f318 := Tryz.func154.trans (congrArg some (by kernel_rfl))
  f319 := Tryz.func155.trans (congrArg some (by kernel_rfl))
  f320 := Tryz.func156.trans (congrArg some (by kernel_rfl))
  f337 := Tryz.func163.trans (congrArg some (by kernel_rfl))
  f338 := Tryz.func164.trans (congrArg some (by kernel_rfl))
  t0 := Tryz.underlying0
  a0 := Tryz.isAgg0
  z0 := Tryz.sizeOf0
  v0 := Tryz.zeroValue0
  t2 := Tryz.underlying2
  a2 := Tryz.isAgg2
  z2 := Tryz.sizeOf2
  v2 := Tryz.zeroValue2
  t3 := Tryz.underlying3
  a3 := Tryz.isAgg3
  z3 := Tryz.sizeOf3
  v3 := Tryz.zeroValue3
  t4 := Tryz.underlying4
  a4 := Tryz.isAgg4
  z4 := Tryz.sizeOf4
  v4 := Tryz.zeroValue4
  t5 := Tryz.underlying5
  a5 := Tryz.isAgg5
  z5 := Tryz.sizeOf5
  v5 := Tryz.zeroValue5
  t9 := Tryz.underlying9
  a9 := Tryz.isAgg9
  z9 := Tryz.sizeOf9
  v9 := Tryz.zeroValue9
  t20 := Tryz.underlying20
  a20 := Tryz.isAgg20
  z20 := Tryz.sizeOf20
  v20 := Tryz.zeroValue20
  t37 := Tryz.underlying85
  a37 := Tryz.isAgg85
  z37 := Tryz.sizeOf85
  v37 := Tryz.zeroValue85
  t46 := Tryz.underlying88
  a46 := Tryz.isAgg88
  z46 := Tryz.sizeOf88
  v46 := Tryz.zeroValue88
  t51 := Tryz.underlying172
  a51 := Tryz.isAgg172
  z51 := Tryz.sizeOf172
  v51 := Tryz.zeroValue172
  t53 := Tryz.underlying86
  a53 := Tryz.isAgg86
  z53 := Tryz.sizeOf86
  v53 := Tryz.zeroValue86
  t171 := Tryz.underlying197
  a171 := Tryz.isAgg197
  z171 := Tryz.sizeOf197
  v171 := Tryz.zeroValue197
  t173 := Tryz.underlying199
  a173 := Tryz.isAgg199
  z173 := Tryz.sizeOf199
  v173 := Tryz.zeroValue199
  t212 := Tryz.underlying212
  a212 := Tryz.isAgg212
  z212 := Tryz.sizeOf212
  v212 := Tryz.zeroValue212
  t213 := Tryz.underlying213
  a213 := Tryz.isAgg213
  z213 := Tryz.sizeOf213
  t232 := Tryz.underlying221
  a232 := Tryz.isAgg221
  z232 := Tryz.sizeOf221
  v232 := Tryz.zeroValue221
  t233 := Tryz.underlying222
  a233 := Tryz.isAgg222
  z233 := Tryz.sizeOf222
  v233 := Tryz.zeroValue222
  g17 := by kernel_rfl
  g18 := by kernel_rfl
  g19 := by kernel_rfl
  i0 := by kernel_rfl
  i2 := by kernel_rfl
  i3 := by kernel_rfl
  i4 := by kernel_rfl
  i5 := by kernel_rfl
  i9 := by kernel_rfl
  i20 := by kernel_rfl
  i37 := by kernel_rfl
  i46 := by kernel_rfl
  i51 := by kernel_rfl
  i53 := by kernel_rfl
  i171 := by kernel_rfl
  i173 := by kernel_rfl
  i212 := by kernel_rfl
  i232 := by kernel_rfl
  i233 := by kernel_rfl
  m17 := by kernel_rfl
  m18 := by kernel_rfl
  m19 := by kernel_rfl }
open Go.RowKit Go.Sort Go.Lib in
theorem Tryz.strconv_Itoa (n : Int) (h0 : -9223372036854775808 ≤ n) (h1 : n ≤ 9223372036854775807) (w : World) (htab : Lib.TabIs Tryz.prog w "internal/strconv.uint64pow10" .u64 Lib.pow10Tab) :
    Calls Tryz.prog 40 #[.int .i64 n] w fun e w' => e = .returned (.string ⟨(Lib.itoa n).toArray⟩) ∧ ∃ k os, w' = grow (w.drewN k) os := Any.strconv_Itoa Tryz.laysM171 n h0 h1 w htab
def Tryz.lays264_ren : Go.Shelf.Ren := ⟨fun | 264 => 82 | n => n, fun | 53 => 86 | 46 => 88 | n => n, fun | n => n⟩
theorem Tryz.lays264 : Go.Proofs.Lays.n264 Tryz.prog Tryz.lays264_ren := {
  mixed := by kernel_rfl
  f264 := Tryz.func82.trans (congrArg some (by kernel_rfl))
  t46 := Tryz.underlying88
  a46 := Tryz.isAgg88
  z46 := Tryz.sizeOf88
  v46 := Tryz.zeroValue88
  t53 := Tryz.underlying86
  a53 := Tryz.isAgg86
  z53 := Tryz.sizeOf86
  v53 := Tryz.zeroValue86 }
open Go.RowKit Go.Lib in
theorem Tryz.bits_Mul64 (x y : Nat) (hx : x < 18446744073709551616) (hy : y < 18446744073709551616) (w : World) :
    Calls Tryz.prog 82 #[.int .u64 x, .int .u64 y] w fun e w' => e = .returned (.tuple #[.int .u64 ((x * y / 18446744073709551616 : Nat) : Int), .int .u64 ((x * y % 18446744073709551616 : Nat) : Int)]) ∧ w' = w := Any.bits_Mul64 Tryz.lays264 x y hx hy w
end Go.Proofs
namespace Go.Proofs.YtccnocgmikmonaaGreatDoor
open Go Go.RowKit
/-- strings.IndexByte, by the byte's number. -/
def ixb (l : List UInt8) (c : Nat) : Int := Lib.indexByte l c.toUInt8
theorem indexByte_n (s : ByteArray) (c : Nat) (w : World) :
    Calls Tryz.prog 147 #[.string s, .int .u8 c] w fun e w' => e = .returned (.int .i64 (ixb s.data.toList c)) ∧ w = w' :=
  (Tryz.strings_IndexByte s c w).mono fun _ _ ⟨h1, h2⟩ => ⟨h1, h2.symm⟩

def blanks : List UInt8 := [32, 9, 10]
def signs : List UInt8 := [59, 44, 46, 58, 40, 41, 123, 125, 91, 93, 61, 60, 62, 47, 43, 45, 42]
def cls0 (c : Nat) : Nat :=
  if 97 ≤ c ∧ c ≤ 122 ∨ 65 ≤ c ∧ c ≤ 90 then 3 else if 48 ≤ c ∧ c ≤ 57 then 4
  else if 0 ≤ ixb [32, 9, 10] c then 1
  else if 0 ≤ ixb [59, 44, 46, 58, 40, 41, 123, 125, 91, 93, 61, 60, 62, 47, 43, 45, 42] c then 6 else 0
/-- The class of a byte. -/
def cls (c : Nat) : Nat := if c = 34 then 7 else if c = 95 then 5 else if c = 35 then 2 else cls0 c
def clsF (k : Nat) (j : Nat) : Value := Value.int .u8 (if j < k then (cls0 j : Int) else 0)
def clsTo (k : Nat) : Array Value := row 256 (clsF k)
def clsAll : Array Value := row 256 fun j => Value.int .u8 (cls j : Int)

set_option maxRecDepth 100000 in
theorem clsTo_zero : clsTo 0 = Tryz.zeroCells181 := by
  have h : clsTo 0 = row 256 fun _ => Value.int .u8 0 := row_congr fun i _ => by simp [clsF]
  rw [h]
  exact (by kernel_rfl : row 256 (fun _ => Value.int .u8 0) = Tryz.zeroCells181)
theorem clsTo_step (k : Nat) (c : Int) (hc : c = cls0 k) : row 256 (fun j => if j = k then Value.int .u8 c else clsF k j) = clsTo (k + 1) := by
  subst hc
  refine row_congr fun i _ => ?_
  unfold clsF
  by_cases e : i = k
  · subst e; simp
  · rw [if_neg e]
    by_cases h3 : i < k
    · rw [if_pos h3, if_pos (by omega)]
    · rw [if_neg h3, if_neg (by omega)]
theorem clsTo_keep (k : Nat) (hc : cls0 k = 0) : clsTo k = clsTo (k + 1) := by
  refine row_congr fun i _ => ?_
  unfold clsF
  by_cases e : i = k
  · subst e; simp [hc]
  · by_cases h3 : i < k
    · rw [if_pos h3, if_pos (by omega)]
    · rw [if_neg h3, if_neg (by omega)]
theorem clsTo_all : row 256 (fun j => if j = 34 then Value.int .u8 7 else if j = 95 then .int .u8 5 else if j = 35 then .int .u8 2 else clsF 256 j) = clsAll := by
  refine row_congr fun i hi => ?_
  unfold clsF cls
  rw [if_pos hi]
  split
  · rfl
  · split
    · rfl
    · split <;> rfl

theorem clsAll_one : (clsAll.all fun x => x.oneCell') = true := row_one fun _ => rfl
theorem clsAll_info : (Tryz.prog.info? 181).map (·.size) = some clsAll.size := by rw [clsAll, row_size]; kernel_rfl
theorem clsAll_zero : Tryz.zeroCells181.size = clsAll.size := by rw [clsAll, row_size]; kernel_rfl

set_option maxRecDepth 100000 in
set_option maxHeartbeats 2000000 in
theorem classes_any (w : World) : Calls Tryz.prog 123 #[] w fun e w' => e = .returned (.agg clsAll) ∧ Below w.heap.size w w' := by
  go_enter Tryz.func123, Tryz.ntmps123
  go_wp2_with fail
  go_loopw [4] (fun i wr => ∃ k : Nat, k ≤ 256 ∧ i = .int .i64 k ∧ Has wr (w.heap.size + 1) 181 (clsTo k) ∧ Has wr w.heap.size 181 Tryz.zeroCells181 ∧ Below w.heap.size w wr) (fun i _ => 256 - (intOf i).toNat)
  case atStart =>
    refine ⟨0, by omega, rfl, ?_, ?_, ?_⟩
    · rw [clsTo_zero]
      have := Has.new (w.alloc (.cells Tryz.zeroCells181 181)) 181 Tryz.zeroCells181
      simpa using this
    · exact (Has.new w 181 _).alloc _
    · exact ((Below.refl _ _).alloc (Nat.le_refl _) _).alloc (by simp) _
  case round =>
    obtain ⟨k, hk, rfl, hO, hR, hB⟩ := hrel
    by_cases hlt : k < 256
    · have c0 : wr.cell? ⟨w.heap.size + 1, k, none⟩ = some (.int .u8 0) := by
        have := hO.rcell k hlt
        simpa [clsF] using this
      have f0 := hO.free k
      have HO := Lib.hid hO
      have HR := Lib.hid hR
      have HB := Lib.hid hB
      clear hO hR hB
      have fin : ∀ c : Int, c = cls0 k → (Has (wr.setCell ⟨w.heap.size + 1, k, none⟩ (.int .u8 c)) (w.heap.size + 1) 181 (clsTo (k + 1)) ∧ Has (wr.setCell ⟨w.heap.size + 1, k, none⟩ (.int .u8 c)) w.heap.size 181 Tryz.zeroCells181 ∧ Below w.heap.size w (wr.setCell ⟨w.heap.size + 1, k, none⟩ (.int .u8 c))) := by
        intro c hc
        refine ⟨?_, HR.out.far _ (by simp) _, HB.out.setCell (by simp) _⟩
        have := HO.out.rput k (.int .u8 c)
        rwa [clsTo_step k c hc] at this
      have FIN := Lib.hid fin
      clear fin
      have hcs : (97 ≤ k ∧ k ≤ 122) ∨ (65 ≤ k ∧ k ≤ 90) ∨ (48 ≤ k ∧ k ≤ 57) ∨ (k < 48 ∨ (57 < k ∧ k < 65) ∨ (90 < k ∧ k < 97) ∨ 122 < k) := by omega
      rcases hcs with hc | hc | hc | hc
      · go_wp2_with fail
        go_roundw
        case rel => exact ⟨k + 1, by omega, by go_num, FIN.out 3 (by unfold cls0; rw [if_pos (by omega)]; rfl)⟩
        case measure => simp [intOf]; omega
      · go_wp2_with fail
        go_roundw
        case rel => exact ⟨k + 1, by omega, by go_num, FIN.out 3 (by unfold cls0; rw [if_pos (by omega)]; rfl)⟩
        case measure => simp [intOf]; omega
      · go_wp2_with fail
        go_roundw
        case rel => exact ⟨k + 1, by omega, by go_num, FIN.out 4 (by unfold cls0; rw [if_neg (by omega), if_pos (by omega)]; rfl)⟩
        case measure => simp [intOf]; omega
      · have hk0 : cls0 k = if 0 ≤ ixb [32, 9, 10] k then 1 else if 0 ≤ ixb [59, 44, 46, 58, 40, 41, 123, 125, 91, 93, 61, 60, 62, 47, 43, 45, 42] k then 6 else 0 := by
          unfold cls0; rw [if_neg (by omega), if_neg (by omega)]
        have HK := Lib.hid hk0
        clear hk0
        rcases hc with hc | hc | hc | hc
        all_goals
          by_cases h1 : 0 ≤ ixb [32, 9, 10] k
          · go_wp2_with (go_at_call 147; refine (indexByte_n _ _ _).mono ?_; rintro e w' ⟨rfl, rfl⟩)
            go_roundw
            case rel => exact ⟨k + 1, by omega, by go_num, FIN.out 1 (by rw [HK.out, if_pos h1]; rfl)⟩
            case measure => simp [intOf]; omega
          · by_cases h2 : 0 ≤ ixb [59, 44, 46, 58, 40, 41, 123, 125, 91, 93, 61, 60, 62, 47, 43, 45, 42] k
            · go_wp2_with (go_at_call 147; refine (indexByte_n _ _ _).mono ?_; rintro e w' ⟨rfl, rfl⟩)
              go_roundw
              case rel => exact ⟨k + 1, by omega, by go_num, FIN.out 6 (by rw [HK.out, if_neg (by omega), if_pos h2]; rfl)⟩
              case measure => simp [intOf]; omega
            · go_wp2_with (go_at_call 147; refine (indexByte_n _ _ _).mono ?_; rintro e w' ⟨rfl, rfl⟩)
              go_roundw
              case rel => exact ⟨k + 1, by omega, by go_num, by rw [← clsTo_keep k (by rw [HK.out, if_neg (by omega), if_neg (by omega)])]; exact HO.out, HR.out, HB.out⟩
              case measure => simp [intOf]; omega
    · obtain rfl : k = 256 := by omega
      have c1 := hO.rcell 35 (by omega)
      have c2 := hO.rcell 95 (by omega)
      have c3 := hO.rcell 34 (by omega)
      have f1 := hO.free 35
      have f2 := hO.free 95
      have f3 := hO.free 34
      have hO' := ((hO.rput 35 (.int .u8 2)).rput 95 (.int .u8 5)).rput 34 (.int .u8 7)
      rw [clsTo_all] at hO'
      have hR' := ((hR.far ⟨w.heap.size + 1, 35, none⟩ (by simp) (.int .u8 2)).far ⟨w.heap.size + 1, 95, none⟩ (by simp) (.int .u8 5)).far ⟨w.heap.size + 1, 34, none⟩ (by simp) (.int .u8 7)
      have hB' := ((hB.setCell (p := ⟨w.heap.size + 1, 35, none⟩) (by simp) (.int .u8 2)).setCell (p := ⟨w.heap.size + 1, 95, none⟩) (by simp) (.int .u8 5)).setCell (p := ⟨w.heap.size + 1, 34, none⟩) (by simp) (.int .u8 7)
      clear hO hR hB
      go_wp2_with (first
        | ((with_reducible show wpList _ _ _ (Oper.mk (some 49) _ _ _ _ _ :: _) _ _); refine wpList_load_row rfl 181 _ rfl (w.heap.size + 1) rfl 181 clsAll (0, 0) _ hO' Tryz.underlying181 rfl clsAll_info ?_)
        | ((with_reducible show wpList _ _ _ (Oper.mk none (Op.store 181 _ _) _ _ _ _ :: _) _ _); refine wpList_store_row rfl 181 _ _ rfl w.heap.size clsAll rfl rfl 181 Tryz.zeroCells181 hR' clsAll_info clsAll_zero clsAll_one ?_))
      have hG := setRow_heap _ w.heap.size _ clsAll _ _ hR'
      show bodyPost _ _ _ _ _ _
      refine bodyPost_ret (v := .agg clsAll) ?_ rfl ?_
      · exact results_cell_row Tryz.results123 _ _ w.heap.size 181 clsAll (0, 0) _ rfl hG Tryz.underlying181 rfl clsAll_info
      · exact ⟨rfl, below_setRow hB' (Nat.le_refl _) _⟩
end Go.Proofs.YtccnocgmikmonaaGreatDoor
namespace Go.Proofs.YtccnocgmikmonaaGreatDoor
open Go Go.RowKit
/-- May byte c stand at place i of a name? -/
def okAt (i c : Nat) : Bool := cls c == 3 || (i != 0 && (cls c == 4 || cls c == 5))
def byteAt (s : ByteArray) (i : Nat) : Nat := (s.data.toList.getD i 0).toNat
/-- Is the string a name? -/
def nameB (s : ByteArray) : Bool := decide (s.size ≠ 0 ∧ s.size ≤ 24 ∧ ∀ i, i < s.size → okAt i (byteAt s i) = true)
theorem nameB_true {s : ByteArray} (h0 : s.size ≠ 0) (h1 : s.size ≤ 24) (h : ∀ i, i < s.size → okAt i (byteAt s i) = true) : nameB s = true := decide_eq_true ⟨h0, h1, h⟩
theorem nameB_no {s : ByteArray} {i : Nat} (hi : i < s.size) (h : okAt i (byteAt s i) = false) : nameB s = false :=
  decide_eq_false fun ⟨_, _, h3⟩ => by rw [h3 i hi] at h; cases h
theorem byteAt_eq (s : ByteArray) (i : Nat) (h : i < s.size) : byteAt s i = s[i].toNat := by
  unfold byteAt
  have : s.data.toList.getD i 0 = s[i] := by
    have hl : i < s.data.toList.length := by simpa using h
    rw [List.getD_eq_getElem?_getD, List.getElem?_eq_getElem hl]; rfl
  rw [this]
theorem cls_small (c : Nat) : cls c ≤ 7 := by
  unfold cls cls0
  repeat' split
  all_goals omega

set_option maxHeartbeats 1000000 in
theorem name_any (s : ByteArray) (w : World) (hs : s.size ≤ maxLen) :
    Calls Tryz.prog 84 #[.string s] w fun e w' => e = .returned (.bool (nameB s)) ∧ Below w.heap.size w w' := by
  unfold maxLen at hs
  go_enter Tryz.func84, Tryz.ntmps84
  go_wp2_with (first
    | (go_at_call 123; refine (classes_any _).mono ?_; rintro e w1 ⟨rfl, hb1⟩)
    | ((with_reducible show wpList _ _ _ (Oper.mk none (Op.store 181 _ _) _ _ _ _ :: _) _ _); refine wpList_store_row rfl 181 _ _ rfl w1.heap.size clsAll rfl rfl 181 Tryz.zeroCells181 (Has.new w1 _ _) clsAll_info clsAll_zero clsAll_one ?_))
  have hg : Has ((w1.alloc (.cells Tryz.zeroCells181 181)).setRow w1.heap.size clsAll) w1.heap.size 181 clsAll := setRow_heap _ _ _ _ _ _ (Has.new w1 _ _)
  have hb : Below w.heap.size w ((w1.alloc (.cells Tryz.zeroCells181 181)).setRow w1.heap.size clsAll) := below_setRow (hb1.alloc hb1.size _) hb1.size _
  generalize (w1.alloc (.cells Tryz.zeroCells181 181)).setRow w1.heap.size clsAll = W at *
  go_loop [9] (fun i => ∃ k : Nat, k ≤ s.size ∧ i = .int .i64 k ∧ Hid (∀ j, j < k → okAt j (byteAt s j) = true)) (fun i => s.size - (intOf i).toNat)
  case atStart => exact ⟨0, Nat.zero_le _, rfl, fun j hj => absurd hj (Nat.not_lt_zero _)⟩
  case round =>
    obtain ⟨k, hk, rfl, hrel⟩ := hrel
    by_cases hlt : k < s.size
    · have hcell : ∀ n : Nat, n < 256 → W.cell? ⟨w1.heap.size, n, none⟩ = some (.int .u8 (cls n)) := fun n hn => hg.rcell n hn
      have hb8 := UInt8.toNat_lt s[k]
      have hby := byteAt_eq s k hlt
      have yes : okAt k (byteAt s k) = true → Hid (∀ j, j < k + 1 → okAt j (byteAt s j) = true) := fun h j hj => by
        rcases Nat.lt_or_ge j k with h1 | h1
        · exact hrel.out j h1
        · obtain rfl : j = k := by omega
          exact h
      have no : okAt k (byteAt s k) = false → nameB s = false := fun h => nameB_no hlt h
      rw [hby] at yes no
      have YES := Lib.hid yes
      have NO := Lib.hid no
      clear yes no hby
      by_cases e3 : cls s[k].toNat = 3
      · go_wp2_with fail
        go_round
        case rel => exact ⟨k + 1, by omega, by go_num, YES.out (by simp [okAt, e3])⟩
        case measure => simp [intOf]; omega
      · by_cases hk0 : k = 0
        · subst hk0
          go_wp2_with fail
          go_ret
          exact ⟨ret_bool (by rw [NO.out (by simp [okAt, e3])]), hb⟩
        · by_cases e4 : cls s[k].toNat = 4
          · go_wp2_with fail
            go_round
            case rel => exact ⟨k + 1, by omega, by go_num, YES.out (by simp [okAt, e4, hk0])⟩
            case measure => simp [intOf]; omega
          · by_cases e5 : cls s[k].toNat = 5
            · go_wp2_with fail
              go_round
              case rel => exact ⟨k + 1, by omega, by go_num, YES.out (by simp [okAt, e5, hk0])⟩
              case measure => simp [intOf]; omega
            · have b3 : ((cls s[k].toNat : Int) != 3) = true := by rw [bne_iff_ne]; omega
              have b4 : ((cls s[k].toNat : Int) != 4) = true := by rw [bne_iff_ne]; omega
              have b5 : ((cls s[k].toNat : Int) != 5) = true := by rw [bne_iff_ne]; omega
              go_wp2_with fail
              go_ret
              exact ⟨ret_bool (by rw [NO.out (by simp [okAt, e3, e4, e5])]), hb⟩
    · obtain rfl : k = s.size := by omega
      have hall := hrel.out
      clear hrel
      have fin : nameB s = (!s.toList.isEmpty && decide ((s.size : Int) ≤ 24)) := by
        have he : s.toList.isEmpty = decide (s.size = 0) := by
          exact isEmpty_size s
        rw [he]
        unfold nameB
        rw [Bool.eq_iff_iff]
        simp only [decide_eq_true_eq, Bool.and_eq_true, Bool.not_eq_true', decide_eq_false_iff_not]
        constructor
        · intro ⟨h1, h2, _⟩; exact ⟨h1, by omega⟩
        · intro ⟨h1, h2⟩; exact ⟨h1, by omega, hall⟩
      have FIN := Lib.hid fin
      clear fin hall
      go_wp2_with fail
      all_goals
        go_ret
        refine ⟨ret_bool ?_, hb⟩
        rw [FIN.out]
        try simp_all
end Go.Proofs.YtccnocgmikmonaaGreatDoor
namespace Go.Proofs.YtccnocgmikmonaaGreatDoor
open Go Go.RowKit

/-- A slice whose elements, C cells each, read as the things of l. -/
def Rd {α : Type} (C : Nat) (R : World → List Value → α → Prop) (w : World) (v : Value) (l : List α) : Prop :=
  ∃ A c, v = .slice A l.length c ∧ l.length ≤ c ∧ (l.length = 0 ∨ ∃ b o, A = some ⟨b, o, none⟩ ∧ ∀ i a, l[i]? = some a → ∃ cs, R w cs a ∧ cs.length = C ∧ w.rangeAt b (o + i * C) cs)
/-- What reads so goes on reading so. -/
def Stays {α : Type} (R : World → List Value → α → Prop) : Prop := ∀ w w' cs a, R w cs a → Below w.heap.size w w' → R w' cs a
theorem range_later {w w' : World} {b o : Nat} {cs : List Value} (h : w.rangeAt b o cs) (hb : Below w.heap.size w w') : w'.rangeAt b o cs :=
  fun j v hv => cell_later hb (h j v hv)
theorem Rd.below {α : Type} {C : Nat} {R : World → List Value → α → Prop} {w w' : World} {v : Value} {l : List α} (hR : Stays R) (h : Rd C R w v l) (hb : Below w.heap.size w w') : Rd C R w' v l := by
  obtain ⟨A, c, hv, hn, h0 | ⟨b, o, hA, hc⟩⟩ := h
  · exact ⟨A, c, hv, hn, .inl h0⟩
  · refine ⟨A, c, hv, hn, .inr ⟨b, o, hA, fun i a hi => ?_⟩⟩
    obtain ⟨cs, h1, h2, h3⟩ := hc i a hi
    exact ⟨cs, hR _ _ _ _ h1 hb, h2, range_later h3 hb⟩
/-- An element of it, in a later world. -/
theorem Rd.get {α : Type} {C : Nat} {R : World → List Value → α → Prop} {w : World} {v : Value} {l : List α} (h : Rd C R w v l) {i : Nat} (hi : i < l.length) (d : α) :
    ∃ b o c cs, v = .slice (some ⟨b, o, none⟩) l.length c ∧ l.length ≤ c ∧ R w cs (l.getD i d) ∧ cs.length = C ∧ w.rangeAt b (o + i * C) cs := by
  obtain ⟨A, c, hv, hn, h0 | ⟨b, o, hA, hc⟩⟩ := h
  · omega
  · obtain ⟨cs, h1, h2, h3⟩ := hc i (l.getD i d) (by rw [List.getD_eq_getElem?_getD, List.getElem?_eq_getElem hi]; rfl)
    subst hA
    exact ⟨b, o, c, cs, hv, hn, h1, h2, h3⟩
theorem Rd.form {α : Type} {C : Nat} {R : World → List Value → α → Prop} {w : World} {v : Value} {l : List α} (h : Rd C R w v l) : ∃ A c, v = .slice A l.length c ∧ l.length ≤ c := by
  obtain ⟨A, c, hv, hn, _⟩ := h; exact ⟨A, c, hv, hn⟩
theorem Rd.nil {α : Type} {C : Nat} {R : World → List Value → α → Prop} {w : World} (A : Option Addr) (c : Nat) : Rd C R w (.slice A 0 c) ([] : List α) := ⟨A, c, rfl, Nat.zero_le _, .inl rfl⟩

/-- A slot, a kind, a part. -/
structure Sk where
  name : ByteArray
  kinds : List ByteArray
  norm : Int
  deriving DecidableEq
structure Kd where
  name : ByteArray
  veh : Bool
  slots : List Sk
  deriving DecidableEq
structure Pr where
  key : ByteArray
  val : ByteArray
  deriving DecidableEq
structure Pa where
  name : ByteArray
  kind : ByteArray
  into : ByteArray
  slot : ByteArray
  made : Int
  since : Int
  gone : Bool
  props : List Pr
  kl : Int
  kh : Int
  cl : Int
  ch : Int
  dl : Int
  dh : Int
  deriving DecidableEq
def noSk : Sk := ⟨⟨#[]⟩, [], 0⟩
def noKd : Kd := ⟨⟨#[]⟩, false, []⟩
def noPr : Pr := ⟨⟨#[]⟩, ⟨#[]⟩⟩
def noPa : Pa := ⟨⟨#[]⟩, ⟨#[]⟩, ⟨#[]⟩, ⟨#[]⟩, 0, 0, false, [], 0, 0, 0, 0, 0, 0⟩
/-- How their cells read. -/
def SkR (w : World) (cs : List Value) (s : Sk) : Prop := ∃ v, cs = [.string s.name, v, .int .i64 s.norm] ∧ Sl w v s.kinds.length 1 (strF s.kinds)
def KdR (w : World) (cs : List Value) (k : Kd) : Prop := ∃ v, cs = [.string k.name, .bool k.veh, v] ∧ Rd 3 SkR w v k.slots
def PrR (_ : World) (cs : List Value) (p : Pr) : Prop := cs = [.string p.key, .string p.val]
def Pa.cells (p : Pa) (v : Value) : List Value := [.string p.name, .string p.kind, .string p.into, .string p.slot, .int .i64 p.made, .int .i64 p.since, .bool p.gone, v, .int .i64 p.kl, .int .i64 p.kh, .int .i64 p.cl, .int .i64 p.ch, .int .i64 p.dl, .int .i64 p.dh]
def PaR (w : World) (cs : List Value) (p : Pa) : Prop := ∃ v, cs = p.cells v ∧ Rd 2 PrR w v p.props
theorem SkR.stays : Stays SkR := fun _ _ _ _ ⟨v, h1, h2⟩ hb => ⟨v, h1, h2.below hb⟩
theorem KdR.stays : Stays KdR := fun _ _ _ _ ⟨v, h1, h2⟩ hb => ⟨v, h1, h2.below SkR.stays hb⟩
theorem PrR.stays : Stays PrR := fun _ _ _ _ h _ => h
theorem PaR.stays : Stays PaR := fun _ _ _ _ ⟨v, h1, h2⟩ hb => ⟨v, h1, h2.below PrR.stays hb⟩
/-- Their strings are strings that lie in memory, their lists lists of a moderate length. -/
def Sk.short (s : Sk) : Prop := s.name.size ≤ maxLen ∧ s.kinds.length ≤ 100000 ∧ ∀ x ∈ s.kinds, x.size ≤ maxLen
def Kd.short (k : Kd) : Prop := k.name.size ≤ maxLen ∧ k.slots.length ≤ 100000 ∧ ∀ s ∈ k.slots, s.short
def Pr.short (p : Pr) : Prop := p.key.size ≤ maxLen ∧ p.val.size ≤ maxLen
def Pa.short (p : Pa) : Prop := p.name.size ≤ maxLen ∧ p.kind.size ≤ maxLen ∧ p.into.size ≤ maxLen ∧ p.slot.size ≤ maxLen ∧ p.props.length ≤ 100000 ∧ ∀ x ∈ p.props, x.short
def Cat (w : World) (v : Value) (c : List Kd) : Prop := Rd 3 KdR w v c
def Sta (w : World) (v : Value) (l : List Pa) : Prop := Rd 14 PaR w v l
theorem Cat.below {w w' : World} {v : Value} {c : List Kd} (h : Cat w v c) (hb : Below w.heap.size w w') : Cat w' v c := Rd.below KdR.stays h hb
theorem Sta.below {w w' : World} {v : Value} {l : List Pa} (h : Sta w v l) (hb : Below w.heap.size w w') : Sta w' v l := Rd.below PaR.stays h hb

/-- The first kind, the first slot, the first part with a name. -/
def kfind (c : List Kd) (n : ByteArray) : Option Kd := c.find? fun k => decide (k.name = n)
def sfind (l : List Sk) (n : ByteArray) : Option Sk := l.find? fun s => decide (s.name = n)
def pfind (l : List Pa) (n : ByteArray) : Option Pa := l.find? fun p => decide (p.name = n)
/-- Does a slot of a kind take parts of another kind? -/
def takesB (c : List Kd) (kind name other : ByteArray) : Bool :=
  match sfind ((kfind c kind).getD noKd).slots name with
  | none => false
  | some s => s.kinds.any fun x => decide (x = other)
/-- Is a slot right behind some kinds, is a kind, is a catalog? -/
def slotOk (pre : List Kd) (s : Sk) : Bool :=
  nameB s.name && (decide (1 ≤ s.norm) && decide (s.norm ≤ s.kinds.length)) && (decide s.kinds.Nodup && s.kinds.all fun x => pre.any fun k => decide (k.name = x) && !k.veh)
def kindOk (pre : List Kd) (k : Kd) : Bool :=
  !(pre.any fun q => decide (q.name = k.name)) && nameB k.name && decide (k.slots.length ≤ 12) && (k.slots.all (slotOk pre) && decide (k.slots.map Sk.name).Nodup)
def catTo (c : List Kd) (n : Nat) : Bool := (List.range n).all fun i => kindOk (c.take i) (c.getD i noKd)
def catB (c : List Kd) : Bool := catTo c c.length && decide (c.length ≤ 60)
end Go.Proofs.YtccnocgmikmonaaGreatDoor
