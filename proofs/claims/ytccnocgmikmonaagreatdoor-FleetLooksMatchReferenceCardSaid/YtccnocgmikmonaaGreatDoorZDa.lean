/- A region that draws its order, walked by a plan: the operations that only read, or whose guard is false, are taken first, in the order of a list. No condition. strings.Builder at this program: WriteString (and copyCheck, whose panic the translation leaves out). No condition but that the bytes fit a machine. digest.Sum: what it returns. No condition but that the text fits a machine. Contracts of library functions at this translation, as the shelf lays them: Builder_String_any. digest.List: what it returns. Condition: the table of powers of ten is laid, and the joined text fits a machine. -/
import Derived.Deep.RegionHeld3
import Derived.Lib.AppendStr
import Derived.Lib.Builder
import Derived.Shelf.Bits.Mul64
import Derived.Shelf.LaysM
import Derived.Shelf.Slices.In.SortNone
import Derived.Shelf.Small.Bits
import Derived.Shelf.Small.Strs
import Derived.Shelf.Small.Utf8
import Derived.Shelf.Sort.Plain
import Derived.Shelf.Strconv.Itoa0
import Derived.Shelf.Strconv.Itoa1
import Derived.Shelf.Strconv.Itoa2
import Derived.Shelf.Strconv.Itoa3
import Derived.Shelf.Strings.AsciiSet
import Derived.Shelf.Strings.Builder1
import Derived.Shelf.Strings.BuilderCap
import Derived.Shelf.Strings.BuilderF
import Derived.Shelf.Strings.BuilderK
import Derived.Shelf.Strings.Runes
import Derived.Shelf.Strings.Search1
import Derived.Shelf.Strings.Trim
import Derived.Shelf.Unicode.DecodeSlow
import Derived.Test.YtccnocgmikmonaaGreatDoorU01
import Derived.Test.YtccnocgmikmonaaGreatDoorU02
import Derived.Test.YtccnocgmikmonaaGreatDoorU25
import Derived.Test.YtccnocgmikmonaaGreatDoorU27
namespace Go.Proofs.YtccnocgmikmonaaGreatDoor
open Go
/-- The operations that are taken next, in this order (true: its guard is false). -/
structure Plan (_ : List (Nat × Bool)) (G : Prop) : Prop where
  out : G
theorem plI (p : List (Nat × Bool)) {G : Prop} (h : Plan p G) : G := h.out
theorem plE {G : Prop} (h : G) : Plan [] G := ⟨h⟩
section
variable {P : Program} {ops : Array Oper} {md : Region.Mode} {Q : Exit → Act → World → Prop} {S : World → Prop}
theorem plF {i : Nat} {d : Option Tmp} {o : Op} {ty : TypeId} {ps : String} {af : Array Edge} {g : Option (Nat × Bool)} {fuel : Nat} {listed : Array Bool} {a : Act} {w : World} {is : List (Nat × Bool)}
    (h : Plan is (wpAnyH P md ops Q S fuel (listed.setIfInBounds i true) (a.put d undef) w))
    (hi : ops[i]? = some ⟨d, o, ty, ps, af, g⟩ := by exact rfl) (hs : Region.noSelect ops = true := by kernel_rfl) (hf : Region.free md ops listed i = true := by kernel_rfl) (hr : (Region.ready md ops listed).contains i = true := by kernel_rfl)
    (hQ : ∀ c a w, Q (.panic c) (a.put d undef) w → Q (.panic c) a w := by exact fun _ _ _ h => h) (hw : Region.wanted ⟨d, o, ty, ps, af, g⟩ (yielded ops a.tmps) = false := by kernel_rfl) (hS : S w := by assumption) :
    Plan ((i, true) :: is) (wpAnyH P md ops Q S (fuel + 1) listed a w) :=
  ⟨wpAnyH_take hi hs hf hr hQ (.inr ⟨hw, rfl⟩) hS h.out⟩
theorem plR {i : Nat} {d : Option Tmp} {o : Op} {ty : TypeId} {ps : String} {af : Array Edge} {g : Option (Nat × Bool)} {v : Value} {fuel : Nat} {listed : Array Bool} {a : Act} {w : World} {is : List (Nat × Bool)}
    (hy : ∀ w, S w → (execOp a.eval ⟨d, o, ty, ps, af, g⟩).run P w = .ok (.value v) w)
    (h : Plan is (wpAnyH P md ops Q S fuel (listed.setIfInBounds i true) (a.put d v) w))
    (hi : ops[i]? = some ⟨d, o, ty, ps, af, g⟩ := by exact rfl) (hs : Region.noSelect ops = true := by kernel_rfl) (hf : Region.free md ops listed i = true := by kernel_rfl) (hr : (Region.ready md ops listed).contains i = true := by kernel_rfl)
    (hQ : ∀ c a w, Q (.panic c) (a.put d v) w → Q (.panic c) a w := by exact fun _ _ _ h => h) (hw : Region.wanted ⟨d, o, ty, ps, af, g⟩ (yielded ops a.tmps) = true := by rfl) (hS : S w := by assumption) :
    Plan ((i, false) :: is) (wpAnyH P md ops Q S (fuel + 1) listed a w) :=
  ⟨wpAnyH_take hi hs hf hr hQ (.inl ⟨hw, hy⟩) hS h.out⟩
end
end Go.Proofs.YtccnocgmikmonaaGreatDoor
namespace Go.Proofs.YtccnocgmikmonaaGreatDoor
open Go Go.RowKit
set_option maxHeartbeats 1000000 in
set_option maxRecDepth 100000 in
theorem check_any (B b : Nat) (bs : List Value) (w : World) (h : Lib.IsBuilder 123 5 B b bs w) :
    Calls Tryz.prog 117 #[.pointer (some ⟨b, 0, none⟩)] w fun e w' => e = .returned (.tuple #[]) ∧ Lib.BuilderAt 123 5 B b (.pointer (some ⟨b, 0, none⟩)) bs w' ∧ Below B w w' := by
  obtain ⟨j, hj, hjs⟩ := Option.map_eq_some_iff.1 (show (Tryz.prog.info? 123).map (·.size) = some 2 by kernel_rfl)
  rcases h with h | h
  · have HB := Lib.hid (h.used (.pointer (some ⟨b, 0, none⟩)))
    have hbb := (Below.refl B w).setCell (p := ⟨b, 0, none⟩) h.1 (.pointer (some ⟨b, 0, none⟩))
    have hsh := h.shape
    have hc := h.cell0
    have hf := h.frozen0
    clear h
    go_enter Tryz.func117, Tryz.ntmps117
    go_wp2
    rw [Lib.run_to_unsafe w ⟨b, 0, none⟩ Tryz.underlying121 Tryz.underlying201 hj (by rw [hjs]; decide) hsh (Nat.zero_lt_succ 1)]
    simp only [Result.andThen]
    rw [Oper.upon_value]
    go_wp2
    rw [run_callFunc_extern Tryz.func143 (by kernel_rfl) (by kernel_rfl) (by kernel_rfl) (e := Extern.AbiNoEscape.same) (by kernel_rfl), Lib.run_noEscape]
    simp only [Result.andThen]
    rw [Oper.upon_value]
    go_wp2
    rw [Lib.run_from_unsafe w ⟨b, 0, none⟩ Tryz.underlying201 Tryz.underlying121 hj hsh (by kernel_rfl)]
    simp only [Result.andThen]
    rw [Oper.upon_value]
    go_wp2
    go_end0
    exact ⟨rfl, HB.out, hbb⟩
  · have hc := h.cell0
    have HB := Lib.hid h
    clear h
    go_enter Tryz.func117, Tryz.ntmps117
    go_wp2
    rw [Lib.run_neq_ptr_same w _ Tryz.underlying121 hj]
    go_wp2
    go_end0
    exact ⟨rfl, HB.out, Below.refl B _⟩
theorem own_slice {w : World} {base e size n : Nat} {v : Value} {xs : List Value} (h : w.ownsRow base e size v n xs) : ∃ A c, v = .slice A n c := by
  rcases h.2 with ⟨rfl, h0⟩ | ⟨g, cap, cur, rfl, _⟩
  · exact ⟨none, 0, by rw [h0]⟩
  · exact ⟨_, _, rfl⟩
theorem infoB : (Tryz.prog.info? 5).map (fun i => (i.zero, i.size, i.bytes)) = some (some (.int .u8 0), 1, 1) := by kernel_rfl
set_option maxHeartbeats 2000000 in
set_option maxRecDepth 100000 in
theorem writeStr_any (B b : Nat) (bs : List Value) (s : ByteArray) (w : World) (h : Lib.IsBuilder 123 5 B b bs w) (hlen : bs.length + s.size ≤ 140737488355328) (hBw : B ≤ w.heap.size) :
    Calls Tryz.prog 71 #[.pointer (some ⟨b, 0, none⟩), .string s] w fun e w' => e = .returned (.tuple #[.int .i64 s.size, .nilIface]) ∧ Lib.IsBuilder 123 5 B b (bs ++ Lib.strCells s) w' ∧ Below B w w' := by
  obtain ⟨i0, hi, hz0, hz1, hz2⟩ := info_parts infoB
  have HC := Lib.hid (check_any B b bs w h)
  have HI := Lib.hid hi
  have HZ := Lib.hid hz0
  clear h hi hz0
  go_enter Tryz.func71, Tryz.ntmps71
  go_wp2_with (first
    | (go_at_call 117; refine HC.out.mono ?_; rintro e w1 ⟨rfl, hb1, hbb1⟩; obtain ⟨hB1, v1, hk1, hown1, hne1⟩ := hb1; obtain ⟨A1, c1', hf1⟩ := own_slice hown1; subst hf1; have c1 : w1.cell? ⟨b, 1, none⟩ = some (.slice A1 bs.length c1') := (by rw [Lib.cell_of_heap hk1]; rfl); have HBB := Lib.hid hbb1; have HK := Lib.hid hk1; have HO := Lib.hid hown1; have HNE := Lib.hid hne1; have f1 := Lib.frozen_of_heap hk1 1; clear hbb1 hk1 hown1 hne1)
    | ((with_reducible show wpList _ _ _ (Oper.mk (some 14) _ _ _ _ _ :: _) _ _); refine Lib.wpList_append_own_string _ rfl (.tmp 12) (.tmp 13) 85 9 rfl B 5 i0 Tryz.underlying85 Tryz.underlying9 HI.out HZ.out hz1 hz2 _ _ bs rfl HO.out s rfl (by unfold maxLen; omega) hlen (by have := HBB.out.size; omega) ?_; intro v2 w2 hown2 hg2 hnil2; obtain ⟨A2, c2', hf2⟩ := own_slice hown2; subst hf2; have hk2 := (hg2.block b (by have := HK.out; exact (Array.getElem?_eq_some_iff.1 this).1) (fun e => HNE.out e.symm)).trans HK.out; have HO2 := Lib.hid hown2; have HG2 := Lib.hid hg2; have HK2 := Lib.hid hk2; have f2 := Lib.frozen_of_heap hk2 1; have c2 : w2.cell? ⟨b, 1, none⟩ = some (.slice A1 bs.length c1') := (by rw [Lib.cell_of_heap hk2]; rfl); clear hown2 hg2 hnil2 hk2))
  go_ret2
  refine ⟨rfl, .inr (Lib.BuilderAt.put hB1 HK2.out ?_ (by decide)), ?_⟩
  · rw [List.length_append, Lib.strCells_length]
    exact HO2.out
  · exact ((HBB.out.grown HG2.out (Nat.le_trans hBw HBB.out.size) (fun j hj => (HO.out.lt j hj).1)).setCell (p := ⟨b, 1, none⟩) hB1 _)
end Go.Proofs.YtccnocgmikmonaaGreatDoor
namespace Go.Proofs.YtccnocgmikmonaaGreatDoor
open Go Go.RowKit
/-- The block that begins at a place: 8 bytes, zeros behind the end. -/
def blkN (f : Nat → Nat) : Nat → Nat
  | 0 => 0
  | k + 1 => stepN (blkN f k) (f k)
def blkAt (s : ByteArray) (o : Nat) : Nat := blkN (fun j => byteAt s (o + j)) 8
theorem blkN_congr {f g : Nat → Nat} : ∀ {k : Nat}, (∀ j, j < k → f j = g j) → blkN f k = blkN g k
  | 0, _ => rfl
  | k + 1, h => by
    unfold blkN
    rw [blkN_congr (k := k) (fun j hj => h j (by omega)), h k (by omega)]
theorem blkTo_eq (s : ByteArray) : ∀ k, blkTo s k = blkN (byteAt s) k
  | 0 => rfl
  | k + 1 => by unfold blkTo blkN; rw [blkTo_eq s k]
/-- The state behind k blocks. -/
def stTo (s : ByteArray) : Nat → Nat
  | 0 => 7046029254386353131 ^^^ s.size
  | k + 1 => mixN (stTo s k ^^^ blkAt s (8 * k))
theorem stTo_lt {s : ByteArray} (h : s.size < 18446744073709551616) : ∀ k, stTo s k < 18446744073709551616
  | 0 => xor_lt (by decide) h
  | _ + 1 => mixN_lt _
theorem byteAt_extract (s : ByteArray) (a b j : Nat) (h : a + j < b) : byteAt (s.extract a b) j = byteAt s (a + j) := by
  unfold byteAt
  rw [List.getD_eq_getElem?_getD, List.getD_eq_getElem?_getD, Lib.extract_data, List.getElem?_take_of_lt (by omega), List.getElem?_drop]
theorem byteAt_beyond (s : ByteArray) (j : Nat) (h : s.size ≤ j) : byteAt s j = 0 := by
  unfold byteAt
  rw [List.getD_eq_getElem?_getD, List.getElem?_eq_none (show s.data.toList.length ≤ j from h)]; rfl
theorem size_suffix (s : ByteArray) (a : Nat) : (s.extract a s.size).size = s.size - a := by rw [ByteArray.size_extract, Nat.min_self]
theorem suffix_suffix (s : ByteArray) (a : Nat) (ha : a + 8 ≤ s.size) : (s.extract a s.size).extract 8 (s.extract a s.size).size = s.extract (a + 8) s.size := by
  rw [size_suffix, Lib.extract_eq, Lib.extract_eq s (a + 8), Lib.extract_data, List.drop_take, List.drop_drop, List.take_take, show min (s.size - a - 8) (s.size - a - 8) = s.size - (a + 8) by omega]
theorem whole (s : ByteArray) : s.extract 0 s.size = s := by
  rw [Lib.extract_eq, List.drop_zero, Nat.sub_zero, List.take_of_length_le (show s.data.toList.length ≤ s.size from Nat.le_refl _)]
/-- The block at the head of what is left. -/
theorem blk_head (s : ByteArray) (a : Nat) : blkTo ((s.extract a s.size).extract 0 8) 8 = blkAt s a := by
  rw [blkTo_eq]
  refine blkN_congr fun j hj => ?_
  rw [byteAt_extract _ 0 8 j (by omega), Nat.zero_add]
  by_cases h : a + j < s.size
  · exact byteAt_extract s a _ j h
  · rw [byteAt_beyond _ j (by rw [size_suffix]; omega), byteAt_beyond s _ (by omega)]
theorem blk_last (s : ByteArray) (a : Nat) : blkTo (s.extract a s.size) 8 = blkAt s a := by
  rw [blkTo_eq]
  refine blkN_congr fun j hj => ?_
  by_cases h : a + j < s.size
  · exact byteAt_extract s a _ j h
  · rw [byteAt_beyond _ j (by rw [size_suffix]; omega), byteAt_beyond s _ (by omega)]
def sumN (s : ByteArray) : Nat := stTo s (s.size / 8 + 1)
theorem and15 (n c : Nat) (hn : n < 18446744073709551616) : bits .and .u64 ((n : Int) / (c : Int)) 15 = ((n / c % 16 : Nat) : Int) := by
  rw [show ((n : Int) / (c : Int)) = ((n / c : Nat) : Int) from (Int.natCast_ediv n c).symm]
  have h := bits_and_u64_nat (n / c) 15 (Nat.lt_of_le_of_lt (Nat.div_le_self _ _) hn) (by decide)
  rw [show n / c &&& 15 = n / c % 16 from Nat.and_two_pow_sub_one_eq_mod _ 4] at h
  exact h
/-- The digits, from the first one on. -/
def digAt (n j : Nat) : Nat := hexN (n / 2 ^ (60 - 4 * j) % 16)
def outTo (n k : Nat) : Array Value := row 16 fun j => .int .u8 (if j < k then (digAt n j : Int) else 0)
theorem outTo_zero (n : Nat) : outTo n 0 = zer16 := row_congr fun i _ => by simp
theorem outTo_step (n k : Nat) (c : Int) (hc : c = digAt n k) : row 16 (fun j => if j = k then Value.int .u8 c else .int .u8 (if j < k then (digAt n j : Int) else 0)) = outTo n (k + 1) := by
  subst hc
  refine row_congr fun i _ => ?_
  by_cases e : i = k
  · subst e; simp
  · rw [if_neg e]
    by_cases h3 : i < k
    · rw [if_pos h3, if_pos (by omega)]
    · rw [if_neg h3, if_neg (by omega)]
def hexL (n : Nat) : List Int := (List.range 16).map fun j => (digAt n j : Int)
/-- What digest.Sum returns. -/
def sumB (s : ByteArray) : ByteArray := strOfNums (hexL (sumN s))
def strLen : Value → Nat
  | .string t => t.size
  | _ => 0
set_option maxRecDepth 100000 in
set_option maxHeartbeats 4000000 in
theorem sum_any (s : ByteArray) (hs : s.size ≤ maxLen) (w : World) :
    Calls Tryz.prog 22 #[.string s] w fun e w' => e = .returned (.string (sumB s)) ∧ Below w.heap.size w w' := by
  have hm : s.size < 18446744073709551616 := by unfold maxLen at hs; omega
  have hx := bits_xor_u64_nat 7046029254386353131 s.size (by decide) hm
  rw [show ((7046029254386353131 : Nat) : Int) = 7046029254386353131 from rfl] at hx
  have hw0 : IntKind.u64.wrap (s.size : Int) = (s.size : Int) := by rw [IntKind.wrap_u64]; omega
  have HS := Lib.hid (Has.new w 86 #[.int .u64 ((7046029254386353131 ^^^ s.size : Nat) : Int)])
  have HB0 := Lib.hid ((Below.refl w.heap.size w).alloc (Nat.le_refl _) (.cells #[.int .u64 ((7046029254386353131 ^^^ s.size : Nat) : Int)] 86))
  go_enter Tryz.func22, Tryz.ntmps22
  go_wp2_with fail
  have HS0 : Hid (Has (w.alloc (.cells #[.int .u64 ((7046029254386353131 ^^^ s.size : Nat) : Int)] 86)) w.heap.size 86 #[.int .u64 ((stTo s 0 : Nat) : Int)]) := HS
  clear hx hw0
  go_loopw [0] (fun t wr => ∃ k : Nat, 8 * k ≤ s.size ∧ t = .string (s.extract (8 * k) s.size) ∧ Hid (Has wr w.heap.size 86 #[.int .u64 (stTo s k)]) ∧ Hid (Below w.heap.size w wr)) (fun t _ => strLen t)
  case atStart => exact ⟨0, by omega, by rw [Nat.mul_zero, whole], HS0.out, HB0.out⟩
  case round =>
    obtain ⟨k, hk, rfl, HG, HB⟩ := hrel
    have HTK := Lib.hid (fun (t : ByteArray) (ht : t.size ≤ 8) (W : World) (h : Has W w.heap.size 86 #[.int .u64 (stTo s k)]) => take_any t ht (stTo s k) (stTo_lt hm k) w.heap.size W h)
    have HSX := Lib.hid (suffix_suffix s (8 * k))
    have HBH := Lib.hid (blk_head s (8 * k))
    have HBL := Lib.hid (blk_last s (8 * k))
    have hsz := size_suffix s (8 * k)
    by_cases h8 : 8 * k + 8 ≤ s.size
    · have HSX := Lib.hid (HSX.out h8)
      have HHS := Lib.hid (show ((s.extract (8 * k) s.size).extract 0 8).size ≤ 8 by rw [ByteArray.size_extract]; omega)
      obtain ⟨T, hT⟩ : ∃ T, T = s.extract (8 * k) s.size := ⟨_, rfl⟩
      rw [← hT] at hsz HSX HBH HHS ⊢
      have h8i : (8 : Int) ≤ (T.size : Int) := by omega
      have h8n : 8 ≤ T.size := by omega
      have HSZ := Lib.hid hsz
      have HHM := Lib.hid hs
      have H8 := Lib.hid h8
      have HST := Lib.hid (show mixN (stTo s k ^^^ blkTo (T.extract 0 8) 8) = stTo s (k + 1) by rw [HBH.out]; rfl)
      clear hsz hs hm hT h8 hk
      go_wp2_with (go_at_call 46; refine (HTK.out _ HHS.out _ HG.out).mono ?_; rintro e w1 ⟨rfl, h1, h2⟩; have HG1 := Lib.hid h1; have HB1 := Lib.hid h2; clear h1 h2)
      rw [HST.out] at HG1
      go_roundw
      case rel => exact ⟨k + 1, by have := H8.out; omega, by rw [HSX.out, Nat.mul_succ], HG1.out, HB.out.trans HB1.out⟩
      case measure =>
        have := HSZ.out
        show (T.extract 8 T.size).size < T.size
        rw [size_suffix]
        omega
    · have HK : Hid (s.size / 8 = k) := by show s.size / 8 = k; omega
      have HTS := Lib.hid (show (s.extract (8 * k) s.size).size ≤ 8 by omega)
      obtain ⟨T, hT⟩ : ∃ T, T = s.extract (8 * k) s.size := ⟨_, rfl⟩
      rw [← hT] at hsz HTS HBL ⊢
      have h8i : ¬ (8 : Int) ≤ (T.size : Int) := by omega
      have HST := Lib.hid (show mixN (stTo s k ^^^ blkTo T 8) = sumN s by unfold sumN; rw [HK.out, HBL.out]; rfl)
      have HLT := Lib.hid (show sumN s < 18446744073709551616 from stTo_lt hm _)
      clear hsz hs hm hT h8 hk HSX HBH HBL
      go_wp2_with (first | (go_at_call 46; refine (HTK.out _ HTS.out _ HG.out).mono ?_; rintro e w1 ⟨rfl, h1, h2⟩; rw [HST.out] at h1; have HG1 := Lib.hid h1; have HB1 := Lib.hid (HB.out.trans h2); obtain ⟨x1, y1⟩ := h1.facts; clear h1 h2) | (go_at_call 48; refine (digits_any _).mono ?_; rintro e w2 ⟨rfl, hb2⟩; have HG2 := Lib.hid (HG1.out.below hb2 HG1.out.lt); have HB2 := Lib.hid (HB1.out.trans (hb2.mono HB1.out.size)); have hz2 := hb2.size; have hR2 := Has.new w2 91 zer16; rw [zer16_eq] at hR2; have HR2 := Lib.hid hR2; clear hb2 hR2) | ((with_reducible show wpList _ _ _ (Oper.mk none (Op.store 91 _ _) _ _ _ _ :: _) _ _); refine wpList_store_row rfl 91 _ _ rfl w2.heap.size hexAll rfl rfl 91 _ HR2.out hexAll_info (by rw [hexAll, row_size]; rfl) hexAll_one ?_))
      have HG5 : Hid (Has ((w2.alloc (.cells #[.int .u8 0, .int .u8 0, .int .u8 0, .int .u8 0, .int .u8 0, .int .u8 0, .int .u8 0, .int .u8 0, .int .u8 0, .int .u8 0, .int .u8 0, .int .u8 0, .int .u8 0, .int .u8 0, .int .u8 0, .int .u8 0] 91)).setRow w2.heap.size hexAll) w2.heap.size 91 hexAll) := setRow_heap _ w2.heap.size _ hexAll _ _ HR2.out
      have HG6 : Hid (Has ((w2.alloc (.cells #[.int .u8 0, .int .u8 0, .int .u8 0, .int .u8 0, .int .u8 0, .int .u8 0, .int .u8 0, .int .u8 0, .int .u8 0, .int .u8 0, .int .u8 0, .int .u8 0, .int .u8 0, .int .u8 0, .int .u8 0, .int .u8 0] 91)).setRow w2.heap.size hexAll) w.heap.size 86 #[.int .u64 (sumN s)]) := (setRow_other _ _ _ _ (Nat.ne_of_lt HG2.out.lt)).trans (HG2.out.alloc _)
      have HB6 := Lib.hid (below_setRow (HB2.out.alloc HB2.out.size (.cells #[.int .u8 0, .int .u8 0, .int .u8 0, .int .u8 0, .int .u8 0, .int .u8 0, .int .u8 0, .int .u8 0, .int .u8 0, .int .u8 0, .int .u8 0, .int .u8 0, .int .u8 0, .int .u8 0, .int .u8 0, .int .u8 0] 91)) HB2.out.size hexAll)
      obtain ⟨w3, hw3⟩ : ∃ W, (w2.alloc (.cells #[.int .u8 0, .int .u8 0, .int .u8 0, .int .u8 0, .int .u8 0, .int .u8 0, .int .u8 0, .int .u8 0, .int .u8 0, .int .u8 0, .int .u8 0, .int .u8 0, .int .u8 0, .int .u8 0, .int .u8 0, .int .u8 0] 91)).setRow w2.heap.size hexAll = W := ⟨_, rfl⟩
      have hz3 : w3.heap.size = w2.heap.size + 1 := by rw [← hw3]; simp [World.setRow]
      rw [hw3] at HG5 HG6 HB6 ⊢
      have hn6 := Has.new w3 91 zer16
      rw [hz3, zer16_eq] at hn6
      have HO7 := Lib.hid hn6
      have HG7 := Lib.hid (HG5.out.alloc (.cells #[.int .u8 0, .int .u8 0, .int .u8 0, .int .u8 0, .int .u8 0, .int .u8 0, .int .u8 0, .int .u8 0, .int .u8 0, .int .u8 0, .int .u8 0, .int .u8 0, .int .u8 0, .int .u8 0, .int .u8 0, .int .u8 0] 91))
      have HS7 := Lib.hid (HG6.out.alloc (.cells #[.int .u8 0, .int .u8 0, .int .u8 0, .int .u8 0, .int .u8 0, .int .u8 0, .int .u8 0, .int .u8 0, .int .u8 0, .int .u8 0, .int .u8 0, .int .u8 0, .int .u8 0, .int .u8 0, .int .u8 0, .int .u8 0] 91))
      have HB7 := Lib.hid (HB6.out.alloc HB6.out.size (.cells #[.int .u8 0, .int .u8 0, .int .u8 0, .int .u8 0, .int .u8 0, .int .u8 0, .int .u8 0, .int .u8 0, .int .u8 0, .int .u8 0, .int .u8 0, .int .u8 0, .int .u8 0, .int .u8 0, .int .u8 0, .int .u8 0] 91))
      have hz2' : w.heap.size < w2.heap.size := HG2.out.lt
      clear hn6 hw3
      go_loopw [26] (fun i wr => ∃ k : Nat, k ≤ 16 ∧ i = .int .i64 k ∧ Hid (Has wr (w2.heap.size + 1) 91 (outTo (sumN s) k)) ∧ Hid (Has wr w2.heap.size 91 hexAll) ∧ Hid (Has wr w.heap.size 86 #[.int .u64 (sumN s)]) ∧ Hid (Below w.heap.size w wr)) (fun i _ => 16 - (intOf i).toNat)
      case atStart => exact ⟨0, by omega, rfl, (by rw [outTo_zero, zer16_eq]; exact HO7.out), HG7.out, HS7.out, HB7.out⟩
      case round =>
        obtain ⟨k, hk, rfl, HO, HX, HS, HBr⟩ := hrel
        by_cases hlt : k < 16
        · have e := and15 (sumN s) (2 ^ (60 - 4 * k)) HLT.out
          obtain ⟨d, hd⟩ : ∃ d, d = sumN s / 2 ^ (60 - 4 * k) % 16 := ⟨_, rfl⟩
          have hd16 : d < 16 := by rw [hd]; exact Nat.mod_lt _ (by decide)
          have c0 := HX.out.rcell d hd16
          rw [← hd] at e
          have HD := Lib.hid (show (hexN d : Int) = (digAt (sumN s) k : Int) by unfold digAt; rw [← hd])
          have HF := Lib.hid (fun c hc => outTo_step (sumN s) k c hc)
          have hdi : (d : Int) < 16 := by omega
          have hd0 : (0 : Int) ≤ (d : Int) := by omega
          have hp : (HO.out.facts.1 k) = (HO.out.facts.1 k) := rfl
          clear hp hd
          obtain ⟨f6a, f6b⟩ := HO.out.facts
          obtain ⟨sa, sb⟩ := HS.out.facts
          rcases (by omega : k = 0 ∨ k = 1 ∨ k = 2 ∨ k = 3 ∨ k = 4 ∨ k = 5 ∨ k = 6 ∨ k = 7 ∨ k = 8 ∨ k = 9 ∨ k = 10 ∨ k = 11 ∨ k = 12 ∨ k = 13 ∨ k = 14 ∨ k = 15) with rfl | rfl | rfl | rfl | rfl | rfl | rfl | rfl | rfl | rfl | rfl | rfl | rfl | rfl | rfl | rfl
          · have e : bits .and .u64 ((sumN s : Int) / 1152921504606846976) 15 = (d : Int) := e
            go_wp2_with fail
            go_roundw
            case rel => exact ⟨1, by omega, rfl, (by have := HO.out.rput 0 (.int .u8 (hexN d)); rwa [HF.out _ HD.out] at this), HX.out.far _ (by simp) _, HS.out.far _ (by simp; omega) _, HBr.out.setCell (by simp; omega) _⟩
            case measure => simp [intOf]
          · have e : bits .and .u64 ((sumN s : Int) / 72057594037927936) 15 = (d : Int) := e
            go_wp2_with fail
            go_roundw
            case rel => exact ⟨2, by omega, rfl, (by have := HO.out.rput 1 (.int .u8 (hexN d)); rwa [HF.out _ HD.out] at this), HX.out.far _ (by simp) _, HS.out.far _ (by simp; omega) _, HBr.out.setCell (by simp; omega) _⟩
            case measure => simp [intOf]
          · have e : bits .and .u64 ((sumN s : Int) / 4503599627370496) 15 = (d : Int) := e
            go_wp2_with fail
            go_roundw
            case rel => exact ⟨3, by omega, rfl, (by have := HO.out.rput 2 (.int .u8 (hexN d)); rwa [HF.out _ HD.out] at this), HX.out.far _ (by simp) _, HS.out.far _ (by simp; omega) _, HBr.out.setCell (by simp; omega) _⟩
            case measure => simp [intOf]
          · have e : bits .and .u64 ((sumN s : Int) / 281474976710656) 15 = (d : Int) := e
            go_wp2_with fail
            go_roundw
            case rel => exact ⟨4, by omega, rfl, (by have := HO.out.rput 3 (.int .u8 (hexN d)); rwa [HF.out _ HD.out] at this), HX.out.far _ (by simp) _, HS.out.far _ (by simp; omega) _, HBr.out.setCell (by simp; omega) _⟩
            case measure => simp [intOf]
          · have e : bits .and .u64 ((sumN s : Int) / 17592186044416) 15 = (d : Int) := e
            go_wp2_with fail
            go_roundw
            case rel => exact ⟨5, by omega, rfl, (by have := HO.out.rput 4 (.int .u8 (hexN d)); rwa [HF.out _ HD.out] at this), HX.out.far _ (by simp) _, HS.out.far _ (by simp; omega) _, HBr.out.setCell (by simp; omega) _⟩
            case measure => simp [intOf]
          · have e : bits .and .u64 ((sumN s : Int) / 1099511627776) 15 = (d : Int) := e
            go_wp2_with fail
            go_roundw
            case rel => exact ⟨6, by omega, rfl, (by have := HO.out.rput 5 (.int .u8 (hexN d)); rwa [HF.out _ HD.out] at this), HX.out.far _ (by simp) _, HS.out.far _ (by simp; omega) _, HBr.out.setCell (by simp; omega) _⟩
            case measure => simp [intOf]
          · have e : bits .and .u64 ((sumN s : Int) / 68719476736) 15 = (d : Int) := e
            go_wp2_with fail
            go_roundw
            case rel => exact ⟨7, by omega, rfl, (by have := HO.out.rput 6 (.int .u8 (hexN d)); rwa [HF.out _ HD.out] at this), HX.out.far _ (by simp) _, HS.out.far _ (by simp; omega) _, HBr.out.setCell (by simp; omega) _⟩
            case measure => simp [intOf]
          · have e : bits .and .u64 ((sumN s : Int) / 4294967296) 15 = (d : Int) := e
            go_wp2_with fail
            go_roundw
            case rel => exact ⟨8, by omega, rfl, (by have := HO.out.rput 7 (.int .u8 (hexN d)); rwa [HF.out _ HD.out] at this), HX.out.far _ (by simp) _, HS.out.far _ (by simp; omega) _, HBr.out.setCell (by simp; omega) _⟩
            case measure => simp [intOf]
          · have e : bits .and .u64 ((sumN s : Int) / 268435456) 15 = (d : Int) := e
            go_wp2_with fail
            go_roundw
            case rel => exact ⟨9, by omega, rfl, (by have := HO.out.rput 8 (.int .u8 (hexN d)); rwa [HF.out _ HD.out] at this), HX.out.far _ (by simp) _, HS.out.far _ (by simp; omega) _, HBr.out.setCell (by simp; omega) _⟩
            case measure => simp [intOf]
          · have e : bits .and .u64 ((sumN s : Int) / 16777216) 15 = (d : Int) := e
            go_wp2_with fail
            go_roundw
            case rel => exact ⟨10, by omega, rfl, (by have := HO.out.rput 9 (.int .u8 (hexN d)); rwa [HF.out _ HD.out] at this), HX.out.far _ (by simp) _, HS.out.far _ (by simp; omega) _, HBr.out.setCell (by simp; omega) _⟩
            case measure => simp [intOf]
          · have e : bits .and .u64 ((sumN s : Int) / 1048576) 15 = (d : Int) := e
            go_wp2_with fail
            go_roundw
            case rel => exact ⟨11, by omega, rfl, (by have := HO.out.rput 10 (.int .u8 (hexN d)); rwa [HF.out _ HD.out] at this), HX.out.far _ (by simp) _, HS.out.far _ (by simp; omega) _, HBr.out.setCell (by simp; omega) _⟩
            case measure => simp [intOf]
          · have e : bits .and .u64 ((sumN s : Int) / 65536) 15 = (d : Int) := e
            go_wp2_with fail
            go_roundw
            case rel => exact ⟨12, by omega, rfl, (by have := HO.out.rput 11 (.int .u8 (hexN d)); rwa [HF.out _ HD.out] at this), HX.out.far _ (by simp) _, HS.out.far _ (by simp; omega) _, HBr.out.setCell (by simp; omega) _⟩
            case measure => simp [intOf]
          · have e : bits .and .u64 ((sumN s : Int) / 4096) 15 = (d : Int) := e
            go_wp2_with fail
            go_roundw
            case rel => exact ⟨13, by omega, rfl, (by have := HO.out.rput 12 (.int .u8 (hexN d)); rwa [HF.out _ HD.out] at this), HX.out.far _ (by simp) _, HS.out.far _ (by simp; omega) _, HBr.out.setCell (by simp; omega) _⟩
            case measure => simp [intOf]
          · have e : bits .and .u64 ((sumN s : Int) / 256) 15 = (d : Int) := e
            go_wp2_with fail
            go_roundw
            case rel => exact ⟨14, by omega, rfl, (by have := HO.out.rput 13 (.int .u8 (hexN d)); rwa [HF.out _ HD.out] at this), HX.out.far _ (by simp) _, HS.out.far _ (by simp; omega) _, HBr.out.setCell (by simp; omega) _⟩
            case measure => simp [intOf]
          · have e : bits .and .u64 ((sumN s : Int) / 16) 15 = (d : Int) := e
            go_wp2_with fail
            go_roundw
            case rel => exact ⟨15, by omega, rfl, (by have := HO.out.rput 14 (.int .u8 (hexN d)); rwa [HF.out _ HD.out] at this), HX.out.far _ (by simp) _, HS.out.far _ (by simp; omega) _, HBr.out.setCell (by simp; omega) _⟩
            case measure => simp [intOf]
          · have e : bits .and .u64 ((sumN s : Int) / 1) 15 = (d : Int) := e
            rw [Int.ediv_one] at e
            go_wp2_with fail
            go_roundw
            case rel => exact ⟨16, by omega, rfl, (by have := HO.out.rput 15 (.int .u8 (hexN d)); rwa [HF.out _ HD.out] at this), HX.out.far _ (by simp) _, HS.out.far _ (by simp; omega) _, HBr.out.setCell (by simp; omega) _⟩
            case measure => simp [intOf]
        · -- the end
          obtain rfl : k = 16 := by omega
          have hconv := run_convert_bytes_arg wr 85 5 Tryz.underlying85 Tryz.underlying5 (w2.heap.size + 1) 0 16 16 (hexL (sumN s)) (by simp [hexL]) (fun i hi => by
            have := HO.out.rcell i hi
            rw [if_pos hi] at this
            rw [Nat.zero_add, this]
            simp [hexL, List.getD_eq_getElem?_getD, List.getElem?_range hi]) 9 Tryz.underlying9
          go_wp2_with fail
          go_ret
          exact ⟨rfl, HBr.out⟩
end Go.Proofs.YtccnocgmikmonaaGreatDoor
namespace Go.Proofs
open Go.Shelf
def Tryz.lays169_ren : Go.Shelf.Ren := ⟨fun | 169 => 72 | n => n, fun | 70 => 121 | 9 => 9 | 0 => 0 | 72 => 123 | 37 => 85 | 127 => 175 | 3 => 3 | 5 => 5 | n => n, fun | n => n⟩
theorem Tryz.lays169 : Go.Proofs.Lays.n169 Tryz.prog Tryz.lays169_ren := {
  mixed := by kernel_rfl
  f169 := Tryz.func72.trans (congrArg some (by kernel_rfl))
  t0 := Tryz.underlying0
  a0 := Tryz.isAgg0
  z0 := Tryz.sizeOf0
  v0 := Tryz.zeroValue0
  t3 := Tryz.underlying3
  a3 := Tryz.isAgg3
  z3 := Tryz.sizeOf3
  v3 := Tryz.zeroValue3
  t9 := Tryz.underlying9
  a9 := Tryz.isAgg9
  z9 := Tryz.sizeOf9
  v9 := Tryz.zeroValue9
  t37 := Tryz.underlying85
  a37 := Tryz.isAgg85
  z37 := Tryz.sizeOf85
  v37 := Tryz.zeroValue85
  t70 := Tryz.underlying121
  a70 := Tryz.isAgg121
  z70 := Tryz.sizeOf121
  v70 := Tryz.zeroValue121
  t72 := Tryz.underlying123
  a72 := Tryz.isAgg123
  z72 := Tryz.sizeOf123
  v72 := Tryz.zeroValue123
  t127 := Tryz.underlying175
  a127 := Tryz.isAgg175
  z127 := Tryz.sizeOf175
  v127 := Tryz.zeroValue175 }
theorem Tryz.Builder_Extra_169 : Builder.Extra Tryz.prog Tryz.lays169_ren := {
  sizeBuilder := by kernel_rfl
  liesBuilder := by kernel_rfl
  t5 := Tryz.underlying5
  a5 := Tryz.isAgg5
  z5 := Tryz.sizeOf5
  v5 := Tryz.zeroValue5
  infoByte := by kernel_rfl
  cellsByte := by kernel_rfl
  sizeByte := by kernel_rfl
  neB5 := by decide }
open Go.RowKit in
theorem Tryz.Builder_String_any (B b : Nat) (l : List UInt8) (w : World) (h : Lib.IsBuilder 123 5 B b (Lib.byteCells l) w) (hBw : B ≤ w.heap.size) :
    Calls Tryz.prog 72 #[.pointer (some ⟨b, 0, none⟩)] w fun e w' => e = .returned (.string ⟨l.toArray⟩) ∧ Below B w w' := Any.Builder_String_any Tryz.lays169 Tryz.Builder_Extra_169 B b l w h hBw
end Go.Proofs
namespace Go.Proofs.YtccnocgmikmonaaGreatDoor
open Go Go.RowKit
/-- strconv's table of powers of ten. -/
def Tab (w : World) : Prop := Lib.TabIs Tryz.prog w "internal/strconv.uint64pow10" .u64 Lib.pow10Tab
theorem Tab.below {w w' : World} (h : Tab w) (hb : Below w.heap.size w w') : Tab w' := by
  unfold Tab Lib.TabIs World.var? at h ⊢
  cases hg : Program.globalNamed Tryz.prog "internal/strconv.uint64pow10" with
  | none => rw [hg] at h; cases h
  | some g =>
    rw [hg] at h
    simp only [Option.bind_some] at h ⊢
    have hlt : g < w.heap.size := by
      rcases Nat.lt_or_ge g w.heap.size with h' | h'
      · exact h'
      · rw [Array.getElem?_eq_none h'] at h; cases h
    rw [hb.block g hlt]
    exact h
theorem drewN_below (w : World) (k : Nat) : Below w.heap.size w (w.drewN k) := below_drewN (Below.refl _ _) k
theorem itoa_any (w0 : World) (h : Tab w0) (n : Int) (h0 : -9223372036854775808 ≤ n) (h1 : n ≤ 9223372036854775807) (w : World) (hb : Below w0.heap.size w0 w) :
    Calls Tryz.prog 40 #[.int .i64 n] w fun e w' => e = .returned (.string ⟨(Lib.itoa n).toArray⟩) ∧ Below w.heap.size w w' := by
  refine (Tryz.strconv_Itoa n h0 h1 w (h.below hb)).mono ?_
  rintro e w' ⟨rfl, k, os, rfl⟩
  exact ⟨rfl, below_grow (drewN_below w k) (Nat.le_refl _) os⟩
/-- A text with its length ahead of it. -/
def oneL (s : ByteArray) : List UInt8 := Lib.itoa s.size ++ 58 :: s.data.toList
def joinedL (l : List ByteArray) : List UInt8 := l.flatMap oneL
theorem joinedL_step (l : List ByteArray) (k : Nat) (hk : k < l.length) : joinedL (l.take (k + 1)) = joinedL (l.take k) ++ oneL (l.getD k ByteArray.empty) := by
  unfold joinedL
  rw [List.take_add_one, List.flatMap_append, List.getElem?_eq_getElem hk, List.getD_eq_getElem?_getD, List.getElem?_eq_getElem hk]
  simp
theorem joinedL_le (l : List ByteArray) (k : Nat) : (joinedL (l.take k)).length ≤ (joinedL l).length := by
  unfold joinedL
  conv => rhs; rw [← List.take_append_drop k l, List.flatMap_append, List.length_append]
  omega
theorem cells_one (a : List UInt8) (s t : ByteArray) : Lib.byteCells a ++ Lib.strCells (t ++ s) = Lib.byteCells (a ++ (t.data.toList ++ s.data.toList)) := by
  unfold Lib.byteCells Lib.strCells
  rw [List.map_append, List.map_append, ByteArray.data_append, Array.toList_append, List.map_append]
theorem isB_below {T e B b : Nat} {bs : List Value} {w w' : World} (h : Lib.IsBuilder T e B b bs w) (hb : Below w.heap.size w w') : Lib.IsBuilder T e B b bs w' := by
  rcases h with h | h
  · obtain ⟨h1, v, h2, h3, h4⟩ := h
    exact .inl ⟨h1, v, (hb.block b (Array.getElem?_eq_some_iff.1 h2).1).trans h2, own_below h3 hb (Nat.le_refl _), h4⟩
  · obtain ⟨h1, v, h2, h3, h4⟩ := h
    exact .inr ⟨h1, v, (hb.block b (Array.getElem?_eq_some_iff.1 h2).1).trans h2, own_below h3 hb (Nat.le_refl _), h4⟩
set_option maxRecDepth 100000 in
set_option maxHeartbeats 4000000 in
theorem list_any (w0 : World) (v : Value) (l : List ByteArray) (w : World) (ht : Tab w0) (hb0 : Below w0.heap.size w0 w) (hv : Sl w0 v l.length 1 (strF l)) (hl : (joinedL l).length ≤ 1000000000) (hl2 : l.length ≤ 1000000) :
    Calls Tryz.prog 42 #[v] w fun e w' => e = .returned (.string (sumB ⟨(joinedL l).toArray⟩)) ∧ Below w.heap.size w w' := by
  obtain ⟨A, c, rfl, hn, hc⟩ := hv
  have HC := Lib.hid hc
  have HB0 := Lib.hid hb0
  have hsz0 := hb0.size
  have HIT := Lib.hid (fun n h0 h1 W hb => itoa_any w0 ht n h0 h1 W hb)
  have hf := Lib.fresh_isBuilder 123 5 w
  have HF := Lib.hid hf
  have HB1 := Lib.hid ((Below.refl w.heap.size w).alloc (Nat.le_refl _) (.cells #[.pointer none, .slice none 0 0] 123))
  clear hc hb0 ht hf
  go_enter Tryz.func42, Tryz.ntmps42
  go_wp2_with fail
  go_loopw [8] (fun i wr => ∃ k : Nat, k ≤ l.length ∧ i = .int .i64 k ∧ Hid (Lib.IsBuilder 123 5 w.heap.size w.heap.size (Lib.byteCells (joinedL (l.take k))) wr) ∧ Hid (Below w.heap.size w wr)) (fun i _ => l.length - (intOf i).toNat)
  case atStart => exact ⟨0, Nat.zero_le _, rfl, HF.out, HB1.out⟩
  case round =>
    obtain ⟨k, hk, rfl, HK, HB⟩ := hrel
    by_cases hlt : k < l.length
    · rcases HC.out with h0 | ⟨b, o, rfl, hcc⟩
      · omega
      have hcell : wr.cell? ⟨b, o + k, none⟩ = some (.string (l.getD k ByteArray.empty)) := cell_later (HB0.out.trans (HB.out.mono hsz0)) (hcc k (by omega))
      have HJ := Lib.hid (joinedL_step l k hlt)
      have hki : (k : Int) < (l.length : Int) := by omega
      have HLE := Lib.hid (joinedL_le l (k + 1))
      clear hcc
      generalize l.getD k ByteArray.empty = s at hcell HJ
      have hs : (s.size : Int) ≤ 1000000000 := by
        have h1 := HLE.out
        rw [HJ.out] at h1
        simp [oneL] at h1
        have h2 : s.data.size = s.size := rfl
        omega
      have HS := Lib.hid hs
      have hs0 : (-9223372036854775808 : Int) ≤ (s.size : Int) := by omega
      have hs1 : (s.size : Int) ≤ 9223372036854775807 := by omega
      have HI := Lib.hid (HIT.out (s.size : Int) hs0 hs1)
      have HLL := Lib.hid hl
      obtain ⟨I, hI⟩ : ∃ I : ByteArray, I = ⟨(Lib.itoa (s.size : Int)).toArray⟩ := ⟨_, rfl⟩
      rw [← hI] at HI
      have HEQ : Hid (Lib.byteCells (joinedL (l.take k)) ++ Lib.strCells ((I ++ ⟨#[58]⟩) ++ s) = Lib.byteCells (joinedL (l.take (k + 1)))) := by
        show _ = _
        rw [cells_one, HJ.out, hI]
        unfold oneL
        simp
      have HLN : Hid ((Lib.byteCells (joinedL (l.take k))).length + ((I ++ ⟨#[58]⟩) ++ s).size ≤ 140737488355328) := by
        show _ ≤ _
        have h1 := congrArg List.length HEQ.out
        rw [List.length_append, Lib.strCells_length, Lib.byteCells_length, Lib.byteCells_length] at h1
        have h2 := HLE.out
        rw [Lib.byteCells_length]
        omega
      have hsz3 : ((I ++ ⟨#[58]⟩) ++ s).size = I.size + 1 + s.size := by rw [ByteArray.size_append, ByteArray.size_append]; rfl
      have hn1 : ¬ 9223372036854775807 < I.size + 1 := by have := HLN.out; omega
      have hn2 : ¬ 9223372036854775807 < I.size + 1 + s.size := by have := HLN.out; omega
      clear hs hs0 hs1 hI hl hsz3
      generalize Lib.byteCells (joinedL (l.take k)) = bs at HK HEQ HLN
      go_wp2_with (first | (go_at_call 40; refine (HI.out _ (HB0.out.trans (HB.out.mono hsz0))).mono ?_; rintro e w2 ⟨rfl, hb2⟩; have HK2 := Lib.hid (isB_below HK.out hb2); have HB2 := Lib.hid (HB.out.trans (hb2.mono HB.out.size)); clear hb2) | (go_at_call 71; refine (writeStr_any w.heap.size w.heap.size bs _ _ HK2.out HLN.out HB2.out.size).mono ?_; rintro e w3 ⟨rfl, h3, hb3⟩; rw [HEQ.out] at h3; have HK3 := Lib.hid h3; have HB3 := Lib.hid (HB2.out.trans hb3); clear h3 hb3))
      go_roundw
      case rel => exact ⟨k + 1, by omega, by go_num, HK3.out, HB3.out⟩
      case measure => simp [intOf]; omega
    · obtain rfl : k = l.length := by omega
      have HKE : Hid (Lib.IsBuilder 123 5 w.heap.size w.heap.size (Lib.byteCells (joinedL l)) wr) := by
        have := HK.out
        rwa [List.take_length] at this
      have HSU := Lib.hid (fun W => sum_any ⟨(joinedL l).toArray⟩ (by unfold maxLen; show (joinedL l).toArray.size ≤ _; simp; omega) W)
      go_wp2_with (first | (go_at_call 72; refine (Tryz.Builder_String_any w.heap.size w.heap.size (joinedL l) _ HKE.out HB.out.size).mono ?_; rintro e w2 ⟨rfl, hb2⟩; have HB2 := Lib.hid (HB.out.trans hb2); clear hb2) | (go_at_call 22; refine (HSU.out _).mono ?_; rintro e w3 ⟨rfl, hb3⟩; have HB3 := Lib.hid (HB2.out.trans (hb3.mono HB2.out.size)); clear hb3))
      go_ret
      exact ⟨rfl, HB3.out⟩
end Go.Proofs.YtccnocgmikmonaaGreatDoor
