/- Contracts of library functions at this translation, as the shelf lays them: slices_Sort_string, slices_Sort_string_none. Rows of different element types share no block. No condition. slices.Concat over slices of strings (and the slices.Grow that it calls). report.joined: the elements of lists, in increasing order, each once. Sorted lists of names, each once: plain laws. report.Names: the parts that a report mentions. -/
import Derived.Lib.AppendZeros
import Derived.Shelf.LaysC
import Derived.Shelf.LaysM
import Derived.Shelf.Slices.Cells
import Derived.Shelf.Slices.CompactS
import Derived.Shelf.Slices.In.SortNone
import Derived.Shelf.Small.Bits
import Derived.Shelf.Small.Strs
import Derived.Shelf.Sort.Plain
import Derived.Shelf.Strconv.Atoi
import Derived.Shelf.Strconv.AtoiAll
import Derived.Shelf.Strconv.AtoiErrFast
import Derived.Shelf.Strconv.AtoiFail
import Derived.Shelf.Strconv.AtoiInnerAll
import Derived.Shelf.Strconv.AtoiLong
import Derived.Shelf.Strconv.Clone
import Derived.Shelf.Strconv.ErrVarAll
import Derived.Shelf.Strconv.Itoa0
import Derived.Shelf.Strconv.Itoa1
import Derived.Shelf.Strconv.Itoa2
import Derived.Shelf.Strconv.Itoa3
import Derived.Shelf.Strconv.Lower
import Derived.Shelf.Strconv.ParseInt10
import Derived.Shelf.Strconv.ParseIntEmpty
import Derived.Shelf.Strconv.ParseUint10
import Derived.Shelf.Strconv.ParseUint10Any
import Derived.Shelf.Strconv.ParseUint10Empty
import Derived.Shelf.Strconv.ParseUintEmpty
import Derived.Shelf.Strconv.RangeError
import Derived.Shelf.Strconv.SyntaxError
import Derived.Shelf.Strconv.ToError
import Derived.Shelf.Strconv.ToErrorRange
import Derived.Shelf.Strings.Builder1
import Derived.Shelf.Strings.Builder2
import Derived.Shelf.Strings.Builder2Cap
import Derived.Shelf.Strings.BuilderCap
import Derived.Shelf.Strings.BuilderF
import Derived.Shelf.Strings.BuilderK
import Derived.Shelf.Strings.Count
import Derived.Shelf.Strings.Explode
import Derived.Shelf.Strings.OnBuilder
import Derived.Shelf.Strings.RuneCount
import Derived.Shelf.Strings.Search1
import Derived.Shelf.Strings.Search2
import Derived.Shelf.Strings.Search3
import Derived.Shelf.Strings.Shaped
import Derived.Shelf.Strings.Split
import Derived.Shelf.Strings.SplitShaped
import Derived.Shelf.Unicode.Decode
import Derived.Shelf.Unicode.DecodeAny
import Derived.Shelf.Unicode.DecodeSlow
import Derived.Shelf.Utf8.RuneCount
import Derived.Test.YtjlpllnhefafkaaGreatDoorProg
import Derived.Test.YtjlpllnhefafkaaGreatDoorU01
import Derived.Test.YtjlpllnhefafkaaGreatDoorU07
import Derived.Test.YtjlpllnhefafkaaGreatDoorU08
namespace Go.Proofs
open Go.Shelf
def Tryz.lays190_ren : Go.Shelf.Ren := ⟨fun | 190 => 59 | 125 => 81 | 258 => 80 | 128 => 107 | 129 => 108 | 302 => 98 | 303 => 99 | 304 => 100 | 305 => 101 | 306 => 102 | 307 => 103 | 308 => 104 | 309 => 105 | 310 => 106 | 333 => 123 | 329 => 124 | 330 => 125 | 334 => 126 | 335 => 127 | 336 => 128 | 344 => 138 | n => n, fun | 31 => 41 | 9 => 9 | 3 => 3 | 46 => 117 | 0 => 0 | 51 => 144 | 53 => 146 | 4 => 4 | 183 => 136 | 182 => 135 | 131 => 141 | 5 => 5 | 218 => 157 | 222 => 161 | 228 => 177 | 229 => 178 | n => n, fun | n => n⟩
theorem Tryz.lays190 : Go.Proofs.Lays.n190 Tryz.prog Tryz.lays190_ren := {
  mixed := by kernel_rfl
  f125 := Tryz.func81.trans (congrArg some (by kernel_rfl))
  f128 := Tryz.func107.trans (congrArg some (by kernel_rfl))
  f129 := Tryz.func108.trans (congrArg some (by kernel_rfl))
  f190 := Tryz.func59.trans (congrArg some (by kernel_rfl))
  f258 := Tryz.func80.trans (congrArg some (by kernel_rfl))
  f302 := Tryz.func98.trans (congrArg some (by kernel_rfl))
  f303 := Tryz.func99.trans (congrArg some (by kernel_rfl))
  f304 := Tryz.func100.trans (congrArg some (by kernel_rfl))
  f305 := Tryz.func101.trans (congrArg some (by kernel_rfl))
  f306 := Tryz.func102.trans (congrArg some (by kernel_rfl))
  f307 := Tryz.func103.trans (congrArg some (by kernel_rfl))
  f308 := Tryz.func104.trans (congrArg some (by kernel_rfl))
  f309 := Tryz.func105.trans (congrArg some (by kernel_rfl))
  f310 := Tryz.func106.trans (congrArg some (by kernel_rfl))
  f329 := Tryz.func124.trans (congrArg some (by kernel_rfl))
  f330 := Tryz.func125.trans (congrArg some (by kernel_rfl))
  f333 := Tryz.func123.trans (congrArg some (by kernel_rfl))
  f334 := Tryz.func126.trans (congrArg some (by kernel_rfl))
  f335 := Tryz.func127.trans (congrArg some (by kernel_rfl))
  f336 := Tryz.func128.trans (congrArg some (by kernel_rfl))
  f344 := Tryz.func138.trans (congrArg some (by kernel_rfl))
  t0 := Tryz.underlying0
  a0 := Tryz.isAgg0
  z0 := Tryz.sizeOf0
  v0 := Tryz.zeroValue0
  t3 := Tryz.underlying3
  a3 := Tryz.isAgg3
  z3 := Tryz.sizeOf3
  v3 := Tryz.zeroValue3
  t4 := Tryz.underlying4
  a4 := Tryz.isAgg4
  z4 := Tryz.sizeOf4
  v4 := Tryz.zeroValue4
  t5 := Tryz.underlying5
  a5 := Tryz.isAgg5
  z5 := Tryz.sizeOf5
  v5 := Tryz.zeroValue5
  t9 := Tryz.underlying9
  a9 := Tryz.isAgg9
  z9 := Tryz.sizeOf9
  v9 := Tryz.zeroValue9
  t31 := Tryz.underlying41
  a31 := Tryz.isAgg41
  z31 := Tryz.sizeOf41
  v31 := Tryz.zeroValue41
  t46 := Tryz.underlying117
  a46 := Tryz.isAgg117
  z46 := Tryz.sizeOf117
  v46 := Tryz.zeroValue117
  t51 := Tryz.underlying144
  a51 := Tryz.isAgg144
  z51 := Tryz.sizeOf144
  v51 := Tryz.zeroValue144
  t53 := Tryz.underlying146
  a53 := Tryz.isAgg146
  z53 := Tryz.sizeOf146
  v53 := Tryz.zeroValue146
  t131 := Tryz.underlying141
  a131 := Tryz.isAgg141
  z131 := Tryz.sizeOf141
  v131 := Tryz.zeroValue141
  t182 := Tryz.underlying135
  a182 := Tryz.isAgg135
  z182 := Tryz.sizeOf135
  v182 := Tryz.zeroValue135
  t183 := Tryz.underlying136
  a183 := Tryz.isAgg136
  z183 := Tryz.sizeOf136
  v183 := Tryz.zeroValue136
  t218 := Tryz.underlying157
  a218 := Tryz.isAgg157
  z218 := Tryz.sizeOf157
  v218 := Tryz.zeroValue157
  t222 := Tryz.underlying161
  a222 := Tryz.isAgg161
  z222 := Tryz.sizeOf161
  v222 := Tryz.zeroValue161
  t228 := Tryz.underlying177
  a228 := Tryz.isAgg177
  z228 := Tryz.sizeOf177
  v228 := Tryz.zeroValue177
  t229 := Tryz.underlying178
  a229 := Tryz.isAgg178
  z229 := Tryz.sizeOf178
  v229 := Tryz.zeroValue178 }
open Go.Sort Go.RowKit in
theorem Tryz.slices_Sort_string (blk off cap : Nat) (ss : List (List UInt8)) (w : World) (hH : Holds encStr w blk off ss.toArray) (hblk : blk < w.heap.size) (hsz : ss.length < 4611686018427387904) :
    Calls Tryz.prog 59 #[.slice (some ⟨blk, off, none⟩) ss.length cap] w fun e w' =>
      e = .returned (.tuple #[]) ∧ ∃ n os, w' = grow (putRow encStr (Sort.ahead w n) blk off (ss.mergeSort fun x y => decide (x ≤ y)).toArray) os := Any.slices_Sort_string Tryz.lays190 blk off cap ss w hH hblk hsz
open Go.RowKit Go.Sort in
theorem Tryz.slices_Sort_string_none (p : Option Addr) (cap : Nat) (w : World) :
    Calls Tryz.prog 59 #[.slice p 0 cap] w fun e w' => e = .returned (.tuple #[]) ∧ w' = w := Any.slices_Sort_string_none Tryz.lays190 p cap w
end Go.Proofs
namespace Go.Proofs.YtjlpllnhefafkaaGreatDoor
open Go Go.RowKit
theorem own_apart {w : World} {b b' t t' sz sz' n n' : Nat} {v v' : Value} {xs xs' : List Value} (h : w.ownsRow b t sz v n xs) (h' : w.ownsRow b' t' sz' v' n' xs') (ht : t ≠ t') : v.ownBlock = none ∨ v.ownBlock ≠ v'.ownBlock := by
  rcases h.2 with ⟨rfl, _⟩ | ⟨g, cap, cur, rfl, _, hh, _⟩
  · exact .inl rfl
  · right
    rcases h'.2 with ⟨rfl, _⟩ | ⟨g', cap', cur', rfl, _, hh', _⟩
    · intro he; cases he
    · intro he
      have e : g = g' := Option.some.inj he
      subst e
      rw [hh] at hh'
      injection hh' with hh'
      injection hh' with _ e2
      exact ht e2
end Go.Proofs.YtjlpllnhefafkaaGreatDoor
namespace Go.Proofs.YtjlpllnhefafkaaGreatDoor
open Go Go.RowKit
theorem slc_one {k : Nat} {f : Nat → Value} (h : ∀ j, j < k → (f j).oneCell' = true) : ∀ u ∈ slCells k f, u.oneCell' = true := by
  intro u hu
  simp only [slCells, List.mem_map, List.mem_range] at hu
  obtain ⟨j, hj, rfl⟩ := hu
  exact h j hj
theorem info_strC : (Tryz.prog.info? 9).map (fun i => (i.zero, i.size, i.bytes)) = some (some (.string ⟨#[]⟩), 1, 16) := by kernel_rfl
theorem zeroCells_size (z : Array Value) (n : Nat) : (Builtin.zeroCells z n).size = n * z.size := by simp [Builtin.zeroCells]
set_option maxRecDepth 100000 in
set_option maxHeartbeats 1000000 in
theorem growStr_any (n : Nat) (hn : n ≤ 100000) (w : World) :
    Calls Tryz.prog 79 #[.slice none 0 0, .int .i64 n] w fun r w' => ∃ v, r = .returned v ∧ w'.ownsRow w.heap.size 9 1 v 0 [] ∧ Below w.heap.size w w' := by
  obtain ⟨i0, hi, hz0, hq1, hq2⟩ := info_parts info_strC
  have hI := Lib.hid hi
  have hZ := Lib.hid hz0
  clear hi hz0
  rcases Nat.eq_zero_or_pos n with rfl | h0
  · go_enter Tryz.func79, Tryz.ntmps79
    go_wp2
    go_ret
    exact ⟨_, rfl, World.ownsRow_nil _ _ _ _, Below.refl _ _⟩
  · have hrun := Lib.hid (fun W ty => Lib.run_append_nil_zeros (P := Tryz.prog) W 41 3 ty 9 i0 (.string ⟨#[]⟩) .i64 .i64 Tryz.underlying41 Tryz.underlying3 hI.out hZ.out n h0 (by omega) (by omega) (by rw [hq2]; omega))
    have hcap := grownCap_ge w n 0 9
    have hcm := grownCap_le_maxLen w n 0 9 (by unfold maxLen; omega)
    have hpos : (0 : Int) < n := by omega
    go_enter Tryz.func79, Tryz.ntmps79
    go_wp2_with (at_builtin; refine Lib.wpList_append_run _ rfl _ _ _ _ rfl _ _ rfl rfl _ _ (hrun.out _ _) ?_)
    go_ret
    refine ⟨_, rfl, World.ownsRow_made w.drew _ _ (Nat.le_refl _) hcm ?_, (Below.refl _ _).drew.alloc (Nat.le_refl _) _⟩
    rw [Array.size_append, zeroCells_size, zeroCells_size]
    simp
    omega
/-- A slice of slices of strings. -/
def StrRows (w : World) (v : Value) (LL : List (List ByteArray)) : Prop :=
  ∃ A c, v = .slice A LL.length c ∧ LL.length ≤ c ∧ (LL.length = 0 ∨ ∃ b o, A = some ⟨b, o, none⟩ ∧ ∀ i, i < LL.length → ∃ sv, w.cell? ⟨b, o + i, none⟩ = some sv ∧ Sl w sv (LL.getD i []).length 1 (strF (LL.getD i [])))
theorem StrRows.below {w w' : World} {v : Value} {LL : List (List ByteArray)} (h : StrRows w v LL) (hb : Below w.heap.size w w') : StrRows w' v LL := by
  obtain ⟨A, c, hv, hn, h0 | ⟨b, o, hA, hc⟩⟩ := h
  · exact ⟨A, c, hv, hn, .inl h0⟩
  · refine ⟨A, c, hv, hn, .inr ⟨b, o, hA, fun i hi => ?_⟩⟩
    obtain ⟨sv, h1, h2⟩ := hc i hi
    exact ⟨sv, cell_later hb h1, h2.below hb⟩
/-- How many strings the first k rows hold; all of them. -/
def sumL (LL : List (List ByteArray)) (k : Nat) : Nat := (LL.take k).flatten.length
theorem sumL_zero (LL : List (List ByteArray)) : sumL LL 0 = 0 := rfl
theorem flat_succ (LL : List (List ByteArray)) (k : Nat) (h : k < LL.length) : (LL.take (k + 1)).flatten = (LL.take k).flatten ++ LL.getD k [] := by
  rw [List.take_add_one, List.getElem?_eq_getElem h, List.flatten_append, List.getD_eq_getElem?_getD, List.getElem?_eq_getElem h]; simp
theorem sumL_succ (LL : List (List ByteArray)) (k : Nat) (h : k < LL.length) : sumL LL (k + 1) = sumL LL k + (LL.getD k []).length := by
  unfold sumL; rw [flat_succ LL k h, List.length_append]
theorem sumL_le (LL : List (List ByteArray)) (k : Nat) : sumL LL k ≤ LL.flatten.length := by
  have : LL.flatten = (LL.take k).flatten ++ (LL.drop k).flatten := by rw [← List.flatten_append, List.take_append_drop]
  unfold sumL; rw [this, List.length_append]; omega
theorem strF_cells (l : List ByteArray) : slCells (l.length * 1) (strF l) = l.map .string := by
  apply List.ext_getElem?
  intro j
  by_cases hj : j < l.length
  · rw [slCells_get _ _ _ (by omega), List.getElem?_map, List.getElem?_eq_getElem hj]
    unfold strF; rw [List.getD_eq_getElem?_getD, List.getElem?_eq_getElem hj]; rfl
  · rw [List.getElem?_eq_none (by rw [slCells_len]; omega), List.getElem?_eq_none (by simp; omega)]

set_option maxRecDepth 100000 in
set_option maxHeartbeats 2000000 in
theorem concat_any (v : Value) (LL : List (List ByteArray)) (w : World) (hv : StrRows w v LL) (hl : LL.length ≤ 10000) (hs : LL.flatten.length ≤ 100000) :
    Calls Tryz.prog 58 #[v] w fun r w' => ∃ v', r = .returned v' ∧ w'.ownsRow w.heap.size 9 1 v' LL.flatten.length (LL.flatten.map .string) ∧ Below w.heap.size w w' := by
  obtain ⟨i0, hi, hz0, hq1, hq2⟩ := info_parts info_strC
  have hI := Lib.hid hi
  have hZ := Lib.hid hz0
  clear hi hz0
  have HV := Lib.hid hv
  obtain ⟨A, c, rfl, hn, hc⟩ := hv
  have HC := Lib.hid hc
  clear hc
  go_enter Tryz.func58, Tryz.ntmps58
  go_wp2_with fail
  go_loop [3, 11] (fun s i => ∃ k : Nat, k ≤ LL.length ∧ i = .int .i64 k ∧ s = .int .i64 (sumL LL k)) (fun _ i => LL.length - (intOf i).toNat)
  case atStart => exact ⟨0, Nat.zero_le _, rfl, rfl⟩
  case round =>
    obtain ⟨k, hk, rfl, rfl⟩ := hrel
    by_cases hlt : k < LL.length
    · rcases HC.out with h0 | ⟨b, o, rfl, hc⟩
      · omega
      obtain ⟨sv, hc1, hc2⟩ := hc k hlt
      have hsu := Lib.hid (sumL_succ LL k hlt)
      have hle := sumL_le LL k
      have hle2 := sumL_le LL (k + 1)
      rw [hsu.out] at hle2
      obtain ⟨A2, c2, rfl, hn2, hc3⟩ := hc2
      have hneg : ¬ ((sumL LL k : Int) + ((LL.getD k []).length : Int) < 0) := by omega
      clear hc hc3
      generalize LL.getD k [] = l at *
      generalize sumL LL k = s at *
      go_wp2_with fail
      go_round
      case rel => exact ⟨k + 1, by omega, by go_num, by rw [hsu.out]; go_num⟩
      case measure => simp [intOf]; omega
    · obtain rfl : k = LL.length := by omega
      have hfl : sumL LL LL.length = LL.flatten.length := by unfold sumL; rw [List.take_length]
      rw [hfl]
      generalize hN : LL.flatten.length = N at *
      have HN := Lib.hid hN
      clear hN hfl
      go_wp2_with (go_at_call 79; refine (growStr_any N hs _).mono ?_; rintro r w2 ⟨v2, rfl, hown2, hb2⟩; have HOWN2 := Lib.hid hown2; have HB2 := Lib.hid hb2; clear hown2 hb2)
      go_loopw [6, 27] (fun s i wr => ∃ k : Nat, k ≤ LL.length ∧ i = .int .i64 k ∧ wr.ownsRow w.heap.size 9 1 s (sumL LL k) ((LL.take k).flatten.map .string) ∧ Below w.heap.size w wr) (fun _ i _ => LL.length - (intOf i).toNat)
      case atStart => exact ⟨0, Nat.zero_le _, rfl, HOWN2.out, HB2.out⟩
      case round =>
        obtain ⟨k, hk, rfl, hown, hB⟩ := hrel
        by_cases hlt : k < LL.length
        · rcases HC.out with h0 | ⟨b, o, rfl, hc⟩
          · omega
          obtain ⟨sv, hc1, hc2⟩ := hc k hlt
          have hd1 := cell_later hB hc1
          have hsl := hc2.below hB
          have hsu := Lib.hid (sumL_succ LL k hlt)
          have hfs := Lib.hid (flat_succ LL k hlt)
          have hle2 := sumL_le LL (k + 1)
          rw [hsu.out, HN.out] at hle2
          have hsh := hsl
          obtain ⟨A2, c2, rfl, hn2, _⟩ := hsh
          have hX := Lib.hid (sl_src hsl).2
          have HOWN := Lib.hid hown
          have HB := Lib.hid hB
          clear hc hc1 hc2 hsl hown hB
          generalize LL.getD k [] = l at *
          go_wp2_with (at_builtin; refine wpList_app rfl (.tmp 31) (.tmp 32) 41 rfl w.heap.size 9 i0 (.string ⟨#[]⟩) 1 16 Tryz.underlying41 hI.out hZ.out hq1 hq2 rfl (by decide) _ _ _ rfl HOWN.out A2 l.length c2 (slCells (l.length * 1) (strF l)) rfl (slCells_len _ _) hX.out (slc_one fun j _ => rfl) (by unfold maxLen; omega) (by omega) HB.out.size ?_; intro v7 w7 hown7 hg7; have G7 := Lib.hid (HB.out.grown hg7 HB.out.size (fun j hj => (HOWN.out.lt j hj).1)); have HOWN7 := Lib.hid hown7; clear hown7 hg7)
          go_roundw
          case rel => exact ⟨k + 1, by omega, by go_num, by rw [hsu.out, hfs.out, List.map_append, ← strF_cells l]; exact HOWN7.out, G7.out⟩
          case measure => simp [intOf]; omega
        · obtain rfl : k = LL.length := by omega
          have HOWN := Lib.hid (show wr.ownsRow w.heap.size 9 1 _ LL.flatten.length (LL.flatten.map .string) by have h := hown; unfold sumL at h; rw [List.take_length] at h; exact h)
          have HB := Lib.hid hB
          clear hown hB
          go_wp2_with fail
          go_ret
          exact ⟨_, rfl, by rw [← HN.out]; exact HOWN.out, HB.out⟩
end Go.Proofs.YtjlpllnhefafkaaGreatDoor
namespace Go.Proofs.YtjlpllnhefafkaaGreatDoor
open Go Go.RowKit
section
variable {α : Type} [Inhabited α] {enc : α → Value} {w w' : World} {B : Nat}
theorem below_putRow (h : Below B w w') (blk off : Nat) (d : Array α) (hB : B ≤ blk) : Below B w (Sort.putRow enc w' blk off d) :=
  ⟨h.os, h.tape, h.output, by rw [Sort.size_putRow]; exact h.size, fun k hk => by
    show (w'.heap.modify blk _)[k]? = _
    rw [Array.getElem?_modify, if_neg (by omega)]
    exact h.block k hk⟩
theorem below_ahead (h : Below B w w') (n : Nat) : Below B w (Sort.ahead w' n) := ⟨h.os, h.tape, h.output, h.size, h.block⟩
theorem below_growJ (h : Below B w w') (hB : B ≤ w'.heap.size) (os : Array Obj) : Below B w (Sort.grow w' os) :=
  ⟨h.os, h.tape, h.output, by show _ ≤ (w'.heap ++ os).size; rw [Array.size_append]; have := h.size; omega, fun k hk => by
    rw [Sort.heap_grow_old w' os (by omega)]; exact h.block k hk⟩
theorem holds_grow {blk off : Nat} {d : Array α} (h : Sort.Holds enc w blk off d) (hb : blk < w.heap.size) (os : Array Obj) : Sort.Holds enc (Sort.grow w os) blk off d := fun j hj => by
  obtain ⟨h1, h2⟩ := h j hj
  exact ⟨by rw [Sort.cell?_grow _ _ _ hb]; exact h1, by rw [Sort.frozen?_grow _ _ _ hb]; exact h2⟩
theorem holds_ahead {blk off : Nat} {d : Array α} (h : Sort.Holds enc w blk off d) (n : Nat) : Sort.Holds enc (Sort.ahead w n) blk off d := h
end
def toL (s : ByteArray) : List UInt8 := s.data.toList
def ofL (l : List UInt8) : ByteArray := ⟨l.toArray⟩
theorem ofL_toL (s : ByteArray) : ofL (toL s) = s := by cases s; simp [ofL, toL]
theorem toL_ofL (l : List UInt8) : toL (ofL l) = l := by simp [ofL, toL]
def sortL (S : List ByteArray) : List (List UInt8) := (S.map toL).mergeSort fun x y => decide (x ≤ y)
def joinL (S : List ByteArray) : List ByteArray := (Lib.compact (sortL S)).map ofL
theorem sortL_len (S : List ByteArray) : (sortL S).length = S.length := by simp [sortL]
theorem joinL_len (S : List ByteArray) : (joinL S).length ≤ S.length := by
  unfold joinL
  rw [List.length_map]
  exact Nat.le_trans (Lib.compact_length_le _) (by rw [sortL_len]; exact Nat.le_refl _)

set_option maxRecDepth 100000 in
set_option maxHeartbeats 2000000 in
theorem joined_any (v : Value) (LL : List (List ByteArray)) (w : World) (hv : StrRows w v LL) (hl : LL.length ≤ 10000) (S : List ByteArray) (hS : LL.flatten = S) (hs : S.length ≤ 100000) :
    Calls Tryz.prog 32 #[v] w fun r w' => ∃ v', r = .returned v' ∧ Sl w' v' (joinL S).length 1 (strF (joinL S)) ∧ Below w.heap.size w w' := by
  have HV := Lib.hid hv
  have HS := Lib.hid hS
  obtain ⟨A, c, rfl, hn, hc⟩ := hv
  clear hc hS
  go_enter Tryz.func32, Tryz.ntmps32
  go_wp2_with fail
  refine (concat_any _ LL _ HV.out hl (by rw [HS.out]; exact hs)).mono ?_
  rintro r w2 ⟨v2, rfl, hown, hB⟩
  rw [HS.out] at hown
  have HB := Lib.hid hB
  clear hB HV HS
  rcases hown.2 with ⟨rfl, h0⟩ | ⟨g, cap, cur, rfl, hg, hh, hnc, hcm, hcs, ht⟩
  · have hj : joinL S = [] := List.eq_nil_of_length_eq_zero (by have := joinL_len S; omega)
    have HJ := Lib.hid hj
    clear hj h0 hown
    go_wp2_with fail
    refine (Tryz.slices_Sort_string_none _ _ _).mono ?_
    rintro r w3 ⟨rfl, rfl⟩
    go_wp2_with fail
    refine (Tryz.slices_Compact_string_empty _ _ _).mono ?_
    rintro r w4 ⟨rfl, rfl⟩
    go_wp2_with fail
    go_ret
    exact ⟨_, rfl, by rw [HJ.out]; exact ⟨_, _, rfl, Nat.le_refl _, .inl rfl⟩, HB.out⟩
  · have hgl : g < w2.heap.size := (Array.getElem?_eq_some_iff.1 hh).1
    have hlen : (sortL S).length = S.length := sortL_len _
    have hH : Sort.Holds encStr w2 g 0 (S.map toL).toArray := by
      intro j hj
      have hj' : j < S.length := by simpa using hj
      have hx : (S.map toL).toArray[j]! = toL S[j] := by rw [getElem!_pos _ j hj]; simp
      rw [hx, Nat.zero_add]
      refine ⟨?_, frozen_of_row w2 g j cur _ hh⟩
      rw [cell_of_row w2 g j cur _ (0, 0) hh]
      have h1 : (S.map Value.string)[j]? = some (.string S[j]) := by rw [List.getElem?_map, List.getElem?_eq_getElem hj']; rfl
      rw [← ht, List.getElem?_take, if_pos (by omega)] at h1
      have h2 : cur[j]? = some (.string S[j]) := by simpa using h1
      rw [h2]
      show _ = some (Value.string (ofL (toL S[j])))
      rw [ofL_toL]
    have hlm : (S.map toL).length = S.length := by simp
    have HH := Lib.hid hH
    have hjl : (joinL S).length = (Lib.compact (sortL S)).length := by simp [joinL]
    have hcl : (Lib.compact (sortL S)).length ≤ S.length := by rw [← hjl]; exact joinL_len S
    have HJL := Lib.hid hjl
    have HLM := Lib.hid hlm
    have HLEN := Lib.hid hlen
    clear hH hown ht hlm hjl hlen hh hcs
    go_wp2_with fail
    rw [← HLM.out]
    refine (Tryz.slices_Sort_string g 0 cap (S.map toL) _ HH.out hgl (by rw [HLM.out]; omega)).mono ?_
    rintro r w3 ⟨rfl, n3, os3, rfl⟩
    have hH3 : Sort.Holds encStr (Sort.grow (Sort.putRow encStr (Sort.ahead w2 n3) g 0 (sortL S).toArray) os3) g 0 (sortL S).toArray :=
      holds_grow (Sort.holds_putRow _ _ _ _ _ _ (holds_ahead HH.out n3) (by simp [sortL])) (by rw [Sort.size_putRow]; exact hgl) os3
    have hB3 : Below w.heap.size w (Sort.grow (Sort.putRow encStr (Sort.ahead w2 n3) g 0 (sortL S).toArray) os3) := below_growJ (below_putRow (below_ahead HB.out n3) _ _ _ hg) (by rw [Sort.size_putRow]; exact HB.out.size) os3
    obtain ⟨W3, hW3⟩ : ∃ W, W = Sort.grow (Sort.putRow encStr (Sort.ahead w2 n3) g 0 (sortL S).toArray) os3 := ⟨_, rfl⟩
    rw [show (S.map toL).mergeSort (fun x y => decide (x ≤ y)) = sortL S from rfl]
    rw [← hW3] at hH3 hB3 ⊢
    have HH3 := Lib.hid hH3
    have HB3 := Lib.hid hB3
    clear hH3 hB3 hW3
    rw [HLM.out]
    go_wp2_with fail
    rw [← HLEN.out]
    refine (Tryz.slices_Compact_string g 0 cap (sortL S) _ HH3.out (by rw [HLEN.out]; omega) (by rw [HLEN.out]; exact hnc)).mono ?_
    rintro r w4 ⟨rfl, q4, rfl⟩
    have hB4 := below_putRow (enc := encStr) (below_ahead HB3.out q4) g 0 (Lib.compact (sortL S) ++ List.replicate ((sortL S).length - (Lib.compact (sortL S)).length) []).toArray hg
    have hc4 : ∀ j, j < (Lib.compact (sortL S)).length → (Sort.putRow encStr (Sort.ahead W3 q4) g 0 (Lib.compact (sortL S) ++ List.replicate ((sortL S).length - (Lib.compact (sortL S)).length) []).toArray).cell? ⟨g, 0 + j, none⟩ = some (strF (joinL S) j) := by
      intro j hj
      rw [Sort.cell?_putRow _ _ _ _ (sortL S).toArray _ (holds_ahead HH3.out q4) (by simp; rw [HLEN.out]; omega) j (by simp; omega)]
      rw [getElem!_pos _ j (by simp; omega)]
      unfold strF joinL
      simp [List.getElem_append_left, hj, ofL]
    have HB4 := Lib.hid hB4
    have HC4 := Lib.hid hc4
    clear hB4 hc4
    go_wp2_with fail
    go_ret
    exact ⟨_, rfl, ⟨some ⟨g, 0, none⟩, cap, by rw [HJL.out]; rfl, by rw [HJL.out]; omega, .inr ⟨g, 0, rfl, fun j hj => HC4.out j (by rw [← HJL.out]; omega)⟩⟩, HB4.out⟩
end Go.Proofs.YtjlpllnhefafkaaGreatDoor
namespace Go.Proofs.YtjlpllnhefafkaaGreatDoor
open Go Go.RowKit
theorem le_tot (a b : List UInt8) : (decide (a ≤ b) || decide (b ≤ a)) = true := by
  rcases List.le_total a b with h | h <;> simp [h]
theorem le_tr (a b c : List UInt8) (h1 : decide (a ≤ b) = true) (h2 : decide (b ≤ c) = true) : decide (a ≤ c) = true := by
  simp only [decide_eq_true_eq] at *
  exact List.le_trans h1 h2
theorem lt_of_le_ne (a b : List UInt8) (h : a ≤ b) (hn : a ≠ b) : a < b := by
  by_cases h1 : a < b
  · exact h1
  · exact absurd (List.le_antisymm h (List.not_lt.1 h1)) hn
theorem sorted_ms (S : List (List UInt8)) : (S.mergeSort fun x y => decide (x ≤ y)).Pairwise (· ≤ ·) := by
  have := List.pairwise_mergeSort le_tr le_tot S
  simpa using this
theorem getbang (zs : List (List UInt8)) (j : Nat) (h : j < zs.length) : zs.toArray[j]! = zs[j] := by
  rw [getElem!_pos _ j (by simpa using h)]; simp
theorem mem_upTo (zs : List (List UInt8)) : ∀ m, m ≤ zs.length → ∀ x, x ∈ Lib.compactUpTo zs.toArray m ↔ ∃ j, j < m ∧ x = zs.toArray[j]! := by
  intro m
  induction m with
  | zero => intro _ x; simp [Lib.compactUpTo]
  | succ m ih =>
    intro hm x
    rw [Lib.compactUpTo_succ, List.mem_append, ih (by omega)]
    constructor
    · rintro (⟨j, hj, rfl⟩ | h)
      · exact ⟨j, by omega, rfl⟩
      · split at h
        · exact ⟨m, by omega, by simpa using h⟩
        · cases h
    · rintro ⟨j, hj, rfl⟩
      rcases Nat.lt_or_ge j m with h | h
      · exact .inl ⟨j, h, rfl⟩
      · obtain rfl : j = m := by omega
        by_cases hk : Lib.keeps zs.toArray j = true
        · right; rw [if_pos hk]; simp
        · left
          simp only [Lib.keeps, decide_eq_true_eq, not_or, Decidable.not_not] at hk
          exact ⟨j - 1, by omega, hk.2⟩
theorem upTo_sorted (zs : List (List UInt8)) (hs : zs.Pairwise (· ≤ ·)) : ∀ m, m ≤ zs.length → (Lib.compactUpTo zs.toArray m).Pairwise (· < ·) := by
  intro m
  induction m with
  | zero => intro _; simp [Lib.compactUpTo]
  | succ m ih =>
    intro hm
    rw [Lib.compactUpTo_succ, List.pairwise_append]
    refine ⟨ih (by omega), by split <;> simp, fun x hx y hy => ?_⟩
    split at hy
    · rename_i hk
      obtain rfl : y = zs.toArray[m]! := by simpa using hy
      obtain ⟨j, hj, rfl⟩ := (mem_upTo zs m (by omega) x).1 hx
      simp only [Lib.keeps, decide_eq_true_eq] at hk
      have hk' := hk.resolve_left (by omega)
      rw [getbang _ _ (by omega), getbang _ _ (by omega)] at hk'
      rw [getbang _ _ (by omega), getbang _ _ (by omega)]
      have h1 : ∀ a b (ha : a < b) (hb : b < zs.length), zs[a] ≤ zs[b] := fun a b ha hb => List.pairwise_iff_getElem.1 hs a b (by omega) hb ha
      have h2 : zs[m - 1] < zs[m] := lt_of_le_ne _ _ (h1 _ _ (by omega) (by omega)) (fun e => hk' e.symm)
      rcases Nat.lt_or_ge j (m - 1) with h | h
      · exact List.lt_of_le_of_lt (h1 j (m - 1) h (by omega)) h2
      · obtain rfl : j = m - 1 := by omega
        exact h2
    · cases hy
theorem joinL_mem (S : List ByteArray) (s : ByteArray) : s ∈ joinL S ↔ s ∈ S := by
  unfold joinL
  rw [List.mem_map]
  constructor
  · rintro ⟨l, hl, rfl⟩
    obtain ⟨j, hj, rfl⟩ := (mem_upTo _ _ (Nat.le_refl _) l).1 hl
    rw [getbang _ _ hj]
    have : (sortL S)[j] ∈ sortL S := List.getElem_mem _
    have h2 : (sortL S)[j] ∈ S.map toL := by unfold sortL at this; exact List.mem_mergeSort.1 this
    obtain ⟨t, ht, he⟩ := List.mem_map.1 h2
    rw [← he, ofL_toL]; exact ht
  · intro hs
    refine ⟨toL s, ?_, ofL_toL s⟩
    have h2 : toL s ∈ sortL S := by unfold sortL; exact List.mem_mergeSort.2 (List.mem_map.2 ⟨s, hs, rfl⟩)
    obtain ⟨j, hj, he⟩ := List.getElem_of_mem h2
    exact (mem_upTo _ _ (Nat.le_refl _) _).2 ⟨j, hj, by rw [getbang _ _ hj, he]⟩
theorem joinL_sorted (S : List ByteArray) : (joinL S).Pairwise (fun a b => toL a < toL b) := by
  unfold joinL
  rw [List.pairwise_map]
  have := upTo_sorted (sortL S) (sorted_ms _) _ (Nat.le_refl _)
  exact this.imp fun h => by rw [toL_ofL, toL_ofL]; exact h
theorem joinL_step (S : List ByteArray) (k : Nat) (h : k + 1 < (joinL S).length) : toL ((joinL S).getD k ByteArray.empty) < toL ((joinL S).getD (k + 1) ByteArray.empty) := by
  rw [List.getD_eq_getElem?_getD, List.getD_eq_getElem?_getD, List.getElem?_eq_getElem (by omega), List.getElem?_eq_getElem h]
  exact List.pairwise_iff_getElem.1 (joinL_sorted S) k (k + 1) (by omega) h (by omega)
end Go.Proofs.YtjlpllnhefafkaaGreatDoor
namespace Go.Proofs.YtjlpllnhefafkaaGreatDoor
open Go Go.RowKit
theorem info_strs : (Tryz.prog.info? 41).map (fun i => (i.zero, i.size, i.bytes)) = some (some (.slice none 0 0), 1, 24) := by kernel_rfl
theorem own_base {w : World} {b b' t sz n : Nat} {v : Value} {xs : List Value} (h : w.ownsRow b t sz v n xs) (hb : b' ≤ b) : w.ownsRow b' t sz v n xs := by
  refine ⟨h.1, ?_⟩
  rcases h.2 with h | ⟨g, cap, cur, h1, h2, h3⟩
  · exact .inl h
  · exact .inr ⟨g, cap, cur, h1, by omega, h3⟩
def repNames (l : List Ev) : List ByteArray := if repOk l then joinL (l.map evNames).flatten else []
theorem evNames_le (e : Ev) : (evNames e).length ≤ 2 := by unfold evNames; split <;> (try split) <;> simp
theorem flat_le (l : List Ev) : (l.map evNames).flatten.length ≤ l.length * 2 := by
  induction l with
  | nil => simp
  | cons e l ih =>
    have := evNames_le e
    simp only [List.map_cons, List.flatten_cons, List.length_append, List.length_cons]
    omega
/-- What the first rounds have gathered: slices, each owning the names of its event. -/
def Rows (w : World) (B : Nat) (l : List Ev) (k : Nat) (svs : List Value) : Prop := svs.length = k ∧ ∀ j, j < k → ∃ sv, svs[j]? = some sv ∧ sv.oneCell' = true ∧ w.ownsRow B 9 1 sv (evNames (l.getD j noEv)).length ((evNames (l.getD j noEv)).map .string)
theorem Rows.kept {w w' : World} {B k : Nat} {l : List Ev} {svs : List Value} {row : Option Nat} (h : Rows w B l k svs) (hg : w.grownBy w' row)
    (hne : ∀ sv n xs, w.ownsRow B 9 1 sv n xs → sv.ownBlock = none ∨ sv.ownBlock ≠ row) : Rows w' B l k svs :=
  ⟨h.1, fun j hj => by obtain ⟨sv, h1, h2, h3⟩ := h.2 j hj; exact ⟨sv, h1, h2, h3.kept hg (hne _ _ _ h3)⟩⟩
theorem Rows.alloc {w : World} {B k : Nat} {l : List Ev} {svs : List Value} (h : Rows w B l k svs) (o : Obj) : Rows (w.alloc o) B l k svs :=
  ⟨h.1, fun j hj => by obtain ⟨sv, h1, h2, h3⟩ := h.2 j hj; exact ⟨sv, h1, h2, h3.alloc o⟩⟩
theorem Rows.more {w : World} {B k : Nat} {l : List Ev} {svs : List Value} {sv : Value} (h : Rows w B l k svs) (h1 : sv.oneCell' = true) (h3 : w.ownsRow B 9 1 sv (evNames (l.getD k noEv)).length ((evNames (l.getD k noEv)).map .string)) : Rows w B l (k + 1) (svs ++ [sv]) := by
  refine ⟨by rw [List.length_append, h.1]; rfl, fun j hj => ?_⟩
  rcases Nat.lt_or_ge j k with hlt | hge
  · obtain ⟨s, a, b, c⟩ := h.2 j hlt
    exact ⟨s, by rw [List.getElem?_append_left (by rw [h.1]; exact hlt)]; exact a, b, c⟩
  · obtain rfl : j = k := by omega
    exact ⟨sv, by rw [List.getElem?_append_right (by rw [h.1]; exact Nat.le_refl _), h.1]; simp, h1, h3⟩
theorem rows_str {w : World} {B base t : Nat} {l : List Ev} {v : Value} {svs : List Value} (hown : w.ownsRow base t 1 v l.length svs) (h : Rows w B l l.length svs) : StrRows w v (l.map evNames) := by
  obtain ⟨A, c, hv, hn, h0 | ⟨b, o, hA, hcell⟩⟩ := sl_row hown
  · exact ⟨A, c, by simpa using hv, by simpa using hn, .inl (by simpa using h0)⟩
  · refine ⟨A, c, by simpa using hv, by simpa using hn, .inr ⟨b, o, hA, fun i hi => ?_⟩⟩
    have hi' : i < l.length := by simpa using hi
    obtain ⟨sv, h1, _, h3⟩ := h.2 i hi'
    have e : (l.map evNames).getD i [] = evNames (l.getD i noEv) := by
      rw [List.getD_eq_getElem?_getD, List.getElem?_map, List.getD_eq_getElem?_getD, List.getElem?_eq_getElem hi']; rfl
    rw [e]
    refine ⟨sv, ?_, ?_⟩
    · rw [hcell i (by omega)]; show some ((svs[i]?).getD undef) = _; rw [h1]; rfl
    · have h4 := sl_row h3
      exact h4.congr fun j hj => by
        have hj' : j < (evNames (l.getD i noEv)).length := by omega
        generalize evNames (l.getD i noEv) = q at *
        rw [List.getElem?_map, List.getElem?_eq_getElem hj']
        unfold strF
        rw [List.getD_eq_getElem?_getD, List.getElem?_eq_getElem hj']; rfl
theorem own_one {w : World} {b t sz n : Nat} {v : Value} {xs : List Value} (h : w.ownsRow b t sz v n xs) : v.oneCell' = true := by
  rcases h.2 with ⟨rfl, _⟩ | ⟨g, cap, cur, rfl, _⟩ <;> rfl

theorem own_form {w : World} {b t sz n : Nat} {v : Value} {xs : List Value} (h : w.ownsRow b t sz v n xs) : ∃ A c, v = .slice A n c := by
  rcases h.2 with ⟨rfl, rfl⟩ | ⟨g, cap, cur, rfl, _⟩
  · exact ⟨_, _, rfl⟩
  · exact ⟨_, _, rfl⟩

set_option maxRecDepth 100000 in
set_option maxHeartbeats 4000000 in
theorem rnames_any (v : Value) (l : List Ev) (d : Bool) (w : World) (hv : Sl w v l.length 14 (evF l)) (hs : ∀ e ∈ l, e.short) (hl : l.length ≤ 1000) :
    Calls Tryz.prog 19 #[.agg #[v, .bool d]] w fun r w' => ∃ v', r = .returned v' ∧ Sl w' v' (repNames l).length 1 (strF (repNames l)) ∧ Below w.heap.size w w' := by
  obtain ⟨i0, hi, hz0, hq1, hq2⟩ := info_parts info_strs
  have hI := Lib.hid hi
  have hZ := Lib.hid hz0
  clear hi hz0
  have HV := Lib.hid hv
  have HS := Lib.hid hs
  obtain ⟨A, c, rfl, hn⟩ := sl_len hv
  clear hv hs
  cases hok : repOk l
  · have hr := Lib.hid (show repNames l = [] by simp [repNames, hok])
    have HOK := Lib.hid hok
    clear hok
    go_enter Tryz.func19, Tryz.ntmps19
    go_wp2_with (go_at_call 14; refine (repValid_any _ l _ _ (HV.out.below ((Below.refl _ _).alloc (Nat.le_refl _) _)) HS.out (by omega)).mono ?_; rintro e w2 ⟨rfl, hb2⟩; rw [HOK.out]; obtain ⟨hE2, hB2, hz2⟩ := boxed hb2; obtain ⟨hc2, hf2⟩ := hE2.facts; have HB2 := Lib.hid hB2; clear hb2 hE2 hB2)
    go_ret
    exact ⟨_, rfl, by rw [hr.out]; exact ⟨_, _, rfl, Nat.le_refl _, .inl rfl⟩, HB2.out⟩
  · have hr := Lib.hid (show repNames l = joinL (l.map evNames).flatten by simp [repNames, hok])
    have hl4 := repOk_le hok
    have HOK := Lib.hid hok
    clear hok
    go_enter Tryz.func19, Tryz.ntmps19
    go_wp2_with (go_at_call 14; refine (repValid_any _ l _ _ (HV.out.below ((Below.refl _ _).alloc (Nat.le_refl _) _)) HS.out (by omega)).mono ?_; rintro e w2 ⟨rfl, hb2⟩; rw [HOK.out]; obtain ⟨hE2, hB2, hz2⟩ := boxed hb2; obtain ⟨hc2, hf2⟩ := hE2.facts; have HB2 := Lib.hid hB2; clear hb2 hE2 hB2)
    go_loopw [3, 12] (fun v i wr => ∃ k : Nat, k ≤ l.length ∧ i = .int .i64 k ∧ (∃ svs, wr.ownsRow w.heap.size 41 1 v k svs ∧ Rows wr w.heap.size l k svs) ∧ Below w.heap.size w wr) (fun _ i _ => l.length - (intOf i).toNat)
    case atStart => exact ⟨0, Nat.zero_le _, rfl, ⟨[], World.ownsRow_nil _ _ _ _, rfl, fun j hj => absurd hj (by omega)⟩, HB2.out⟩
    case round =>
      obtain ⟨k, hk, rfl, ⟨svs, hown, hrows⟩, hB⟩ := hrel
      by_cases hlt : k < l.length
      · obtain ⟨A1, c1, he1, hn1, h0 | ⟨b, o, rfl, hc⟩⟩ := HV.out
        · omega
        obtain ⟨rfl, rfl⟩ : A = some ⟨b, o, none⟩ ∧ c = c1 := by injection he1; exact ⟨by assumption, by assumption⟩
        have hrg : wr.rangeAt b (o + k * 14) (l.getD k noEv).cells.toList := ev_range (fun j hj => cell_later hB (hc j hj)) hlt
        have hshort := HS.out _ (getD_mem l k noEv hlt)
        have hMore := Lib.hid (fun (W : World) (svs : List Value) (sv : Value) (h : Rows W w.heap.size l k svs) h1 h3 => h.more (sv := sv) h1 h3)
        have HOWN := Lib.hid hown
        have HROWS := Lib.hid hrows
        have HB := Lib.hid hB
        clear hc he1 hown hrows hB
        generalize l.getD k noEv = ev at *
        obtain ⟨n5, hn5⟩ : ∃ n, n = (evNames ev).length := ⟨_, rfl⟩
        have hcon : Hid (∀ W, Calls Tryz.prog 31 #[.agg ev.cells] W fun r w' => ∃ A c, r = .returned (.slice A n5 c) ∧ w'.ownsRow W.heap.size 9 1 (.slice A n5 c) (evNames ev).length ((evNames ev).map .string) ∧ Below W.heap.size W w') := fun W => (names_any ev W hshort).mono fun r w' ⟨v', h1, h2, h3⟩ => by
          obtain ⟨A, c, rfl⟩ := own_form h2
          rw [← hn5] at h1 
          exact ⟨A, c, h1, by rw [← hn5] at h2 ⊢; exact h2, h3⟩
        clear hn5
        obtain ⟨op, day, part, kind, into, slot, key, value, kl, kh, cl, ch, ll, lh⟩ := ev
        replace hrg : wr.rangeAt b (o + k * 14) [.int .i64 op, .int .i64 day, .string part, .string kind, .string into, .string slot, .string key, .string value, .int .i64 kl, .int .i64 kh, .int .i64 cl, .int .i64 ch, .int .i64 ll, .int .i64 lh] := hrg
        go_wp2_with (first | ((with_reducible show wpList _ _ _ (Oper.mk (some 15) _ _ _ _ _ :: _) _ _); refine wpList_load_mid rfl 49 _ rfl b (o + k * 14) rfl _ _ hrg Tryz.underlying49 rfl rfl ?_) | (go_at_call 31; refine (hcon.out _).mono ?_; rintro e w5 ⟨A5, c5, rfl, hown5, hb5⟩; have HOWN5 := Lib.hid hown5; have HB5 := Lib.hid hb5; clear hb5 hown5) | (at_builtin; refine wpList_append_own _ rfl (.tmp 16) (.tmp 19) 58 rfl w.heap.size 41 i0 (.slice none 0 0) 1 24 Tryz.underlying58 hI.out hZ.out hq1 hq2 rfl (by decide) _ _ _ rfl (((HOWN.out.alloc _).kept (row := none) (World.grownBy_of_below HB5.out) (by cases Value.ownBlock _ <;> simp)).alloc _) ⟨w5.heap.size, 0, none⟩ 1 1 [.slice A5 n5 c5] rfl rfl ?c1 ?c2 ?c3 ?c4 ?c5 ?_))
        case c1 => exact cell_one_new _ _ _
        case c2 => intro u hu; simp at hu; subst hu; exact own_one HOWN5.out
        case c3 => unfold maxLen; omega
        case c4 => omega
        case c5 => have := HB.out.size; have := HB5.out.size; simp at this ⊢; omega
        · intro v' w6 hown6 hg6 _
          have hsz5 : wr.heap.size + 1 ≤ w5.heap.size := by have := HB5.out.size; simpa using this
          have h0 := HB.out.size
          have hown4 := ((HOWN.out.alloc (.cells #[.int .i64 op, .int .i64 day, .string part, .string kind, .string into, .string slot, .string key, .string value, .int .i64 kl, .int .i64 kh, .int .i64 cl, .int .i64 ch, .int .i64 ll, .int .i64 lh] 49)).kept (row := none) (World.grownBy_of_below HB5.out) (by cases Value.ownBlock _ <;> simp)).alloc (.cells #[.slice A5 n5 c5] 41)
          have hr5 : Rows (w5.alloc (.cells #[.slice A5 n5 c5] 41)) w.heap.size l (k + 1) (svs ++ [.slice A5 n5 c5]) :=
            hMore.out _ _ _ (((HROWS.out.alloc _).kept (row := none) (World.grownBy_of_below HB5.out) (fun sv n xs _ => by cases Value.ownBlock _ <;> simp)).alloc _) (own_one HOWN5.out) ((own_base HOWN5.out (by simp; omega)).alloc _)
          have hr6 := Lib.hid (hr5.kept hg6 (fun sv n xs h => own_apart h hown4 (by decide)))
          have HOWN6 := Lib.hid hown6
          have b6 : Below w.heap.size w w6 := ((((HB.out.alloc h0 _).trans (HB5.out.mono (by simp; omega))).alloc (by omega) _)).grown hg6 (by simp; omega) (fun j hj => (HOWN.out.lt j hj).1)
          have B6 := Lib.hid b6
          clear b6 hown6 hg6 hr5 hown4
          go_wp2_with fail
          go_roundw
          case rel => exact ⟨k + 1, by omega, by go_num, ⟨_, HOWN6.out, hr6.out⟩, B6.out⟩
          case measure => simp [intOf]; omega
      · obtain rfl : k = l.length := by omega
        have HST := Lib.hid (rows_str hown hrows)
        have hfl := flat_le l
        have HB := Lib.hid hB
        have hsz := hB.size
        clear hown hrows hB
        go_wp2_with fail
        refine (joined_any _ (l.map evNames) _ HST.out (by simp; omega) _ rfl (by omega)).mono ?_
        rintro e w7 ⟨v7, rfl, hs7, hb7⟩
        have HS7 := Lib.hid hs7
        have HB7 := Lib.hid (HB.out.trans (hb7.mono hsz))
        clear hs7 hb7
        go_wp2_with fail
        go_ret
        exact ⟨_, rfl, by rw [hr.out]; exact HS7.out, HB7.out⟩
end Go.Proofs.YtjlpllnhefafkaaGreatDoor
