/- Contracts of library functions at this translation, as the shelf lays them: strings_Trim_one. digest.Is: a digest has the form of one. No condition. What a digest is made of says what the state is. Plain laws. A state of a moderate size has few fields, and short ones. Plain laws. -/
import Derived.Lib.ItoaLen
import Derived.Shelf.Bits.Mul64
import Derived.Shelf.LaysM
import Derived.Shelf.Slices.In.SortNone
import Derived.Shelf.Small.Bits
import Derived.Shelf.Small.Strs
import Derived.Shelf.Small.Utf8
import Derived.Shelf.Sort.Plain
import Derived.Shelf.Strconv.Itoa0
import Derived.Shelf.Strconv.Itoa1
import Derived.Shelf.Strconv.Itoa2
import Derived.Shelf.Strconv.Itoa3
import Derived.Shelf.Strings.AsciiSet
import Derived.Shelf.Strings.Builder1
import Derived.Shelf.Strings.BuilderCap
import Derived.Shelf.Strings.BuilderF
import Derived.Shelf.Strings.BuilderK
import Derived.Shelf.Strings.Runes
import Derived.Shelf.Strings.Search1
import Derived.Shelf.Strings.SlTrimAscii
import Derived.Shelf.Strings.Trim
import Derived.Shelf.Unicode.DecodeSlow
import Derived.Test.YtccnocgmikmonaaGreatDoorU01
import Derived.Test.YtccnocgmikmonaaGreatDoorU26
import Derived.Test.YtccnocgmikmonaaGreatDoorZDa
import Derived.Test.YtccnocgmikmonaaGreatDoorZDb
namespace Go.Proofs
open Go.Shelf
def Tryz.lays160_ren : Go.Shelf.Ren := ⟨fun | 160 => 44 | 232 => 75 | 231 => 74 | 227 => 76 | 234 => 78 | 233 => 77 | 236 => 80 | 235 => 79 | 228 => 119 | 271 => 122 | 151 => 121 | 197 => 120 | 120 => 146 | 152 => 145 | 260 => 144 | 137 => 147 | 119 => 157 | 224 => 158 | 225 => 159 | 217 => 160 | 266 => 165 | n => n, fun | 9 => 9 | 4 => 4 | 3 => 3 | 5 => 5 | 117 => 132 | 116 => 131 | 0 => 0 | 124 => 135 | 21 => 21 | 105 => 177 | 46 => 88 | 119 => 181 | 139 => 217 | 138 => 216 | n => n, fun | 3 => 1 | 4 => 2 | n => n⟩
theorem Tryz.lays160 : Go.Proofs.Lays.n160 Tryz.prog Tryz.lays160_ren := {
  mixed := by kernel_rfl
  f119 := Tryz.func157.trans (congrArg some (by kernel_rfl))
  f120 := Tryz.func146.trans (congrArg some (by kernel_rfl))
  f137 := Tryz.func147.trans (congrArg some (by kernel_rfl))
  f151 := Tryz.func121.trans (congrArg some (by kernel_rfl))
  f152 := Tryz.func145.trans (congrArg some (by kernel_rfl))
  f160 := Tryz.func44.trans (congrArg some (by kernel_rfl))
  f197 := Tryz.func120.trans (congrArg some (by kernel_rfl))
  f217 := Tryz.func160.trans (congrArg some (by kernel_rfl))
  f224 := Tryz.func158.trans (congrArg some (by kernel_rfl))
  f225 := Tryz.func159.trans (congrArg some (by kernel_rfl))
  f227 := Tryz.func76.trans (congrArg some (by kernel_rfl))
  f228 := Tryz.func119.trans (congrArg some (by kernel_rfl))
  f231 := Tryz.func74.trans (congrArg some (by kernel_rfl))
  f232 := Tryz.func75.trans (congrArg some (by kernel_rfl))
  f233 := Tryz.func77.trans (congrArg some (by kernel_rfl))
  f234 := Tryz.func78.trans (congrArg some (by kernel_rfl))
  f235 := Tryz.func79.trans (congrArg some (by kernel_rfl))
  f236 := Tryz.func80.trans (congrArg some (by kernel_rfl))
  f260 := Tryz.func144.trans (congrArg some (by kernel_rfl))
  f266 := Tryz.func165.trans (congrArg some (by kernel_rfl))
  f271 := Tryz.func122.trans (congrArg some (by kernel_rfl))
  t0 := Tryz.underlying0
  a0 := Tryz.isAgg0
  z0 := Tryz.sizeOf0
  v0 := Tryz.zeroValue0
  t3 := Tryz.underlying3
  a3 := Tryz.isAgg3
  z3 := Tryz.sizeOf3
  v3 := Tryz.zeroValue3
  t4 := Tryz.underlying4
  a4 := Tryz.isAgg4
  z4 := Tryz.sizeOf4
  v4 := Tryz.zeroValue4
  t5 := Tryz.underlying5
  a5 := Tryz.isAgg5
  z5 := Tryz.sizeOf5
  v5 := Tryz.zeroValue5
  t9 := Tryz.underlying9
  a9 := Tryz.isAgg9
  z9 := Tryz.sizeOf9
  v9 := Tryz.zeroValue9
  t21 := Tryz.underlying21
  a21 := Tryz.isAgg21
  z21 := Tryz.sizeOf21
  v21 := Tryz.zeroValue21
  t46 := Tryz.underlying88
  a46 := Tryz.isAgg88
  z46 := Tryz.sizeOf88
  v46 := Tryz.zeroValue88
  t105 := Tryz.underlying177
  a105 := Tryz.isAgg177
  z105 := Tryz.sizeOf177
  v105 := Tryz.zeroValue177
  t116 := Tryz.underlying131
  a116 := Tryz.isAgg131
  z116 := Tryz.sizeOf131
  t117 := Tryz.underlying132
  a117 := Tryz.isAgg132
  z117 := Tryz.sizeOf132
  v117 := Tryz.zeroValue132
  t119 := Tryz.underlying181
  a119 := Tryz.isAgg181
  z119 := Tryz.sizeOf181
  t124 := Tryz.underlying135
  a124 := Tryz.isAgg135
  z124 := Tryz.sizeOf135
  v124 := Tryz.zeroValue135
  t138 := Tryz.underlying216
  a138 := Tryz.isAgg216
  z138 := Tryz.sizeOf216
  v138 := Tryz.zeroValue216
  t139 := Tryz.underlying217
  a139 := Tryz.isAgg217
  z139 := Tryz.sizeOf217
  v139 := Tryz.zeroValue217
  g3 := by kernel_rfl
  g4 := by kernel_rfl }
open Go.RowKit in
theorem Tryz.strings_Trim_one (s : ByteArray) (c : UInt8) (hc : c.toNat < 128) (w : World) (hs : s.size ≤ 9223372036854775807) :
    Calls Tryz.prog 44 #[.string s, .string ⟨#[c]⟩] w fun e w' => e = .returned (.string ⟨(Lib.trimB s.data.toList c).toArray⟩) ∧ (w' = w ∨ w' = w.drew) := Any.strings_Trim_one Tryz.lays160 s c hc w hs
end Go.Proofs
namespace Go.Proofs.YtccnocgmikmonaaGreatDoor
open Go Go.RowKit
def hexs : List UInt8 := [48, 49, 50, 51, 52, 53, 54, 55, 56, 57, 97, 98, 99, 100, 101, 102]
theorem hexN_fin : ∀ d : Fin 16, hexs.contains (UInt8.ofNat (hexN d.val)) = true := by decide
theorem hexN_mem (d : Nat) (h : d < 16) : hexs.contains (UInt8.ofNat (hexN d)) = true := hexN_fin ⟨d, h⟩
theorem sumB_mem (s : ByteArray) : ∀ b ∈ (sumB s).data.toList, hexs.contains b = true := by
  intro b hb
  have e : (sumB s).data.toList = (hexL (sumN s)).map fun n => UInt8.ofNat n.toNat := strOfNums_data _
  rw [e] at hb
  unfold hexL at hb
  rw [List.map_map] at hb
  obtain ⟨j, _, rfl⟩ := List.mem_map.1 hb
  show hexs.contains (UInt8.ofNat ((digAt (sumN s) j : Int).toNat)) = true
  rw [Int.toNat_natCast]
  unfold digAt
  generalize sumN s / 2 ^ (60 - 4 * j) = q
  exact hexN_mem (q % 16) (Nat.mod_lt q (by decide))
theorem sumB_size (s : ByteArray) : (sumB s).size = 16 := by
  unfold sumB
  rw [strOfNums_size]
  unfold hexL
  rw [List.length_map, List.length_range]
theorem drop_all {p : UInt8 → Bool} : ∀ {l : List UInt8}, (∀ b ∈ l, p b = true) → l.dropWhile p = []
  | [], _ => rfl
  | b :: l, h => by rw [List.dropWhile_cons_of_pos (h b List.mem_cons_self)]; exact drop_all fun c hc => h c (List.mem_cons_of_mem _ hc)
theorem trim_all {l cs : List UInt8} (h : ∀ b ∈ l, cs.contains b = true) : Lib.trimS l cs = [] := by
  unfold Lib.trimS Lib.trimLeftS Lib.trimRightS
  have e : l.reverse.dropWhile (cs.contains ·) = [] := drop_all fun b hb => h b (List.mem_reverse.1 hb)
  rw [e]
  rfl
set_option maxRecDepth 100000 in
set_option maxHeartbeats 2000000 in
theorem isDigest_any (s : ByteArray) (w : World) : Calls Tryz.prog 19 #[.string (sumB s)] w fun e w' => e = .returned (.bool true) ∧ Below w.heap.size w w' := by
  have hT := Any.strings_Trim_laid Tryz.lays160 (by kernel_rfl) (sumB s) ⟨#[48, 49, 50, 51, 52, 53, 54, 55, 56, 57, 97, 98, 99, 100, 101, 102]⟩ w (by rw [sumB_size]; decide) (by decide) (ascii_of_all (by decide))
  rw [show Lib.trimS (sumB s).data.toList (⟨#[48, 49, 50, 51, 52, 53, 54, 55, 56, 57, 97, 98, 99, 100, 101, 102]⟩ : ByteArray).data.toList = [] from trim_all (sumB_mem s)] at hT
  have HT := Lib.hid hT
  have hsz : ((sumB s).size : Int) = 16 := by rw [sumB_size]; rfl
  clear hT
  generalize sumB s = d at *
  go_enter Tryz.func19, Tryz.ntmps19
  go_wp2_with (go_at_call 44; refine HT.out.mono ?_; rintro e w1 ⟨rfl, hb1⟩; have HB1 := Lib.hid hb1; clear hb1)
  go_ret
  exact ⟨rfl, HB1.out⟩
end Go.Proofs.YtccnocgmikmonaaGreatDoor
namespace Go.Proofs.YtccnocgmikmonaaGreatDoor
open Go Go.RowKit
def valD (l : List UInt8) : Nat := l.foldl (fun a b => a * 10 + (b.toNat - 48)) 0
theorem dig_val (d : Nat) (h : d < 10) : (UInt8.ofNat (48 + d)).toNat = 48 + d := by
  rw [UInt8.toNat_ofNat']; omega
theorem valD_dec : ∀ n : Nat, valD (Lib.decDigits n) = n := by
  intro n
  induction n using Nat.strongRecOn with
  | _ n ih =>
    rw [Lib.decDigits]
    split
    · rename_i h
      unfold valD
      simp only [List.foldl_cons, List.foldl_nil]
      rw [dig_val n h]; omega
    · rename_i h
      have e := ih (n / 10) (by omega)
      unfold valD at e ⊢
      rw [List.foldl_append, e]
      simp only [List.foldl_cons, List.foldl_nil]
      rw [dig_val _ (Nat.mod_lt _ (by decide))]; omega
theorem dec_inj {n m : Nat} (h : Lib.decDigits n = Lib.decDigits m) : n = m := by rw [← valD_dec n, h, valD_dec]
theorem dec_digit : ∀ n : Nat, ∀ b ∈ Lib.decDigits n, b ≠ 58 ∧ b ≠ 45 := by
  intro n
  induction n using Nat.strongRecOn with
  | _ n ih =>
    intro b hb
    have key : ∀ d, d < 10 → (UInt8.ofNat (48 + d)) ≠ 58 ∧ (UInt8.ofNat (48 + d)) ≠ 45 := fun d hd => by
      have h1 := dig_val d hd
      constructor
      · intro e; rw [e] at h1; simp at h1; omega
      · intro e; rw [e] at h1; simp at h1; omega
    rw [Lib.decDigits] at hb
    split at hb
    · rename_i h
      rw [List.mem_singleton] at hb
      subst hb; exact key n h
    · rename_i h
      rw [List.mem_append, List.mem_singleton] at hb
      rcases hb with hb | rfl
      · exact ih _ (by omega) b hb
      · exact key _ (Nat.mod_lt _ (by decide))
theorem itoa_inj {n m : Int} (h : Lib.itoa n = Lib.itoa m) : n = m := by
  have nonneg : ∀ (k : Nat) (j : Int), j < 0 → Lib.decDigits k ≠ Lib.itoa j := fun k j hj e => by
    have h1 : (45 : UInt8) ∈ Lib.decDigits k := by rw [e]; unfold Lib.itoa; rw [if_pos hj]; exact List.mem_cons_self
    exact (dec_digit k _ h1).2 rfl
  by_cases hn : n < 0
  · by_cases hm : m < 0
    · unfold Lib.itoa at h
      rw [if_pos hn, if_pos hm] at h
      injection h with _ h
      have := dec_inj h
      omega
    · exact absurd (by rw [h]; unfold Lib.itoa; rw [if_neg hm] : Lib.itoa n = Lib.decDigits m.toNat).symm (nonneg _ n hn)
  · by_cases hm : m < 0
    · exact absurd (by rw [← h]; unfold Lib.itoa; rw [if_neg hn] : Lib.itoa m = Lib.decDigits n.toNat).symm (nonneg _ m hm)
    · unfold Lib.itoa at h
      rw [if_neg hn, if_neg hm] at h
      have := dec_inj h
      omega
theorem itoaB_inj {n m : Int} (h : itoaB n = itoaB m) : n = m := by
  unfold itoaB at h
  injection h with h
  exact itoa_inj (by simpa using congrArg Array.toList h)
/-- A number, a colon, and what follows: the number and the rest are known. -/
theorem split_colon : ∀ {a b r s : List UInt8}, (∀ x ∈ a, x ≠ 58) → (∀ x ∈ b, x ≠ 58) → a ++ 58 :: r = b ++ 58 :: s → a = b ∧ r = s
  | [], [], _, _, _, _, h => by simpa using h
  | [], y :: b, _, _, _, hb, h => by
    injection h with h1 _
    exact absurd h1.symm (hb y List.mem_cons_self)
  | x :: a, [], _, _, ha, _, h => by
    injection h with h1 _
    exact absurd h1 (ha x List.mem_cons_self)
  | x :: a, y :: b, _, _, ha, hb, h => by
    injection h with h1 h2
    obtain ⟨h3, h4⟩ := split_colon (fun z hz => ha z (List.mem_cons_of_mem _ hz)) (fun z hz => hb z (List.mem_cons_of_mem _ hz)) h2
    exact ⟨by rw [h1, h3], h4⟩
theorem joined_inj : ∀ {l m : List ByteArray}, joinedL l = joinedL m → l = m
  | [], [], _ => rfl
  | [], s :: m, h => by
    exfalso
    unfold joinedL oneL at h
    simp at h
  | s :: l, [], h => by
    exfalso
    unfold joinedL oneL at h
    simp at h
  | s :: l, t :: m, h => by
    unfold joinedL at h
    rw [List.flatMap_cons, List.flatMap_cons] at h
    unfold oneL at h
    rw [List.append_assoc, List.append_assoc, List.cons_append, List.cons_append] at h
    have hd : ∀ n : Nat, ∀ x ∈ Lib.itoa (n : Int), x ≠ 58 := fun n x hx => by
      rw [Lib.itoa_nonneg] at hx
      exact (dec_digit n x hx).1
    obtain ⟨h1, h2⟩ := split_colon (hd _) (hd _) h
    have hs : s.size = t.size := by have := itoa_inj h1; omega
    obtain ⟨h3, h4⟩ := List.append_inj h2 hs
    have h5 : s = t := by
      apply ByteArray.ext
      exact Array.ext' h3
    rw [h5, joined_inj h4]
theorem props_inj : ∀ {l m : List Pr} {r s : List ByteArray}, l.length = m.length → l.flatMap propF ++ r = m.flatMap propF ++ s → l = m ∧ r = s
  | [], [], _, _, _, h => ⟨rfl, by simpa using h⟩
  | [], _ :: _, _, _, hl, _ => by cases hl
  | _ :: _, [], _, _, hl, _ => by cases hl
  | x :: l, y :: m, r, s, hl, h => by
    rw [List.flatMap_cons, List.flatMap_cons, List.append_assoc, List.append_assoc] at h
    obtain ⟨xk, xv⟩ := x
    obtain ⟨yk, yv⟩ := y
    simp only [propF, List.cons_append, List.nil_append] at h
    injection h with h1 h
    injection h with h2 h
    obtain ⟨h3, h4⟩ := props_inj (by simpa using hl) h
    exact ⟨by rw [h1, h2, h3], h4⟩
theorem part_inj {p q : Pa} {r s : List ByteArray} (h : partF p ++ r = partF q ++ s) : p = q ∧ r = s := by
  obtain ⟨p1, p2, p3, p4, p5, p6, p7, p8, p9, p10, p11, p12, p13, p14⟩ := p
  obtain ⟨q1, q2, q3, q4, q5, q6, q7, q8, q9, q10, q11, q12, q13, q14⟩ := q
  unfold partF headF numsA numsB at h
  simp only [List.append_assoc, List.map_cons, List.map_nil, List.cons_append, List.nil_append] at h
  injection h with h1 h
  injection h with h2 h
  injection h with h3 h
  injection h with h4 h
  injection h with h5 h
  injection h with h6 h
  injection h with h7 h
  injection h with h8 h
  have e8 := itoaB_inj h8
  have e8l : p8.length = q8.length := by omega
  obtain ⟨e9, h⟩ := props_inj e8l h
  injection h with h10 h
  injection h with h11 h
  injection h with h12 h
  injection h with h13 h
  injection h with h14 h
  injection h with h15 h
  have e7 : p7 = q7 := by
    have := itoaB_inj h7
    cases p7 <;> cases q7 <;> first | rfl | (simp at this)
  have e5 := itoaB_inj h5
  have e6 := itoaB_inj h6
  have e10 := itoaB_inj h10
  have e11 := itoaB_inj h11
  have e12 := itoaB_inj h12
  have e13 := itoaB_inj h13
  have e14 := itoaB_inj h14
  have e15 := itoaB_inj h15
  refine ⟨?_, h⟩
  subst h1 h2 h3 h4 e5 e6 e7 e9 e10 e11 e12 e13 e14 e15
  rfl
theorem parts_inj : ∀ {l m : List Pa}, l.length = m.length → l.flatMap partF = m.flatMap partF → l = m
  | [], [], _, _ => rfl
  | [], _ :: _, hl, _ => by cases hl
  | _ :: _, [], hl, _ => by cases hl
  | x :: l, y :: m, hl, h => by
    rw [List.flatMap_cons, List.flatMap_cons] at h
    obtain ⟨h1, h2⟩ := part_inj h
    rw [h1, parts_inj (by simpa using hl) h2]
theorem fields_inj {l m : List Pa} (h : fieldsL l = fieldsL m) : l = m := by
  unfold fieldsL at h
  injection h with h1 h2
  have := itoaB_inj h1
  exact parts_inj (by omega) h2
end Go.Proofs.YtccnocgmikmonaaGreatDoor
namespace Go.Proofs.YtccnocgmikmonaaGreatDoor
open Go Go.RowKit
theorem itoaB_size {n : Int} (h : -9223372036854775808 ≤ n ∧ n ≤ 9223372036854775807) : (itoaB n).size ≤ 300 := by
  have h1 := Lib.itoa_length_le n h.1 h.2
  have e : (itoaB n).size = (Lib.itoa n).length := by unfold itoaB; exact List.size_toArray
  omega
theorem joinedL_bound : ∀ {l : List ByteArray}, (∀ s ∈ l, s.size ≤ 300) → (joinedL l).length ≤ 400 * l.length
  | [], _ => by simp [joinedL]
  | s :: l, h => by
    have h0 := h s List.mem_cons_self
    have h1 := joinedL_bound fun x hx => h x (List.mem_cons_of_mem _ hx)
    have h2 := Lib.itoa_length_le (s.size : Int) (by omega) (by omega)
    unfold joinedL at h1 ⊢
    rw [List.flatMap_cons, List.length_append, List.length_cons]
    unfold oneL at h1 ⊢
    rw [List.length_append, List.length_cons, show s.data.toList.length = s.size from rfl]
    omega
theorem few_part {p : Pa} (h : fewPa p = true) : (p.name.size ≤ 300 ∧ p.kind.size ≤ 300 ∧ p.into.size ≤ 300 ∧ p.slot.size ≤ 300) ∧ p.props.length ≤ 65 ∧ ∀ x ∈ p.props, x.key.size ≤ 300 ∧ x.val.size ≤ 300 := by
  unfold fewPa at h
  simp only [Bool.and_eq_true, decide_eq_true_eq, List.all_eq_true] at h
  refine ⟨by omega, h.2.1, fun x hx => ?_⟩
  have := h.2.2 x hx
  unfold fewPr at this
  have := of_decide_eq_true this
  omega
theorem flatF_len {l : List Pa} (h : ∀ p ∈ l, p.props.length ≤ 65) : (l.flatMap partF).length ≤ 144 * l.length := by
  induction l with
  | nil => simp
  | cons p l ih =>
    have h0 := h p List.mem_cons_self
    have h1 := ih fun q hq => h q (List.mem_cons_of_mem _ hq)
    rw [List.flatMap_cons, List.length_append, partF_len, List.length_cons]
    omega
theorem fields_few {l : List Pa} (h : fewSt l 20 = true) (hi : ∀ p ∈ l, p.i64) : (fieldsL l).length ≤ 1000000 ∧ (joinedL (fieldsL l)).length ≤ 1000000000 ∧ (∀ p ∈ l, p.props.length ≤ 100000) ∧ l.length ≤ 20 := by
  unfold fewSt at h
  simp only [Bool.and_eq_true, decide_eq_true_eq, List.all_eq_true] at h
  obtain ⟨h20, hall⟩ := h
  have hp : ∀ p ∈ l, p.props.length ≤ 65 := fun p hp => (few_part (hall p hp)).2.1
  have hlen : (fieldsL l).length ≤ 3000 := by
    unfold fieldsL
    rw [List.length_cons]
    have := flatF_len hp
    omega
  have hs : ∀ s ∈ fieldsL l, s.size ≤ 300 := by
    intro s hs
    unfold fieldsL at hs
    rw [List.mem_cons] at hs
    rcases hs with rfl | hs
    · exact itoaB_size (by omega)
    · obtain ⟨p, hpl, hsp⟩ := List.mem_flatMap.1 hs
      obtain ⟨h1, h2, h3⟩ := few_part (hall p hpl)
      have h64 := hi p hpl
      unfold partF at hsp
      rw [List.mem_append, List.mem_append, List.mem_append] at hsp
      rcases hsp with ((hsp | hsp) | hsp) | hsp
      · unfold headF at hsp
        simp only [List.mem_cons, List.not_mem_nil, or_false] at hsp
        rcases hsp with rfl | rfl | rfl | rfl
        · exact h1.1
        · exact h1.2.1
        · exact h1.2.2.1
        · exact h1.2.2.2
      · obtain ⟨n, hn, rfl⟩ := List.mem_map.1 hsp
        unfold numsA at hn
        simp only [List.mem_cons, List.not_mem_nil, or_false] at hn
        rcases hn with rfl | rfl | rfl | rfl
        · exact itoaB_size (h64 _ (by simp))
        · exact itoaB_size (h64 _ (by simp))
        · exact itoaB_size (by split <;> omega)
        · exact itoaB_size (by omega)
      · obtain ⟨x, hx, hxs⟩ := List.mem_flatMap.1 hsp
        unfold propF at hxs
        simp only [List.mem_cons, List.not_mem_nil, or_false] at hxs
        rcases hxs with rfl | rfl
        · exact (h3 x hx).1
        · exact (h3 x hx).2
      · obtain ⟨n, hn, rfl⟩ := List.mem_map.1 hsp
        unfold numsB at hn
        simp only [List.mem_cons, List.not_mem_nil, or_false] at hn
        rcases hn with rfl | rfl | rfl | rfl | rfl | rfl <;> exact itoaB_size (h64 _ (by simp))
  have hj := joinedL_bound hs
  exact ⟨by omega, by omega, fun p hp2 => by have := hp p hp2; omega, h20⟩
end Go.Proofs.YtccnocgmikmonaaGreatDoor
