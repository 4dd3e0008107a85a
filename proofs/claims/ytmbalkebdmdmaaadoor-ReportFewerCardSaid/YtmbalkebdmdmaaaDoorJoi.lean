/- report.joined: the elements of lists, in increasing order, each once. -/
import Derived.Test.YtmbalkebdmdmaaaDoorCat
import Derived.Test.YtmbalkebdmdmaaaDoorSh2
namespace Go.Proofs.YtmbalkebdmdmaaaDoor
open Go Go.RowKit
section
variable {α : Type} [Inhabited α] {enc : α → Value} {w w' : World} {B : Nat}
theorem below_putRow (h : Below B w w') (blk off : Nat) (d : Array α) (hB : B ≤ blk) : Below B w (Sort.putRow enc w' blk off d) :=
  ⟨h.os, h.tape, h.output, by rw [Sort.size_putRow]; exact h.size, fun k hk => by
    show (w'.heap.modify blk _)[k]? = _
    rw [Array.getElem?_modify, if_neg (by omega)]
    exact h.block k hk⟩
theorem below_ahead (h : Below B w w') (n : Nat) : Below B w (Sort.ahead w' n) := ⟨h.os, h.tape, h.output, h.size, h.block⟩
theorem below_grow (h : Below B w w') (hB : B ≤ w'.heap.size) (os : Array Obj) : Below B w (Sort.grow w' os) :=
  ⟨h.os, h.tape, h.output, by show _ ≤ (w'.heap ++ os).size; rw [Array.size_append]; have := h.size; omega, fun k hk => by
    rw [Sort.heap_grow_old w' os (by omega)]; exact h.block k hk⟩
theorem holds_grow {blk off : Nat} {d : Array α} (h : Sort.Holds enc w blk off d) (hb : blk < w.heap.size) (os : Array Obj) : Sort.Holds enc (Sort.grow w os) blk off d := fun j hj => by
  obtain ⟨h1, h2⟩ := h j hj
  exact ⟨by rw [Sort.cell?_grow _ _ _ hb]; exact h1, by rw [Sort.frozen?_grow _ _ _ hb]; exact h2⟩
theorem holds_ahead {blk off : Nat} {d : Array α} (h : Sort.Holds enc w blk off d) (n : Nat) : Sort.Holds enc (Sort.ahead w n) blk off d := h
end
def toL (s : ByteArray) : List UInt8 := s.data.toList
def ofL (l : List UInt8) : ByteArray := ⟨l.toArray⟩
theorem ofL_toL (s : ByteArray) : ofL (toL s) = s := by cases s; simp [ofL, toL]
theorem toL_ofL (l : List UInt8) : toL (ofL l) = l := by simp [ofL, toL]
def sortL (S : List ByteArray) : List (List UInt8) := (S.map toL).mergeSort fun x y => decide (x ≤ y)
def joinL (S : List ByteArray) : List ByteArray := (Lib.compact (sortL S)).map ofL
theorem sortL_len (S : List ByteArray) : (sortL S).length = S.length := by simp [sortL]
theorem joinL_len (S : List ByteArray) : (joinL S).length ≤ S.length := by
  unfold joinL
  rw [List.length_map]
  exact Nat.le_trans (Lib.compact_length_le _) (by rw [sortL_len]; exact Nat.le_refl _)

set_option maxRecDepth 100000 in
set_option maxHeartbeats 2000000 in
theorem joined_any (v : Value) (LL : List (List ByteArray)) (w : World) (hv : StrRows w v LL) (hl : LL.length ≤ 10000) (S : List ByteArray) (hS : LL.flatten = S) (hs : S.length ≤ 100000) :
    Calls Tryd.prog 32 #[v] w fun r w' => ∃ v', r = .returned v' ∧ Sl w' v' (joinL S).length 1 (strF (joinL S)) ∧ Below w.heap.size w w' := by
  have HV := Lib.hid hv
  have HS := Lib.hid hS
  obtain ⟨A, c, rfl, hn, hc⟩ := hv
  clear hc hS
  go_enter Tryd.func32, Tryd.ntmps32
  go_wp2_with fail
  refine (concat_any _ LL _ HV.out hl (by rw [HS.out]; exact hs)).mono ?_
  rintro r w2 ⟨v2, rfl, hown, hB⟩
  rw [HS.out] at hown
  have HB := Lib.hid hB
  clear hB HV HS
  rcases hown.2 with ⟨rfl, h0⟩ | ⟨g, cap, cur, rfl, hg, hh, hnc, hcm, hcs, ht⟩
  · have hj : joinL S = [] := List.eq_nil_of_length_eq_zero (by have := joinL_len S; omega)
    have HJ := Lib.hid hj
    clear hj h0 hown
    go_wp2_with fail
    refine (Tryd.slices_Sort_string_none _ _ _).mono ?_
    rintro r w3 ⟨rfl, rfl⟩
    go_wp2_with fail
    refine (Tryd.slices_Compact_string_empty _ _ _).mono ?_
    rintro r w4 ⟨rfl, rfl⟩
    go_wp2_with fail
    go_ret
    exact ⟨_, rfl, by rw [HJ.out]; exact ⟨_, _, rfl, Nat.le_refl _, .inl rfl⟩, HB.out⟩
  · have hgl : g < w2.heap.size := (Array.getElem?_eq_some_iff.1 hh).1
    have hlen : (sortL S).length = S.length := sortL_len _
    have hH : Sort.Holds encStr w2 g 0 (S.map toL).toArray := by
      intro j hj
      have hj' : j < S.length := by simpa using hj
      have hx : (S.map toL).toArray[j]! = toL S[j] := by rw [getElem!_pos _ j hj]; simp
      rw [hx, Nat.zero_add]
      refine ⟨?_, frozen_of_row w2 g j cur _ hh⟩
      rw [cell_of_row w2 g j cur _ (0, 0) hh]
      have h1 : (S.map Value.string)[j]? = some (.string S[j]) := by rw [List.getElem?_map, List.getElem?_eq_getElem hj']; rfl
      rw [← ht, List.getElem?_take, if_pos (by omega)] at h1
      have h2 : cur[j]? = some (.string S[j]) := by simpa using h1
      rw [h2]
      show _ = some (Value.string (ofL (toL S[j])))
      rw [ofL_toL]
    have hlm : (S.map toL).length = S.length := by simp
    have HH := Lib.hid hH
    have hjl : (joinL S).length = (Lib.compact (sortL S)).length := by simp [joinL]
    have hcl : (Lib.compact (sortL S)).length ≤ S.length := by rw [← hjl]; exact joinL_len S
    have HJL := Lib.hid hjl
    have HLM := Lib.hid hlm
    have HLEN := Lib.hid hlen
    clear hH hown ht hlm hjl hlen hh hcs
    go_wp2_with fail
    rw [← HLM.out]
    refine (Tryd.slices_Sort_string g 0 cap (S.map toL) _ HH.out hgl (by rw [HLM.out]; omega)).mono ?_
    rintro r w3 ⟨rfl, n3, os3, rfl⟩
    have hH3 : Sort.Holds encStr (Sort.grow (Sort.putRow encStr (Sort.ahead w2 n3) g 0 (sortL S).toArray) os3) g 0 (sortL S).toArray :=
      holds_grow (Sort.holds_putRow _ _ _ _ _ _ (holds_ahead HH.out n3) (by simp [sortL])) (by rw [Sort.size_putRow]; exact hgl) os3
    have hB3 : Below w.heap.size w (Sort.grow (Sort.putRow encStr (Sort.ahead w2 n3) g 0 (sortL S).toArray) os3) := below_grow (below_putRow (below_ahead HB.out n3) _ _ _ hg) (by rw [Sort.size_putRow]; exact HB.out.size) os3
    obtain ⟨W3, hW3⟩ : ∃ W, W = Sort.grow (Sort.putRow encStr (Sort.ahead w2 n3) g 0 (sortL S).toArray) os3 := ⟨_, rfl⟩
    rw [show (S.map toL).mergeSort (fun x y => decide (x ≤ y)) = sortL S from rfl]
    rw [← hW3] at hH3 hB3 ⊢
    have HH3 := Lib.hid hH3
    have HB3 := Lib.hid hB3
    clear hH3 hB3 hW3
    rw [HLM.out]
    go_wp2_with fail
    rw [← HLEN.out]
    refine (Tryd.slices_Compact_string g 0 cap (sortL S) _ HH3.out (by rw [HLEN.out]; omega) (by rw [HLEN.out]; exact hnc)).mono ?_
    rintro r w4 ⟨rfl, q4, rfl⟩
    have hB4 := below_putRow (enc := encStr) (below_ahead HB3.out q4) g 0 (Lib.compact (sortL S) ++ List.replicate ((sortL S).length - (Lib.compact (sortL S)).length) []).toArray hg
    have hc4 : ∀ j, j < (Lib.compact (sortL S)).length → (Sort.putRow encStr (Sort.ahead W3 q4) g 0 (Lib.compact (sortL S) ++ List.replicate ((sortL S).length - (Lib.compact (sortL S)).length) []).toArray).cell? ⟨g, 0 + j, none⟩ = some (strF (joinL S) j) := by
      intro j hj
      rw [Sort.cell?_putRow _ _ _ _ (sortL S).toArray _ (holds_ahead HH3.out q4) (by simp; rw [HLEN.out]; omega) j (by simp; omega)]
      rw [getElem!_pos _ j (by simp; omega)]
      unfold strF joinL
      simp [List.getElem_append_left, hj, ofL]
    have HB4 := Lib.hid hB4
    have HC4 := Lib.hid hc4
    clear hB4 hc4
    go_wp2_with fail
    go_ret
    exact ⟨_, rfl, ⟨some ⟨g, 0, none⟩, cap, by rw [HJL.out]; rfl, by rw [HJL.out]; omega, .inr ⟨g, 0, rfl, fun j hj => HC4.out j (by rw [← HJL.out]; omega)⟩⟩, HB4.out⟩
end Go.Proofs.YtmbalkebdmdmaaaDoor
