/- lexer.Name: whether a string is a name. No condition but that the string's length is a length. -/
import Derived.Test.YtmbalkebdmdmaaaDoorLex
namespace Go.Proofs.YtmbalkebdmdmaaaDoor
open Go Go.RowKit
/-- May byte c stand at place i of a name? -/
def okAt (i c : Nat) : Bool := cls c == 3 || (i != 0 && (cls c == 4 || cls c == 5))
def byteAt (s : ByteArray) (i : Nat) : Nat := (s.data.toList.getD i 0).toNat
/-- Is the string a name? -/
def nameB (s : ByteArray) : Bool := decide (s.size ≠ 0 ∧ s.size ≤ 24 ∧ ∀ i, i < s.size → okAt i (byteAt s i) = true)
theorem nameB_true {s : ByteArray} (h0 : s.size ≠ 0) (h1 : s.size ≤ 24) (h : ∀ i, i < s.size → okAt i (byteAt s i) = true) : nameB s = true := decide_eq_true ⟨h0, h1, h⟩
theorem nameB_no {s : ByteArray} {i : Nat} (hi : i < s.size) (h : okAt i (byteAt s i) = false) : nameB s = false :=
  decide_eq_false fun ⟨_, _, h3⟩ => by rw [h3 i hi] at h; cases h
theorem byteAt_eq (s : ByteArray) (i : Nat) (h : i < s.size) : byteAt s i = s[i].toNat := by
  unfold byteAt
  have : s.data.toList.getD i 0 = s[i] := by
    have hl : i < s.data.toList.length := by simpa using h
    rw [List.getD_eq_getElem?_getD, List.getElem?_eq_getElem hl]; rfl
  rw [this]
theorem cls_small (c : Nat) : cls c ≤ 7 := by
  unfold cls cls0
  repeat' split
  all_goals omega

set_option maxHeartbeats 1000000 in
theorem name_any (s : ByteArray) (w : World) (hs : s.size ≤ maxLen) :
    Calls Tryd.prog 28 #[.string s] w fun e w' => e = .returned (.bool (nameB s)) ∧ Below w.heap.size w w' := by
  unfold maxLen at hs
  go_enter Tryd.func28, Tryd.ntmps28
  go_wp2_with (first
    | (go_at_call 39; refine (classes_any _).mono ?_; rintro e w1 ⟨rfl, hb1⟩)
    | ((with_reducible show wpList _ _ _ (Oper.mk none (Op.store 80 _ _) _ _ _ _ :: _) _ _); refine wpList_store_row rfl 80 _ _ rfl w1.heap.size clsAll rfl rfl 80 Tryd.zeroCells80 (Has.new w1 _ _) clsAll_info clsAll_zero clsAll_one ?_))
  have hg : Has ((w1.alloc (.cells Tryd.zeroCells80 80)).setRow w1.heap.size clsAll) w1.heap.size 80 clsAll := setRow_heap _ _ _ _ _ _ (Has.new w1 _ _)
  have hb : Below w.heap.size w ((w1.alloc (.cells Tryd.zeroCells80 80)).setRow w1.heap.size clsAll) := below_setRow (hb1.alloc hb1.size _) hb1.size _
  generalize (w1.alloc (.cells Tryd.zeroCells80 80)).setRow w1.heap.size clsAll = W at *
  go_loop [9] (fun i => ∃ k : Nat, k ≤ s.size ∧ i = .int .i64 k ∧ Hid (∀ j, j < k → okAt j (byteAt s j) = true)) (fun i => s.size - (intOf i).toNat)
  case atStart => exact ⟨0, Nat.zero_le _, rfl, fun j hj => absurd hj (Nat.not_lt_zero _)⟩
  case round =>
    obtain ⟨k, hk, rfl, hrel⟩ := hrel
    by_cases hlt : k < s.size
    · have hcell : ∀ n : Nat, n < 256 → W.cell? ⟨w1.heap.size, n, none⟩ = some (.int .u8 (cls n)) := fun n hn => hg.rcell n hn
      have hb8 := UInt8.toNat_lt s[k]
      have hby := byteAt_eq s k hlt
      have yes : okAt k (byteAt s k) = true → Hid (∀ j, j < k + 1 → okAt j (byteAt s j) = true) := fun h j hj => by
        rcases Nat.lt_or_ge j k with h1 | h1
        · exact hrel.out j h1
        · obtain rfl : j = k := by omega
          exact h
      have no : okAt k (byteAt s k) = false → nameB s = false := fun h => nameB_no hlt h
      rw [hby] at yes no
      have YES := Lib.hid yes
      have NO := Lib.hid no
      clear yes no hby
      by_cases e3 : cls s[k].toNat = 3
      · go_wp2_with fail
        go_round
        case rel => exact ⟨k + 1, by omega, by go_num, YES.out (by simp [okAt, e3])⟩
        case measure => simp [intOf]; omega
      · by_cases hk0 : k = 0
        · subst hk0
          go_wp2_with fail
          go_ret
          exact ⟨ret_bool (by rw [NO.out (by simp [okAt, e3])]), hb⟩
        · by_cases e4 : cls s[k].toNat = 4
          · go_wp2_with fail
            go_round
            case rel => exact ⟨k + 1, by omega, by go_num, YES.out (by simp [okAt, e4, hk0])⟩
            case measure => simp [intOf]; omega
          · by_cases e5 : cls s[k].toNat = 5
            · go_wp2_with fail
              go_round
              case rel => exact ⟨k + 1, by omega, by go_num, YES.out (by simp [okAt, e5, hk0])⟩
              case measure => simp [intOf]; omega
            · have b3 : ((cls s[k].toNat : Int) != 3) = true := by rw [bne_iff_ne]; omega
              have b4 : ((cls s[k].toNat : Int) != 4) = true := by rw [bne_iff_ne]; omega
              have b5 : ((cls s[k].toNat : Int) != 5) = true := by rw [bne_iff_ne]; omega
              go_wp2_with fail
              go_ret
              exact ⟨ret_bool (by rw [NO.out (by simp [okAt, e3, e4, e5])]), hb⟩
    · obtain rfl : k = s.size := by omega
      have hall := hrel.out
      clear hrel
      have fin : nameB s = (!s.toList.isEmpty && decide ((s.size : Int) ≤ 24)) := by
        have he : s.toList.isEmpty = decide (s.size = 0) := by
          exact isEmpty_size s
        rw [he]
        unfold nameB
        rw [Bool.eq_iff_iff]
        simp only [decide_eq_true_eq, Bool.and_eq_true, Bool.not_eq_true', decide_eq_false_iff_not]
        constructor
        · intro ⟨h1, h2, _⟩; exact ⟨h1, by omega⟩
        · intro ⟨h1, h2⟩; exact ⟨h1, by omega, hall⟩
      have FIN := Lib.hid fin
      clear fin hall
      go_wp2_with fail
      all_goals
        go_ret
        refine ⟨ret_bool ?_, hb⟩
        rw [FIN.out]
        try simp_all
end Go.Proofs.YtmbalkebdmdmaaaDoor
