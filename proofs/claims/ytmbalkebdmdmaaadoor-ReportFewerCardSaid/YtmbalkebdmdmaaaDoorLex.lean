/- lexer.classes and lexer.Name: what they return. No condition. -/
import Derived.Test.YtmbalkebdmdmaaaDoorLib
import Derived.Test.YtmbalkebdmdmaaaDoorProg
import Derived.Shelf.Strings.Search1
import Derived.Laws.CopyOwn
import Derived.Test.YtmbalkebdmdmaaaDoorSh
namespace Go.Proofs.YtmbalkebdmdmaaaDoor
open Go Go.RowKit
/-- strings.IndexByte, by the byte's number. -/
def ixb (l : List UInt8) (c : Nat) : Int := Lib.indexByte l c.toUInt8
theorem indexByte_n (s : ByteArray) (c : Nat) (w : World) :
    Calls Tryd.prog 53 #[.string s, .int .u8 c] w fun e w' => e = .returned (.int .i64 (ixb s.data.toList c)) ∧ w = w' :=
  (Tryd.strings_IndexByte s c w).mono fun _ _ ⟨h1, h2⟩ => ⟨h1, h2.symm⟩

def blanks : List UInt8 := [32, 9, 10]
def signs : List UInt8 := [59, 44, 46, 58, 40, 41, 123, 125, 91, 93, 61, 60, 62, 47, 43, 45, 42]
def cls0 (c : Nat) : Nat :=
  if 97 ≤ c ∧ c ≤ 122 ∨ 65 ≤ c ∧ c ≤ 90 then 3 else if 48 ≤ c ∧ c ≤ 57 then 4
  else if 0 ≤ ixb [32, 9, 10] c then 1
  else if 0 ≤ ixb [59, 44, 46, 58, 40, 41, 123, 125, 91, 93, 61, 60, 62, 47, 43, 45, 42] c then 6 else 0
/-- The class of a byte. -/
def cls (c : Nat) : Nat := if c = 34 then 7 else if c = 95 then 5 else if c = 35 then 2 else cls0 c
def clsF (k : Nat) (j : Nat) : Value := Value.int .u8 (if j < k then (cls0 j : Int) else 0)
def clsTo (k : Nat) : Array Value := row 256 (clsF k)
def clsAll : Array Value := row 256 fun j => Value.int .u8 (cls j : Int)

set_option maxRecDepth 100000 in
theorem clsTo_zero : clsTo 0 = Tryd.zeroCells80 := by
  have h : clsTo 0 = row 256 fun _ => Value.int .u8 0 := row_congr fun i _ => by simp [clsF]
  rw [h]
  exact (by kernel_rfl : row 256 (fun _ => Value.int .u8 0) = Tryd.zeroCells80)
theorem clsTo_step (k : Nat) (c : Int) (hc : c = cls0 k) : row 256 (fun j => if j = k then Value.int .u8 c else clsF k j) = clsTo (k + 1) := by
  subst hc
  refine row_congr fun i _ => ?_
  unfold clsF
  by_cases e : i = k
  · subst e; simp
  · rw [if_neg e]
    by_cases h3 : i < k
    · rw [if_pos h3, if_pos (by omega)]
    · rw [if_neg h3, if_neg (by omega)]
theorem clsTo_keep (k : Nat) (hc : cls0 k = 0) : clsTo k = clsTo (k + 1) := by
  refine row_congr fun i _ => ?_
  unfold clsF
  by_cases e : i = k
  · subst e; simp [hc]
  · by_cases h3 : i < k
    · rw [if_pos h3, if_pos (by omega)]
    · rw [if_neg h3, if_neg (by omega)]
theorem clsTo_all : row 256 (fun j => if j = 34 then Value.int .u8 7 else if j = 95 then .int .u8 5 else if j = 35 then .int .u8 2 else clsF 256 j) = clsAll := by
  refine row_congr fun i hi => ?_
  unfold clsF cls
  rw [if_pos hi]
  split
  · rfl
  · split
    · rfl
    · split <;> rfl

theorem clsAll_one : (clsAll.all fun x => x.oneCell') = true := row_one fun _ => rfl
theorem clsAll_info : (Tryd.prog.info? 80).map (·.size) = some clsAll.size := by rw [clsAll, row_size]; kernel_rfl
theorem clsAll_zero : Tryd.zeroCells80.size = clsAll.size := by rw [clsAll, row_size]; kernel_rfl

set_option maxRecDepth 100000 in
set_option maxHeartbeats 2000000 in
theorem classes_any (w : World) : Calls Tryd.prog 39 #[] w fun e w' => e = .returned (.agg clsAll) ∧ Below w.heap.size w w' := by
  go_enter Tryd.func39, Tryd.ntmps39
  go_wp2_with fail
  go_loopw [4] (fun i wr => ∃ k : Nat, k ≤ 256 ∧ i = .int .i64 k ∧ Has wr (w.heap.size + 1) 80 (clsTo k) ∧ Has wr w.heap.size 80 Tryd.zeroCells80 ∧ Below w.heap.size w wr) (fun i _ => 256 - (intOf i).toNat)
  case atStart =>
    refine ⟨0, by omega, rfl, ?_, ?_, ?_⟩
    · rw [clsTo_zero]
      have := Has.new (w.alloc (.cells Tryd.zeroCells80 80)) 80 Tryd.zeroCells80
      simpa using this
    · exact (Has.new w 80 _).alloc _
    · exact ((Below.refl _ _).alloc (Nat.le_refl _) _).alloc (by simp) _
  case round =>
    obtain ⟨k, hk, rfl, hO, hR, hB⟩ := hrel
    by_cases hlt : k < 256
    · have c0 : wr.cell? ⟨w.heap.size + 1, k, none⟩ = some (.int .u8 0) := by
        have := hO.rcell k hlt
        simpa [clsF] using this
      have f0 := hO.free k
      have HO := Lib.hid hO
      have HR := Lib.hid hR
      have HB := Lib.hid hB
      clear hO hR hB
      have fin : ∀ c : Int, c = cls0 k → (Has (wr.setCell ⟨w.heap.size + 1, k, none⟩ (.int .u8 c)) (w.heap.size + 1) 80 (clsTo (k + 1)) ∧ Has (wr.setCell ⟨w.heap.size + 1, k, none⟩ (.int .u8 c)) w.heap.size 80 Tryd.zeroCells80 ∧ Below w.heap.size w (wr.setCell ⟨w.heap.size + 1, k, none⟩ (.int .u8 c))) := by
        intro c hc
        refine ⟨?_, HR.out.far _ (by simp) _, HB.out.setCell (by simp) _⟩
        have := HO.out.rput k (.int .u8 c)
        rwa [clsTo_step k c hc] at this
      have FIN := Lib.hid fin
      clear fin
      have hcs : (97 ≤ k ∧ k ≤ 122) ∨ (65 ≤ k ∧ k ≤ 90) ∨ (48 ≤ k ∧ k ≤ 57) ∨ (k < 48 ∨ (57 < k ∧ k < 65) ∨ (90 < k ∧ k < 97) ∨ 122 < k) := by omega
      rcases hcs with hc | hc | hc | hc
      · go_wp2_with fail
        go_roundw
        case rel => exact ⟨k + 1, by omega, by go_num, FIN.out 3 (by unfold cls0; rw [if_pos (by omega)]; rfl)⟩
        case measure => simp [intOf]; omega
      · go_wp2_with fail
        go_roundw
        case rel => exact ⟨k + 1, by omega, by go_num, FIN.out 3 (by unfold cls0; rw [if_pos (by omega)]; rfl)⟩
        case measure => simp [intOf]; omega
      · go_wp2_with fail
        go_roundw
        case rel => exact ⟨k + 1, by omega, by go_num, FIN.out 4 (by unfold cls0; rw [if_neg (by omega), if_pos (by omega)]; rfl)⟩
        case measure => simp [intOf]; omega
      · have hk0 : cls0 k = if 0 ≤ ixb [32, 9, 10] k then 1 else if 0 ≤ ixb [59, 44, 46, 58, 40, 41, 123, 125, 91, 93, 61, 60, 62, 47, 43, 45, 42] k then 6 else 0 := by
          unfold cls0; rw [if_neg (by omega), if_neg (by omega)]
        have HK := Lib.hid hk0
        clear hk0
        rcases hc with hc | hc | hc | hc
        all_goals
          by_cases h1 : 0 ≤ ixb [32, 9, 10] k
          · go_wp2_with (go_at_call 53; refine (indexByte_n _ _ _).mono ?_; rintro e w' ⟨rfl, rfl⟩)
            go_roundw
            case rel => exact ⟨k + 1, by omega, by go_num, FIN.out 1 (by rw [HK.out, if_pos h1]; rfl)⟩
            case measure => simp [intOf]; omega
          · by_cases h2 : 0 ≤ ixb [59, 44, 46, 58, 40, 41, 123, 125, 91, 93, 61, 60, 62, 47, 43, 45, 42] k
            · go_wp2_with (go_at_call 53; refine (indexByte_n _ _ _).mono ?_; rintro e w' ⟨rfl, rfl⟩)
              go_roundw
              case rel => exact ⟨k + 1, by omega, by go_num, FIN.out 6 (by rw [HK.out, if_neg (by omega), if_pos h2]; rfl)⟩
              case measure => simp [intOf]; omega
            · go_wp2_with (go_at_call 53; refine (indexByte_n _ _ _).mono ?_; rintro e w' ⟨rfl, rfl⟩)
              go_roundw
              case rel => exact ⟨k + 1, by omega, by go_num, by rw [← clsTo_keep k (by rw [HK.out, if_neg (by omega), if_neg (by omega)])]; exact HO.out, HR.out, HB.out⟩
              case measure => simp [intOf]; omega
    · obtain rfl : k = 256 := by omega
      have c1 := hO.rcell 35 (by omega)
      have c2 := hO.rcell 95 (by omega)
      have c3 := hO.rcell 34 (by omega)
      have f1 := hO.free 35
      have f2 := hO.free 95
      have f3 := hO.free 34
      have hO' := ((hO.rput 35 (.int .u8 2)).rput 95 (.int .u8 5)).rput 34 (.int .u8 7)
      rw [clsTo_all] at hO'
      have hR' := ((hR.far ⟨w.heap.size + 1, 35, none⟩ (by simp) (.int .u8 2)).far ⟨w.heap.size + 1, 95, none⟩ (by simp) (.int .u8 5)).far ⟨w.heap.size + 1, 34, none⟩ (by simp) (.int .u8 7)
      have hB' := ((hB.setCell (p := ⟨w.heap.size + 1, 35, none⟩) (by simp) (.int .u8 2)).setCell (p := ⟨w.heap.size + 1, 95, none⟩) (by simp) (.int .u8 5)).setCell (p := ⟨w.heap.size + 1, 34, none⟩) (by simp) (.int .u8 7)
      clear hO hR hB
      go_wp2_with (first
        | ((with_reducible show wpList _ _ _ (Oper.mk (some 49) _ _ _ _ _ :: _) _ _); refine wpList_load_row rfl 80 _ rfl (w.heap.size + 1) rfl 80 clsAll (0, 0) _ hO' Tryd.underlying80 rfl clsAll_info ?_)
        | ((with_reducible show wpList _ _ _ (Oper.mk none (Op.store 80 _ _) _ _ _ _ :: _) _ _); refine wpList_store_row rfl 80 _ _ rfl w.heap.size clsAll rfl rfl 80 Tryd.zeroCells80 hR' clsAll_info clsAll_zero clsAll_one ?_))
      have hG := setRow_heap _ w.heap.size _ clsAll _ _ hR'
      show bodyPost _ _ _ _ _ _
      refine bodyPost_ret (v := .agg clsAll) ?_ rfl ?_
      · exact results_cell_row Tryd.results39 _ _ w.heap.size 80 clsAll (0, 0) _ rfl hG Tryd.underlying80 rfl clsAll_info
      · exact ⟨rfl, below_setRow hB' (Nat.le_refl _) _⟩
end Go.Proofs.YtmbalkebdmdmaaaDoor
