/- '==' and '!=' on two events, as one Bool. -/
import Derived.Test.YtmbalkebdmdmaaaDoorEv1
import Derived.Test.YtmbalkebdmdmaaaDoorLib2
namespace Go.Proofs.YtmbalkebdmdmaaaDoor
open Go Go.RowKit
def evEq (e f : Ev) : Bool := decide (e = f)
theorem bytes_beq (a b : ByteArray) : (a.toList == b.toList) = decide (a = b) := by
  rw [Bool.eq_iff_iff, beq_iff_eq, decide_eq_true_iff, _root_.Go.ByteArray.toList_eq, _root_.Go.ByteArray.toList_eq]
  constructor
  · intro h
    cases a; cases b
    simpa using h
  · rintro rfl; rfl
theorem bytes_inj (a b : ByteArray) : (a.toList = b.toList) = (a = b) := by
  have h := bytes_beq a b
  rw [Bool.eq_iff_iff, beq_iff_eq, decide_eq_true_iff] at h
  exact propext h
theorem ite_dec (c : Prop) [Decidable c] (b : Bool) (w : World) :
    (if c then (Result.ok (Value.bool b) w : Result Value) else Result.ok (Value.bool false) w) = Result.ok (Value.bool (decide c && b)) w := by
  split <;> simp [*]
theorem ite_dec' (c : Prop) [Decidable c] (b : Bool) (w : World) :
    (if c then (Result.ok (Value.bool b) w : Result Value) else Result.ok (Value.bool true) w) = Result.ok (Value.bool (!decide c || b)) w := by
  split <;> simp [*]
set_option maxRecDepth 100000 in
set_option maxHeartbeats 2000000 in
theorem run_evEq (w : World) (a0 a1 : Int) (a2 a3 a4 a5 a6 a7 : ByteArray) (a8 a9 a10 a11 a12 a13 : Int) (b0 b1 : Int) (b2 b3 b4 b5 b6 b7 : ByteArray) (b8 b9 b10 b11 b12 b13 : Int) :
    (binOp .eql 39 (.agg #[.int .i64 a0, .int .i64 a1, .string a2, .string a3, .string a4, .string a5, .string a6, .string a7, .int .i64 a8, .int .i64 a9, .int .i64 a10, .int .i64 a11, .int .i64 a12, .int .i64 a13])
      (.agg #[.int .i64 b0, .int .i64 b1, .string b2, .string b3, .string b4, .string b5, .string b6, .string b7, .int .i64 b8, .int .i64 b9, .int .i64 b10, .int .i64 b11, .int .i64 b12, .int .i64 b13])).run Tryd.prog w
      = .ok (.bool (evEq ⟨a0, a1, a2, a3, a4, a5, a6, a7, a8, a9, a10, a11, a12, a13⟩ ⟨b0, b1, b2, b3, b4, b5, b6, b7, b8, b9, b10, b11, b12, b13⟩)) w := by
  go_simp
  simp only [ite_dec]
  refine congrArg (fun b => Result.ok (Value.bool b) w) ?_
  rw [Bool.eq_iff_iff]
  simp [evEq, bytes_inj]

set_option maxRecDepth 100000 in
set_option maxHeartbeats 2000000 in
theorem run_evNe (w : World) (a0 a1 : Int) (a2 a3 a4 a5 a6 a7 : ByteArray) (a8 a9 a10 a11 a12 a13 : Int) (b0 b1 : Int) (b2 b3 b4 b5 b6 b7 : ByteArray) (b8 b9 b10 b11 b12 b13 : Int) :
    (binOp .neq 39 (.agg #[.int .i64 a0, .int .i64 a1, .string a2, .string a3, .string a4, .string a5, .string a6, .string a7, .int .i64 a8, .int .i64 a9, .int .i64 a10, .int .i64 a11, .int .i64 a12, .int .i64 a13])
      (.agg #[.int .i64 b0, .int .i64 b1, .string b2, .string b3, .string b4, .string b5, .string b6, .string b7, .int .i64 b8, .int .i64 b9, .int .i64 b10, .int .i64 b11, .int .i64 b12, .int .i64 b13])).run Tryd.prog w
      = .ok (.bool (!evEq ⟨a0, a1, a2, a3, a4, a5, a6, a7, a8, a9, a10, a11, a12, a13⟩ ⟨b0, b1, b2, b3, b4, b5, b6, b7, b8, b9, b10, b11, b12, b13⟩)) w := by
  go_simp
  simp only [ite_dec']
  refine congrArg (fun b => Result.ok (Value.bool b) w) ?_
  rw [Bool.eq_iff_iff]
  simp [evEq, bytes_inj]
attribute [go_sem ↓] run_evEq run_evNe
end Go.Proofs.YtmbalkebdmdmaaaDoor
