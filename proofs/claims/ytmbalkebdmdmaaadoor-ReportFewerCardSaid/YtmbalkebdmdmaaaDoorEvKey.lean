/- Events as keys of a map. -/
import Derived.Test.YtmbalkebdmdmaaaDoorEvEq
import Derived.Test.YtmbalkebdmdmaaaDoorMaps
import Derived.WideKeyRuns
namespace Go.Proofs.YtmbalkebdmdmaaaDoor
open Go Go.RowKit
def Ev.enc (e : Ev) : Value := .agg e.cells
set_option maxRecDepth 100000 in
set_option maxHeartbeats 1000000 in
theorem ev_equal (w : World) (e f : Ev) : (Op.equal 39 e.enc f.enc).run Tryd.prog w = .ok (decide (e = f)) w := by
  obtain ⟨a0, a1, a2, a3, a4, a5, a6, a7, a8, a9, a10, a11, a12, a13⟩ := e
  obtain ⟨b0, b1, b2, b3, b4, b5, b6, b7, b8, b9, b10, b11, b12, b13⟩ := f
  have h := run_evEq w a0 a1 a2 a3 a4 a5 a6 a7 a8 a9 a10 a11 a12 a13 b0 b1 b2 b3 b4 b5 b6 b7 b8 b9 b10 b11 b12 b13
  simp only [binOp, Sem.run_bind] at h
  show (Op.equal 39 (.agg #[.int .i64 a0, .int .i64 a1, .string a2, .string a3, .string a4, .string a5, .string a6, .string a7, .int .i64 a8, .int .i64 a9, .int .i64 a10, .int .i64 a11, .int .i64 a12, .int .i64 a13])
      (.agg #[.int .i64 b0, .int .i64 b1, .string b2, .string b3, .string b4, .string b5, .string b6, .string b7, .int .i64 b8, .int .i64 b9, .int .i64 b10, .int .i64 b11, .int .i64 b12, .int .i64 b13])).run Tryd.prog w = _
  generalize (Op.equal 39 _ _).run Tryd.prog w = r at h ⊢
  cases r with
  | ok x w1 =>
    simp only [Result.andThen_ok, Sem.run_pure, Result.ok.injEq, Value.bool.injEq] at h
    rw [h.1, h.2]; rfl
  | halt x w1 => simp [Result.andThen] at h
theorem ev_check (w : World) (em : Bool) (e : Ev) : (Instr.checkKey em 10000 39 e.enc).run Tryd.prog w = .ok () w := by
  obtain ⟨a0, a1, a2, a3, a4, a5, a6, a7, a8, a9, a10, a11, a12, a13⟩ := e
  kernel_rfl
theorem ev_stays (w : World) (e : Ev) : (Instr.keyThatStays e.enc e.enc).run Tryd.prog w = .ok e.enc w := by
  have h : Instr.sameBits 10000 e.enc e.enc = true := by
    simp [Ev.enc, Ev.cells, Instr.sameBits, beq_toListBytes]
  simp [Instr.keyThatStays, h]
theorem ev_keying : Keying Tryd.prog 39 Ev Ev.enc where
  check := ev_check
  stays := ev_stays
  find w a es m h := by
    have hf := findAsking_run ev_equal w a es m 0 h
    have : (Instr.findKey 39 a.enc es).run Tryd.prog w = (Instr.findAsking 39 a.enc es 0).run Tryd.prog w :=
      run_findKey_eq _ (by rw [Tryd.underlying39]) _ _
    rw [this, hf]
    simp
end Go.Proofs.YtmbalkebdmdmaaaDoor
