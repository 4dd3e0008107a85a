/- rule.node: not, and, or. Condition: the strings lie in memory, the kids' slice has a length. -/
import Derived.BigQuiet
import Derived.Test.YtcpakaiblelmlaaGreatDoorU07
namespace Go.Proofs.YtcpakaiblelmlaaGreatDoor
open Go Go.RowKit
set_option maxRecDepth 100000 in
set_option maxHeartbeats 8000000 in
theorem node_2 (name value : ByteArray) (n extra : Int) (A : Option Addr) (len c : Nat) (w : World) (_hlen : len ≤ 1000000) (_hnm : name.size ≤ maxLen) (_hvl : value.size ≤ maxLen) :
    Calls Tryz.prog 30 #[.agg #[.int .i64 2, .string name, .string value, .int .i64 n, .int .i64 extra, .slice A len c]] w fun r w' => r = .returned (.bool (decide (NodeOk 2 name value n extra len))) ∧ Below w.heap.size w w' := by
  have hE : decide (NodeOk 2 name value n extra len) = (decide (len = 1) && (decide (name.toList = []) && (decide (value.toList = []) && (decide (0 = n) && decide (0 = extra))))) := by
    rw [size0, size0, Bool.eq_iff_iff]
    simp [NodeOk]
    first
      | (constructor <;> (rintro ⟨h1, h2, h3, h4, h5⟩; exact ⟨by omega, h2, h3, by omega, by omega⟩))
      | (intros; omega)
  rw [hE]
  clear hE
  have H0 := Lib.hid (NoB.start w #[.int .i64 2, .string name, .string value, .int .i64 n, .int .i64 extra, .slice A len c] #[.int .i64 2, .string ⟨#[]⟩, .string ⟨#[]⟩, .int .i64 0, .int .i64 0, .slice none 0 0])
  have hmx : Tryz.prog.follows .mixedOrders = true := by kernel_rfl
  by_cases hk : len = 1
  · subst hk
    obtain ⟨dc, fc⟩ := H0.out.c.facts
    obtain ⟨dx, fx⟩ := H0.out.x.facts
    go_enter Tryz.func30, Tryz.ntmps30
    go_wp2_with fail
    go_quiet (fail)
    go_wp2_with fail
    all_goals
      go_ret
      refine ⟨?_, below_drewN (((Below.refl _ _).alloc (Nat.le_refl _) _).alloc (by simp) _) _⟩
      simp [*]
      try (rw [Bool.eq_iff_iff, beq_iff_eq, decide_eq_true_iff])
  · have hki : ((len : Int) == 1) = false := by simp; omega
    obtain ⟨dc, fc⟩ := H0.out.c.facts
    obtain ⟨dx, fx⟩ := H0.out.x.facts
    go_enter Tryz.func30, Tryz.ntmps30
    go_wp2_with fail
    go_quiet (fail)
    go_wp2_with fail
    all_goals
      go_ret
      refine ⟨?_, below_drewN (((Below.refl _ _).alloc (Nat.le_refl _) _).alloc (by simp) _) _⟩
      simp [*]
      try (rw [Bool.eq_iff_iff, beq_iff_eq, decide_eq_true_iff])
set_option maxRecDepth 100000 in
set_option maxHeartbeats 8000000 in
theorem node_3 (name value : ByteArray) (n extra : Int) (A : Option Addr) (len c : Nat) (w : World) (_hlen : len ≤ 1000000) (_hnm : name.size ≤ maxLen) (_hvl : value.size ≤ maxLen) :
    Calls Tryz.prog 30 #[.agg #[.int .i64 3, .string name, .string value, .int .i64 n, .int .i64 extra, .slice A len c]] w fun r w' => r = .returned (.bool (decide (NodeOk 3 name value n extra len))) ∧ Below w.heap.size w w' := by
  have hE : decide (NodeOk 3 name value n extra len) = (decide (1 < len) && (decide (name.toList = []) && (decide (value.toList = []) && (decide (0 = n) && decide (0 = extra))))) := by
    rw [size0, size0, Bool.eq_iff_iff]
    simp [NodeOk]
    first
      | (constructor <;> (rintro ⟨h1, h2, h3, h4, h5⟩; exact ⟨by omega, h2, h3, by omega, by omega⟩))
      | (intros; omega)
  rw [hE]
  clear hE
  have H0 := Lib.hid (NoB.start w #[.int .i64 3, .string name, .string value, .int .i64 n, .int .i64 extra, .slice A len c] #[.int .i64 3, .string ⟨#[]⟩, .string ⟨#[]⟩, .int .i64 0, .int .i64 0, .slice none 0 0])
  have hmx : Tryz.prog.follows .mixedOrders = true := by kernel_rfl
  by_cases hk : 1 < len
  · have hki : (1 : Int) < (len : Int) := by omega
    obtain ⟨dc, fc⟩ := H0.out.c.facts
    obtain ⟨dx, fx⟩ := H0.out.x.facts
    go_enter Tryz.func30, Tryz.ntmps30
    go_wp2_with fail
    go_quiet (fail)
    go_wp2_with fail
    all_goals
      go_ret
      refine ⟨?_, below_drewN (((Below.refl _ _).alloc (Nat.le_refl _) _).alloc (by simp) _) _⟩
      simp [*]
      try (rw [Bool.eq_iff_iff, beq_iff_eq, decide_eq_true_iff])
  · have hki : ¬ (1 : Int) < (len : Int) := by omega
    obtain ⟨dc, fc⟩ := H0.out.c.facts
    obtain ⟨dx, fx⟩ := H0.out.x.facts
    go_enter Tryz.func30, Tryz.ntmps30
    go_wp2_with fail
    go_quiet (fail)
    go_wp2_with fail
    all_goals
      go_ret
      refine ⟨?_, below_drewN (((Below.refl _ _).alloc (Nat.le_refl _) _).alloc (by simp) _) _⟩
      simp [*]
      try (rw [Bool.eq_iff_iff, beq_iff_eq, decide_eq_true_iff])
set_option maxRecDepth 100000 in
set_option maxHeartbeats 8000000 in
theorem node_4 (name value : ByteArray) (n extra : Int) (A : Option Addr) (len c : Nat) (w : World) (_hlen : len ≤ 1000000) (_hnm : name.size ≤ maxLen) (_hvl : value.size ≤ maxLen) :
    Calls Tryz.prog 30 #[.agg #[.int .i64 4, .string name, .string value, .int .i64 n, .int .i64 extra, .slice A len c]] w fun r w' => r = .returned (.bool (decide (NodeOk 4 name value n extra len))) ∧ Below w.heap.size w w' := by
  have hE : decide (NodeOk 4 name value n extra len) = (decide (1 < len) && (decide (name.toList = []) && (decide (value.toList = []) && (decide (0 = n) && decide (0 = extra))))) := by
    rw [size0, size0, Bool.eq_iff_iff]
    simp [NodeOk]
    first
      | (constructor <;> (rintro ⟨h1, h2, h3, h4, h5⟩; exact ⟨by omega, h2, h3, by omega, by omega⟩))
      | (intros; omega)
  rw [hE]
  clear hE
  have H0 := Lib.hid (NoB.start w #[.int .i64 4, .string name, .string value, .int .i64 n, .int .i64 extra, .slice A len c] #[.int .i64 4, .string ⟨#[]⟩, .string ⟨#[]⟩, .int .i64 0, .int .i64 0, .slice none 0 0])
  have hmx : Tryz.prog.follows .mixedOrders = true := by kernel_rfl
  by_cases hk : 1 < len
  · have hki : (1 : Int) < (len : Int) := by omega
    obtain ⟨dc, fc⟩ := H0.out.c.facts
    obtain ⟨dx, fx⟩ := H0.out.x.facts
    go_enter Tryz.func30, Tryz.ntmps30
    go_wp2_with fail
    go_quiet (fail)
    go_wp2_with fail
    all_goals
      go_ret
      refine ⟨?_, below_drewN (((Below.refl _ _).alloc (Nat.le_refl _) _).alloc (by simp) _) _⟩
      simp [*]
      try (rw [Bool.eq_iff_iff, beq_iff_eq, decide_eq_true_iff])
  · have hki : ¬ (1 : Int) < (len : Int) := by omega
    obtain ⟨dc, fc⟩ := H0.out.c.facts
    obtain ⟨dx, fx⟩ := H0.out.x.facts
    go_enter Tryz.func30, Tryz.ntmps30
    go_wp2_with fail
    go_quiet (fail)
    go_wp2_with fail
    all_goals
      go_ret
      refine ⟨?_, below_drewN (((Below.refl _ _).alloc (Nat.le_refl _) _).alloc (by simp) _) _⟩
      simp [*]
      try (rw [Bool.eq_iff_iff, beq_iff_eq, decide_eq_true_iff])
end Go.Proofs.YtcpakaiblelmlaaGreatDoor
