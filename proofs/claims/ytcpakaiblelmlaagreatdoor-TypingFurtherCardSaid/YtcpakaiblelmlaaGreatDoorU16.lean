/- rule.size: how many nodes a condition has, at most 61. Condition: the condition lies in memory. -/
import Derived.IntWalk
import Derived.RangeFuncBox
import Derived.Test.YtcpakaiblelmlaaGreatDoorU02
namespace Go.Proofs.YtcpakaiblelmlaaGreatDoor
open Go Go.RowKit
def szF (n : Nat) (_ : Ex) : Bool := decide (n + 1 ≤ 60)
def szS (n : Nat) (_ : Ex) : Nat := n + 1
mutual
theorem sz_E (n : Nat) : ∀ e : Ex, n ≤ 60 → wkE szF szS n e = (decide (n + cnt e ≤ 60), min (n + cnt e) 61)
  | .mk o a v m x ks => fun h => by
    rw [wkE_eq]
    have hc : cnt (.mk o a v m x ks) = cnts ks + 1 := cnt_eq _
    unfold szF szS
    split
    · rename_i h1
      have h1 := of_decide_eq_true h1
      show wkL szF szS (n + 1) ks = _
      rw [sz_L (n + 1) ks h1, hc, show n + 1 + cnts ks = n + (cnts ks + 1) by omega]
    · rename_i h1
      have h1 : ¬ n + 1 ≤ 60 := fun h => h1 (decide_eq_true h)
      rw [hc]
      refine Prod.ext (decide_eq_false (by omega)).symm ?_
      show n + 1 = min (n + (cnts ks + 1)) 61
      omega
theorem sz_L (n : Nat) : ∀ ks : List Ex, n ≤ 60 → wkL szF szS n ks = (decide (n + cnts ks ≤ 60), min (n + cnts ks) 61)
  | [] => fun h => by
    rw [wkL_nil, cnts_nil]
    refine Prod.ext (decide_eq_true (by omega)).symm ?_
    show n = min (n + 0) 61
    omega
  | k :: ks => fun h => by
    rw [wkL_cons, sz_E n k h, cnts_cons]
    have := cnt_pos k
    by_cases h1 : n + cnt k ≤ 60
    · rw [if_pos (decide_eq_true h1)]
      show wkL szF szS (min (n + cnt k) 61) ks = _
      rw [show min (n + cnt k) 61 = n + cnt k by omega, sz_L (n + cnt k) ks h1, show n + cnt k + cnts ks = n + (cnt k + cnts ks) by omega]
    · rw [if_neg (by simpa using h1)]
      refine Prod.ext (decide_eq_false (by omega)).symm ?_
      show min (n + cnt k) 61 = min (n + (cnt k + cnts ks)) 61
      omega
end
set_option maxRecDepth 100000 in
set_option maxHeartbeats 4000000 in
theorem sz1_any (b n : Nat) (e : Ex) (kv : Value) (w : World) (hn : n ≤ 60) (h : Has w b 3 #[.int .i64 n]) :
    Calls Tryz.prog 54 #[.agg #[.int .i64 e.op, .string e.name, .string e.value, .int .i64 e.n, .int .i64 e.extra, kv], .pointer (some ⟨b, 0, none⟩)] w fun r w' => r = .returned (.bool (szF n e)) ∧ Has w' b 3 #[.int .i64 (n + 1 : Nat)] ∧ w.grownBy w' (some b) := by
  have hlt := h.lt
  have HB := Lib.hid (show Below w.heap.size w (w.alloc (.cells #[.int .i64 e.op, .string e.name, .string e.value, .int .i64 e.n, .int .i64 e.extra, kv] 27)) from (Below.refl _ _).alloc (Nat.le_refl _) _)
  have HH := Lib.hid (h.alloc (.cells #[.int .i64 e.op, .string e.name, .string e.value, .int .i64 e.n, .int .i64 e.extra, kv] 27))
  obtain ⟨d, f⟩ := HH.out.facts
  obtain ⟨d0, f0⟩ := h.facts
  have HF := Lib.hid (show szF n e = decide ((n : Int) + 1 ≤ 60) from decide_eq_decide.2 (by omega))
  have hw : IntKind.i64.wrap ((n : Int) + 1) = (n : Int) + 1 := IntWalk.i64_in _ (by omega)
  go_enter Tryz.func54, Tryz.ntmps54
  go_wp2_with fail
  go_ret
  exact ⟨ret_bool HF.out.symm, (h.put 0 (.int .i64 ((n : Int) + 1))).alloc _, grown_trans (grownBy_setCell' w b _) (grown_of_below ((Below.refl _ _).alloc (Nat.le_refl _) _))⟩
theorem size_vis (b : Nat) : Vis (fun _ => True) 54 #[.pointer (some ⟨b, 0, none⟩)] (some b) (fun n W => Has W b 3 #[.int .i64 n]) (fun n => n ≤ 60) szF szS where
  kids _ _ _ _ := trivial
  enters := enters_of Tryz.func54 (by kernel_rfl) rfl
  small n W h b' hb := by
    injection hb with hb
    subst hb
    refine ⟨h.lt, fun o v ho hv => ?_⟩
    rw [h.cell o, Array.getElem?_eq_none (by show 1 ≤ o; omega)] at hv
    cases hv
  later n W W' h hb := h.below hb h.lt
  keep n e _ h := of_decide_eq_true h
  call n e kv W _ hg hR _ := sz1_any b n e kv W hg hR
set_option maxRecDepth 100000 in
set_option maxHeartbeats 4000000 in
theorem size_any (e : Ex) (kv : Value) (w : World) (hc : cnt e ≤ 1000000) (hl : Lay w kv e.kids) :
    Calls Tryz.prog 28 #[.agg #[.int .i64 e.op, .string e.name, .string e.value, .int .i64 e.n, .int .i64 e.extra, kv]] w fun r w' => r = .returned (.int .i64 (min (cnt e) 61 : Nat)) ∧ Below w.heap.size w w' := by
  have hb : Below w.heap.size w ((w.alloc (.cells #[.int .i64 e.op, .string e.name, .string e.value, .int .i64 e.n, .int .i64 e.extra, kv] 27)).alloc (.cells #[.int .i64 0] 3)) := ((Below.refl _ _).alloc (Nat.le_refl _) _).alloc (by simp) _
  have hn : Has ((w.alloc (.cells #[.int .i64 e.op, .string e.name, .string e.value, .int .i64 e.n, .int .i64 e.extra, kv] 27)).alloc (.cells #[.int .i64 0] 3)) (w.heap.size + 1) 3 #[.int .i64 0] := by
    rw [show w.heap.size + 1 = (w.alloc (.cells #[.int .i64 e.op, .string e.name, .string e.value, .int .i64 e.n, .int .i64 e.extra, kv] 27)).heap.size from (World.size_alloc _ _).symm]
    exact Has.new _ _ _
  have HW := Lib.hid (walk_rec (size_vis (w.heap.size + 1)) (cnt e) e 0 kv _ (Nat.le_refl _) hc trivial (Nat.zero_le _) hn (hl.later hb))
  have HE := Lib.hid (sz_E 0 e (Nat.zero_le _))
  have HB := Lib.hid hb
  obtain ⟨A, c, rfl, _⟩ := hl.slice
  clear hb hn hl
  go_enter Tryz.func28, Tryz.ntmps28
  go_wp2_with (go_at_call 29; refine HW.out.mono ?_; clear HW; rintro r w2 ⟨rfl, hr, hg⟩; rw [HE.out] at hr; have HR := Lib.hid hr; have HG := Lib.hid (show Below w.heap.size w w2 from HB.out.grown hg HB.out.size (fun k e => by injection e with e; omega)); obtain ⟨d2, f2⟩ := hr.facts; clear hr hg)
  go_ret
  exact ⟨rfl, HG.out⟩
end Go.Proofs.YtcpakaiblelmlaaGreatDoor
