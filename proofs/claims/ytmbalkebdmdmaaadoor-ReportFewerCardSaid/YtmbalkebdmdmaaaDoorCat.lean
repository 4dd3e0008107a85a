/- slices.Concat over slices of strings (and the slices.Grow that it calls). -/
import Derived.Test.YtmbalkebdmdmaaaDoorApp
import Derived.Test.YtmbalkebdmdmaaaDoorProg
import Derived.Lib.AppendZeros
namespace Go.Proofs.YtmbalkebdmdmaaaDoor
open Go Go.RowKit
theorem slc_one {k : Nat} {f : Nat → Value} (h : ∀ j, j < k → (f j).oneCell' = true) : ∀ u ∈ slCells k f, u.oneCell' = true := by
  intro u hu
  simp only [slCells, List.mem_map, List.mem_range] at hu
  obtain ⟨j, hj, rfl⟩ := hu
  exact h j hj
theorem info_strC : (Tryd.prog.info? 9).map (fun i => (i.zero, i.size, i.bytes)) = some (some (.string ⟨#[]⟩), 1, 16) := by kernel_rfl
theorem zeroCells_size (z : Array Value) (n : Nat) : (Builtin.zeroCells z n).size = n * z.size := by simp [Builtin.zeroCells]
set_option maxRecDepth 100000 in
set_option maxHeartbeats 1000000 in
theorem growStr_any (n : Nat) (hn : n ≤ 100000) (w : World) :
    Calls Tryd.prog 54 #[.slice none 0 0, .int .i64 n] w fun r w' => ∃ v, r = .returned v ∧ w'.ownsRow w.heap.size 9 1 v 0 [] ∧ Below w.heap.size w w' := by
  obtain ⟨i0, hi, hz0, hq1, hq2⟩ := info_parts info_strC
  have hI := Lib.hid hi
  have hZ := Lib.hid hz0
  clear hi hz0
  rcases Nat.eq_zero_or_pos n with rfl | h0
  · go_enter Tryd.func54, Tryd.ntmps54
    go_wp2
    go_ret
    exact ⟨_, rfl, World.ownsRow_nil _ _ _ _, Below.refl _ _⟩
  · have hrun := Lib.hid (fun W ty => Lib.run_append_nil_zeros (P := Tryd.prog) W 45 3 ty 9 i0 (.string ⟨#[]⟩) .i64 .i64 Tryd.underlying45 Tryd.underlying3 hI.out hZ.out n h0 (by omega) (by omega) (by rw [hq2]; omega))
    have hcap := grownCap_ge w n 0 9
    have hcm := grownCap_le_maxLen w n 0 9 (by unfold maxLen; omega)
    have hpos : (0 : Int) < n := by omega
    go_enter Tryd.func54, Tryd.ntmps54
    go_wp2_with (at_builtin; refine Lib.wpList_append_run _ rfl _ _ _ _ rfl _ _ rfl rfl _ _ (hrun.out _ _) ?_)
    go_ret
    refine ⟨_, rfl, World.ownsRow_made w.drew _ _ (Nat.le_refl _) hcm ?_, (Below.refl _ _).drew.alloc (Nat.le_refl _) _⟩
    rw [Array.size_append, zeroCells_size, zeroCells_size]
    simp
    omega
/-- A slice of slices of strings. -/
def StrRows (w : World) (v : Value) (LL : List (List ByteArray)) : Prop :=
  ∃ A c, v = .slice A LL.length c ∧ LL.length ≤ c ∧ (LL.length = 0 ∨ ∃ b o, A = some ⟨b, o, none⟩ ∧ ∀ i, i < LL.length → ∃ sv, w.cell? ⟨b, o + i, none⟩ = some sv ∧ Sl w sv (LL.getD i []).length 1 (strF (LL.getD i [])))
theorem StrRows.below {w w' : World} {v : Value} {LL : List (List ByteArray)} (h : StrRows w v LL) (hb : Below w.heap.size w w') : StrRows w' v LL := by
  obtain ⟨A, c, hv, hn, h0 | ⟨b, o, hA, hc⟩⟩ := h
  · exact ⟨A, c, hv, hn, .inl h0⟩
  · refine ⟨A, c, hv, hn, .inr ⟨b, o, hA, fun i hi => ?_⟩⟩
    obtain ⟨sv, h1, h2⟩ := hc i hi
    exact ⟨sv, cell_later hb h1, h2.below hb⟩
/-- How many strings the first k rows hold; all of them. -/
def sumL (LL : List (List ByteArray)) (k : Nat) : Nat := (LL.take k).flatten.length
theorem sumL_zero (LL : List (List ByteArray)) : sumL LL 0 = 0 := rfl
theorem flat_succ (LL : List (List ByteArray)) (k : Nat) (h : k < LL.length) : (LL.take (k + 1)).flatten = (LL.take k).flatten ++ LL.getD k [] := by
  rw [List.take_add_one, List.getElem?_eq_getElem h, List.flatten_append, List.getD_eq_getElem?_getD, List.getElem?_eq_getElem h]; simp
theorem sumL_succ (LL : List (List ByteArray)) (k : Nat) (h : k < LL.length) : sumL LL (k + 1) = sumL LL k + (LL.getD k []).length := by
  unfold sumL; rw [flat_succ LL k h, List.length_append]
theorem sumL_le (LL : List (List ByteArray)) (k : Nat) : sumL LL k ≤ LL.flatten.length := by
  have : LL.flatten = (LL.take k).flatten ++ (LL.drop k).flatten := by rw [← List.flatten_append, List.take_append_drop]
  unfold sumL; rw [this, List.length_append]; omega
theorem strF_cells (l : List ByteArray) : slCells (l.length * 1) (strF l) = l.map .string := by
  apply List.ext_getElem?
  intro j
  by_cases hj : j < l.length
  · rw [slCells_get _ _ _ (by omega), List.getElem?_map, List.getElem?_eq_getElem hj]
    unfold strF; rw [List.getD_eq_getElem?_getD, List.getElem?_eq_getElem hj]; rfl
  · rw [List.getElem?_eq_none (by rw [slCells_len]; omega), List.getElem?_eq_none (by simp; omega)]

set_option maxRecDepth 100000 in
set_option maxHeartbeats 2000000 in
theorem concat_any (v : Value) (LL : List (List ByteArray)) (w : World) (hv : StrRows w v LL) (hl : LL.length ≤ 10000) (hs : LL.flatten.length ≤ 100000) :
    Calls Tryd.prog 41 #[v] w fun r w' => ∃ v', r = .returned v' ∧ w'.ownsRow w.heap.size 9 1 v' LL.flatten.length (LL.flatten.map .string) ∧ Below w.heap.size w w' := by
  obtain ⟨i0, hi, hz0, hq1, hq2⟩ := info_parts info_strC
  have hI := Lib.hid hi
  have hZ := Lib.hid hz0
  clear hi hz0
  have HV := Lib.hid hv
  obtain ⟨A, c, rfl, hn, hc⟩ := hv
  have HC := Lib.hid hc
  clear hc
  go_enter Tryd.func41, Tryd.ntmps41
  go_wp2_with fail
  go_loop [3, 11] (fun s i => ∃ k : Nat, k ≤ LL.length ∧ i = .int .i64 k ∧ s = .int .i64 (sumL LL k)) (fun _ i => LL.length - (intOf i).toNat)
  case atStart => exact ⟨0, Nat.zero_le _, rfl, rfl⟩
  case round =>
    obtain ⟨k, hk, rfl, rfl⟩ := hrel
    by_cases hlt : k < LL.length
    · rcases HC.out with h0 | ⟨b, o, rfl, hc⟩
      · omega
      obtain ⟨sv, hc1, hc2⟩ := hc k hlt
      have hsu := Lib.hid (sumL_succ LL k hlt)
      have hle := sumL_le LL k
      have hle2 := sumL_le LL (k + 1)
      rw [hsu.out] at hle2
      obtain ⟨A2, c2, rfl, hn2, hc3⟩ := hc2
      have hneg : ¬ ((sumL LL k : Int) + ((LL.getD k []).length : Int) < 0) := by omega
      clear hc hc3
      generalize LL.getD k [] = l at *
      generalize sumL LL k = s at *
      go_wp2_with fail
      go_round
      case rel => exact ⟨k + 1, by omega, by go_num, by rw [hsu.out]; go_num⟩
      case measure => simp [intOf]; omega
    · obtain rfl : k = LL.length := by omega
      have hfl : sumL LL LL.length = LL.flatten.length := by unfold sumL; rw [List.take_length]
      rw [hfl]
      generalize hN : LL.flatten.length = N at *
      have HN := Lib.hid hN
      clear hN hfl
      go_wp2_with (go_at_call 54; refine (growStr_any N hs _).mono ?_; rintro r w2 ⟨v2, rfl, hown2, hb2⟩; have HOWN2 := Lib.hid hown2; have HB2 := Lib.hid hb2; clear hown2 hb2)
      go_loopw [6, 27] (fun s i wr => ∃ k : Nat, k ≤ LL.length ∧ i = .int .i64 k ∧ wr.ownsRow w.heap.size 9 1 s (sumL LL k) ((LL.take k).flatten.map .string) ∧ Below w.heap.size w wr) (fun _ i _ => LL.length - (intOf i).toNat)
      case atStart => exact ⟨0, Nat.zero_le _, rfl, HOWN2.out, HB2.out⟩
      case round =>
        obtain ⟨k, hk, rfl, hown, hB⟩ := hrel
        by_cases hlt : k < LL.length
        · rcases HC.out with h0 | ⟨b, o, rfl, hc⟩
          · omega
          obtain ⟨sv, hc1, hc2⟩ := hc k hlt
          have hd1 := cell_later hB hc1
          have hsl := hc2.below hB
          have hsu := Lib.hid (sumL_succ LL k hlt)
          have hfs := Lib.hid (flat_succ LL k hlt)
          have hle2 := sumL_le LL (k + 1)
          rw [hsu.out, HN.out] at hle2
          have hsh := hsl
          obtain ⟨A2, c2, rfl, hn2, _⟩ := hsh
          have hX := Lib.hid (sl_src hsl).2
          have HOWN := Lib.hid hown
          have HB := Lib.hid hB
          clear hc hc1 hc2 hsl hown hB
          generalize LL.getD k [] = l at *
          go_wp2_with (at_builtin; refine wpList_app rfl (.tmp 31) (.tmp 32) 45 rfl w.heap.size 9 i0 (.string ⟨#[]⟩) 1 16 Tryd.underlying45 hI.out hZ.out hq1 hq2 rfl (by decide) _ _ _ rfl HOWN.out A2 l.length c2 (slCells (l.length * 1) (strF l)) rfl (slCells_len _ _) hX.out (slc_one fun j _ => rfl) (by unfold maxLen; omega) (by omega) HB.out.size ?_; intro v7 w7 hown7 hg7; have G7 := Lib.hid (HB.out.grown hg7 HB.out.size (fun j hj => (HOWN.out.lt j hj).1)); have HOWN7 := Lib.hid hown7; clear hown7 hg7)
          go_roundw
          case rel => exact ⟨k + 1, by omega, by go_num, by rw [hsu.out, hfs.out, List.map_append, ← strF_cells l]; exact HOWN7.out, G7.out⟩
          case measure => simp [intOf]; omega
        · obtain rfl : k = LL.length := by omega
          have HOWN := Lib.hid (show wr.ownsRow w.heap.size 9 1 _ LL.flatten.length (LL.flatten.map .string) by have h := hown; unfold sumL at h; rw [List.take_length] at h; exact h)
          have HB := Lib.hid hB
          clear hown hB
          go_wp2_with fail
          go_ret
          exact ⟨_, rfl, by rw [← HN.out]; exact HOWN.out, HB.out⟩
end Go.Proofs.YtmbalkebdmdmaaaDoor
