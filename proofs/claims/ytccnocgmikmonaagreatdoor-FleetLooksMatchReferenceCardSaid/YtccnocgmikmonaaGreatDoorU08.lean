/- slices.Insert of one property. slices.BinarySearchFunc at properties, by their keys. slices.Clone, slices.Insert at properties. fleet.put at properties. What fleet.Apply calls through function values: no, next, holds and their tests. event.Valid: what ends early. -/
import Derived.Handy
import Derived.RegionTactic
import Derived.Test.YtccnocgmikmonaaGreatDoorU02
import Derived.Test.YtccnocgmikmonaaGreatDoorU04
import Derived.Test.YtccnocgmikmonaaGreatDoorU07
namespace Go.Proofs.YtccnocgmikmonaaGreatDoor
open Go Go.RowKit
theorem infoX : (Tryz.prog.info? 65).map (fun i => (i.zero, i.size, i.bytes)) = some (some (.agg #[.string ⟨#[]⟩, .string ⟨#[]⟩]), 2, 32) := by kernel_rfl
theorem sizeX : (Tryz.prog.info? 65).map (·.size) = some 2 := by kernel_rfl
set_option maxRecDepth 100000 in
set_option maxHeartbeats 2000000 in
theorem insEndX_any (base : Nat) (A : Option Addr) (n cap : Nat) (xs : List Value) (gv : Nat) (cs : Array Value) (w : World) (hown : Own0 w base 65 2 (.slice A n cap) n xs) (hnc : n ≤ cap) (hn : n ≤ 100000) (hv : Has w gv 65 cs) (hcs : cs.size = 2) (h1 : ∀ u ∈ cs.toList, u.oneCell' = true) (hb : base ≤ w.heap.size) (hA : A = none → cap = 0) :
    Calls Tryz.prog 100 #[.slice A n cap, .int .i64 n, .slice (some ⟨gv, 0, none⟩) 1 1] w fun e w' => ∃ v', e = .returned v' ∧ Own0 w' base 65 2 v' (n + 1) (xs ++ cs.toList) ∧ ∀ B, B ≤ base → Below B w w' := by
  obtain ⟨i0, hi, hz0, hq1, hq2⟩ := info_parts infoX
  have hI := Lib.hid hi
  have hZ := Lib.hid hz0
  have HO := Lib.hid hown
  have HV := Lib.hid hv
  have HX : Hid (∀ j u, cs.toList[j]? = some u → w.cell? ((⟨gv, 0, none⟩ : Addr).add j) = some u) := fun j u hu => by
    rw [Addr.add_mid, Nat.zero_add, HV.out.cell j]; simpa using hu
  have H1 := Lib.hid h1
  have HL : Hid (cs.toList.length = 1 * 2) := by show _ = _; simp [hcs]
  clear hi hz0 hown hv h1
  cases A with
  | none =>
    obtain rfl := hA rfl
    obtain rfl : n = 0 := by omega
    go_enter Tryz.func100, Tryz.ntmps100
    go_wp2_with (at_builtin; refine BigFrame.wpList_want (by kernel_rfl) (fun K hK => wp_app0 (.tmp 23) (.tmp 24) 27 rfl base 65 i0 (.agg #[.string ⟨#[]⟩, .string ⟨#[]⟩]) 2 32 Tryz.underlying27 hI.out hZ.out hq1 hq2 rfl (by decide) _ 0 _ rfl HO.out (some ⟨gv, 0, none⟩) 1 1 cs.toList rfl HL.out (.inr ⟨_, rfl, HX.out⟩) H1.out (by unfold maxLen; omega) (by omega) hb ?_); intro v7 w7 hown7 hg7; refine hK _ _ ?_; have HO7 := Lib.hid hown7; have HG7 := Lib.hid hg7; clear hown7 hg7)
    go_ret
    exact ⟨_, rfl, HO7.out, fun B hB => HG7.out.below (Below.refl _ _) (by omega) hB⟩
  | some ad =>
    by_cases hnc2 : n = cap
    · subst hnc2
      have hw0 : ¬ (n : Int) < 0 := by omega
      go_enter Tryz.func100, Tryz.ntmps100
      go_wp2_with (at_builtin; refine BigFrame.wpList_want (by kernel_rfl) (fun K hK => wp_app0 (.tmp 23) (.tmp 24) 27 rfl base 65 i0 (.agg #[.string ⟨#[]⟩, .string ⟨#[]⟩]) 2 32 Tryz.underlying27 hI.out hZ.out hq1 hq2 rfl (by decide) _ n _ rfl HO.out (some ⟨gv, 0, none⟩) 1 1 cs.toList rfl HL.out (.inr ⟨_, rfl, HX.out⟩) H1.out (by unfold maxLen; omega) (by omega) hb ?_); intro v7 w7 hown7 hg7; refine hK _ _ ?_; have HO7 := Lib.hid hown7; have HG7 := Lib.hid hg7; clear hown7 hg7)
      go_ret
      exact ⟨_, rfl, HO7.out, fun B hB => HG7.out.below (Below.refl _ _) (by omega) hB⟩
    · have hnc3 : n < cap := by omega
      have hw0 : ¬ (n : Int) < 0 := by omega
      go_enter Tryz.func100, Tryz.ntmps100
      go_wp2_with (at_builtin; refine BigFrame.wpList_want (by kernel_rfl) (fun K hK => wp_app0 (.tmp 23) (.tmp 24) 27 rfl base 65 i0 (.agg #[.string ⟨#[]⟩, .string ⟨#[]⟩]) 2 32 Tryz.underlying27 hI.out hZ.out hq1 hq2 rfl (by decide) _ n _ rfl HO.out (some ⟨gv, 0, none⟩) 1 1 cs.toList rfl HL.out (.inr ⟨_, rfl, HX.out⟩) H1.out (by unfold maxLen; omega) (by omega) hb ?_); intro v7 w7 hown7 hg7; refine hK _ _ ?_; have HO7 := Lib.hid hown7; have HG7 := Lib.hid hg7; clear hown7 hg7)
      go_ret
      exact ⟨_, rfl, HO7.out, fun B hB => HG7.out.below (Below.refl _ _) (by omega) hB⟩
set_option maxRecDepth 100000 in
set_option maxHeartbeats 4000000 in
theorem insHereX_any (g n cap i gv : Nat) (X R E F Y : List Value) (w : World) (hin : i < n) (hnc : n < cap) (hn : n ≤ 100000) (hcap : cap ≤ maxLen)
    (h0 : w.heap[g]? = some (.cells (X ++ (R ++ (E ++ F))).toArray 65 (0, 0))) (hX : X.length = i * 2) (hR : R.length = (n - i) * 2) (hE : E.length = 2)
    (hv : Has w gv 65 Y.toArray) (hY : Y.length = 2) (hne : gv ≠ g) (h1R : ∀ u ∈ R, u.oneCell' = true) (h1Y : ∀ u ∈ Y, u.oneCell' = true) :
    Calls Tryz.prog 100 #[.slice (some ⟨g, 0, none⟩) n cap, .int .i64 i, .slice (some ⟨gv, 0, none⟩) 1 1] w fun e w' => e = .returned (.slice (some ⟨g, 0, none⟩) (n + 1) cap) ∧ w'.heap[g]? = some (.cells (X ++ (Y ++ (R ++ F))).toArray 65 (0, 0)) ∧ ∀ B, B ≤ g → Below B w w' := by
  unfold maxLen at hcap
  obtain ⟨i0, hi, hz0, hq1, hq2⟩ := info_parts infoX
  have hz2 : ¬ ((i : Int) = (n : Int)) := by omega
  have h0' : Has w g 65 (X ++ (R ++ (E ++ F))).toArray := h0
  have hov : ∀ lb cb, (callFunc 132 #[.slice (some ⟨gv, 0, none⟩) 1 1, .slice (some ⟨g, (i + 1) * 2, none⟩) lb cb]).run Tryz.prog w = .ok (.value (.bool false)) w := fun lb cb => by
    rw [run_callFunc_extern Tryz.func132 (by kernel_rfl) (by kernel_rfl) (by kernel_rfl) (e := Extern.SlicesOverlaps.overlaps #[27, 27] #[4]) (by kernel_rfl),
      Lib.run_overlaps_apart w 27 4 65 Tryz.underlying27 2 Tryz.sizeOf65 ⟨gv, 0, none⟩ ⟨g, (i + 1) * 2, none⟩ 1 1 lb cb hne 65 65 Y.length (X ++ (R ++ (E ++ F))).length (by rw [shapeOf hv]; simp) (by rw [shapeOf h0']; simp) (by simp only [List.length_append]; omega) (hv.free 0) (hv.free _)]
    rfl
  have hw1 : IntKind.i64.wrap ((i : Int) + 1) = (i : Int) + 1 := by rw [IntKind.wrap_i64]; omega
  have hw2 : IntKind.i64.wrap ((n : Int) + 1) = (n : Int) + 1 := by rw [IntKind.wrap_i64]; omega
  have hb1 : (0 : Int) ≤ (i : Int) + 1 := by omega
  have htn : ((i : Int) + 1).toNat = i + 1 := by omega
  have hb2 : ¬ (cap = i + 1) := by omega
  have hb3 : (i : Int) ≤ (n : Int) + 1 := by omega
  have hb4 : ¬ (cap = i) := by omega
  have hb5 : (i : Int) ≤ (n : Int) := by omega
  have hb6 : ¬ ((cap : Int) < (n : Int) + 1) := by omega
  have hsR : ∀ j v, R[j]? = some v → w.cell? ((⟨g, i * 2, none⟩ : Addr).add j) = some v := fun j v hj => by
    rw [Addr.add_mid, h0'.cell]
    have hjl : j < R.length := by
      rcases Nat.lt_or_ge j R.length with h | h
      · exact h
      · rw [List.getElem?_eq_none h] at hj; cases hj
    simp only [List.getElem?_toArray]
    rw [List.getElem?_append_right (by omega), hX, show i * 2 + j - i * 2 = j by omega, List.getElem?_append_left hjl]
    exact hj
  have hsY : ∀ j v, Y[j]? = some v → w.cell? ((⟨gv, 0, none⟩ : Addr).add j) = some v := fun j v hj => by
    rw [Addr.add_mid, Nat.zero_add, hv.cell]; simpa using hj
  have H0 := Lib.hid h0
  have HSR := Lib.hid hsR
  have HSY := Lib.hid hsY
  have H1R := Lib.hid h1R
  have H1Y := Lib.hid h1Y
  have HX := Lib.hid hX
  have HR := Lib.hid hR
  have HE := Lib.hid hE
  have HY := Lib.hid hY
  have HV := Lib.hid hv
  clear hi hz0 h0 h0' hsR hsY h1R h1Y hX hR hE hY hv
  go_enter Tryz.func100, Tryz.ntmps100
  go_wp2_with (simp only [hov])
  go_region_law (refine step_copyK rfl (.tmp 73) (.tmp 76) 27 27 rfl 65 2 Tryz.underlying27 sizeX g ((i + 1) * 2) (n + 1 - (i + 1)) (cap - (i + 1)) ⟨g, i * 2, none⟩ (n + 1 - i) (cap - i) (n - i) (by simp [Act.eval, Act.put]) (by simp [Act.eval, Act.put]) (X ++ (R ++ (E ++ F))) 65 H0.out R (by simp only [Nat.min_def]; split <;> omega) HR.out HSR.out (by have h1 := HX.out; have h2 := HR.out; have h3 := HE.out; simp only [List.length_append]; have h4 : (i + 1) * 2 = i * 2 + 2 := (by omega); omega) H1R.out ?_; intro w1 HC1)
  have hgv1 : Has w1 gv 65 Y.toArray := (HC1.out.rest gv hne).trans HV.out
  have HSY1 : Hid (∀ j v, Y[j]? = some v → w1.cell? ((⟨gv, 0, none⟩ : Addr).add j) = some v) := fun j v hj => by
    rw [Addr.add_mid, Nat.zero_add, hgv1.cell]; simpa using hj
  have hlen : (splice (X ++ (R ++ (E ++ F))) ((i + 1) * 2) R).length = (X ++ (R ++ (E ++ F))).length := length_splice _ _ _ (by have h1 := HX.out; have h2 := HR.out; have h3 := HE.out; simp only [List.length_append]; have h4 : (i + 1) * 2 = i * 2 + 2 := (by omega); omega)
  have HLEN := Lib.hid hlen
  clear hgv1 hlen
  obtain ⟨S1, hS1⟩ : ∃ S1, S1 = splice (X ++ (R ++ (E ++ F))) ((i + 1) * 2) R := ⟨_, rfl⟩
  have HS1 := Lib.hid hS1
  have hr1 := HC1.out.row
  rw [← hS1] at hr1 HLEN
  have HR1 := Lib.hid hr1
  clear hr1 hS1
  go_wp2_with ((with_reducible show wpList _ _ _ (Oper.mk (some 82) _ _ _ _ _ :: _) _ _); refine wpList_copyK rfl (.tmp 80) (.tmp 81) 27 27 rfl 65 2 Tryz.underlying27 sizeX g (i * 2) (n + 1 - i) (cap - i) ⟨gv, 0, none⟩ 1 1 1 rfl rfl S1 65 HR1.out Y (by simp only [Nat.min_def]; split <;> omega) (by have h5 := HY.out; omega) HSY1.out (by have h0 := HLEN.out; have h1 := HX.out; have h2 := HR.out; have h3 := HE.out; have h5 := HY.out; simp only [List.length_append] at h0; omega) H1Y.out ?_; intro w2 HC2)
  go_ret
  refine ⟨rfl, ?_, fun B hB => HC2.out.below _ _ (HC1.out.below _ _ ((Below.refl _ _).drew) hB |>.mono (Nat.le_refl _)) hB⟩
  rw [HC2.out.row, HS1.out, ins_here X Y R E F (by rw [HE.out, HY.out]) _ _ HX.out.symm (by have h1 := HX.out; have h5 := HY.out; omega)]
set_option maxRecDepth 100000 in
set_option maxHeartbeats 4000000 in
theorem insGrowX_any (g n i gv : Nat) (X R Y : List Value) (w : World) (hin : i < n) (hn : n ≤ 100000)
    (h0 : w.heap[g]? = some (.cells (X ++ R).toArray 65 (0, 0))) (hX : X.length = i * 2) (hR : R.length = (n - i) * 2)
    (hv : Has w gv 65 Y.toArray) (hY : Y.length = 2) (h1R : ∀ u ∈ R, u.oneCell' = true) (h1Y : ∀ u ∈ Y, u.oneCell' = true) :
    Calls Tryz.prog 100 #[.slice (some ⟨g, 0, none⟩) n n, .int .i64 i, .slice (some ⟨gv, 0, none⟩) 1 1] w fun e w' => ∃ G F, e = .returned (.slice (some ⟨w.heap.size, 0, none⟩) (n + 1) G) ∧ w'.heap[w.heap.size]? = some (.cells (X ++ (Y ++ (R ++ F))).toArray 65 (0, 0)) ∧ n + 1 ≤ G ∧ G ≤ maxLen ∧ F.length = (G - (n + 1)) * 2 ∧ ∀ B, B ≤ w.heap.size → Below B w w' := by
  obtain ⟨i0, hi, hz0, hq1, hq2⟩ := info_parts infoX
  have hz2 : ¬ ((i : Int) = (n : Int)) := by omega
  have h0' : Has w g 65 (X ++ R).toArray := h0
  have hgl := h0'.lt
  have hvl := hv.lt
  have hold : (Builtin.firstCells i0.size i (.slice (some ⟨g, 0, none⟩) i n)).run Tryz.prog w.drew = .ok X.toArray w.drew := by
    rw [hq1]
    unfold Builtin.firstCells
    rw [← hX]
    exact run_loadCells_list (P := Tryz.prog) w.drew ⟨g, 0, none⟩ X (fun j v hj => by
      rw [Addr.add_mid, Nat.zero_add]
      show w.cell? _ = _
      rw [h0'.cell]
      have hjl : j < X.length := by
        rcases Nat.lt_or_ge j X.length with h | h
        · exact h
        · rw [List.getElem?_eq_none h] at hj; cases hj
      simp only [List.getElem?_toArray]
      rw [List.getElem?_append_left hjl]; exact hj)
  have hkk : (n : Int) + 1 - (i : Int) = ((n + 1 - i : Nat) : Int) := by omega
  have hik : i + (n + 1 - i) = n + 1 := by omega
  have hfit := growslice_fits (show n < n + 1 by omega) (show (n + 1) * 32 ≤ 140737488355328 by omega)
  have hrz : ∀ ty, (Builtin.append_ #[27, 3] ty #[.slice (some ⟨g, 0, none⟩) i n, .int .i64 ((n : Int) + 1 - (i : Int))]).run Tryz.prog w =
      .ok (.slice (some ⟨w.heap.size, 0, none⟩) (n + 1) (grownCap w (n + 1) n 65)) (w.drew.alloc (.cells (X.toArray ++ Builtin.zeroCells (Value.agg #[.string ⟨#[]⟩, .string ⟨#[]⟩]).cells (n + 1 - i) ++ Builtin.zeroCells (Value.agg #[.string ⟨#[]⟩, .string ⟨#[]⟩]).cells (grownCap w (n + 1) n 65 - (n + 1))) 65)) := fun ty => by
    have h := Lib.run_append_grow_zeros (P := Tryz.prog) w 27 3 ty 65 i0 _ .i64 .i64 Tryz.underlying27 Tryz.underlying3 hi hz0 (some ⟨g, 0, none⟩) i n X hold (n + 1 - i) (by omega) (by omega) (by omega) (by omega) (by rw [hq2]; omega) (by rw [hq2, hik]; exact hfit)
    rw [hik] at h
    rw [hkk]
    exact h
  have hG1 := grownCap_ge w (n + 1) n 65
  have hG2 := grownCap_le_maxLen w (n + 1) n 65 (by unfold maxLen; omega)
  generalize grownCap w (n + 1) n 65 = G at *
  have hG63 : G ≤ 9223372036854775807 := by unfold maxLen at hG2; omega
  obtain ⟨ZK, hZK⟩ : ∃ ZK : List Value, ZK = (Builtin.zeroCells (Value.agg #[.string ⟨#[]⟩, .string ⟨#[]⟩]).cells (n + 1 - i)).toList := ⟨_, rfl⟩
  obtain ⟨ZE, hZE⟩ : ∃ ZE : List Value, ZE = (Builtin.zeroCells (Value.agg #[.string ⟨#[]⟩, .string ⟨#[]⟩]).cells (G - (n + 1))).toList := ⟨_, rfl⟩
  have hZKl : ZK.length = (n + 1 - i) * 2 := by rw [hZK]; simp [Builtin.zeroCells, Value.cells]
  have hZEl : ZE.length = (G - (n + 1)) * 2 := by rw [hZE]; simp [Builtin.zeroCells, Value.cells]
  have hrow : X.toArray ++ Builtin.zeroCells (Value.agg #[.string ⟨#[]⟩, .string ⟨#[]⟩]).cells (n + 1 - i) ++ Builtin.zeroCells (Value.agg #[.string ⟨#[]⟩, .string ⟨#[]⟩]).cells (G - (n + 1)) = (X ++ (ZK ++ ZE)).toArray := by
    rw [hZK, hZE]; apply Array.ext'; simp
  rw [hrow] at hrz
  clear hrow hZK hZE hold hkk hik hfit hi hz0
  obtain ⟨C0, hC0⟩ : ∃ C0, C0 = X ++ (ZK ++ ZE) := ⟨_, rfl⟩
  rw [← hC0] at hrz
  have hw1 : IntKind.i64.wrap ((i : Int) + 1) = (i : Int) + 1 := by rw [IntKind.wrap_i64]; omega
  have hw2 : IntKind.i64.wrap ((n : Int) + 1) = (n : Int) + 1 := by rw [IntKind.wrap_i64]; omega
  have hw3 : IntKind.i64.wrap ((n : Int) + 1 - (i : Int)) = (n : Int) + 1 - (i : Int) := by rw [IntKind.wrap_i64]; omega
  have hb1 : (0 : Int) ≤ (i : Int) + 1 := by omega
  have htn : ((i : Int) + 1).toNat = i + 1 := by omega
  have hb3 : (i : Int) ≤ (n : Int) := by omega
  have hb4 : ¬ (n = i) := by omega
  have hb5 : ¬ (G = i) := by omega
  have hb6 : ¬ (G = i + 1) := by omega
  have hb7 : (n : Int) < (n : Int) + 1 := by omega
  have hgn : g ≠ w.heap.size := by omega
  have hvn : gv ≠ w.heap.size := by omega
  have HG0 : Hid ((w.drew.alloc (.cells C0.toArray 65)).heap[w.heap.size]? = some (.cells C0.toArray 65 (0, 0))) := Has.new w.drew _ _
  have HV0 : Hid (Has (w.drew.alloc (.cells C0.toArray 65)) gv 65 Y.toArray) := Has.alloc (w := w.drew) hv _
  have HS0 : Hid (Has (w.drew.alloc (.cells C0.toArray 65)) g 65 (X ++ R).toArray) := Has.alloc (w := w.drew) h0' _
  have HBl : Hid (∀ B, B ≤ w.heap.size → Below B w (w.drew.alloc (.cells C0.toArray 65))) := fun B hB => ((Below.refl _ _).drew).alloc (by show B ≤ w.heap.size; exact hB) _
  have HSY : Hid (∀ j v, Y[j]? = some v → (w.drew.alloc (.cells C0.toArray 65)).cell? ((⟨gv, 0, none⟩ : Addr).add j) = some v) := fun j v hj => by
    rw [Addr.add_mid, Nat.zero_add, HV0.out.cell]; simpa using hj
  have hCl : C0.length = G * 2 := by rw [hC0]; simp only [List.length_append]; omega
  have HCl := Lib.hid hCl
  have HC0 := Lib.hid hC0
  have H1R := Lib.hid h1R
  have H1Y := Lib.hid h1Y
  have HX := Lib.hid hX
  have HR := Lib.hid hR
  have HY := Lib.hid hY
  have HZK := Lib.hid hZKl
  have HZE := Lib.hid hZEl
  clear h0 h0' h1R h1Y hX hR hY hv hC0 hZKl hZEl hCl
  have hgs : w.drew.heap.size = w.heap.size := rfl
  go_enter Tryz.func100, Tryz.ntmps100
  go_wp2_with (first
    | ((with_reducible show wpList _ _ _ (Oper.mk (some 40) _ _ _ _ _ :: _) _ _); refine Lib.wpList_append_run _ rfl _ _ _ _ rfl _ _ rfl rfl _ _ (hrz _) ?_)
    | ((with_reducible show wpList _ _ _ (Oper.mk (some 45) _ _ _ _ _ :: _) _ _); refine wpList_copyK rfl (.tmp 43) (.tmp 44) 27 27 rfl 65 2 Tryz.underlying27 sizeX w.heap.size (i * 2) (n + 1 - i) (G - i) ⟨gv, 0, none⟩ 1 1 1 rfl rfl C0 65 HG0.out Y (by simp only [Nat.min_def]; split <;> omega) (by have h5 := HY.out; omega) HSY.out (by have h0 := HCl.out; have h5 := HY.out; omega) H1Y.out ?_; intro w1 HC1))
  have hs1 : Has w1 g 65 (X ++ R).toArray := (HC1.out.rest g hgn).trans HS0.out
  have HSR1 : Hid (∀ j v, R[j]? = some v → w1.drew.cell? ((⟨g, i * 2, none⟩ : Addr).add j) = some v) := fun j v hj => by
    rw [Addr.add_mid]
    show w1.cell? _ = _
    rw [hs1.cell]
    have hX := HX.out
    simp only [List.getElem?_toArray]
    rw [List.getElem?_append_right (by omega), hX, show i * 2 + j - i * 2 = j by omega]
    exact hj
  have hlen : (splice C0 (i * 2) Y).length = C0.length := length_splice _ _ _ (by have h0 := HCl.out; have h5 := HY.out; omega)
  obtain ⟨S1, hS1⟩ : ∃ S1, S1 = splice C0 (i * 2) Y := ⟨_, rfl⟩
  have hr1 := HC1.out.row
  rw [← hS1] at hr1 hlen
  have HR1 := Lib.hid hr1
  have HLEN := Lib.hid hlen
  have HS1 := Lib.hid hS1
  clear hr1 hS1 hlen hs1
  go_region_law (refine step_copyK rfl (.tmp 50) (.tmp 53) 27 27 rfl 65 2 Tryz.underlying27 sizeX w.heap.size ((i + 1) * 2) (n + 1 - (i + 1)) (G - (i + 1)) ⟨g, i * 2, none⟩ (n - i) (n - i) (n - i) (by simp [Act.eval, Act.put]) (by simp [Act.eval, Act.put]) S1 65 HR1.out R (by simp only [Nat.min_def]; split <;> omega) HR.out HSR1.out (by have h0 := HLEN.out; have h1 := HCl.out; have h3 := HR.out; omega) H1R.out ?_; intro w2 HC2)
  go_wp2_with fail
  go_ret
  have h1 := HX.out
  have h5 := HY.out
  have h3 := HR.out
  have h6 := HZK.out
  refine ⟨G, ZE, rfl, ?_, hG1, hG2, HZE.out, fun B hB => HC2.out.below _ _ ((HC1.out.below _ _ (HBl.out B hB) hB).drew) hB⟩
  rw [HC2.out.row, HS1.out, HC0.out, ins_new X Y ZK R ZE (by omega) _ _ h1.symm (by omega)]
end Go.Proofs.YtccnocgmikmonaaGreatDoor
namespace Go.Proofs.YtccnocgmikmonaaGreatDoor
open Go Go.RowKit
theorem keyX_any (key val : ByteArray) (w : World) :
    Calls Tryz.prog 61 #[.agg #[.string key, .string val]] w fun e w' => e = .returned (.string key) ∧ Below w.heap.size w w' := by
  go_enter Tryz.func61, Tryz.ntmps61
  go_wp2
  go_ret
  exact ⟨rfl, (Below.refl _ _).alloc (Nat.le_refl _) _⟩
set_option maxRecDepth 100000 in
set_option maxHeartbeats 1000000 in
theorem cmpX_any (key val : ByteArray) (x : ByteArray) (g : Nat) (w : World) (h1 : Has w g 111 #[.func (.func 61) #[] #[]]) :
    Calls Tryz.prog 98 #[.agg #[.string key, .string val], .string x, .pointer (some ⟨g, 0, none⟩)] w fun e w' => e = .returned (.int .i64 (cmpS key x)) ∧ Below w.heap.size w w' := by
  obtain ⟨c1, c2⟩ := (h1.alloc (.cells #[.string key, .string val] 65)).facts
  obtain ⟨c3, c4⟩ := h1.facts
  have hl := h1.lt
  go_enter Tryz.func98, Tryz.ntmps98
  go_wp2_with (first | (go_at_call 61; refine (keyX_any key val _).mono ?_; rintro e w1 ⟨rfl, hb1⟩) | (go_at_call 90; refine (compare_any _ _ _).mono ?_; rintro e w2 ⟨rfl, rfl⟩))
  go_ret
  exact ⟨rfl, ((Below.refl _ _).alloc (Nat.le_refl _) _).trans (hb1.mono (by simp))⟩
set_option maxRecDepth 100000 in
set_option maxHeartbeats 2000000 in
theorem bsX_any (w0 : World) (v : Value) (l : List Pr) (x : ByteArray) (g : Nat) (w : World) (hb0 : Below w0.heap.size w0 w) (hv : Rd 2 PrR w0 v l) (hl : l.length ≤ 100000) (hs : sortedB (l.map Pr.key) = true) (h1 : Has w g 111 #[.func (.func 61) #[] #[]]) :
    Calls Tryz.prog 97 #[v, .string x, .func (.func 98) #[] #[.pointer (some ⟨g, 0, none⟩)]] w fun e w' => e = .returned (.tuple #[.int .i64 (lowG Pr.key l x), .bool (decide (lowG Pr.key l x < l.length ∧ (l.getD (lowG Pr.key l x) noPr).key = x))]) ∧ Below w.heap.size w w' := by
  obtain ⟨A0, cc, rfl, hn⟩ := hv.form
  have HV := Lib.hid hv
  have HB0 := Lib.hid hb0
  have HB0s := hb0.size
  have H1 := Lib.hid h1
  have hgl := h1.lt
  have hlo := low_le Pr.key l x
  have HIF := Lib.hid (fun i (hi : i < l.length) => low_iff Pr.key l x noPr hs hi)
  clear hv hb0 h1 hs
  generalize hlw : lowG Pr.key l x = lo at *
  have HLW := Lib.hid hlw
  clear hlw
  go_enter Tryz.func97, Tryz.ntmps97
  go_wp2_with fail
  go_loopw [9, 10] (fun i j wr => ∃ a b : Nat, a ≤ lo ∧ lo ≤ b ∧ b ≤ l.length ∧ i = .int .i64 a ∧ j = .int .i64 b ∧ Hid (Below w.heap.size w wr)) (fun i j _ => (intOf j).toNat - (intOf i).toNat)
  case atStart => exact ⟨0, l.length, Nat.zero_le _, hlo, Nat.le_refl _, rfl, rfl, Below.refl _ _⟩
  case round =>
    obtain ⟨a, b, ha, hb, hbl, rfl, rfl, HB⟩ := hrel
    have q1 := H1.out.below HB.out hgl
    have HQ1 := Lib.hid q1
    clear q1
    by_cases hab : a < b
    · obtain ⟨m, hm⟩ : ∃ m, m = (a + b) / 2 := ⟨_, rfl⟩
      have hm1 : a ≤ m := by omega
      have hm2 : m < b := by omega
      have hml : m < l.length := by omega
      obtain ⟨bb, o, c', cs, he, _, hcs, _, hrg⟩ := HV.out.get hml noPr
      injection he with e1 e2 e3
      subst e1; subst e3
      unfold PrR at hcs
      subst hcs
      have hrg' := range_later hrg (HB0.out.trans (HB.out.mono HB0s))
      have hif := HIF.out m hml
      clear hrg
      generalize l.getD m noPr = q at *
      obtain ⟨key, val⟩ := q
      replace hrg' : wr.rangeAt bb (o + m * 2) [.string key, .string val] := hrg'
      have hcn := cmpS_neg key x
      change ltS key x = _ at hif
      rw [hif] at hcn
      rw [hm] at hrg'
      have hC := Lib.hid (fun W g (h : Has W g _ _) => cmpX_any key val x g W h)
      generalize cmpS key x = cv at *
      have HM := Lib.hid hm
      clear hm hif
      by_cases hmlo : m < lo
      · have hcv : cv < 0 := by rw [decide_eq_true hmlo] at hcn; exact of_decide_eq_true hcn
        clear hcn
        go_wp2_with (first | ((with_reducible show wpList _ _ _ (Oper.mk (some 28) _ _ _ _ _ :: _) _ _); refine wpList_load_mid rfl 65 _ rfl bb (o + (a + b) / 2 * 2) rfl _ _ hrg' Tryz.underlying65 rfl rfl ?_) | (go_at_call 98; refine (hC.out _ g HQ1.out).mono ?_; rintro e w2 ⟨rfl, hb2⟩; have HB2 := Lib.hid (HB.out.trans (hb2.mono HB.out.size)); clear hb2))
        go_roundw
        case rel => exact ⟨(a + b) / 2 + 1, b, by have := HM.out; omega, hb, hbl, by go_num, rfl, HB2.out⟩
        case measure => simp [intOf]; omega
      · have hcv : ¬ cv < 0 := by rw [decide_eq_false hmlo] at hcn; exact of_decide_eq_false hcn
        clear hcn
        go_wp2_with (first | ((with_reducible show wpList _ _ _ (Oper.mk (some 28) _ _ _ _ _ :: _) _ _); refine wpList_load_mid rfl 65 _ rfl bb (o + (a + b) / 2 * 2) rfl _ _ hrg' Tryz.underlying65 rfl rfl ?_) | (go_at_call 98; refine (hC.out _ g HQ1.out).mono ?_; rintro e w2 ⟨rfl, hb2⟩; have HB2 := Lib.hid (HB.out.trans (hb2.mono HB.out.size)); clear hb2))
        go_roundw
        case rel => exact ⟨a, (a + b) / 2, ha, by have := HM.out; omega, by omega, rfl, by go_num, HB2.out⟩
        case measure => simp [intOf]; omega
    · obtain rfl : a = lo := by omega
      obtain rfl : a = b := by omega
      by_cases hal : a < l.length
      · obtain ⟨bb, o, c', cs, he, _, hcs, _, hrg⟩ := HV.out.get hal noPr
        injection he with e1 e2 e3
        subst e1; subst e3
        unfold PrR at hcs
        subst hcs
        have hrg' := range_later hrg (HB0.out.trans (HB.out.mono HB0s))
        clear hrg
        generalize hqq : l.getD a noPr = q at *
        have HQE := Lib.hid hqq
        clear hqq
        obtain ⟨key, val⟩ := q
        replace hrg' : wr.rangeAt bb (o + a * 2) [.string key, .string val] := hrg'
        have hcz := cmpS_zero key x
        have hC := Lib.hid (fun W g (h : Has W g _ _) => cmpX_any key val x g W h)
        generalize cmpS key x = cv at *
        have hal2 : (a : Int) < (l.length : Int) := by omega
        have HCZ := Lib.hid hcz
        clear hcz
        go_wp2_with (first | ((with_reducible show wpList _ _ _ (Oper.mk (some 44) _ _ _ _ _ :: _) _ _); refine BigFrame.wpList_want (by kernel_rfl) (fun K hK => wp_load_mid 65 _ rfl bb (o + a * 2) rfl _ _ hrg' Tryz.underlying65 rfl rfl (hK _ _ ?_))) | (go_at_call 98; refine (hC.out _ g HQ1.out).mono ?_; rintro e w2 ⟨rfl, hb2⟩; have HB2 := Lib.hid (HB.out.trans (hb2.mono HB.out.size)); clear hb2))
        go_ret2
        refine ⟨?_, HB2.out⟩
        have h := HCZ.out
        refine congrArg (fun b => Ending.returned (.tuple #[.int .i64 a, .bool b])) ?_
        refine h.trans ?_
        rw [HQE.out]
        simp [hal]
      · have hal2 : ¬ (a : Int) < (l.length : Int) := by omega
        go_wp2_with fail
        go_ret2
        exact ⟨rfl, HB.out⟩
end Go.Proofs.YtccnocgmikmonaaGreatDoor
namespace Go.Proofs.YtccnocgmikmonaaGreatDoor
open Go Go.RowKit
theorem own0formX {w : World} {base n : Nat} {v : Value} {xs : List Value} (h : Own0 w base 65 2 v n xs) (hn : 0 < n) : ∃ g cap F, v = .slice (some ⟨g, 0, none⟩) n cap ∧ base ≤ g ∧ w.heap[g]? = some (.cells (xs ++ F).toArray 65 (0, 0)) ∧ n ≤ cap ∧ cap ≤ maxLen ∧ F.length = (cap - n) * 2 ∧ xs.length = n * 2 := by
  rcases h with h | ⟨rfl, _⟩
  · obtain ⟨hl, ⟨_, h0⟩ | ⟨g, cap, cur, rfl, hb, hh, hc, hm, hs, ht⟩⟩ := h
    · omega
    · refine ⟨g, cap, cur.toList.drop (n * 2), rfl, hb, ?_, hc, hm, ?_, hl⟩
      · rw [← ht, List.take_append_drop]; exact hh
      · simp [hs]; omega
  · omega
theorem own0lenX {w : World} {base n : Nat} {v : Value} {xs : List Value} (h : Own0 w base 65 2 v n xs) : xs.length = n * 2 := by
  rcases h with h | ⟨rfl, rfl, _⟩
  · exact h.1
  · rfl
set_option maxRecDepth 100000 in
set_option maxHeartbeats 2000000 in
theorem cloneX_any (A : Option Addr) (n c : Nat) (xs : List Value) (w : World) (hsrc : n = 0 ∨ ∃ ad, A = some ad ∧ ∀ j u, xs[j]? = some u → w.cell? (ad.add j) = some u) (hl : xs.length = n * 2) (h1 : ∀ u ∈ xs, u.oneCell' = true) (hn : n ≤ 100000) :
    Calls Tryz.prog 99 #[.slice A n c] w fun e w' => ∃ v', e = .returned v' ∧ Own0 w' w.heap.size 65 2 v' n xs ∧ Below w.heap.size w w' := by
  obtain ⟨i0, hi, hz0, hq1, hq2⟩ := info_parts infoX
  have hI := Lib.hid hi
  have hZ := Lib.hid hz0
  have HS := Lib.hid hsrc
  have HL := Lib.hid hl
  have H1 := Lib.hid h1
  clear hi hz0 hsrc hl h1
  have q22 : ∀ (w : World) (a : Option Addr) (n c : Nat), (binOp .eql 27 (.slice a n c) (.slice none 0 0)).run Tryz.prog w = .ok (.bool a.isNone) w := fun w a n c => by
    simp [binOp, run_equal_slice_nil w _ _ a n c Tryz.underlying27]
  cases A with
  | none =>
    have h0 : n = 0 := by
      rcases HS.out with h | ⟨_, h, _⟩
      · exact h
      · cases h
    subst h0
    have hx : xs = [] := List.eq_nil_of_length_eq_zero (by have := HL.out; omega)
    subst hx
    go_enter Tryz.func99, Tryz.ntmps99
    go_wp2
    go_ret
    exact ⟨_, rfl, .inl (World.ownsRow_nil _ _ _ _), Below.refl _ _⟩
  | some ad =>
    have hb : Below w.heap.size w (w.alloc (.cells #[] 65)) := (Below.refl _ _).alloc (Nat.le_refl _) _
    have HB := Lib.hid hb
    have HSA : Hid (n = 0 ∨ ∃ ad', some ad = some ad' ∧ ∀ j u, xs[j]? = some u → (w.alloc (.cells #[] 65)).cell? (ad'.add j) = some u) := by
      rcases HS.out with h | ⟨ad', h, hc⟩
      · exact .inl h
      · exact .inr ⟨ad', h, fun j u hj => cell_later HB.out (hc j u hj)⟩
    clear hb
    go_enter Tryz.func99, Tryz.ntmps99
    go_wp2_with ((with_reducible show wpList _ _ _ (Oper.mk (some 7) _ _ _ _ _ :: _) _ _); refine BigFrame.wpList_want (by kernel_rfl) (fun K hK => wp_app0 (.tmp 5) (.tmp 6) 27 rfl w.heap.size 65 i0 (.agg #[.string ⟨#[]⟩, .string ⟨#[]⟩]) 2 32 Tryz.underlying27 hI.out hZ.out hq1 hq2 rfl (by decide) _ 0 [] rfl (.inr ⟨rfl, rfl, _, rfl⟩) (some ad) n c xs rfl HL.out HSA.out H1.out (by unfold maxLen; omega) (by omega) (by simp) ?_); intro v7 w7 hown7 hg7; refine hK _ _ ?_; have HO7 := Lib.hid hown7; have HG7 := Lib.hid hg7; clear hown7 hg7)
    go_ret
    exact ⟨_, rfl, by simpa using HO7.out, HG7.out.below HB.out (by simp) (Nat.le_refl _)⟩
/-- slices.Insert of one thing into a row of the call's own. -/
theorem insX_any (base : Nat) (v : Value) (n i : Nat) (xs : List Value) (gv : Nat) (Y : List Value) (w : World) (hown : Own0 w base 65 2 v n xs) (hin : i ≤ n) (hn : n ≤ 100000) (h1x : ∀ u ∈ xs, u.oneCell' = true) (hv : Has w gv 65 Y.toArray) (hY : Y.length = 2) (h1Y : ∀ u ∈ Y, u.oneCell' = true) (hb : base ≤ w.heap.size)
    (hne : i < n → v.ownBlock ≠ some gv) :
    Calls Tryz.prog 100 #[v, .int .i64 i, .slice (some ⟨gv, 0, none⟩) 1 1] w fun e w' => ∃ g cap F, e = .returned (.slice (some ⟨g, 0, none⟩) (n + 1) cap) ∧ base ≤ g ∧ w'.heap[g]? = some (.cells ((xs.take (i * 2) ++ (Y ++ xs.drop (i * 2))) ++ F).toArray 65 (0, 0)) ∧ n + 1 ≤ cap ∧ Below base w w' := by
  by_cases hi : i = n
  · subst hi
    have hxl := own0lenX hown
    obtain ⟨A, c, rfl⟩ := hown.form
    have hAc : (A = none → c = 0) ∧ i ≤ c := by
      rcases hown with h | ⟨h0, _, B, h⟩
      · rcases h.2 with ⟨h, h0⟩ | ⟨g, cap, cur, h, _, _, hc, _⟩
        · injection h with h2 h3 h4
          exact ⟨fun _ => h4, by omega⟩
        · injection h with h2 h3 h4
          exact ⟨fun e => by rw [e] at h2; (cases h2), by omega⟩
      · injection h with h2 h3 h4
        exact ⟨fun _ => h4, by omega⟩
    refine (insEndX_any base A i c xs gv Y.toArray w hown hAc.2 hn hv (by simp [hY]) (by simpa using h1Y) hb hAc.1).mono ?_
    rintro e w' ⟨v', rfl, ho, hB⟩
    obtain ⟨g, cap, F, rfl, h1, h2, h3, h4, h5, h6⟩ := own0formX ho (by omega)
    refine ⟨g, cap, F, rfl, h1, ?_, h3, hB base (Nat.le_refl _)⟩
    rw [List.take_of_length_le (by omega), List.drop_of_length_le (by omega), h2]; simp
  · obtain ⟨g, cap, F, rfl, h1, h2, h3, h4, h5, h6⟩ := own0formX hown (by omega)
    have hgl : g < w.heap.size := by
      rcases Nat.lt_or_ge g w.heap.size with h | h
      · exact h
      · rw [Array.getElem?_eq_none h] at h2; cases h2
    have hX : (xs.take (i * 2)).length = i * 2 := by simp; omega
    have hR : (xs.drop (i * 2)).length = (n - i) * 2 := by simp; omega
    have h1R : ∀ u ∈ xs.drop (i * 2), u.oneCell' = true := fun u hu => h1x u (List.mem_of_mem_drop hu)
    by_cases hc : cap = n
    · subst hc
      have hF : F = [] := List.eq_nil_of_length_eq_zero (by rw [h5]; simp)
      subst hF
      refine (insGrowX_any g cap i gv (xs.take (i * 2)) (xs.drop (i * 2)) Y w (by omega) hn (by rw [List.take_append_drop]; simpa using h2) hX hR hv hY h1R h1Y).mono ?_
      rintro e w' ⟨G, F, rfl, hh, hG1, hG2, hF, hB⟩
      exact ⟨_, G, F, rfl, hb, by rw [hh]; simp, hG1, hB base hb⟩
    · have hE : (F.take 2).length = 2 := by simp; omega
      refine (insHereX_any g n cap i gv (xs.take (i * 2)) (xs.drop (i * 2)) (F.take 2) (F.drop 2) Y w (by omega) (by omega) hn h4 (by rw [List.take_append_drop, ← List.append_assoc, List.take_append_drop]; exact h2) hX hR hE hv hY (fun e => hne (by omega) (by rw [e]; rfl)) h1R h1Y).mono ?_
      rintro e w' ⟨rfl, hh, hB⟩
      exact ⟨g, cap, F.drop 2, rfl, h1, by rw [hh]; simp, by omega, hB base h1⟩
end Go.Proofs.YtccnocgmikmonaaGreatDoor
namespace Go.Proofs.YtccnocgmikmonaaGreatDoor
open Go Go.RowKit
set_option maxRecDepth 100000 in
set_option maxHeartbeats 4000000 in
theorem putX_any (v : Value) (l : List Pr) (key val : ByteArray) (w : World) (hv : Rd 2 PrR w v l) (hl : l.length ≤ 99999) (hs : sortedB (l.map Pr.key) = true) :
    Calls Tryz.prog 60 #[v, .agg #[.string key, .string val], .func (.func 61) #[] #[]] w fun e w' => ∃ v', e = .returned v' ∧ Rd 2 PrR w' v' (putX l ⟨key, val⟩) ∧ Below w.heap.size w w' := by
  obtain ⟨A0, c0, css, rfl, hnc, hRL, hcell⟩ := hv.rows
  have hfl := flat_len css hRL.size
  rw [hRL.len] at hfl
  have hxl : (lowG Pr.key l key) ≤ l.length := low_le _ _ _
  have hput : putX l ⟨key, val⟩ = if (decide (lowG Pr.key l key < l.length ∧ (l.getD (lowG Pr.key l key) noPr).key = key)) = true then l.set (lowG Pr.key l key) ⟨key, val⟩ else l.take (lowG Pr.key l key) ++ ⟨key, val⟩ :: l.drop (lowG Pr.key l key) := by
    unfold putX putG
    show (if (l[lowG Pr.key l key]?).map Pr.key = some key then _ else _) = _
    by_cases h : lowG Pr.key l key < l.length
    · rw [List.getElem?_eq_getElem h, List.getD_eq_getElem?_getD, List.getElem?_eq_getElem h]
      simp [h]
    · rw [List.getElem?_eq_none (by omega)]
      simp [h]
  have hone : ∀ u ∈ css.flatten, u.oneCell' = true := by
    intro u hu
    obtain ⟨cs, hcs, hu⟩ := List.mem_flatten.1 hu
    obtain ⟨i, hi, rfl⟩ := List.getElem_of_mem hcs
    have hil : i < l.length := by rw [← hRL.len]; exact hi
    have hR := (hRL.each i _ _ (List.getElem?_eq_getElem hi) (List.getElem?_eq_getElem hil)).1
    unfold PrR at hR; rw [hR] at hu; simp at hu; rcases hu with rfl | rfl <;> rfl
  have h1Y : ∀ u ∈ ([.string key, .string val] : List Value), u.oneCell' = true := by
    intro u hu
    simp only [List.mem_cons, List.mem_nil_iff, or_false] at hu
    rcases hu with rfl | rfl <;> rfl
  have hBX := Has.new w 65 #[.string key, .string val]
  have hBF := Has.new (w.alloc (.cells #[.string key, .string val] 65)) 111 #[.func (.func 61) #[] #[]]
  simp only [World.size_alloc] at hBF
  have hb2 : Below w.heap.size w ((w.alloc (.cells #[.string key, .string val] 65)).alloc (.cells #[.func (.func 61) #[] #[]] 111)) := ((Below.refl _ _).alloc (Nat.le_refl _) _).alloc (by simp) _
  have HV := Lib.hid hv
  have HC := Lib.hid hcell
  have HRL := Lib.hid hRL
  have HFL := Lib.hid hfl
  have HPUT := Lib.hid hput
  have HONE := Lib.hid hone
  have H1Y := Lib.hid h1Y
  have HBX := Lib.hid (hBX.alloc (.cells #[.func (.func 61) #[] #[]] 111))
  have HBF := Lib.hid hBF
  have HB2 := Lib.hid hb2
  have HS := Lib.hid hs
  clear hv hcell hRL hfl hput hone h1Y hBX hBF hb2 hs
  have HBS := Lib.hid (fun g W (h : Below w.heap.size w W) (h1 : Has W g _ _) => bsX_any w _ l key g W h HV.out (by omega) HS.out h1)
  generalize hfd : decide (lowG Pr.key l key < l.length ∧ (l.getD (lowG Pr.key l key) noPr).key = key) = fd at *
  generalize hlo : lowG Pr.key l key = lo at *
  have HFD := Lib.hid hfd
  have HLO := Lib.hid hlo
  clear hfd hlo
  cases fd
  · go_enter Tryz.func60, Tryz.ntmps60
    go_wp2_with (first | (go_at_call 61; refine (keyX_any key val _).mono ?_; rintro e w3 ⟨rfl, hb3⟩; have hh3 := HBX.out.below hb3 (by simp; omega); have hh4 := HBF.out.below hb3 (by simp); have HX3 := Lib.hid hh3; have HY3 := Lib.hid hh4; obtain ⟨p3, p4⟩ := hh4.facts; have HB3 := Lib.hid (HB2.out.trans (hb3.mono (by simp; omega))); have z3 := hb3.size; simp only [World.size_alloc] at z3; clear hb3 hh3 hh4) | (go_at_call 97; refine (HBS.out _ _ HB3.out HY3.out).mono ?_; rintro e w4 ⟨rfl, hb4⟩; have HX4 := Lib.hid (HX3.out.below hb4 (by omega)); have HB4 := Lib.hid (HB3.out.trans (hb4.mono HB3.out.size)); have z4 := hb4.size; clear hb4) | (go_at_call 99; refine (cloneX_any A0 l.length c0 css.flatten _ (HC.out.imp id (fun ⟨ad, h1, h2⟩ => ⟨ad, h1, fun j u hj => cell_later HB4.out (h2 j u hj)⟩)) HFL.out HONE.out (by omega)).mono ?_; rintro e w5 ⟨v5, rfl, ho5, hb5⟩; have hx5 := HX4.out.below hb5 (by omega); obtain ⟨p5, p6⟩ := hx5.facts; have z5 := hb5.size; have HX5 := Lib.hid hx5; have HB5 := Lib.hid (HB4.out.trans (hb5.mono HB4.out.size)); have HO5 := Lib.hid ho5; clear hb5 ho5 hx5) | (go_at_call 100; refine (insX_any w4.heap.size _ l.length lo css.flatten w5.heap.size [.string key, .string val] _ (HO5.out.alloc _) hxl (by omega) HONE.out (Has.new w5 _ _) rfl H1Y.out (by simp; omega) (fun hlt => by rcases HO5.out with h | ⟨h0, _⟩ <;> first | (intro he; have := (h.lt _ he).2; omega) | omega)).mono ?_; rintro e w7 ⟨g7, cap7, F7, rfl, hg7, hh7, hc7, hb7⟩; have HF7 := Lib.hid ((HB5.out.alloc HB5.out.size _).trans (hb7.mono (by omega))); have HH7 := Lib.hid hh7; clear hb7 hh7))
    go_ret
    refine ⟨_, rfl, ?_, HF7.out⟩
    rw [HPUT.out]
    have e9 : (l.take lo ++ ⟨key, val⟩ :: l.drop lo).length = l.length + 1 := by simp; omega
    rw [if_neg (by decide)]
    refine ((HRL.out.below PrR.stays HF7.out).ins lo hxl (cs := [.string key, .string val]) (x := ⟨key, val⟩) rfl rfl).rd PrR.stays (Below.refl _ _) (t := 65) (c := cap7) (g := g7) (by rw [e9]; rfl) (by rw [e9]; exact hc7) (F := F7) ?_
    have hz := HRL.out.size
    rw [List.flatten_append, List.flatten_cons, flat_take css hz, flat_drop css hz]
    exact HH7.out
  · go_enter Tryz.func60, Tryz.ntmps60
    have hlt : lo < l.length := (of_decide_eq_true HFD.out).1
    have hlt2 : (lo : Int) < (l.length : Int) := by omega
    go_wp2_with (first | (go_at_call 61; refine (keyX_any key val _).mono ?_; rintro e w3 ⟨rfl, hb3⟩; have hh3 := HBX.out.below hb3 (by simp; omega); have hh4 := HBF.out.below hb3 (by simp); have HX3 := Lib.hid hh3; have HY3 := Lib.hid hh4; obtain ⟨p3, p4⟩ := hh4.facts; have HB3 := Lib.hid (HB2.out.trans (hb3.mono (by simp; omega))); have z3 := hb3.size; simp only [World.size_alloc] at z3; clear hb3 hh3 hh4) | (go_at_call 97; refine (HBS.out _ _ HB3.out HY3.out).mono ?_; rintro e w4 ⟨rfl, hb4⟩; have HX4 := Lib.hid (HX3.out.below hb4 (by omega)); have HB4 := Lib.hid (HB3.out.trans (hb4.mono HB3.out.size)); have z4 := hb4.size; clear hb4) | (go_at_call 99; refine (cloneX_any A0 l.length c0 css.flatten _ (HC.out.imp id (fun ⟨ad, h1, h2⟩ => ⟨ad, h1, fun j u hj => cell_later HB4.out (h2 j u hj)⟩)) HFL.out HONE.out (by omega)).mono ?_; rintro e w5 ⟨v5, rfl, ho5, hb5⟩; have hx5 := HX4.out.below hb5 (by omega); obtain ⟨p5, p6⟩ := hx5.facts; have z5 := hb5.size; have HX5 := Lib.hid hx5; have HB5 := Lib.hid (HB4.out.trans (hb5.mono HB4.out.size)); obtain ⟨g6, cap6, F6, rfl, hg6, hh6, hc6, _⟩ := own0formX ho5 (by omega); have HH6 := Lib.hid hh6; have HT6 : Hid (w5.there g6 (lo * 2) 2) := (fun j hj => ⟨by rw [cell_of_row w5 g6 _ _ _ (0, 0) HH6.out]; have hl1 := HFL.out; simp only [List.getElem?_toArray]; rw [List.getElem?_eq_getElem (by simp only [List.length_append]; omega)]; rfl, frozen_of_row w5 g6 _ _ _ HH6.out⟩); have HF7 := Lib.hid (below_setCells (B := w.heap.size) (g := g6) (by have := HB4.out.size; omega) [.string key, .string val] (lo * 2) w5 HB5.out); clear hb5 ho5 hx5 hh6) | ((with_reducible show wpList _ _ _ (Oper.mk none (Op.store 65 _ _) _ _ _ _ :: _) _ _); refine wpList_store_mid rfl 65 _ _ rfl g6 (lo * 2) #[.string key, .string val] rfl rfl HT6.out sizeX (all_oneCell_toArray H1Y.out) ?_))
    go_ret
    refine ⟨_, rfl, ?_, HF7.out⟩
    rw [HPUT.out]
    have e9 : (l.set lo ⟨key, val⟩).length = l.length := by simp
    rw [if_pos trivial]
    refine ((HRL.out.below PrR.stays HF7.out).set lo (cs := [.string key, .string val]) (x := ⟨key, val⟩) rfl rfl).rd PrR.stays (Below.refl _ _) (t := 65) (c := cap6) (g := g6) (by rw [e9]; rfl) (by rw [e9]; exact hc6) (F := F6) ?_
    have hz := HRL.out.size
    rw [flat_set css hz lo (by rw [HRL.out.len]; exact hlt) _ rfl]
    have := setCells_block g6 65 [.string key, .string val] (lo * 2) (css.flatten ++ F6) _ HH6.out (by have := HFL.out; simp only [List.length_append, List.length_cons, List.length_nil]; omega)
    rw [show splice (css.flatten ++ F6) (lo * 2) [.string key, .string val] = splice css.flatten (lo * 2) [.string key, .string val] ++ F6 by
      have hl1 := HFL.out
      unfold splice
      rw [List.take_append_of_le_length (by omega), List.drop_append_of_le_length (by simp only [List.length_cons, List.length_nil]; omega)]; simp] at this
    exact this
end Go.Proofs.YtccnocgmikmonaaGreatDoor
namespace Go.Proofs.YtccnocgmikmonaaGreatDoor
open Go Go.RowKit
/-- A store into a block of one cell leaves longer rows alone. -/
theorem Rd.far1 {α : Type} {C : Nat} {R : World → List Value → α → Prop} {w : World} {v : Value} {l : List α} (hC : 2 ≤ C) (h : Rd C R w v l) {g t : Nat} {x : Value} (u : Value) (hg : Has w g t #[x]) (hR : ∀ cs a, R w cs a → R (w.setCell ⟨g, 0, none⟩ u) cs a) : Rd C R (w.setCell ⟨g, 0, none⟩ u) v l := by
  obtain ⟨A, c, hv, hn, h0 | ⟨b, o, hA, hc⟩⟩ := h
  · exact ⟨A, c, hv, hn, .inl h0⟩
  · refine ⟨A, c, hv, hn, .inr ⟨b, o, hA, fun i a hi => ?_⟩⟩
    obtain ⟨cs, h1, h2, h3⟩ := hc i a hi
    refine ⟨cs, hR _ _ h1, h2, fun j y hj => ?_⟩
    have hbg : b ≠ g := by
      rintro rfl
      have := h3 1 (cs[1]'(by omega)) (List.getElem?_eq_getElem (by omega))
      rw [hg.cell] at this
      simp at this
    have hne : (⟨g, 0, none⟩ : Addr) ≠ ⟨b, o + i * C + j, none⟩ := fun e => hbg (by have := congrArg Addr.block e; exact this.symm)
    rw [World.cell?_setCell_other w _ _ u hne]
    exact h3 j y hj
theorem Sta.far1 {w : World} {v : Value} {l : List Pa} (h : Sta w v l) {g t : Nat} {x : Value} (u : Value) (hg : Has w g t #[x]) : Sta (w.setCell ⟨g, 0, none⟩ u) v l :=
  Rd.far1 (by omega) h u hg fun _ _ ⟨sv, h1, h2⟩ => ⟨sv, h1, Rd.far1 (by omega) h2 u hg fun _ _ h => h⟩
set_option maxRecDepth 100000 in
theorem no_any (x : Int) (w : World) : Calls Tryz.prog 54 #[.int .i64 x] w fun e w' => e = .returned (.tuple #[.agg #[.slice none 0 0], .int .i64 x]) ∧ Below w.heap.size w w' := by
  obtain ⟨p1, p2⟩ := (Has.new w 24 #[.slice none 0 0]).facts
  go_enter Tryz.func54, Tryz.ntmps54
  go_wp2_with fail
  refine bodyPost_ret (v := .tuple #[.agg #[.slice none 0 0], .int .i64 x]) (by simp [results, Tryz.results54, go_sem, p1]) rfl ?_
  exact ⟨rfl, by go_grown⟩
set_option maxRecDepth 100000 in
set_option maxHeartbeats 1000000 in
theorem next_any (v : Value) (l : List Pa) (name kind into slot : ByteArray) (made since : Int) (gone : Bool) (props : List Pr) (A : Option Addr) (c : Nat) (kl kh cl ch dl dh : Int) (gs : Nat) (w : World) (hv : Sta w v l) (hl : l.length ≤ 99999) (hs : sortedB (l.map Pa.name) = true) (hx : Rd 2 PrR w (.slice A props.length c) props) (hg : Has w gs 24 #[v]) :
    Calls Tryz.prog 51 #[.agg #[.string name, .string kind, .string into, .string slot, .int .i64 made, .int .i64 since, .bool gone, .slice A props.length c, .int .i64 kl, .int .i64 kh, .int .i64 cl, .int .i64 ch, .int .i64 dl, .int .i64 dh], .pointer (some ⟨gs, 0, none⟩)] w fun e w' => ∃ v', e = .returned (.tuple #[.agg #[v'], .int .i64 0]) ∧ Sta w' v' (putP l ⟨name, kind, into, slot, made, since, gone, props, kl, kh, cl, ch, dl, dh⟩) ∧ Below w.heap.size w w' := by
  obtain ⟨A0, c0, rfl, hn⟩ := Rd.form hv
  have hb : Below w.heap.size w ((w.alloc (.cells #[.string name, .string kind, .string into, .string slot, .int .i64 made, .int .i64 since, .bool gone, .slice A props.length c, .int .i64 kl, .int .i64 kh, .int .i64 cl, .int .i64 ch, .int .i64 dl, .int .i64 dh] 33)).alloc (.cells #[.slice none 0 0] 24)) := ((Below.refl _ _).alloc (Nat.le_refl _) _).alloc (by simp) _
  have h1 := Has.new (w.alloc (.cells #[.string name, .string kind, .string into, .string slot, .int .i64 made, .int .i64 since, .bool gone, .slice A props.length c, .int .i64 kl, .int .i64 kh, .int .i64 cl, .int .i64 ch, .int .i64 dl, .int .i64 dh] 33)) 24 #[.slice none 0 0]
  simp only [World.size_alloc] at h1
  have hgl := hg.lt
  obtain ⟨p1, p2⟩ := (hg.below hb hgl).facts
  have HV := Lib.hid (Sta.below hv hb)
  have HX := Lib.hid (hx.below PrR.stays hb)
  have H1 := Lib.hid h1
  have HB := Lib.hid hb
  have HS := Lib.hid hs
  clear hv hx hb h1 hg hs
  go_enter Tryz.func51, Tryz.ntmps51
  go_wp2_with (go_at_call 52; refine (putP_any _ l name kind into slot made since gone props A c kl kh cl ch dl dh _ HV.out hl HS.out HX.out).mono ?_; rintro e w2 ⟨v2, rfl, hr2, hb2⟩; obtain ⟨A3, c3, hf3, _⟩ := hr2.form; subst hf3; have HR2 := Lib.hid hr2; have HB2 := Lib.hid (HB.out.trans (hb2.mono (by simp; omega))); have hq1 := H1.out.below hb2 (by simp); have HQ1 := Lib.hid hq1; obtain ⟨p3, p4⟩ := hq1.facts; have z2 := hb2.size; clear hb2 hr2)
  refine bodyPost_ret (v := .tuple #[.agg #[.slice A3 _ c3], .int .i64 0]) (by simp [results, Tryz.results51, go_sem, p3]; rfl) rfl ?_
  simp only [World.size_alloc] at z2
  refine ⟨_, rfl, ?_, ?_⟩
  · exact Sta.far1 HR2.out _ HQ1.out
  · have hB := HB2.out
    go_grown

set_option maxRecDepth 100000 in
set_option maxHeartbeats 1000000 in
theorem testA_any (name kind into slot : ByteArray) (made since : Int) (gone : Bool) (A : Option Addr) (m c : Nat) (kl kh cl ch dl dh : Int) (ev : Ev) (g : Nat) (w : World) (hg : Has w g 51 ev.cells) :
    Calls Tryz.prog 59 #[.agg #[.string name, .string kind, .string into, .string slot, .int .i64 made, .int .i64 since, .bool gone, .slice A m c, .int .i64 kl, .int .i64 kh, .int .i64 cl, .int .i64 ch, .int .i64 dl, .int .i64 dh], .pointer (some ⟨g, 0, none⟩)] w fun e w' => e = .returned (.bool ((into.toList == ev.into.toList) && (slot.toList == ev.slot.toList))) ∧ Below w.heap.size w w' := by
  obtain ⟨p1, p2⟩ := (hg.alloc (.cells #[.string name, .string kind, .string into, .string slot, .int .i64 made, .int .i64 since, .bool gone, .slice A m c, .int .i64 kl, .int .i64 kh, .int .i64 cl, .int .i64 ch, .int .i64 dl, .int .i64 dh] 33)).facts
  have hgl := hg.lt
  clear hg
  obtain ⟨op, day, part, kind2, into2, slot2, key, value, ukl, ukh, ucl, uch, ull, ulh⟩ := ev
  show Calls _ _ _ _ fun e w' => e = .returned (.bool ((into.toList == into2.toList) && (slot.toList == slot2.toList))) ∧ Below w.heap.size w w'
  simp only [Ev.cells] at p1
  cases h1 : (into.toList == into2.toList)
  · go_enter Tryz.func59, Tryz.ntmps59
    go_wp2_with fail
    go_ret
    exact ⟨rfl, by go_grown⟩
  · go_enter Tryz.func59, Tryz.ntmps59
    go_wp2_with fail
    go_ret
    exact ⟨rfl, by go_grown⟩
set_option maxRecDepth 100000 in
set_option maxHeartbeats 1000000 in
theorem idxA_any (w0 : World) (v : Value) (l : List Pa) (ev : Ev) (g : Nat) (w : World) (hb0 : Below w0.heap.size w0 w) (hv : Sta w0 v l) (hl : l.length ≤ 100000) (hg : Has w g 51 ev.cells) :
    Calls Tryz.prog 95 #[v, .func (.func 59) #[] #[.pointer (some ⟨g, 0, none⟩)]] w fun e w' => ∃ r : Int, e = .returned (.int .i64 r) ∧ decide (0 ≤ r) = (l.any fun q => (q.into.toList == ev.into.toList) && (q.slot.toList == ev.slot.toList)) ∧ Below w.heap.size w w' := by
  have HV := Lib.hid hv
  have HG := Lib.hid hg
  have HB0 := Lib.hid hb0
  have hgl := hg.lt
  obtain ⟨A, c, rfl, hn⟩ := Rd.form hv
  clear hv hg hb0
  go_enter Tryz.func95, Tryz.ntmps95
  go_wp2_with fail
  go_loopw [8] (fun i wr => ∃ k : Nat, k ≤ l.length ∧ i = .int .i64 k ∧ Hid (((l.take k).any fun q => (q.into.toList == ev.into.toList) && (q.slot.toList == ev.slot.toList)) = false) ∧ Hid (Below w.heap.size w wr)) (fun i _ => l.length - (intOf i).toNat)
  case atStart => exact ⟨0, Nat.zero_le _, rfl, rfl, Below.refl _ _⟩
  case round =>
    obtain ⟨k, hk, rfl, hrel, HB⟩ := hrel
    by_cases hlt : k < l.length
    · obtain ⟨b, o, c', cs, he, _, ⟨sv, rfl, hsv⟩, _, hrg⟩ := HV.out.get hlt noPa
      injection he with e1 e2 e3
      subst e1; subst e3
      obtain ⟨A2, c2, rfl, hn2⟩ := hsv.form
      have hrg' := range_later hrg (HB0.out.trans (HB.out.mono HB0.out.size))
      have htake := Lib.hid (take_getD l k noPa hlt)
      have hmem := Lib.hid (getD_mem l k noPa hlt)
      have HQ := Lib.hid (HG.out.below HB.out hgl)
      clear hrg hsv
      generalize l.getD k noPa = q at *
      obtain ⟨name, kind, into, slot, made, since, gone, props, kl, kh, cl, ch, dl, dh⟩ := q
      replace hrg' : wr.rangeAt b (o + k * 14) [.string name, .string kind, .string into, .string slot, .int .i64 made, .int .i64 since, .bool gone, .slice A2 props.length c2, .int .i64 kl, .int .i64 kh, .int .i64 cl, .int .i64 ch, .int .i64 dl, .int .i64 dh] := hrg'
      have hC := Lib.hid (fun W g (h : Has W g 51 ev.cells) => testA_any name kind into slot made since gone A2 props.length c2 kl kh cl ch dl dh ev g W h)
      generalize hpr : ((into.toList == ev.into.toList) && (slot.toList == ev.slot.toList)) = pr at *
      have HPR := Lib.hid hpr
      clear hpr
      cases pr
      · go_wp2_with (first | ((with_reducible show wpList _ _ _ (Oper.mk (some 15) _ _ _ _ _ :: _) _ _); refine wpList_load_mid rfl 33 _ rfl b (o + k * 14) rfl _ _ hrg' Tryz.underlying33 rfl rfl ?_) | (go_at_call 59; refine (hC.out _ g HQ.out).mono ?_; rintro e w1 ⟨rfl, hb1⟩))
        go_roundw
        case rel => exact ⟨k + 1, by omega, by go_num, Lib.hid (by rw [htake.out, List.any_append, hrel.out]; simpa using HPR.out), HB.out.trans (hb1.mono HB.out.size)⟩
        case measure => simp [intOf]; omega
      · go_wp2_with (first | ((with_reducible show wpList _ _ _ (Oper.mk (some 15) _ _ _ _ _ :: _) _ _); refine wpList_load_mid rfl 33 _ rfl b (o + k * 14) rfl _ _ hrg' Tryz.underlying33 rfl rfl ?_) | (go_at_call 59; refine (hC.out _ g HQ.out).mono ?_; rintro e w1 ⟨rfl, hb1⟩))
        go_ret
        refine ⟨_, rfl, ?_, HB.out.trans (hb1.mono HB.out.size)⟩
        rw [decide_eq_true (by omega)]
        symm
        rw [List.any_eq_true]
        exact ⟨_, hmem.out, HPR.out⟩
    · obtain rfl : k = l.length := by omega
      go_wp2_with fail
      go_ret
      refine ⟨_, rfl, ?_, HB.out⟩
      have := hrel.out
      rw [List.take_length] at this
      rw [this]; rfl
theorem hasA_any (w0 : World) (v : Value) (l : List Pa) (ev : Ev) (g : Nat) (w : World) (hb0 : Below w0.heap.size w0 w) (hv : Sta w0 v l) (hl : l.length ≤ 100000) (hg : Has w g 51 ev.cells) :
    Calls Tryz.prog 57 #[v, .func (.func 59) #[] #[.pointer (some ⟨g, 0, none⟩)]] w fun e w' => e = .returned (.bool (l.any fun q => (q.into.toList == ev.into.toList) && (q.slot.toList == ev.slot.toList))) ∧ Below w.heap.size w w' := by
  have hC := Lib.hid (idxA_any w0 v l ev g w hb0 hv hl hg)
  generalize (l.any fun q => (q.into.toList == ev.into.toList) && (q.slot.toList == ev.slot.toList)) = res at *
  clear hv hg hb0
  go_enter Tryz.func57, Tryz.ntmps57
  go_wp2_with (go_at_call 95; refine hC.out.mono ?_; rintro e w1 ⟨r, rfl, hr, hb1⟩; have HR := Lib.hid hr; clear hr)
  go_ret
  exact ⟨ret_bool HR.out, hb1⟩
set_option maxRecDepth 100000 in
theorem holdsA_any (w0 : World) (v : Value) (l : List Pa) (ev : Ev) (g gs : Nat) (w : World) (hb0 : Below w0.heap.size w0 w) (hv : Sta w0 v l) (hl : l.length ≤ 100000) (hg : Has w g 51 ev.cells) (hs : Has w gs 24 #[v]) :
    Calls Tryz.prog 56 #[.func (.func 59) #[] #[.pointer (some ⟨g, 0, none⟩)], .pointer (some ⟨gs, 0, none⟩)] w fun e w' => e = .returned (.bool (l.any fun q => (q.into.toList == ev.into.toList) && (q.slot.toList == ev.slot.toList))) ∧ Below w.heap.size w w' := by
  have hC := Lib.hid (hasA_any w0 v l ev g w hb0 hv hl hg)
  obtain ⟨A, c, rfl, hn⟩ := Rd.form hv
  generalize (l.any fun q => (q.into.toList == ev.into.toList) && (q.slot.toList == ev.slot.toList)) = res at *
  obtain ⟨p1, p2⟩ := hs.facts
  clear hv hg hb0
  go_enter Tryz.func56, Tryz.ntmps56
  go_wp2_with (go_at_call 57; refine hC.out.mono ?_; rintro e w1 ⟨rfl, hb1⟩)
  go_ret
  exact ⟨rfl, hb1⟩

set_option maxRecDepth 100000 in
set_option maxHeartbeats 1000000 in
theorem testB_any (name kind into slot : ByteArray) (made since : Int) (gone : Bool) (A : Option Addr) (m c : Nat) (kl kh cl ch dl dh : Int) (nm kd it st : ByteArray) (md sc : Int) (gn : Bool) (B : Option Addr) (mm cc : Nat) (pkl pkh pcl pch pdl pdh : Int) (g : Nat) (w : World) (hg : Has w g 33 #[.string nm, .string kd, .string it, .string st, .int .i64 md, .int .i64 sc, .bool gn, .slice B mm cc, .int .i64 pkl, .int .i64 pkh, .int .i64 pcl, .int .i64 pch, .int .i64 pdl, .int .i64 pdh]) :
    Calls Tryz.prog 62 #[.agg #[.string name, .string kind, .string into, .string slot, .int .i64 made, .int .i64 since, .bool gone, .slice A m c, .int .i64 kl, .int .i64 kh, .int .i64 cl, .int .i64 ch, .int .i64 dl, .int .i64 dh], .pointer (some ⟨g, 0, none⟩)] w fun e w' => e = .returned (.bool ((into.toList == nm.toList))) ∧ Below w.heap.size w w' := by
  obtain ⟨p1, p2⟩ := (hg.alloc (.cells #[.string name, .string kind, .string into, .string slot, .int .i64 made, .int .i64 since, .bool gone, .slice A m c, .int .i64 kl, .int .i64 kh, .int .i64 cl, .int .i64 ch, .int .i64 dl, .int .i64 dh] 33)).facts
  have hgl := hg.lt
  clear hg
  go_enter Tryz.func62, Tryz.ntmps62
  go_wp2_with fail
  go_ret
  exact ⟨rfl, by go_grown⟩
set_option maxRecDepth 100000 in
set_option maxHeartbeats 1000000 in
theorem idxB_any (w0 : World) (v : Value) (l : List Pa) (nm kd it st : ByteArray) (md sc : Int) (gn : Bool) (B : Option Addr) (mm cc : Nat) (pkl pkh pcl pch pdl pdh : Int) (g : Nat) (w : World) (hb0 : Below w0.heap.size w0 w) (hv : Sta w0 v l) (hl : l.length ≤ 100000) (hg : Has w g 33 #[.string nm, .string kd, .string it, .string st, .int .i64 md, .int .i64 sc, .bool gn, .slice B mm cc, .int .i64 pkl, .int .i64 pkh, .int .i64 pcl, .int .i64 pch, .int .i64 pdl, .int .i64 pdh]) :
    Calls Tryz.prog 95 #[v, .func (.func 62) #[] #[.pointer (some ⟨g, 0, none⟩)]] w fun e w' => ∃ r : Int, e = .returned (.int .i64 r) ∧ decide (0 ≤ r) = (l.any fun q => (q.into.toList == nm.toList)) ∧ Below w.heap.size w w' := by
  have HV := Lib.hid hv
  have HG := Lib.hid hg
  have HB0 := Lib.hid hb0
  have hgl := hg.lt
  obtain ⟨A, c, rfl, hn⟩ := Rd.form hv
  clear hv hg hb0
  go_enter Tryz.func95, Tryz.ntmps95
  go_wp2_with fail
  go_loopw [8] (fun i wr => ∃ k : Nat, k ≤ l.length ∧ i = .int .i64 k ∧ Hid (((l.take k).any fun q => (q.into.toList == nm.toList)) = false) ∧ Hid (Below w.heap.size w wr)) (fun i _ => l.length - (intOf i).toNat)
  case atStart => exact ⟨0, Nat.zero_le _, rfl, rfl, Below.refl _ _⟩
  case round =>
    obtain ⟨k, hk, rfl, hrel, HB⟩ := hrel
    by_cases hlt : k < l.length
    · obtain ⟨b, o, c', cs, he, _, ⟨sv, rfl, hsv⟩, _, hrg⟩ := HV.out.get hlt noPa
      injection he with e1 e2 e3
      subst e1; subst e3
      obtain ⟨A2, c2, rfl, hn2⟩ := hsv.form
      have hrg' := range_later hrg (HB0.out.trans (HB.out.mono HB0.out.size))
      have htake := Lib.hid (take_getD l k noPa hlt)
      have hmem := Lib.hid (getD_mem l k noPa hlt)
      have HQ := Lib.hid (HG.out.below HB.out hgl)
      clear hrg hsv
      generalize l.getD k noPa = q at *
      obtain ⟨name, kind, into, slot, made, since, gone, props, kl, kh, cl, ch, dl, dh⟩ := q
      replace hrg' : wr.rangeAt b (o + k * 14) [.string name, .string kind, .string into, .string slot, .int .i64 made, .int .i64 since, .bool gone, .slice A2 props.length c2, .int .i64 kl, .int .i64 kh, .int .i64 cl, .int .i64 ch, .int .i64 dl, .int .i64 dh] := hrg'
      have hC := Lib.hid (fun W g (h : Has W g 33 #[.string nm, .string kd, .string it, .string st, .int .i64 md, .int .i64 sc, .bool gn, .slice B mm cc, .int .i64 pkl, .int .i64 pkh, .int .i64 pcl, .int .i64 pch, .int .i64 pdl, .int .i64 pdh]) => testB_any name kind into slot made since gone A2 props.length c2 kl kh cl ch dl dh nm kd it st md sc gn B mm cc pkl pkh pcl pch pdl pdh g W h)
      generalize hpr : ((into.toList == nm.toList)) = pr at *
      have HPR := Lib.hid hpr
      clear hpr
      cases pr
      · go_wp2_with (first | ((with_reducible show wpList _ _ _ (Oper.mk (some 15) _ _ _ _ _ :: _) _ _); refine wpList_load_mid rfl 33 _ rfl b (o + k * 14) rfl _ _ hrg' Tryz.underlying33 rfl rfl ?_) | (go_at_call 62; refine (hC.out _ g HQ.out).mono ?_; rintro e w1 ⟨rfl, hb1⟩))
        go_roundw
        case rel => exact ⟨k + 1, by omega, by go_num, Lib.hid (by rw [htake.out, List.any_append, hrel.out]; simpa using HPR.out), HB.out.trans (hb1.mono HB.out.size)⟩
        case measure => simp [intOf]; omega
      · go_wp2_with (first | ((with_reducible show wpList _ _ _ (Oper.mk (some 15) _ _ _ _ _ :: _) _ _); refine wpList_load_mid rfl 33 _ rfl b (o + k * 14) rfl _ _ hrg' Tryz.underlying33 rfl rfl ?_) | (go_at_call 62; refine (hC.out _ g HQ.out).mono ?_; rintro e w1 ⟨rfl, hb1⟩))
        go_ret
        refine ⟨_, rfl, ?_, HB.out.trans (hb1.mono HB.out.size)⟩
        rw [decide_eq_true (by omega)]
        symm
        rw [List.any_eq_true]
        exact ⟨_, hmem.out, HPR.out⟩
    · obtain rfl : k = l.length := by omega
      go_wp2_with fail
      go_ret
      refine ⟨_, rfl, ?_, HB.out⟩
      have := hrel.out
      rw [List.take_length] at this
      rw [this]; rfl
theorem hasB_any (w0 : World) (v : Value) (l : List Pa) (nm kd it st : ByteArray) (md sc : Int) (gn : Bool) (B : Option Addr) (mm cc : Nat) (pkl pkh pcl pch pdl pdh : Int) (g : Nat) (w : World) (hb0 : Below w0.heap.size w0 w) (hv : Sta w0 v l) (hl : l.length ≤ 100000) (hg : Has w g 33 #[.string nm, .string kd, .string it, .string st, .int .i64 md, .int .i64 sc, .bool gn, .slice B mm cc, .int .i64 pkl, .int .i64 pkh, .int .i64 pcl, .int .i64 pch, .int .i64 pdl, .int .i64 pdh]) :
    Calls Tryz.prog 57 #[v, .func (.func 62) #[] #[.pointer (some ⟨g, 0, none⟩)]] w fun e w' => e = .returned (.bool (l.any fun q => (q.into.toList == nm.toList))) ∧ Below w.heap.size w w' := by
  have hC := Lib.hid (idxB_any w0 v l nm kd it st md sc gn B mm cc pkl pkh pcl pch pdl pdh g w hb0 hv hl hg)
  generalize (l.any fun q => (q.into.toList == nm.toList)) = res at *
  clear hv hg hb0
  go_enter Tryz.func57, Tryz.ntmps57
  go_wp2_with (go_at_call 95; refine hC.out.mono ?_; rintro e w1 ⟨r, rfl, hr, hb1⟩; have HR := Lib.hid hr; clear hr)
  go_ret
  exact ⟨ret_bool HR.out, hb1⟩
set_option maxRecDepth 100000 in
theorem holdsB_any (w0 : World) (v : Value) (l : List Pa) (nm kd it st : ByteArray) (md sc : Int) (gn : Bool) (B : Option Addr) (mm cc : Nat) (pkl pkh pcl pch pdl pdh : Int) (g gs : Nat) (w : World) (hb0 : Below w0.heap.size w0 w) (hv : Sta w0 v l) (hl : l.length ≤ 100000) (hg : Has w g 33 #[.string nm, .string kd, .string it, .string st, .int .i64 md, .int .i64 sc, .bool gn, .slice B mm cc, .int .i64 pkl, .int .i64 pkh, .int .i64 pcl, .int .i64 pch, .int .i64 pdl, .int .i64 pdh]) (hs : Has w gs 24 #[v]) :
    Calls Tryz.prog 56 #[.func (.func 62) #[] #[.pointer (some ⟨g, 0, none⟩)], .pointer (some ⟨gs, 0, none⟩)] w fun e w' => e = .returned (.bool (l.any fun q => (q.into.toList == nm.toList))) ∧ Below w.heap.size w w' := by
  have hC := Lib.hid (hasB_any w0 v l nm kd it st md sc gn B mm cc pkl pkh pcl pch pdl pdh g w hb0 hv hl hg)
  obtain ⟨A, c, rfl, hn⟩ := Rd.form hv
  generalize (l.any fun q => (q.into.toList == nm.toList)) = res at *
  obtain ⟨p1, p2⟩ := hs.facts
  clear hv hg hb0
  go_enter Tryz.func56, Tryz.ntmps56
  go_wp2_with (go_at_call 57; refine hC.out.mono ?_; rintro e w1 ⟨rfl, hb1⟩)
  go_ret
  exact ⟨rfl, hb1⟩
end Go.Proofs.YtccnocgmikmonaaGreatDoor
namespace Go.Proofs.YtccnocgmikmonaaGreatDoor
open Go Go.RowKit
set_option maxHeartbeats 1000000 in
theorem valid_e1 (op : Int) (day : Int) (part kind into slot key value : ByteArray) (kl kh cl ch ll lh : Int) (w : World) (ho : op < 1 ∨ 7 < op) :
    Calls Tryz.prog 50 #[.agg #[.int .i64 op, .int .i64 day, .string part, .string kind, .string into, .string slot, .string key, .string value, .int .i64 kl, .int .i64 kh, .int .i64 cl, .int .i64 ch, .int .i64 ll, .int .i64 lh]] w fun e w' => e = .returned (.bool false) ∧ Below w.heap.size w w' := by
  have hW := wordS_none ho
  have HO := Lib.hid ho
  clear ho
  go_enter Tryz.func50, Tryz.ntmps50
  go_wp2_with (first | (go_at_call 83; refine (word_any _ _).mono ?_; rintro e w1 ⟨rfl, hb1⟩; obtain ⟨hE1, hB1, hz1⟩ := boxed hb1; obtain ⟨hc1, hf1⟩ := hE1.facts; have HE1 := Lib.hid hE1; have HB1 := Lib.hid hB1; clear hb1 hE1 hB1))
  go_ret
  exact ⟨rfl, HB1.out⟩
set_option maxHeartbeats 1000000 in
theorem valid_e2 (op : Int) (day : Int) (part kind into slot key value : ByteArray) (kl kh cl ch ll lh : Int) (w : World) (ho : 1 ≤ op ∧ op ≤ 7) (hd : day < 0) :
    Calls Tryz.prog 50 #[.agg #[.int .i64 op, .int .i64 day, .string part, .string kind, .string into, .string slot, .string key, .string value, .int .i64 kl, .int .i64 kh, .int .i64 cl, .int .i64 ch, .int .i64 ll, .int .i64 lh]] w fun e w' => e = .returned (.bool false) ∧ Below w.heap.size w w' := by
  have hW := wordS_some ho
  have hW' := wordS_some' ho
  have HO := Lib.hid ho
  clear ho
  go_enter Tryz.func50, Tryz.ntmps50
  go_wp2_with (first | (go_at_call 83; refine (word_any _ _).mono ?_; rintro e w1 ⟨rfl, hb1⟩; obtain ⟨hE1, hB1, hz1⟩ := boxed hb1; obtain ⟨hc1, hf1⟩ := hE1.facts; have HE1 := Lib.hid hE1; have HB1 := Lib.hid hB1; clear hb1 hE1 hB1))
  go_ret
  exact ⟨rfl, HB1.out⟩
set_option maxHeartbeats 1000000 in
theorem valid_e3 (op : Int) (day : Int) (part kind into slot key value : ByteArray) (kl kh cl ch ll lh : Int) (w : World) (ho : 1 ≤ op ∧ op ≤ 7) (hd0 : 0 ≤ day) (hd : 40000 < day) :
    Calls Tryz.prog 50 #[.agg #[.int .i64 op, .int .i64 day, .string part, .string kind, .string into, .string slot, .string key, .string value, .int .i64 kl, .int .i64 kh, .int .i64 cl, .int .i64 ch, .int .i64 ll, .int .i64 lh]] w fun e w' => e = .returned (.bool false) ∧ Below w.heap.size w w' := by
  have hW := wordS_some ho
  have hW' := wordS_some' ho
  have HO := Lib.hid ho
  clear ho
  go_enter Tryz.func50, Tryz.ntmps50
  go_wp2_with (first | (go_at_call 83; refine (word_any _ _).mono ?_; rintro e w1 ⟨rfl, hb1⟩; obtain ⟨hE1, hB1, hz1⟩ := boxed hb1; obtain ⟨hc1, hf1⟩ := hE1.facts; have HE1 := Lib.hid hE1; have HB1 := Lib.hid hB1; clear hb1 hE1 hB1))
  go_ret
  exact ⟨rfl, HB1.out⟩
set_option maxHeartbeats 1000000 in
theorem valid_e4 (op : Int) (day : Int) (part kind into slot key value : ByteArray) (kl kh cl ch ll lh : Int) (w : World) (ho : 1 ≤ op ∧ op ≤ 7) (hd0 : 0 ≤ day) (hd : day ≤ 40000) (hp : part.size ≤ maxLen) (hn : nameB part = false) :
    Calls Tryz.prog 50 #[.agg #[.int .i64 op, .int .i64 day, .string part, .string kind, .string into, .string slot, .string key, .string value, .int .i64 kl, .int .i64 kh, .int .i64 cl, .int .i64 ch, .int .i64 ll, .int .i64 lh]] w fun e w' => e = .returned (.bool false) ∧ Below w.heap.size w w' := by
  have hW := wordS_some ho
  have hW' := wordS_some' ho
  have HO := Lib.hid ho
  clear ho
  have HN := Lib.hid hn
  clear hn
  go_enter Tryz.func50, Tryz.ntmps50
  go_wp2_with (first | (go_at_call 83; refine (word_any _ _).mono ?_; rintro e w1 ⟨rfl, hb1⟩; obtain ⟨hE1, hB1, hz1⟩ := boxed hb1; obtain ⟨hc1, hf1⟩ := hE1.facts; have HE1 := Lib.hid hE1; have HB1 := Lib.hid hB1; clear hb1 hE1 hB1) | (go_at_call 84; refine (name_any _ _ hp).mono ?_; rintro e w2 ⟨rfl, hb2⟩; rw [HN.out]; obtain ⟨hE2, hB2, hz2⟩ := HE1.out.next HB1.out hz1 hb2 (by omega); obtain ⟨hc2, hf2⟩ := hE2.facts; have HE2 := Lib.hid hE2; have HB2 := Lib.hid hB2; clear hb2 hE2 hB2 hc1 hf1 hz1))
  go_ret
  exact ⟨rfl, HB2.out⟩
end Go.Proofs.YtccnocgmikmonaaGreatDoor
