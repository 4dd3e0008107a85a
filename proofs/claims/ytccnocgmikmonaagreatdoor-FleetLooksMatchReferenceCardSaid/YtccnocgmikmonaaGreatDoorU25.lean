/- bogielaw10.after: the state behind events. Catalogs of a moderate size, in plain words. No condition. bogieref01.Same: are two lists of strings equal? The chapter's example, as plain events and states. fleet.Root: the outermost part in which a part is. What is inside a part, as fleet.Inside finds it: level by level. Plain laws. Contracts of library functions at this translation, as the shelf lays them: slices_Sort_string, slices_Sort_string_none. slices.Sort of an own row of strings. fleet.Inside: the walk. -/
import Derived.BigQuiet
import Derived.Deep.QuietTactic
import Derived.Deep.RegionHeld3
import Derived.Shelf.Bits.Mul64
import Derived.Shelf.LaysM
import Derived.Shelf.Slices.In.SortNone
import Derived.Shelf.Small.Bits
import Derived.Shelf.Small.Strs
import Derived.Shelf.Small.Utf8
import Derived.Shelf.Sort.Plain
import Derived.Shelf.Strconv.Itoa0
import Derived.Shelf.Strconv.Itoa1
import Derived.Shelf.Strconv.Itoa2
import Derived.Shelf.Strconv.Itoa3
import Derived.Shelf.Strings.AsciiSet
import Derived.Shelf.Strings.Builder1
import Derived.Shelf.Strings.BuilderCap
import Derived.Shelf.Strings.BuilderF
import Derived.Shelf.Strings.BuilderK
import Derived.Shelf.Strings.Runes
import Derived.Shelf.Strings.Search1
import Derived.Shelf.Strings.Trim
import Derived.Shelf.Unicode.DecodeSlow
import Derived.Test.YtccnocgmikmonaaGreatDoorU01
import Derived.Test.YtccnocgmikmonaaGreatDoorU02
import Derived.Test.YtccnocgmikmonaaGreatDoorU03
import Derived.Test.YtccnocgmikmonaaGreatDoorU04
import Derived.Test.YtccnocgmikmonaaGreatDoorU05
import Derived.Test.YtccnocgmikmonaaGreatDoorU07
import Derived.Test.YtccnocgmikmonaaGreatDoorU24
namespace Go.Proofs.YtccnocgmikmonaaGreatDoor
open Go Go.RowKit
theorem below_keepA {a w : World} {p : Prop} (o : Obj) (h : Below a.heap.size a w ∧ p) : Below a.heap.size a (w.alloc o) := h.1.alloc h.1.size o
theorem below_keepS {a w : World} {p : Prop} (g i : Nat) (u : Value) (h : Below a.heap.size a w ∧ p) (hg : a.heap.size ≤ g) : Below a.heap.size a (w.setCell ⟨g, i, none⟩ u) := h.1.setCell hg u
theorem evF_cells {w : World} {b o n : Nat} {l : List Ev} (h : ∀ j, j < n * 14 → w.cell? ⟨b, o + j, none⟩ = some (evF l j)) {i : Nat} (hi : i < n) : w.rangeAt b (o + i * 14) (l.getD i noEv).cells.toList := ev_range h hi
set_option maxRecDepth 100000 in
set_option maxHeartbeats 4000000 in
theorem after_any (cv ev : Value) (c : List Kd) (es : List Ev) (S : Nat → List Pa) (m : Nat) (err : Int) (w : World) (hcat : Cat w cv c) (hcl : c.length ≤ 100000) (hks : ∀ k ∈ c, k.short) (hev : Sl w ev es.length 14 (evF es)) (hes : es.length ≤ 1000) (hsh : ∀ e ∈ es, e.short)
    (hm : m ≤ es.length) (h0 : S 0 = []) (hS : ∀ k, k < m → applyL c (S k) (es.getD k noEv) = (S (k + 1), 0)) (hss : ∀ k, k ≤ m → (S k).length ≤ 99999 ∧ ∀ p ∈ S k, p.short)
    (hend : (m = es.length ∧ err = 0) ∨ (m < es.length ∧ applyL c (S m) (es.getD m noEv) = ([], err) ∧ err ≠ 0)) :
    Calls Tryz.prog 25 #[.agg #[cv], ev] w fun e w' => ∃ A n c, e = .returned (.tuple #[.agg #[.slice A n c], .int .i64 err]) ∧ (err = 0 → Sta w' (.slice A n c) (S m)) ∧ Below w.heap.size w w' := by
  obtain ⟨A', cc, rfl, hn⟩ := Rd.form hcat
  obtain ⟨A, c1, rfl, hn1, hc1⟩ := id hev
  have HC := Lib.hid hcat
  have HE := Lib.hid hc1
  have HS := Lib.hid hS
  have HSS := Lib.hid hss
  have HEND := Lib.hid hend
  have HKS := Lib.hid hks
  have HSH := Lib.hid hsh
  have H0 := Lib.hid h0
  have hb1 := ((Below.refl w.heap.size w).alloc (Nat.le_refl _) (.cells #[.slice A' c.length cc] 60)).alloc (by simp) (.cells #[.slice none 0 0] 24)
  have hb2 := hb1.alloc (by simp; omega) (.cells #[.slice none 0 0] 24)
  have HB2 := Lib.hid hb2
  have k1 := ((Has.new w 60 #[.slice A' c.length cc]).alloc (.cells #[.slice none 0 0] 24)).alloc (.cells #[.slice none 0 0] 24)
  have k2 := (Has.new (w.alloc (.cells #[.slice A' c.length cc] 60)) 24 #[.slice none 0 0]).alloc (.cells #[.slice none 0 0] 24)
  have k3 := Has.new ((w.alloc (.cells #[.slice A' c.length cc] 60)).alloc (.cells #[.slice none 0 0] 24)) 24 #[.slice none 0 0]
  simp only [World.size_alloc] at k1 k2 k3
  have K1 := Lib.hid k1
  have K2 := Lib.hid k2
  have K3 := Lib.hid k3
  clear hcat hev hc1 hS hss hend hks hsh h0 hb1 hb2 k1 k2 k3
  go_enter Tryz.func25, Tryz.ntmps25
  go_wp2_with fail
  go_loopw [7] (fun i wr => ∃ (k : Nat) (sv : Value), k ≤ m ∧ i = .int .i64 k ∧ Hid (Sta wr sv (S k)) ∧ Hid (Has wr w.heap.size 60 #[.slice A' c.length cc]) ∧ Hid (Has wr (w.heap.size + 1) 24 #[.slice none 0 0]) ∧ Hid (Has wr (w.heap.size + 1 + 1) 24 #[sv]) ∧ Hid (Below w.heap.size w wr)) (fun i _ => es.length - (intOf i).toNat)
  case atStart => exact ⟨0, .slice none 0 0, Nat.zero_le _, rfl, by rw [H0.out]; exact Rd.nil none 0, K1.out, K2.out, K3.out, HB2.out⟩
  case round =>
    obtain ⟨k, sv, hkm, rfl, HST, HX1, HX2, HX3, HB⟩ := hrel
    clear K1 K2 K3 HB2
    obtain ⟨w1, rfl⟩ : ∃ w1, w1 = wr := ⟨_, rfl⟩
    obtain ⟨x1, x2⟩ := HX1.out.facts
    obtain ⟨x3, x4⟩ := HX2.out.facts
    obtain ⟨x5, x6⟩ := HX3.out.facts
    obtain ⟨A3, c3, rfl, hn3⟩ := Rd.form HST.out
    have hwr : w.heap.size + 1 + 1 < w1.heap.size := HX3.out.lt
    by_cases hlt : k < es.length
    · rcases HE.out with hz | ⟨b, o, rfl, hc⟩
      · omega
      have hrg : w1.rangeAt b (o + k * 14) (es.getD k noEv).cells.toList := range_later (ev_range hc hlt) HB.out
      have hki : (k : Int) < (es.length : Int) := by omega
      have hcx : w1.cell? ⟨w.heap.size, 0, none⟩ = some (.slice A' c.length cc) := x1 0
      have hsx : w1.cell? ⟨w.heap.size + 1 + 1, 0, none⟩ = some (.slice A3 (S k).length c3) := x5 0
      have hsh := HSH.out _ (getD_mem es k noEv hlt)
      have HAP := Lib.hid (fun W (h : Below w1.heap.size w1 W) => apply_any w1 (.slice A' c.length cc) (.slice A3 (S k).length c3) c (S k) (es.getD k noEv) W h (HC.out.below HB.out) hcl HKS.out HST.out (HSS.out k hkm).1 (HSS.out k hkm).2 hsh)
      have HAP2 : Hid (applyL c (S k) (es.getD k noEv) = (S (k + 1), 0) ∧ k < m ∨ applyL c (S k) (es.getD k noEv) = ([], err) ∧ err ≠ 0 ∧ k = m) := by
        show applyL c (S k) (es.getD k noEv) = (S (k + 1), 0) ∧ k < m ∨ applyL c (S k) (es.getD k noEv) = ([], err) ∧ err ≠ 0 ∧ k = m
        rcases Nat.lt_or_ge k m with h | h
        · exact .inl ⟨HS.out k h, h⟩
        · have hk : k = m := by omega
          subst hk
          rcases HEND.out with h | h
          · omega
          · exact .inr ⟨h.2.1, h.2.2, rfl⟩
      clear hc hsh
      generalize es.getD k noEv = e at *
      generalize applyL c (S k) e = r at *
      obtain ⟨op, day, part, kind, into, slot, key, value, kl, kh, cl, ch, ll, lh⟩ := e
      obtain ⟨rl, re⟩ := r
      simp only [Prod.mk.injEq] at HAP2 HAP
      have q0 : w1.cell? ⟨b, o + k * 14, none⟩ = some (.int .i64 op) := hrg 0 _ rfl
      have q1 : w1.cell? ⟨b, o + k * 14 + 1, none⟩ = some (.int .i64 day) := hrg 1 _ rfl
      have q2 : w1.cell? ⟨b, o + k * 14 + 2, none⟩ = some (.string part) := hrg 2 _ rfl
      have q3 : w1.cell? ⟨b, o + k * 14 + 3, none⟩ = some (.string kind) := hrg 3 _ rfl
      have q4 : w1.cell? ⟨b, o + k * 14 + 4, none⟩ = some (.string into) := hrg 4 _ rfl
      have q5 : w1.cell? ⟨b, o + k * 14 + 5, none⟩ = some (.string slot) := hrg 5 _ rfl
      have q6 : w1.cell? ⟨b, o + k * 14 + 6, none⟩ = some (.string key) := hrg 6 _ rfl
      have q7 : w1.cell? ⟨b, o + k * 14 + 7, none⟩ = some (.string value) := hrg 7 _ rfl
      have q8 : w1.cell? ⟨b, o + k * 14 + 8, none⟩ = some (.int .i64 kl) := hrg 8 _ rfl
      have q9 : w1.cell? ⟨b, o + k * 14 + 9, none⟩ = some (.int .i64 kh) := hrg 9 _ rfl
      have q10 : w1.cell? ⟨b, o + k * 14 + 10, none⟩ = some (.int .i64 cl) := hrg 10 _ rfl
      have q11 : w1.cell? ⟨b, o + k * 14 + 11, none⟩ = some (.int .i64 ch) := hrg 11 _ rfl
      have q12 : w1.cell? ⟨b, o + k * 14 + 12, none⟩ = some (.int .i64 ll) := hrg 12 _ rfl
      have q13 : w1.cell? ⟨b, o + k * 14 + 13, none⟩ = some (.int .i64 lh) := hrg 13 _ rfl
      have hbb : Below w1.heap.size w1 w1 := Below.refl _ _
      clear hrg
      go_wp2_with fail
      go_region_held3 (fun w' => Below w1.heap.size w1 w' ∧ w'.cell? ⟨w.heap.size, 0, none⟩ = some (.slice A' c.length cc) ∧ w'.cell? ⟨w.heap.size + 1 + 1, 0, none⟩ = some (.slice A3 (S k).length c3) ∧ w'.cell? ⟨b, o + k * 14, none⟩ = some (.int .i64 op) ∧ w'.cell? ⟨b, o + k * 14 + 1, none⟩ = some (.int .i64 day) ∧ w'.cell? ⟨b, o + k * 14 + 2, none⟩ = some (.string part) ∧ w'.cell? ⟨b, o + k * 14 + 3, none⟩ = some (.string kind) ∧ w'.cell? ⟨b, o + k * 14 + 4, none⟩ = some (.string into) ∧ w'.cell? ⟨b, o + k * 14 + 5, none⟩ = some (.string slot) ∧ w'.cell? ⟨b, o + k * 14 + 6, none⟩ = some (.string key) ∧ w'.cell? ⟨b, o + k * 14 + 7, none⟩ = some (.string value) ∧ w'.cell? ⟨b, o + k * 14 + 8, none⟩ = some (.int .i64 kl) ∧ w'.cell? ⟨b, o + k * 14 + 9, none⟩ = some (.int .i64 kh) ∧ w'.cell? ⟨b, o + k * 14 + 10, none⟩ = some (.int .i64 cl) ∧ w'.cell? ⟨b, o + k * 14 + 11, none⟩ = some (.int .i64 ch) ∧ w'.cell? ⟨b, o + k * 14 + 12, none⟩ = some (.int .i64 ll) ∧ w'.cell? ⟨b, o + k * 14 + 13, none⟩ = some (.int .i64 lh))
        (refine ⟨?_, ?_, ?_, ?_, ?_, ?_, ?_, ?_, ?_, ?_, ?_, ?_, ?_, ?_, ?_, ?_, ?_⟩ <;> first | assumption | exact hbb.drew | exact (hbb.alloc (Nat.le_refl _) _).drew | exact hbb.alloc (Nat.le_refl _) _ | exact hbw2 | exact hbw2.alloc hbs2 _ | exact hbw2.setCell (Nat.le_refl _) _ | exact cell_later hbb.drew (by assumption) | exact cell_later (hbb.alloc (Nat.le_refl _) _).drew (by assumption) | exact cell_later (hbb.alloc (Nat.le_refl _) _) (by assumption) | exact cell_later hbw2 (by assumption) | exact cell_later (hbw2.alloc hbs2 _) (by assumption) | exact cell_later (hbw2.setCell (Nat.le_refl _) _) (by assumption))
        ((first | (go_at_call 27; refine (HAP.out _ (by first | exact hbb | exact hbb.drew | exact (hbb.alloc (Nat.le_refl _) _).drew | exact hbb.alloc (Nat.le_refl _) _)).mono ?_; rintro e w2 ⟨v2, rfl, hst2, hb2⟩; have hbw2 : Below w1.heap.size w1 w2 := (by first | exact hb2 | exact hbb.drew.trans hb2 | exact (hbb.alloc (Nat.le_refl _) _).drew.trans (hb2.mono (by simp))); have hbs2 : w1.heap.size ≤ w2.heap.size := hbw2.size; obtain ⟨A9, c9, hv9, hn9⟩ := Rd.form hst2; subst hv9; first | (have h8 : Has w2 w1.heap.size 24 #[.slice none 0 0] := (((Has.new w1 24 #[.slice none 0 0]).drew).below hb2 (by simp)); have H8 := Lib.hid h8; obtain ⟨z1, z2⟩ := h8.facts; clear h8) | skip)))
      all_goals
        rename_i hHeld
        have hBW := hHeld.1
        clear hHeld q0 q1 q2 q3 q4 q5 q6 q7 q8 q9 q10 q11 q12 q13
        first
          | (have hp : Has (w2.setCell ⟨w1.heap.size, 0, none⟩ (.slice A9 rl.length c9)) w1.heap.size 24 #[.slice A9 rl.length c9] := H8.out.put 0 _; have hst3 := Sta.far1 hst2 (.slice A9 rl.length c9) H8.out; generalize (w2.setCell ⟨w1.heap.size, 0, none⟩ (Value.slice A9 rl.length c9)) = W at *)
          | (have hp := Has.new w2 24 #[.slice A9 rl.length c9]; have hst3 := hst2.below ((Below.refl w2.heap.size w2).alloc (Nat.le_refl _) (.cells #[.slice A9 rl.length c9] 24)); generalize (w2.alloc (Obj.cells #[Value.slice A9 rl.length c9] 24)) = W at *)
        have hX1 := HX1.out.below hBW (by omega)
        have hX2 := HX2.out.below hBW (by omega)
        have hX3 := HX3.out.below hBW (by omega)
        obtain ⟨p1, p2⟩ := hp.facts
        obtain ⟨p3, p4⟩ := hX1.facts
        obtain ⟨p5, p6⟩ := hX2.facts
        obtain ⟨p7, p8⟩ := hX3.facts
        have HW1 := Lib.hid hX1
        have HW2 := Lib.hid hX2
        have HW3 := Lib.hid hX3
        have HST3 := Lib.hid hst3
        have HBW := Lib.hid hBW
        clear hX1 hX2 hX3 hst3 hst2 hb2 hbw2 hp hBW hcx hsx
        rcases HAP2.out with ⟨⟨e1, e2⟩, hkm2⟩ | ⟨⟨e1, e2⟩, hne, hkm2⟩
        · subst e1
          subst e2
          clear HAP2
          go_wp2_with fail
          go_roundw
          case rel => exact ⟨k + 1, .slice A9 (S (k + 1)).length c9, hkm2, by go_num, Sta.far1 HST3.out _ HW3.out, HW1.out.far _ (by simp; omega) _, HW2.out.far _ (by simp) _, HW3.out.put 0 _, (HB.out.trans (HBW.out.mono HB.out.size)).setCell (by simp; omega) _⟩
          case measure => simp [intOf]; omega
        · subst e1
          subst e2
          clear HAP2
          have hne' : ¬ re = 0 := hne
          go_wp2_with fail
          have hB := (HB.out.trans (HBW.out.mono HB.out.size)).setCell (p := ⟨w.heap.size + 1, 0, none⟩) (by simp) (.slice none 0 0)
          obtain ⟨n4, n5⟩ := (HW2.out.put 0 (.slice none 0 0)).facts
          refine bodyPost_ret (v := .tuple #[.agg #[.slice none 0 0], .int .i64 re]) (by simp [results, Tryz.results25, go_sem, n4]) rfl ?_
          exact ⟨_, _, _, rfl, fun h => absurd h hne, hB⟩
    · have hk : k = m := by omega
      subst hk
      have herr : err = 0 := by
        rcases HEND.out with h | h
        · exact h.2
        · omega
      have HX5 := Lib.hid (HX2.out.put 0 (.slice A3 (S k).length c3))
      have HST5 := Lib.hid (Sta.far1 HST.out (.slice A3 (S k).length c3) HX2.out)
      have HB5 := Lib.hid (HB.out.setCell (p := ⟨w.heap.size + 1, 0, none⟩) (by simp) (.slice A3 (S k).length c3))
      go_wp2_with fail
      obtain ⟨n4, n5⟩ := HX5.out.facts
      subst herr
      refine bodyPost_ret (v := .tuple #[.agg #[.slice A3 (S k).length c3], .int .i64 0]) (by simp [results, Tryz.results25, go_sem, n4]) rfl ?_
      exact ⟨_, _, _, rfl, fun _ => HST5.out, HB5.out⟩
end Go.Proofs.YtccnocgmikmonaaGreatDoor
namespace Go.Proofs.YtccnocgmikmonaaGreatDoor
open Go Go.RowKit
def fewNm (x : ByteArray) : Bool := decide (x.size ≤ 100)
def fewSk (s : Sk) : Bool := decide (s.name.size ≤ 100) && (decide (s.kinds.length ≤ 15) && s.kinds.all fewNm)
def fewKd (k : Kd) : Bool := decide (k.name.size ≤ 100) && (decide (k.slots.length ≤ 15) && k.slots.all fewSk)
def fewCa (c : List Kd) : Bool := decide (c.length ≤ 65) && c.all fewKd
theorem fewCa_short {c : List Kd} (h : fewCa c = true) : c.length ≤ 65 ∧ ∀ k ∈ c, k.short := by
  unfold fewCa at h
  rw [Bool.and_eq_true, decide_eq_true_iff, List.all_eq_true] at h
  have hm : (300 : Nat) ≤ maxLen := by unfold maxLen; omega
  refine ⟨h.1, fun k hk => ?_⟩
  have h2 := h.2 k hk
  unfold fewKd at h2
  simp only [Bool.and_eq_true, decide_eq_true_eq, List.all_eq_true] at h2
  refine ⟨by omega, by omega, fun s hs => ?_⟩
  have h3 := h2.2.2 s hs
  unfold fewSk at h3
  simp only [Bool.and_eq_true, decide_eq_true_eq, List.all_eq_true] at h3
  refine ⟨by omega, by omega, fun x hx => ?_⟩
  have h4 := h3.2.2 x hx
  unfold fewNm at h4
  rw [decide_eq_true_iff] at h4
  omega
end Go.Proofs.YtccnocgmikmonaaGreatDoor
namespace Go.Proofs.YtccnocgmikmonaaGreatDoor
open Go Go.RowKit
def sameS (l m : List ByteArray) : Bool := decide (l = m)
theorem beq_bytes (a b : ByteArray) : (a.toList == b.toList) = decide (a = b) := by
  rw [Bool.eq_iff_iff, beq_iff_eq, decide_eq_true_iff]
  constructor
  · intro h
    have h2 : a.data.toList = b.data.toList := by rwa [ByteArray.toList_eq, ByteArray.toList_eq] at h
    cases a; cases b
    simpa using h2
  · rintro rfl; rfl
theorem sameS_bad {l m : List ByteArray} {k : Nat} (h : decide (l.getD k eS = m.getD k eS) = false) : sameS l m = false := by
  refine decide_eq_false fun e => ?_
  subst e
  simp at h
theorem sameS_len {l m : List ByteArray} (h : l.length ≠ m.length) : sameS l m = false := decide_eq_false fun e => h (by rw [e])
theorem sameS_end {l m : List ByteArray} (hl : l.length = m.length) (h : ∀ j, j < l.length → l.getD j eS = m.getD j eS) : sameS l m = true := by
  refine decide_eq_true ?_
  apply List.ext_getElem?
  intro j
  by_cases hj : j < l.length
  · have := h j hj
    rw [List.getD_eq_getElem?_getD, List.getD_eq_getElem?_getD, List.getElem?_eq_getElem hj, List.getElem?_eq_getElem (by omega)] at this
    rw [List.getElem?_eq_getElem hj, List.getElem?_eq_getElem (by omega)]
    simpa using this
  · rw [List.getElem?_eq_none (by omega), List.getElem?_eq_none (by omega)]
set_option maxRecDepth 100000 in
set_option maxHeartbeats 4000000 in
theorem sameS_any (v u : Value) (l m : List ByteArray) (w : World) (hv : Sl w v l.length 1 (strF l)) (hu : Sl w u m.length 1 (strF m)) (hl : l.length ≤ 1000000) (_hm : m.length ≤ 1000000) :
    Calls Tryz.prog 12 #[v, u] w fun r w' => r = .returned (.bool (sameS l m)) ∧ Below w.heap.size w w' := by
  obtain ⟨A, c, rfl, hn, hc⟩ := hv
  obtain ⟨A', c', rfl, hn', hc'⟩ := hu
  by_cases hlm : l.length = m.length
  · have hb0 : ((l.length : Int) != (m.length : Int)) = false := by simp; omega
    have HLM := Lib.hid hlm
    have HC := Lib.hid hc
    have HC' := Lib.hid hc'
    clear hc hc' hlm
    go_enter Tryz.func12, Tryz.ntmps12
    go_wp2_with fail
    go_loopw [5] (fun i wr => ∃ k : Nat, k ≤ l.length ∧ i = .int .i64 k ∧ Hid (∀ j, j < k → l.getD j eS = m.getD j eS) ∧ Below w.heap.size w wr) (fun i _ => l.length - (intOf i).toNat)
    case atStart => exact ⟨0, Nat.zero_le _, rfl, fun j hj => absurd hj (by omega), Below.refl _ _⟩
    case round =>
      obtain ⟨k, hk, rfl, hrel, hB⟩ := hrel
      have HB := Lib.hid hB
      clear hB
      by_cases hlt : k < l.length
      · have hkm : k < m.length := by have := HLM.out; omega
        rcases HC.out with h0 | ⟨b, o, rfl, hc⟩
        · omega
        rcases HC'.out with h0 | ⟨b', o', rfl, hc'⟩
        · omega
        have hr1 : wr.cell? ⟨b, o + k, none⟩ = some (.string (l.getD k eS)) := cell_later HB.out (hc k (by omega))
        have hr2 : wr.cell? ⟨b', o' + k, none⟩ = some (.string (m.getD k eS)) := cell_later HB.out (hc' k (by omega))
        have hbad := Lib.hid (fun h => sameS_bad (l := l) (m := m) (k := k) h)
        have hki : (k : Int) < (l.length : Int) := by omega
        have hkj : (k : Int) < (m.length : Int) := by omega
        have HR : Hid (l.getD k eS = m.getD k eS → ∀ j, j < k + 1 → l.getD j eS = m.getD j eS) := fun h j hj => by
          rcases Nat.lt_or_ge j k with h1 | h1
          · exact hrel.out j h1
          · obtain rfl : j = k := by omega
            exact h
        clear hc hc' hrel
        generalize l.getD k eS = x at *
        generalize m.getD k eS = y at *
        cases he : (x.toList == y.toList)
        · have hb := Lib.hid (hbad.out (by rw [← beq_bytes]; exact he))
          have he2 : (x.toList != y.toList) = true := by rw [bne, he]; rfl
          go_wp2_with fail
          go_quiet (fail)
          go_wp2_with fail
          go_ret
          exact ⟨ret_bool (by rw [hb.out]), below_drewN HB.out _⟩
        · have hb := Lib.hid (HR.out (by rw [beq_bytes] at he; exact of_decide_eq_true he))
          have he2 : (x.toList != y.toList) = false := by rw [bne, he]; rfl
          go_wp2_with fail
          go_quiet (fail)
          go_wp2_with fail
          go_roundw
          case rel => exact ⟨k + 1, by omega, by go_num, hb.out, below_drewN HB.out _⟩
          case measure => simp [intOf]; omega
      · obtain rfl : k = l.length := by omega
        have hfin := Lib.hid (sameS_end HLM.out hrel.out)
        clear hrel
        go_wp2_with fail
        go_ret
        exact ⟨ret_bool (by rw [hfin.out]), HB.out⟩
  · have hb0 : ((l.length : Int) != (m.length : Int)) = true := by rw [bne_iff_ne]; omega
    have hb := Lib.hid (sameS_len hlm)
    go_enter Tryz.func12, Tryz.ntmps12
    go_wp2_with fail
    go_ret
    exact ⟨ret_bool (by rw [hb.out]), Below.refl _ _⟩
end Go.Proofs.YtccnocgmikmonaaGreatDoor
namespace Go.Proofs.YtccnocgmikmonaaGreatDoor
open Go Go.RowKit
def nA : ByteArray := ⟨#[97]⟩
def nB : ByteArray := ⟨#[98]⟩
def nC : ByteArray := ⟨#[99]⟩
def nW : ByteArray := ⟨#[119]⟩
def tAxle : ByteArray := ⟨#[97, 120, 108, 101]⟩
def tWheel : ByteArray := ⟨#[119, 104, 101, 101, 108, 115, 101, 116]⟩
def tCoach : ByteArray := ⟨#[99, 111, 97, 99, 104]⟩
def tFront : ByteArray := ⟨#[102, 114, 111, 110, 116]⟩
def tC : List Kd := [⟨tAxle, false, []⟩, ⟨tWheel, false, [⟨tAxle, [tAxle], 1⟩]⟩, ⟨tCoach, true, [⟨tFront, [tWheel], 1⟩]⟩]
def madeE (name kind : ByteArray) : Ev := ⟨1, 0, name, kind, eS, eS, eS, eS, 0, 0, 0, 0, 0, 0⟩
def fitsE (name into slot : ByteArray) : Ev := ⟨2, 0, name, eS, into, slot, eS, eS, 0, 0, 0, 0, 0, 0⟩
def exEv : List Ev := [madeE nA tAxle, madeE nW tWheel, fitsE nA nW tAxle, madeE nC tCoach, fitsE nW nC tFront]
def exEw : List Ev := exEv ++ [madeE nB tAxle, fitsE nB nW tAxle]
def exS (k : Nat) : List Pa := (exEw.take k).foldl (fun s e => (applyL tC s e).1) []
theorem exS_step : ∀ k, k < 6 → applyL tC (exS k) (exEw.getD k noEv) = (exS (k + 1), 0) := by decide +kernel
theorem exS_end : applyL tC (exS 6) (exEw.getD 6 noEv) = ([], 6) := by decide +kernel
theorem exS_scrap : (applyL tC (exS 5) ⟨7, 0, nW, eS, eS, eS, eS, eS, 0, 0, 0, 0, 0, 0⟩).2 = 5 := by decide +kernel
theorem exS_root : rootL (exS 5) nA = nC := by decide +kernel
theorem exS_valid : validB tC (exS 5) = true := by decide +kernel
end Go.Proofs.YtccnocgmikmonaaGreatDoor
namespace Go.Proofs.YtccnocgmikmonaaGreatDoor
open Go Go.RowKit
set_option maxRecDepth 100000 in
set_option maxHeartbeats 4000000 in
theorem root_any (w0 : World) (v : Value) (l : List Pa) (a : ByteArray) (w : World) (hb0 : Below w0.heap.size w0 w) (hv : Sta w0 v l) (hl : l.length ≤ 100000) :
    Calls Tryz.prog 10 #[.agg #[v], .string a] w fun e w' => e = .returned (.string (rootL l a)) ∧ Below w.heap.size w w' := by
  obtain ⟨A, cs0, rfl, hn0⟩ := Rd.form hv
  have HB0 := Lib.hid hb0
  have hsz0 := hb0.size
  have HOF := Lib.hid (fun W (h : Below w0.heap.size w0 W) => of_any w0 _ l W h hv hl)
  have HGT := Lib.hid (fun g x W (h : Below w0.heap.size w0 W) hM => get_any w0 _ l g x W h hv hM)
  have HB1 := Lib.hid ((Below.refl w.heap.size w).alloc (Nat.le_refl _) (.cells #[.slice A l.length cs0] 24))
  have HS1 := Lib.hid (Has.new w 24 #[.slice A l.length cs0])
  clear hb0 hv
  have HRL := Lib.hid (show rootL l a = rootGo l l.length a from rfl)
  go_enter Tryz.func10, Tryz.ntmps10
  go_wp2_with (go_at_call 30; refine (HOF.out _ (HB0.out.trans (HB1.out.mono hsz0))).mono ?_; rintro e w3 ⟨gi, rfl, hM3, hgi, hb3⟩; have hgil := hM3.lt; have HM3 := Lib.hid (hM3.alloc (.cells #[.slice A l.length cs0, .map (some gi)] 69)); have hY3 := Has.new w3 69 #[.slice A l.length cs0, .map (some gi)]; have hS3 := HS1.out.below hb3 (by simp); have z3 := hb3.size; simp only [World.size_alloc] at z3; obtain ⟨y1, y2⟩ := hY3.facts; obtain ⟨s1, s2⟩ := (hS3.alloc (.cells #[.slice A l.length cs0, .map (some gi)] 69)).facts; have HY3 := Lib.hid hY3; have HB3 := Lib.hid ((HB1.out.trans (hb3.mono (by simp))).alloc (by omega) (.cells #[.slice A l.length cs0, .map (some gi)] 69)); clear hb3 hM3 hY3 hS3)
  go_loopw [13, 1] (fun i s wr => ∃ (k : Nat) (x : ByteArray), k ≤ l.length ∧ i = .int .i64 k ∧ s = .string x ∧ Hid (rootGo l (l.length - k) x = rootL l a) ∧ Hid (Mp wr Value.string gi (idxM l l.length)) ∧ Hid (Has wr w3.heap.size 69 #[.slice A l.length cs0, .map (some gi)]) ∧ Hid (Below w.heap.size w wr) ∧ w3.heap.size + 1 ≤ wr.heap.size) (fun i _ _ => l.length - (intOf i).toNat)
  case atStart => exact ⟨0, a, Nat.zero_le _, rfl, rfl, HRL.out.symm, HM3.out, HY3.out, HB3.out, by simp⟩
  case round =>
    obtain ⟨k, x, hk, rfl, rfl, HR, HM, HY, HB, hz⟩ := hrel
    by_cases hlt : k < l.length
    · obtain ⟨y3, y4⟩ := HY.out.facts
      have hgo : rootGo l (l.length - k) x = (match pfind l x with | none => eS | some p => if p.into = eS then x else rootGo l (l.length - (k + 1)) p.into) := by
        rw [show l.length - k = (l.length - (k + 1)) + 1 by omega]; rfl
      have HGO := Lib.hid (HR.out.symm.trans hgo)
      have HG1 := Lib.hid (fun W h hM => HGT.out gi x W h hM)
      clear hgo
      cases hpf : pfind l x with
      | none =>
        rw [hpf] at HG1 HGO
        simp only [Option.getD_none, Option.isSome_none, noPa, List.length_nil] at HG1
        go_wp2_with (go_at_call 31; refine (HG1.out _ (HB0.out.trans (HB.out.mono hsz0)) HM.out).mono ?_; rintro e w4 ⟨A1, m1, rfl, hr1, hb4⟩; have HB4 := Lib.hid (HB.out.trans (hb4.mono HB.out.size)); have z4 := hb4.size; clear hb4 hr1)
        go_ret
        have hB := HB4.out
        have hz2 := hB.size
        exact ⟨by rw [HGO.out]; rfl, by go_grown⟩
      | some p =>
        rw [hpf] at HG1 HGO
        obtain ⟨pname, pkind, pinto, pslot, pmade, psince, pgone, pprops, pkl, pkh, pcl, pch, pdl, pdh⟩ := p
        simp only [Option.getD_some, Option.isSome_some] at HG1
        change Hid (rootL l a = if pinto = eS then x else rootGo l (l.length - (k + 1)) pinto) at HGO
        have hie := emp_iff pinto
        cases hi : pinto.toList.isEmpty
        · have HI : Hid (¬ pinto = eS) := fun e => by rw [hi, decide_eq_true e] at hie; cases hie
          clear hie
          go_wp2_with (go_at_call 31; refine (HG1.out _ (HB0.out.trans (HB.out.mono hsz0)) HM.out).mono ?_; rintro e w4 ⟨A1, m1, rfl, hr1, hb4⟩; have HB4 := Lib.hid (HB.out.trans (hb4.mono HB.out.size)); have z4 := hb4.size; have HM4 := Lib.hid (HM.out.below hb4 (by omega)); have HY4 := Lib.hid (HY.out.below hb4 (by omega)); clear hb4 hr1)
          go_roundw
          case rel => exact ⟨k + 1, pinto, by omega, by go_num, rfl, by rw [HGO.out, if_neg HI.out]; rfl, HM4.out.alloc _, HY4.out.alloc _, HB4.out.alloc HB4.out.size _, by simp; omega⟩
          case measure => simp [intOf]; omega
        · have HI : Hid (pinto = eS) := by show pinto = eS; rw [hi] at hie; exact of_decide_eq_true hie.symm
          clear hie
          go_wp2_with (go_at_call 31; refine (HG1.out _ (HB0.out.trans (HB.out.mono hsz0)) HM.out).mono ?_; rintro e w4 ⟨A1, m1, rfl, hr1, hb4⟩; have HB4 := Lib.hid (HB.out.trans (hb4.mono HB.out.size)); have z4 := hb4.size; clear hb4 hr1)
          go_ret
          have hB := HB4.out
          have hz2 := hB.size
          exact ⟨by rw [HGO.out, if_pos HI.out]; rfl, by go_grown⟩
    · obtain rfl : k = l.length := by omega
      have hr := Lib.hid (show rootL l a = eS by have := HR.out; rw [Nat.sub_self] at this; exact this.symm)
      go_wp2_with fail
      go_ret
      exact ⟨by rw [hr.out]; rfl, HB.out⟩
end Go.Proofs.YtccnocgmikmonaaGreatDoor
namespace Go.Proofs.YtccnocgmikmonaaGreatDoor
open Go Go.RowKit
/-- What is inside a list, out of a rest of (name, where it is): f levels. -/
def bfs : Nat → List (ByteArray × ByteArray) → List ByteArray → List ByteArray
  | 0, _, _ => []
  | f + 1, R, L => ((R.filter fun p => inK L p.2).map (·.1)) ++ bfs f (R.filter fun p => !inK L p.2) ((R.filter fun p => inK L p.2).map (·.1))
theorem bfs_succ (f : Nat) (R : List (ByteArray × ByteArray)) (L : List ByteArray) : bfs (f + 1) R L = ((R.filter fun p => inK L p.2).map (·.1)) ++ bfs f (R.filter fun p => !inK L p.2) ((R.filter fun p => inK L p.2).map (·.1)) := rfl
theorem idxM_succ (l : List Pa) (k : Nat) : idxM l (k + 1) = if (l.take k).any (fun p => decide (p.name = (l.getD k noPa).name)) then idxM l k else idxM l k ++ [((l.getD k noPa).name, .int .i64 k)] := rfl
theorem bfs_nil : ∀ (f : Nat) (R : List (ByteArray × ByteArray)), bfs f R [] = []
  | 0, _ => rfl
  | f + 1, R => by
    have h : R.filter (fun p => inK ([] : List ByteArray) p.2) = [] := List.filter_eq_nil_iff.2 fun p _ => by simp [inK]
    rw [bfs_succ, h]; exact bfs_nil f _
theorem inK_perm {L L' : List ByteArray} (h : L.Perm L') (x : ByteArray) : inK L x = inK L' x := by
  rw [Bool.eq_iff_iff, inK_iff, inK_iff]; exact h.mem_iff
theorem bfs_list : ∀ (f : Nat) (R : List (ByteArray × ByteArray)) {L L' : List ByteArray}, L.Perm L' → bfs f R L = bfs f R L'
  | 0, _, _, _, _ => rfl
  | f + 1, R, L, L', h => by
    have e : (fun p : ByteArray × ByteArray => inK L p.2) = fun p => inK L' p.2 := funext fun p => inK_perm h p.2
    have e2 : (fun p : ByteArray × ByteArray => !inK L p.2) = fun p => !inK L' p.2 := funext fun p => by rw [inK_perm h p.2]
    rw [bfs_succ, bfs_succ, e, e2]
theorem bfs_perm : ∀ (f : Nat) {R R' : List (ByteArray × ByteArray)} (L : List ByteArray), R.Perm R' → (bfs f R L).Perm (bfs f R' L)
  | 0, _, _, _, _ => List.Perm.refl _
  | f + 1, R, R', L, h => by
    rw [bfs_succ, bfs_succ]
    have h1 := (h.filter fun p => inK L p.2).map (·.1)
    have h2 := bfs_perm f ((R.filter fun p => inK L p.2).map (·.1)) (h.filter fun p => !inK L p.2)
    refine h1.append (h2.trans ?_)
    rw [bfs_list f _ h1]
/-- One level more, whatever the order. -/
theorem bfs_step {f : Nat} {R : List (ByteArray × ByteArray)} {L M O full : List ByteArray} (h : (O ++ bfs (f + 1) R L).Perm full) (hM : M.Perm ((R.filter fun p => inK L p.2).map (·.1))) :
    ((O ++ M) ++ bfs f (R.filter fun p => !inK L p.2) M).Perm full := by
  refine List.Perm.trans ?_ h
  rw [List.append_assoc]
  refine List.Perm.append_left O ?_
  show (M ++ bfs f _ M).Perm _
  rw [bfs_succ, bfs_list f _ hM]
  exact hM.append_right _
/-- The fitted parts by their names, with where they are. -/
def fitted (l : List Pa) : List (ByteArray × ByteArray) :=
  ((List.range l.length).filter fun i => !((l.take i).any fun p => decide (p.name = (l.getD i noPa).name)) && !decide ((l.getD i noPa).into = eS)).map fun i => ((l.getD i noPa).name, (l.getD i noPa).into)
/-- All parts inside a part, in order. -/
def insL (l : List Pa) (a : ByteArray) : List (List UInt8) :=
  if (pfind l a).isNone then [] else ((bfs (l.length + 1) ((fitted l).filter fun p => !decide (p.1 = a)) [a]).map fun s => s.data.toList).mergeSort fun x y => decide (x ≤ y)
/-- An entry of the map of all parts, as one of the rest. -/
def entOf (l : List Pa) (q : ByteArray × Value) : Option (ByteArray × ByteArray) :=
  match q.2 with
  | .int _ i => if (l.getD i.toNat noPa).into = eS then none else some (q.1, (l.getD i.toNat noPa).into)
  | _ => none
theorem idxM_mem (l : List Pa) : ∀ k, k ≤ l.length → ∀ q ∈ idxM l k, ∃ i : Nat, i < k ∧ q = ((l.getD i noPa).name, .int .i64 (i : Int))
  | 0, _, q, h => by simp [idxM] at h
  | k + 1, hk, q, h => by
    rw [idxM_succ] at h
    split at h
    · obtain ⟨i, hi, he⟩ := idxM_mem l k (by omega) q h
      exact ⟨i, by omega, he⟩
    · rw [List.mem_append, List.mem_singleton] at h
      rcases h with h | rfl
      · obtain ⟨i, hi, he⟩ := idxM_mem l k (by omega) q h
        exact ⟨i, by omega, he⟩
      · exact ⟨k, by omega, rfl⟩
theorem idxM_nodup (l : List Pa) : ∀ k, k ≤ l.length → ((idxM l k).map (·.1)).Nodup
  | 0, _ => by simp [idxM]
  | k + 1, hk => by
    rw [idxM_succ]
    split
    · exact idxM_nodup l k (by omega)
    · rename_i h
      rw [List.map_append, List.nodup_append]
      refine ⟨idxM_nodup l k (by omega), by simp, fun a ha b hb => ?_⟩
      simp at hb
      subst hb
      rintro rfl
      obtain ⟨q, hq, he⟩ := List.mem_map.1 ha
      obtain ⟨i, hi, rfl⟩ := idxM_mem l k (by omega) q hq
      apply h
      rw [List.any_eq_true]
      refine ⟨l.getD i noPa, ?_, by simpa using he⟩
      rw [List.getD_eq_getElem?_getD, List.getElem?_eq_getElem (by omega), Option.getD_some]
      exact List.mem_take_iff_getElem.2 ⟨i, by omega, rfl⟩
theorem fitted_idx (l : List Pa) : (idxM l l.length).filterMap (entOf l) = fitted l := by
  have main : ∀ k, k ≤ l.length → (idxM l k).filterMap (entOf l) = ((List.range k).filter fun i => !((l.take i).any fun p => decide (p.name = (l.getD i noPa).name)) && !decide ((l.getD i noPa).into = eS)).map fun i => ((l.getD i noPa).name, (l.getD i noPa).into) := by
    intro k
    induction k with
    | zero => intro _; rfl
    | succ k ih =>
      intro hk
      rw [List.range_succ, List.filter_append, List.map_append, ← ih (by omega)]
      rw [idxM_succ]
      cases h : (l.take k).any (fun p => decide (p.name = (l.getD k noPa).name)) with
      | true =>
        rw [if_pos rfl, List.filter_cons]
        simp only [h, Bool.not_true, Bool.false_and, Bool.false_eq_true, if_false, List.filter_nil, List.map_nil, List.append_nil]
      | false =>
        rw [if_neg (by decide), List.filterMap_append, List.filter_cons]
        congr 1
        by_cases h2 : (l.getD k noPa).into = eS
        · simp only [h, h2, Bool.not_false, decide_true, Bool.not_true, Bool.and_false, Bool.false_eq_true, if_false, List.filter_nil, List.map_nil]
          rw [List.filterMap_cons]
          have : entOf l ((l.getD k noPa).name, .int .i64 (k : Int)) = none := by
            unfold entOf; simp only [Int.toNat_natCast]; rw [if_pos h2]
          rw [this]; rfl
        · simp only [h, h2, Bool.not_false, decide_false, Bool.and_self, if_true, List.filter_nil, List.map_cons, List.map_nil]
          rw [List.filterMap_cons]
          have : entOf l ((l.getD k noPa).name, .int .i64 (k : Int)) = some ((l.getD k noPa).name, (l.getD k noPa).into) := by
            unfold entOf; simp only [Int.toNat_natCast]; rw [if_neg h2]
          rw [this]; rfl
  exact main l.length (Nat.le_refl _)
theorem ent_fst {l : List Pa} {q : ByteArray × Value} {p : ByteArray × ByteArray} (h : entOf l q = some p) : p.1 = q.1 := by
  unfold entOf at h
  split at h
  · split at h
    · cases h
    · cases h; rfl
  · cases h
theorem ents_nodup (l : List Pa) : ∀ (m : List (ByteArray × Value)), (m.map (·.1)).Nodup → ((m.filterMap (entOf l)).map (·.1)).Nodup
  | [], _ => by simp
  | q :: m, h => by
    rw [List.map_cons, List.nodup_cons] at h
    rw [List.filterMap_cons]
    cases he : entOf l q with
    | none => exact ents_nodup l m h.2
    | some p =>
      rw [List.map_cons, List.nodup_cons]
      refine ⟨fun hm => ?_, ents_nodup l m h.2⟩
      obtain ⟨r, hr, he2⟩ := List.mem_map.1 hm
      obtain ⟨s, hs, hse⟩ := List.mem_filterMap.1 hr
      exact h.1 (List.mem_map.2 ⟨s, hs, by rw [← ent_fst hse, he2, ent_fst he]⟩)
theorem fitted_nodup (l : List Pa) : ((fitted l).map (·.1)).Nodup := by
  rw [← fitted_idx]; exact ents_nodup l _ (idxM_nodup l l.length (Nat.le_refl _))
/-- The rest as a map's entries. -/
def restM (R : List (ByteArray × ByteArray)) : List (ByteArray × Value) := R.map fun p => (p.1, .string p.2)
theorem mget_none {α : Type} [DecidableEq α] {m : List (α × Value)} {a : α} (h : ¬ a ∈ m.map (·.1)) : (mget m a).isSome = false := by
  unfold mget
  rw [List.find?_eq_none.2]
  · rfl
  · intro q hq
    simp only [decide_eq_true_eq]
    rintro rfl
    exact h (List.mem_map.2 ⟨q, hq, rfl⟩)
theorem restM_put {R : List (ByteArray × ByteArray)} {n i : ByteArray} (h : ¬ n ∈ R.map (·.1)) : mput (restM R) n (.string i) = restM (R ++ [(n, i)]) := by
  rw [mput_new (mget_none (by unfold restM; rw [List.map_map]; exact h))]
  unfold restM; simp
theorem restM_del {R : List (ByteArray × ByteArray)} (hn : (R.map (·.1)).Nodup) (a : ByteArray) : mdel (restM R) a = restM (R.filter fun p => !decide (p.1 = a)) := by
  unfold mdel restM
  rw [List.findIdx?_map]
  show (match R.findIdx? (fun p => decide (p.1 = a)) with | some i => _ | none => _) = _
  induction R with
  | nil => rfl
  | cons p R ih =>
    rw [List.map_cons, List.nodup_cons] at hn
    rw [List.findIdx?_cons, List.filter_cons]
    by_cases h : p.1 = a
    · simp only [h, decide_true, Bool.not_true, if_true, Bool.false_eq_true, if_false, List.map_cons, List.eraseIdx_zero, List.tail_cons]
      rw [List.filter_eq_self.2]
      intro q hq
      simp only [Bool.not_eq_true', decide_eq_false_iff_not]
      rintro e
      exact hn.1 (by rw [h, ← e]; exact List.mem_map.2 ⟨q, hq, rfl⟩)
    · have ih' := ih hn.2
      simp only [h, decide_false, Bool.not_false, Bool.false_eq_true, if_false, if_true, List.map_cons]
      cases hf : R.findIdx? (fun p => decide (p.1 = a)) with
      | none => rw [hf] at ih'; simp only [Option.map_none]; exact congrArg _ ih'
      | some i => rw [hf] at ih'; simp only [Option.map_some]; rw [List.eraseIdx_cons_succ]; exact congrArg _ ih'
end Go.Proofs.YtccnocgmikmonaaGreatDoor
namespace Go.Proofs
open Go.Shelf
def Tryz.lays190_ren : Go.Shelf.Ren := ⟨fun | 190 => 34 | 125 => 69 | 258 => 68 | 128 => 114 | 129 => 115 | 302 => 105 | 303 => 106 | 304 => 107 | 305 => 108 | 306 => 109 | 307 => 110 | 308 => 111 | 309 => 112 | 310 => 113 | 333 => 134 | 329 => 135 | 330 => 136 | 334 => 137 | 335 => 138 | 336 => 125 | 344 => 152 | n => n, fun | 31 => 39 | 9 => 9 | 3 => 3 | 46 => 88 | 0 => 0 | 51 => 172 | 53 => 86 | 4 => 4 | 183 => 165 | 182 => 164 | 131 => 74 | 5 => 5 | 218 => 191 | 222 => 195 | 228 => 207 | 229 => 208 | n => n, fun | n => n⟩
theorem Tryz.lays190 : Go.Proofs.Lays.n190 Tryz.prog Tryz.lays190_ren := {
  mixed := by kernel_rfl
  f125 := Tryz.func69.trans (congrArg some (by kernel_rfl))
  f128 := Tryz.func114.trans (congrArg some (by kernel_rfl))
  f129 := Tryz.func115.trans (congrArg some (by kernel_rfl))
  f190 := Tryz.func34.trans (congrArg some (by kernel_rfl))
  f258 := Tryz.func68.trans (congrArg some (by kernel_rfl))
  f302 := Tryz.func105.trans (congrArg some (by kernel_rfl))
  f303 := Tryz.func106.trans (congrArg some (by kernel_rfl))
  f304 := Tryz.func107.trans (congrArg some (by kernel_rfl))
  f305 := Tryz.func108.trans (congrArg some (by kernel_rfl))
  f306 := Tryz.func109.trans (congrArg some (by kernel_rfl))
  f307 := Tryz.func110.trans (congrArg some (by kernel_rfl))
  f308 := Tryz.func111.trans (congrArg some (by kernel_rfl))
  f309 := Tryz.func112.trans (congrArg some (by kernel_rfl))
  f310 := Tryz.func113.trans (congrArg some (by kernel_rfl))
  f329 := Tryz.func135.trans (congrArg some (by kernel_rfl))
  f330 := Tryz.func136.trans (congrArg some (by kernel_rfl))
  f333 := Tryz.func134.trans (congrArg some (by kernel_rfl))
  f334 := Tryz.func137.trans (congrArg some (by kernel_rfl))
  f335 := Tryz.func138.trans (congrArg some (by kernel_rfl))
  f336 := Tryz.func125.trans (congrArg some (by kernel_rfl))
  f344 := Tryz.func152.trans (congrArg some (by kernel_rfl))
  t0 := Tryz.underlying0
  a0 := Tryz.isAgg0
  z0 := Tryz.sizeOf0
  v0 := Tryz.zeroValue0
  t3 := Tryz.underlying3
  a3 := Tryz.isAgg3
  z3 := Tryz.sizeOf3
  v3 := Tryz.zeroValue3
  t4 := Tryz.underlying4
  a4 := Tryz.isAgg4
  z4 := Tryz.sizeOf4
  v4 := Tryz.zeroValue4
  t5 := Tryz.underlying5
  a5 := Tryz.isAgg5
  z5 := Tryz.sizeOf5
  v5 := Tryz.zeroValue5
  t9 := Tryz.underlying9
  a9 := Tryz.isAgg9
  z9 := Tryz.sizeOf9
  v9 := Tryz.zeroValue9
  t31 := Tryz.underlying39
  a31 := Tryz.isAgg39
  z31 := Tryz.sizeOf39
  v31 := Tryz.zeroValue39
  t46 := Tryz.underlying88
  a46 := Tryz.isAgg88
  z46 := Tryz.sizeOf88
  v46 := Tryz.zeroValue88
  t51 := Tryz.underlying172
  a51 := Tryz.isAgg172
  z51 := Tryz.sizeOf172
  v51 := Tryz.zeroValue172
  t53 := Tryz.underlying86
  a53 := Tryz.isAgg86
  z53 := Tryz.sizeOf86
  v53 := Tryz.zeroValue86
  t131 := Tryz.underlying74
  a131 := Tryz.isAgg74
  z131 := Tryz.sizeOf74
  v131 := Tryz.zeroValue74
  t182 := Tryz.underlying164
  a182 := Tryz.isAgg164
  z182 := Tryz.sizeOf164
  v182 := Tryz.zeroValue164
  t183 := Tryz.underlying165
  a183 := Tryz.isAgg165
  z183 := Tryz.sizeOf165
  v183 := Tryz.zeroValue165
  t218 := Tryz.underlying191
  a218 := Tryz.isAgg191
  z218 := Tryz.sizeOf191
  v218 := Tryz.zeroValue191
  t222 := Tryz.underlying195
  a222 := Tryz.isAgg195
  z222 := Tryz.sizeOf195
  v222 := Tryz.zeroValue195
  t228 := Tryz.underlying207
  a228 := Tryz.isAgg207
  z228 := Tryz.sizeOf207
  v228 := Tryz.zeroValue207
  t229 := Tryz.underlying208
  a229 := Tryz.isAgg208
  z229 := Tryz.sizeOf208
  v229 := Tryz.zeroValue208 }
open Go.Sort Go.RowKit in
theorem Tryz.slices_Sort_string (blk off cap : Nat) (ss : List (List UInt8)) (w : World) (hH : Holds encStr w blk off ss.toArray) (hblk : blk < w.heap.size) (hsz : ss.length < 4611686018427387904) :
    Calls Tryz.prog 34 #[.slice (some ⟨blk, off, none⟩) ss.length cap] w fun e w' =>
      e = .returned (.tuple #[]) ∧ ∃ n os, w' = grow (putRow encStr (Sort.ahead w n) blk off (ss.mergeSort fun x y => decide (x ≤ y)).toArray) os := Any.slices_Sort_string Tryz.lays190 blk off cap ss w hH hblk hsz
open Go.RowKit Go.Sort in
theorem Tryz.slices_Sort_string_none (p : Option Addr) (cap : Nat) (w : World) :
    Calls Tryz.prog 34 #[.slice p 0 cap] w fun e w' => e = .returned (.tuple #[]) ∧ w' = w := Any.slices_Sort_string_none Tryz.lays190 p cap w
end Go.Proofs
namespace Go.Proofs.YtccnocgmikmonaaGreatDoor
open Go Go.RowKit
section
variable {α : Type} [Inhabited α] {enc : α → Value} {w w' : World} {B : Nat}
theorem below_putRow (h : Below B w w') (blk off : Nat) (d : Array α) (hB : B ≤ blk) : Below B w (Sort.putRow enc w' blk off d) :=
  ⟨h.os, h.tape, h.output, by rw [Sort.size_putRow]; exact h.size, fun k hk => by
    show (w'.heap.modify blk _)[k]? = _
    rw [Array.getElem?_modify, if_neg (by omega)]
    exact h.block k hk⟩
theorem below_ahead (h : Below B w w') (n : Nat) : Below B w (Sort.ahead w' n) := ⟨h.os, h.tape, h.output, h.size, h.block⟩
theorem below_grow (h : Below B w w') (hB : B ≤ w'.heap.size) (os : Array Obj) : Below B w (Sort.grow w' os) :=
  ⟨h.os, h.tape, h.output, by show _ ≤ (w'.heap ++ os).size; rw [Array.size_append]; have := h.size; omega, fun k hk => by
    rw [Sort.heap_grow_old w' os (by omega)]; exact h.block k hk⟩
theorem holds_grow {blk off : Nat} {d : Array α} (h : Sort.Holds enc w blk off d) (hb : blk < w.heap.size) (os : Array Obj) : Sort.Holds enc (Sort.grow w os) blk off d := fun j hj => by
  obtain ⟨h1, h2⟩ := h j hj
  exact ⟨by rw [Sort.cell?_grow _ _ _ hb]; exact h1, by rw [Sort.frozen?_grow _ _ _ hb]; exact h2⟩
theorem holds_ahead {blk off : Nat} {d : Array α} (h : Sort.Holds enc w blk off d) (n : Nat) : Sort.Holds enc (Sort.ahead w n) blk off d := h
end
def toL (s : ByteArray) : List UInt8 := s.data.toList
def ofL (l : List UInt8) : ByteArray := ⟨l.toArray⟩
theorem ofL_toL (s : ByteArray) : ofL (toL s) = s := by cases s; simp [ofL, toL]
theorem toL_ofL (l : List UInt8) : toL (ofL l) = l := by simp [ofL, toL]
def sortL (S : List ByteArray) : List (List UInt8) := (S.map toL).mergeSort fun x y => decide (x ≤ y)
theorem sortL_len (S : List ByteArray) : (sortL S).length = S.length := by simp [sortL]

set_option maxRecDepth 100000 in
set_option maxHeartbeats 2000000 in
theorem sort_own (v : Value) (S : List ByteArray) (w : World) (base : Nat) (hown : w.ownsRow base 9 1 v S.length (S.map .string)) (hs : S.length ≤ 100000) (hbs : base ≤ w.heap.size) :
    Calls Tryz.prog 34 #[v] w fun r w' => r = .returned (.tuple #[]) ∧ Sl w' v S.length 1 (strF ((sortL S).map ofL)) ∧ Below base w w' := by
  rcases hown.2 with ⟨rfl, h0⟩ | ⟨g, cap, cur, rfl, hg, hh, hnc, hcm, hcs, ht⟩
  · rw [h0]
    refine (Tryz.slices_Sort_string_none _ _ _).mono ?_
    rintro r w3 ⟨rfl, rfl⟩
    exact ⟨rfl, ⟨_, _, rfl, Nat.le_refl _, .inl rfl⟩, Below.refl _ _⟩
  · have hgl : g < w.heap.size := (Array.getElem?_eq_some_iff.1 hh).1
    have hlen : (sortL S).length = S.length := sortL_len _
    have hH : Sort.Holds encStr w g 0 (S.map toL).toArray := by
      intro j hj
      have hj' : j < S.length := by simpa using hj
      have hx : (S.map toL).toArray[j]! = toL S[j] := by rw [getElem!_pos _ j hj]; simp
      rw [hx, Nat.zero_add]
      refine ⟨?_, frozen_of_row w g j cur _ hh⟩
      rw [cell_of_row w g j cur _ (0, 0) hh]
      have h1 : (S.map Value.string)[j]? = some (.string S[j]) := by rw [List.getElem?_map, List.getElem?_eq_getElem hj']; rfl
      rw [← ht, List.getElem?_take, if_pos (by omega)] at h1
      have h2 : cur[j]? = some (.string S[j]) := by simpa using h1
      rw [h2]
      show _ = some (Value.string (ofL (toL S[j])))
      rw [ofL_toL]
    have hlm : (S.map toL).length = S.length := by simp
    rw [← hlm]
    refine (Tryz.slices_Sort_string g 0 cap (S.map toL) _ hH hgl (by rw [hlm]; omega)).mono ?_
    rintro r w3 ⟨rfl, n3, os3, rfl⟩
    have hH3 : Sort.Holds encStr (Sort.grow (Sort.putRow encStr (Sort.ahead w n3) g 0 (sortL S).toArray) os3) g 0 (sortL S).toArray :=
      holds_grow (Sort.holds_putRow _ _ _ _ _ _ (holds_ahead hH n3) (by simp [sortL])) (by rw [Sort.size_putRow]; exact hgl) os3
    have hB3 : Below base w (Sort.grow (Sort.putRow encStr (Sort.ahead w n3) g 0 (sortL S).toArray) os3) := below_grow (below_putRow (below_ahead (Below.refl _ _) n3) _ _ _ hg) (by rw [Sort.size_putRow]; exact hbs) os3
    refine ⟨rfl, ⟨some ⟨g, 0, none⟩, cap, rfl, by rw [hlm]; omega, .inr ⟨g, 0, rfl, fun j hj => ?_⟩⟩, hB3⟩
    have hj' : j < (sortL S).toArray.size := by rw [hlm] at hj; rw [List.size_toArray, hlen]; omega
    rw [show (S.map toL).mergeSort (fun x y => decide (x ≤ y)) = sortL S from rfl]
    rw [(hH3 j hj').1, getElem!_pos _ j hj']
    unfold strF
    rw [List.getD_eq_getElem?_getD, List.getElem?_map, List.getElem?_eq_getElem (by rw [hlm] at hj; rw [hlen]; omega)]
    simp [ofL]
end Go.Proofs.YtccnocgmikmonaaGreatDoor
namespace Go.Proofs.YtccnocgmikmonaaGreatDoor
open Go Go.RowKit
/-- How many entries the map in block g has; how long a slice is. -/
def msize (w : World) (g : Nat) : Nat := match w.heap[g]? with
  | some (.map es _) => es.size
  | _ => 0
def lenV : Value → Nat
  | .slice _ n _ => n
  | _ => 0
def oneV (v : Value) : Nat := if lenV v = 0 then 0 else 1
theorem oneV_slice (A : Option Addr) (n c : Nat) : oneV (.slice A n c) = if n = 0 then 0 else 1 := rfl
theorem Mp.msize {α : Type} {w : World} {enc : α → Value} {g : Nat} {m : List (α × Value)} (h : Mp w enc g m) : msize w g = m.length := by
  obtain ⟨es, clock, h1, h2, _⟩ := h
  unfold Go.Proofs.YtccnocgmikmonaaGreatDoor.msize; rw [h1]
  have := congrArg List.length h2
  simpa using this
theorem wpList_del {P : Program} {w : World} {ops : Array Oper} {rest : List Oper} {o : Oper} {a : Act} {Q : Exit → Act → World → Prop} (hgd : o.guard = none) (m k : Operand) (T T2 : TypeId)
    (ho : o.op = .call { callee := .builtin .delete, args := #[m, k], argTypes := #[T, T2] }) (v u : Value) (hm : a.eval m = v) (hk : a.eval k = u) {r : Value} {w' : World}
    (hr : (Builtin.delete_ #[T, T2] o.type #[v, u]).run P w = .ok r w') (h : wpList P ops Q rest (a.put o.dst r) w') : wpList P ops Q (o :: rest) a w :=
  wpList_plain hgd fun _ hK => by
    unfold Oper.wp execOp
    simp only [ho, resolve, invoke, builtin, Sem.run_bind, Sem.run_pure, Result.andThen_ok, List.map_toArray, List.map_cons, List.map_nil, hm, hk, hr]
    exact hK _ _ h
theorem info_strI : (Tryz.prog.info? 9).map (fun i => (i.zero, i.size, i.bytes)) = some (some (.string ⟨#[]⟩), 1, 16) := by kernel_rfl
/-- What an append has made reads as a slice of strings. -/
theorem str_ownI {w : World} {base : Nat} {t : Nat} {v : Value} {l : List ByteArray} (h : w.ownsRow base t 1 v l.length (l.map .string)) : Sl w v l.length 1 (strF l) := by
  rcases h.2 with ⟨rfl, h0⟩ | ⟨g, cap, cur, rfl, hg, hh, hn, hc, hs, ht⟩
  · rw [h0]; exact ⟨_, _, rfl, Nat.le_refl _, .inl rfl⟩
  · refine ⟨_, cap, rfl, hn, .inr ⟨g, 0, rfl, fun j hj => ?_⟩⟩
    have hj' : j < l.length := by omega
    rw [Nat.zero_add, cell_of_row w g j cur t (0, 0) hh]
    have h1 : (l.map Value.string)[j]? = some (strF l j) := by
      unfold strF
      rw [List.getElem?_map, List.getD_eq_getElem?_getD, List.getElem?_eq_getElem hj']; rfl
    rw [← ht, List.getElem?_take, if_pos hj] at h1
    simpa using h1
/-- One that comes, of those that are still to come. -/
theorem rest_next {T : List (ByteArray × ByteArray)} {t1 t2 : List (ByteArray × Value)} {a : ByteArray} {v : Value} (h : restM T = t1 ++ (a, v) :: t2) : ∃ T1 i T2, T = T1 ++ (a, i) :: T2 ∧ v = .string i ∧ restM (T1 ++ T2) = t1 ++ t2 := by
  unfold restM at h
  obtain ⟨T1, T3, rfl, h1, h3⟩ := List.map_eq_append_iff.1 h
  obtain ⟨p, T2, rfl, hp, h2⟩ := List.map_eq_cons_iff.1 h3
  obtain ⟨b, i⟩ := p
  simp only [Prod.mk.injEq] at hp
  obtain ⟨rfl, rfl⟩ := hp
  exact ⟨T1, i, T2, rfl, rfl, by unfold restM; rw [List.map_append, h1, h2]⟩
theorem more_in {L M full : List ByteArray} {T1 T2 : List (ByteArray × ByteArray)} {a i : ByteArray} (h : (M ++ ((T1 ++ (a, i) :: T2).filter fun p => inK L p.2).map (·.1)).Perm full) (hi : inK L i = true) : ((M ++ [a]) ++ ((T1 ++ T2).filter fun p => inK L p.2).map (·.1)).Perm full := by
  refine List.Perm.trans ?_ h
  rw [List.append_assoc]
  refine List.Perm.append_left M ?_
  rw [List.filter_append, List.filter_append, List.filter_cons, if_pos hi, List.map_append, List.map_append, List.map_cons]
  exact (List.perm_middle (a := a) (l₁ := (T1.filter fun p => inK L p.2).map (·.1)) (l₂ := (T2.filter fun p => inK L p.2).map (·.1))).symm
theorem more_out {L M full : List ByteArray} {T1 T2 : List (ByteArray × ByteArray)} {a i : ByteArray} (h : (M ++ ((T1 ++ (a, i) :: T2).filter fun p => inK L p.2).map (·.1)).Perm full) (hi : inK L i = false) : (M ++ ((T1 ++ T2).filter fun p => inK L p.2).map (·.1)).Perm full := by
  rw [List.filter_append, List.filter_cons, if_neg (by rw [hi]; decide), ← List.filter_append] at h
  exact h
theorem own_src (w : World) (x : Value) (t : TypeId) : ∀ j u, ([x] : List Value)[j]? = some u → (w.alloc (.cells #[x] t)).cell? ((⟨w.heap.size, 0, none⟩ : Addr).add j) = some u := fun j u h => by
  have h1 := (Has.new w t #[x]).facts.1 j
  rw [Addr.add_mid, Nat.zero_add]
  rw [h1]; simpa using h
theorem one_str (s : ByteArray) : ∀ u ∈ ([.string s] : List Value), u.oneCell' = true := fun u h => by
  rw [List.mem_singleton] at h; subst h; rfl
theorem own_more {w : World} {base t : Nat} {v : Value} {M : List ByteArray} {nm : ByteArray} (h : w.ownsRow base t 1 v (M.length + 1) (M.map .string ++ [.string nm])) : w.ownsRow base t 1 v (M ++ [nm]).length ((M ++ [nm]).map .string) := by
  rw [List.length_append, List.map_append]; exact h
theorem nodup_fst : ∀ {R : List (ByteArray × ByteArray)} {p q : ByteArray × ByteArray}, (R.map (·.1)).Nodup → q ∈ R → p ∈ R → q.1 = p.1 → q = p
  | [], p, q, _, h, _, _ => by cases h
  | x :: R, p, q, hn, hq, hp, he => by
    rw [List.map_cons, List.nodup_cons] at hn
    rcases List.mem_cons.1 hq with rfl | hq2
    · rcases List.mem_cons.1 hp with rfl | hp2
      · rfl
      · exact absurd (List.mem_map.2 ⟨p, hp2, he.symm⟩) hn.1
    · rcases List.mem_cons.1 hp with rfl | hp2
      · exact absurd (List.mem_map.2 ⟨q, hq2, he⟩) hn.1
      · exact nodup_fst hn.2 hq2 hp2 he
theorem strF_row (M : List ByteArray) : slCells (M.length * 1) (strF M) = M.map Value.string := by
  apply List.ext_getElem?
  intro j
  by_cases hj : j < M.length
  · rw [slCells_get _ _ _ (by omega), List.getElem?_map, List.getElem?_eq_getElem hj]
    unfold strF
    rw [List.getD_eq_getElem?_getD, List.getElem?_eq_getElem hj]; rfl
  · rw [List.getElem?_eq_none (by rw [slCells_len]; omega), List.getElem?_eq_none (by rw [List.length_map]; omega)]
theorem len_split {α : Type} (p : α → Bool) : ∀ (R : List α), (R.filter p).length + (R.filter fun x => !p x).length = R.length
  | [] => rfl
  | x :: R => by
    have ih := len_split p R
    rw [List.filter_cons, List.filter_cons]
    cases h : p x <;> simp <;> omega
/-- One name less in the rest. -/
theorem rest_step {R : List (ByteArray × ByteArray)} {M : List ByteArray} {k : Nat} (hn : (R.map (·.1)).Nodup) (hk : k < M.length) :
    mdel (restM (R.filter fun p => !inK (M.take k) p.1)) (M.getD k eS) = restM (R.filter fun p => !inK (M.take (k + 1)) p.1) := by
  rw [restM_del (hn.sublist ((List.filter_sublist).map _)), List.filter_filter]
  congr 1
  apply List.filter_congr
  intro p _
  have hg : M.getD k eS = M[k] := by rw [List.getD_eq_getElem?_getD, List.getElem?_eq_getElem hk]; rfl
  rw [hg, List.take_succ_eq_append_getElem hk]
  unfold inK
  rw [List.any_append]
  simp only [List.any_cons, List.any_nil, Bool.or_false, Bool.not_or]
  rw [Bool.and_comm, show decide (M[k] = p.1) = decide (p.1 = M[k]) from by rw [Bool.eq_iff_iff, decide_eq_true_iff, decide_eq_true_iff]; exact ⟨Eq.symm, Eq.symm⟩]
theorem rest_all {R : List (ByteArray × ByteArray)} {M L : List ByteArray} (hn : (R.map (·.1)).Nodup) (hM : M.Perm ((R.filter fun p => inK L p.2).map (·.1))) :
    (R.filter fun p => !inK (M.take M.length) p.1) = R.filter fun p => !inK L p.2 := by
  rw [List.take_length]
  apply List.filter_congr
  intro p hp
  congr 1
  rw [Bool.eq_iff_iff, inK_iff, hM.mem_iff, List.mem_map]
  constructor
  · rintro ⟨q, hq, he⟩
    rw [List.mem_filter] at hq
    obtain rfl : q = p := nodup_fst hn hq.1 hp he
    exact hq.2
  · intro h
    exact ⟨p, List.mem_filter.2 ⟨hp, h⟩, rfl⟩
theorem own_below {w w' : World} {base t sz n B : Nat} {v : Value} {xs : List Value} (h : w.ownsRow base t sz v n xs) (hb : Below B w w') (hs : w.heap.size ≤ B) : w'.ownsRow base t sz v n xs := by
  refine ⟨h.1, ?_⟩
  rcases h.2 with h0 | ⟨g, cap, cur, h1, h2, h3, h4⟩
  · exact .inl h0
  · exact .inr ⟨g, cap, cur, h1, h2, (hb.block g (by have := (Array.getElem?_eq_some_iff.1 h3).1; omega)).trans h3, h4⟩
theorem own_low {w : World} {base base' t sz n : Nat} {v : Value} {xs : List Value} (h : w.ownsRow base t sz v n xs) (hb : base' ≤ base) : w.ownsRow base' t sz v n xs := by
  refine ⟨h.1, ?_⟩
  rcases h.2 with h0 | ⟨g, cap, cur, h1, h2, h3⟩
  · exact .inl h0
  · exact .inr ⟨g, cap, cur, h1, by omega, h3⟩
theorem own_app {w : World} {base t : Nat} {v : Value} {O M : List ByteArray} (h : w.ownsRow base t 1 v (O.length + M.length) (O.map .string ++ M.map .string)) : w.ownsRow base t 1 v (O ++ M).length ((O ++ M).map .string) := by
  rw [List.length_append, List.map_append]; exact h
theorem rowS_src {w : World} {A : Option Addr} {c : Nat} {M : List ByteArray} (h : Sl w (.slice A M.length c) M.length 1 (strF M)) : M.length = 0 ∨ ∃ ad, A = some ad ∧ ∀ j u, (M.map Value.string)[j]? = some u → w.cell? (ad.add j) = some u := by
  have := (sl_src h).2
  rw [strF_row] at this; exact this
theorem rowS_one (M : List ByteArray) : ∀ u ∈ M.map Value.string, u.oneCell' = true := fun u h => by
  obtain ⟨s, _, rfl⟩ := List.mem_map.1 h; rfl
theorem le_trI (a b c : List UInt8) (h1 : decide (a ≤ b) = true) (h2 : decide (b ≤ c) = true) : decide (a ≤ c) = true := by
  rw [decide_eq_true_iff] at *; exact List.le_trans h1 h2
theorem le_totI (a b : List UInt8) : (decide (a ≤ b) || decide (b ≤ a)) = true := by
  rw [Bool.or_eq_true, decide_eq_true_iff, decide_eq_true_iff]; exact List.le_total a b
theorem sort_perm {S T : List (List UInt8)} (h : S.Perm T) : (S.mergeSort fun x y => decide (x ≤ y)) = T.mergeSort fun x y => decide (x ≤ y) := by
  refine List.Perm.eq_of_pairwise (le := fun a b => decide (a ≤ b) = true) (fun a b _ _ h1 h2 => List.le_antisymm (of_decide_eq_true h1) (of_decide_eq_true h2)) (List.pairwise_mergeSort le_trI le_totI S) (List.pairwise_mergeSort le_trI le_totI T) ?_
  exact ((List.mergeSort_perm _ _).trans h).trans (List.mergeSort_perm _ _).symm
theorem map_ofL (S : List ByteArray) : ((sortL S).map ofL).map (fun s => s.data.toList) = sortL S := by
  rw [List.map_map]
  conv => rhs; rw [← List.map_id (sortL S)]
  apply List.map_congr_left
  intro x _
  exact toL_ofL x
theorem insL_of {l : List Pa} {a : ByteArray} {p : Pa} {O : List ByteArray} (hp : pfind l a = some p) (h : O.Perm (bfs (l.length + 1) ((fitted l).filter fun p => !decide (p.1 = a)) [a])) : ((sortL O).map ofL).map (fun s => s.data.toList) = insL l a := by
  rw [map_ofL]
  unfold insL sortL
  rw [hp]
  exact sort_perm (h.map _)
/-- Loop 2, one round more. -/
theorem rest_fuel {R : List (ByteArray × ByteArray)} {L M : List ByteArray} {f : Nat} (hM : M.Perm ((R.filter fun p => inK L p.2).map (·.1))) (hf : R.length < f) : ((R.filter fun p => !inK L p.2).length < f - 1 ∨ M.length = 0) ∧ M.length + (R.filter fun p => !inK L p.2).length = R.length := by
  have h1 := len_split (fun p : ByteArray × ByteArray => inK L p.2) R
  have h2 := hM.length_eq
  rw [List.length_map] at h2
  omega
theorem zero_strV (w : World) : (zeroValue 9).run Tryz.prog w = .ok (.string ⟨#[]⟩) w := by kernel_rfl
theorem next_key {l : List Pa} {R : List (ByteArray × ByteArray)} {t1 t2 : List (ByteArray × Value)} {a : ByteArray} {v : Value} {i : ByteArray} (hp : (R ++ (t1 ++ (a, v) :: t2).filterMap (entOf l)).Perm (fitted l)) (he : entOf l (a, v) = some (a, i)) :
    ¬ a ∈ R.map (·.1) ∧ ((R ++ [(a, i)]) ++ (t1 ++ t2).filterMap (entOf l)).Perm (fitted l) := by
  rw [List.filterMap_append, List.filterMap_cons, he] at hp
  have hp2 : ((R ++ [(a, i)]) ++ (t1 ++ t2).filterMap (entOf l)).Perm (fitted l) := by
    refine List.Perm.trans ?_ hp
    rw [List.filterMap_append, List.append_assoc]
    exact List.Perm.append_left R (List.perm_middle (a := (a, i)) (l₁ := t1.filterMap (entOf l)) (l₂ := t2.filterMap (entOf l))).symm
  refine ⟨fun hm => ?_, hp2⟩
  have hn := ((hp2.map (·.1)).nodup_iff).2 (fitted_nodup l)
  rw [List.map_append, List.map_append, List.nodup_append] at hn
  have h2 := hn.1
  rw [List.nodup_append] at h2
  exact h2.2.2 a hm a (by simp) rfl
theorem next_none {l : List Pa} {R : List (ByteArray × ByteArray)} {t1 t2 : List (ByteArray × Value)} {q : ByteArray × Value} (hp : (R ++ (t1 ++ q :: t2).filterMap (entOf l)).Perm (fitted l)) (he : entOf l q = none) : (R ++ (t1 ++ t2).filterMap (entOf l)).Perm (fitted l) := by
  rw [List.filterMap_append, List.filterMap_cons, he, ← List.filterMap_append] at hp
  exact hp
set_option maxRecDepth 100000 in
set_option maxHeartbeats 16000000 in
theorem inside_any (w0 : World) (v : Value) (l : List Pa) (a : ByteArray) (w : World) (hb0 : Below w0.heap.size w0 w) (hv : Sta w0 v l) (hl : l.length ≤ 20000) :
    Calls Tryz.prog 13 #[.agg #[v], .string a] w fun e w' => ∃ v' ss, e = .returned v' ∧ Sl w' v' ss.length 1 (strF ss) ∧ ss.map (fun s => s.data.toList) = insL l a ∧ Below w.heap.size w w' := by
  obtain ⟨A, cs0, rfl, hn0⟩ := Rd.form hv
  have hmm := @run_makeMap Tryz.prog
  have HB0 := Lib.hid hb0
  have hsz0 := hb0.size
  have HV := Lib.hid hv
  have HOF := Lib.hid (fun W (h : Below w0.heap.size w0 W) => of_any w0 _ l W h hv (by omega))
  have HB1 := Lib.hid ((Below.refl w.heap.size w).alloc (Nat.le_refl _) (.cells #[.slice A l.length cs0] 24))
  clear hb0 hv
  rcases pfind_idx l a with ⟨hpf, hga⟩ | ⟨ka, hka, hpf, hga⟩
  · have HPF := Lib.hid hpf
    have HGA := Lib.hid hga
    clear hpf hga
    go_enter Tryz.func13, Tryz.ntmps13
    go_wp2_with (go_at_call 30; refine (HOF.out _ (HB0.out.trans (HB1.out.mono hsz0))).mono ?_; rintro e w3 ⟨gi, rfl, hM3, hgi, hb3⟩; have hgil := hM3.lt; have HM3 := Lib.hid (hM3.alloc (.cells #[.slice A l.length cs0, .map (some gi)] 69)); have hY3 := Has.new w3 69 #[.slice A l.length cs0, .map (some gi)]; have z3 := hb3.size; simp only [World.size_alloc] at z3; obtain ⟨y1, y2⟩ := hY3.facts; have HY3 := Lib.hid hY3; have HB3 := Lib.hid ((HB1.out.trans (hb3.mono (by simp))).alloc (by omega) (.cells #[.slice A l.length cs0, .map (some gi)] 69)); have hL := run_look str_keying Tryz.underlying67 HM3.out a (zero_intV _) true; rw [HGA.out] at hL; clear hb3 hM3 hY3)
    go_ret
    refine ⟨_, [], rfl, ⟨_, _, rfl, Nat.le_refl _, .inl rfl⟩, ?_, HB3.out⟩
    unfold insL; rw [HPF.out]; rfl
  · have HPF := Lib.hid hpf
    have HGA := Lib.hid hga
    clear hpf hga
    go_enter Tryz.func13, Tryz.ntmps13
    have hrr : ∀ W g, Mp W Value.string g (idxM l l.length) → ∃ o, (Instr.range 67 (.map (some g))).run Tryz.prog W = .ok (.pointer (some ⟨W.heap.size, 0, none⟩)) (W.alloc o) ∧ Rg (W.alloc o) Value.string g W.heap.size (idxM l l.length) (idxM l l.length) := fun W g h => run_rg (P := Tryz.prog) Tryz.underlying67 h
    have HRR := Lib.hid hrr
    clear hrr
    go_wp2_with (go_at_call 30; refine (HOF.out _ (HB0.out.trans (HB1.out.mono hsz0))).mono ?_; rintro e w3 ⟨gi, rfl, hM3, hgi, hb3⟩; have hgil := hM3.lt; have HM3 := Lib.hid (hM3.alloc (.cells #[.slice A l.length cs0, .map (some gi)] 69)); have hY3 := Has.new w3 69 #[.slice A l.length cs0, .map (some gi)]; have z3 := hb3.size; simp only [World.size_alloc] at z3; obtain ⟨y1, y2⟩ := hY3.facts; have HY3 := Lib.hid hY3; have HB3 := Lib.hid ((HB1.out.trans (hb3.mono (by simp))).alloc (by omega) (.cells #[.slice A l.length cs0, .map (some gi)] 69)); have hL := run_look str_keying Tryz.underlying67 HM3.out a (zero_intV _) true; rw [HGA.out] at hL; obtain ⟨o1, hr1, hR1⟩ := HRR.out _ _ ((HM3.out.alloc (.map #[] 0))); simp only [World.size_alloc] at hr1 hR1; obtain ⟨y3, y4⟩ := (hY3.alloc (.map #[] 0)).facts; have HR1 := Lib.hid hR1; have HG1 : Hid (Mp ((w3.alloc (.cells #[.slice A l.length cs0, .map (some gi)] 69)).alloc (.map #[] 0)) Value.string (w3.heap.size + 1) []) := (by have h := Mp.new (w3.alloc (.cells #[.slice A l.length cs0, .map (some gi)] 69)) Value.string; simp only [World.size_alloc] at h; exact h); clear hb3 hM3 hY3 hR1)
    have hgr1 : w3.heap.size + 1 < w3.heap.size + 1 + 1 := by omega
    go_loopw [9] (fun _ wr => ∃ (todo : List (ByteArray × Value)) (R : List (ByteArray × ByteArray)), Hid (Rg wr Value.string gi (w3.heap.size + 1 + 1) (idxM l l.length) todo) ∧ Hid (Mp wr Value.string (w3.heap.size + 1) (restM R)) ∧ Hid ((R ++ todo.filterMap (entOf l)).Perm (fitted l)) ∧ Hid (∀ q ∈ todo, ∃ i : Nat, i < l.length ∧ q = ((l.getD i noPa).name, Value.int .i64 (i : Int))) ∧ Hid (Has wr w3.heap.size 69 #[.slice A l.length cs0, .map (some gi)]) ∧ Hid (Below w.heap.size w wr) ∧ w3.heap.size + 3 ≤ wr.heap.size) (fun _ wr => lft wr gi (w3.heap.size + 1 + 1))
    case atStart =>
      exact ⟨idxM l l.length, [], HR1.out, HG1.out.alloc o1, by show ([] ++ _ : List _).Perm _; rw [List.nil_append, fitted_idx], idxM_mem l l.length (Nat.le_refl _), (HY3.out.alloc _).alloc _, (HB3.out.alloc (by have := HB3.out.size; omega) _).alloc (by have := HB3.out.size; simp; omega) _, by simp⟩
    case round =>
      obtain ⟨todo, R, HRg, HMp, HPm, HMm, HY, HB, hz⟩ := hrel
      obtain ⟨y5, y6⟩ := HY.out.facts
      rcases run_nx (P := Tryz.prog) HRg.out with ⟨h0, hnx⟩ | ⟨nm, vv, t1, t2, w5, ht, hnx, hen, hRg5, hg5, hs5⟩
      · subst h0
        have HP0 := Lib.hid (show R.Perm (fitted l) by have := HPm.out; simpa using this)
        have HND := Lib.hid (show (R.map (·.1)).Nodup from ((HP0.out.map (·.1)).nodup_iff).2 (fitted_nodup l))
        obtain ⟨w6, hd6, hM6, hG6, hS6⟩ := run_del (T2 := 9) (ty := 0) str_keying Tryz.underlying75 HMp.out a
        rw [restM_del HND.out] at hM6
        obtain ⟨R1, hR1⟩ : ∃ R1, R1 = R.filter fun p => !decide (p.1 = a) := ⟨_, rfl⟩
        rw [← hR1] at hM6
        have HP1 := Lib.hid (show R1.Perm ((fitted l).filter fun p => !decide (p.1 = a)) by rw [hR1]; exact HP0.out.filter _)
        have HN1 := Lib.hid (show (R1.map (·.1)).Nodup by rw [hR1]; exact HND.out.sublist ((List.filter_sublist).map _))
        have HM6 := Lib.hid hM6
        have HB6 := Lib.hid (HB.out.grown hG6 (by have := HB.out.size; omega) (fun j hj => by cases hj; omega))
        have HS6 := Lib.hid hS6
        have HFL : Hid ((fitted l).length ≤ l.length) := by
          show (fitted l).length ≤ l.length
          unfold fitted
          rw [List.length_map]
          exact Nat.le_trans (List.length_filter_le _ _) (by simp)
        have HRL := Lib.hid (show R1.length ≤ l.length by
          have h1 := HP1.out.length_eq
          have h2 := List.length_filter_le (fun p : ByteArray × ByteArray => !decide (p.1 = a)) (fitted l)
          have h3 := HFL.out
          omega)
        clear hM6 hG6 hS6 hR1 HMp HRg HPm HMm HY HP0 HND
        go_wp2_with ((with_reducible show wpList _ _ _ (Oper.mk none (Op.call _) _ _ _ _ :: _) _ _); refine wpList_del rfl (.tmp 50) (.tmp 51) 75 9 rfl _ _ rfl rfl hd6 ?_)
        have HLI : Hid ((w6.alloc (.cells #[.string a] 9)).ownsRow w6.heap.size 9 1 (.slice (some ⟨w6.heap.size, 0, none⟩) 1 1) ([a] : List ByteArray).length (([a] : List ByteArray).map Value.string)) :=
          ⟨rfl, .inr ⟨w6.heap.size, 1, #[.string a], rfl, Nat.le_refl _, Has.new w6 _ _, Nat.le_refl _, by unfold maxLen; omega, rfl, rfl⟩⟩
        have hgr6 : w3.heap.size + 1 < w6.heap.size := by have := HS6.out; omega
        have hw6 : w.heap.size ≤ w6.heap.size := HB6.out.size
        obtain ⟨full, hfull⟩ : ∃ full, full = bfs (l.length + 1) R1 [a] := ⟨_, rfl⟩
        have HFU := Lib.hid hfull
        go_loopw [12, 13] (fun out lst wr => ∃ (R : List (ByteArray × ByteArray)) (L O : List ByteArray) (f : Nat), Hid (Mp wr Value.string (w3.heap.size + 1) (restM R)) ∧ Hid ((R.map (·.1)).Nodup) ∧ Hid (wr.ownsRow w6.heap.size 9 1 lst L.length (L.map Value.string)) ∧ Hid (wr.ownsRow w6.heap.size 9 1 out O.length (O.map Value.string)) ∧ Hid ((O ++ bfs f R L).Perm full) ∧ Hid (R.length < f ∨ L.length = 0) ∧ Hid (O.length + R.length ≤ l.length) ∧ L.length ≤ l.length + 1 ∧ Hid (Below w.heap.size w wr) ∧ w6.heap.size ≤ wr.heap.size) (fun _ lst wr => 2 * msize wr (w3.heap.size + 1) + oneV lst)
        case atStart =>
          exact ⟨R1, [a], [], l.length + 1, HM6.out.alloc _, HN1.out, HLI.out, World.ownsRow_nil _ _ _ _, by rw [HFU.out]; exact List.Perm.refl _, .inl (by have := HRL.out; omega), Lib.hid (by have := HRL.out; simpa using this), by simp, HB6.out.alloc HB6.out.size _, by simp⟩
        case round =>
          obtain ⟨R, L, O, f, HMp, HND, HLST, HOUT, HPM, HF, HOR, hLl, HB2, hz2⟩ := hrel
          clear HB HLI
          by_cases hL0 : L.length = 0
          · have hLn : L = [] := List.eq_nil_of_length_eq_zero hL0
            have HPO := Lib.hid (show O.Perm full by have h := HPM.out; rw [hLn, bfs_nil] at h; simpa using h)
            have HOL := Lib.hid (show O.length ≤ 100000 by have := HOR.out; omega)
            obtain ⟨A8, c8, hm8, hn8, _⟩ := str_ownI HLST.out
            subst hm8
            subst hLn
            have HSO := Lib.hid (fun (W : World) h1 h2 => sort_own u12 O W w6.heap.size h1 HOL.out h2)
            go_wp2_with (go_at_call 34; refine (HSO.out _ HOUT.out hz2).mono ?_; rintro e ws ⟨rfl, hsl, hbs⟩; have HSL := Lib.hid hsl; have HBS := Lib.hid hbs; clear hsl hbs)
            go_ret
            refine ⟨_, (sortL O).map ofL, rfl, ?_, insL_of HPF.out (HPO.out.trans (by rw [HFU.out]; exact bfs_perm _ _ HP1.out)), HB2.out.trans (HBS.out.mono hw6)⟩
            have e : ((sortL O).map ofL).length = O.length := by rw [List.length_map, sortL_len]
            rw [e]; exact HSL.out
          · rcases HLST.out.2 with ⟨_, h0⟩ | ⟨gL, capL, curL, rfl, hgb, hgh, hgn, hgm, hgs, hgt⟩
            · omega
            have hLpos : (0 : Int) < (L.length : Int) := by omega
            have hLd : decide ((0 : Int) < (L.length : Int)) = true := by simp only [decide_eq_true_eq]; omega
            have hLd2 : decide (0 < L.length) = true := by simp only [decide_eq_true_eq]; omega
            obtain ⟨W2, rfl⟩ : ∃ W2, W2 = wr := ⟨_, rfl⟩
            have HSL := Lib.hid (str_ownI HLST.out)
            obtain ⟨o2, hr2, hR2⟩ := run_rg (P := Tryz.prog) Tryz.underlying75 HMp.out
            have HR2 := Lib.hid hR2
            obtain ⟨i0, hi, hz0, hq1, hq2⟩ := info_parts info_strI
            have hI := Lib.hid hi
            have hZ := Lib.hid hz0
            have hgL : gL < W2.heap.size := (HLST.out.lt gL rfl).2
            obtain ⟨lvl, hlvl⟩ : ∃ lvl, lvl = (R.filter fun p => inK L p.2).map (·.1) := ⟨_, rfl⟩
            have HLV := Lib.hid hlvl
            clear hR2 hi hz0 hgh hgs hgt
            go_wp2_with fail
            go_loopw [15, 14] (fun _ more wr => ∃ (T : List (ByteArray × ByteArray)) (M : List ByteArray), Hid (Rg wr Value.string (w3.heap.size + 1) W2.heap.size (restM R) (restM T)) ∧ Hid ((M ++ (T.filter fun p => inK L p.2).map (·.1)).Perm lvl) ∧ Hid (wr.ownsRow (W2.heap.size + 1) 9 1 more M.length (M.map Value.string)) ∧ Hid (Below W2.heap.size W2 wr) ∧ W2.heap.size + 1 ≤ wr.heap.size ∧ Hid (M.length + T.length ≤ R.length)) (fun _ _ wr => lft wr (w3.heap.size + 1) W2.heap.size)
            case atStart =>
              exact ⟨R, [], HR2.out, by rw [HLV.out]; exact List.Perm.refl _, World.ownsRow_nil _ _ _ _, (Below.refl _ _).alloc (Nat.le_refl _) _, by simp, Lib.hid (by simp)⟩
            case round =>
              obtain ⟨T, M, HRg, HPm, HMO, HBB, hz7, HLn⟩ := hrel
              rcases run_nx (P := Tryz.prog) HRg.out with ⟨h0, hnx⟩ | ⟨nm, vv, t1, t2, w7, ht, hnx, hen, hRg7, hg7, hs7⟩
              · have hT : T = [] := by unfold restM at h0; exact List.map_eq_nil_iff.1 h0
                subst hT
                have HPL := Lib.hid (show M.Perm ((R.filter fun p => inK L p.2).map (·.1)) by have h := HPm.out; rw [HLV.out] at h; simpa using h)
                have hMl : M.length ≤ 20000 := by have h1 := HLn.out; have h2 := HOR.out; simp at h1; omega
                have hOl : O.length + M.length ≤ 20000 := by have h1 := HLn.out; have h2 := HOR.out; simp at h1; omega
                obtain ⟨A7, c7, hm7, hn7, _⟩ := str_ownI HMO.out
                subst hm7
                have HMP4 : Hid (Mp wr Value.string (w3.heap.size + 1) (restM (R.filter fun p => !inK (M.take 0) p.1))) := by
                  show Mp wr Value.string (w3.heap.size + 1) (restM (R.filter fun p => !inK (M.take 0) p.1))
                  rw [List.filter_eq_self.2 (fun p _ => by simp [inK])]
                  exact HRg.out.mp
                have HOU4 := Lib.hid (own_below HOUT.out HBB.out (Nat.le_refl _))
                have hlo := Lib.hid (fun k hk => (HOUT.out.lt k hk).2)
                have HB4 := Lib.hid (HB2.out.trans (HBB.out.mono HB2.out.size))
                clear HRg HPm HBB
                go_wp2_with fail
                go_loopw [73] (fun i w4 => ∃ k : Nat, k ≤ M.length ∧ i = .int .i64 k ∧ Hid (Mp w4 Value.string (w3.heap.size + 1) (restM (R.filter fun p => !inK (M.take k) p.1))) ∧ Hid (w4.ownsRow (W2.heap.size + 1) 9 1 (.slice A7 M.length c7) M.length (M.map Value.string)) ∧ Hid (w4.ownsRow w6.heap.size 9 1 u12 O.length (O.map Value.string)) ∧ Hid (Below w.heap.size w w4) ∧ W2.heap.size + 1 ≤ w4.heap.size) (fun i _ => M.length - (intOf i).toNat)
                case atStart => exact ⟨0, Nat.zero_le _, rfl, HMP4.out, HMO.out, HOU4.out, HB4.out, hz7⟩
                case round =>
                  obtain ⟨k, hk, rfl, HM5, HO5, HU5, HB5, hz5⟩ := hrel
                  clear HMP4 HOU4 HB4 HMO
                  obtain ⟨w4, rfl⟩ : ∃ w4, w4 = wr := ⟨_, rfl⟩
                  by_cases hlt : k < M.length
                  · rcases HO5.out.2 with ⟨he, h0⟩ | ⟨g5, cap5, cur5, he, hgb5, hgh5, hgn5, hgm5, hgs5, hgt5⟩
                    · omega
                    injection he with e1 e2 e3
                    subst e1; subst e3
                    have hcell : w4.cell? ⟨g5, k, none⟩ = some (.string (M.getD k eS)) := by
                      rw [cell_of_row w4 g5 k cur5 _ (0, 0) hgh5]
                      have h1 : (M.map Value.string)[k]? = some (.string (M.getD k eS)) := by
                        rw [List.getElem?_map, List.getD_eq_getElem?_getD, List.getElem?_eq_getElem hlt]; rfl
                      rw [← hgt5, List.getElem?_take, if_pos (by omega)] at h1
                      simpa using h1
                    have hki : (k : Int) < (M.length : Int) := by omega
                    have HST4 := Lib.hid (rest_step HND.out hlt)
                    generalize M.getD k eS = nm5 at *
                    obtain ⟨w5, hd5, hM5, hG5, hS5⟩ := run_del (T2 := 9) (ty := 0) str_keying Tryz.underlying75 HM5.out nm5
                    rw [HST4.out] at hM5
                    have HM6 := Lib.hid hM5
                    have HG6 := Lib.hid hG5
                    have HS6' := Lib.hid hS5
                    clear hM5 hG5 hS5 hgh5 hgt5 hgs5
                    go_wp2_with ((with_reducible show wpList _ _ _ (Oper.mk none (Op.call _) _ _ _ _ :: _) _ _); refine wpList_del rfl (.tmp 77) (.tmp 78) 75 9 rfl _ _ rfl rfl hd5 ?_)
                    go_roundw
                    case rel => exact ⟨k + 1, hlt, rfl, HM6.out, World.ownsRow.kept HO5.out HG6.out (.inr fun e => by have := (HO5.out.lt _ e).1; omega), World.ownsRow.kept HU5.out HG6.out (.inr fun e => by have := (HU5.out.lt _ e).1; omega), HB5.out.grown HG6.out HB5.out.size (fun j hj => by cases hj; omega), by have := HS6'.out; omega⟩
                    case measure => simp [intOf]; omega
                  · have hkM : k = M.length := by omega
                    subst hkM
                    obtain ⟨hfu, hln⟩ := rest_fuel HPL.out (by rcases HF.out with h | h; exact h; omega)
                    have HFU2 := Lib.hid hfu
                    have HLN := Lib.hid hln
                    have HMP5 : Hid (Mp w4 Value.string (w3.heap.size + 1) (restM (R.filter fun p => !inK L p.2))) := by
                      show Mp w4 Value.string (w3.heap.size + 1) (restM (R.filter fun p => !inK L p.2))
                      rw [← rest_all HND.out HPL.out]; exact HM5.out
                    have HMS := Lib.hid HMp.out.msize
                    clear hfu hln HM5
                    go_wp2_with (at_builtin; refine wpList_app rfl (.tmp 80) (.tmp 81) 39 rfl w6.heap.size 9 i0 (.string ⟨#[]⟩) 1 16 Tryz.underlying39 hI.out hZ.out hq1 hq2 rfl (by decide) _ O.length (O.map .string) rfl HU5.out A7 M.length c7 (M.map .string) rfl (by simp) (rowS_src (str_ownI HO5.out)) (rowS_one _) (by unfold maxLen; omega) (by omega) (by omega) ?_; intro v9 w9 hown9 hg9; have HO9 := Lib.hid hown9; have HG9 := Lib.hid hg9; clear hown9 hg9)
                    have HMP9 := Lib.hid (HMP5.out.grown HG9.out (fun h => by have := (HU5.out.lt _ h.symm).1; omega))
                    have hne : (Value.slice A7 M.length c7).ownBlock = none ∨ (Value.slice A7 M.length c7).ownBlock ≠ u12.ownBlock := by
                      cases A7 with
                      | none => exact .inl rfl
                      | some ad =>
                        right
                        intro e
                        have h1 := (HO5.out.lt ad.block rfl).1
                        have h2 := hlo.out ad.block e.symm
                        omega
                    go_roundw
                    case rel => exact ⟨R.filter fun p => !inK L p.2, M, O ++ M, f - 1, HMP9.out, HND.out.sublist ((List.filter_sublist).map _), own_low (World.ownsRow.kept HO5.out HG9.out hne) (by omega), own_app HO9.out, bfs_step (f := f - 1) (by have h := HPM.out; rwa [show f - 1 + 1 = f by rcases HF.out with h | h <;> omega]) HPL.out, HFU2.out, Lib.hid (by have := HLN.out; have := HOR.out; simp; omega), by have h1 := HLN.out; have h2 := HOR.out; omega, HB5.out.grown HG9.out HB5.out.size (fun j hj => Nat.le_trans hw6 (HU5.out.lt j hj).1), Nat.le_trans (Nat.le_trans hz2 (by omega : W2.heap.size ≤ w4.heap.size)) HG9.out.size⟩
                    case measure =>
                      rw [HMP9.out.msize, HMS.out]
                      have h := HLN.out
                      unfold restM
                      simp only [List.length_map]
                      rw [oneV_slice, oneV_slice, if_neg hL0]
                      by_cases hM0 : M.length = 0
                      · rw [if_pos hM0]; omega
                      · rw [if_neg hM0]; omega
              · obtain ⟨T1, it, T2, rfl, rfl, hTT⟩ := rest_next ht
                have HLT := Lib.hid HRg.out.left
                have HSL7 := Lib.hid ((HSL.out.below HBB.out))
                have hB7 := HBB.out.grown hg7 HBB.out.size (fun j hj => by cases hj; omega)
                have HB7 := Lib.hid hB7
                have HMO7 := Lib.hid (World.ownsRow.kept HMO.out hg7 (by
                  rcases HMO.out.2 with ⟨h, _⟩ | ⟨g, cap, cur, h, hb, _⟩
                  · exact .inl (by rw [h]; rfl)
                  · right; rw [h]; intro e; have e1 : g = W2.heap.size := Option.some.inj e; omega))
                rw [← hTT] at hRg7
                have HRG7 := Lib.hid hRg7
                have HS7 := Lib.hid hs7
                have HPM7 := Lib.hid HPm.out
                clear hB7 hRg7 hs7 hg7 HRg HPm ht hTT HSL7
                cases hik : inK L it
                · have HIK := Lib.hid hik
                  clear hik
                  go_wp2_with (go_at_call 33; refine (hasStr_any _ L it _ (HSL.out.below HB7.out) (by omega)).mono ?_; rintro e w8 ⟨rfl, rfl⟩; rw [show hasB L it = false from HIK.out])
                  go_roundw
                  case rel => exact ⟨T1 ++ T2, M, HRG7.out, more_out HPM7.out HIK.out, HMO7.out, HB7.out, by have := HS7.out; omega, Lib.hid (by have := HLn.out; simp at this ⊢; omega)⟩
                  case measure =>
                    rw [HLT.out, HRG7.out.left]
                    unfold restM; simp
                · have HIK := Lib.hid hik
                  clear hik
                  have hMl : M.length ≤ 20000 := by have h1 := HLn.out; have h2 := HOR.out; omega
                  go_wp2_with (first | (go_at_call 33; refine (hasStr_any _ L it _ (HSL.out.below HB7.out) (by omega)).mono ?_; rintro e w8 ⟨rfl, rfl⟩; rw [show hasB L it = true from HIK.out]) | (at_builtin; refine wpList_app rfl (.tmp 67) (.tmp 69) 39 rfl (W2.heap.size + 1) 9 i0 (.string ⟨#[]⟩) 1 16 Tryz.underlying39 hI.out hZ.out hq1 hq2 rfl (by decide) _ M.length (M.map .string) rfl (HMO7.out.alloc _) (some ⟨w8.heap.size, 0, none⟩) 1 1 [.string nm] rfl rfl (.inr ⟨_, rfl, own_src _ _ _⟩) (one_str _) (by unfold maxLen; omega) (by omega) (by have := HS7.out; simp; omega) ?_; intro v9 w9 hown9 hg9; have HO9 := Lib.hid hown9; have HG9 := Lib.hid hg9; clear hown9 hg9))
                  have hlt9 := Lib.hid ((HMO7.out.alloc (.cells #[.string nm] 9)).lt)
                  have HB9 := Lib.hid ((HB7.out.alloc HB7.out.size (.cells #[.string nm] 9)).grown HG9.out (by have := HS7.out; simp; omega) (fun j hj => by have := (hlt9.out j hj).1; omega))
                  have HR9 := Lib.hid ((HRG7.out.below ((Below.refl w8.heap.size w8).alloc (Nat.le_refl _) (.cells #[.string nm] 9)) HRG7.out.mp.lt HRG7.out.ltr).grown HG9.out (fun h => by have := (hlt9.out _ h.symm).1; omega) (fun h => by have := (hlt9.out _ h.symm).1; omega))
                  go_roundw
                  case rel => exact ⟨T1 ++ T2, M ++ [nm], HR9.out, more_in HPM7.out HIK.out, own_more HO9.out, HB9.out, by have h1 := HG9.out.size; have := HS7.out; simp at h1; omega, Lib.hid (by have := HLn.out; simp at this ⊢; omega)⟩
                  case measure =>
                    rw [HLT.out, HR9.out.left]
                    unfold restM; simp
      · subst ht
        obtain ⟨i, hi, hq⟩ := HMm.out (nm, vv) (by simp)
        injection hq with hq1 hq2
        subst hq2
        obtain ⟨b, o, c', cs, he, _, ⟨sv, rfl, hsv⟩, _, hrg⟩ := HV.out.get hi noPa
        injection he with e1 e2 e3
        subst e1; subst e3
        have hB5 := HB.out.grown hg5 (by have := HB3.out.size; omega) (fun j hj => by cases hj; have := HB3.out.size; omega)
        have hrg5 := range_later hrg (HB0.out.trans (hB5.mono hsz0))
        have hcell : w5.cell? ⟨b, o + i * 14 + 2, none⟩ = some (.string (l.getD i noPa).into) := hrg5 2 _ rfl
        have hent : entOf l (nm, .int .i64 (i : Int)) = if (l.getD i noPa).into = eS then none else some (nm, (l.getD i noPa).into) := by unfold entOf; simp only [Int.toNat_natCast]
        obtain ⟨y7, y8⟩ := (HY.out.grown hg5 (fun h => by have := Option.some.inj h; omega)).facts
        have HY5 := Lib.hid (HY.out.grown hg5 (fun h => by have := Option.some.inj h; omega))
        have HM5 := Lib.hid (HMp.out.grown hg5 (fun h => by have := Option.some.inj h; omega))
        have HRG5 := Lib.hid hRg5
        have HB5 := Lib.hid hB5
        have HS5 := Lib.hid hs5
        have HMM := Lib.hid (show ∀ q ∈ t1 ++ t2, ∃ i : Nat, i < l.length ∧ q = ((l.getD i noPa).name, Value.int .i64 (i : Int)) from fun q hq => HMm.out q (by rw [List.mem_append] at hq ⊢; rcases hq with h | h; exact .inl h; exact .inr (by simp [h])))
        have HLT : Hid (lft wr gi (w3.heap.size + 1 + 1) = (t1 ++ (nm, Value.int .i64 (i : Int)) :: t2).length) := HRg.out.left
        have HPM := Lib.hid (show (R ++ (t1 ++ (nm, Value.int .i64 (i : Int)) :: t2).filterMap (entOf l)).Perm (fitted l) from HPm.out)
        clear hrg hsv hrg5 hB5 hRg5 HRg HMm HPm
        generalize (l.getD i noPa).into = it at *
        have HEN := Lib.hid hent
        clear hent hq1
        have hie := emp_iff it
        have hi2 : (i : Int) < (l.length : Int) := by omega
        cases hemp : it.toList.isEmpty
        · have HI : Hid (¬ it = eS) := fun e => by rw [hemp, decide_eq_true e] at hie; cases hie
          clear hie
          obtain ⟨hnk, hp2⟩ := next_key HPM.out (by rw [HEN.out, if_neg HI.out])
          obtain ⟨w6, hp6, hM6, hG6, hS6⟩ := run_put str_keying Tryz.underlying75 HM5.out nm (.string it)
          rw [restM_put hnk] at hM6
          have HM6 := Lib.hid hM6
          have HG6 := Lib.hid hG6
          have HS6 := Lib.hid hS6
          have HP2 := Lib.hid hp2
          clear hM6 hG6 hS6 hp2 hnk hs5 hg5
          go_wp2_with fail
          go_roundw
          case rel => exact ⟨t1 ++ t2, R ++ [(nm, it)], HRG5.out.grown HG6.out (fun h => by have := Option.some.inj h; omega) (fun h => by have := Option.some.inj h; omega), HM6.out, HP2.out, HMM.out, HY5.out.grown HG6.out (fun h => by have := Option.some.inj h; omega), HB5.out.grown HG6.out HB5.out.size (fun j hj => by cases hj; omega), by have := HS6.out; have := HS5.out; omega⟩
          case measure =>
            rw [HLT.out, (HRG5.out.grown HG6.out (fun h => by have := Option.some.inj h; omega) (fun h => by have := Option.some.inj h; omega)).left]
            simp
        · have HI : Hid (it = eS) := by show it = eS; rw [hemp] at hie; exact of_decide_eq_true hie.symm
          clear hie
          have HP2 := Lib.hid (next_none HPM.out (by rw [HEN.out, if_pos HI.out]))
          clear hs5 hg5
          go_wp2_with fail
          go_roundw
          case rel => exact ⟨t1 ++ t2, R, HRG5.out, HM5.out, HP2.out, HMM.out, HY5.out, HB5.out, by have := HS5.out; omega⟩
          case measure =>
            rw [HLT.out, HRG5.out.left]
            simp
end Go.Proofs.YtccnocgmikmonaaGreatDoor
