/- bogieref09.Same: are two lists of events equal? -/
import Derived.Test.YtmbalkebdmdmaaaDoorRep4
import Derived.Deep.QuietTactic
import Derived.BigQuiet
namespace Go.Proofs.YtmbalkebdmdmaaaDoor
open Go Go.RowKit
theorem range_facts {w : World} {b o : Nat} {e : Ev} (h : w.rangeAt b o e.cells.toList) :
    w.cell? ⟨b, o, none⟩ = some (.int .i64 e.op) ∧ w.cell? ⟨b, o + 1, none⟩ = some (.int .i64 e.day) ∧ w.cell? ⟨b, o + 2, none⟩ = some (.string e.part) ∧ w.cell? ⟨b, o + 3, none⟩ = some (.string e.kind) ∧
    w.cell? ⟨b, o + 4, none⟩ = some (.string e.into) ∧ w.cell? ⟨b, o + 5, none⟩ = some (.string e.slot) ∧ w.cell? ⟨b, o + 6, none⟩ = some (.string e.key) ∧ w.cell? ⟨b, o + 7, none⟩ = some (.string e.value) ∧
    w.cell? ⟨b, o + 8, none⟩ = some (.int .i64 e.kl) ∧ w.cell? ⟨b, o + 9, none⟩ = some (.int .i64 e.kh) ∧ w.cell? ⟨b, o + 10, none⟩ = some (.int .i64 e.cl) ∧ w.cell? ⟨b, o + 11, none⟩ = some (.int .i64 e.ch) ∧
    w.cell? ⟨b, o + 12, none⟩ = some (.int .i64 e.ll) ∧ w.cell? ⟨b, o + 13, none⟩ = some (.int .i64 e.lh) :=
  ⟨h 0 _ rfl, h 1 _ rfl, h 2 _ rfl, h 3 _ rfl, h 4 _ rfl, h 5 _ rfl, h 6 _ rfl, h 7 _ rfl, h 8 _ rfl, h 9 _ rfl, h 10 _ rfl, h 11 _ rfl, h 12 _ rfl, h 13 _ rfl⟩
theorem evEq_self (e : Ev) : evEq e e = true := by simp [evEq]
def sameB (l m : List Ev) : Bool := decide (l = m)
theorem sameB_bad {l m : List Ev} {k : Nat} (_h1 : k < l.length) (h2 : k < m.length) (h : evEq (l.getD k noEv) (m.getD k noEv) = false) : sameB l m = false := by
  refine decide_eq_false fun e => ?_
  subst e
  rw [evEq_self] at h; cases h
theorem sameB_len {l m : List Ev} (h : l.length ≠ m.length) : sameB l m = false := decide_eq_false fun e => h (by rw [e])
theorem sameB_end {l m : List Ev} (hl : l.length = m.length) (h : ∀ j, j < l.length → evEq (l.getD j noEv) (m.getD j noEv) = true) : sameB l m = true := by
  refine decide_eq_true ?_
  apply List.ext_getElem? 
  intro j
  by_cases hj : j < l.length
  · have := of_decide_eq_true (h j hj)
    rw [List.getD_eq_getElem?_getD, List.getD_eq_getElem?_getD, List.getElem?_eq_getElem hj, List.getElem?_eq_getElem (by omega)] at this
    rw [List.getElem?_eq_getElem hj, List.getElem?_eq_getElem (by omega)]
    simpa using this
  · rw [List.getElem?_eq_none (by omega), List.getElem?_eq_none (by omega)]

set_option maxRecDepth 100000 in
set_option maxHeartbeats 4000000 in
theorem same_any (v u : Value) (l m : List Ev) (w : World) (hv : Sl w v l.length 14 (evF l)) (hu : Sl w u m.length 14 (evF m)) (hl : l.length ≤ 1000000) (_hm : m.length ≤ 1000000) :
    Calls Tryd.prog 14 #[v, u] w fun r w' => r = .returned (.bool (sameB l m)) ∧ Below w.heap.size w w' := by
  obtain ⟨A, c, rfl, hn, hc⟩ := hv
  obtain ⟨A', c', rfl, hn', hc'⟩ := hu
  by_cases hlm : l.length = m.length
  · have hb0 : ((l.length : Int) != (m.length : Int)) = false := by simp; omega
    have HLM := Lib.hid hlm
    have HC := Lib.hid hc
    have HC' := Lib.hid hc'
    clear hc hc' hlm
    go_enter Tryd.func14, Tryd.ntmps14
    go_wp2_with fail
    go_loopw [5] (fun i wr => ∃ k : Nat, k ≤ l.length ∧ i = .int .i64 k ∧ Hid (∀ j, j < k → evEq (l.getD j noEv) (m.getD j noEv) = true) ∧ Below w.heap.size w wr) (fun i _ => l.length - (intOf i).toNat)
    case atStart => exact ⟨0, Nat.zero_le _, rfl, fun j hj => absurd hj (by omega), Below.refl _ _⟩
    case round =>
      obtain ⟨k, hk, rfl, hrel, hB⟩ := hrel
      have HB := Lib.hid hB
      clear hB
      by_cases hlt : k < l.length
      · have hkm : k < m.length := by have := HLM.out; omega
        rcases HC.out with h0 | ⟨b, o, rfl, hc⟩
        · omega
        rcases HC'.out with h0 | ⟨b', o', rfl, hc'⟩
        · omega
        have hrg : wr.rangeAt b (o + k * 14) (l.getD k noEv).cells.toList := ev_range (fun j hj => cell_later HB.out (hc j hj)) hlt
        have hrg' : wr.rangeAt b' (o' + k * 14) (m.getD k noEv).cells.toList := ev_range (fun j hj => cell_later HB.out (hc' j hj)) hkm
        have hbad := Lib.hid (fun h => sameB_bad hlt hkm h)
        have HR : Hid (evEq (l.getD k noEv) (m.getD k noEv) = true → ∀ j, j < k + 1 → evEq (l.getD j noEv) (m.getD j noEv) = true) := fun h j hj => by
          rcases Nat.lt_or_ge j k with h1 | h1
          · exact hrel.out j h1
          · obtain rfl : j = k := by omega
            exact h
        clear hc hc' hrel
        generalize l.getD k noEv = e at *
        generalize m.getD k noEv = f at *
        obtain ⟨op, day, part, kind, into, slot, key, value, kl, kh, cl, ch, ll, lh⟩ := e
        obtain ⟨op2, day2, part2, kind2, into2, slot2, key2, value2, kl2, kh2, cl2, ch2, ll2, lh2⟩ := f
        obtain ⟨e0, e1, e2, e3, e4, e5, e6, e7, e8, e9, e10, e11, e12, e13⟩ := range_facts hrg
        obtain ⟨f0, f1, f2, f3, f4, f5, f6, f7, f8, f9, f10, f11, f12, f13⟩ := range_facts hrg'
        clear hrg hrg'
        dsimp only at e0 e1 e2 e3 e4 e5 e6 e7 e8 e9 e10 e11 e12 e13 f0 f1 f2 f3 f4 f5 f6 f7 f8 f9 f10 f11 f12 f13
        cases he : evEq ⟨op, day, part, kind, into, slot, key, value, kl, kh, cl, ch, ll, lh⟩ ⟨op2, day2, part2, kind2, into2, slot2, key2, value2, kl2, kh2, cl2, ch2, ll2, lh2⟩
        · have hb := Lib.hid (hbad.out he)
          go_wp2_with fail
          go_quiet (fail)
          go_wp2_with fail
          go_ret
          exact ⟨ret_bool (by rw [hb.out]), below_drewN HB.out _⟩
        · have hb := Lib.hid (HR.out he)
          go_wp2_with fail
          go_quiet (fail)
          go_wp2_with fail
          go_roundw
          case rel => exact ⟨k + 1, by omega, by go_num, hb.out, below_drewN HB.out _⟩
          case measure => simp [intOf]; omega
      · obtain rfl : k = l.length := by omega
        have hfin := Lib.hid (sameB_end HLM.out hrel.out)
        clear hrel
        go_wp2_with fail
        go_ret
        exact ⟨ret_bool (by rw [hfin.out]), HB.out⟩
  · have hb0 : ((l.length : Int) != (m.length : Int)) = true := by rw [bne_iff_ne]; omega
    have hb := Lib.hid (sameB_len hlm)
    go_enter Tryd.func14, Tryd.ntmps14
    go_wp2_with fail
    go_ret
    exact ⟨ret_bool (by rw [hb.out]), Below.refl _ _⟩
end Go.Proofs.YtmbalkebdmdmaaaDoor
