/- The sizes that the statements ask: bogieref09.Few, bogieref13.Few, few. -/
import Derived.Test.YtmbalkebdmdmaaaDoorRep2
namespace Go.Proofs.YtmbalkebdmdmaaaDoor
open Go Go.RowKit
def fewE (l : List Ev) (m : Nat) : Bool := (l.take (m + 1)).all shortB && decide (l.length ≤ m)
theorem fewE_bad {l : List Ev} {m k : Nat} (hk : k < l.length) (hm : k ≤ m) (h : shortB (l.getD k noEv) = false) : fewE l m = false := by
  have : (l.take (m + 1)).all shortB = false := by
    rw [List.all_eq_false]
    refine ⟨l.getD k noEv, ?_, by rw [h]; decide⟩
    rw [List.getD_eq_getElem?_getD, List.getElem?_eq_getElem hk]
    exact List.mem_take_iff_getElem.2 ⟨k, by omega, rfl⟩
  unfold fewE; rw [this]; rfl
theorem fewE_end {l : List Ev} {m k : Nat} (hk : l.length ≤ k ∨ m < k) (h : ∀ e ∈ l.take k, shortB e = true) : fewE l m = decide (l.length ≤ m) := by
  have : (l.take (m + 1)).all shortB = true := by
    rw [List.all_eq_true]
    intro e he
    apply h
    rcases hk with hk | hk
    · rw [List.take_of_length_le hk]; exact List.mem_of_mem_take he
    · exact (List.take_subset_take_left l (by omega : m + 1 ≤ k)) he
  unfold fewE; rw [this]; rfl
set_option maxRecDepth 100000 in
set_option maxHeartbeats 1000000 in
theorem fewEv_any (v : Value) (l : List Ev) (m : Nat) (w : World) (hv : Sl w v l.length 14 (evF l)) (hl : l.length ≤ 9223372036854775807) (_hm : m ≤ 1000) :
    Calls Tryd.prog 36 #[v, .int .i64 m] w fun r w' => r = .returned (.bool (fewE l m)) ∧ Below w.heap.size w w' := by
  obtain ⟨A, c, rfl, hn, hc⟩ := hv
  have HC := Lib.hid hc
  clear hc
  go_enter Tryd.func36, Tryd.ntmps36
  go_wp2_with fail
  go_loopw [5] (fun i wr => ∃ k : Nat, k ≤ l.length ∧ k ≤ m + 1 ∧ i = .int .i64 k ∧ Hid (∀ e ∈ l.take k, shortB e = true) ∧ Below w.heap.size w wr) (fun i _ => l.length - (intOf i).toNat)
  case atStart => exact ⟨0, Nat.zero_le _, Nat.zero_le _, rfl, fun e he => by simp at he, Below.refl _ _⟩
  case round =>
    obtain ⟨k, hk, hkm, rfl, hrel, hB⟩ := hrel
    have HB := Lib.hid hB
    clear hB
    by_cases hlt : k < l.length
    · by_cases hkm' : k ≤ m
      · rcases HC.out with h0 | ⟨b, o, rfl, hc⟩
        · omega
        have hrg : wr.rangeAt b (o + k * 14) (l.getD k noEv).cells.toList := ev_range (fun j hj => cell_later HB.out (hc j hj)) hlt
        have hbad := Lib.hid (fun h => fewE_bad hlt hkm' h)
        have htake := Lib.hid (take_getD l k noEv hlt)
        clear hc
        generalize l.getD k noEv = e at *
        cases hsh : shortB e
        · have HS := Lib.hid hsh
          clear hsh
          go_wp2_with (first | ((with_reducible show wpList _ _ _ (Oper.mk (some 20) _ _ _ _ _ :: _) _ _); refine wpList_load_mid rfl 39 _ rfl b (o + k * 14) rfl _ _ hrg Tryd.underlying39 rfl rfl ?_) | (go_at_call 16; refine (short_any e _).mono ?_; rintro r w2 ⟨rfl, hb2⟩; rw [HS.out]; have HB2 := Lib.hid hb2; clear hb2))
          go_ret
          exact ⟨ret_bool (by rw [hbad.out HS.out]), HB.out.trans (HB2.out.mono HB.out.size)⟩
        · have HS := Lib.hid hsh
          clear hsh
          go_wp2_with (first | ((with_reducible show wpList _ _ _ (Oper.mk (some 20) _ _ _ _ _ :: _) _ _); refine wpList_load_mid rfl 39 _ rfl b (o + k * 14) rfl _ _ hrg Tryd.underlying39 rfl rfl ?_) | (go_at_call 16; refine (short_any e _).mono ?_; rintro r w2 ⟨rfl, hb2⟩; rw [HS.out]; have HB2 := Lib.hid hb2; clear hb2))
          go_roundw
          case rel => exact ⟨k + 1, by omega, by omega, by go_num, (by
            intro a ha
            rw [htake.out, List.mem_append, List.mem_singleton] at ha
            rcases ha with ha | rfl
            · exact hrel.out a ha
            · exact HS.out), HB.out.trans (HB2.out.mono HB.out.size)⟩
          case measure => simp [intOf]; omega
      · have hfin := Lib.hid (fewE_end (l := l) (m := m) (.inr (by omega)) hrel.out)
        go_wp2_with fail
        go_ret
        exact ⟨ret_bool (by rw [hfin.out]; try simp), HB.out⟩
    · have hfin := Lib.hid (fewE_end (l := l) (m := m) (.inl (by omega)) hrel.out)
      obtain rfl : k = l.length := by omega
      go_wp2_with fail
      go_ret
      exact ⟨ret_bool (by rw [hfin.out]; try simp), HB.out⟩

/-- A report. -/
structure Rep where
  opts : List Ev
  doubt : Bool
  deriving DecidableEq
def noRep : Rep := ⟨[], false⟩
/-- A slice of reports that reads as L. -/
def Reps (w : World) (v : Value) (L : List Rep) : Prop :=
  ∃ A c, v = .slice A L.length c ∧ L.length ≤ c ∧ (L.length = 0 ∨ ∃ b o, A = some ⟨b, o, none⟩ ∧ ∀ i, i < L.length →
    ∃ sv, w.cell? ⟨b, o + i * 2, none⟩ = some sv ∧ w.cell? ⟨b, o + i * 2 + 1, none⟩ = some (.bool (L.getD i noRep).doubt) ∧ Sl w sv (L.getD i noRep).opts.length 14 (evF (L.getD i noRep).opts))
theorem Reps.below {w w' : World} {v : Value} {L : List Rep} (h : Reps w v L) (hb : Below w.heap.size w w') : Reps w' v L := by
  obtain ⟨A, c, hv, hn, h0 | ⟨b, o, hA, hc⟩⟩ := h
  · exact ⟨A, c, hv, hn, .inl h0⟩
  · refine ⟨A, c, hv, hn, .inr ⟨b, o, hA, fun i hi => ?_⟩⟩
    obtain ⟨sv, h1, h2, h3⟩ := hc i hi
    exact ⟨sv, cell_later hb h1, cell_later hb h2, h3.below hb⟩

def fewR (L : List Rep) (m : Nat) : Bool := decide (L.length ≤ m) && L.all (fun r => fewE r.opts 6)
theorem fewR_bad {L : List Rep} {m k : Nat} (hk : k < L.length) (h : fewE (L.getD k noRep).opts 6 = false) : fewR L m = false := by
  have : L.all (fun r => fewE r.opts 6) = false := by
    rw [List.all_eq_false]; exact ⟨_, getD_mem L k noRep hk, by rw [h]; decide⟩
  unfold fewR; rw [this]; simp
theorem fewR_end {L : List Rep} {m : Nat} (h : ∀ r ∈ L, fewE r.opts 6 = true) : fewR L m = decide (L.length ≤ m) := by
  have : L.all (fun r => fewE r.opts 6) = true := by rw [List.all_eq_true]; exact h
  unfold fewR; rw [this]; simp
set_option maxRecDepth 100000 in
set_option maxHeartbeats 1000000 in
theorem fewRep_any (v : Value) (L : List Rep) (m : Nat) (w : World) (hv : Reps w v L) (hl : L.length ≤ 9223372036854775807) (ho : ∀ r ∈ L, r.opts.length ≤ 9223372036854775807) (hm : m ≤ 1000) :
    Calls Tryd.prog 25 #[v, .int .i64 m] w fun r w' => r = .returned (.bool (fewR L m)) ∧ Below w.heap.size w w' := by
  obtain ⟨A, c, rfl, hn, hc⟩ := hv
  have HC := Lib.hid hc
  have HO := Lib.hid ho
  clear hc ho
  by_cases hlm : L.length ≤ m
  · go_enter Tryd.func25, Tryd.ntmps25
    go_wp2_with fail
    go_loopw [5] (fun i wr => ∃ k : Nat, k ≤ L.length ∧ i = .int .i64 k ∧ Hid (∀ r ∈ L.take k, fewE r.opts 6 = true) ∧ Below w.heap.size w wr) (fun i _ => L.length - (intOf i).toNat)
    case atStart => exact ⟨0, Nat.zero_le _, rfl, fun e he => by simp at he, Below.refl _ _⟩
    case round =>
      obtain ⟨k, hk, rfl, hrel, hB⟩ := hrel
      by_cases hlt : k < L.length
      · rcases HC.out with h0 | ⟨b, o, rfl, hc⟩
        · omega
        obtain ⟨sv, hc1, _, hc3⟩ := hc k hlt
        have hsv := hc3.below hB
        have hcell : wr.cell? ⟨b, o + k * 2, none⟩ = some sv := cell_later hB hc1
        have HSV := Lib.hid hsv
        have hbad := Lib.hid (fun h => fewR_bad (m := m) hlt h)
        have htake := Lib.hid (take_getD L k noRep hlt)
        have hol := HO.out _ (getD_mem L k noRep hlt)
        have HB := Lib.hid hB
        clear hc hc1 hc3 hB hsv
        generalize L.getD k noRep = r at *
        obtain ⟨A', c', rfl, hn'⟩ := sl_len HSV.out
        cases hsh : fewE r.opts 6
        · have HS := Lib.hid hsh
          clear hsh
          go_wp2_with (go_at_call 36; refine (fewEv_any _ r.opts 6 _ HSV.out hol (by omega)).mono ?_; rintro q w2 ⟨rfl, hb2⟩; rw [HS.out]; have HB2 := Lib.hid hb2; clear hb2)
          go_ret
          exact ⟨ret_bool (by rw [hbad.out HS.out]), HB.out.trans (HB2.out.mono HB.out.size)⟩
        · have HS := Lib.hid hsh
          clear hsh
          go_wp2_with (go_at_call 36; refine (fewEv_any _ r.opts 6 _ HSV.out hol (by omega)).mono ?_; rintro q w2 ⟨rfl, hb2⟩; rw [HS.out]; have HB2 := Lib.hid hb2; clear hb2)
          go_roundw
          case rel => exact ⟨k + 1, by omega, by go_num, (by
            intro a ha
            rw [htake.out, List.mem_append, List.mem_singleton] at ha
            rcases ha with ha | rfl
            · exact hrel.out a ha
            · exact HS.out), HB.out.trans (HB2.out.mono HB.out.size)⟩
          case measure => simp [intOf]; omega
      · obtain rfl : k = L.length := by omega
        have hfin := Lib.hid (fewR_end (L := L) (m := m) (by have := hrel.out; rwa [List.take_length] at this))
        have HB := Lib.hid hB
        clear hB
        go_wp2_with fail
        go_ret
        exact ⟨ret_bool (by rw [hfin.out]; simp [hlm]), HB.out⟩
  · have hfin := Lib.hid (show fewR L m = false by simp [fewR, hlm])
    go_enter Tryd.func25, Tryd.ntmps25
    go_wp2_with fail
    refine wp_loop_rounds 1 ?_
    rw [rounds_succ]
    go_wp2_with fail
    go_ret
    exact ⟨ret_bool (by rw [hfin.out]), Below.refl _ _⟩
/-- few: at most 12 reports of a moderate size, at most 30 numbers. -/
def fewB (L : List Rep) (n : Nat) : Bool := fewR L 12 && decide (n ≤ 30)
theorem few_any (v u : Value) (L : List Rep) (n c : Nat) (B : Option Addr) (w : World) (hu : u = .slice B n c) (hv : Reps w v L) (hl : L.length ≤ 9223372036854775807) (ho : ∀ r ∈ L, r.opts.length ≤ 9223372036854775807) :
    Calls Tryd.prog 10 #[v, u] w fun r w' => r = .returned (.bool (fewB L n)) ∧ Below w.heap.size w w' := by
  subst hu
  have HV := Lib.hid hv
  have HO := Lib.hid ho
  clear hv ho
  cases hf : fewR L 12
  · have hr := Lib.hid (show fewB L n = false by simp [fewB, hf])
    have HF := Lib.hid hf
    clear hf
    go_enter Tryd.func10, Tryd.ntmps10
    go_wp2_with (go_at_call 25; refine (fewRep_any _ L 12 _ HV.out hl HO.out (by omega)).mono ?_; rintro q w2 ⟨rfl, hb2⟩; rw [HF.out])
    go_ret
    exact ⟨ret_bool (by rw [hr.out]), hb2⟩
  · have hr := Lib.hid (show fewB L n = decide (n ≤ 30) by simp [fewB, hf])
    have HF := Lib.hid hf
    clear hf
    go_enter Tryd.func10, Tryd.ntmps10
    go_wp2_with (go_at_call 25; refine (fewRep_any _ L 12 _ HV.out hl HO.out (by omega)).mono ?_; rintro q w2 ⟨rfl, hb2⟩; rw [HF.out])
    go_ret
    exact ⟨ret_bool (by rw [hr.out]; simp; try omega), hb2⟩
end Go.Proofs.YtmbalkebdmdmaaaDoor
