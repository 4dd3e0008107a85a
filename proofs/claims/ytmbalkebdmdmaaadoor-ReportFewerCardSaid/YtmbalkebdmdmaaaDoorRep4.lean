/- report.Picked. -/
import Derived.Test.YtmbalkebdmdmaaaDoorRep3
namespace Go.Proofs.YtmbalkebdmdmaaaDoor
open Go Go.RowKit
theorem _root_.Go.World.grownBy_of_below {w w' : World} (h : Below w.heap.size w w') : w.grownBy w' none := ⟨h.os, h.tape, h.output, h.size, fun k hk _ => h.block k hk⟩
def intF (l : List Int) (j : Nat) : Value := .int .i64 (l.getD j 0)
/-- What one choice picks. -/
def one (r : Rep) (n : Int) : List Ev := if n = r.opts.length then [] else [r.opts.getD n.toNat noEv]
/-- What the first k choices pick. -/
def pk (L : List Rep) (ch : List Int) (k : Nat) : List Ev := (List.range k).flatMap fun i => one (L.getD i noRep) (ch.getD i 0)
theorem pk_zero (L : List Rep) (ch : List Int) : pk L ch 0 = [] := rfl
theorem pk_succ (L : List Rep) (ch : List Int) (k : Nat) : pk L ch (k + 1) = pk L ch k ++ one (L.getD k noRep) (ch.getD k 0) := by
  simp [pk, List.range_succ]
theorem pk_le (L : List Rep) (ch : List Int) (k : Nat) : (pk L ch k).length ≤ k := by
  induction k with
  | zero => simp [pk_zero]
  | succ k ih =>
    rw [pk_succ, List.length_append]
    have : (one (L.getD k noRep) (ch.getD k 0)).length ≤ 1 := by unfold one; split <;> simp
    omega
/-- Is number n a choice of the report? -/
def isC (r : Rep) (n : Int) : Bool := decide (0 ≤ n ∧ n < numC r.opts r.doubt)
/-- Are the numbers choices for the reports? -/
def pickOk (L : List Rep) (ch : List Int) : Bool := decide (L.length = ch.length ∧ ∀ i, i < L.length → isC (L.getD i noRep) (ch.getD i 0) = true)
theorem pickOk_bad {L : List Rep} {ch : List Int} {k : Nat} (hk : k < L.length) (h : isC (L.getD k noRep) (ch.getD k 0) = false) : pickOk L ch = false :=
  decide_eq_false fun ⟨_, h2⟩ => by rw [h2 k hk] at h; cases h
def evCells (l : List Ev) : List Value := l.flatMap fun e => e.cells.toList
theorem evCells_len (l : List Ev) : (evCells l).length = l.length * 14 := by
  induction l with
  | nil => rfl
  | cons e l ih =>
    have : (evCells (e :: l)).length = e.cells.toList.length + (evCells l).length := by simp [evCells]
    rw [this, ih]; simp [Ev.cells]; omega
theorem evCells_at (l : List Ev) (j : Nat) (h : j < l.length * 14) : (evCells l)[j]? = some (evF l j) := by
  induction l generalizing j with
  | nil => simp at h
  | cons e l ih =>
    have e1 : evCells (e :: l) = e.cells.toList ++ evCells l := rfl
    have e2 : e.cells.toList.length = 14 := by simp [Ev.cells]
    rw [e1]
    by_cases hj : j < 14
    · rw [List.getElem?_append_left (by omega)]
      unfold evF
      rw [show j / 14 = 0 by omega, show j % 14 = j by omega]
      rw [Array.getElem?_toList]
      have : j < e.cells.size := by simpa [Ev.cells] using hj
      simp [Array.getElem?_eq_getElem this]
    · rw [List.getElem?_append_right (by omega), e2, ih (j - 14) (by simp at h; omega)]
      unfold evF
      rw [show j / 14 = (j - 14) / 14 + 1 by omega, show (j - 14) % 14 = j % 14 by omega]
      simp
/-- What an append has made reads as a slice of events. -/
theorem sl_own {w : World} {base : Nat} {t : Nat} {v : Value} {l : List Ev} (h : w.ownsRow base t 14 v l.length (evCells l)) : Sl w v l.length 14 (evF l) := by
  rcases h.2 with ⟨rfl, h0⟩ | ⟨g, cap, cur, rfl, hg, hh, hn, hc, hs, ht⟩
  · rw [h0]; exact ⟨_, _, rfl, Nat.le_refl _, .inl rfl⟩
  · refine ⟨_, cap, rfl, hn, .inr ⟨g, 0, rfl, fun j hj => ?_⟩⟩
    rw [Nat.zero_add, cell_of_row w g j cur t (0, 0) hh]
    have := evCells_at l j hj
    rw [← ht, List.getElem?_take] at this
    rw [if_pos hj] at this
    simpa using this
theorem info_ev : (Tryd.prog.info? 39).map (fun i => (i.zero, i.size, i.bytes)) = some (some (.agg zeroEv.cells), 14, 160) := by kernel_rfl

set_option maxRecDepth 100000 in
set_option maxHeartbeats 4000000 in
theorem picked_any (v u : Value) (L : List Rep) (ch : List Int) (w : World) (hv : Reps w v L) (hu : Sl w u ch.length 1 (intF ch)) (hl : L.length ≤ 1000) (_hcl : ch.length ≤ 1000) (ho : ∀ r ∈ L, r.opts.length ≤ 1000)
    (hs : ∀ r ∈ L, ∀ e ∈ r.opts, e.short) :
    Calls Tryd.prog 13 #[v, u] w fun r w' => ∃ v' l, r = .returned (.tuple #[v', .int .i64 (if pickOk L ch then 0 else 1)]) ∧ l = (if pickOk L ch then pk L ch L.length else []) ∧ Sl w' v' l.length 14 (evF l) ∧ Below w.heap.size w w' := by
  have HU := Lib.hid hu
  have HV := Lib.hid hv
  obtain ⟨A, c, rfl, hn⟩ := sl_len hu
  obtain ⟨A', c', rfl, hn', hc⟩ := hv
  have HC := Lib.hid hc
  have HO := Lib.hid ho
  have HS := Lib.hid hs
  clear hc ho hs hu
  by_cases hlen : L.length = ch.length
  · obtain ⟨i0, hi, hz0, hq1, hq2⟩ := info_parts info_ev
    have hI := Lib.hid hi
    have hZ := Lib.hid hz0
    clear hi hz0
    have hbn : ((L.length : Int) != ch.length) = false := by simp; omega
    have HL := Lib.hid hlen
    clear hlen
    go_enter Tryd.func13, Tryd.ntmps13
    go_wp2_with fail
    go_step3
    go_wp2_with fail
    go_step3
    go_wp2_with fail
    go_loopw [6, 17] (fun v i wr => ∃ k : Nat, k ≤ L.length ∧ i = .int .i64 k ∧ Hid (∀ j, j < k → isC (L.getD j noRep) (ch.getD j 0) = true) ∧ wr.ownsRow w.heap.size 39 14 v (pk L ch k).length (evCells (pk L ch k)) ∧ Below w.heap.size w wr) (fun _ i _ => L.length - (intOf i).toNat)
    case atStart => exact ⟨0, Nat.zero_le _, rfl, fun j hj => absurd hj (by omega), World.ownsRow_nil _ _ _ _, Below.refl _ _⟩
    case round =>
      obtain ⟨k, hk, rfl, hrel, hown, hB⟩ := hrel
      by_cases hlt : k < L.length
      · rcases HC.out with h0 | ⟨b, o, rfl, hc⟩
        · omega
        obtain ⟨A1, c1, he1, hn1, hu1⟩ := HU.out
        obtain ⟨rfl, rfl⟩ : A = A1 ∧ c = c1 := by injection he1; exact ⟨by assumption, by assumption⟩
        rcases hu1 with h0 | ⟨b', o', rfl, hu1⟩
        · have := HL.out; omega
        have hnum : wr.cell? ⟨b', o' + k, none⟩ = some (.int .i64 (ch.getD k 0)) := cell_later hB (hu1 k (by have := HL.out; omega))
        obtain ⟨sv, hc1, hc2, hc3⟩ := hc k hlt
        have hd1 : wr.cell? ⟨b, o + k * 2, none⟩ = some sv := cell_later hB hc1
        have hd2 : wr.cell? ⟨b, o + k * 2 + 1, none⟩ = some (.bool (L.getD k noRep).doubt) := cell_later hB hc2
        have HSV := Lib.hid (hc3.below hB)
        have hshort := Lib.hid (HS.out _ (getD_mem L k noRep hlt))
        have hol := HO.out _ (getD_mem L k noRep hlt)
        have hbad := Lib.hid (fun h => pickOk_bad (ch := ch) hlt h)
        have hsucc := Lib.hid (pk_succ L ch k)
        have hple := pk_le L ch k
        have HOWN := Lib.hid hown
        have HB := Lib.hid hB
        have HR : Hid (∀ h : isC (L.getD k noRep) (ch.getD k 0) = true, ∀ j, j < k + 1 → isC (L.getD j noRep) (ch.getD j 0) = true) := fun h j hj => by
          rcases Nat.lt_or_ge j k with h1 | h1
          · exact hrel.out j h1
          · obtain rfl : j = k := by omega
            exact h
        clear hc hu1 he1 hc1 hc2 hc3 hown hB hrel
        generalize L.getD k noRep = r at *
        generalize ch.getD k 0 = n at *
        obtain ⟨A2, c2, rfl, hn2⟩ := sl_len HSV.out
        have hbl : b' < wr.heap.size := World.block_lt_of_cell? _ _ hnum
        have hbl2 : b < wr.heap.size := World.block_lt_of_cell? _ _ hd1
        have hkc : k < ch.length := by have := HL.out; omega
        by_cases h0 : n < 0
        · have hb := Lib.hid (hbad.out (decide_eq_false (by omega)))
          go_wp2_with fail
          rw [Exit.noGoto_ret]
          go_ret2
          exact ⟨_, [], by rw [hb.out]; rfl, by rw [hb.out]; rfl, ⟨_, _, rfl, Nat.le_refl _, .inl rfl⟩, HB.out.alloc HB.out.size _⟩
        · by_cases h1 : n < numC r.opts r.doubt
          · have hok := Lib.hid (HR.out (decide_eq_true ⟨by omega, h1⟩))
            have h1' : ¬ (numC r.opts r.doubt : Int) ≤ n := by omega
            by_cases h2 : n = r.opts.length
            · have hone := Lib.hid (show one r n = [] by simp [one, h2])
              have hb3 : (n == (r.opts.length : Int)) = true := by simp [h2]
              have H2 := Lib.hid h2
              clear h2
              go_wp2_with (go_at_call 11; refine (choices_any _ r.opts r.doubt _ (HSV.out.below ((Below.refl _ _).alloc (Nat.le_refl _) _)) hshort.out hol).mono ?_; rintro q w2 ⟨rfl, hb2⟩; obtain ⟨hE2, hB2, hz2⟩ := boxed hb2; obtain ⟨hc2, hf2⟩ := hE2.facts; have HB2 := Lib.hid hB2; clear hb2 hE2 hB2)
              go_roundw
              case rel => exact ⟨k + 1, by omega, by go_num, hok.out, by
                rw [hsucc.out, hone.out, List.append_nil]
                exact HOWN.out.kept (row := none) (World.grownBy_of_below HB2.out) (by cases Value.ownBlock _ <;> simp), HB.out.trans (HB2.out.mono HB.out.size)⟩
              case measure => simp [intOf]; omega
            · obtain ⟨m, rfl⟩ := Int.eq_ofNat_of_zero_le (by omega : 0 ≤ n)
              have hnc : numC r.opts r.doubt ≤ r.opts.length + 1 := by unfold numC; split <;> (try split) <;> omega
              have hm : m < r.opts.length := by omega
              have hone := Lib.hid (show one r (m : Int) = [r.opts.getD m noEv] by simp [one]; omega)
              have hb3 : ((m : Int) == (r.opts.length : Int)) = false := by simp; omega
              rcases HSV.out with ⟨A3, c3, he3, hn3, h03 | ⟨b3, o3, rfl, hc3⟩⟩
              · omega
              obtain ⟨rfl, rfl⟩ : A2 = some ⟨b3, o3, none⟩ ∧ c2 = c3 := by injection he3; exact ⟨by assumption, by assumption⟩
              have hrg0 : wr.rangeAt b3 (o3 + m * 14) (r.opts.getD m noEv).cells.toList := ev_range hc3 hm
              clear hc3 he3
              generalize r.opts.getD m noEv = ev at *
              obtain ⟨op, day, part, kind, into, slot, key, value, kl, kh, cl, ch', ll, lh⟩ := ev
              replace hrg0 : wr.rangeAt b3 (o3 + m * 14) [.int .i64 op, .int .i64 day, .string part, .string kind, .string into, .string slot, .string key, .string value, .int .i64 kl, .int .i64 kh, .int .i64 cl, .int .i64 ch', .int .i64 ll, .int .i64 lh] := hrg0
              go_wp2_with (first | (go_at_call 11; refine (choices_any _ r.opts r.doubt _ (HSV.out.below ((Below.refl _ _).alloc (Nat.le_refl _) _)) hshort.out hol).mono ?_; rintro q w2 ⟨rfl, hb2⟩; obtain ⟨hE2, hB2, hz2⟩ := boxed hb2; obtain ⟨hc2, hf2⟩ := hE2.facts; have HB2 := Lib.hid hB2; have hown2 := HOWN.out.kept (row := none) (World.grownBy_of_below HB2.out) (by cases Value.ownBlock _ <;> simp); have HOWN2 := Lib.hid hown2; clear hown2; have hrg : w2.rangeAt b3 (o3 + m * 14) [.int .i64 op, .int .i64 day, .string part, .string kind, .string into, .string slot, .string key, .string value, .int .i64 kl, .int .i64 kh, .int .i64 cl, .int .i64 ch', .int .i64 ll, .int .i64 lh] := fun j v hj => cell_later HB2.out (hrg0 j v hj)) | ((with_reducible show wpList _ _ _ (Oper.mk (some 44) _ _ _ _ _ :: _) _ _); refine wpList_load_mid rfl 39 _ rfl b3 (o3 + m * 14) rfl _ _ hrg Tryd.underlying39 rfl rfl ?_) | (at_builtin; refine wpList_append_own _ rfl (.tmp 39) (.tmp 45) 27 rfl w.heap.size 39 i0 (.agg zeroEv.cells) 14 160 Tryd.underlying27 hI.out hZ.out hq1 hq2 rfl (by decide) _ _ _ rfl (HOWN2.out.alloc _) ⟨w2.heap.size, 0, none⟩ 1 1 [.int .i64 op, .int .i64 day, .string part, .string kind, .string into, .string slot, .string key, .string value, .int .i64 kl, .int .i64 kh, .int .i64 cl, .int .i64 ch', .int .i64 ll, .int .i64 lh] rfl rfl ?c1 ?c2 ?c3 ?c4 ?c5 ?_))
              case c1 =>
                intro j u hj
                rw [Addr.add_mid, Nat.zero_add]
                exact ((Has.new w2 39 #[.int .i64 op, .int .i64 day, .string part, .string kind, .string into, .string slot, .string key, .string value, .int .i64 kl, .int .i64 kh, .int .i64 cl, .int .i64 ch', .int .i64 ll, .int .i64 lh]).cell j).trans (by simpa using hj)
              case c2 => intro u hu; simp at hu; rcases hu with rfl | rfl | rfl | rfl | rfl | rfl | rfl | rfl | rfl | rfl | rfl | rfl | rfl | rfl <;> rfl
              case c3 => unfold maxLen; omega
              case c4 => omega
              case c5 => have := HB.out.size; simp; omega
              · intro v' w3 hown3 hgrow3 _
                have HOWN3 := Lib.hid hown3
                have HG3 := Lib.hid hgrow3
                clear hown3 hgrow3
                go_wp2_with fail
                go_roundw
                case rel => exact ⟨k + 1, by omega, by go_num, hok.out, by
                  rw [hsucc.out, hone.out, List.length_append]
                  have h := HOWN3.out
                  have e : evCells (pk L ch k ++ [⟨op, day, part, kind, into, slot, key, value, kl, kh, cl, ch', ll, lh⟩]) = evCells (pk L ch k) ++ [.int .i64 op, .int .i64 day, .string part, .string kind, .string into, .string slot, .string key, .string value, .int .i64 kl, .int .i64 kh, .int .i64 cl, .int .i64 ch', .int .i64 ll, .int .i64 lh] := by simp [evCells, Ev.cells]
                  rw [e]; exact h, by
                  have hb4 : Below w.heap.size w (w2.alloc (.cells #[.int .i64 op, .int .i64 day, .string part, .string kind, .string into, .string slot, .string key, .string value, .int .i64 kl, .int .i64 kh, .int .i64 cl, .int .i64 ch', .int .i64 ll, .int .i64 lh] 39)) := (HB.out.trans (HB2.out.mono HB.out.size)).alloc (by have := HB.out.size; omega) _
                  exact hb4.grown HG3.out hb4.size (fun j hj => (HOWN2.out.lt j hj).1)⟩
                case measure => simp [intOf]; omega
          · have hb := Lib.hid (hbad.out (decide_eq_false (by omega)))
            go_wp2_with (go_at_call 11; refine (choices_any _ r.opts r.doubt _ (HSV.out.below ((Below.refl _ _).alloc (Nat.le_refl _) _)) hshort.out hol).mono ?_; rintro q w2 ⟨rfl, hb2⟩; obtain ⟨hE2, hB2, hz2⟩ := boxed hb2; obtain ⟨hc2, hf2⟩ := hE2.facts; have HB2 := Lib.hid hB2; clear hb2 hE2 hB2)
            rw [Exit.noGoto_ret]
            go_ret2
            exact ⟨_, [], by rw [hb.out]; rfl, by rw [hb.out]; rfl, ⟨_, _, rfl, Nat.le_refl _, .inl rfl⟩, HB.out.trans (HB2.out.mono HB.out.size)⟩
      · obtain rfl : k = L.length := by omega
        have hok := Lib.hid (show pickOk L ch = true from decide_eq_true ⟨HL.out, hrel.out⟩)
        have HOWN := Lib.hid hown
        have HB := Lib.hid hB
        clear hown hB
        go_wp2_with fail
        rw [Exit.noGoto_ret]
        go_ret2
        exact ⟨_, _, by rw [hok.out]; rfl, rfl, by rw [hok.out]; exact sl_own HOWN.out, HB.out⟩
  · have hb := Lib.hid (show pickOk L ch = false from decide_eq_false fun h => hlen h.1)
    have hbn : ((L.length : Int) != ch.length) = true := by rw [bne_iff_ne]; omega
    go_enter Tryd.func13, Tryd.ntmps13
    go_wp2_with fail
    go_step3
    go_wp2_with fail
    rw [Exit.noGoto_ret]
    go_ret2
    exact ⟨_, [], by rw [hb.out]; rfl, by rw [hb.out]; rfl, ⟨_, _, rfl, Nat.le_refl _, .inl rfl⟩, Below.refl _ _⟩
end Go.Proofs.YtmbalkebdmdmaaaDoor
