/- report.Picked. Arguments opened: slices of whatever, events, reports, numbers. No condition. A report as an argument by value, opened. No condition. The step from a walk to a row, for a law: it returns true, and memory below is as it was. No condition. A region that draws its order, walked by a plan: the operations that only read, or whose guard is false, are taken first, in the order of a list. No condition. A call that leaves the world, in a region that draws its order: it may be taken first. No condition. event.Names: the parts that an event mentions. -/
import Derived.Carry
import Derived.Deep.DeepHandedRow
import Derived.Deep.RegionHeld3
import Derived.Deep.Slices
import Derived.Lib.LaidTab
import Derived.Lib.MinMaxS
import Derived.OpenShut
import Derived.ProofKit
import Derived.WalkKit
import Derived.Test.YtjlpllnhefafkaaGreatDoorProg
import Derived.Test.YtjlpllnhefafkaaGreatDoorU07
namespace Go.Proofs.YtjlpllnhefafkaaGreatDoor
open Go Go.RowKit
theorem _root_.Go.World.grownBy_of_below {w w' : World} (h : Below w.heap.size w w') : w.grownBy w' none := ⟨h.os, h.tape, h.output, h.size, fun k hk _ => h.block k hk⟩
def intF (l : List Int) (j : Nat) : Value := .int .i64 (l.getD j 0)
/-- What one choice picks. -/
def one (r : Rep) (n : Int) : List Ev := if n = r.opts.length then [] else [r.opts.getD n.toNat noEv]
/-- What the first k choices pick. -/
def pk (L : List Rep) (ch : List Int) (k : Nat) : List Ev := (List.range k).flatMap fun i => one (L.getD i noRep) (ch.getD i 0)
theorem pk_zero (L : List Rep) (ch : List Int) : pk L ch 0 = [] := rfl
theorem pk_succ (L : List Rep) (ch : List Int) (k : Nat) : pk L ch (k + 1) = pk L ch k ++ one (L.getD k noRep) (ch.getD k 0) := by
  simp [pk, List.range_succ]
theorem pk_le (L : List Rep) (ch : List Int) (k : Nat) : (pk L ch k).length ≤ k := by
  induction k with
  | zero => simp [pk_zero]
  | succ k ih =>
    rw [pk_succ, List.length_append]
    have : (one (L.getD k noRep) (ch.getD k 0)).length ≤ 1 := by unfold one; split <;> simp
    omega
/-- Is number n a choice of the report? -/
def isC (r : Rep) (n : Int) : Bool := decide (0 ≤ n ∧ n < numC r.opts r.doubt)
/-- Are the numbers choices for the reports? -/
def pickOk (L : List Rep) (ch : List Int) : Bool := decide (L.length = ch.length ∧ ∀ i, i < L.length → isC (L.getD i noRep) (ch.getD i 0) = true)
theorem pickOk_bad {L : List Rep} {ch : List Int} {k : Nat} (hk : k < L.length) (h : isC (L.getD k noRep) (ch.getD k 0) = false) : pickOk L ch = false :=
  decide_eq_false fun ⟨_, h2⟩ => by rw [h2 k hk] at h; cases h
def evCells (l : List Ev) : List Value := l.flatMap fun e => e.cells.toList
theorem evCells_len (l : List Ev) : (evCells l).length = l.length * 14 := by
  induction l with
  | nil => rfl
  | cons e l ih =>
    have : (evCells (e :: l)).length = e.cells.toList.length + (evCells l).length := by simp [evCells]
    rw [this, ih]; simp [Ev.cells]; omega
theorem evCells_at (l : List Ev) (j : Nat) (h : j < l.length * 14) : (evCells l)[j]? = some (evF l j) := by
  induction l generalizing j with
  | nil => simp at h
  | cons e l ih =>
    have e1 : evCells (e :: l) = e.cells.toList ++ evCells l := rfl
    have e2 : e.cells.toList.length = 14 := by simp [Ev.cells]
    rw [e1]
    by_cases hj : j < 14
    · rw [List.getElem?_append_left (by omega)]
      unfold evF
      rw [show j / 14 = 0 by omega, show j % 14 = j by omega]
      rw [Array.getElem?_toList]
      have : j < e.cells.size := by simpa [Ev.cells] using hj
      simp [Array.getElem?_eq_getElem this]
    · rw [List.getElem?_append_right (by omega), e2, ih (j - 14) (by simp at h; omega)]
      unfold evF
      rw [show j / 14 = (j - 14) / 14 + 1 by omega, show (j - 14) % 14 = j % 14 by omega]
      simp
/-- What an append has made reads as a slice of events. -/
theorem sl_own {w : World} {base : Nat} {t : Nat} {v : Value} {l : List Ev} (h : w.ownsRow base t 14 v l.length (evCells l)) : Sl w v l.length 14 (evF l) := by
  rcases h.2 with ⟨rfl, h0⟩ | ⟨g, cap, cur, rfl, hg, hh, hn, hc, hs, ht⟩
  · rw [h0]; exact ⟨_, _, rfl, Nat.le_refl _, .inl rfl⟩
  · refine ⟨_, cap, rfl, hn, .inr ⟨g, 0, rfl, fun j hj => ?_⟩⟩
    rw [Nat.zero_add, cell_of_row w g j cur t (0, 0) hh]
    have := evCells_at l j hj
    rw [← ht, List.getElem?_take] at this
    rw [if_pos hj] at this
    simpa using this
theorem info_ev : (Tryz.prog.info? 49).map (fun i => (i.zero, i.size, i.bytes)) = some (some (.agg zeroEv.cells), 14, 160) := by kernel_rfl

set_option maxRecDepth 100000 in
set_option maxHeartbeats 4000000 in
theorem picked_any (v u : Value) (L : List Rep) (ch : List Int) (w : World) (hv : Reps w v L) (hu : Sl w u ch.length 1 (intF ch)) (hl : L.length ≤ 1000) (_hcl : ch.length ≤ 1000) (ho : ∀ r ∈ L, r.opts.length ≤ 1000)
    (hs : ∀ r ∈ L, ∀ e ∈ r.opts, e.short) :
    Calls Tryz.prog 6 #[v, u] w fun r w' => ∃ v' l, r = .returned (.tuple #[v', .int .i64 (if pickOk L ch then 0 else 1)]) ∧ l = (if pickOk L ch then pk L ch L.length else []) ∧ Sl w' v' l.length 14 (evF l) ∧ Below w.heap.size w w' := by
  have HU := Lib.hid hu
  have HV := Lib.hid hv
  obtain ⟨A, c, rfl, hn⟩ := sl_len hu
  obtain ⟨A', c', rfl, hn', hc⟩ := hv
  have HC := Lib.hid hc
  have HO := Lib.hid ho
  have HS := Lib.hid hs
  clear hc ho hs hu
  by_cases hlen : L.length = ch.length
  · obtain ⟨i0, hi, hz0, hq1, hq2⟩ := info_parts info_ev
    have hI := Lib.hid hi
    have hZ := Lib.hid hz0
    clear hi hz0
    have hbn : ((L.length : Int) != ch.length) = false := by simp; omega
    have HL := Lib.hid hlen
    clear hlen
    go_enter Tryz.func6, Tryz.ntmps6
    go_wp2_with fail
    go_step3
    go_wp2_with fail
    go_step3
    go_wp2_with fail
    go_loopw [6, 17] (fun v i wr => ∃ k : Nat, k ≤ L.length ∧ i = .int .i64 k ∧ Hid (∀ j, j < k → isC (L.getD j noRep) (ch.getD j 0) = true) ∧ wr.ownsRow w.heap.size 49 14 v (pk L ch k).length (evCells (pk L ch k)) ∧ Below w.heap.size w wr) (fun _ i _ => L.length - (intOf i).toNat)
    case atStart => exact ⟨0, Nat.zero_le _, rfl, fun j hj => absurd hj (by omega), World.ownsRow_nil _ _ _ _, Below.refl _ _⟩
    case round =>
      obtain ⟨k, hk, rfl, hrel, hown, hB⟩ := hrel
      by_cases hlt : k < L.length
      · rcases HC.out with h0 | ⟨b, o, rfl, hc⟩
        · omega
        obtain ⟨A1, c1, he1, hn1, hu1⟩ := HU.out
        obtain ⟨rfl, rfl⟩ : A = A1 ∧ c = c1 := by injection he1; exact ⟨by assumption, by assumption⟩
        rcases hu1 with h0 | ⟨b', o', rfl, hu1⟩
        · have := HL.out; omega
        have hnum : wr.cell? ⟨b', o' + k, none⟩ = some (.int .i64 (ch.getD k 0)) := cell_later hB (hu1 k (by have := HL.out; omega))
        obtain ⟨sv, hc1, hc2, hc3⟩ := hc k hlt
        have hd1 : wr.cell? ⟨b, o + k * 2, none⟩ = some sv := cell_later hB hc1
        have hd2 : wr.cell? ⟨b, o + k * 2 + 1, none⟩ = some (.bool (L.getD k noRep).doubt) := cell_later hB hc2
        have HSV := Lib.hid (hc3.below hB)
        have hshort := Lib.hid (HS.out _ (getD_mem L k noRep hlt))
        have hol := HO.out _ (getD_mem L k noRep hlt)
        have hbad := Lib.hid (fun h => pickOk_bad (ch := ch) hlt h)
        have hsucc := Lib.hid (pk_succ L ch k)
        have hple := pk_le L ch k
        have HOWN := Lib.hid hown
        have HB := Lib.hid hB
        have HR : Hid (∀ h : isC (L.getD k noRep) (ch.getD k 0) = true, ∀ j, j < k + 1 → isC (L.getD j noRep) (ch.getD j 0) = true) := fun h j hj => by
          rcases Nat.lt_or_ge j k with h1 | h1
          · exact hrel.out j h1
          · obtain rfl : j = k := by omega
            exact h
        clear hc hu1 he1 hc1 hc2 hc3 hown hB hrel
        generalize L.getD k noRep = r at *
        generalize ch.getD k 0 = n at *
        obtain ⟨A2, c2, rfl, hn2⟩ := sl_len HSV.out
        have hbl : b' < wr.heap.size := World.block_lt_of_cell? _ _ hnum
        have hbl2 : b < wr.heap.size := World.block_lt_of_cell? _ _ hd1
        have hkc : k < ch.length := by have := HL.out; omega
        by_cases h0 : n < 0
        · have hb := Lib.hid (hbad.out (decide_eq_false (by omega)))
          go_wp2_with fail
          rw [Exit.noGoto_ret]
          go_ret2
          exact ⟨_, [], by rw [hb.out]; rfl, by rw [hb.out]; rfl, ⟨_, _, rfl, Nat.le_refl _, .inl rfl⟩, HB.out.alloc HB.out.size _⟩
        · by_cases h1 : n < numC r.opts r.doubt
          · have hok := Lib.hid (HR.out (decide_eq_true ⟨by omega, h1⟩))
            have h1' : ¬ (numC r.opts r.doubt : Int) ≤ n := by omega
            by_cases h2 : n = r.opts.length
            · have hone := Lib.hid (show one r n = [] by simp [one, h2])
              have hb3 : (n == (r.opts.length : Int)) = true := by simp [h2]
              have H2 := Lib.hid h2
              clear h2
              go_wp2_with (go_at_call 16; refine (choices_any _ r.opts r.doubt _ (HSV.out.below ((Below.refl _ _).alloc (Nat.le_refl _) _)) hshort.out hol).mono ?_; rintro q w2 ⟨rfl, hb2⟩; obtain ⟨hE2, hB2, hz2⟩ := boxed hb2; obtain ⟨hc2, hf2⟩ := hE2.facts; have HB2 := Lib.hid hB2; clear hb2 hE2 hB2)
              go_roundw
              case rel => exact ⟨k + 1, by omega, by go_num, hok.out, by
                rw [hsucc.out, hone.out, List.append_nil]
                exact HOWN.out.kept (row := none) (World.grownBy_of_below HB2.out) (by cases Value.ownBlock _ <;> simp), HB.out.trans (HB2.out.mono HB.out.size)⟩
              case measure => simp [intOf]; omega
            · obtain ⟨m, rfl⟩ := Int.eq_ofNat_of_zero_le (by omega : 0 ≤ n)
              have hnc : numC r.opts r.doubt ≤ r.opts.length + 1 := by unfold numC; split <;> (try split) <;> omega
              have hm : m < r.opts.length := by omega
              have hone := Lib.hid (show one r (m : Int) = [r.opts.getD m noEv] by simp [one]; omega)
              have hb3 : ((m : Int) == (r.opts.length : Int)) = false := by simp; omega
              rcases HSV.out with ⟨A3, c3, he3, hn3, h03 | ⟨b3, o3, rfl, hc3⟩⟩
              · omega
              obtain ⟨rfl, rfl⟩ : A2 = some ⟨b3, o3, none⟩ ∧ c2 = c3 := by injection he3; exact ⟨by assumption, by assumption⟩
              have hrg0 : wr.rangeAt b3 (o3 + m * 14) (r.opts.getD m noEv).cells.toList := ev_range hc3 hm
              clear hc3 he3
              generalize r.opts.getD m noEv = ev at *
              obtain ⟨op, day, part, kind, into, slot, key, value, kl, kh, cl, ch', ll, lh⟩ := ev
              replace hrg0 : wr.rangeAt b3 (o3 + m * 14) [.int .i64 op, .int .i64 day, .string part, .string kind, .string into, .string slot, .string key, .string value, .int .i64 kl, .int .i64 kh, .int .i64 cl, .int .i64 ch', .int .i64 ll, .int .i64 lh] := hrg0
              go_wp2_with (first | (go_at_call 16; refine (choices_any _ r.opts r.doubt _ (HSV.out.below ((Below.refl _ _).alloc (Nat.le_refl _) _)) hshort.out hol).mono ?_; rintro q w2 ⟨rfl, hb2⟩; obtain ⟨hE2, hB2, hz2⟩ := boxed hb2; obtain ⟨hc2, hf2⟩ := hE2.facts; have HB2 := Lib.hid hB2; have hown2 := HOWN.out.kept (row := none) (World.grownBy_of_below HB2.out) (by cases Value.ownBlock _ <;> simp); have HOWN2 := Lib.hid hown2; clear hown2; have hrg : w2.rangeAt b3 (o3 + m * 14) [.int .i64 op, .int .i64 day, .string part, .string kind, .string into, .string slot, .string key, .string value, .int .i64 kl, .int .i64 kh, .int .i64 cl, .int .i64 ch', .int .i64 ll, .int .i64 lh] := fun j v hj => cell_later HB2.out (hrg0 j v hj)) | ((with_reducible show wpList _ _ _ (Oper.mk (some 44) _ _ _ _ _ :: _) _ _); refine wpList_load_mid rfl 49 _ rfl b3 (o3 + m * 14) rfl _ _ hrg Tryz.underlying49 rfl rfl ?_) | (at_builtin; refine wpList_append_own _ rfl (.tmp 39) (.tmp 45) 26 rfl w.heap.size 49 i0 (.agg zeroEv.cells) 14 160 Tryz.underlying26 hI.out hZ.out hq1 hq2 rfl (by decide) _ _ _ rfl (HOWN2.out.alloc _) ⟨w2.heap.size, 0, none⟩ 1 1 [.int .i64 op, .int .i64 day, .string part, .string kind, .string into, .string slot, .string key, .string value, .int .i64 kl, .int .i64 kh, .int .i64 cl, .int .i64 ch', .int .i64 ll, .int .i64 lh] rfl rfl ?c1 ?c2 ?c3 ?c4 ?c5 ?_))
              case c1 =>
                intro j u hj
                rw [Addr.add_mid, Nat.zero_add]
                exact ((Has.new w2 49 #[.int .i64 op, .int .i64 day, .string part, .string kind, .string into, .string slot, .string key, .string value, .int .i64 kl, .int .i64 kh, .int .i64 cl, .int .i64 ch', .int .i64 ll, .int .i64 lh]).cell j).trans (by simpa using hj)
              case c2 => intro u hu; simp at hu; rcases hu with rfl | rfl | rfl | rfl | rfl | rfl | rfl | rfl | rfl | rfl | rfl | rfl | rfl | rfl <;> rfl
              case c3 => unfold maxLen; omega
              case c4 => omega
              case c5 => have := HB.out.size; simp; omega
              · intro v' w3 hown3 hgrow3 _
                have HOWN3 := Lib.hid hown3
                have HG3 := Lib.hid hgrow3
                clear hown3 hgrow3
                go_wp2_with fail
                go_roundw
                case rel => exact ⟨k + 1, by omega, by go_num, hok.out, by
                  rw [hsucc.out, hone.out, List.length_append]
                  have h := HOWN3.out
                  have e : evCells (pk L ch k ++ [⟨op, day, part, kind, into, slot, key, value, kl, kh, cl, ch', ll, lh⟩]) = evCells (pk L ch k) ++ [.int .i64 op, .int .i64 day, .string part, .string kind, .string into, .string slot, .string key, .string value, .int .i64 kl, .int .i64 kh, .int .i64 cl, .int .i64 ch', .int .i64 ll, .int .i64 lh] := by simp [evCells, Ev.cells]
                  rw [e]; exact h, by
                  have hb4 : Below w.heap.size w (w2.alloc (.cells #[.int .i64 op, .int .i64 day, .string part, .string kind, .string into, .string slot, .string key, .string value, .int .i64 kl, .int .i64 kh, .int .i64 cl, .int .i64 ch', .int .i64 ll, .int .i64 lh] 49)) := (HB.out.trans (HB2.out.mono HB.out.size)).alloc (by have := HB.out.size; omega) _
                  exact hb4.grown HG3.out hb4.size (fun j hj => (HOWN2.out.lt j hj).1)⟩
                case measure => simp [intOf]; omega
          · have hb := Lib.hid (hbad.out (decide_eq_false (by omega)))
            go_wp2_with (go_at_call 16; refine (choices_any _ r.opts r.doubt _ (HSV.out.below ((Below.refl _ _).alloc (Nat.le_refl _) _)) hshort.out hol).mono ?_; rintro q w2 ⟨rfl, hb2⟩; obtain ⟨hE2, hB2, hz2⟩ := boxed hb2; obtain ⟨hc2, hf2⟩ := hE2.facts; have HB2 := Lib.hid hB2; clear hb2 hE2 hB2)
            rw [Exit.noGoto_ret]
            go_ret2
            exact ⟨_, [], by rw [hb.out]; rfl, by rw [hb.out]; rfl, ⟨_, _, rfl, Nat.le_refl _, .inl rfl⟩, HB.out.trans (HB2.out.mono HB.out.size)⟩
      · obtain rfl : k = L.length := by omega
        have hok := Lib.hid (show pickOk L ch = true from decide_eq_true ⟨HL.out, hrel.out⟩)
        have HOWN := Lib.hid hown
        have HB := Lib.hid hB
        clear hown hB
        go_wp2_with fail
        rw [Exit.noGoto_ret]
        go_ret2
        exact ⟨_, _, by rw [hok.out]; rfl, rfl, by rw [hok.out]; exact sl_own HOWN.out, HB.out⟩
  · have hb := Lib.hid (show pickOk L ch = false from decide_eq_false fun h => hlen h.1)
    have hbn : ((L.length : Int) != ch.length) = true := by rw [bne_iff_ne]; omega
    go_enter Tryz.func6, Tryz.ntmps6
    go_wp2_with fail
    go_step3
    go_wp2_with fail
    rw [Exit.noGoto_ret]
    go_ret2
    exact ⟨_, [], by rw [hb.out]; rfl, by rw [hb.out]; rfl, ⟨_, _, rfl, Nat.le_refl _, .inl rfl⟩, Below.refl _ _⟩
end Go.Proofs.YtjlpllnhefafkaaGreatDoor
namespace Go.Proofs.YtjlpllnhefafkaaGreatDoor
open Go Go.RowKit Go.ChangeShapes Go.WideShapes Go.Deep
theorem addr_plain {w : World} {a : Addr} {v : Value} (h : w.cell? a = some v) : a = ⟨a.block, a.off, none⟩ := by
  obtain ⟨b, o, sp⟩ := a
  cases sp with
  | none => rfl
  | some s => simp [World.cell?] at h; split at h <;> simp at h
section
variable {H : Type} {enc : TypeId × Value → H} {P : Program} {w : World} {base : Nat} {spare : Nat → Bool} {held : Bool}
/-- A slice whose elements are of C cells, each of which reads as something. -/
theorem open_rows {α : Type} (d : α) {t e C fuel : Nat} {v : Value} {x : DataW H × List MemPlace} (R : List Value → α → Prop) (ht : P.underlying t = some (.slice e)) (hC : P.cellsOf e = C) (h0 : 0 < C)
    (hR : ∀ n cs y, DataW.trod enc P w base spare held n e cs = some y → cs.length = C → ∃ a, R cs a)
    (h : DataW.trod enc P w base spare held fuel t [v] = some x) :
    ∃ (A : Option Addr) (c : Nat) (l : List α), v = .slice A l.length c ∧ l.length ≤ c ∧ c ≤ maxLen ∧ (l.length = 0 ∨ ∃ b o, A = some ⟨b, o, none⟩ ∧
      ∀ i a, l[i]? = some a → ∃ cs, R cs a ∧ cs.length = C ∧ ∀ j u, cs[j]? = some u → w.cell? ⟨b, o + i * C + j, none⟩ = some u) := by
  subst hC
  rcases open_slice ht h with ⟨h1, _⟩ | ⟨a, len, cap, m, n, D, Pl, hcs, _, hl, hm, hmm, _, hi⟩
  · have : v = .slice none 0 0 := by simpa using h1
    exact ⟨none, 0, [], this, Nat.le_refl _, by simp [maxLen], .inl rfl⟩
  · have hv : v = .slice (some a) len cap := by simpa using hcs
    have hlm : len ≤ m := by rw [hmm]; split <;> omega
    have hex : ∀ i, i < len → ∃ q : List Value × α, R q.1 q.2 ∧ q.1.length = P.cellsOf e ∧ ∀ j u, q.1[j]? = some u → w.cell? ((a.add (i * P.cellsOf e)).add j) = some u := by
      intro i hi'
      obtain ⟨cs', hc, ht'⟩ := hi i (by omega)
      obtain ⟨_, hcl, hat⟩ := World.cells?_some hc
      obtain ⟨y, hy⟩ := hR _ _ _ ht' hcl
      refine ⟨(cs', y), hy, hcl, fun j u hu => ?_⟩
      have hj : j < P.cellsOf e := by
        rcases Nat.lt_or_ge j (P.cellsOf e) with h1 | h1
        · exact h1
        · rw [List.getElem?_eq_none (by show cs'.length ≤ j; omega)] at hu; cases hu
      rw [hat j hj]; exact hu
    let f : Nat → List Value × α := fun i => if h : i < len then Classical.choose (hex i h) else ([], d)
    have hf : ∀ i, i < len → R (f i).1 (f i).2 ∧ (f i).1.length = P.cellsOf e ∧ ∀ j u, (f i).1[j]? = some u → w.cell? ((a.add (i * P.cellsOf e)).add j) = some u := by
      intro i hi'
      have : f i = Classical.choose (hex i hi') := dif_pos hi'
      rw [this]; exact Classical.choose_spec (hex i hi')
    have hll : ((List.range len).map fun i => (f i).2).length = len := by simp
    refine ⟨some a, cap, (List.range len).map fun i => (f i).2, by rw [hll]; exact hv, by omega, hm, ?_⟩
    by_cases hz : len = 0
    · exact .inl (by omega)
    · right
      obtain ⟨_, hl0, hc0⟩ := hf 0 (by omega)
      have hp : a = ⟨a.block, a.off, none⟩ := by
        have h1 := hc0 0 ((f 0).1[0]'(by omega)) (List.getElem?_eq_getElem (by omega))
        have e1 : (a.add (0 * P.cellsOf e)).add 0 = a := by simp [Addr.add]
        rw [e1] at h1
        exact addr_plain h1
      refine ⟨a.block, a.off, congrArg some hp, fun i y hy => ?_⟩
      have hi' : i < len := by
        rcases Nat.lt_or_ge i len with h1 | h1
        · exact h1
        · rw [List.getElem?_eq_none (by omega)] at hy; cases hy
      have hyi : (f i).2 = y := by simpa [hi'] using hy
      obtain ⟨h1, h2, h3⟩ := hf i hi'
      refine ⟨(f i).1, hyi ▸ h1, h2, fun j u hu => ?_⟩
      have := h3 j u hu
      rw [hp] at this
      rwa [Addr.add_mid, Addr.add_mid] at this

set_option maxRecDepth 100000 in
set_option maxHeartbeats 1000000 in
/-- An event's cells. -/
theorem open_ev {n : Nat} {cs : List Value} {y : DataW H × List MemPlace} (h : DataW.trod enc Tryz.prog w base spare held n 49 cs = some y) (hl : cs.length = 14) : ∃ e : Ev, cs = e.cells.toList ∧ e.short := by
  obtain ⟨xs, n1, rfl, _, _, hxl, hf⟩ := DataW.trod_struct Tryz.underlying49 h
  have some_ : ∀ (fs : Array Field) (xs : List (DataW H × List MemPlace)) i, i < fs.size → xs.length = fs.size → ∃ z, xs[i]? = some z := fun fs xs i h1 h2 => ⟨xs[i]'(by omega), List.getElem?_eq_getElem (by omega)⟩
  match cs, hl with
  | [c0, c1, c2, c3, c4, c5, c6, c7, c8, c9, c10, c11, c12, c13], _ =>
    have int_ : ∀ (m i : Nat) (c : Value) (z : Option (DataW H × List MemPlace)), z.isSome = true → DataW.trod enc Tryz.prog w base spare held m 3 [c] = z → ∃ a : Int, c = .int .i64 a := fun m i c z hz ht => by
      cases z with
      | none => cases hz
      | some z => obtain ⟨a, ha, _⟩ := DataW.trod_int Tryz.underlying3 ht; exact ⟨a, by simpa using ha⟩
    have str_ : ∀ (m i : Nat) (c : Value) (z : Option (DataW H × List MemPlace)), z.isSome = true → DataW.trod enc Tryz.prog w base spare held m 9 [c] = z → ∃ a : ByteArray, c = .string a ∧ a.size ≤ maxLen := fun m i c z hz ht => by
      cases z with
      | none => cases hz
      | some z => obtain ⟨a, ha, _, hs⟩ := DataW.trod_string Tryz.underlying9 ht; exact ⟨a, by simpa using ha, hs⟩
    have ok : ∀ i, i < 9 → (xs[i]?).isSome = true := fun i hi => by rw [List.getElem?_eq_getElem (by rw [hxl]; exact hi)]; rfl
    have k3 : Tryz.prog.cellsOf 3 = 1 := by kernel_rfl
    have k9 : Tryz.prog.cellsOf 9 = 1 := by kernel_rfl
    have k37 : Tryz.prog.cellsOf 47 = 6 := by kernel_rfl
    have k35 : Tryz.prog.cellsOf 45 = 2 := by kernel_rfl
    have f0 : DataW.trod enc Tryz.prog w base spare held n1 3 (([c0, c1, c2, c3, c4, c5, c6, c7, c8, c9, c10, c11, c12, c13].drop 0).take (Tryz.prog.cellsOf 3)) = xs[0]? := hf 0 _ rfl
    rw [k3] at f0
    have f1 : DataW.trod enc Tryz.prog w base spare held n1 3 (([c0, c1, c2, c3, c4, c5, c6, c7, c8, c9, c10, c11, c12, c13].drop 1).take (Tryz.prog.cellsOf 3)) = xs[1]? := hf 1 _ rfl
    rw [k3] at f1
    have f2 : DataW.trod enc Tryz.prog w base spare held n1 9 (([c0, c1, c2, c3, c4, c5, c6, c7, c8, c9, c10, c11, c12, c13].drop 2).take (Tryz.prog.cellsOf 9)) = xs[2]? := hf 2 _ rfl
    rw [k9] at f2
    have f3 : DataW.trod enc Tryz.prog w base spare held n1 9 (([c0, c1, c2, c3, c4, c5, c6, c7, c8, c9, c10, c11, c12, c13].drop 3).take (Tryz.prog.cellsOf 9)) = xs[3]? := hf 3 _ rfl
    rw [k9] at f3
    have f4 : DataW.trod enc Tryz.prog w base spare held n1 9 (([c0, c1, c2, c3, c4, c5, c6, c7, c8, c9, c10, c11, c12, c13].drop 4).take (Tryz.prog.cellsOf 9)) = xs[4]? := hf 4 _ rfl
    rw [k9] at f4
    have f5 : DataW.trod enc Tryz.prog w base spare held n1 9 (([c0, c1, c2, c3, c4, c5, c6, c7, c8, c9, c10, c11, c12, c13].drop 5).take (Tryz.prog.cellsOf 9)) = xs[5]? := hf 5 _ rfl
    rw [k9] at f5
    have f6 : DataW.trod enc Tryz.prog w base spare held n1 9 (([c0, c1, c2, c3, c4, c5, c6, c7, c8, c9, c10, c11, c12, c13].drop 6).take (Tryz.prog.cellsOf 9)) = xs[6]? := hf 6 _ rfl
    rw [k9] at f6
    have f7 : DataW.trod enc Tryz.prog w base spare held n1 9 (([c0, c1, c2, c3, c4, c5, c6, c7, c8, c9, c10, c11, c12, c13].drop 7).take (Tryz.prog.cellsOf 9)) = xs[7]? := hf 7 _ rfl
    rw [k9] at f7
    have f8 : DataW.trod enc Tryz.prog w base spare held n1 47 (([c0, c1, c2, c3, c4, c5, c6, c7, c8, c9, c10, c11, c12, c13].drop 8).take (Tryz.prog.cellsOf 47)) = xs[8]? := hf 8 _ rfl
    rw [k37] at f8
    obtain ⟨op, rfl⟩ := int_ _ 0 _ _ (ok 0 (by omega)) f0
    obtain ⟨day, rfl⟩ := int_ _ 0 _ _ (ok 1 (by omega)) f1
    obtain ⟨part, rfl, s2⟩ := str_ _ 0 _ _ (ok 2 (by omega)) f2
    obtain ⟨kind, rfl, s3⟩ := str_ _ 0 _ _ (ok 3 (by omega)) f3
    obtain ⟨into, rfl, s4⟩ := str_ _ 0 _ _ (ok 4 (by omega)) f4
    obtain ⟨slot, rfl, s5⟩ := str_ _ 0 _ _ (ok 5 (by omega)) f5
    obtain ⟨key, rfl, s6⟩ := str_ _ 0 _ _ (ok 6 (by omega)) f6
    obtain ⟨value, rfl, s7⟩ := str_ _ 0 _ _ (ok 7 (by omega)) f7
    have h8 := ok 8 (by omega)
    cases hx8 : xs[8]? with
    | none => rw [hx8] at h8; cases h8
    | some z8 =>
      rw [hx8] at f8
      obtain ⟨ys, n2, _, _, _, hyl, hg⟩ := DataW.trod_struct Tryz.underlying47 f8
      have iv : ∀ (c d : Value) (z : Option (DataW H × List MemPlace)), z.isSome = true → DataW.trod enc Tryz.prog w base spare held n2 45 [c, d] = z → ∃ a b : Int, c = .int .i64 a ∧ d = .int .i64 b := fun c d z hz ht => by
        cases z with
        | none => cases hz
        | some z =>
          obtain ⟨zs, n3, _, _, _, hzl, hh⟩ := DataW.trod_struct Tryz.underlying45 ht
          have g0 : DataW.trod enc Tryz.prog w base spare held n3 3 (([c, d].drop 0).take (Tryz.prog.cellsOf 3)) = zs[0]? := hh 0 _ rfl
          have g1 : DataW.trod enc Tryz.prog w base spare held n3 3 (([c, d].drop 1).take (Tryz.prog.cellsOf 3)) = zs[1]? := hh 1 _ rfl
          rw [k3] at g0 g1
          obtain ⟨a, ha⟩ := int_ _ 0 c _ (by rw [List.getElem?_eq_getElem (by rw [hzl]; exact (by decide : 0 < 2))]; rfl) g0
          obtain ⟨b, hb⟩ := int_ _ 0 d _ (by rw [List.getElem?_eq_getElem (by rw [hzl]; exact (by decide : 1 < 2))]; rfl) g1
          exact ⟨a, b, ha, hb⟩
      have oky : ∀ i, i < 3 → (ys[i]?).isSome = true := fun i hi => by rw [List.getElem?_eq_getElem (by rw [hyl]; exact hi)]; rfl
      have g0 : DataW.trod enc Tryz.prog w base spare held n2 45 (([c8, c9, c10, c11, c12, c13].drop 0).take (Tryz.prog.cellsOf 45)) = ys[0]? := hg 0 _ rfl
      have g1 : DataW.trod enc Tryz.prog w base spare held n2 45 (([c8, c9, c10, c11, c12, c13].drop 2).take (Tryz.prog.cellsOf 45)) = ys[1]? := hg 1 _ rfl
      have g2 : DataW.trod enc Tryz.prog w base spare held n2 45 (([c8, c9, c10, c11, c12, c13].drop 4).take (Tryz.prog.cellsOf 45)) = ys[2]? := hg 2 _ rfl
      rw [k35] at g0 g1 g2
      obtain ⟨kl, kh, rfl, rfl⟩ := iv _ _ _ (oky 0 (by omega)) g0
      obtain ⟨cl, ch, rfl, rfl⟩ := iv _ _ _ (oky 1 (by omega)) g1
      obtain ⟨ll, lh, rfl, rfl⟩ := iv _ _ _ (oky 2 (by omega)) g2
      exact ⟨⟨op, day, part, kind, into, slot, key, value, kl, kh, cl, ch, ll, lh⟩, rfl, s2, s3, s4, s5, s6, s7⟩

/-- A slice of events. -/
theorem open_evs {n : Nat} {v : Value} {y : DataW H × List MemPlace} (h : DataW.trod enc Tryz.prog w base spare held n 26 [v] = some y) :
    ∃ l : List Ev, Sl w v l.length 14 (evF l) ∧ (∀ e ∈ l, e.short) ∧ l.length ≤ maxLen := by
  obtain ⟨A, c, l, hv, hn, hc, h1⟩ := open_rows noEv (fun cs (e : Ev) => cs = e.cells.toList ∧ e.short) Tryz.underlying26 (by kernel_rfl : Tryz.prog.cellsOf 49 = 14) (by omega) (fun m cs y h hl => open_ev h hl) h
  refine ⟨l, ⟨A, c, hv, hn, ?_⟩, ?_, by omega⟩
  · rcases h1 with h0 | ⟨b, o, hA, hi⟩
    · exact .inl h0
    · refine .inr ⟨b, o, hA, fun j hj => ?_⟩
      have hlt : j / 14 < l.length := by omega
      obtain ⟨cs, ⟨rfl, _⟩, _, hcell⟩ := hi (j / 14) l[j / 14] (List.getElem?_eq_getElem hlt)
      have hm : j % 14 < (l[j / 14]).cells.size := by simp [Ev.cells]; omega
      have h2 := hcell (j % 14) ((l[j / 14]).cells[j % 14]) (by rw [Array.getElem?_toList, Array.getElem?_eq_getElem hm])
      rw [show o + j / 14 * 14 + j % 14 = o + j by omega] at h2
      rw [h2]
      unfold evF
      rw [List.getD_eq_getElem?_getD, List.getElem?_eq_getElem hlt, Option.getD_some, Array.getElem?_eq_getElem hm]; rfl
  · intro e he
    obtain ⟨i, hi', rfl⟩ := List.getElem_of_mem he
    rcases h1 with h0 | ⟨b, o, hA, hi⟩
    · omega
    · obtain ⟨cs, ⟨_, hs⟩, _⟩ := hi i l[i] (List.getElem?_eq_getElem hi')
      exact hs
set_option maxRecDepth 100000 in
/-- A slice of reports. -/
theorem open_reps {n : Nat} {v : Value} {y : DataW H × List MemPlace} (h : DataW.trod enc Tryz.prog w base spare held n 22 [v] = some y) :
    ∃ L : List Rep, Reps w v L ∧ (∀ r ∈ L, ∀ e ∈ r.opts, e.short) ∧ L.length ≤ maxLen ∧ ∀ r ∈ L, r.opts.length ≤ maxLen := by
  have hR : ∀ m cs y, DataW.trod enc Tryz.prog w base spare held m 31 cs = some y → cs.length = 2 → ∃ r : Rep, ∃ sv, cs = [sv, .bool r.doubt] ∧ Sl w sv r.opts.length 14 (evF r.opts) ∧ (∀ e ∈ r.opts, e.short) ∧ r.opts.length ≤ maxLen := by
    intro m cs y h hl
    obtain ⟨xs, n1, rfl, _, _, hxl, hf⟩ := DataW.trod_struct Tryz.underlying31 h
    have ok : ∀ i, i < 2 → (xs[i]?).isSome = true := fun i hi => by rw [List.getElem?_eq_getElem (by rw [hxl]; exact hi)]; rfl
    match cs, hl with
    | [c0, c1], _ =>
      have k27 : Tryz.prog.cellsOf 26 = 1 := by kernel_rfl
      have k4 : Tryz.prog.cellsOf 4 = 1 := by kernel_rfl
      have f0 : DataW.trod enc Tryz.prog w base spare held n1 26 (([c0, c1].drop 0).take (Tryz.prog.cellsOf 26)) = xs[0]? := hf 0 _ rfl
      have f1 : DataW.trod enc Tryz.prog w base spare held n1 4 (([c0, c1].drop 1).take (Tryz.prog.cellsOf 4)) = xs[1]? := hf 1 _ rfl
      rw [k27] at f0
      rw [k4] at f1
      have o0 := ok 0 (by omega)
      have o1 := ok 1 (by omega)
      cases hx0 : xs[0]? with
      | none => rw [hx0] at o0; cases o0
      | some z0 =>
        cases hx1 : xs[1]? with
        | none => rw [hx1] at o1; cases o1
        | some z1 =>
          rw [hx0] at f0
          rw [hx1] at f1
          obtain ⟨l, h1, h2, h3⟩ := open_evs (v := c0) f0
          obtain ⟨b, hb, _⟩ := DataW.trod_bool Tryz.underlying4 f1
          have hb' : c1 = .bool b := by simpa using hb
          exact ⟨⟨l, b⟩, c0, by rw [hb'], h1, h2, h3⟩
  obtain ⟨A, c, l, hv, hn, hc, h1⟩ := open_rows noRep (fun cs (r : Rep) => ∃ sv, cs = [sv, .bool r.doubt] ∧ Sl w sv r.opts.length 14 (evF r.opts) ∧ (∀ e ∈ r.opts, e.short) ∧ r.opts.length ≤ maxLen) Tryz.underlying22 (by kernel_rfl : Tryz.prog.cellsOf 31 = 2) (by omega) hR h
  have each : ∀ r ∈ l, (∀ e ∈ r.opts, e.short) ∧ r.opts.length ≤ maxLen := by
    intro e he
    obtain ⟨i, hi', rfl⟩ := List.getElem_of_mem he
    rcases h1 with h0 | ⟨b, o, hA, hi⟩
    · omega
    · obtain ⟨cs, ⟨sv, _, _, hs⟩, _⟩ := hi i l[i] (List.getElem?_eq_getElem hi')
      exact hs
  refine ⟨l, ⟨A, c, hv, hn, ?_⟩, fun r hr => (each r hr).1, by omega, fun r hr => (each r hr).2⟩
  rcases h1 with h0 | ⟨b, o, hA, hi⟩
  · exact .inl h0
  · refine .inr ⟨b, o, hA, fun i hlt => ?_⟩
    obtain ⟨cs, ⟨sv, rfl, hs, _⟩, _, hcell⟩ := hi i l[i] (List.getElem?_eq_getElem hlt)
    have e : l.getD i noRep = l[i] := by rw [List.getD_eq_getElem?_getD, List.getElem?_eq_getElem hlt]; rfl
    rw [e]
    exact ⟨sv, hcell 0 sv rfl, hcell 1 _ rfl, hs⟩
/-- A slice of numbers. -/
theorem open_nums {n : Nat} {v : Value} {y : DataW H × List MemPlace} (h : DataW.trod enc Tryz.prog w base spare held n 23 [v] = some y) :
    ∃ l : List Int, Sl w v l.length 1 (intF l) ∧ l.length ≤ maxLen := by
  obtain ⟨A, c, l, hv, hn, hc, h1⟩ := open_rows (0 : Int) (fun cs (a : Int) => cs = [.int .i64 a]) Tryz.underlying23 (by kernel_rfl : Tryz.prog.cellsOf 3 = 1) (by omega) (fun m cs y h hl => by
    obtain ⟨a, ha, _⟩ := DataW.trod_int Tryz.underlying3 h; exact ⟨a, ha⟩) h
  refine ⟨l, ⟨A, c, hv, hn, ?_⟩, by omega⟩
  rcases h1 with h0 | ⟨b, o, hA, hi⟩
  · exact .inl h0
  · refine .inr ⟨b, o, hA, fun j hj => ?_⟩
    obtain ⟨cs, rfl, _, hcell⟩ := hi j (l[j]'(by omega)) (List.getElem?_eq_getElem (by omega))
    have := hcell 0 _ rfl
    rw [Nat.mul_one, Nat.add_zero] at this
    rw [this]
    unfold intF
    rw [List.getD_eq_getElem?_getD, List.getElem?_eq_getElem (by omega)]; rfl
end
end Go.Proofs.YtjlpllnhefafkaaGreatDoor
namespace Go.Proofs.YtjlpllnhefafkaaGreatDoor
open Go Go.RowKit Go.ChangeShapes Go.WideShapes Go.Deep
section
variable {H : Type} {enc : TypeId × Value → H} {w : World} {base : Nat} {spare : Nat → Bool} {held : Bool}
set_option maxRecDepth 100000 in
theorem open_rep {m : Nat} {cs : List Value} {y : DataW H × List MemPlace} (h : DataW.trod enc Tryz.prog w base spare held m 31 cs = some y) (hl : cs.length = 2) :
    ∃ r : Rep, ∃ sv, cs = [sv, .bool r.doubt] ∧ Sl w sv r.opts.length 14 (evF r.opts) ∧ (∀ e ∈ r.opts, e.short) ∧ r.opts.length ≤ maxLen := by
  obtain ⟨xs, n1, rfl, _, _, hxl, hf⟩ := DataW.trod_struct Tryz.underlying31 h
  have ok : ∀ i, i < 2 → (xs[i]?).isSome = true := fun i hi => by rw [List.getElem?_eq_getElem (by rw [hxl]; exact hi)]; rfl
  match cs, hl with
  | [c0, c1], _ =>
    have k27 : Tryz.prog.cellsOf 26 = 1 := by kernel_rfl
    have k4 : Tryz.prog.cellsOf 4 = 1 := by kernel_rfl
    have f0 : DataW.trod enc Tryz.prog w base spare held n1 26 (([c0, c1].drop 0).take (Tryz.prog.cellsOf 26)) = xs[0]? := hf 0 _ rfl
    have f1 : DataW.trod enc Tryz.prog w base spare held n1 4 (([c0, c1].drop 1).take (Tryz.prog.cellsOf 4)) = xs[1]? := hf 1 _ rfl
    rw [k27] at f0
    rw [k4] at f1
    have o0 := ok 0 (by omega)
    have o1 := ok 1 (by omega)
    cases hx0 : xs[0]? with
    | none => rw [hx0] at o0; cases o0
    | some z0 =>
      cases hx1 : xs[1]? with
      | none => rw [hx1] at o1; cases o1
      | some z1 =>
        rw [hx0] at f0
        rw [hx1] at f1
        obtain ⟨l, h1, h2, h3⟩ := open_evs (v := c0) f0
        obtain ⟨b, hb, _⟩ := DataW.trod_bool Tryz.underlying4 f1
        have hb' : c1 = .bool b := by simpa using hb
        exact ⟨⟨l, b⟩, c0, by rw [hb'], h1, h2, h3⟩
end
end Go.Proofs.YtjlpllnhefafkaaGreatDoor
namespace Go.Proofs.YtjlpllnhefafkaaGreatDoor
open Go Go.RowKit Go.ChangeShapes Go.WideShapes Go.ChangeAt
section
variable {H : Type} {enc : TypeId × Value → H} {P : Program} {W W' : World}
theorem trodAll_below (hl : laidOutB P = true) (hb : Below W.heap.size W W') : ∀ (ts : List TypeId) (vs : List Value) (ds : List (DataW H)) (ps : List MemPlace),
    (ts.all fun t => P.readableRec t && decide (t < P.types.size)) = true → DataW.TrodAll enc P W 0 (fun _ => true) true ts vs ds ps → (∀ x ∈ ps, x.block < W.heap.size) →
    DataW.TrodAll enc P W' 0 (fun b => decide (b < W.heap.size)) true ts vs ds ps
  | [], vs, ds, ps, _, h, _ => by
    obtain ⟨rfl, rfl, rfl⟩ := trodAll_nil h
    exact trodAll_mk0
  | t :: ts, vs, ds, ps, ht, h, hp => by
    obtain ⟨v, vs', d, ds', p, q, rfl, rfl, rfl, h1, h2⟩ := trodAll_cons h
    simp only [List.all_cons, Bool.and_eq_true, decide_eq_true_eq] at ht
    exact trodAll_cons_mk (Below.trod hl ht.1.1 ht.1.2 h1 hb fun x hx => hp x (List.mem_append.2 (.inl hx))) (trodAll_below hl hb ts vs' ds' q ht.2 h2 fun x hx => hp x (List.mem_append.2 (.inr hx)))
/-- What a law owes behind its walk. -/
theorem law_post {f : Func} {s : ChangeSpec} {args : Array Value} {ds gs : List (DataW H)} {before : List MemPlace} {T : TypeId} (hsv : s.vars = []) (hl : laidOutB P = true)
    (hread : (f.params.toList.all fun t => P.readableRec t && decide (t < P.types.size)) = true) (hrt : f.resultTypes = #[T]) (hT : P.underlying T = some .bool)
    (hW : DataW.Whole enc P f.params.toList s.vars false W args.toList ds gs before) (hspec : s.fn H (ds ++ gs) = { results := [.lit (.bool true)], args := ds }) (hb : Below W.heap.size W W') :
    s.post enc P f false true false false W args (.bool true) W' := by
  have hW' := hW
  obtain ⟨p, q, hA, hV, rfl, hfz, hnd⟩ := hW
  rw [hsv] at hV
  obtain ⟨rfl, rfl⟩ := trodVars_none hV
  refine ⟨ds, [], p ++ [], [], p, [], hW', ?_, ?_, ?_, hb.frame _, fun h => by cases h⟩
  · rw [hspec, hrt]
    exact trodAll_cons_mk (shut_bool hT true) trodAll_mk0
  · rw [hspec]
    exact trodAll_below hl hb _ _ _ _ hread hA fun x hx => hW'.lt x (by simpa using hx)
  · rw [hspec, hsv]
    exact rfl
/-- The value that a slice argument is, as a list of one cell. -/
theorem slice_cells {base : Nat} {spare : Nat → Bool} {held : Bool} {t e : TypeId} {v : Value} {d : DataW H} {ps : List MemPlace} {r : Reach} {b0 : Nat} (ht : P.underlying t = some (.slice e))
    (hv : Value.okWide P W r b0 t v) (h : DataW.Trod enc P W base spare held t v d ps) : ∃ fuel, DataW.trod enc P W base spare held fuel t [v] = some (d, ps) := by
  obtain ⟨a, n, c, rfl⟩ := okWide_slice ht hv
  exact h
theorem string_cells {base : Nat} {spare : Nat → Bool} {held : Bool} {t : TypeId} {v : Value} {d : DataW H} {ps : List MemPlace} {r : Reach} {b0 : Nat} (ht : P.underlying t = some .string)
    (hv : Value.okWide P W r b0 t v) (h : DataW.Trod enc P W base spare held t v d ps) : ∃ s : ByteArray, v = .string s ∧ s.size ≤ maxLen := by
  obtain ⟨s, rfl⟩ := okWide_string ht hv
  obtain ⟨fuel, hf⟩ := h
  obtain ⟨a, ha, _, hs⟩ := DataW.trod_string ht hf
  have : s = a := by simpa [Value.cells] using ha
  subst this
  exact ⟨s, rfl, hs⟩
theorem struct_cells {base : Nat} {spare : Nat → Bool} {held : Bool} {t : TypeId} {fs : Array Field} {v : Value} {d : DataW H} {ps : List MemPlace} {r : Reach} {b0 : Nat} (ht : P.underlying t = some (.struct fs))
    (hv : Value.okWide P W r b0 t v) (h : DataW.Trod enc P W base spare held t v d ps) : ∃ cs : Array Value, v = .agg cs ∧ cs.size = P.cellsOf t ∧ ∃ fuel, DataW.trod enc P W base spare held fuel t cs.toList = some (d, ps) := by
  obtain ⟨cs, rfl, hs⟩ := okWide_struct ht hv
  exact ⟨cs, rfl, hs, h⟩
end
theorem own : ownKnob Tryz.prog.godebug = none := by kernel_rfl
theorem laidOut : laidOutB Tryz.prog = true := by kernel_rfl
end Go.Proofs.YtjlpllnhefafkaaGreatDoor
namespace Go.Proofs.YtjlpllnhefafkaaGreatDoor
open Go
/-- The operations that are taken next, in this order (true: its guard is false). -/
structure Plan (_ : List (Nat × Bool)) (G : Prop) : Prop where
  out : G
theorem plI (p : List (Nat × Bool)) {G : Prop} (h : Plan p G) : G := h.out
theorem plE {G : Prop} (h : G) : Plan [] G := ⟨h⟩
section
variable {P : Program} {ops : Array Oper} {md : Region.Mode} {Q : Exit → Act → World → Prop} {S : World → Prop}
theorem plF {i : Nat} {d : Option Tmp} {o : Op} {ty : TypeId} {ps : String} {af : Array Edge} {g : Option (Nat × Bool)} {fuel : Nat} {listed : Array Bool} {a : Act} {w : World} {is : List (Nat × Bool)}
    (h : Plan is (wpAnyH P md ops Q S fuel (listed.setIfInBounds i true) (a.put d undef) w))
    (hi : ops[i]? = some ⟨d, o, ty, ps, af, g⟩ := by exact rfl) (hs : Region.noSelect ops = true := by kernel_rfl) (hf : Region.free md ops listed i = true := by kernel_rfl) (hr : (Region.ready md ops listed).contains i = true := by kernel_rfl)
    (hQ : ∀ c a w, Q (.panic c) (a.put d undef) w → Q (.panic c) a w := by exact fun _ _ _ h => h) (hw : Region.wanted ⟨d, o, ty, ps, af, g⟩ (yielded ops a.tmps) = false := by kernel_rfl) (hS : S w := by assumption) :
    Plan ((i, true) :: is) (wpAnyH P md ops Q S (fuel + 1) listed a w) :=
  ⟨wpAnyH_take hi hs hf hr hQ (.inr ⟨hw, rfl⟩) hS h.out⟩
theorem plR {i : Nat} {d : Option Tmp} {o : Op} {ty : TypeId} {ps : String} {af : Array Edge} {g : Option (Nat × Bool)} {v : Value} {fuel : Nat} {listed : Array Bool} {a : Act} {w : World} {is : List (Nat × Bool)}
    (hy : ∀ w, S w → (execOp a.eval ⟨d, o, ty, ps, af, g⟩).run P w = .ok (.value v) w)
    (h : Plan is (wpAnyH P md ops Q S fuel (listed.setIfInBounds i true) (a.put d v) w))
    (hi : ops[i]? = some ⟨d, o, ty, ps, af, g⟩ := by exact rfl) (hs : Region.noSelect ops = true := by kernel_rfl) (hf : Region.free md ops listed i = true := by kernel_rfl) (hr : (Region.ready md ops listed).contains i = true := by kernel_rfl)
    (hQ : ∀ c a w, Q (.panic c) (a.put d v) w → Q (.panic c) a w := by exact fun _ _ _ h => h) (hw : Region.wanted ⟨d, o, ty, ps, af, g⟩ (yielded ops a.tmps) = true := by rfl) (hS : S w := by assumption) :
    Plan ((i, false) :: is) (wpAnyH P md ops Q S (fuel + 1) listed a w) :=
  ⟨wpAnyH_take hi hs hf hr hQ (.inl ⟨hw, hy⟩) hS h.out⟩
end
end Go.Proofs.YtjlpllnhefafkaaGreatDoor
namespace Go.Proofs.YtjlpllnhefafkaaGreatDoor
open Go
section
variable {P : Program} {ops : Array Oper} {md : Region.Mode} {Q : Exit → Act → World → Prop} {S : World → Prop}
/-- What an operation leaves of a state is that state with a temporary written, or with a deferred call more. -/
theorem wpOp_frame {T : Act → Prop} {j : Nat} {oj : Oper} (hj : ops[j]? = some oj) (keep : ∀ a, T a → ∀ u, T (a.put oj.dst u)) (keepD : ∀ a d, T a → T { a with defers := d :: a.defers })
    {K : Act → World → Prop} {a : Act} {w : World} (hT : T a) (h : wpOp P ops Q j K a w) : wpOp P ops Q j (fun a' w' => T a' ∧ K a' w') a w := by
  unfold wpOp at h ⊢
  simp only [hj] at h ⊢
  split
  · rename_i hw
    simp only [hw, if_true] at h
    rcases h with h | h
    · refine .inl ?_
      unfold Oper.wp at h ⊢
      generalize (execOp a.eval oj).run P w = r at h ⊢
      rcases r with ⟨n, w'⟩ | ⟨x, w'⟩
      · cases n <;> simp only [Oper.upon] at h ⊢
        case value u => exact ⟨keep a hT u, h⟩
        case skip => exact ⟨keep a hT _, h⟩
        case defer d => exact ⟨keep _ (keepD a d hT) _, h⟩
        case enter f args =>
          refine Calls.mono h fun e w'' he => ?_
          cases e <;> first | exact ⟨keep a hT _, he⟩ | exact he
        case row row args => exact Rows.mono h fun u w'' he => ⟨keep a hT u, he⟩
      · cases x <;> simp only [Oper.upon] at h ⊢
        all_goals exact h
    · exact .inr h
  · rename_i hw
    simp only [hw] at h
    exact ⟨keep a hT _, h⟩
/-- A call that in every world that meets S answers v and leaves the world. -/
def CallsIf (P : Program) (ops : Array Oper) (S : World → Prop) (o : Oper) (v : Value) (a : Act) : Prop :=
  Region.wanted o (yielded ops a.tmps) = true ∧ ∃ f args, (∀ w, (execOp a.eval o).run P w = .ok (.enter f args) w) ∧ ∀ w, S w → Calls P f args w fun e w' => e = .returned v ∧ w' = w
theorem CallsIf.step {i : Nat} {o : Oper} {v : Value} {a : Act} (hi : ops[i]? = some o) (h : CallsIf P ops S o v a) {K : Act → World → Prop} {w : World} (hS : S w) (hK : K (a.put o.dst v) w) : wpOp P ops Q i K a w := by
  obtain ⟨hw, f, args, hr, hc⟩ := h
  unfold wpOp
  simp only [hi, hw, if_true]
  refine .inl ?_
  unfold Oper.wp
  rw [hr w]
  simp only [Oper.upon]
  refine (hc w hS).mono ?_
  rintro e w' ⟨rfl, rfl⟩
  exact hK
theorem quiet_first {i : Nat} {oi : Oper} {v : Value} (hi : ops[i]? = some oi) (hsel : ∀ (j : Nat) (o : Oper) cs b, ops[j]? = some o → o.op ≠ .select cs b) (hQ : ∀ c a w, Q (.panic c) (a.put oi.dst v) w → Q (.panic c) a w) :
    ∀ (fuel : Nat) (listed : Array Bool) (a : Act) (w : World),
      (∀ j oj, ops[j]? = some oj → j ≠ i → listed.getD j true = false → (∀ e ∈ oj.after, Region.binds md e = true → e.on ≠ i) → oi.apart ops oj = true) →
      i ∈ Region.ready md ops listed → CallsIf P ops S oi v a → S w →
      wpAnyH P md ops Q S fuel (listed.setIfInBounds i true) (a.put oi.dst v) w → wpAnyH P md ops Q S (fuel + 1) listed a w
  | 0, listed, a, w, _, hr, hy, hS, H => by
    refine ⟨fun h => absurd hr (by rw [h]; exact List.not_mem_nil), fun j hj => ?_⟩
    by_cases hji : j = i
    · exact hji ▸ hy.step hi hS ⟨hS, H⟩
    · have h0 := ready_mono hj hji
      rw [H.1] at h0
      cases h0
  | fuel + 1, listed, a, w, hfree, hr, hy, hS, H => by
    refine ⟨fun h => absurd hr (by rw [h]; exact List.not_mem_nil), fun j hj => ?_⟩
    by_cases hji : j = i
    · exact hji ▸ hy.step hi hS ⟨hS, H⟩
    obtain ⟨hun, oj, hoj, hall⟩ := mem_ready.1 hj
    have hun0 := (mem_ready.1 hr).1
    have hwait : ∀ e ∈ oj.after, Region.binds md e = true → e.on ≠ i := by
      rintro e he hb rfl
      have h1 := hall e he hb
      rcases Nat.lt_or_ge e.on listed.size with h' | h'
      · simp [h'] at hun0 h1; rw [hun0] at h1; cases h1
      · simp [Array.getElem?_eq_none h'] at h1
    have hap := hfree j oj hoj hji hun hwait
    obtain ⟨_, _, h3⟩ := Oper.apart_spec hap
    have hsi := fun cs b => hsel i oi cs b hi
    have h1 := wpOp_putIf (S := fun _ => False) hoj hap hsi (fun cs b => hsel j oj cs b hoj) hQ (.inl ⟨hy.1, fun _ h => h.elim⟩) (H.2 j (ready_mono hj hji))
    have h2 := wpOp_frame (T := CallsIf P ops S oi v) hoj (fun a hT u => by
      unfold CallsIf at hT ⊢
      rw [execOp_put oi hsi a oj.dst u h3, wanted_put oi a oj.dst u h3]
      exact hT) (fun a d hT => hT) hy h1
    refine wpOp_mono (fun a' w' h => ⟨h.2.2.1, quiet_first hi hsel hQ fuel (listed.setIfInBounds j true) a' w' ?_ (ready_mono hr (Ne.symm hji)) h.1 h.2.2.1 ?_⟩) h2
    · intro k ok hk hki hu hno
      refine hfree k ok hk hki ?_ hno
      by_cases hjk : j = k
      · exact hjk ▸ hun
      · rwa [getD_set_ne true hjk] at hu
    · rw [Array.setIfInBounds_comm _ _ hji]
      exact h.2.2.2
/-- As 'plR', for such a call. -/
theorem plC {i : Nat} {d : Option Tmp} {o : Op} {ty : TypeId} {ps : String} {af : Array Edge} {g : Option (Nat × Bool)} {v : Value} {fuel : Nat} {listed : Array Bool} {a : Act} {w : World} (f : FuncId) (args : Array Value)
    (hr : ∀ w, (execOp a.eval ⟨d, o, ty, ps, af, g⟩).run P w = .ok (.enter f args) w) (hc : ∀ w, S w → Calls P f args w fun e w' => e = .returned v ∧ w' = w)
    (h : wpAnyH P md ops Q S fuel (listed.setIfInBounds i true) (a.put d v) w)
    (hi : ops[i]? = some ⟨d, o, ty, ps, af, g⟩) (hs : Region.noSelect ops = true) (hf : Region.free md ops listed i = true) (hrd : (Region.ready md ops listed).contains i = true)
    (hQ : ∀ c a w, Q (.panic c) (a.put d v) w → Q (.panic c) a w) (hw : Region.wanted ⟨d, o, ty, ps, af, g⟩ (yielded ops a.tmps) = true) (hS : S w) :
    wpAnyH P md ops Q S (fuel + 1) listed a w :=
  quiet_first hi (Region.noSelect_spec hs) hQ fuel listed a w (Region.free_spec hi hf) (by simpa using hrd) ⟨hw, f, args, hr, hc⟩ hS h
end
end Go.Proofs.YtjlpllnhefafkaaGreatDoor
namespace Go.Proofs.YtjlpllnhefafkaaGreatDoor
open Go Go.RowKit
def evNames (e : Ev) : List ByteArray := if evOk e then (if e.op = 2 then [Lib.minS e.part e.into, Lib.maxS e.part e.into] else [e.part]) else []
theorem own_lit {w : World} {g t : Nat} {cs : Array Value} {base n sz : Nat} (h : Has w g t cs) (hb : base ≤ g) (hs : cs.size = n * sz) (hn : n ≤ maxLen) :
    w.ownsRow base t sz (.slice (some ⟨g, 0, none⟩) n n) n cs.toList :=
  ⟨by simpa using hs, .inr ⟨g, n, cs, rfl, hb, h, Nat.le_refl _, hn, hs, by rw [List.take_of_length_le (by simp [hs])]⟩⟩
set_option maxRecDepth 100000 in
set_option maxHeartbeats 2000000 in
theorem names_any (e : Ev) (w : World) (hs : e.short) :
    Calls Tryz.prog 31 #[.agg e.cells] w fun r w' => ∃ v', r = .returned v' ∧ w'.ownsRow w.heap.size 9 1 v' (evNames e).length ((evNames e).map .string) ∧ Below w.heap.size w w' := by
  have hv := Lib.hid (fun W => valid_any e W hs)
  clear hs
  cases hok : evOk e
  · have hr := Lib.hid (show evNames e = [] by simp [evNames, hok])
    have HOK := Lib.hid hok
    clear hok
    obtain ⟨op, day, part, kind, into, slot, key, value, kl, kh, cl, ch, ll, lh⟩ := e
    show Calls Tryz.prog 31 #[.agg #[.int .i64 op, .int .i64 day, .string part, .string kind, .string into, .string slot, .string key, .string value, .int .i64 kl, .int .i64 kh, .int .i64 cl, .int .i64 ch, .int .i64 ll, .int .i64 lh]] w _
    go_enter Tryz.func31, Tryz.ntmps31
    go_wp2_with (go_at_call 29; refine (hv.out _).mono ?_; rintro r w2 ⟨rfl, hb2⟩; rw [HOK.out]; obtain ⟨hE2, hB2, hz2⟩ := boxed hb2; obtain ⟨hc2, hf2⟩ := hE2.facts; have HB2 := Lib.hid hB2; clear hb2 hE2 hB2)
    go_ret
    exact ⟨_, rfl, by rw [hr.out]; exact World.ownsRow_nil _ _ _ _, HB2.out⟩
  · by_cases h2 : e.op = 2
    · have hr := Lib.hid (show evNames e = [Lib.minS e.part e.into, Lib.maxS e.part e.into] by simp [evNames, hok, h2])
      have HOK := Lib.hid hok
      clear hok
      obtain ⟨op, day, part, kind, into, slot, key, value, kl, kh, cl, ch, ll, lh⟩ := e
      dsimp only at h2 hr
      subst h2
      have hmn := fun w => Lib.run_min_strs (P := Tryz.prog) w #[9, 9] 9 part into
      have hmx := fun w => Lib.run_max_strs (P := Tryz.prog) w #[9, 9] 9 part into
      show Calls Tryz.prog 31 #[.agg #[.int .i64 2, .int .i64 day, .string part, .string kind, .string into, .string slot, .string key, .string value, .int .i64 kl, .int .i64 kh, .int .i64 cl, .int .i64 ch, .int .i64 ll, .int .i64 lh]] w _
      go_enter Tryz.func31, Tryz.ntmps31
      go_wp2_with (go_at_call 29; refine (hv.out _).mono ?_; rintro r w2 ⟨rfl, hb2⟩; rw [HOK.out]; obtain ⟨hE2, hB2, hz2⟩ := boxed hb2; obtain ⟨hc2, hf2⟩ := hE2.facts; have HB2 := Lib.hid hB2; clear hb2 hE2 hB2)
      go_ret
      refine ⟨_, rfl, ?_, HB2.out.alloc HB2.out.size _⟩
      rw [hr.out]
      exact own_lit (n := 2) (Has.new w2 _ #[.string (Lib.minS part into), .string (Lib.maxS part into)]) HB2.out.size rfl (by simp [maxLen])
    · have hr := Lib.hid (show evNames e = [e.part] by simp [evNames, hok, h2])
      have HOK := Lib.hid hok
      clear hok
      obtain ⟨op, day, part, kind, into, slot, key, value, kl, kh, cl, ch, ll, lh⟩ := e
      dsimp only at h2 hr
      have hb2' : (op == 2) = false := by simpa using h2
      clear h2
      show Calls Tryz.prog 31 #[.agg #[.int .i64 op, .int .i64 day, .string part, .string kind, .string into, .string slot, .string key, .string value, .int .i64 kl, .int .i64 kh, .int .i64 cl, .int .i64 ch, .int .i64 ll, .int .i64 lh]] w _
      go_enter Tryz.func31, Tryz.ntmps31
      go_wp2_with (go_at_call 29; refine (hv.out _).mono ?_; rintro r w2 ⟨rfl, hb2⟩; rw [HOK.out]; obtain ⟨hE2, hB2, hz2⟩ := boxed hb2; obtain ⟨hc2, hf2⟩ := hE2.facts; have HB2 := Lib.hid hB2; clear hb2 hE2 hB2)
      go_ret
      refine ⟨_, rfl, ?_, HB2.out.alloc HB2.out.size _⟩
      rw [hr.out]
      exact own_lit (n := 1) (Has.new w2 _ #[.string part]) HB2.out.size rfl (by simp [maxLen])
end Go.Proofs.YtjlpllnhefafkaaGreatDoor
