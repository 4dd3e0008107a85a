/- Plain words for comparing lists of events. No condition. bogieref09.Same: are two lists of events equal? bogieref13.Same: are two reports equal? No condition. report.Parse: the report of a text. Condition: the table of powers of ten, the error variables, and that bytealg.MaxLen holds a number. -/
import Derived.BigQuiet
import Derived.Deep.QuietTactic
import Derived.Lib.SplitLaws
import Derived.Test.YtjlpllnhefafkaaGreatDoorU01
import Derived.Test.YtjlpllnhefafkaaGreatDoorU07
import Derived.Test.YtjlpllnhefafkaaGreatDoorU08
import Derived.Test.YtjlpllnhefafkaaGreatDoorXF
import Derived.Test.YtjlpllnhefafkaaGreatDoorXI
namespace Go.Proofs.YtjlpllnhefafkaaGreatDoor
open Go Go.RowKit
theorem range_facts {w : World} {b o : Nat} {e : Ev} (h : w.rangeAt b o e.cells.toList) :
    w.cell? ⟨b, o, none⟩ = some (.int .i64 e.op) ∧ w.cell? ⟨b, o + 1, none⟩ = some (.int .i64 e.day) ∧ w.cell? ⟨b, o + 2, none⟩ = some (.string e.part) ∧ w.cell? ⟨b, o + 3, none⟩ = some (.string e.kind) ∧
    w.cell? ⟨b, o + 4, none⟩ = some (.string e.into) ∧ w.cell? ⟨b, o + 5, none⟩ = some (.string e.slot) ∧ w.cell? ⟨b, o + 6, none⟩ = some (.string e.key) ∧ w.cell? ⟨b, o + 7, none⟩ = some (.string e.value) ∧
    w.cell? ⟨b, o + 8, none⟩ = some (.int .i64 e.kl) ∧ w.cell? ⟨b, o + 9, none⟩ = some (.int .i64 e.kh) ∧ w.cell? ⟨b, o + 10, none⟩ = some (.int .i64 e.cl) ∧ w.cell? ⟨b, o + 11, none⟩ = some (.int .i64 e.ch) ∧
    w.cell? ⟨b, o + 12, none⟩ = some (.int .i64 e.ll) ∧ w.cell? ⟨b, o + 13, none⟩ = some (.int .i64 e.lh) :=
  ⟨h 0 _ rfl, h 1 _ rfl, h 2 _ rfl, h 3 _ rfl, h 4 _ rfl, h 5 _ rfl, h 6 _ rfl, h 7 _ rfl, h 8 _ rfl, h 9 _ rfl, h 10 _ rfl, h 11 _ rfl, h 12 _ rfl, h 13 _ rfl⟩
theorem evEq_self (e : Ev) : evEq e e = true := by simp [evEq]
def sameB (l m : List Ev) : Bool := decide (l = m)
theorem sameB_bad {l m : List Ev} {k : Nat} (_h1 : k < l.length) (h2 : k < m.length) (h : evEq (l.getD k noEv) (m.getD k noEv) = false) : sameB l m = false := by
  refine decide_eq_false fun e => ?_
  subst e
  rw [evEq_self] at h; cases h
theorem sameB_len {l m : List Ev} (h : l.length ≠ m.length) : sameB l m = false := decide_eq_false fun e => h (by rw [e])
theorem sameB_end {l m : List Ev} (hl : l.length = m.length) (h : ∀ j, j < l.length → evEq (l.getD j noEv) (m.getD j noEv) = true) : sameB l m = true := by
  refine decide_eq_true ?_
  apply List.ext_getElem? 
  intro j
  by_cases hj : j < l.length
  · have := of_decide_eq_true (h j hj)
    rw [List.getD_eq_getElem?_getD, List.getD_eq_getElem?_getD, List.getElem?_eq_getElem hj, List.getElem?_eq_getElem (by omega)] at this
    rw [List.getElem?_eq_getElem hj, List.getElem?_eq_getElem (by omega)]
    simpa using this
  · rw [List.getElem?_eq_none (by omega), List.getElem?_eq_none (by omega)]
end Go.Proofs.YtjlpllnhefafkaaGreatDoor
namespace Go.Proofs.YtjlpllnhefafkaaGreatDoor
open Go Go.RowKit
set_option maxRecDepth 100000 in
set_option maxHeartbeats 4000000 in
theorem same_any (v u : Value) (l m : List Ev) (w : World) (hv : Sl w v l.length 14 (evF l)) (hu : Sl w u m.length 14 (evF m)) (hl : l.length ≤ 1000000) (_hm : m.length ≤ 1000000) :
    Calls Tryz.prog 10 #[v, u] w fun r w' => r = .returned (.bool (sameB l m)) ∧ Below w.heap.size w w' := by
  obtain ⟨A, c, rfl, hn, hc⟩ := hv
  obtain ⟨A', c', rfl, hn', hc'⟩ := hu
  by_cases hlm : l.length = m.length
  · have hb0 : ((l.length : Int) != (m.length : Int)) = false := by simp; omega
    have HLM := Lib.hid hlm
    have HC := Lib.hid hc
    have HC' := Lib.hid hc'
    clear hc hc' hlm
    go_enter Tryz.func10, Tryz.ntmps10
    go_wp2_with fail
    go_loopw [5] (fun i wr => ∃ k : Nat, k ≤ l.length ∧ i = .int .i64 k ∧ Hid (∀ j, j < k → evEq (l.getD j noEv) (m.getD j noEv) = true) ∧ Below w.heap.size w wr) (fun i _ => l.length - (intOf i).toNat)
    case atStart => exact ⟨0, Nat.zero_le _, rfl, fun j hj => absurd hj (by omega), Below.refl _ _⟩
    case round =>
      obtain ⟨k, hk, rfl, hrel, hB⟩ := hrel
      have HB := Lib.hid hB
      clear hB
      by_cases hlt : k < l.length
      · have hkm : k < m.length := by have := HLM.out; omega
        rcases HC.out with h0 | ⟨b, o, rfl, hc⟩
        · omega
        rcases HC'.out with h0 | ⟨b', o', rfl, hc'⟩
        · omega
        have hrg : wr.rangeAt b (o + k * 14) (l.getD k noEv).cells.toList := ev_range (fun j hj => cell_later HB.out (hc j hj)) hlt
        have hrg' : wr.rangeAt b' (o' + k * 14) (m.getD k noEv).cells.toList := ev_range (fun j hj => cell_later HB.out (hc' j hj)) hkm
        have hbad := Lib.hid (fun h => sameB_bad hlt hkm h)
        have HR : Hid (evEq (l.getD k noEv) (m.getD k noEv) = true → ∀ j, j < k + 1 → evEq (l.getD j noEv) (m.getD j noEv) = true) := fun h j hj => by
          rcases Nat.lt_or_ge j k with h1 | h1
          · exact hrel.out j h1
          · obtain rfl : j = k := by omega
            exact h
        clear hc hc' hrel
        generalize l.getD k noEv = e at *
        generalize m.getD k noEv = f at *
        obtain ⟨op, day, part, kind, into, slot, key, value, kl, kh, cl, ch, ll, lh⟩ := e
        obtain ⟨op2, day2, part2, kind2, into2, slot2, key2, value2, kl2, kh2, cl2, ch2, ll2, lh2⟩ := f
        obtain ⟨e0, e1, e2, e3, e4, e5, e6, e7, e8, e9, e10, e11, e12, e13⟩ := range_facts hrg
        obtain ⟨f0, f1, f2, f3, f4, f5, f6, f7, f8, f9, f10, f11, f12, f13⟩ := range_facts hrg'
        clear hrg hrg'
        dsimp only at e0 e1 e2 e3 e4 e5 e6 e7 e8 e9 e10 e11 e12 e13 f0 f1 f2 f3 f4 f5 f6 f7 f8 f9 f10 f11 f12 f13
        cases he : evEq ⟨op, day, part, kind, into, slot, key, value, kl, kh, cl, ch, ll, lh⟩ ⟨op2, day2, part2, kind2, into2, slot2, key2, value2, kl2, kh2, cl2, ch2, ll2, lh2⟩
        · have hb := Lib.hid (hbad.out he)
          go_wp2_with fail
          go_quiet (fail)
          go_wp2_with fail
          go_ret
          exact ⟨ret_bool (by rw [hb.out]), below_drewN HB.out _⟩
        · have hb := Lib.hid (HR.out he)
          go_wp2_with fail
          go_quiet (fail)
          go_wp2_with fail
          go_roundw
          case rel => exact ⟨k + 1, by omega, by go_num, hb.out, below_drewN HB.out _⟩
          case measure => simp [intOf]; omega
      · obtain rfl : k = l.length := by omega
        have hfin := Lib.hid (sameB_end HLM.out hrel.out)
        clear hrel
        go_wp2_with fail
        go_ret
        exact ⟨ret_bool (by rw [hfin.out]), HB.out⟩
  · have hb0 : ((l.length : Int) != (m.length : Int)) = true := by rw [bne_iff_ne]; omega
    have hb := Lib.hid (sameB_len hlm)
    go_enter Tryz.func10, Tryz.ntmps10
    go_wp2_with fail
    go_ret
    exact ⟨ret_bool (by rw [hb.out]), Below.refl _ _⟩
end Go.Proofs.YtjlpllnhefafkaaGreatDoor
namespace Go.Proofs.YtjlpllnhefafkaaGreatDoor
open Go Go.RowKit
def sameR (a b : Rep) : Bool := decide (a.doubt = b.doubt) && sameB a.opts b.opts
theorem sameR_iff (a b : Rep) : sameR a b = true ↔ a = b := by
  obtain ⟨l, d⟩ := a
  obtain ⟨m, e⟩ := b
  unfold sameR sameB
  simp only [Bool.and_eq_true, decide_eq_true_eq, Rep.mk.injEq]
  exact And.comm
set_option maxRecDepth 100000 in
set_option maxHeartbeats 4000000 in
theorem sameR_eq (v u : Value) (l m : List Ev) (d : Bool) (w : World) (hv : Sl w v l.length 14 (evF l)) (hu : Sl w u m.length 14 (evF m)) (hl : l.length ≤ 1000000) (_hm : m.length ≤ 1000000) :
    Calls Tryz.prog 11 #[.agg #[v, .bool d], .agg #[u, .bool d]] w fun r w' => r = .returned (.bool (sameB l m)) ∧ Below w.heap.size w w' := by
  have hdd : (d != d) = false := bne_self_eq_false d
  obtain ⟨A, c, rfl, hn, hc⟩ := hv
  obtain ⟨A', c', rfl, hn', hc'⟩ := hu
  have HX1 : Hid (Has ((w.alloc (.cells #[.slice A l.length c, .bool d] 31)).alloc (.cells #[.slice A' m.length c', .bool d] 31)) w.heap.size 31 #[.slice A l.length c, .bool d]) := (Has.new w _ _).alloc _
  have HX2 : Hid (Has ((w.alloc (.cells #[.slice A l.length c, .bool d] 31)).alloc (.cells #[.slice A' m.length c', .bool d] 31)) (w.heap.size + 1) 31 #[.slice A' m.length c', .bool d]) := by
    have h := Has.new (w.alloc (.cells #[.slice A l.length c, .bool d] 31)) 31 #[.slice A' m.length c', .bool d]
    rwa [World.size_alloc] at h
  have HXB : Hid (Below w.heap.size w ((w.alloc (.cells #[.slice A l.length c, .bool d] 31)).alloc (.cells #[.slice A' m.length c', .bool d] 31))) := ((Below.refl _ _).alloc (Nat.le_refl _) _).alloc (by simp) _
  by_cases hlm : l.length = m.length
  · have hb0 : ((l.length : Int) != (m.length : Int)) = false := by simp; omega
    have HLM := Lib.hid hlm
    have HC := Lib.hid hc
    have HC' := Lib.hid hc'
    clear hc hc' hlm
    go_enter Tryz.func11, Tryz.ntmps11
    go_wp2_with fail
    go_loopw [5] (fun i wr => ∃ k : Nat, k ≤ l.length ∧ i = .int .i64 k ∧ Hid (∀ j, j < k → evEq (l.getD j noEv) (m.getD j noEv) = true) ∧ Has wr w.heap.size 31 #[.slice A l.length c, .bool d] ∧ Has wr (w.heap.size + 1) 31 #[.slice A' m.length c', .bool d] ∧ Below w.heap.size w wr) (fun i _ => l.length - (intOf i).toNat)
    case atStart => exact ⟨0, Nat.zero_le _, rfl, fun j hj => absurd hj (by omega), HX1.out, HX2.out, HXB.out⟩
    case round =>
      obtain ⟨k, hk, rfl, hrel, hX1, hX2, hB⟩ := hrel
      have HB := Lib.hid hB
      have HR1 := Lib.hid hX1
      have HR2 := Lib.hid hX2
      obtain ⟨c1, _⟩ := hX1.facts
      obtain ⟨c2, _⟩ := hX2.facts
      clear hB hX1 hX2 HX1 HX2 HXB
      by_cases hlt : k < l.length
      · have hkm : k < m.length := by have := HLM.out; omega
        rcases HC.out with h0 | ⟨b, o, rfl, hc⟩
        · omega
        rcases HC'.out with h0 | ⟨b', o', rfl, hc'⟩
        · omega
        have hrg : wr.rangeAt b (o + k * 14) (l.getD k noEv).cells.toList := ev_range (fun j hj => cell_later HB.out (hc j hj)) hlt
        have hrg' : wr.rangeAt b' (o' + k * 14) (m.getD k noEv).cells.toList := ev_range (fun j hj => cell_later HB.out (hc' j hj)) hkm
        have hbad := Lib.hid (fun h => sameB_bad hlt hkm h)
        have HR : Hid (evEq (l.getD k noEv) (m.getD k noEv) = true → ∀ j, j < k + 1 → evEq (l.getD j noEv) (m.getD j noEv) = true) := fun h j hj => by
          rcases Nat.lt_or_ge j k with h1 | h1
          · exact hrel.out j h1
          · obtain rfl : j = k := by omega
            exact h
        clear hc hc' hrel
        generalize l.getD k noEv = e at *
        generalize m.getD k noEv = f at *
        obtain ⟨op, day, part, kind, into, slot, key, value, kl, kh, cl, ch, ll, lh⟩ := e
        obtain ⟨op2, day2, part2, kind2, into2, slot2, key2, value2, kl2, kh2, cl2, ch2, ll2, lh2⟩ := f
        obtain ⟨e0, e1, e2, e3, e4, e5, e6, e7, e8, e9, e10, e11, e12, e13⟩ := range_facts hrg
        obtain ⟨f0, f1, f2, f3, f4, f5, f6, f7, f8, f9, f10, f11, f12, f13⟩ := range_facts hrg'
        clear hrg hrg'
        dsimp only at e0 e1 e2 e3 e4 e5 e6 e7 e8 e9 e10 e11 e12 e13 f0 f1 f2 f3 f4 f5 f6 f7 f8 f9 f10 f11 f12 f13
        cases he : evEq ⟨op, day, part, kind, into, slot, key, value, kl, kh, cl, ch, ll, lh⟩ ⟨op2, day2, part2, kind2, into2, slot2, key2, value2, kl2, kh2, cl2, ch2, ll2, lh2⟩
        · have hb := Lib.hid (hbad.out he)
          go_wp2_with fail
          go_quiet (fail)
          go_wp2_with fail
          go_ret
          exact ⟨ret_bool (by rw [hb.out]), below_drewN HB.out _⟩
        · have hb := Lib.hid (HR.out he)
          go_wp2_with fail
          go_quiet (fail)
          go_wp2_with fail
          go_roundw
          case rel => exact ⟨k + 1, by omega, by go_num, hb.out, HR1.out, HR2.out, below_drewN HB.out _⟩
          case measure => simp [intOf]; omega
      · obtain rfl : k = l.length := by omega
        have hfin := Lib.hid (sameB_end HLM.out hrel.out)
        clear hrel
        go_wp2_with fail
        go_ret
        exact ⟨ret_bool (by rw [hfin.out]), HB.out⟩
  · have hb0 : ((l.length : Int) != (m.length : Int)) = true := by rw [bne_iff_ne]; omega
    have hb := Lib.hid (sameB_len hlm)
    go_enter Tryz.func11, Tryz.ntmps11
    go_wp2_with fail
    go_ret
    exact ⟨ret_bool (by rw [hb.out]), HXB.out⟩
set_option maxRecDepth 100000 in
set_option maxHeartbeats 4000000 in
theorem sameR_no (v u : Value) (l m : List Ev) (d e : Bool) (w : World) (hv : Sl w v l.length 14 (evF l)) (hu : Sl w u m.length 14 (evF m)) (hd : (d != e) = true) :
    Calls Tryz.prog 11 #[.agg #[v, .bool d], .agg #[u, .bool e]] w fun r w' => r = .returned (.bool false) ∧ Below w.heap.size w w' := by
  obtain ⟨A, c, rfl, hn, hc⟩ := hv
  obtain ⟨A', c', rfl, hn', hc'⟩ := hu
  have HXB : Hid (Below w.heap.size w ((w.alloc (.cells #[.slice A l.length c, .bool d] 31)).alloc (.cells #[.slice A' m.length c', .bool e] 31))) := ((Below.refl _ _).alloc (Nat.le_refl _) _).alloc (by simp) _
  clear hc hc'
  cases d with
  | false =>
    cases e with
    | false => cases hd
    | true =>
      clear hd
      go_enter Tryz.func11, Tryz.ntmps11
      go_wp2_with fail
      go_ret
      exact ⟨rfl, HXB.out⟩
  | true =>
    cases e with
    | true => cases hd
    | false =>
      clear hd
      go_enter Tryz.func11, Tryz.ntmps11
      go_wp2_with fail
      go_ret
      exact ⟨rfl, HXB.out⟩
theorem sameR_any (v u : Value) (a b : Rep) (w : World) (hv : Sl w v a.opts.length 14 (evF a.opts)) (hu : Sl w u b.opts.length 14 (evF b.opts)) (hl : a.opts.length ≤ 1000000) (hm : b.opts.length ≤ 1000000) :
    Calls Tryz.prog 11 #[.agg #[v, .bool a.doubt], .agg #[u, .bool b.doubt]] w fun r w' => r = .returned (.bool (sameR a b)) ∧ Below w.heap.size w w' := by
  obtain ⟨l, d⟩ := a
  obtain ⟨m, e⟩ := b
  by_cases h : d = e
  · subst h
    have h1 := sameR_eq v u l m d w hv hu hl hm
    unfold sameR
    rw [decide_eq_true rfl, Bool.true_and]
    exact h1
  · have h1 := sameR_no v u l m d e w hv hu (by rw [bne_iff_ne]; exact h)
    unfold sameR
    rw [decide_eq_false h, Bool.false_and]
    exact h1
end Go.Proofs.YtjlpllnhefafkaaGreatDoor
namespace Go.Proofs.YtjlpllnhefafkaaGreatDoor
open Go Go.RowKit
def Mxl (w0 : World) : Prop := ∃ m, ∀ W, Below w0.heap.size w0 W → W.cell? ⟨0, 0, none⟩ = some (.int .i64 m)
theorem lines_le (s : ByteArray) : (linesB s).length ≤ s.size + 1 := by
  rw [← split_linesB, Lib.splitB_all nlB (by decide) 0 _ s rfl]
  have := Lib.countB_le nlB (by decide) s.size s (Nat.le_refl _)
  omega
theorem line_len : ∀ (l : List UInt8), ∀ x ∈ linesL l, x.length ≤ l.length
  | [], x, h => by
    rw [show linesL [] = [[]] from rfl, List.mem_singleton] at h
    subst h; exact Nat.le_refl _
  | c :: r, x, h => by
    have ih := line_len r
    by_cases hc : c = 10
    · subst hc
      rw [lines_hit] at h
      rcases List.mem_cons.1 h with rfl | h
      · exact Nat.zero_le _
      · exact Nat.le_succ_of_le (ih x h)
    · cases hr : linesL r with
      | nil => exact absurd hr (linesL_ne r)
      | cons a b =>
        rw [lines_miss hc r a b hr] at h
        rw [hr] at ih
        rcases List.mem_cons.1 h with rfl | h
        · exact Nat.succ_le_succ (ih a (List.mem_cons_self ..))
        · exact Nat.le_succ_of_le (ih x (List.mem_cons_of_mem _ h))
theorem line_le {s b : ByteArray} (h : b ∈ linesB s) : b.size ≤ s.size := by
  obtain ⟨x, hx, rfl⟩ := List.mem_map.1 h
  have := line_len _ x hx
  show x.toArray.size ≤ s.data.toList.length
  rw [List.size_toArray]; exact this
theorem split_any (s : ByteArray) (w0 W : World) (hm : Mxl w0) (hb : Below w0.heap.size w0 W) (hs : s.size ≤ 20000) :
    Calls Tryz.prog 23 #[.string s, .string ⟨#[10]⟩] W fun e w' => ∃ bl, e = .returned (.slice (some ⟨bl, 0, none⟩) (linesB s).length (linesB s).length) ∧ Has w' bl 9 ((linesB s).map Value.string).toArray ∧ Below W.heap.size W w' ∧ W.heap.size ≤ bl := by
  obtain ⟨m, hm⟩ := hm
  have h := Tryz.strings_Split s nlB m W (by omega) (hm W hb) (by decide)
  have e := split_linesB s
  have el : Lib.countB s nlB + 1 = (linesB s).length := by rw [← e]; exact (Lib.splitB_all nlB (by decide) 0 _ s rfl).symm
  rw [e, el] at h
  exact h.mono fun e w' ⟨h1, h2⟩ => ⟨_, h1, h2 ▸ Has.new W _ _, h2 ▸ (Below.refl _ _).alloc (Nat.le_refl _) _, Nat.le_refl _⟩
/-- The events of the first k lines behind the first one. -/
def parsed (L : List ByteArray) (k : Nat) : List Ev := ((L.drop 1).take k).map fun l => (parseE l).1
theorem parsed_succ (L : List ByteArray) (k : Nat) (h : k + 1 < L.length) : parsed L (k + 1) = parsed L k ++ [(parseE (L.getD (1 + k) ⟨#[]⟩)).1] := by
  unfold parsed
  rw [take_getD (L.drop 1) k ⟨#[]⟩ (by rw [List.length_drop]; omega), List.map_append]
  have e : (L.drop 1).getD k ⟨#[]⟩ = L.getD (1 + k) ⟨#[]⟩ := by
    rw [List.getD_eq_getElem?_getD, List.getD_eq_getElem?_getD, List.getElem?_drop]
  rw [e]; rfl
theorem parsed_len (L : List ByteArray) (k : Nat) (h : k + 1 ≤ L.length) : (parsed L k).length = k := by
  unfold parsed
  rw [List.length_map, List.length_take, List.length_drop]; omega
theorem read_parsed (L : List ByteArray) (n : Nat) (h : L.length = n + 1) : (readR L).opts = parsed L (n - 1) := by
  unfold readR parsed
  rw [h, Nat.add_sub_cancel, List.drop_take]
theorem parsed_short (L : List ByteArray) (k : Nat) : ∀ e ∈ parsed L k, e.short := by
  intro e he
  obtain ⟨l, _, rfl⟩ := List.mem_map.1 he
  exact parseE_short l
theorem str_cell {w : World} {b : Nat} {L : List ByteArray} (h : Has w b 9 (L.map Value.string).toArray) {j : Nat} (hj : j < L.length) : w.cell? ⟨b, j, none⟩ = some (.string (L.getD j ⟨#[]⟩)) := by
  rw [h.cell j, List.getD_eq_getElem?_getD, List.getElem?_eq_getElem hj]
  simp [hj]
set_option maxRecDepth 100000 in
set_option maxHeartbeats 8000000 in
theorem parseR_big (s : ByteArray) (w : World) (_hs : s.size ≤ maxLen) (hbig : 20000 < s.size) :
    Calls Tryz.prog 8 #[.string s] w fun r w' => r = .returned (.tuple #[.agg #[.slice none 0 0, .bool false], .int .i64 7]) ∧ Below w.heap.size w w' := by
  have hbig' : (20000 : Int) < (s.size : Int) := by omega
  go_enter Tryz.func8, Tryz.ntmps8
  go_wp2_with fail
  refine bodyPost_ret (v := .tuple #[.agg #[.slice none 0 0, .bool false], .int .i64 7]) (by simp [results, Tryz.results8, go_sem]) rfl ?_
  exact ⟨rfl, (Below.refl _ _).alloc (Nat.le_refl _) _⟩
theorem ba_nil {b : ByteArray} (h : b.size = 0) : b = ⟨#[]⟩ := by
  cases b with
  | mk d => exact congrArg ByteArray.mk (Array.eq_empty_of_size_eq_zero h)
theorem put2 {B : Nat} {w V : World} {g t : Nat} {a b : Value} (hb : Below B w V) (hg : B ≤ g) (h : Has V g t #[a, b]) (u v : Value) :
    Has ((V.setCell ⟨g, 0, none⟩ u).setCell ⟨g, 1, none⟩ v) g t #[u, v] ∧ Below B w ((V.setCell ⟨g, 0, none⟩ u).setCell ⟨g, 1, none⟩ v) :=
  ⟨by have h1 := (h.put 0 u).put 1 v; simpa using h1, (hb.setCell (p := ⟨g, 0, none⟩) hg u).setCell (p := ⟨g, 1, none⟩) hg v⟩
set_option maxRecDepth 100000 in
set_option maxHeartbeats 8000000 in
theorem parseR_few (s : ByteArray) (w0 w : World) (hm : Mxl w0) (hb0 : Below w0.heap.size w0 w) (hs : s.size ≤ 20000) (hn : (linesB s).length < 3) :
    Calls Tryz.prog 8 #[.string s] w fun r w' => r = .returned (.tuple #[.agg #[.slice none 0 0, .bool false], .int .i64 8]) ∧ Below w.heap.size w w' := by
  have hbig' : (s.size : Int) ≤ 20000 := by omega
  have HSP := Lib.hid (split_any s w0 _ hm (hb0.trans (((Below.refl w.heap.size w).alloc (Nat.le_refl _) (.cells #[.slice none 0 0, .bool false] 31)).mono hb0.size)) hs)
  have hpos := linesB_pos s
  have hmax := lines_le s
  generalize linesB s = L at *
  obtain ⟨n, hLn⟩ : ∃ n, L.length = n + 1 := ⟨L.length - 1, by omega⟩
  have hn' : (n : Int) < 2 := by omega
  have hMn : ((L.length : Nat) : Int) - 1 = (n : Int) := by omega
  have hnb : (n : Int) ≤ 20001 := by omega
  clear hLn hn hpos hmax
  generalize L.length = M at *
  go_enter Tryz.func8, Tryz.ntmps8
  go_wp2_with (go_at_call 23; refine HSP.out.mono ?_; rintro e w2 ⟨bl, rfl, hL2, hb2, hbl⟩; have HB2 := Lib.hid (((Below.refl w.heap.size w).alloc (Nat.le_refl _) (.cells #[.slice none 0 0, .bool false] 31)).trans (hb2.mono (by simp))); have HZ2 := Lib.hid ((Has.new w 31 #[.slice none 0 0, .bool false]).below hb2 (by simp)); obtain ⟨xz, yz⟩ := HZ2.out.facts; clear hb2)
  obtain ⟨HF, HFB⟩ := put2 HB2.out (Nat.le_refl _) HZ2.out (.slice none 0 0) (.bool false)
  obtain ⟨xf, yf⟩ := HF.facts
  refine bodyPost_ret (v := .tuple #[.agg #[.slice none 0 0, .bool false], .int .i64 8]) (by simp [results, Tryz.results8, go_sem, xf]) rfl ?_
  exact ⟨rfl, HFB⟩
set_option maxRecDepth 100000 in
set_option maxHeartbeats 8000000 in
theorem parseR_many (s : ByteArray) (w0 w : World) (hm : Mxl w0) (hb0 : Below w0.heap.size w0 w) (hs : s.size ≤ 20000) (hn : 6 < (linesB s).length) :
    Calls Tryz.prog 8 #[.string s] w fun r w' => r = .returned (.tuple #[.agg #[.slice none 0 0, .bool false], .int .i64 8]) ∧ Below w.heap.size w w' := by
  have hbig' : (s.size : Int) ≤ 20000 := by omega
  have HSP := Lib.hid (split_any s w0 _ hm (hb0.trans (((Below.refl w.heap.size w).alloc (Nat.le_refl _) (.cells #[.slice none 0 0, .bool false] 31)).mono hb0.size)) hs)
  have hpos := linesB_pos s
  have hmax := lines_le s
  generalize linesB s = L at *
  obtain ⟨n, hLn⟩ : ∃ n, L.length = n + 1 := ⟨L.length - 1, by omega⟩
  have hn' : ¬ ((n : Int) ≤ 5) := by omega
  have hn2 : (2 : Int) ≤ (n : Int) := by omega
  have hMn : ((L.length : Nat) : Int) - 1 = (n : Int) := by omega
  have hnb : (n : Int) ≤ 20001 := by omega
  clear hLn hn hpos hmax
  generalize L.length = M at *
  go_enter Tryz.func8, Tryz.ntmps8
  go_wp2_with (go_at_call 23; refine HSP.out.mono ?_; rintro e w2 ⟨bl, rfl, hL2, hb2, hbl⟩; have HB2 := Lib.hid (((Below.refl w.heap.size w).alloc (Nat.le_refl _) (.cells #[.slice none 0 0, .bool false] 31)).trans (hb2.mono (by simp))); have HZ2 := Lib.hid ((Has.new w 31 #[.slice none 0 0, .bool false]).below hb2 (by simp)); obtain ⟨xz, yz⟩ := HZ2.out.facts; clear hb2)
  obtain ⟨HF, HFB⟩ := put2 HB2.out (Nat.le_refl _) HZ2.out (.slice none 0 0) (.bool false)
  obtain ⟨xf, yf⟩ := HF.facts
  refine bodyPost_ret (v := .tuple #[.agg #[.slice none 0 0, .bool false], .int .i64 8]) (by simp [results, Tryz.results8, go_sem, xf]) rfl ?_
  exact ⟨rfl, HFB⟩
set_option maxRecDepth 100000 in
set_option maxHeartbeats 8000000 in
theorem parseR_last (s : ByteArray) (w0 w : World) (hm : Mxl w0) (hb0 : Below w0.heap.size w0 w) (hs : s.size ≤ 20000) (hn : 3 ≤ (linesB s).length ∧ (linesB s).length ≤ 6) (hla : (linesB s).getD ((linesB s).length - 1) ⟨#[]⟩ ≠ ⟨#[]⟩) :
    Calls Tryz.prog 8 #[.string s] w fun r w' => r = .returned (.tuple #[.agg #[.slice none 0 0, .bool false], .int .i64 8]) ∧ Below w.heap.size w w' := by
  have hbig' : (s.size : Int) ≤ 20000 := by omega
  have HSP := Lib.hid (split_any s w0 _ hm (hb0.trans (((Below.refl w.heap.size w).alloc (Nat.le_refl _) (.cells #[.slice none 0 0, .bool false] 31)).mono hb0.size)) hs)
  have hpos := linesB_pos s
  have hmax := lines_le s
  generalize linesB s = L at *
  obtain ⟨n, hLn⟩ : ∃ n, L.length = n + 1 := ⟨L.length - 1, by omega⟩
  have hn' : (n : Int) ≤ 5 := by omega
  have hn2 : (2 : Int) ≤ (n : Int) := by omega
  have hnM : n < L.length := by omega
  have hnM' : (n : Int) < (L.length : Int) := by omega
  rw [hLn, Nat.add_sub_cancel] at hla
  have HCL := Lib.hid (fun (w : World) (b : Nat) (h : Has w b 9 (L.map Value.string).toArray) => str_cell h hnM)
  generalize L.getD n ⟨#[]⟩ = la at *
  have hle : la.toList.isEmpty = false := by rw [isEmpty_size, decide_eq_false_iff_not]; exact fun h => hla (ba_nil h)
  have hMn : ((L.length : Nat) : Int) - 1 = (n : Int) := by omega
  have hnb : (n : Int) ≤ 20001 := by omega
  clear hLn hn hpos hmax
  generalize L.length = M at *
  go_enter Tryz.func8, Tryz.ntmps8
  go_wp2_with (go_at_call 23; refine HSP.out.mono ?_; rintro e w2 ⟨bl, rfl, hL2, hb2, hbl⟩; have HB2 := Lib.hid (((Below.refl w.heap.size w).alloc (Nat.le_refl _) (.cells #[.slice none 0 0, .bool false] 31)).trans (hb2.mono (by simp))); have HZ2 := Lib.hid ((Has.new w 31 #[.slice none 0 0, .bool false]).below hb2 (by simp)); obtain ⟨xz, yz⟩ := HZ2.out.facts; have xl := HCL.out _ _ hL2; clear hb2 hL2)
  obtain ⟨HF, HFB⟩ := put2 HB2.out (Nat.le_refl _) HZ2.out (.slice none 0 0) (.bool false)
  obtain ⟨xf, yf⟩ := HF.facts
  refine bodyPost_ret (v := .tuple #[.agg #[.slice none 0 0, .bool false], .int .i64 8]) (by simp [results, Tryz.results8, go_sem, xf]) rfl ?_
  exact ⟨rfl, HFB⟩
theorem own_put {w : World} {base e size n g i : Nat} {v u : Value} {xs : List Value} (h : w.ownsRow base e size v n xs) (hg : g < base) : (w.setCell ⟨g, i, none⟩ u).ownsRow base e size v n xs := by
  refine ⟨h.1, ?_⟩
  rcases h.2 with h0 | ⟨g', cap, cur, h1, h2, h3, h4⟩
  · exact .inl h0
  · exact .inr ⟨g', cap, cur, h1, h2, (heap_setCell_other w ⟨g, i, none⟩ g' u (by show g' ≠ g; omega)).trans h3, h4⟩
theorem perhaps_list : (perhapsS.toList) = [112, 101, 114, 104, 97, 112, 115] := by decide +kernel
theorem goodR_parts {L : List ByteArray} (h : goodR L = true) : 3 ≤ L.length ∧ L.length ≤ 6 ∧ L.getD (L.length - 1) ⟨#[]⟩ = ⟨#[]⟩ := by
  unfold goodR at h
  rw [Bool.and_eq_true, decide_eq_true_eq, decide_eq_true_eq] at h
  exact ⟨by omega, by omega, h.2⟩
set_option maxRecDepth 100000 in
set_option maxHeartbeats 8000000 in
theorem parseR_good (s : ByteArray) (w0 w : World) (ht : Tab w0) (hv : Evs w0) (hm : Mxl w0) (hb0 : Below w0.heap.size w0 w) (hs : s.size ≤ 20000) (hg : goodR (linesB s) = true) :
    Calls Tryz.prog 8 #[.string s] w fun r w' => ∃ v, r = .returned (.tuple #[.agg #[v, .bool (parseR s).1.doubt], .int .i64 (parseR s).2]) ∧ Sl w' v (parseR s).1.opts.length 14 (evF (parseR s).1.opts) ∧ Below w.heap.size w w' := by
  have hbig' : (s.size : Int) ≤ 20000 := by omega
  have hP : parseR s = if repOk (readR (linesB s)).opts = true ∧ textR (readR (linesB s)) = s then (readR (linesB s), 0) else (noRep, 8) := by
    unfold parseR
    rw [if_neg (by omega), if_pos hg]
  have HSP := Lib.hid (split_any s w0 _ hm (hb0.trans (((Below.refl w.heap.size w).alloc (Nat.le_refl _) (.cells #[.slice none 0 0, .bool false] 31)).mono hb0.size)) hs)
  obtain ⟨h3, h6, hla⟩ := goodR_parts hg
  have hll : ∀ l ∈ linesB s, l.size ≤ maxLen := fun l h => by have := line_le h; unfold maxLen; omega
  clear hg
  generalize linesB s = L at *
  generalize parseR s = P at *
  obtain ⟨q, hLn⟩ : ∃ q, L.length = q + 1 + 1 := ⟨L.length - 2, by omega⟩
  have hop : (readR L).opts = parsed L q := read_parsed L (q + 1) hLn
  have hdb : (readR L).doubt = decide (L.getD 0 ⟨#[]⟩ = perhapsS) := rfl
  generalize readR L = R at *
  obtain ⟨n, hn⟩ : ∃ n, n = q + 1 := ⟨_, rfl⟩
  rw [hLn, show q + 1 + 1 - 1 = n by omega] at hla
  have HCL := Lib.hid (fun (w : World) (b : Nat) (h : Has w b 9 (L.map Value.string).toArray) (j : Nat) (hj : j < L.length) => str_cell h hj)
  have HLL := Lib.hid (fun (j : Nat) (hj : j < L.length) => hll _ (getD_mem L j ⟨#[]⟩ hj))
  generalize hlast : L.getD n ⟨#[]⟩ = la at *
  have HLA := Lib.hid hlast
  have hle : la.toList.isEmpty = true := by rw [isEmpty_size, hla]; rfl
  have hn' : (n : Int) ≤ 5 := by omega
  have hn2 : (2 : Int) ≤ (n : Int) := by omega
  have hn1 : (1 : Int) ≤ (n : Int) := by omega
  have hnM : n < L.length := by omega
  have hnM' : (n : Int) < (L.length : Int) := by omega
  have h0M' : (0 : Int) < (L.length : Int) := by omega
  have hnL : (n : Int) ≤ (L.length : Int) := by omega
  have hMn : ((L.length : Nat) : Int) - 1 = (n : Int) := by omega
  have hnq : n - 1 = q := by omega
  have HP := Lib.hid hP
  have HQ := Lib.hid (show q ≤ 4 ∧ n = q + 1 ∧ L.length = q + 1 + 1 from ⟨by omega, hn, hLn⟩)
  have HOP := Lib.hid hop
  have HDB := Lib.hid hdb
  generalize hl0 : L.getD 0 ⟨#[]⟩ = l0 at *
  have HL0 := Lib.hid hl0
  have hdd : (l0.toList == [112, 101, 114, 104, 97, 112, 115]) = R.doubt := by rw [← perhaps_list, bytes_beq, hdb]
  obtain ⟨i0, hi, hz0, hq1, hq2⟩ := info_parts info_ev
  have hI := Lib.hid hi
  have hZ0 := Lib.hid hz0
  clear hi hz0
  clear hP hop hdb hn hLn h3 h6 hll hla hl0 hlast
  go_enter Tryz.func8, Tryz.ntmps8
  go_wp2_with (go_at_call 23; refine HSP.out.mono ?_; rintro e w2 ⟨bl, rfl, hL2, hb2, hbl⟩; have HB2 := Lib.hid (((Below.refl w.heap.size w).alloc (Nat.le_refl _) (.cells #[.slice none 0 0, .bool false] 31)).trans (hb2.mono (by simp))); have HZ2 := Lib.hid ((Has.new w 31 #[.slice none 0 0, .bool false]).below hb2 (by simp)); obtain ⟨xz, yz⟩ := HZ2.out.facts; have xl := (HCL.out _ _ hL2 n hnM).trans (by rw [HLA.out]); have x0 := (HCL.out _ _ hL2 0 (by omega)).trans (by rw [HL0.out]); have HL2 := Lib.hid hL2; clear hb2 hL2)
  go_loopw [45] (fun i wr => ∃ k : Nat, k ≤ q ∧ i = .int .i64 k ∧ ∃ v, Has wr w2.heap.size 31 #[v, .bool R.doubt] ∧ wr.ownsRow (w2.heap.size + 1) 49 14 v (parsed L k).length (evCells (parsed L k)) ∧ Has wr bl 9 (L.map Value.string).toArray ∧ Has wr w.heap.size 31 #[.slice none 0 0, .bool false] ∧ Below w.heap.size w wr ∧ w2.heap.size < wr.heap.size) (fun i _ => q - (intOf i).toNat)
  case atStart => exact ⟨0, Nat.zero_le _, rfl, _, Has.new w2 _ _, World.ownsRow_nil _ _ _ _, HL2.out.alloc _, HZ2.out.alloc _, HB2.out.alloc HB2.out.size _, by simp⟩
  case round =>
    obtain ⟨k, hk, rfl, v, hR, hown, hL, hZ, hB, hsz⟩ := hrel
    have hbl2 : bl < w2.heap.size := HL2.out.lt
    have hwl2 : w.heap.size < w2.heap.size := HZ2.out.lt
    have HR := Lib.hid hR
    have HOWN := Lib.hid hown
    have HLN := Lib.hid hL
    have HZ := Lib.hid hZ
    have HB := Lib.hid hB
    have hqq := HQ.out
    have hq4 : q ≤ 4 := hqq.1
    clear xz yz xl x0
    by_cases hlt : k < q
    · have hkL : 1 + k < L.length := by omega
      have xk := HCL.out _ _ hL (1 + k) hkL
      have hli := HLL.out (1 + k) hkL
      have hsucc := Lib.hid (parsed_succ L k (by omega))
      have hsh := parseE_short (L.getD (1 + k) ⟨#[]⟩)
      have hplen := parsed_len L k (by omega)
      have hpe := fun W (hb : Below w.heap.size w W) => parse_any (L.getD (1 + k) ⟨#[]⟩) w0 W ht hv (hb0.trans (hb.mono hb0.size)) hli
      obtain ⟨xr, yr⟩ := hR.facts
      clear hR hown hL hZ hB
      generalize L.getD (1 + k) ⟨#[]⟩ = li at *
      generalize parseE li = pe at *
      obtain ⟨e, er⟩ := pe
      dsimp only at hsucc hsh hpe
      obtain ⟨op, day, part, kind, into, slot, key, value, kl, kh, cl, ch, ll, lh⟩ := e
      have HPE : Hid (∀ W (hb : Below w.heap.size w W), Calls Tryz.prog 24 #[.string li] W fun r w' => r = .returned (.tuple #[.agg #[.int .i64 op, .int .i64 day, .string part, .string kind, .string into, .string slot, .string key, .string value, .int .i64 kl, .int .i64 kh, .int .i64 cl, .int .i64 ch, .int .i64 ll, .int .i64 lh], .int .i64 er]) ∧ Below W.heap.size W w') := hpe
      clear hpe hsh hli hqq
      go_wp2_with (first | (go_at_call 24; refine (HPE.out _ HB.out).mono ?_; rintro e w5 ⟨rfl, hb5⟩; have HR5 := Lib.hid (HR.out.below hb5 hsz); obtain ⟨xr5, yr5⟩ := HR5.out.facts; have HOWN5 := Lib.hid (HOWN.out.kept (row := none) (World.grownBy_of_below hb5) (by cases Value.ownBlock _ <;> simp)); have HLN5 := Lib.hid (HLN.out.below hb5 HLN.out.lt); have HZ5 := Lib.hid (HZ.out.below hb5 HZ.out.lt); have HB5 := Lib.hid (HB.out.trans (hb5.mono HB.out.size)); have hsz5 : w2.heap.size < w5.heap.size := Nat.lt_of_lt_of_le hsz hb5.size; clear hb5 xr yr xk) | (at_builtin; refine wpList_append_own _ rfl (.tmp 55) (.tmp 57) 26 rfl (w2.heap.size + 1) 49 i0 (.agg zeroEv.cells) 14 160 Tryz.underlying26 hI.out hZ0.out hq1 hq2 rfl (by decide) _ _ _ rfl ((HOWN5.out.alloc _).alloc _) ⟨w5.heap.size + 1, 0, none⟩ 1 1 [.int .i64 op, .int .i64 day, .string part, .string kind, .string into, .string slot, .string key, .string value, .int .i64 kl, .int .i64 kh, .int .i64 cl, .int .i64 ch, .int .i64 ll, .int .i64 lh] rfl rfl ?c1 ?c2 ?c3 ?c4 ?c5 ?_))
      case c1 =>
        intro j u hj
        rw [Addr.add_mid, Nat.zero_add]
        have h1 := (Has.new (w5.alloc (.cells #[.int .i64 op, .int .i64 day, .string part, .string kind, .string into, .string slot, .string key, .string value, .int .i64 kl, .int .i64 kh, .int .i64 cl, .int .i64 ch, .int .i64 ll, .int .i64 lh] 49)) 49 #[.int .i64 op, .int .i64 day, .string part, .string kind, .string into, .string slot, .string key, .string value, .int .i64 kl, .int .i64 kh, .int .i64 cl, .int .i64 ch, .int .i64 ll, .int .i64 lh]).cell j
        rw [World.size_alloc] at h1
        exact h1.trans (by simpa using hj)
      case c2 => intro u hu; simp at hu; rcases hu with rfl | rfl | rfl | rfl | rfl | rfl | rfl | rfl | rfl | rfl | rfl | rfl | rfl | rfl <;> rfl
      case c3 => unfold maxLen; omega
      case c4 => omega
      case c5 => simp; omega
      · intro v' w6 hown6 hg6 _
        have hbg : Below (w2.heap.size + 1) ((w5.alloc (.cells #[.int .i64 op, .int .i64 day, .string part, .string kind, .string into, .string slot, .string key, .string value, .int .i64 kl, .int .i64 kh, .int .i64 cl, .int .i64 ch, .int .i64 ll, .int .i64 lh] 49)).alloc (.cells #[.int .i64 op, .int .i64 day, .string part, .string kind, .string into, .string slot, .string key, .string value, .int .i64 kl, .int .i64 kh, .int .i64 cl, .int .i64 ch, .int .i64 ll, .int .i64 lh] 49)) w6 := (Below.refl _ _).grown hg6 (by simp; omega) (fun j hj => (HOWN5.out.lt j hj).1)
        have hR6 := ((HR5.out.alloc (.cells #[.int .i64 op, .int .i64 day, .string part, .string kind, .string into, .string slot, .string key, .string value, .int .i64 kl, .int .i64 kh, .int .i64 cl, .int .i64 ch, .int .i64 ll, .int .i64 lh] 49)).alloc (.cells #[.int .i64 op, .int .i64 day, .string part, .string kind, .string into, .string slot, .string key, .string value, .int .i64 kl, .int .i64 kh, .int .i64 cl, .int .i64 ch, .int .i64 ll, .int .i64 lh] 49)).below hbg (by omega)
        have HR6 := Lib.hid hR6
        obtain ⟨xr6, yr6⟩ := hR6.facts
        have HL6 := Lib.hid (((HLN5.out.alloc (.cells #[.int .i64 op, .int .i64 day, .string part, .string kind, .string into, .string slot, .string key, .string value, .int .i64 kl, .int .i64 kh, .int .i64 cl, .int .i64 ch, .int .i64 ll, .int .i64 lh] 49)).alloc (.cells #[.int .i64 op, .int .i64 day, .string part, .string kind, .string into, .string slot, .string key, .string value, .int .i64 kl, .int .i64 kh, .int .i64 cl, .int .i64 ch, .int .i64 ll, .int .i64 lh] 49)).below hbg (by omega))
        have HZ6 := Lib.hid (((HZ5.out.alloc (.cells #[.int .i64 op, .int .i64 day, .string part, .string kind, .string into, .string slot, .string key, .string value, .int .i64 kl, .int .i64 kh, .int .i64 cl, .int .i64 ch, .int .i64 ll, .int .i64 lh] 49)).alloc (.cells #[.int .i64 op, .int .i64 day, .string part, .string kind, .string into, .string slot, .string key, .string value, .int .i64 kl, .int .i64 kh, .int .i64 cl, .int .i64 ch, .int .i64 ll, .int .i64 lh] 49)).below hbg (by omega))
        have HB6 := Lib.hid ((((HB5.out.alloc HB5.out.size (.cells #[.int .i64 op, .int .i64 day, .string part, .string kind, .string into, .string slot, .string key, .string value, .int .i64 kl, .int .i64 kh, .int .i64 cl, .int .i64 ch, .int .i64 ll, .int .i64 lh] 49)).alloc (by have := HB5.out.size; simp; omega) (.cells #[.int .i64 op, .int .i64 day, .string part, .string kind, .string into, .string slot, .string key, .string value, .int .i64 kl, .int .i64 kh, .int .i64 cl, .int .i64 ch, .int .i64 ll, .int .i64 lh] 49))).trans (hbg.mono (by omega)))
        have hsz6 : w2.heap.size < w6.heap.size := by have := hbg.size; simp at this; omega
        obtain ⟨A6, n6, c6, rfl⟩ : ∃ A n c, v' = .slice A n c := by
          rcases hown6.2 with ⟨rfl, _⟩ | ⟨g, cap, cur, rfl, _⟩
          · exact ⟨_, _, _, rfl⟩
          · exact ⟨_, _, _, rfl⟩
        have HOWN6 := Lib.hid hown6
        clear hown6 hg6 hbg hR6 xr5 yr5
        go_wp2_with fail
        go_roundw
        case rel => exact ⟨k + 1, by omega, by go_num, .slice A6 n6 c6, by have h := HR6.out.put 0 (.slice A6 n6 c6); simpa using h, by
          rw [hsucc.out, List.length_append]
          have h := HOWN6.out
          have e : evCells (parsed L k ++ [⟨op, day, part, kind, into, slot, key, value, kl, kh, cl, ch, ll, lh⟩]) = evCells (parsed L k) ++ [.int .i64 op, .int .i64 day, .string part, .string kind, .string into, .string slot, .string key, .string value, .int .i64 kl, .int .i64 kh, .int .i64 cl, .int .i64 ch, .int .i64 ll, .int .i64 lh] := by simp [evCells, Ev.cells]
          have e2 : (parsed L k).length + [(⟨op, day, part, kind, into, slot, key, value, kl, kh, cl, ch, ll, lh⟩ : Ev)].length = k + 1 := by rw [hplen]; rfl
          rw [e, e2]; exact own_put h (by omega), HL6.out.far _ (by show bl ≠ w2.heap.size; omega) _, HZ6.out.far _ (by show w.heap.size ≠ w2.heap.size; omega) _, HB6.out.setCell (p := ⟨w2.heap.size, 0, none⟩) (by show w.heap.size ≤ w2.heap.size; omega) (.slice A6 n6 c6), by simpa using hsz6⟩
        case measure => simp [intOf]; omega
    · obtain rfl : k = q := by omega
      have hsl := sl_own hown
      have hshort : ∀ e ∈ R.opts, e.short := by rw [HOP.out]; exact parsed_short L k
      have hRl : R.opts.length = k := by rw [HOP.out]; exact parsed_len L k (by omega)
      rw [← HOP.out] at hsl
      have HOWN2 := Lib.hid hown
      have htx := Lib.hid (repText_any v R w0 wr ht (hb0.trans (hB.mono hb0.size)) hsl hshort (by omega))
      have HSL := Lib.hid hsl
      obtain ⟨xr, yr⟩ := hR.facts
      obtain ⟨xz, yz⟩ := hZ.facts
      clear hR hown hL hZ hB hsl hshort hRl hqq
      by_cases hok : repOk R.opts = true
      · rw [if_pos hok, if_pos hok] at htx
        generalize hbb : ((textR R).toList == s.toList) = bb
        rw [bytes_beq] at hbb
        cases bb
        · have hne := of_decide_eq_false hbb
          have hp := HP.out
          rw [if_neg (fun h => hne h.2)] at hp
          subst hp
          have HNE := Lib.hid (show ((textR R).toList == s.toList) = false by rw [bytes_beq]; exact decide_eq_false hne)
          clear hbb hne
          go_wp2_with (go_at_call 12; refine htx.out.mono ?_; rintro e w6 ⟨rfl, hb6⟩; have hne2 := HNE.out; have HZ6 := Lib.hid (HZ.out.below hb6 HZ.out.lt); obtain ⟨xz6, yz6⟩ := HZ6.out.facts; have HB6 := Lib.hid (HB.out.trans (hb6.mono HB.out.size)); clear hb6 xz yz)
          obtain ⟨HF, HFB⟩ := put2 HB6.out (Nat.le_refl _) HZ6.out (.slice none 0 0) (.bool false)
          obtain ⟨xf, yf⟩ := HF.facts
          refine bodyPost_ret (v := .tuple #[.agg #[.slice none 0 0, .bool false], .int .i64 8]) (by simp [results, Tryz.results8, go_sem, xf]) rfl ?_
          exact ⟨_, rfl, ⟨_, _, rfl, Nat.le_refl _, .inl rfl⟩, HFB⟩
        · have heq := of_decide_eq_true hbb
          have hp := HP.out
          rw [if_pos ⟨hok, heq⟩] at hp
          subst hp
          have HNE := Lib.hid (show ((textR R).toList == s.toList) = true by rw [bytes_beq]; exact decide_eq_true heq)
          obtain ⟨A, c, rfl, hn⟩ := sl_len HSL.out
          clear hbb heq
          go_wp2_with (go_at_call 12; refine htx.out.mono ?_; rintro e w6 ⟨rfl, hb6⟩; have hne2 := HNE.out; have HZ6 := Lib.hid (HZ.out.below hb6 HZ.out.lt); obtain ⟨xz6, yz6⟩ := HZ6.out.facts; have HB6 := Lib.hid (HB.out.trans (hb6.mono HB.out.size)); have HR6 := Lib.hid (HR.out.below hb6 HR.out.lt); obtain ⟨xr6, yr6⟩ := HR6.out.facts; have HOWN6 := Lib.hid (HOWN2.out.kept (row := none) (World.grownBy_of_below hb6) (by cases Value.ownBlock _ <;> simp)); clear hb6 xz yz)
          obtain ⟨HF, HFB⟩ := put2 HB6.out (Nat.le_refl _) HZ6.out (.slice A R.opts.length c) (.bool R.doubt)
          obtain ⟨xf, yf⟩ := HF.facts
          refine bodyPost_ret (v := .tuple #[.agg #[.slice A R.opts.length c, .bool R.doubt], .int .i64 0]) (by simp [results, Tryz.results8, go_sem, xf]) rfl ?_
          have hs6 := sl_own (own_put (i := 1) (u := .bool R.doubt) (own_put (i := 0) (u := .slice A R.opts.length c) HOWN6.out (by omega : w.heap.size < w2.heap.size + 1)) (by omega : w.heap.size < w2.heap.size + 1))
          rw [← HOP.out] at hs6
          exact ⟨_, rfl, hs6, HFB⟩
      · rw [if_neg hok, if_neg hok] at htx
        have hp := HP.out
        rw [if_neg (fun h => hok h.1)] at hp
        subst hp
        go_wp2_with (go_at_call 12; refine htx.out.mono ?_; rintro e w6 ⟨rfl, hb6⟩; have HZ6 := Lib.hid (HZ.out.below hb6 HZ.out.lt); obtain ⟨xz6, yz6⟩ := HZ6.out.facts; have HB6 := Lib.hid (HB.out.trans (hb6.mono HB.out.size)); clear hb6 xz yz)
        obtain ⟨HF, HFB⟩ := put2 HB6.out (Nat.le_refl _) HZ6.out (.slice none 0 0) (.bool false)
        obtain ⟨xf, yf⟩ := HF.facts
        refine bodyPost_ret (v := .tuple #[.agg #[.slice none 0 0, .bool false], .int .i64 8]) (by simp [results, Tryz.results8, go_sem, xf]) rfl ?_
        exact ⟨_, rfl, ⟨_, _, rfl, Nat.le_refl _, .inl rfl⟩, HFB⟩
theorem parseR_any (s : ByteArray) (w0 w : World) (ht : Tab w0) (hv : Evs w0) (hm : Mxl w0) (hb0 : Below w0.heap.size w0 w) (hs : s.size ≤ maxLen) :
    Calls Tryz.prog 8 #[.string s] w fun r w' => ∃ v, r = .returned (.tuple #[.agg #[v, .bool (parseR s).1.doubt], .int .i64 (parseR s).2]) ∧ Sl w' v (parseR s).1.opts.length 14 (evF (parseR s).1.opts) ∧ Below w.heap.size w w' := by
  by_cases hbig : 20000 < s.size
  · refine (parseR_big s w hs hbig).mono ?_
    rintro e w' ⟨rfl, hb⟩
    unfold parseR
    rw [if_pos hbig]
    exact ⟨_, rfl, ⟨_, _, rfl, Nat.le_refl _, .inl rfl⟩, hb⟩
  · have hle : s.size ≤ 20000 := by omega
    by_cases hg : goodR (linesB s) = true
    · exact parseR_good s w0 w ht hv hm hb0 hle hg
    · have hp : parseR s = (noRep, 8) := by unfold parseR; rw [if_neg hbig, if_neg hg]
      have h8 : Calls Tryz.prog 8 #[.string s] w fun r w' => r = .returned (.tuple #[.agg #[.slice none 0 0, .bool false], .int .i64 8]) ∧ Below w.heap.size w w' := by
        by_cases h1 : (linesB s).length < 3
        · exact parseR_few s w0 w hm hb0 hle h1
        · by_cases h2 : 6 < (linesB s).length
          · exact parseR_many s w0 w hm hb0 hle h2
          · refine parseR_last s w0 w hm hb0 hle ⟨by omega, by omega⟩ fun h => hg ?_
            unfold goodR
            rw [Bool.and_eq_true, decide_eq_true_eq, decide_eq_true_eq]
            exact ⟨by omega, h⟩
      refine h8.mono ?_
      rintro e w' ⟨rfl, hb⟩
      rw [hp]
      exact ⟨_, rfl, ⟨_, _, rfl, Nat.le_refl _, .inl rfl⟩, hb⟩
end Go.Proofs.YtjlpllnhefafkaaGreatDoor
