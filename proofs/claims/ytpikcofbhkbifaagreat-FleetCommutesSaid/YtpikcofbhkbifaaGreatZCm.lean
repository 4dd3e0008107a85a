/- bogielaw10.common: have two lists a common text? Two events as a slice. bogielaw10.FleetCommutes returns true: the walk. For every catalog, state and two events bogielaw10.FleetCommutes returns true, and leaves them alone. No condition of its own. -/
import Derived.Test.YtpikcofbhkbifaaGreatRows
import Derived.Test.YtpikcofbhkbifaaGreatU26
import Derived.Test.YtpikcofbhkbifaaGreatU27
namespace Go.Proofs.YtpikcofbhkbifaaGreat
open Go Go.RowKit
def comH (m : List ByteArray) (x : ByteArray) : Bool := m.any fun y => decide (x = y)
def comB (l m : List ByteArray) : Bool := l.any (comH m)
theorem comB_no {l m : List ByteArray} (h : comB l m = false) : ∀ x ∈ l, ¬ x ∈ m := by
  intro x hx hm
  unfold comB at h
  rw [List.any_eq_false] at h
  apply h x hx
  unfold comH
  rw [List.any_eq_true]
  exact ⟨x, hm, decide_eq_true rfl⟩
theorem comH_yes {m : List ByteArray} {x : ByteArray} {q : Nat} (hq : q < m.length) (h : (x.toList == (m.getD q ByteArray.empty).toList) = true) : comH m x = true := by
  rw [bytes_beq, decide_eq_true_iff] at h
  unfold comH
  rw [List.any_eq_true]
  exact ⟨m.getD q ByteArray.empty, getD_mem m q _ hq, decide_eq_true h⟩
theorem comH_no {m : List ByteArray} {x : ByteArray} (h : ∀ j, j < m.length → (x.toList == (m.getD j ByteArray.empty).toList) = false) : comH m x = false := by
  unfold comH
  rw [List.any_eq_false]
  intro y hy
  obtain ⟨j, hj, he⟩ := List.getElem_of_mem hy
  have := h j hj
  rw [List.getD_eq_getElem?_getD, List.getElem?_eq_getElem hj, Option.getD_some, he, bytes_beq] at this
  rw [this]; decide
theorem comB_yes {l m : List ByteArray} {k : Nat} (hk : k < l.length) (h : comH m (l.getD k ByteArray.empty) = true) : comB l m = true := by
  unfold comB
  rw [List.any_eq_true]
  exact ⟨_, getD_mem l k _ hk, h⟩
theorem comB_none {l m : List ByteArray} (h : ∀ j, j < l.length → comH m (l.getD j ByteArray.empty) = false) : comB l m = false := by
  unfold comB
  rw [List.any_eq_false]
  intro y hy
  obtain ⟨j, hj, he⟩ := List.getElem_of_mem hy
  have := h j hj
  rw [List.getD_eq_getElem?_getD, List.getElem?_eq_getElem hj, Option.getD_some, he] at this
  rw [this]; decide
theorem evF_two (e f : Ev) : ∀ j, j < 2 * 14 → (e.cells ++ f.cells)[j]? = some (evF [e, f] j) := by
  intro j hj
  have hs : e.cells.size = 14 := rfl
  rcases Nat.lt_or_ge j 14 with h | h
  · rw [Array.getElem?_append_left (by omega), evF_one e j (by omega)]
    unfold evF
    rw [Nat.div_eq_of_lt h]; rfl
  · rw [Array.getElem?_append_right (by omega), evF_one f (j - e.cells.size) (by omega), hs]
    unfold evF
    rw [Nat.div_eq_of_lt (by omega : j - 14 < 14), show j / 14 = 1 by omega, Nat.mod_eq_of_lt (by omega : j - 14 < 14), show j % 14 = j - 14 by omega]; rfl
theorem ev_sl2 {w : World} {g t : Nat} {e f : Ev} (h : Has w g t (e.cells ++ f.cells)) : Sl w (.slice (some ⟨g, 0, none⟩) 2 2) 2 14 (evF [e, f]) := Sl.has h (Nat.le_refl _) (evF_two e f)
theorem names_sl {w : World} {base : Nat} {v : Value} {l : List ByteArray} (h : w.ownsRow base 9 1 v l.length (l.map .string)) : Sl w v l.length 1 (strF l) :=
  (sl_row h).congr fun j hj => by
    rw [Nat.mul_one] at hj
    unfold strF
    rw [List.getElem?_map, List.getD_eq_getElem?_getD, List.getElem?_eq_getElem hj]; rfl
theorem evNames_len (e : Ev) : (evNames e).length ≤ 2 := by
  unfold evNames
  split
  · split <;> simp
  · simp
set_option maxRecDepth 100000 in
set_option maxHeartbeats 1000000 in
theorem common_below (va vb : Value) (l m : List ByteArray) (w : World) (ha : Sl w va l.length 1 (strF l)) (hb : Sl w vb m.length 1 (strF m)) (hl : l.length ≤ 1000000) (hm : m.length ≤ 1000000) :
    Calls Tryz.prog 18 #[va, vb] w fun r w' => r = .returned (.bool (comB l m)) ∧ Below w.heap.size w w' := by
  obtain ⟨A, c, rfl, hn, hc⟩ := ha
  obtain ⟨A2, c2, rfl, hn2, hc2⟩ := hb
  have HC := Lib.hid hc
  have HC2 := Lib.hid hc2
  clear hc hc2
  go_enter Tryz.func18, Tryz.ntmps18
  go_wp2_with fail
  go_loopw [5] (fun i wr => ∃ k : Nat, k ≤ l.length ∧ i = .int .i64 k ∧ Hid (∀ j, j < k → comH m (l.getD j ByteArray.empty) = false) ∧ Hid (Below w.heap.size w wr)) (fun i _ => l.length - (intOf i).toNat)
  case atStart => exact ⟨0, Nat.zero_le _, rfl, fun j hj => absurd hj (by omega), Below.refl _ _⟩
  case round =>
    obtain ⟨k, hk, rfl, hrel, HB⟩ := hrel
    by_cases hlt : k < l.length
    · rcases HC.out with h0 | ⟨b, o, rfl, hc⟩
      · omega
      have HX := Lib.hid (hc k (by omega))
      have hyes := Lib.hid (fun h => comB_yes (m := m) hlt h)
      have hno : Hid (comH m (l.getD k ByteArray.empty) = false → ∀ j, j < k + 1 → comH m (l.getD j ByteArray.empty) = false) := fun h j hj => by
        rcases Nat.lt_or_ge j k with h1 | h1
        · exact hrel.out j h1
        · obtain rfl : j = k := by omega
          exact h
      have hki : (k : Int) < (l.length : Int) := by omega
      clear hc
      change Hid (w.cell? ⟨b, o + k, none⟩ = some (.string (l.getD k ByteArray.empty))) at HX
      generalize l.getD k ByteArray.empty = x at *
      go_wp2_with fail
      go_loopw [6] (fun i wq => ∃ q : Nat, q ≤ m.length ∧ i = .int .i64 q ∧ Hid (∀ j, j < q → (x.toList == (m.getD j ByteArray.empty).toList) = false) ∧ Hid (Below w.heap.size w wq)) (fun i _ => m.length - (intOf i).toNat)
      case atStart => exact ⟨0, Nat.zero_le _, rfl, fun j hj => absurd hj (by omega), HB.out⟩
      case round =>
        obtain ⟨q, hq, rfl, hrel2, HB2⟩ := hrel
        obtain ⟨w2, rfl⟩ : ∃ w2, w2 = wr := ⟨_, rfl⟩
        by_cases hlt2 : q < m.length
        · rcases HC2.out with h0 | ⟨b2, o2, rfl, hc2⟩
          · omega
          have hcell : w2.cell? ⟨b, o + k, none⟩ = some (.string x) := cell_later HB2.out HX.out
          have hcell2 : w2.cell? ⟨b2, o2 + q, none⟩ = some (.string (m.getD q ByteArray.empty)) := cell_later HB2.out (hc2 q (by omega))
          have hyes2 := Lib.hid (fun h => hyes.out (comH_yes (x := x) hlt2 h))
          have hno2 : Hid ((x.toList == (m.getD q ByteArray.empty).toList) = false → ∀ j, j < q + 1 → (x.toList == (m.getD j ByteArray.empty).toList) = false) := fun h j hj => by
            rcases Nat.lt_or_ge j q with h1 | h1
            · exact hrel2.out j h1
            · obtain rfl : j = q := by omega
              exact h
          have hqi : (q : Int) < (m.length : Int) := by omega
          have hq0 : (0 : Int) ≤ (q : Int) := by omega
          have hk0 : (0 : Int) ≤ (k : Int) := by omega
          clear hc2
          generalize m.getD q ByteArray.empty = y at *
          cases hb : (x.toList == y.toList)
          · have hN := Lib.hid (hno2.out hb)
            go_wp2_with fail
            go_quiet (fail)
            go_wp2_with fail
            go_roundw
            case rel => exact ⟨q + 1, by omega, by go_num, hN.out, below_drewN HB2.out _⟩
            case measure => simp [intOf]; omega
          · have hY := Lib.hid (hyes2.out hb)
            go_wp2_with fail
            go_quiet (fail)
            go_wp2_with fail
            go_ret
            exact ⟨ret_bool (by rw [hY.out]), below_drewN HB2.out _⟩
        · obtain rfl : q = m.length := by omega
          have hfin := Lib.hid (hno.out (comH_no hrel2.out))
          go_wp2_with fail
          go_roundw
          case rel => exact ⟨k + 1, by omega, by go_num, hfin.out, HB2.out⟩
          case measure => simp [intOf]; omega
    · obtain rfl : k = l.length := by omega
      have hfin := Lib.hid (comB_none hrel.out)
      go_wp2_with fail
      go_ret
      exact ⟨ret_bool (by rw [hfin.out]), HB.out⟩
end Go.Proofs.YtpikcofbhkbifaaGreat
namespace Go.Proofs.YtpikcofbhkbifaaGreat
open Go Go.RowKit
set_option maxRecDepth 100000 in
set_option maxHeartbeats 8000000 in
theorem comm_e1 (cv sv : Value) (c : List Kd) (l : List Pa) (op day : Int) (part kind into slot key value : ByteArray) (ukl ukh ucl uch ull ulh : Int) (fop fday : Int) (fpart fkind finto fslot fkey fvalue : ByteArray) (fukl fukh fucl fuch full fulh : Int) (w : World) (hcat : Cat w cv c) (hsta : Sta w sv l) (hl : l.length ≤ maxLen) (hps : ∀ p ∈ l, p.wide) (hev : Ev.short ⟨op, day, part, kind, into, slot, key, value, ukl, ukh, ucl, uch, ull, ulh⟩) (hef : Ev.short ⟨fop, fday, fpart, fkind, finto, fslot, fkey, fvalue, fukl, fukh, fucl, fuch, full, fulh⟩) (hfew : fewB c l [⟨op, day, part, kind, into, slot, key, value, ukl, ukh, ucl, uch, ull, ulh⟩, ⟨fop, fday, fpart, fkind, finto, fslot, fkey, fvalue, fukl, fukh, fucl, fuch, full, fulh⟩] = false) :
    Calls Tryz.prog 7 #[.agg #[cv], .agg #[sv], .agg #[.int .i64 op, .int .i64 day, .string part, .string kind, .string into, .string slot, .string key, .string value, .int .i64 ukl, .int .i64 ukh, .int .i64 ucl, .int .i64 uch, .int .i64 ull, .int .i64 ulh], .agg #[.int .i64 fop, .int .i64 fday, .string fpart, .string fkind, .string finto, .string fslot, .string fkey, .string fvalue, .int .i64 fukl, .int .i64 fukh, .int .i64 fucl, .int .i64 fuch, .int .i64 full, .int .i64 fulh]] w fun e w' => e = .returned (.bool true) ∧ Below w.heap.size w w' := by
  obtain ⟨A', cc, rfl, _⟩ := Rd.form hcat
  obtain ⟨A, cs, rfl, hn⟩ := Rd.form hsta
  have HST := Lib.hid hsta
  have HEV := Lib.hid hev
  have HEF := Lib.hid hef
  have HFW := Lib.hid (fun W (h : Below w.heap.size w W) {g : Nat} (hv : Sl W (.slice (some ⟨g, 0, none⟩) 2 2) 2 14 (evF [⟨op, day, part, kind, into, slot, key, value, ukl, ukh, ucl, uch, ull, ulh⟩, ⟨fop, fday, fpart, fkind, finto, fslot, fkey, fvalue, fukl, fukh, fucl, fuch, full, fulh⟩])) => few_any W (.slice A' c.length cc) (.slice A l.length cs) (.slice (some ⟨g, 0, none⟩) 2 2) c l [⟨op, day, part, kind, into, slot, key, value, ukl, ukh, ucl, uch, ull, ulh⟩, ⟨fop, fday, fpart, fkind, finto, fslot, fkey, fvalue, fukl, fukh, fucl, fuch, full, fulh⟩] W (Below.refl _ _) (hcat.below h) (hsta.below h) hv hl hps (by simp [maxLen]))
  have HAP := Lib.hid (fun (h65 : c.length ≤ 65 ∧ ∀ k ∈ c, k.short) W0 (h0 : Below w.heap.size w W0) sv' l' (hs' : Sta W0 sv' l') (hl' : l'.length ≤ 20000) (hsh' : ∀ p ∈ l', p.short) ev t W (hr : applyL c l' ev = (t, 0)) (h : Below W0.heap.size W0 W) hev => apply_ok W0 (.slice A' c.length cc) sv' c l' ev t W hr h (hcat.below h0) (by omega) h65.2 hs' (by omega) hsh' hev)
  have HAN := Lib.hid (fun (h65 : c.length ≤ 65 ∧ ∀ k ∈ c, k.short) (h20 : l.length ≤ 20 ∧ ∀ p ∈ l, p.short) ev W (hr : (applyL c l ev).2 ≠ 0) (h : Below w.heap.size w W) hev => apply_no w (.slice A' c.length cc) (.slice A l.length cs) c l ev W hr h hcat (by omega) h65.2 hsta (by omega) h20.2 hev)
  have HNE := Lib.hid (fun W => names_any ⟨op, day, part, kind, into, slot, key, value, ukl, ukh, ucl, uch, ull, ulh⟩ W hev)
  have HNF := Lib.hid (fun W => names_any ⟨fop, fday, fpart, fkind, finto, fslot, fkey, fvalue, fukl, fukh, fucl, fuch, full, fulh⟩ W hef)
  have k1 := (((Has.new w 24 #[.slice A' c.length cc]).alloc (.cells #[.slice A l.length cs] 27)).alloc (.cells #[.int .i64 op, .int .i64 day, .string part, .string kind, .string into, .string slot, .string key, .string value, .int .i64 ukl, .int .i64 ukh, .int .i64 ucl, .int .i64 uch, .int .i64 ull, .int .i64 ulh] 33)).alloc (.cells #[.int .i64 fop, .int .i64 fday, .string fpart, .string fkind, .string finto, .string fslot, .string fkey, .string fvalue, .int .i64 fukl, .int .i64 fukh, .int .i64 fucl, .int .i64 fuch, .int .i64 full, .int .i64 fulh] 33)
  have k2 := ((Has.new (w.alloc (.cells #[.slice A' c.length cc] 24)) 27 #[.slice A l.length cs]).alloc (.cells #[.int .i64 op, .int .i64 day, .string part, .string kind, .string into, .string slot, .string key, .string value, .int .i64 ukl, .int .i64 ukh, .int .i64 ucl, .int .i64 uch, .int .i64 ull, .int .i64 ulh] 33)).alloc (.cells #[.int .i64 fop, .int .i64 fday, .string fpart, .string fkind, .string finto, .string fslot, .string fkey, .string fvalue, .int .i64 fukl, .int .i64 fukh, .int .i64 fucl, .int .i64 fuch, .int .i64 full, .int .i64 fulh] 33)
  have k3 := (Has.new ((w.alloc (.cells #[.slice A' c.length cc] 24)).alloc (.cells #[.slice A l.length cs] 27)) 33 #[.int .i64 op, .int .i64 day, .string part, .string kind, .string into, .string slot, .string key, .string value, .int .i64 ukl, .int .i64 ukh, .int .i64 ucl, .int .i64 uch, .int .i64 ull, .int .i64 ulh]).alloc (.cells #[.int .i64 fop, .int .i64 fday, .string fpart, .string fkind, .string finto, .string fslot, .string fkey, .string fvalue, .int .i64 fukl, .int .i64 fukh, .int .i64 fucl, .int .i64 fuch, .int .i64 full, .int .i64 fulh] 33)
  have k4 := Has.new (((w.alloc (.cells #[.slice A' c.length cc] 24)).alloc (.cells #[.slice A l.length cs] 27)).alloc (.cells #[.int .i64 op, .int .i64 day, .string part, .string kind, .string into, .string slot, .string key, .string value, .int .i64 ukl, .int .i64 ukh, .int .i64 ucl, .int .i64 uch, .int .i64 ull, .int .i64 ulh] 33)) 33 #[.int .i64 fop, .int .i64 fday, .string fpart, .string fkind, .string finto, .string fslot, .string fkey, .string fvalue, .int .i64 fukl, .int .i64 fukh, .int .i64 fucl, .int .i64 fuch, .int .i64 full, .int .i64 fulh]
  simp only [World.size_alloc] at k2 k3 k4
  have KC0 := Lib.hid k1
  have KS0 := Lib.hid k2
  have KE0 := Lib.hid k3
  have KF0 := Lib.hid k4
  have HB0 := Lib.hid (((((Below.refl w.heap.size w).alloc (Nat.le_refl _) (.cells #[.slice A' c.length cc] 24)).alloc (by simp) (.cells #[.slice A l.length cs] 27)).alloc (by simp; omega) (.cells #[.int .i64 op, .int .i64 day, .string part, .string kind, .string into, .string slot, .string key, .string value, .int .i64 ukl, .int .i64 ukh, .int .i64 ucl, .int .i64 uch, .int .i64 ull, .int .i64 ulh] 33)).alloc (by simp; omega) (.cells #[.int .i64 fop, .int .i64 fday, .string fpart, .string fkind, .string finto, .string fslot, .string fkey, .string fvalue, .int .i64 fukl, .int .i64 fukh, .int .i64 fucl, .int .i64 fuch, .int .i64 full, .int .i64 fulh] 33))
  clear hcat hsta hps hev hef k1 k2 k3 k4
  have HFEW := Lib.hid hfew
  clear hfew HAP HAN HST HEV HEF HNE HNF
  go_enter Tryz.func7, Tryz.ntmps7
  go_wp2_with fail
  refine (head_any _).mono ?_
  rintro e w1 ⟨rfl, hb1⟩
  have kC := (KC0.out).below hb1 (KC0.out).lt
  obtain ⟨xC1, yC1⟩ := kC.facts
  have zC1 := kC.lt
  have KC1 := Lib.hid kC
  have kS := (KS0.out).below hb1 (KS0.out).lt
  obtain ⟨xS1, yS1⟩ := kS.facts
  have zS1 := kS.lt
  have KS1 := Lib.hid kS
  have kE := (KE0.out).below hb1 (KE0.out).lt
  obtain ⟨xE1, yE1⟩ := kE.facts
  have zE1 := kE.lt
  have KE1 := Lib.hid kE
  have kF := (KF0.out).below hb1 (KF0.out).lt
  obtain ⟨xF1, yF1⟩ := kF.facts
  have zF1 := kF.lt
  have KF1 := Lib.hid kF
  have HB1 := Lib.hid ((HB0.out).trans (hb1.mono (HB0.out).size))
  clear hb1 kC kS kE kF
  go_wp2_with fail
  have HK := Lib.hid (fun W (h : Below w1.heap.size w1 W) => (⟨h, ((KC1.out).below h (KC1.out).lt).facts.1, ((KS1.out).below h (KS1.out).lt).facts.1, ((KE1.out).below h (KE1.out).lt).facts.1, ((KF1.out).below h (KF1.out).lt).facts.1⟩ : Below w1.heap.size w1 W ∧ (∀ o, World.cell? W ⟨w.heap.size, o, none⟩ = (#[.slice A' c.length cc] : Array Value)[o]?) ∧ (∀ o, World.cell? W ⟨w.heap.size + 1, o, none⟩ = (#[.slice A l.length cs] : Array Value)[o]?) ∧ (∀ o, World.cell? W ⟨w.heap.size + 1 + 1, o, none⟩ = (#[.int .i64 op, .int .i64 day, .string part, .string kind, .string into, .string slot, .string key, .string value, .int .i64 ukl, .int .i64 ukh, .int .i64 ucl, .int .i64 uch, .int .i64 ull, .int .i64 ulh] : Array Value)[o]?) ∧ (∀ o, World.cell? W ⟨w.heap.size + 1 + 1 + 1, o, none⟩ = (#[.int .i64 fop, .int .i64 fday, .string fpart, .string fkind, .string finto, .string fslot, .string fkey, .string fvalue, .int .i64 fukl, .int .i64 fukh, .int .i64 fucl, .int .i64 fuch, .int .i64 full, .int .i64 fulh] : Array Value)[o]?)))
  have hbV : Below w1.heap.size w1 ((w1.drew).alloc (.cells #[.int .i64 op, .int .i64 day, .string part, .string kind, .string into, .string slot, .string key, .string value, .int .i64 ukl, .int .i64 ukh, .int .i64 ucl, .int .i64 uch, .int .i64 ull, .int .i64 ulh, .int .i64 fop, .int .i64 fday, .string fpart, .string fkind, .string finto, .string fslot, .string fkey, .string fvalue, .int .i64 fukl, .int .i64 fukh, .int .i64 fucl, .int .i64 fuch, .int .i64 full, .int .i64 fulh] 33)) := ((Below.refl w1.heap.size w1).drew).alloc (Nat.le_refl _) _
  have HVW := Lib.hid (HFW.out _ (HB1.out.trans (hbV.mono HB1.out.size)) (ev_sl2 (e := ⟨op, day, part, kind, into, slot, key, value, ukl, ukh, ucl, uch, ull, ulh⟩) (f := ⟨fop, fday, fpart, fkind, finto, fslot, fkey, fvalue, fukl, fukh, fucl, fuch, full, fulh⟩) (Has.new w1.drew 33 #[.int .i64 op, .int .i64 day, .string part, .string kind, .string into, .string slot, .string key, .string value, .int .i64 ukl, .int .i64 ukh, .int .i64 ucl, .int .i64 uch, .int .i64 ull, .int .i64 ulh, .int .i64 fop, .int .i64 fday, .string fpart, .string fkind, .string finto, .string fslot, .string fkey, .string fvalue, .int .i64 fukl, .int .i64 fukh, .int .i64 fucl, .int .i64 fuch, .int .i64 full, .int .i64 fulh])))
  rw [HFEW.out] at HVW
  refine wp_region_held_drew (S := fun W => Below w1.heap.size w1 W ∧ (∀ o, World.cell? W ⟨w.heap.size, o, none⟩ = (#[.slice A' c.length cc] : Array Value)[o]?) ∧ (∀ o, World.cell? W ⟨w.heap.size + 1, o, none⟩ = (#[.slice A l.length cs] : Array Value)[o]?) ∧ (∀ o, World.cell? W ⟨w.heap.size + 1 + 1, o, none⟩ = (#[.int .i64 op, .int .i64 day, .string part, .string kind, .string into, .string slot, .string key, .string value, .int .i64 ukl, .int .i64 ukh, .int .i64 ucl, .int .i64 uch, .int .i64 ull, .int .i64 ulh] : Array Value)[o]?) ∧ (∀ o, World.cell? W ⟨w.heap.size + 1 + 1 + 1, o, none⟩ = (#[.int .i64 fop, .int .i64 fday, .string fpart, .string fkind, .string finto, .string fslot, .string fkey, .string fvalue, .int .i64 fukl, .int .i64 fukh, .int .i64 fucl, .int .i64 fuch, .int .i64 full, .int .i64 fulh] : Array Value)[o]?)) (by kernel_rfl) (HK.out _ (Below.refl w1.heap.size w1).drew) (fun hHeld => ?_)
  refine wpAnyH_take (i := 0) (oi := ⟨_, _, _, _, _, _⟩) (v := ?_) rfl (by kernel_rfl) (by kernel_rfl) (by kernel_rfl) (fun _ _ _ h => h) (Or.inl ⟨by rfl, ?_⟩) (by assumption) ?_
  rotate_left
  · intro W hSW; (try dsimp only at hSW); go_simp; all_goals (with_reducible rfl)
  try simp only [Act.put, List.setIfInBounds_toArray, List.set_cons_zero, List.set_cons_succ]
  refine wpAnyH_take (i := 1) (oi := ⟨_, _, _, _, _, _⟩) (v := ?_) rfl (by kernel_rfl) (by kernel_rfl) (by kernel_rfl) (fun _ _ _ h => h) (Or.inl ⟨by rfl, ?_⟩) (by assumption) ?_
  rotate_left
  · intro W hSW; (try dsimp only at hSW); go_simp; all_goals (with_reducible rfl)
  try simp only [Act.put, List.setIfInBounds_toArray, List.set_cons_zero, List.set_cons_succ]
  refine wpAnyH_take (i := 2) (oi := ⟨_, _, _, _, _, _⟩) (v := ?_) rfl (by kernel_rfl) (by kernel_rfl) (by kernel_rfl) (fun _ _ _ h => h) (Or.inl ⟨by rfl, ?_⟩) (by assumption) ?_
  rotate_left
  · intro W hSW; (try dsimp only at hSW); go_simp; all_goals (with_reducible rfl)
  try simp only [Act.put, List.setIfInBounds_toArray, List.set_cons_zero, List.set_cons_succ]
  refine wpAnyH_take (i := 3) (oi := ⟨_, _, _, _, _, _⟩) (v := ?_) rfl (by kernel_rfl) (by kernel_rfl) (by kernel_rfl) (fun _ _ _ h => h) (Or.inl ⟨by rfl, ?_⟩) (by assumption) ?_
  rotate_left
  · intro W hSW; (try dsimp only at hSW); go_simp; all_goals (with_reducible rfl)
  try simp only [Act.put, List.setIfInBounds_toArray, List.set_cons_zero, List.set_cons_succ]
  refine wpAnyH_ready (rs := [4]) (by kernel_rfl) (by simp) ?_
  refine AllReadyH.cons (o := ⟨_, _, _, _, _, _⟩) rfl (fun K hK => ?_) AllReadyH.nil
  go_simp
  refine hK.out _ _ (HK.out _ hbV) (fun hHeld => ?_)
  clear hK K
  try simp only [Act.put, List.setIfInBounds_toArray, List.set_cons_zero, List.set_cons_succ]
  refine wpAnyH_ready (rs := [5]) (by kernel_rfl) (by simp) ?_
  refine AllReadyH.cons (o := ⟨_, _, _, _, _, _⟩) rfl (fun K hK => ?_) AllReadyH.nil
  go_simp
  go_at_call 9; refine HVW.out.mono ?_; rintro e w2 ⟨rfl, hb2⟩; have hbw2 : Below w1.heap.size w1 w2 := hbV.trans (hb2.mono hbV.size); clear hb2
  refine hK.out _ _ (HK.out _ hbw2) (fun hHeld => ?_)
  clear hK K
  try simp only [Act.put, List.setIfInBounds_toArray, List.set_cons_zero, List.set_cons_succ]
  refine wpAnyH_take (i := 6) (oi := ⟨_, _, _, _, _, _⟩) (v := ?_) rfl (by kernel_rfl) (by kernel_rfl) (by kernel_rfl) (fun _ _ _ h => h) (Or.inl ⟨by rfl, ?_⟩) (by assumption) ?_
  rotate_left
  · intro W hSW; (try dsimp only at hSW); go_simp; all_goals (with_reducible rfl)
  try simp only [Act.put, List.setIfInBounds_toArray, List.set_cons_zero, List.set_cons_succ]
  refine wpAnyH_take (i := 7) (oi := ⟨_, _, _, _, _, _⟩) (v := ?_) rfl (by kernel_rfl) (by kernel_rfl) (by kernel_rfl) (fun _ _ _ h => h) (Or.inl ⟨by rfl, ?_⟩) (by assumption) ?_
  rotate_left
  · intro W hSW; (try dsimp only at hSW); go_simp; all_goals (with_reducible rfl)
  try simp only [Act.put, List.setIfInBounds_toArray, List.set_cons_zero, List.set_cons_succ]
  refine wpAnyH_take (i := 8) (oi := ⟨_, _, _, _, _, _⟩) (v := undef) rfl (by kernel_rfl) (by kernel_rfl) (by kernel_rfl) (fun _ _ _ h => h) (Or.inr ⟨by kernel_rfl, rfl⟩) (by assumption) ?_
  try simp only [Act.put, List.setIfInBounds_toArray, List.set_cons_zero, List.set_cons_succ]
  refine wpAnyH_take (i := 9) (oi := ⟨_, _, _, _, _, _⟩) (v := undef) rfl (by kernel_rfl) (by kernel_rfl) (by kernel_rfl) (fun _ _ _ h => h) (Or.inr ⟨by kernel_rfl, rfl⟩) (by assumption) ?_
  try simp only [Act.put, List.setIfInBounds_toArray, List.set_cons_zero, List.set_cons_succ]
  refine wpAnyH_take (i := 10) (oi := ⟨_, _, _, _, _, _⟩) (v := undef) rfl (by kernel_rfl) (by kernel_rfl) (by kernel_rfl) (fun _ _ _ h => h) (Or.inr ⟨by kernel_rfl, rfl⟩) (by assumption) ?_
  try simp only [Act.put, List.setIfInBounds_toArray, List.set_cons_zero, List.set_cons_succ]
  refine wpAnyH_take (i := 11) (oi := ⟨_, _, _, _, _, _⟩) (v := undef) rfl (by kernel_rfl) (by kernel_rfl) (by kernel_rfl) (fun _ _ _ h => h) (Or.inr ⟨by kernel_rfl, rfl⟩) (by assumption) ?_
  try simp only [Act.put, List.setIfInBounds_toArray, List.set_cons_zero, List.set_cons_succ]
  refine wpAnyH_take (i := 12) (oi := ⟨_, _, _, _, _, _⟩) (v := undef) rfl (by kernel_rfl) (by kernel_rfl) (by kernel_rfl) (fun _ _ _ h => h) (Or.inr ⟨by kernel_rfl, rfl⟩) (by assumption) ?_
  try simp only [Act.put, List.setIfInBounds_toArray, List.set_cons_zero, List.set_cons_succ]
  refine wpAnyH_take (i := 13) (oi := ⟨_, _, _, _, _, _⟩) (v := ?_) rfl (by kernel_rfl) (by kernel_rfl) (by kernel_rfl) (fun _ _ _ h => h) (Or.inl ⟨by rfl, ?_⟩) (by assumption) ?_
  rotate_left
  · intro W hSW; (try dsimp only at hSW); go_simp; all_goals (with_reducible rfl)
  try simp only [Act.put, List.setIfInBounds_toArray, List.set_cons_zero, List.set_cons_succ]
  refine wpAnyH_done (by kernel_rfl) ?_ _
  have HB2 := Lib.hid (HB1.out.trans (hbw2.mono HB1.out.size))
  clear hbw2
  go_wp2_with fail
  go_ret
  exact ⟨rfl, HB2.out⟩
set_option maxRecDepth 100000 in
set_option maxHeartbeats 8000000 in
theorem comm_e2 (cv sv : Value) (c : List Kd) (l : List Pa) (op day : Int) (part kind into slot key value : ByteArray) (ukl ukh ucl uch ull ulh : Int) (fop fday : Int) (fpart fkind finto fslot fkey fvalue : ByteArray) (fukl fukh fucl fuch full fulh : Int) (w : World) (hcat : Cat w cv c) (hsta : Sta w sv l) (hl : l.length ≤ maxLen) (hps : ∀ p ∈ l, p.wide) (hev : Ev.short ⟨op, day, part, kind, into, slot, key, value, ukl, ukh, ucl, uch, ull, ulh⟩) (hef : Ev.short ⟨fop, fday, fpart, fkind, finto, fslot, fkey, fvalue, fukl, fukh, fucl, fuch, full, fulh⟩) (hfew : fewB c l [⟨op, day, part, kind, into, slot, key, value, ukl, ukh, ucl, uch, ull, ulh⟩, ⟨fop, fday, fpart, fkind, finto, fslot, fkey, fvalue, fukl, fukh, fucl, fuch, full, fulh⟩] = true) (hcom : comB (evNames ⟨op, day, part, kind, into, slot, key, value, ukl, ukh, ucl, uch, ull, ulh⟩) (evNames ⟨fop, fday, fpart, fkind, finto, fslot, fkey, fvalue, fukl, fukh, fucl, fuch, full, fulh⟩) = true) :
    Calls Tryz.prog 7 #[.agg #[cv], .agg #[sv], .agg #[.int .i64 op, .int .i64 day, .string part, .string kind, .string into, .string slot, .string key, .string value, .int .i64 ukl, .int .i64 ukh, .int .i64 ucl, .int .i64 uch, .int .i64 ull, .int .i64 ulh], .agg #[.int .i64 fop, .int .i64 fday, .string fpart, .string fkind, .string finto, .string fslot, .string fkey, .string fvalue, .int .i64 fukl, .int .i64 fukh, .int .i64 fucl, .int .i64 fuch, .int .i64 full, .int .i64 fulh]] w fun e w' => e = .returned (.bool true) ∧ Below w.heap.size w w' := by
  obtain ⟨A', cc, rfl, _⟩ := Rd.form hcat
  obtain ⟨A, cs, rfl, hn⟩ := Rd.form hsta
  have HST := Lib.hid hsta
  have HEV := Lib.hid hev
  have HEF := Lib.hid hef
  have HFW := Lib.hid (fun W (h : Below w.heap.size w W) {g : Nat} (hv : Sl W (.slice (some ⟨g, 0, none⟩) 2 2) 2 14 (evF [⟨op, day, part, kind, into, slot, key, value, ukl, ukh, ucl, uch, ull, ulh⟩, ⟨fop, fday, fpart, fkind, finto, fslot, fkey, fvalue, fukl, fukh, fucl, fuch, full, fulh⟩])) => few_any W (.slice A' c.length cc) (.slice A l.length cs) (.slice (some ⟨g, 0, none⟩) 2 2) c l [⟨op, day, part, kind, into, slot, key, value, ukl, ukh, ucl, uch, ull, ulh⟩, ⟨fop, fday, fpart, fkind, finto, fslot, fkey, fvalue, fukl, fukh, fucl, fuch, full, fulh⟩] W (Below.refl _ _) (hcat.below h) (hsta.below h) hv hl hps (by simp [maxLen]))
  have HAP := Lib.hid (fun (h65 : c.length ≤ 65 ∧ ∀ k ∈ c, k.short) W0 (h0 : Below w.heap.size w W0) sv' l' (hs' : Sta W0 sv' l') (hl' : l'.length ≤ 20000) (hsh' : ∀ p ∈ l', p.short) ev t W (hr : applyL c l' ev = (t, 0)) (h : Below W0.heap.size W0 W) hev => apply_ok W0 (.slice A' c.length cc) sv' c l' ev t W hr h (hcat.below h0) (by omega) h65.2 hs' (by omega) hsh' hev)
  have HAN := Lib.hid (fun (h65 : c.length ≤ 65 ∧ ∀ k ∈ c, k.short) (h20 : l.length ≤ 20 ∧ ∀ p ∈ l, p.short) ev W (hr : (applyL c l ev).2 ≠ 0) (h : Below w.heap.size w W) hev => apply_no w (.slice A' c.length cc) (.slice A l.length cs) c l ev W hr h hcat (by omega) h65.2 hsta (by omega) h20.2 hev)
  have HNE := Lib.hid (fun W => names_any ⟨op, day, part, kind, into, slot, key, value, ukl, ukh, ucl, uch, ull, ulh⟩ W hev)
  have HNF := Lib.hid (fun W => names_any ⟨fop, fday, fpart, fkind, finto, fslot, fkey, fvalue, fukl, fukh, fucl, fuch, full, fulh⟩ W hef)
  have k1 := (((Has.new w 24 #[.slice A' c.length cc]).alloc (.cells #[.slice A l.length cs] 27)).alloc (.cells #[.int .i64 op, .int .i64 day, .string part, .string kind, .string into, .string slot, .string key, .string value, .int .i64 ukl, .int .i64 ukh, .int .i64 ucl, .int .i64 uch, .int .i64 ull, .int .i64 ulh] 33)).alloc (.cells #[.int .i64 fop, .int .i64 fday, .string fpart, .string fkind, .string finto, .string fslot, .string fkey, .string fvalue, .int .i64 fukl, .int .i64 fukh, .int .i64 fucl, .int .i64 fuch, .int .i64 full, .int .i64 fulh] 33)
  have k2 := ((Has.new (w.alloc (.cells #[.slice A' c.length cc] 24)) 27 #[.slice A l.length cs]).alloc (.cells #[.int .i64 op, .int .i64 day, .string part, .string kind, .string into, .string slot, .string key, .string value, .int .i64 ukl, .int .i64 ukh, .int .i64 ucl, .int .i64 uch, .int .i64 ull, .int .i64 ulh] 33)).alloc (.cells #[.int .i64 fop, .int .i64 fday, .string fpart, .string fkind, .string finto, .string fslot, .string fkey, .string fvalue, .int .i64 fukl, .int .i64 fukh, .int .i64 fucl, .int .i64 fuch, .int .i64 full, .int .i64 fulh] 33)
  have k3 := (Has.new ((w.alloc (.cells #[.slice A' c.length cc] 24)).alloc (.cells #[.slice A l.length cs] 27)) 33 #[.int .i64 op, .int .i64 day, .string part, .string kind, .string into, .string slot, .string key, .string value, .int .i64 ukl, .int .i64 ukh, .int .i64 ucl, .int .i64 uch, .int .i64 ull, .int .i64 ulh]).alloc (.cells #[.int .i64 fop, .int .i64 fday, .string fpart, .string fkind, .string finto, .string fslot, .string fkey, .string fvalue, .int .i64 fukl, .int .i64 fukh, .int .i64 fucl, .int .i64 fuch, .int .i64 full, .int .i64 fulh] 33)
  have k4 := Has.new (((w.alloc (.cells #[.slice A' c.length cc] 24)).alloc (.cells #[.slice A l.length cs] 27)).alloc (.cells #[.int .i64 op, .int .i64 day, .string part, .string kind, .string into, .string slot, .string key, .string value, .int .i64 ukl, .int .i64 ukh, .int .i64 ucl, .int .i64 uch, .int .i64 ull, .int .i64 ulh] 33)) 33 #[.int .i64 fop, .int .i64 fday, .string fpart, .string fkind, .string finto, .string fslot, .string fkey, .string fvalue, .int .i64 fukl, .int .i64 fukh, .int .i64 fucl, .int .i64 fuch, .int .i64 full, .int .i64 fulh]
  simp only [World.size_alloc] at k2 k3 k4
  have KC0 := Lib.hid k1
  have KS0 := Lib.hid k2
  have KE0 := Lib.hid k3
  have KF0 := Lib.hid k4
  have HB0 := Lib.hid (((((Below.refl w.heap.size w).alloc (Nat.le_refl _) (.cells #[.slice A' c.length cc] 24)).alloc (by simp) (.cells #[.slice A l.length cs] 27)).alloc (by simp; omega) (.cells #[.int .i64 op, .int .i64 day, .string part, .string kind, .string into, .string slot, .string key, .string value, .int .i64 ukl, .int .i64 ukh, .int .i64 ucl, .int .i64 uch, .int .i64 ull, .int .i64 ulh] 33)).alloc (by simp; omega) (.cells #[.int .i64 fop, .int .i64 fday, .string fpart, .string fkind, .string finto, .string fslot, .string fkey, .string fvalue, .int .i64 fukl, .int .i64 fukh, .int .i64 fucl, .int .i64 fuch, .int .i64 full, .int .i64 fulh] 33))
  clear hcat hsta hps hev hef k1 k2 k3 k4
  obtain ⟨h65, h20⟩ := fewB_take hfew
  have HAP := Lib.hid (HAP.out h65)
  have HAN := Lib.hid (HAN.out h65 h20)
  have HL := Lib.hid (show l.length ≤ 20000 by omega)
  have HSH := Lib.hid h20.2
  have HL2 := Lib.hid h20.1
  have HLE := Lib.hid (show (evNames ⟨op, day, part, kind, into, slot, key, value, ukl, ukh, ucl, uch, ull, ulh⟩).length ≤ 1000000 by have := evNames_len ⟨op, day, part, kind, into, slot, key, value, ukl, ukh, ucl, uch, ull, ulh⟩; omega)
  have HLF := Lib.hid (show (evNames ⟨fop, fday, fpart, fkind, finto, fslot, fkey, fvalue, fukl, fukh, fucl, fuch, full, fulh⟩).length ≤ 1000000 by have := evNames_len ⟨fop, fday, fpart, fkind, finto, fslot, fkey, fvalue, fukl, fukh, fucl, fuch, full, fulh⟩; omega)
  have HFEW := Lib.hid hfew
  have HCOM := Lib.hid hcom
  clear hfew h65 h20 hcom
  clear HAP HAN HST
  go_enter Tryz.func7, Tryz.ntmps7
  go_wp2_with fail
  refine (head_any _).mono ?_
  rintro e w1 ⟨rfl, hb1⟩
  have kC := (KC0.out).below hb1 (KC0.out).lt
  obtain ⟨xC1, yC1⟩ := kC.facts
  have zC1 := kC.lt
  have KC1 := Lib.hid kC
  have kS := (KS0.out).below hb1 (KS0.out).lt
  obtain ⟨xS1, yS1⟩ := kS.facts
  have zS1 := kS.lt
  have KS1 := Lib.hid kS
  have kE := (KE0.out).below hb1 (KE0.out).lt
  obtain ⟨xE1, yE1⟩ := kE.facts
  have zE1 := kE.lt
  have KE1 := Lib.hid kE
  have kF := (KF0.out).below hb1 (KF0.out).lt
  obtain ⟨xF1, yF1⟩ := kF.facts
  have zF1 := kF.lt
  have KF1 := Lib.hid kF
  have HB1 := Lib.hid ((HB0.out).trans (hb1.mono (HB0.out).size))
  clear hb1 kC kS kE kF
  go_wp2_with fail
  have HK := Lib.hid (fun W (h : Below w1.heap.size w1 W) => (⟨h, ((KC1.out).below h (KC1.out).lt).facts.1, ((KS1.out).below h (KS1.out).lt).facts.1, ((KE1.out).below h (KE1.out).lt).facts.1, ((KF1.out).below h (KF1.out).lt).facts.1⟩ : Below w1.heap.size w1 W ∧ (∀ o, World.cell? W ⟨w.heap.size, o, none⟩ = (#[.slice A' c.length cc] : Array Value)[o]?) ∧ (∀ o, World.cell? W ⟨w.heap.size + 1, o, none⟩ = (#[.slice A l.length cs] : Array Value)[o]?) ∧ (∀ o, World.cell? W ⟨w.heap.size + 1 + 1, o, none⟩ = (#[.int .i64 op, .int .i64 day, .string part, .string kind, .string into, .string slot, .string key, .string value, .int .i64 ukl, .int .i64 ukh, .int .i64 ucl, .int .i64 uch, .int .i64 ull, .int .i64 ulh] : Array Value)[o]?) ∧ (∀ o, World.cell? W ⟨w.heap.size + 1 + 1 + 1, o, none⟩ = (#[.int .i64 fop, .int .i64 fday, .string fpart, .string fkind, .string finto, .string fslot, .string fkey, .string fvalue, .int .i64 fukl, .int .i64 fukh, .int .i64 fucl, .int .i64 fuch, .int .i64 full, .int .i64 fulh] : Array Value)[o]?)))
  have hbV : Below w1.heap.size w1 ((w1.drew).alloc (.cells #[.int .i64 op, .int .i64 day, .string part, .string kind, .string into, .string slot, .string key, .string value, .int .i64 ukl, .int .i64 ukh, .int .i64 ucl, .int .i64 uch, .int .i64 ull, .int .i64 ulh, .int .i64 fop, .int .i64 fday, .string fpart, .string fkind, .string finto, .string fslot, .string fkey, .string fvalue, .int .i64 fukl, .int .i64 fukh, .int .i64 fucl, .int .i64 fuch, .int .i64 full, .int .i64 fulh] 33)) := ((Below.refl w1.heap.size w1).drew).alloc (Nat.le_refl _) _
  have HVW := Lib.hid (HFW.out _ (HB1.out.trans (hbV.mono HB1.out.size)) (ev_sl2 (e := ⟨op, day, part, kind, into, slot, key, value, ukl, ukh, ucl, uch, ull, ulh⟩) (f := ⟨fop, fday, fpart, fkind, finto, fslot, fkey, fvalue, fukl, fukh, fucl, fuch, full, fulh⟩) (Has.new w1.drew 33 #[.int .i64 op, .int .i64 day, .string part, .string kind, .string into, .string slot, .string key, .string value, .int .i64 ukl, .int .i64 ukh, .int .i64 ucl, .int .i64 uch, .int .i64 ull, .int .i64 ulh, .int .i64 fop, .int .i64 fday, .string fpart, .string fkind, .string finto, .string fslot, .string fkey, .string fvalue, .int .i64 fukl, .int .i64 fukh, .int .i64 fucl, .int .i64 fuch, .int .i64 full, .int .i64 fulh])))
  rw [HFEW.out] at HVW
  go_region_held3 (fun W => Below w1.heap.size w1 W ∧ (∀ o, World.cell? W ⟨w.heap.size, o, none⟩ = (#[.slice A' c.length cc] : Array Value)[o]?) ∧ (∀ o, World.cell? W ⟨w.heap.size + 1, o, none⟩ = (#[.slice A l.length cs] : Array Value)[o]?) ∧ (∀ o, World.cell? W ⟨w.heap.size + 1 + 1, o, none⟩ = (#[.int .i64 op, .int .i64 day, .string part, .string kind, .string into, .string slot, .string key, .string value, .int .i64 ukl, .int .i64 ukh, .int .i64 ucl, .int .i64 uch, .int .i64 ull, .int .i64 ulh] : Array Value)[o]?) ∧ (∀ o, World.cell? W ⟨w.heap.size + 1 + 1 + 1, o, none⟩ = (#[.int .i64 fop, .int .i64 fday, .string fpart, .string fkind, .string finto, .string fslot, .string fkey, .string fvalue, .int .i64 fukl, .int .i64 fukh, .int .i64 fucl, .int .i64 fuch, .int .i64 full, .int .i64 fulh] : Array Value)[o]?)) (first | exact HK.out _ (Below.refl w1.heap.size w1).drew | exact HK.out _ hbV | exact HK.out _ hbw5 | exact HK.out _ hbw4 | exact HK.out _ hbw3 | exact HK.out _ hbw2) (first | (go_at_call 9; refine HVW.out.mono ?_; rintro e w2 ⟨rfl, hb2⟩; have hbw2 : Below w1.heap.size w1 w2 := hbV.trans (hb2.mono hbV.size); clear hb2) | (go_at_call_of 19 (Value.string part); refine (HNE.out _).mono ?_; rintro e w3 ⟨v3, rfl, hr3, hb3⟩; have HR3 := Lib.hid (names_sl hr3); have hbw3 : Below w1.heap.size w1 w3 := hbw2.trans (hb3.mono hbw2.size); clear hr3 hb3) | (go_at_call_of 19 (Value.string fpart); refine (HNF.out _).mono ?_; rintro e w4 ⟨v4, rfl, hr4, hb4⟩; have HR43 := Lib.hid (HR3.out.below hb4); have HR4 := Lib.hid (names_sl hr4); have hbw4 : Below w1.heap.size w1 w4 := hbw3.trans (hb4.mono hbw3.size); clear hr4 hb4) | (go_at_call 18; refine (common_below v3 v4 (evNames ⟨op, day, part, kind, into, slot, key, value, ukl, ukh, ucl, uch, ull, ulh⟩) (evNames ⟨fop, fday, fpart, fkind, finto, fslot, fkey, fvalue, fukl, fukh, fucl, fuch, full, fulh⟩) _ HR43.out HR4.out HLE.out HLF.out).mono ?_; rintro e w5 ⟨rfl, hb5⟩; rw [HCOM.out]; have hbw5 : Below w1.heap.size w1 w5 := hbw4.trans (hb5.mono hbw4.size); clear hb5))
  rename_i hHeld
  clear hHeld
  clear xC1 yC1 zC1 xS1 yS1 zS1 xE1 yE1 zE1 xF1 yF1 zF1
  have kC := (KC1.out).below hbw5 (KC1.out).lt
  obtain ⟨xC5, yC5⟩ := kC.facts
  have zC5 := kC.lt
  have KC5 := Lib.hid kC
  have kS := (KS1.out).below hbw5 (KS1.out).lt
  obtain ⟨xS5, yS5⟩ := kS.facts
  have zS5 := kS.lt
  have KS5 := Lib.hid kS
  have kE := (KE1.out).below hbw5 (KE1.out).lt
  obtain ⟨xE5, yE5⟩ := kE.facts
  have zE5 := kE.lt
  have KE5 := Lib.hid kE
  have kF := (KF1.out).below hbw5 (KF1.out).lt
  obtain ⟨xF5, yF5⟩ := kF.facts
  have zF5 := kF.lt
  have KF5 := Lib.hid kF
  have HB5 := Lib.hid (HB1.out.trans (Below.mono hbw5 HB1.out.size))
  clear kC kS kE kF
  clear HK hbV HVW hbw2 hbw3 hbw4 hbw5 HR3 HR43 HR4 HCOM
  go_wp2_with fail
  go_ret
  exact ⟨rfl, HB5.out⟩
set_option maxRecDepth 100000 in
set_option maxHeartbeats 8000000 in
theorem comm_nn (cv sv : Value) (c : List Kd) (l : List Pa) (op day : Int) (part kind into slot key value : ByteArray) (ukl ukh ucl uch ull ulh : Int) (fop fday : Int) (fpart fkind finto fslot fkey fvalue : ByteArray) (fukl fukh fucl fuch full fulh : Int) (w : World) (hcat : Cat w cv c) (hsta : Sta w sv l) (hl : l.length ≤ maxLen) (hps : ∀ p ∈ l, p.wide) (hev : Ev.short ⟨op, day, part, kind, into, slot, key, value, ukl, ukh, ucl, uch, ull, ulh⟩) (hef : Ev.short ⟨fop, fday, fpart, fkind, finto, fslot, fkey, fvalue, fukl, fukh, fucl, fuch, full, fulh⟩) (hfew : fewB c l [⟨op, day, part, kind, into, slot, key, value, ukl, ukh, ucl, uch, ull, ulh⟩, ⟨fop, fday, fpart, fkind, finto, fslot, fkey, fvalue, fukl, fukh, fucl, fuch, full, fulh⟩] = true) (hcom : comB (evNames ⟨op, day, part, kind, into, slot, key, value, ukl, ukh, ucl, uch, ull, ulh⟩) (evNames ⟨fop, fday, fpart, fkind, finto, fslot, fkey, fvalue, fukl, fukh, fucl, fuch, full, fulh⟩) = false) (ta : List Pa) (re : Int) (hre : applyL c l ⟨op, day, part, kind, into, slot, key, value, ukl, ukh, ucl, uch, ull, ulh⟩ = (ta, re)) (hne : ¬ re = 0) (tb : List Pa) (rf : Int) (hrf : applyL c l ⟨fop, fday, fpart, fkind, finto, fslot, fkey, fvalue, fukl, fukh, fucl, fuch, full, fulh⟩ = (tb, rf)) (hnf : ¬ rf = 0) :
    Calls Tryz.prog 7 #[.agg #[cv], .agg #[sv], .agg #[.int .i64 op, .int .i64 day, .string part, .string kind, .string into, .string slot, .string key, .string value, .int .i64 ukl, .int .i64 ukh, .int .i64 ucl, .int .i64 uch, .int .i64 ull, .int .i64 ulh], .agg #[.int .i64 fop, .int .i64 fday, .string fpart, .string fkind, .string finto, .string fslot, .string fkey, .string fvalue, .int .i64 fukl, .int .i64 fukh, .int .i64 fucl, .int .i64 fuch, .int .i64 full, .int .i64 fulh]] w fun e w' => e = .returned (.bool true) ∧ Below w.heap.size w w' := by
  obtain ⟨A', cc, rfl, _⟩ := Rd.form hcat
  obtain ⟨A, cs, rfl, hn⟩ := Rd.form hsta
  have HST := Lib.hid hsta
  have HEV := Lib.hid hev
  have HEF := Lib.hid hef
  have HFW := Lib.hid (fun W (h : Below w.heap.size w W) {g : Nat} (hv : Sl W (.slice (some ⟨g, 0, none⟩) 2 2) 2 14 (evF [⟨op, day, part, kind, into, slot, key, value, ukl, ukh, ucl, uch, ull, ulh⟩, ⟨fop, fday, fpart, fkind, finto, fslot, fkey, fvalue, fukl, fukh, fucl, fuch, full, fulh⟩])) => few_any W (.slice A' c.length cc) (.slice A l.length cs) (.slice (some ⟨g, 0, none⟩) 2 2) c l [⟨op, day, part, kind, into, slot, key, value, ukl, ukh, ucl, uch, ull, ulh⟩, ⟨fop, fday, fpart, fkind, finto, fslot, fkey, fvalue, fukl, fukh, fucl, fuch, full, fulh⟩] W (Below.refl _ _) (hcat.below h) (hsta.below h) hv hl hps (by simp [maxLen]))
  have HAP := Lib.hid (fun (h65 : c.length ≤ 65 ∧ ∀ k ∈ c, k.short) W0 (h0 : Below w.heap.size w W0) sv' l' (hs' : Sta W0 sv' l') (hl' : l'.length ≤ 20000) (hsh' : ∀ p ∈ l', p.short) ev t W (hr : applyL c l' ev = (t, 0)) (h : Below W0.heap.size W0 W) hev => apply_ok W0 (.slice A' c.length cc) sv' c l' ev t W hr h (hcat.below h0) (by omega) h65.2 hs' (by omega) hsh' hev)
  have HAN := Lib.hid (fun (h65 : c.length ≤ 65 ∧ ∀ k ∈ c, k.short) (h20 : l.length ≤ 20 ∧ ∀ p ∈ l, p.short) ev W (hr : (applyL c l ev).2 ≠ 0) (h : Below w.heap.size w W) hev => apply_no w (.slice A' c.length cc) (.slice A l.length cs) c l ev W hr h hcat (by omega) h65.2 hsta (by omega) h20.2 hev)
  have HNE := Lib.hid (fun W => names_any ⟨op, day, part, kind, into, slot, key, value, ukl, ukh, ucl, uch, ull, ulh⟩ W hev)
  have HNF := Lib.hid (fun W => names_any ⟨fop, fday, fpart, fkind, finto, fslot, fkey, fvalue, fukl, fukh, fucl, fuch, full, fulh⟩ W hef)
  have k1 := (((Has.new w 24 #[.slice A' c.length cc]).alloc (.cells #[.slice A l.length cs] 27)).alloc (.cells #[.int .i64 op, .int .i64 day, .string part, .string kind, .string into, .string slot, .string key, .string value, .int .i64 ukl, .int .i64 ukh, .int .i64 ucl, .int .i64 uch, .int .i64 ull, .int .i64 ulh] 33)).alloc (.cells #[.int .i64 fop, .int .i64 fday, .string fpart, .string fkind, .string finto, .string fslot, .string fkey, .string fvalue, .int .i64 fukl, .int .i64 fukh, .int .i64 fucl, .int .i64 fuch, .int .i64 full, .int .i64 fulh] 33)
  have k2 := ((Has.new (w.alloc (.cells #[.slice A' c.length cc] 24)) 27 #[.slice A l.length cs]).alloc (.cells #[.int .i64 op, .int .i64 day, .string part, .string kind, .string into, .string slot, .string key, .string value, .int .i64 ukl, .int .i64 ukh, .int .i64 ucl, .int .i64 uch, .int .i64 ull, .int .i64 ulh] 33)).alloc (.cells #[.int .i64 fop, .int .i64 fday, .string fpart, .string fkind, .string finto, .string fslot, .string fkey, .string fvalue, .int .i64 fukl, .int .i64 fukh, .int .i64 fucl, .int .i64 fuch, .int .i64 full, .int .i64 fulh] 33)
  have k3 := (Has.new ((w.alloc (.cells #[.slice A' c.length cc] 24)).alloc (.cells #[.slice A l.length cs] 27)) 33 #[.int .i64 op, .int .i64 day, .string part, .string kind, .string into, .string slot, .string key, .string value, .int .i64 ukl, .int .i64 ukh, .int .i64 ucl, .int .i64 uch, .int .i64 ull, .int .i64 ulh]).alloc (.cells #[.int .i64 fop, .int .i64 fday, .string fpart, .string fkind, .string finto, .string fslot, .string fkey, .string fvalue, .int .i64 fukl, .int .i64 fukh, .int .i64 fucl, .int .i64 fuch, .int .i64 full, .int .i64 fulh] 33)
  have k4 := Has.new (((w.alloc (.cells #[.slice A' c.length cc] 24)).alloc (.cells #[.slice A l.length cs] 27)).alloc (.cells #[.int .i64 op, .int .i64 day, .string part, .string kind, .string into, .string slot, .string key, .string value, .int .i64 ukl, .int .i64 ukh, .int .i64 ucl, .int .i64 uch, .int .i64 ull, .int .i64 ulh] 33)) 33 #[.int .i64 fop, .int .i64 fday, .string fpart, .string fkind, .string finto, .string fslot, .string fkey, .string fvalue, .int .i64 fukl, .int .i64 fukh, .int .i64 fucl, .int .i64 fuch, .int .i64 full, .int .i64 fulh]
  simp only [World.size_alloc] at k2 k3 k4
  have KC0 := Lib.hid k1
  have KS0 := Lib.hid k2
  have KE0 := Lib.hid k3
  have KF0 := Lib.hid k4
  have HB0 := Lib.hid (((((Below.refl w.heap.size w).alloc (Nat.le_refl _) (.cells #[.slice A' c.length cc] 24)).alloc (by simp) (.cells #[.slice A l.length cs] 27)).alloc (by simp; omega) (.cells #[.int .i64 op, .int .i64 day, .string part, .string kind, .string into, .string slot, .string key, .string value, .int .i64 ukl, .int .i64 ukh, .int .i64 ucl, .int .i64 uch, .int .i64 ull, .int .i64 ulh] 33)).alloc (by simp; omega) (.cells #[.int .i64 fop, .int .i64 fday, .string fpart, .string fkind, .string finto, .string fslot, .string fkey, .string fvalue, .int .i64 fukl, .int .i64 fukh, .int .i64 fucl, .int .i64 fuch, .int .i64 full, .int .i64 fulh] 33))
  clear hcat hsta hps hev hef k1 k2 k3 k4
  obtain ⟨h65, h20⟩ := fewB_take hfew
  have HAP := Lib.hid (HAP.out h65)
  have HAN := Lib.hid (HAN.out h65 h20)
  have HL := Lib.hid (show l.length ≤ 20000 by omega)
  have HSH := Lib.hid h20.2
  have HL2 := Lib.hid h20.1
  have HLE := Lib.hid (show (evNames ⟨op, day, part, kind, into, slot, key, value, ukl, ukh, ucl, uch, ull, ulh⟩).length ≤ 1000000 by have := evNames_len ⟨op, day, part, kind, into, slot, key, value, ukl, ukh, ucl, uch, ull, ulh⟩; omega)
  have HLF := Lib.hid (show (evNames ⟨fop, fday, fpart, fkind, finto, fslot, fkey, fvalue, fukl, fukh, fucl, fuch, full, fulh⟩).length ≤ 1000000 by have := evNames_len ⟨fop, fday, fpart, fkind, finto, fslot, fkey, fvalue, fukl, fukh, fucl, fuch, full, fulh⟩; omega)
  have HFEW := Lib.hid hfew
  have HCOM := Lib.hid hcom
  clear hfew h65 h20 hcom
  have HOE := Lib.hid (fun W (h : Below w.heap.size w W) => HAN.out _ W (by rw [hre]; exact hne) h HEV.out)
  rw [hre] at HOE
  have hne1 : (re == 0) = false := by simpa using hne
  have hne2 : (re != 0) = true := by simpa using hne
  clear hne
  have HOF := Lib.hid (fun W (h : Below w.heap.size w W) => HAN.out _ W (by rw [hrf]; exact hnf) h HEF.out)
  rw [hrf] at HOF
  have hnf1 : (rf == 0) = false := by simpa using hnf
  have hnf2 : (rf != 0) = true := by simpa using hnf
  clear hnf
  clear hre hrf
  go_enter Tryz.func7, Tryz.ntmps7
  go_wp2_with fail
  refine (head_any _).mono ?_
  rintro e w1 ⟨rfl, hb1⟩
  have kC := (KC0.out).below hb1 (KC0.out).lt
  obtain ⟨xC1, yC1⟩ := kC.facts
  have zC1 := kC.lt
  have KC1 := Lib.hid kC
  have kS := (KS0.out).below hb1 (KS0.out).lt
  obtain ⟨xS1, yS1⟩ := kS.facts
  have zS1 := kS.lt
  have KS1 := Lib.hid kS
  have kE := (KE0.out).below hb1 (KE0.out).lt
  obtain ⟨xE1, yE1⟩ := kE.facts
  have zE1 := kE.lt
  have KE1 := Lib.hid kE
  have kF := (KF0.out).below hb1 (KF0.out).lt
  obtain ⟨xF1, yF1⟩ := kF.facts
  have zF1 := kF.lt
  have KF1 := Lib.hid kF
  have HB1 := Lib.hid ((HB0.out).trans (hb1.mono (HB0.out).size))
  clear hb1 kC kS kE kF
  go_wp2_with fail
  have HK := Lib.hid (fun W (h : Below w1.heap.size w1 W) => (⟨h, ((KC1.out).below h (KC1.out).lt).facts.1, ((KS1.out).below h (KS1.out).lt).facts.1, ((KE1.out).below h (KE1.out).lt).facts.1, ((KF1.out).below h (KF1.out).lt).facts.1⟩ : Below w1.heap.size w1 W ∧ (∀ o, World.cell? W ⟨w.heap.size, o, none⟩ = (#[.slice A' c.length cc] : Array Value)[o]?) ∧ (∀ o, World.cell? W ⟨w.heap.size + 1, o, none⟩ = (#[.slice A l.length cs] : Array Value)[o]?) ∧ (∀ o, World.cell? W ⟨w.heap.size + 1 + 1, o, none⟩ = (#[.int .i64 op, .int .i64 day, .string part, .string kind, .string into, .string slot, .string key, .string value, .int .i64 ukl, .int .i64 ukh, .int .i64 ucl, .int .i64 uch, .int .i64 ull, .int .i64 ulh] : Array Value)[o]?) ∧ (∀ o, World.cell? W ⟨w.heap.size + 1 + 1 + 1, o, none⟩ = (#[.int .i64 fop, .int .i64 fday, .string fpart, .string fkind, .string finto, .string fslot, .string fkey, .string fvalue, .int .i64 fukl, .int .i64 fukh, .int .i64 fucl, .int .i64 fuch, .int .i64 full, .int .i64 fulh] : Array Value)[o]?)))
  have hbV : Below w1.heap.size w1 ((w1.drew).alloc (.cells #[.int .i64 op, .int .i64 day, .string part, .string kind, .string into, .string slot, .string key, .string value, .int .i64 ukl, .int .i64 ukh, .int .i64 ucl, .int .i64 uch, .int .i64 ull, .int .i64 ulh, .int .i64 fop, .int .i64 fday, .string fpart, .string fkind, .string finto, .string fslot, .string fkey, .string fvalue, .int .i64 fukl, .int .i64 fukh, .int .i64 fucl, .int .i64 fuch, .int .i64 full, .int .i64 fulh] 33)) := ((Below.refl w1.heap.size w1).drew).alloc (Nat.le_refl _) _
  have HVW := Lib.hid (HFW.out _ (HB1.out.trans (hbV.mono HB1.out.size)) (ev_sl2 (e := ⟨op, day, part, kind, into, slot, key, value, ukl, ukh, ucl, uch, ull, ulh⟩) (f := ⟨fop, fday, fpart, fkind, finto, fslot, fkey, fvalue, fukl, fukh, fucl, fuch, full, fulh⟩) (Has.new w1.drew 33 #[.int .i64 op, .int .i64 day, .string part, .string kind, .string into, .string slot, .string key, .string value, .int .i64 ukl, .int .i64 ukh, .int .i64 ucl, .int .i64 uch, .int .i64 ull, .int .i64 ulh, .int .i64 fop, .int .i64 fday, .string fpart, .string fkind, .string finto, .string fslot, .string fkey, .string fvalue, .int .i64 fukl, .int .i64 fukh, .int .i64 fucl, .int .i64 fuch, .int .i64 full, .int .i64 fulh])))
  rw [HFEW.out] at HVW
  go_region_held3 (fun W => Below w1.heap.size w1 W ∧ (∀ o, World.cell? W ⟨w.heap.size, o, none⟩ = (#[.slice A' c.length cc] : Array Value)[o]?) ∧ (∀ o, World.cell? W ⟨w.heap.size + 1, o, none⟩ = (#[.slice A l.length cs] : Array Value)[o]?) ∧ (∀ o, World.cell? W ⟨w.heap.size + 1 + 1, o, none⟩ = (#[.int .i64 op, .int .i64 day, .string part, .string kind, .string into, .string slot, .string key, .string value, .int .i64 ukl, .int .i64 ukh, .int .i64 ucl, .int .i64 uch, .int .i64 ull, .int .i64 ulh] : Array Value)[o]?) ∧ (∀ o, World.cell? W ⟨w.heap.size + 1 + 1 + 1, o, none⟩ = (#[.int .i64 fop, .int .i64 fday, .string fpart, .string fkind, .string finto, .string fslot, .string fkey, .string fvalue, .int .i64 fukl, .int .i64 fukh, .int .i64 fucl, .int .i64 fuch, .int .i64 full, .int .i64 fulh] : Array Value)[o]?)) (first | exact HK.out _ (Below.refl w1.heap.size w1).drew | exact HK.out _ hbV | exact HK.out _ hbw5 | exact HK.out _ hbw4 | exact HK.out _ hbw3 | exact HK.out _ hbw2) (first | (go_at_call 9; refine HVW.out.mono ?_; rintro e w2 ⟨rfl, hb2⟩; have hbw2 : Below w1.heap.size w1 w2 := hbV.trans (hb2.mono hbV.size); clear hb2) | (go_at_call_of 19 (Value.string part); refine (HNE.out _).mono ?_; rintro e w3 ⟨v3, rfl, hr3, hb3⟩; have HR3 := Lib.hid (names_sl hr3); have hbw3 : Below w1.heap.size w1 w3 := hbw2.trans (hb3.mono hbw2.size); clear hr3 hb3) | (go_at_call_of 19 (Value.string fpart); refine (HNF.out _).mono ?_; rintro e w4 ⟨v4, rfl, hr4, hb4⟩; have HR43 := Lib.hid (HR3.out.below hb4); have HR4 := Lib.hid (names_sl hr4); have hbw4 : Below w1.heap.size w1 w4 := hbw3.trans (hb4.mono hbw3.size); clear hr4 hb4) | (go_at_call 18; refine (common_below v3 v4 (evNames ⟨op, day, part, kind, into, slot, key, value, ukl, ukh, ucl, uch, ull, ulh⟩) (evNames ⟨fop, fday, fpart, fkind, finto, fslot, fkey, fvalue, fukl, fukh, fucl, fuch, full, fulh⟩) _ HR43.out HR4.out HLE.out HLF.out).mono ?_; rintro e w5 ⟨rfl, hb5⟩; rw [HCOM.out]; have hbw5 : Below w1.heap.size w1 w5 := hbw4.trans (hb5.mono hbw4.size); clear hb5))
  rename_i hHeld
  clear hHeld
  clear xC1 yC1 zC1 xS1 yS1 zS1 xE1 yE1 zE1 xF1 yF1 zF1
  have kC := (KC1.out).below hbw5 (KC1.out).lt
  obtain ⟨xC5, yC5⟩ := kC.facts
  have zC5 := kC.lt
  have KC5 := Lib.hid kC
  have kS := (KS1.out).below hbw5 (KS1.out).lt
  obtain ⟨xS5, yS5⟩ := kS.facts
  have zS5 := kS.lt
  have KS5 := Lib.hid kS
  have kE := (KE1.out).below hbw5 (KE1.out).lt
  obtain ⟨xE5, yE5⟩ := kE.facts
  have zE5 := kE.lt
  have KE5 := Lib.hid kE
  have kF := (KF1.out).below hbw5 (KF1.out).lt
  obtain ⟨xF5, yF5⟩ := kF.facts
  have zF5 := kF.lt
  have KF5 := Lib.hid kF
  have HB5 := Lib.hid (HB1.out.trans (Below.mono hbw5 HB1.out.size))
  clear kC kS kE kF
  clear HK hbV HVW hbw2 hbw3 hbw4 hbw5 HR3 HR43 HR4 HCOM
  go_wp2_with fail
  refine (HOE.out _ (HB5.out)).mono ?_
  rintro e w6 ⟨A6, c6, rfl, hb6⟩
  clear xC5 yC5 zC5 xS5 yS5 zS5 xE5 yE5 zE5 xF5 yF5 zF5
  have kC := (KC5.out).below hb6 (KC5.out).lt
  obtain ⟨xC6, yC6⟩ := kC.facts
  have zC6 := kC.lt
  have KC6 := Lib.hid kC
  have kS := (KS5.out).below hb6 (KS5.out).lt
  obtain ⟨xS6, yS6⟩ := kS.facts
  have zS6 := kS.lt
  have KS6 := Lib.hid kS
  have kE := (KE5.out).below hb6 (KE5.out).lt
  obtain ⟨xE6, yE6⟩ := kE.facts
  have zE6 := kE.lt
  have KE6 := Lib.hid kE
  have kF := (KF5.out).below hb6 (KF5.out).lt
  obtain ⟨xF6, yF6⟩ := kF.facts
  have zF6 := kF.lt
  have KF6 := Lib.hid kF
  have HB6 := Lib.hid ((HB5.out).trans (hb6.mono (HB5.out).size))
  clear hb6 kC kS kE kF
  go_wp2_with fail
  refine (HOF.out _ ((HB6.out).alloc (HB6.out).size _)).mono ?_
  rintro e w7 ⟨A7, c7, rfl, hb7⟩
  clear xC6 yC6 zC6 xS6 yS6 zS6 xE6 yE6 zE6 xF6 yF6 zF6
  have kC := ((KC6.out).alloc _).below hb7 ((KC6.out).alloc _).lt
  obtain ⟨xC7, yC7⟩ := kC.facts
  have zC7 := kC.lt
  have KC7 := Lib.hid kC
  have kS := ((KS6.out).alloc _).below hb7 ((KS6.out).alloc _).lt
  obtain ⟨xS7, yS7⟩ := kS.facts
  have zS7 := kS.lt
  have KS7 := Lib.hid kS
  have kE := ((KE6.out).alloc _).below hb7 ((KE6.out).alloc _).lt
  obtain ⟨xE7, yE7⟩ := kE.facts
  have zE7 := kE.lt
  have KE7 := Lib.hid kE
  have kF := ((KF6.out).alloc _).below hb7 ((KF6.out).alloc _).lt
  obtain ⟨xF7, yF7⟩ := kF.facts
  have zF7 := kF.lt
  have KF7 := Lib.hid kF
  have kA := (Has.new (w6) 27 #[.slice A6 0 c6]).below hb7 (Has.new (w6) 27 #[.slice A6 0 c6]).lt
  obtain ⟨xA7, yA7⟩ := kA.facts
  have zA7 := kA.lt
  have KA7 := Lib.hid kA
  have HB7 := Lib.hid (((HB6.out).alloc (HB6.out).size _).trans (hb7.mono ((HB6.out).alloc (HB6.out).size _).size))
  clear hb7 kC kS kE kF kA
  go_wp2_with fail
  go_ret
  exact ⟨rfl, (HB7.out).alloc (HB7.out).size _⟩
set_option maxRecDepth 100000 in
set_option maxHeartbeats 8000000 in
theorem comm_ny (cv sv : Value) (c : List Kd) (l : List Pa) (op day : Int) (part kind into slot key value : ByteArray) (ukl ukh ucl uch ull ulh : Int) (fop fday : Int) (fpart fkind finto fslot fkey fvalue : ByteArray) (fukl fukh fucl fuch full fulh : Int) (w : World) (hcat : Cat w cv c) (hsta : Sta w sv l) (hl : l.length ≤ maxLen) (hps : ∀ p ∈ l, p.wide) (hev : Ev.short ⟨op, day, part, kind, into, slot, key, value, ukl, ukh, ucl, uch, ull, ulh⟩) (hef : Ev.short ⟨fop, fday, fpart, fkind, finto, fslot, fkey, fvalue, fukl, fukh, fucl, fuch, full, fulh⟩) (hfew : fewB c l [⟨op, day, part, kind, into, slot, key, value, ukl, ukh, ucl, uch, ull, ulh⟩, ⟨fop, fday, fpart, fkind, finto, fslot, fkey, fvalue, fukl, fukh, fucl, fuch, full, fulh⟩] = true) (hcom : comB (evNames ⟨op, day, part, kind, into, slot, key, value, ukl, ukh, ucl, uch, ull, ulh⟩) (evNames ⟨fop, fday, fpart, fkind, finto, fslot, fkey, fvalue, fukl, fukh, fucl, fuch, full, fulh⟩) = false) (ta : List Pa) (re : Int) (hre : applyL c l ⟨op, day, part, kind, into, slot, key, value, ukl, ukh, ucl, uch, ull, ulh⟩ = (ta, re)) (hne : ¬ re = 0) (tb : List Pa) (hrf : applyL c l ⟨fop, fday, fpart, fkind, finto, fslot, fkey, fvalue, fukl, fukh, fucl, fuch, full, fulh⟩ = (tb, 0)) :
    Calls Tryz.prog 7 #[.agg #[cv], .agg #[sv], .agg #[.int .i64 op, .int .i64 day, .string part, .string kind, .string into, .string slot, .string key, .string value, .int .i64 ukl, .int .i64 ukh, .int .i64 ucl, .int .i64 uch, .int .i64 ull, .int .i64 ulh], .agg #[.int .i64 fop, .int .i64 fday, .string fpart, .string fkind, .string finto, .string fslot, .string fkey, .string fvalue, .int .i64 fukl, .int .i64 fukh, .int .i64 fucl, .int .i64 fuch, .int .i64 full, .int .i64 fulh]] w fun e w' => e = .returned (.bool true) ∧ Below w.heap.size w w' := by
  obtain ⟨A', cc, rfl, _⟩ := Rd.form hcat
  obtain ⟨A, cs, rfl, hn⟩ := Rd.form hsta
  have HST := Lib.hid hsta
  have HEV := Lib.hid hev
  have HEF := Lib.hid hef
  have HFW := Lib.hid (fun W (h : Below w.heap.size w W) {g : Nat} (hv : Sl W (.slice (some ⟨g, 0, none⟩) 2 2) 2 14 (evF [⟨op, day, part, kind, into, slot, key, value, ukl, ukh, ucl, uch, ull, ulh⟩, ⟨fop, fday, fpart, fkind, finto, fslot, fkey, fvalue, fukl, fukh, fucl, fuch, full, fulh⟩])) => few_any W (.slice A' c.length cc) (.slice A l.length cs) (.slice (some ⟨g, 0, none⟩) 2 2) c l [⟨op, day, part, kind, into, slot, key, value, ukl, ukh, ucl, uch, ull, ulh⟩, ⟨fop, fday, fpart, fkind, finto, fslot, fkey, fvalue, fukl, fukh, fucl, fuch, full, fulh⟩] W (Below.refl _ _) (hcat.below h) (hsta.below h) hv hl hps (by simp [maxLen]))
  have HAP := Lib.hid (fun (h65 : c.length ≤ 65 ∧ ∀ k ∈ c, k.short) W0 (h0 : Below w.heap.size w W0) sv' l' (hs' : Sta W0 sv' l') (hl' : l'.length ≤ 20000) (hsh' : ∀ p ∈ l', p.short) ev t W (hr : applyL c l' ev = (t, 0)) (h : Below W0.heap.size W0 W) hev => apply_ok W0 (.slice A' c.length cc) sv' c l' ev t W hr h (hcat.below h0) (by omega) h65.2 hs' (by omega) hsh' hev)
  have HAN := Lib.hid (fun (h65 : c.length ≤ 65 ∧ ∀ k ∈ c, k.short) (h20 : l.length ≤ 20 ∧ ∀ p ∈ l, p.short) ev W (hr : (applyL c l ev).2 ≠ 0) (h : Below w.heap.size w W) hev => apply_no w (.slice A' c.length cc) (.slice A l.length cs) c l ev W hr h hcat (by omega) h65.2 hsta (by omega) h20.2 hev)
  have HNE := Lib.hid (fun W => names_any ⟨op, day, part, kind, into, slot, key, value, ukl, ukh, ucl, uch, ull, ulh⟩ W hev)
  have HNF := Lib.hid (fun W => names_any ⟨fop, fday, fpart, fkind, finto, fslot, fkey, fvalue, fukl, fukh, fucl, fuch, full, fulh⟩ W hef)
  have k1 := (((Has.new w 24 #[.slice A' c.length cc]).alloc (.cells #[.slice A l.length cs] 27)).alloc (.cells #[.int .i64 op, .int .i64 day, .string part, .string kind, .string into, .string slot, .string key, .string value, .int .i64 ukl, .int .i64 ukh, .int .i64 ucl, .int .i64 uch, .int .i64 ull, .int .i64 ulh] 33)).alloc (.cells #[.int .i64 fop, .int .i64 fday, .string fpart, .string fkind, .string finto, .string fslot, .string fkey, .string fvalue, .int .i64 fukl, .int .i64 fukh, .int .i64 fucl, .int .i64 fuch, .int .i64 full, .int .i64 fulh] 33)
  have k2 := ((Has.new (w.alloc (.cells #[.slice A' c.length cc] 24)) 27 #[.slice A l.length cs]).alloc (.cells #[.int .i64 op, .int .i64 day, .string part, .string kind, .string into, .string slot, .string key, .string value, .int .i64 ukl, .int .i64 ukh, .int .i64 ucl, .int .i64 uch, .int .i64 ull, .int .i64 ulh] 33)).alloc (.cells #[.int .i64 fop, .int .i64 fday, .string fpart, .string fkind, .string finto, .string fslot, .string fkey, .string fvalue, .int .i64 fukl, .int .i64 fukh, .int .i64 fucl, .int .i64 fuch, .int .i64 full, .int .i64 fulh] 33)
  have k3 := (Has.new ((w.alloc (.cells #[.slice A' c.length cc] 24)).alloc (.cells #[.slice A l.length cs] 27)) 33 #[.int .i64 op, .int .i64 day, .string part, .string kind, .string into, .string slot, .string key, .string value, .int .i64 ukl, .int .i64 ukh, .int .i64 ucl, .int .i64 uch, .int .i64 ull, .int .i64 ulh]).alloc (.cells #[.int .i64 fop, .int .i64 fday, .string fpart, .string fkind, .string finto, .string fslot, .string fkey, .string fvalue, .int .i64 fukl, .int .i64 fukh, .int .i64 fucl, .int .i64 fuch, .int .i64 full, .int .i64 fulh] 33)
  have k4 := Has.new (((w.alloc (.cells #[.slice A' c.length cc] 24)).alloc (.cells #[.slice A l.length cs] 27)).alloc (.cells #[.int .i64 op, .int .i64 day, .string part, .string kind, .string into, .string slot, .string key, .string value, .int .i64 ukl, .int .i64 ukh, .int .i64 ucl, .int .i64 uch, .int .i64 ull, .int .i64 ulh] 33)) 33 #[.int .i64 fop, .int .i64 fday, .string fpart, .string fkind, .string finto, .string fslot, .string fkey, .string fvalue, .int .i64 fukl, .int .i64 fukh, .int .i64 fucl, .int .i64 fuch, .int .i64 full, .int .i64 fulh]
  simp only [World.size_alloc] at k2 k3 k4
  have KC0 := Lib.hid k1
  have KS0 := Lib.hid k2
  have KE0 := Lib.hid k3
  have KF0 := Lib.hid k4
  have HB0 := Lib.hid (((((Below.refl w.heap.size w).alloc (Nat.le_refl _) (.cells #[.slice A' c.length cc] 24)).alloc (by simp) (.cells #[.slice A l.length cs] 27)).alloc (by simp; omega) (.cells #[.int .i64 op, .int .i64 day, .string part, .string kind, .string into, .string slot, .string key, .string value, .int .i64 ukl, .int .i64 ukh, .int .i64 ucl, .int .i64 uch, .int .i64 ull, .int .i64 ulh] 33)).alloc (by simp; omega) (.cells #[.int .i64 fop, .int .i64 fday, .string fpart, .string fkind, .string finto, .string fslot, .string fkey, .string fvalue, .int .i64 fukl, .int .i64 fukh, .int .i64 fucl, .int .i64 fuch, .int .i64 full, .int .i64 fulh] 33))
  clear hcat hsta hps hev hef k1 k2 k3 k4
  obtain ⟨h65, h20⟩ := fewB_take hfew
  have HAP := Lib.hid (HAP.out h65)
  have HAN := Lib.hid (HAN.out h65 h20)
  have HL := Lib.hid (show l.length ≤ 20000 by omega)
  have HSH := Lib.hid h20.2
  have HL2 := Lib.hid h20.1
  have HLE := Lib.hid (show (evNames ⟨op, day, part, kind, into, slot, key, value, ukl, ukh, ucl, uch, ull, ulh⟩).length ≤ 1000000 by have := evNames_len ⟨op, day, part, kind, into, slot, key, value, ukl, ukh, ucl, uch, ull, ulh⟩; omega)
  have HLF := Lib.hid (show (evNames ⟨fop, fday, fpart, fkind, finto, fslot, fkey, fvalue, fukl, fukh, fucl, fuch, full, fulh⟩).length ≤ 1000000 by have := evNames_len ⟨fop, fday, fpart, fkind, finto, fslot, fkey, fvalue, fukl, fukh, fucl, fuch, full, fulh⟩; omega)
  have HFEW := Lib.hid hfew
  have HCOM := Lib.hid hcom
  clear hfew h65 h20 hcom
  have HOE := Lib.hid (fun W (h : Below w.heap.size w W) => HAN.out _ W (by rw [hre]; exact hne) h HEV.out)
  rw [hre] at HOE
  have hne1 : (re == 0) = false := by simpa using hne
  have hne2 : (re != 0) = true := by simpa using hne
  clear hne
  have HTB := Lib.hid (apply_short HSH.out HEF.out hrf)
  have HOF := Lib.hid (fun W (h : Below w.heap.size w W) => HAP.out w (Below.refl _ _) (.slice A l.length cs) l HST.out HL.out HSH.out _ tb W hrf h HEF.out)
  clear hre hrf
  go_enter Tryz.func7, Tryz.ntmps7
  go_wp2_with fail
  refine (head_any _).mono ?_
  rintro e w1 ⟨rfl, hb1⟩
  have kC := (KC0.out).below hb1 (KC0.out).lt
  obtain ⟨xC1, yC1⟩ := kC.facts
  have zC1 := kC.lt
  have KC1 := Lib.hid kC
  have kS := (KS0.out).below hb1 (KS0.out).lt
  obtain ⟨xS1, yS1⟩ := kS.facts
  have zS1 := kS.lt
  have KS1 := Lib.hid kS
  have kE := (KE0.out).below hb1 (KE0.out).lt
  obtain ⟨xE1, yE1⟩ := kE.facts
  have zE1 := kE.lt
  have KE1 := Lib.hid kE
  have kF := (KF0.out).below hb1 (KF0.out).lt
  obtain ⟨xF1, yF1⟩ := kF.facts
  have zF1 := kF.lt
  have KF1 := Lib.hid kF
  have HB1 := Lib.hid ((HB0.out).trans (hb1.mono (HB0.out).size))
  clear hb1 kC kS kE kF
  go_wp2_with fail
  have HK := Lib.hid (fun W (h : Below w1.heap.size w1 W) => (⟨h, ((KC1.out).below h (KC1.out).lt).facts.1, ((KS1.out).below h (KS1.out).lt).facts.1, ((KE1.out).below h (KE1.out).lt).facts.1, ((KF1.out).below h (KF1.out).lt).facts.1⟩ : Below w1.heap.size w1 W ∧ (∀ o, World.cell? W ⟨w.heap.size, o, none⟩ = (#[.slice A' c.length cc] : Array Value)[o]?) ∧ (∀ o, World.cell? W ⟨w.heap.size + 1, o, none⟩ = (#[.slice A l.length cs] : Array Value)[o]?) ∧ (∀ o, World.cell? W ⟨w.heap.size + 1 + 1, o, none⟩ = (#[.int .i64 op, .int .i64 day, .string part, .string kind, .string into, .string slot, .string key, .string value, .int .i64 ukl, .int .i64 ukh, .int .i64 ucl, .int .i64 uch, .int .i64 ull, .int .i64 ulh] : Array Value)[o]?) ∧ (∀ o, World.cell? W ⟨w.heap.size + 1 + 1 + 1, o, none⟩ = (#[.int .i64 fop, .int .i64 fday, .string fpart, .string fkind, .string finto, .string fslot, .string fkey, .string fvalue, .int .i64 fukl, .int .i64 fukh, .int .i64 fucl, .int .i64 fuch, .int .i64 full, .int .i64 fulh] : Array Value)[o]?)))
  have hbV : Below w1.heap.size w1 ((w1.drew).alloc (.cells #[.int .i64 op, .int .i64 day, .string part, .string kind, .string into, .string slot, .string key, .string value, .int .i64 ukl, .int .i64 ukh, .int .i64 ucl, .int .i64 uch, .int .i64 ull, .int .i64 ulh, .int .i64 fop, .int .i64 fday, .string fpart, .string fkind, .string finto, .string fslot, .string fkey, .string fvalue, .int .i64 fukl, .int .i64 fukh, .int .i64 fucl, .int .i64 fuch, .int .i64 full, .int .i64 fulh] 33)) := ((Below.refl w1.heap.size w1).drew).alloc (Nat.le_refl _) _
  have HVW := Lib.hid (HFW.out _ (HB1.out.trans (hbV.mono HB1.out.size)) (ev_sl2 (e := ⟨op, day, part, kind, into, slot, key, value, ukl, ukh, ucl, uch, ull, ulh⟩) (f := ⟨fop, fday, fpart, fkind, finto, fslot, fkey, fvalue, fukl, fukh, fucl, fuch, full, fulh⟩) (Has.new w1.drew 33 #[.int .i64 op, .int .i64 day, .string part, .string kind, .string into, .string slot, .string key, .string value, .int .i64 ukl, .int .i64 ukh, .int .i64 ucl, .int .i64 uch, .int .i64 ull, .int .i64 ulh, .int .i64 fop, .int .i64 fday, .string fpart, .string fkind, .string finto, .string fslot, .string fkey, .string fvalue, .int .i64 fukl, .int .i64 fukh, .int .i64 fucl, .int .i64 fuch, .int .i64 full, .int .i64 fulh])))
  rw [HFEW.out] at HVW
  go_region_held3 (fun W => Below w1.heap.size w1 W ∧ (∀ o, World.cell? W ⟨w.heap.size, o, none⟩ = (#[.slice A' c.length cc] : Array Value)[o]?) ∧ (∀ o, World.cell? W ⟨w.heap.size + 1, o, none⟩ = (#[.slice A l.length cs] : Array Value)[o]?) ∧ (∀ o, World.cell? W ⟨w.heap.size + 1 + 1, o, none⟩ = (#[.int .i64 op, .int .i64 day, .string part, .string kind, .string into, .string slot, .string key, .string value, .int .i64 ukl, .int .i64 ukh, .int .i64 ucl, .int .i64 uch, .int .i64 ull, .int .i64 ulh] : Array Value)[o]?) ∧ (∀ o, World.cell? W ⟨w.heap.size + 1 + 1 + 1, o, none⟩ = (#[.int .i64 fop, .int .i64 fday, .string fpart, .string fkind, .string finto, .string fslot, .string fkey, .string fvalue, .int .i64 fukl, .int .i64 fukh, .int .i64 fucl, .int .i64 fuch, .int .i64 full, .int .i64 fulh] : Array Value)[o]?)) (first | exact HK.out _ (Below.refl w1.heap.size w1).drew | exact HK.out _ hbV | exact HK.out _ hbw5 | exact HK.out _ hbw4 | exact HK.out _ hbw3 | exact HK.out _ hbw2) (first | (go_at_call 9; refine HVW.out.mono ?_; rintro e w2 ⟨rfl, hb2⟩; have hbw2 : Below w1.heap.size w1 w2 := hbV.trans (hb2.mono hbV.size); clear hb2) | (go_at_call_of 19 (Value.string part); refine (HNE.out _).mono ?_; rintro e w3 ⟨v3, rfl, hr3, hb3⟩; have HR3 := Lib.hid (names_sl hr3); have hbw3 : Below w1.heap.size w1 w3 := hbw2.trans (hb3.mono hbw2.size); clear hr3 hb3) | (go_at_call_of 19 (Value.string fpart); refine (HNF.out _).mono ?_; rintro e w4 ⟨v4, rfl, hr4, hb4⟩; have HR43 := Lib.hid (HR3.out.below hb4); have HR4 := Lib.hid (names_sl hr4); have hbw4 : Below w1.heap.size w1 w4 := hbw3.trans (hb4.mono hbw3.size); clear hr4 hb4) | (go_at_call 18; refine (common_below v3 v4 (evNames ⟨op, day, part, kind, into, slot, key, value, ukl, ukh, ucl, uch, ull, ulh⟩) (evNames ⟨fop, fday, fpart, fkind, finto, fslot, fkey, fvalue, fukl, fukh, fucl, fuch, full, fulh⟩) _ HR43.out HR4.out HLE.out HLF.out).mono ?_; rintro e w5 ⟨rfl, hb5⟩; rw [HCOM.out]; have hbw5 : Below w1.heap.size w1 w5 := hbw4.trans (hb5.mono hbw4.size); clear hb5))
  rename_i hHeld
  clear hHeld
  clear xC1 yC1 zC1 xS1 yS1 zS1 xE1 yE1 zE1 xF1 yF1 zF1
  have kC := (KC1.out).below hbw5 (KC1.out).lt
  obtain ⟨xC5, yC5⟩ := kC.facts
  have zC5 := kC.lt
  have KC5 := Lib.hid kC
  have kS := (KS1.out).below hbw5 (KS1.out).lt
  obtain ⟨xS5, yS5⟩ := kS.facts
  have zS5 := kS.lt
  have KS5 := Lib.hid kS
  have kE := (KE1.out).below hbw5 (KE1.out).lt
  obtain ⟨xE5, yE5⟩ := kE.facts
  have zE5 := kE.lt
  have KE5 := Lib.hid kE
  have kF := (KF1.out).below hbw5 (KF1.out).lt
  obtain ⟨xF5, yF5⟩ := kF.facts
  have zF5 := kF.lt
  have KF5 := Lib.hid kF
  have HB5 := Lib.hid (HB1.out.trans (Below.mono hbw5 HB1.out.size))
  clear kC kS kE kF
  clear HK hbV HVW hbw2 hbw3 hbw4 hbw5 HR3 HR43 HR4 HCOM
  go_wp2_with fail
  refine (HOE.out _ (HB5.out)).mono ?_
  rintro e w6 ⟨A6, c6, rfl, hb6⟩
  clear xC5 yC5 zC5 xS5 yS5 zS5 xE5 yE5 zE5 xF5 yF5 zF5
  have kC := (KC5.out).below hb6 (KC5.out).lt
  obtain ⟨xC6, yC6⟩ := kC.facts
  have zC6 := kC.lt
  have KC6 := Lib.hid kC
  have kS := (KS5.out).below hb6 (KS5.out).lt
  obtain ⟨xS6, yS6⟩ := kS.facts
  have zS6 := kS.lt
  have KS6 := Lib.hid kS
  have kE := (KE5.out).below hb6 (KE5.out).lt
  obtain ⟨xE6, yE6⟩ := kE.facts
  have zE6 := kE.lt
  have KE6 := Lib.hid kE
  have kF := (KF5.out).below hb6 (KF5.out).lt
  obtain ⟨xF6, yF6⟩ := kF.facts
  have zF6 := kF.lt
  have KF6 := Lib.hid kF
  have HB6 := Lib.hid ((HB5.out).trans (hb6.mono (HB5.out).size))
  clear hb6 kC kS kE kF
  go_wp2_with fail
  refine (HOF.out _ ((HB6.out).alloc (HB6.out).size _)).mono ?_
  rintro e w7 ⟨A7, c7, rfl, hst7, hb7⟩
  have HST7 := Lib.hid hst7
  clear hst7
  clear xC6 yC6 zC6 xS6 yS6 zS6 xE6 yE6 zE6 xF6 yF6 zF6
  have kC := ((KC6.out).alloc _).below hb7 ((KC6.out).alloc _).lt
  obtain ⟨xC7, yC7⟩ := kC.facts
  have zC7 := kC.lt
  have KC7 := Lib.hid kC
  have kS := ((KS6.out).alloc _).below hb7 ((KS6.out).alloc _).lt
  obtain ⟨xS7, yS7⟩ := kS.facts
  have zS7 := kS.lt
  have KS7 := Lib.hid kS
  have kE := ((KE6.out).alloc _).below hb7 ((KE6.out).alloc _).lt
  obtain ⟨xE7, yE7⟩ := kE.facts
  have zE7 := kE.lt
  have KE7 := Lib.hid kE
  have kF := ((KF6.out).alloc _).below hb7 ((KF6.out).alloc _).lt
  obtain ⟨xF7, yF7⟩ := kF.facts
  have zF7 := kF.lt
  have KF7 := Lib.hid kF
  have kA := (Has.new (w6) 27 #[.slice A6 0 c6]).below hb7 (Has.new (w6) 27 #[.slice A6 0 c6]).lt
  obtain ⟨xA7, yA7⟩ := kA.facts
  have zA7 := kA.lt
  have KA7 := Lib.hid kA
  have HB7 := Lib.hid (((HB6.out).alloc (HB6.out).size _).trans (hb7.mono ((HB6.out).alloc (HB6.out).size _).size))
  clear hb7 kC kS kE kF kA
  go_wp2_with fail
  go_ret
  exact ⟨rfl, (HB7.out).alloc (HB7.out).size _⟩
set_option maxRecDepth 100000 in
set_option maxHeartbeats 8000000 in
theorem comm_yn (cv sv : Value) (c : List Kd) (l : List Pa) (op day : Int) (part kind into slot key value : ByteArray) (ukl ukh ucl uch ull ulh : Int) (fop fday : Int) (fpart fkind finto fslot fkey fvalue : ByteArray) (fukl fukh fucl fuch full fulh : Int) (w : World) (hcat : Cat w cv c) (hsta : Sta w sv l) (hl : l.length ≤ maxLen) (hps : ∀ p ∈ l, p.wide) (hev : Ev.short ⟨op, day, part, kind, into, slot, key, value, ukl, ukh, ucl, uch, ull, ulh⟩) (hef : Ev.short ⟨fop, fday, fpart, fkind, finto, fslot, fkey, fvalue, fukl, fukh, fucl, fuch, full, fulh⟩) (hfew : fewB c l [⟨op, day, part, kind, into, slot, key, value, ukl, ukh, ucl, uch, ull, ulh⟩, ⟨fop, fday, fpart, fkind, finto, fslot, fkey, fvalue, fukl, fukh, fucl, fuch, full, fulh⟩] = true) (hcom : comB (evNames ⟨op, day, part, kind, into, slot, key, value, ukl, ukh, ucl, uch, ull, ulh⟩) (evNames ⟨fop, fday, fpart, fkind, finto, fslot, fkey, fvalue, fukl, fukh, fucl, fuch, full, fulh⟩) = false) (ta : List Pa) (hre : applyL c l ⟨op, day, part, kind, into, slot, key, value, ukl, ukh, ucl, uch, ull, ulh⟩ = (ta, 0)) (tb : List Pa) (rf : Int) (hrf : applyL c l ⟨fop, fday, fpart, fkind, finto, fslot, fkey, fvalue, fukl, fukh, fucl, fuch, full, fulh⟩ = (tb, rf)) (hnf : ¬ rf = 0) :
    Calls Tryz.prog 7 #[.agg #[cv], .agg #[sv], .agg #[.int .i64 op, .int .i64 day, .string part, .string kind, .string into, .string slot, .string key, .string value, .int .i64 ukl, .int .i64 ukh, .int .i64 ucl, .int .i64 uch, .int .i64 ull, .int .i64 ulh], .agg #[.int .i64 fop, .int .i64 fday, .string fpart, .string fkind, .string finto, .string fslot, .string fkey, .string fvalue, .int .i64 fukl, .int .i64 fukh, .int .i64 fucl, .int .i64 fuch, .int .i64 full, .int .i64 fulh]] w fun e w' => e = .returned (.bool true) ∧ Below w.heap.size w w' := by
  obtain ⟨A', cc, rfl, _⟩ := Rd.form hcat
  obtain ⟨A, cs, rfl, hn⟩ := Rd.form hsta
  have HST := Lib.hid hsta
  have HEV := Lib.hid hev
  have HEF := Lib.hid hef
  have HFW := Lib.hid (fun W (h : Below w.heap.size w W) {g : Nat} (hv : Sl W (.slice (some ⟨g, 0, none⟩) 2 2) 2 14 (evF [⟨op, day, part, kind, into, slot, key, value, ukl, ukh, ucl, uch, ull, ulh⟩, ⟨fop, fday, fpart, fkind, finto, fslot, fkey, fvalue, fukl, fukh, fucl, fuch, full, fulh⟩])) => few_any W (.slice A' c.length cc) (.slice A l.length cs) (.slice (some ⟨g, 0, none⟩) 2 2) c l [⟨op, day, part, kind, into, slot, key, value, ukl, ukh, ucl, uch, ull, ulh⟩, ⟨fop, fday, fpart, fkind, finto, fslot, fkey, fvalue, fukl, fukh, fucl, fuch, full, fulh⟩] W (Below.refl _ _) (hcat.below h) (hsta.below h) hv hl hps (by simp [maxLen]))
  have HAP := Lib.hid (fun (h65 : c.length ≤ 65 ∧ ∀ k ∈ c, k.short) W0 (h0 : Below w.heap.size w W0) sv' l' (hs' : Sta W0 sv' l') (hl' : l'.length ≤ 20000) (hsh' : ∀ p ∈ l', p.short) ev t W (hr : applyL c l' ev = (t, 0)) (h : Below W0.heap.size W0 W) hev => apply_ok W0 (.slice A' c.length cc) sv' c l' ev t W hr h (hcat.below h0) (by omega) h65.2 hs' (by omega) hsh' hev)
  have HAN := Lib.hid (fun (h65 : c.length ≤ 65 ∧ ∀ k ∈ c, k.short) (h20 : l.length ≤ 20 ∧ ∀ p ∈ l, p.short) ev W (hr : (applyL c l ev).2 ≠ 0) (h : Below w.heap.size w W) hev => apply_no w (.slice A' c.length cc) (.slice A l.length cs) c l ev W hr h hcat (by omega) h65.2 hsta (by omega) h20.2 hev)
  have HNE := Lib.hid (fun W => names_any ⟨op, day, part, kind, into, slot, key, value, ukl, ukh, ucl, uch, ull, ulh⟩ W hev)
  have HNF := Lib.hid (fun W => names_any ⟨fop, fday, fpart, fkind, finto, fslot, fkey, fvalue, fukl, fukh, fucl, fuch, full, fulh⟩ W hef)
  have k1 := (((Has.new w 24 #[.slice A' c.length cc]).alloc (.cells #[.slice A l.length cs] 27)).alloc (.cells #[.int .i64 op, .int .i64 day, .string part, .string kind, .string into, .string slot, .string key, .string value, .int .i64 ukl, .int .i64 ukh, .int .i64 ucl, .int .i64 uch, .int .i64 ull, .int .i64 ulh] 33)).alloc (.cells #[.int .i64 fop, .int .i64 fday, .string fpart, .string fkind, .string finto, .string fslot, .string fkey, .string fvalue, .int .i64 fukl, .int .i64 fukh, .int .i64 fucl, .int .i64 fuch, .int .i64 full, .int .i64 fulh] 33)
  have k2 := ((Has.new (w.alloc (.cells #[.slice A' c.length cc] 24)) 27 #[.slice A l.length cs]).alloc (.cells #[.int .i64 op, .int .i64 day, .string part, .string kind, .string into, .string slot, .string key, .string value, .int .i64 ukl, .int .i64 ukh, .int .i64 ucl, .int .i64 uch, .int .i64 ull, .int .i64 ulh] 33)).alloc (.cells #[.int .i64 fop, .int .i64 fday, .string fpart, .string fkind, .string finto, .string fslot, .string fkey, .string fvalue, .int .i64 fukl, .int .i64 fukh, .int .i64 fucl, .int .i64 fuch, .int .i64 full, .int .i64 fulh] 33)
  have k3 := (Has.new ((w.alloc (.cells #[.slice A' c.length cc] 24)).alloc (.cells #[.slice A l.length cs] 27)) 33 #[.int .i64 op, .int .i64 day, .string part, .string kind, .string into, .string slot, .string key, .string value, .int .i64 ukl, .int .i64 ukh, .int .i64 ucl, .int .i64 uch, .int .i64 ull, .int .i64 ulh]).alloc (.cells #[.int .i64 fop, .int .i64 fday, .string fpart, .string fkind, .string finto, .string fslot, .string fkey, .string fvalue, .int .i64 fukl, .int .i64 fukh, .int .i64 fucl, .int .i64 fuch, .int .i64 full, .int .i64 fulh] 33)
  have k4 := Has.new (((w.alloc (.cells #[.slice A' c.length cc] 24)).alloc (.cells #[.slice A l.length cs] 27)).alloc (.cells #[.int .i64 op, .int .i64 day, .string part, .string kind, .string into, .string slot, .string key, .string value, .int .i64 ukl, .int .i64 ukh, .int .i64 ucl, .int .i64 uch, .int .i64 ull, .int .i64 ulh] 33)) 33 #[.int .i64 fop, .int .i64 fday, .string fpart, .string fkind, .string finto, .string fslot, .string fkey, .string fvalue, .int .i64 fukl, .int .i64 fukh, .int .i64 fucl, .int .i64 fuch, .int .i64 full, .int .i64 fulh]
  simp only [World.size_alloc] at k2 k3 k4
  have KC0 := Lib.hid k1
  have KS0 := Lib.hid k2
  have KE0 := Lib.hid k3
  have KF0 := Lib.hid k4
  have HB0 := Lib.hid (((((Below.refl w.heap.size w).alloc (Nat.le_refl _) (.cells #[.slice A' c.length cc] 24)).alloc (by simp) (.cells #[.slice A l.length cs] 27)).alloc (by simp; omega) (.cells #[.int .i64 op, .int .i64 day, .string part, .string kind, .string into, .string slot, .string key, .string value, .int .i64 ukl, .int .i64 ukh, .int .i64 ucl, .int .i64 uch, .int .i64 ull, .int .i64 ulh] 33)).alloc (by simp; omega) (.cells #[.int .i64 fop, .int .i64 fday, .string fpart, .string fkind, .string finto, .string fslot, .string fkey, .string fvalue, .int .i64 fukl, .int .i64 fukh, .int .i64 fucl, .int .i64 fuch, .int .i64 full, .int .i64 fulh] 33))
  clear hcat hsta hps hev hef k1 k2 k3 k4
  obtain ⟨h65, h20⟩ := fewB_take hfew
  have HAP := Lib.hid (HAP.out h65)
  have HAN := Lib.hid (HAN.out h65 h20)
  have HL := Lib.hid (show l.length ≤ 20000 by omega)
  have HSH := Lib.hid h20.2
  have HL2 := Lib.hid h20.1
  have HLE := Lib.hid (show (evNames ⟨op, day, part, kind, into, slot, key, value, ukl, ukh, ucl, uch, ull, ulh⟩).length ≤ 1000000 by have := evNames_len ⟨op, day, part, kind, into, slot, key, value, ukl, ukh, ucl, uch, ull, ulh⟩; omega)
  have HLF := Lib.hid (show (evNames ⟨fop, fday, fpart, fkind, finto, fslot, fkey, fvalue, fukl, fukh, fucl, fuch, full, fulh⟩).length ≤ 1000000 by have := evNames_len ⟨fop, fday, fpart, fkind, finto, fslot, fkey, fvalue, fukl, fukh, fucl, fuch, full, fulh⟩; omega)
  have HFEW := Lib.hid hfew
  have HCOM := Lib.hid hcom
  clear hfew h65 h20 hcom
  have HTA := Lib.hid (apply_short HSH.out HEV.out hre)
  have HOE := Lib.hid (fun W (h : Below w.heap.size w W) => HAP.out w (Below.refl _ _) (.slice A l.length cs) l HST.out HL.out HSH.out _ ta W hre h HEV.out)
  have HOF := Lib.hid (fun W (h : Below w.heap.size w W) => HAN.out _ W (by rw [hrf]; exact hnf) h HEF.out)
  rw [hrf] at HOF
  have hnf1 : (rf == 0) = false := by simpa using hnf
  have hnf2 : (rf != 0) = true := by simpa using hnf
  clear hnf
  clear hre hrf
  go_enter Tryz.func7, Tryz.ntmps7
  go_wp2_with fail
  refine (head_any _).mono ?_
  rintro e w1 ⟨rfl, hb1⟩
  have kC := (KC0.out).below hb1 (KC0.out).lt
  obtain ⟨xC1, yC1⟩ := kC.facts
  have zC1 := kC.lt
  have KC1 := Lib.hid kC
  have kS := (KS0.out).below hb1 (KS0.out).lt
  obtain ⟨xS1, yS1⟩ := kS.facts
  have zS1 := kS.lt
  have KS1 := Lib.hid kS
  have kE := (KE0.out).below hb1 (KE0.out).lt
  obtain ⟨xE1, yE1⟩ := kE.facts
  have zE1 := kE.lt
  have KE1 := Lib.hid kE
  have kF := (KF0.out).below hb1 (KF0.out).lt
  obtain ⟨xF1, yF1⟩ := kF.facts
  have zF1 := kF.lt
  have KF1 := Lib.hid kF
  have HB1 := Lib.hid ((HB0.out).trans (hb1.mono (HB0.out).size))
  clear hb1 kC kS kE kF
  go_wp2_with fail
  have HK := Lib.hid (fun W (h : Below w1.heap.size w1 W) => (⟨h, ((KC1.out).below h (KC1.out).lt).facts.1, ((KS1.out).below h (KS1.out).lt).facts.1, ((KE1.out).below h (KE1.out).lt).facts.1, ((KF1.out).below h (KF1.out).lt).facts.1⟩ : Below w1.heap.size w1 W ∧ (∀ o, World.cell? W ⟨w.heap.size, o, none⟩ = (#[.slice A' c.length cc] : Array Value)[o]?) ∧ (∀ o, World.cell? W ⟨w.heap.size + 1, o, none⟩ = (#[.slice A l.length cs] : Array Value)[o]?) ∧ (∀ o, World.cell? W ⟨w.heap.size + 1 + 1, o, none⟩ = (#[.int .i64 op, .int .i64 day, .string part, .string kind, .string into, .string slot, .string key, .string value, .int .i64 ukl, .int .i64 ukh, .int .i64 ucl, .int .i64 uch, .int .i64 ull, .int .i64 ulh] : Array Value)[o]?) ∧ (∀ o, World.cell? W ⟨w.heap.size + 1 + 1 + 1, o, none⟩ = (#[.int .i64 fop, .int .i64 fday, .string fpart, .string fkind, .string finto, .string fslot, .string fkey, .string fvalue, .int .i64 fukl, .int .i64 fukh, .int .i64 fucl, .int .i64 fuch, .int .i64 full, .int .i64 fulh] : Array Value)[o]?)))
  have hbV : Below w1.heap.size w1 ((w1.drew).alloc (.cells #[.int .i64 op, .int .i64 day, .string part, .string kind, .string into, .string slot, .string key, .string value, .int .i64 ukl, .int .i64 ukh, .int .i64 ucl, .int .i64 uch, .int .i64 ull, .int .i64 ulh, .int .i64 fop, .int .i64 fday, .string fpart, .string fkind, .string finto, .string fslot, .string fkey, .string fvalue, .int .i64 fukl, .int .i64 fukh, .int .i64 fucl, .int .i64 fuch, .int .i64 full, .int .i64 fulh] 33)) := ((Below.refl w1.heap.size w1).drew).alloc (Nat.le_refl _) _
  have HVW := Lib.hid (HFW.out _ (HB1.out.trans (hbV.mono HB1.out.size)) (ev_sl2 (e := ⟨op, day, part, kind, into, slot, key, value, ukl, ukh, ucl, uch, ull, ulh⟩) (f := ⟨fop, fday, fpart, fkind, finto, fslot, fkey, fvalue, fukl, fukh, fucl, fuch, full, fulh⟩) (Has.new w1.drew 33 #[.int .i64 op, .int .i64 day, .string part, .string kind, .string into, .string slot, .string key, .string value, .int .i64 ukl, .int .i64 ukh, .int .i64 ucl, .int .i64 uch, .int .i64 ull, .int .i64 ulh, .int .i64 fop, .int .i64 fday, .string fpart, .string fkind, .string finto, .string fslot, .string fkey, .string fvalue, .int .i64 fukl, .int .i64 fukh, .int .i64 fucl, .int .i64 fuch, .int .i64 full, .int .i64 fulh])))
  rw [HFEW.out] at HVW
  go_region_held3 (fun W => Below w1.heap.size w1 W ∧ (∀ o, World.cell? W ⟨w.heap.size, o, none⟩ = (#[.slice A' c.length cc] : Array Value)[o]?) ∧ (∀ o, World.cell? W ⟨w.heap.size + 1, o, none⟩ = (#[.slice A l.length cs] : Array Value)[o]?) ∧ (∀ o, World.cell? W ⟨w.heap.size + 1 + 1, o, none⟩ = (#[.int .i64 op, .int .i64 day, .string part, .string kind, .string into, .string slot, .string key, .string value, .int .i64 ukl, .int .i64 ukh, .int .i64 ucl, .int .i64 uch, .int .i64 ull, .int .i64 ulh] : Array Value)[o]?) ∧ (∀ o, World.cell? W ⟨w.heap.size + 1 + 1 + 1, o, none⟩ = (#[.int .i64 fop, .int .i64 fday, .string fpart, .string fkind, .string finto, .string fslot, .string fkey, .string fvalue, .int .i64 fukl, .int .i64 fukh, .int .i64 fucl, .int .i64 fuch, .int .i64 full, .int .i64 fulh] : Array Value)[o]?)) (first | exact HK.out _ (Below.refl w1.heap.size w1).drew | exact HK.out _ hbV | exact HK.out _ hbw5 | exact HK.out _ hbw4 | exact HK.out _ hbw3 | exact HK.out _ hbw2) (first | (go_at_call 9; refine HVW.out.mono ?_; rintro e w2 ⟨rfl, hb2⟩; have hbw2 : Below w1.heap.size w1 w2 := hbV.trans (hb2.mono hbV.size); clear hb2) | (go_at_call_of 19 (Value.string part); refine (HNE.out _).mono ?_; rintro e w3 ⟨v3, rfl, hr3, hb3⟩; have HR3 := Lib.hid (names_sl hr3); have hbw3 : Below w1.heap.size w1 w3 := hbw2.trans (hb3.mono hbw2.size); clear hr3 hb3) | (go_at_call_of 19 (Value.string fpart); refine (HNF.out _).mono ?_; rintro e w4 ⟨v4, rfl, hr4, hb4⟩; have HR43 := Lib.hid (HR3.out.below hb4); have HR4 := Lib.hid (names_sl hr4); have hbw4 : Below w1.heap.size w1 w4 := hbw3.trans (hb4.mono hbw3.size); clear hr4 hb4) | (go_at_call 18; refine (common_below v3 v4 (evNames ⟨op, day, part, kind, into, slot, key, value, ukl, ukh, ucl, uch, ull, ulh⟩) (evNames ⟨fop, fday, fpart, fkind, finto, fslot, fkey, fvalue, fukl, fukh, fucl, fuch, full, fulh⟩) _ HR43.out HR4.out HLE.out HLF.out).mono ?_; rintro e w5 ⟨rfl, hb5⟩; rw [HCOM.out]; have hbw5 : Below w1.heap.size w1 w5 := hbw4.trans (hb5.mono hbw4.size); clear hb5))
  rename_i hHeld
  clear hHeld
  clear xC1 yC1 zC1 xS1 yS1 zS1 xE1 yE1 zE1 xF1 yF1 zF1
  have kC := (KC1.out).below hbw5 (KC1.out).lt
  obtain ⟨xC5, yC5⟩ := kC.facts
  have zC5 := kC.lt
  have KC5 := Lib.hid kC
  have kS := (KS1.out).below hbw5 (KS1.out).lt
  obtain ⟨xS5, yS5⟩ := kS.facts
  have zS5 := kS.lt
  have KS5 := Lib.hid kS
  have kE := (KE1.out).below hbw5 (KE1.out).lt
  obtain ⟨xE5, yE5⟩ := kE.facts
  have zE5 := kE.lt
  have KE5 := Lib.hid kE
  have kF := (KF1.out).below hbw5 (KF1.out).lt
  obtain ⟨xF5, yF5⟩ := kF.facts
  have zF5 := kF.lt
  have KF5 := Lib.hid kF
  have HB5 := Lib.hid (HB1.out.trans (Below.mono hbw5 HB1.out.size))
  clear kC kS kE kF
  clear HK hbV HVW hbw2 hbw3 hbw4 hbw5 HR3 HR43 HR4 HCOM
  go_wp2_with fail
  refine (HOE.out _ (HB5.out)).mono ?_
  rintro e w6 ⟨A6, c6, rfl, hst6, hb6⟩
  have HST6 := Lib.hid hst6
  clear hst6
  clear xC5 yC5 zC5 xS5 yS5 zS5 xE5 yE5 zE5 xF5 yF5 zF5
  have kC := (KC5.out).below hb6 (KC5.out).lt
  obtain ⟨xC6, yC6⟩ := kC.facts
  have zC6 := kC.lt
  have KC6 := Lib.hid kC
  have kS := (KS5.out).below hb6 (KS5.out).lt
  obtain ⟨xS6, yS6⟩ := kS.facts
  have zS6 := kS.lt
  have KS6 := Lib.hid kS
  have kE := (KE5.out).below hb6 (KE5.out).lt
  obtain ⟨xE6, yE6⟩ := kE.facts
  have zE6 := kE.lt
  have KE6 := Lib.hid kE
  have kF := (KF5.out).below hb6 (KF5.out).lt
  obtain ⟨xF6, yF6⟩ := kF.facts
  have zF6 := kF.lt
  have KF6 := Lib.hid kF
  have HB6 := Lib.hid ((HB5.out).trans (hb6.mono (HB5.out).size))
  clear hb6 kC kS kE kF
  go_wp2_with fail
  refine (HOF.out _ ((HB6.out).alloc (HB6.out).size _)).mono ?_
  rintro e w7 ⟨A7, c7, rfl, hb7⟩
  clear xC6 yC6 zC6 xS6 yS6 zS6 xE6 yE6 zE6 xF6 yF6 zF6
  have kC := ((KC6.out).alloc _).below hb7 ((KC6.out).alloc _).lt
  obtain ⟨xC7, yC7⟩ := kC.facts
  have zC7 := kC.lt
  have KC7 := Lib.hid kC
  have kS := ((KS6.out).alloc _).below hb7 ((KS6.out).alloc _).lt
  obtain ⟨xS7, yS7⟩ := kS.facts
  have zS7 := kS.lt
  have KS7 := Lib.hid kS
  have kE := ((KE6.out).alloc _).below hb7 ((KE6.out).alloc _).lt
  obtain ⟨xE7, yE7⟩ := kE.facts
  have zE7 := kE.lt
  have KE7 := Lib.hid kE
  have kF := ((KF6.out).alloc _).below hb7 ((KF6.out).alloc _).lt
  obtain ⟨xF7, yF7⟩ := kF.facts
  have zF7 := kF.lt
  have KF7 := Lib.hid kF
  have kA := (Has.new (w6) 27 #[.slice A6 ta.length c6]).below hb7 (Has.new (w6) 27 #[.slice A6 ta.length c6]).lt
  obtain ⟨xA7, yA7⟩ := kA.facts
  have zA7 := kA.lt
  have KA7 := Lib.hid kA
  have HB7 := Lib.hid (((HB6.out).alloc (HB6.out).size _).trans (hb7.mono ((HB6.out).alloc (HB6.out).size _).size))
  clear hb7 kC kS kE kF kA
  go_wp2_with fail
  go_ret
  exact ⟨rfl, (HB7.out).alloc (HB7.out).size _⟩
set_option maxRecDepth 100000 in
set_option maxHeartbeats 8000000 in
theorem comm_yy (cv sv : Value) (c : List Kd) (l : List Pa) (op day : Int) (part kind into slot key value : ByteArray) (ukl ukh ucl uch ull ulh : Int) (fop fday : Int) (fpart fkind finto fslot fkey fvalue : ByteArray) (fukl fukh fucl fuch full fulh : Int) (w : World) (hcat : Cat w cv c) (hsta : Sta w sv l) (hl : l.length ≤ maxLen) (hps : ∀ p ∈ l, p.wide) (hev : Ev.short ⟨op, day, part, kind, into, slot, key, value, ukl, ukh, ucl, uch, ull, ulh⟩) (hef : Ev.short ⟨fop, fday, fpart, fkind, finto, fslot, fkey, fvalue, fukl, fukh, fucl, fuch, full, fulh⟩) (hfew : fewB c l [⟨op, day, part, kind, into, slot, key, value, ukl, ukh, ucl, uch, ull, ulh⟩, ⟨fop, fday, fpart, fkind, finto, fslot, fkey, fvalue, fukl, fukh, fucl, fuch, full, fulh⟩] = true) (hcom : comB (evNames ⟨op, day, part, kind, into, slot, key, value, ukl, ukh, ucl, uch, ull, ulh⟩) (evNames ⟨fop, fday, fpart, fkind, finto, fslot, fkey, fvalue, fukl, fukh, fucl, fuch, full, fulh⟩) = false) (ta : List Pa) (hre : applyL c l ⟨op, day, part, kind, into, slot, key, value, ukl, ukh, ucl, uch, ull, ulh⟩ = (ta, 0)) (tb : List Pa) (hrf : applyL c l ⟨fop, fday, fpart, fkind, finto, fslot, fkey, fvalue, fukl, fukh, fucl, fuch, full, fulh⟩ = (tb, 0)) :
    Calls Tryz.prog 7 #[.agg #[cv], .agg #[sv], .agg #[.int .i64 op, .int .i64 day, .string part, .string kind, .string into, .string slot, .string key, .string value, .int .i64 ukl, .int .i64 ukh, .int .i64 ucl, .int .i64 uch, .int .i64 ull, .int .i64 ulh], .agg #[.int .i64 fop, .int .i64 fday, .string fpart, .string fkind, .string finto, .string fslot, .string fkey, .string fvalue, .int .i64 fukl, .int .i64 fukh, .int .i64 fucl, .int .i64 fuch, .int .i64 full, .int .i64 fulh]] w fun e w' => e = .returned (.bool true) ∧ Below w.heap.size w w' := by
  obtain ⟨A', cc, rfl, _⟩ := Rd.form hcat
  obtain ⟨A, cs, rfl, hn⟩ := Rd.form hsta
  have HST := Lib.hid hsta
  have HEV := Lib.hid hev
  have HEF := Lib.hid hef
  have HFW := Lib.hid (fun W (h : Below w.heap.size w W) {g : Nat} (hv : Sl W (.slice (some ⟨g, 0, none⟩) 2 2) 2 14 (evF [⟨op, day, part, kind, into, slot, key, value, ukl, ukh, ucl, uch, ull, ulh⟩, ⟨fop, fday, fpart, fkind, finto, fslot, fkey, fvalue, fukl, fukh, fucl, fuch, full, fulh⟩])) => few_any W (.slice A' c.length cc) (.slice A l.length cs) (.slice (some ⟨g, 0, none⟩) 2 2) c l [⟨op, day, part, kind, into, slot, key, value, ukl, ukh, ucl, uch, ull, ulh⟩, ⟨fop, fday, fpart, fkind, finto, fslot, fkey, fvalue, fukl, fukh, fucl, fuch, full, fulh⟩] W (Below.refl _ _) (hcat.below h) (hsta.below h) hv hl hps (by simp [maxLen]))
  have HAP := Lib.hid (fun (h65 : c.length ≤ 65 ∧ ∀ k ∈ c, k.short) W0 (h0 : Below w.heap.size w W0) sv' l' (hs' : Sta W0 sv' l') (hl' : l'.length ≤ 20000) (hsh' : ∀ p ∈ l', p.short) ev t W (hr : applyL c l' ev = (t, 0)) (h : Below W0.heap.size W0 W) hev => apply_ok W0 (.slice A' c.length cc) sv' c l' ev t W hr h (hcat.below h0) (by omega) h65.2 hs' (by omega) hsh' hev)
  have HAN := Lib.hid (fun (h65 : c.length ≤ 65 ∧ ∀ k ∈ c, k.short) (h20 : l.length ≤ 20 ∧ ∀ p ∈ l, p.short) ev W (hr : (applyL c l ev).2 ≠ 0) (h : Below w.heap.size w W) hev => apply_no w (.slice A' c.length cc) (.slice A l.length cs) c l ev W hr h hcat (by omega) h65.2 hsta (by omega) h20.2 hev)
  have HNE := Lib.hid (fun W => names_any ⟨op, day, part, kind, into, slot, key, value, ukl, ukh, ucl, uch, ull, ulh⟩ W hev)
  have HNF := Lib.hid (fun W => names_any ⟨fop, fday, fpart, fkind, finto, fslot, fkey, fvalue, fukl, fukh, fucl, fuch, full, fulh⟩ W hef)
  have k1 := (((Has.new w 24 #[.slice A' c.length cc]).alloc (.cells #[.slice A l.length cs] 27)).alloc (.cells #[.int .i64 op, .int .i64 day, .string part, .string kind, .string into, .string slot, .string key, .string value, .int .i64 ukl, .int .i64 ukh, .int .i64 ucl, .int .i64 uch, .int .i64 ull, .int .i64 ulh] 33)).alloc (.cells #[.int .i64 fop, .int .i64 fday, .string fpart, .string fkind, .string finto, .string fslot, .string fkey, .string fvalue, .int .i64 fukl, .int .i64 fukh, .int .i64 fucl, .int .i64 fuch, .int .i64 full, .int .i64 fulh] 33)
  have k2 := ((Has.new (w.alloc (.cells #[.slice A' c.length cc] 24)) 27 #[.slice A l.length cs]).alloc (.cells #[.int .i64 op, .int .i64 day, .string part, .string kind, .string into, .string slot, .string key, .string value, .int .i64 ukl, .int .i64 ukh, .int .i64 ucl, .int .i64 uch, .int .i64 ull, .int .i64 ulh] 33)).alloc (.cells #[.int .i64 fop, .int .i64 fday, .string fpart, .string fkind, .string finto, .string fslot, .string fkey, .string fvalue, .int .i64 fukl, .int .i64 fukh, .int .i64 fucl, .int .i64 fuch, .int .i64 full, .int .i64 fulh] 33)
  have k3 := (Has.new ((w.alloc (.cells #[.slice A' c.length cc] 24)).alloc (.cells #[.slice A l.length cs] 27)) 33 #[.int .i64 op, .int .i64 day, .string part, .string kind, .string into, .string slot, .string key, .string value, .int .i64 ukl, .int .i64 ukh, .int .i64 ucl, .int .i64 uch, .int .i64 ull, .int .i64 ulh]).alloc (.cells #[.int .i64 fop, .int .i64 fday, .string fpart, .string fkind, .string finto, .string fslot, .string fkey, .string fvalue, .int .i64 fukl, .int .i64 fukh, .int .i64 fucl, .int .i64 fuch, .int .i64 full, .int .i64 fulh] 33)
  have k4 := Has.new (((w.alloc (.cells #[.slice A' c.length cc] 24)).alloc (.cells #[.slice A l.length cs] 27)).alloc (.cells #[.int .i64 op, .int .i64 day, .string part, .string kind, .string into, .string slot, .string key, .string value, .int .i64 ukl, .int .i64 ukh, .int .i64 ucl, .int .i64 uch, .int .i64 ull, .int .i64 ulh] 33)) 33 #[.int .i64 fop, .int .i64 fday, .string fpart, .string fkind, .string finto, .string fslot, .string fkey, .string fvalue, .int .i64 fukl, .int .i64 fukh, .int .i64 fucl, .int .i64 fuch, .int .i64 full, .int .i64 fulh]
  simp only [World.size_alloc] at k2 k3 k4
  have KC0 := Lib.hid k1
  have KS0 := Lib.hid k2
  have KE0 := Lib.hid k3
  have KF0 := Lib.hid k4
  have HB0 := Lib.hid (((((Below.refl w.heap.size w).alloc (Nat.le_refl _) (.cells #[.slice A' c.length cc] 24)).alloc (by simp) (.cells #[.slice A l.length cs] 27)).alloc (by simp; omega) (.cells #[.int .i64 op, .int .i64 day, .string part, .string kind, .string into, .string slot, .string key, .string value, .int .i64 ukl, .int .i64 ukh, .int .i64 ucl, .int .i64 uch, .int .i64 ull, .int .i64 ulh] 33)).alloc (by simp; omega) (.cells #[.int .i64 fop, .int .i64 fday, .string fpart, .string fkind, .string finto, .string fslot, .string fkey, .string fvalue, .int .i64 fukl, .int .i64 fukh, .int .i64 fucl, .int .i64 fuch, .int .i64 full, .int .i64 fulh] 33))
  clear hcat hsta hps hev hef k1 k2 k3 k4
  obtain ⟨h65, h20⟩ := fewB_take hfew
  have HAP := Lib.hid (HAP.out h65)
  have HAN := Lib.hid (HAN.out h65 h20)
  have HL := Lib.hid (show l.length ≤ 20000 by omega)
  have HSH := Lib.hid h20.2
  have HL2 := Lib.hid h20.1
  have HLE := Lib.hid (show (evNames ⟨op, day, part, kind, into, slot, key, value, ukl, ukh, ucl, uch, ull, ulh⟩).length ≤ 1000000 by have := evNames_len ⟨op, day, part, kind, into, slot, key, value, ukl, ukh, ucl, uch, ull, ulh⟩; omega)
  have HLF := Lib.hid (show (evNames ⟨fop, fday, fpart, fkind, finto, fslot, fkey, fvalue, fukl, fukh, fucl, fuch, full, fulh⟩).length ≤ 1000000 by have := evNames_len ⟨fop, fday, fpart, fkind, finto, fslot, fkey, fvalue, fukl, fukh, fucl, fuch, full, fulh⟩; omega)
  have HFEW := Lib.hid hfew
  have HCOM := Lib.hid hcom
  clear hfew h65 h20 hcom
  have HTA := Lib.hid (apply_short HSH.out HEV.out hre)
  have HOE := Lib.hid (fun W (h : Below w.heap.size w W) => HAP.out w (Below.refl _ _) (.slice A l.length cs) l HST.out HL.out HSH.out _ ta W hre h HEV.out)
  have HTB := Lib.hid (apply_short HSH.out HEF.out hrf)
  have HOF := Lib.hid (fun W (h : Below w.heap.size w W) => HAP.out w (Below.refl _ _) (.slice A l.length cs) l HST.out HL.out HSH.out _ tb W hrf h HEF.out)
  obtain ⟨t, hr1, hr2⟩ := commutes HL2.out hre hrf (comB_no HCOM.out)
  have ht := apply_short HTA.out.2 HEF.out hr1
  have HLT := Lib.hid (show t.length ≤ 1000000 by have := ht.1; omega)
  have HPT := Lib.hid (fun p (hp : p ∈ t) => (ht.2 p hp).2.2.2.2.1)
  have HR1 := Lib.hid hr1
  have HR2 := Lib.hid hr2
  clear hr1 hr2 ht hre hrf
  go_enter Tryz.func7, Tryz.ntmps7
  go_wp2_with fail
  refine (head_any _).mono ?_
  rintro e w1 ⟨rfl, hb1⟩
  have kC := (KC0.out).below hb1 (KC0.out).lt
  obtain ⟨xC1, yC1⟩ := kC.facts
  have zC1 := kC.lt
  have KC1 := Lib.hid kC
  have kS := (KS0.out).below hb1 (KS0.out).lt
  obtain ⟨xS1, yS1⟩ := kS.facts
  have zS1 := kS.lt
  have KS1 := Lib.hid kS
  have kE := (KE0.out).below hb1 (KE0.out).lt
  obtain ⟨xE1, yE1⟩ := kE.facts
  have zE1 := kE.lt
  have KE1 := Lib.hid kE
  have kF := (KF0.out).below hb1 (KF0.out).lt
  obtain ⟨xF1, yF1⟩ := kF.facts
  have zF1 := kF.lt
  have KF1 := Lib.hid kF
  have HB1 := Lib.hid ((HB0.out).trans (hb1.mono (HB0.out).size))
  clear hb1 kC kS kE kF
  go_wp2_with fail
  have HK := Lib.hid (fun W (h : Below w1.heap.size w1 W) => (⟨h, ((KC1.out).below h (KC1.out).lt).facts.1, ((KS1.out).below h (KS1.out).lt).facts.1, ((KE1.out).below h (KE1.out).lt).facts.1, ((KF1.out).below h (KF1.out).lt).facts.1⟩ : Below w1.heap.size w1 W ∧ (∀ o, World.cell? W ⟨w.heap.size, o, none⟩ = (#[.slice A' c.length cc] : Array Value)[o]?) ∧ (∀ o, World.cell? W ⟨w.heap.size + 1, o, none⟩ = (#[.slice A l.length cs] : Array Value)[o]?) ∧ (∀ o, World.cell? W ⟨w.heap.size + 1 + 1, o, none⟩ = (#[.int .i64 op, .int .i64 day, .string part, .string kind, .string into, .string slot, .string key, .string value, .int .i64 ukl, .int .i64 ukh, .int .i64 ucl, .int .i64 uch, .int .i64 ull, .int .i64 ulh] : Array Value)[o]?) ∧ (∀ o, World.cell? W ⟨w.heap.size + 1 + 1 + 1, o, none⟩ = (#[.int .i64 fop, .int .i64 fday, .string fpart, .string fkind, .string finto, .string fslot, .string fkey, .string fvalue, .int .i64 fukl, .int .i64 fukh, .int .i64 fucl, .int .i64 fuch, .int .i64 full, .int .i64 fulh] : Array Value)[o]?)))
  have hbV : Below w1.heap.size w1 ((w1.drew).alloc (.cells #[.int .i64 op, .int .i64 day, .string part, .string kind, .string into, .string slot, .string key, .string value, .int .i64 ukl, .int .i64 ukh, .int .i64 ucl, .int .i64 uch, .int .i64 ull, .int .i64 ulh, .int .i64 fop, .int .i64 fday, .string fpart, .string fkind, .string finto, .string fslot, .string fkey, .string fvalue, .int .i64 fukl, .int .i64 fukh, .int .i64 fucl, .int .i64 fuch, .int .i64 full, .int .i64 fulh] 33)) := ((Below.refl w1.heap.size w1).drew).alloc (Nat.le_refl _) _
  have HVW := Lib.hid (HFW.out _ (HB1.out.trans (hbV.mono HB1.out.size)) (ev_sl2 (e := ⟨op, day, part, kind, into, slot, key, value, ukl, ukh, ucl, uch, ull, ulh⟩) (f := ⟨fop, fday, fpart, fkind, finto, fslot, fkey, fvalue, fukl, fukh, fucl, fuch, full, fulh⟩) (Has.new w1.drew 33 #[.int .i64 op, .int .i64 day, .string part, .string kind, .string into, .string slot, .string key, .string value, .int .i64 ukl, .int .i64 ukh, .int .i64 ucl, .int .i64 uch, .int .i64 ull, .int .i64 ulh, .int .i64 fop, .int .i64 fday, .string fpart, .string fkind, .string finto, .string fslot, .string fkey, .string fvalue, .int .i64 fukl, .int .i64 fukh, .int .i64 fucl, .int .i64 fuch, .int .i64 full, .int .i64 fulh])))
  rw [HFEW.out] at HVW
  go_region_held3 (fun W => Below w1.heap.size w1 W ∧ (∀ o, World.cell? W ⟨w.heap.size, o, none⟩ = (#[.slice A' c.length cc] : Array Value)[o]?) ∧ (∀ o, World.cell? W ⟨w.heap.size + 1, o, none⟩ = (#[.slice A l.length cs] : Array Value)[o]?) ∧ (∀ o, World.cell? W ⟨w.heap.size + 1 + 1, o, none⟩ = (#[.int .i64 op, .int .i64 day, .string part, .string kind, .string into, .string slot, .string key, .string value, .int .i64 ukl, .int .i64 ukh, .int .i64 ucl, .int .i64 uch, .int .i64 ull, .int .i64 ulh] : Array Value)[o]?) ∧ (∀ o, World.cell? W ⟨w.heap.size + 1 + 1 + 1, o, none⟩ = (#[.int .i64 fop, .int .i64 fday, .string fpart, .string fkind, .string finto, .string fslot, .string fkey, .string fvalue, .int .i64 fukl, .int .i64 fukh, .int .i64 fucl, .int .i64 fuch, .int .i64 full, .int .i64 fulh] : Array Value)[o]?)) (first | exact HK.out _ (Below.refl w1.heap.size w1).drew | exact HK.out _ hbV | exact HK.out _ hbw5 | exact HK.out _ hbw4 | exact HK.out _ hbw3 | exact HK.out _ hbw2) (first | (go_at_call 9; refine HVW.out.mono ?_; rintro e w2 ⟨rfl, hb2⟩; have hbw2 : Below w1.heap.size w1 w2 := hbV.trans (hb2.mono hbV.size); clear hb2) | (go_at_call_of 19 (Value.string part); refine (HNE.out _).mono ?_; rintro e w3 ⟨v3, rfl, hr3, hb3⟩; have HR3 := Lib.hid (names_sl hr3); have hbw3 : Below w1.heap.size w1 w3 := hbw2.trans (hb3.mono hbw2.size); clear hr3 hb3) | (go_at_call_of 19 (Value.string fpart); refine (HNF.out _).mono ?_; rintro e w4 ⟨v4, rfl, hr4, hb4⟩; have HR43 := Lib.hid (HR3.out.below hb4); have HR4 := Lib.hid (names_sl hr4); have hbw4 : Below w1.heap.size w1 w4 := hbw3.trans (hb4.mono hbw3.size); clear hr4 hb4) | (go_at_call 18; refine (common_below v3 v4 (evNames ⟨op, day, part, kind, into, slot, key, value, ukl, ukh, ucl, uch, ull, ulh⟩) (evNames ⟨fop, fday, fpart, fkind, finto, fslot, fkey, fvalue, fukl, fukh, fucl, fuch, full, fulh⟩) _ HR43.out HR4.out HLE.out HLF.out).mono ?_; rintro e w5 ⟨rfl, hb5⟩; rw [HCOM.out]; have hbw5 : Below w1.heap.size w1 w5 := hbw4.trans (hb5.mono hbw4.size); clear hb5))
  rename_i hHeld
  clear hHeld
  clear xC1 yC1 zC1 xS1 yS1 zS1 xE1 yE1 zE1 xF1 yF1 zF1
  have kC := (KC1.out).below hbw5 (KC1.out).lt
  obtain ⟨xC5, yC5⟩ := kC.facts
  have zC5 := kC.lt
  have KC5 := Lib.hid kC
  have kS := (KS1.out).below hbw5 (KS1.out).lt
  obtain ⟨xS5, yS5⟩ := kS.facts
  have zS5 := kS.lt
  have KS5 := Lib.hid kS
  have kE := (KE1.out).below hbw5 (KE1.out).lt
  obtain ⟨xE5, yE5⟩ := kE.facts
  have zE5 := kE.lt
  have KE5 := Lib.hid kE
  have kF := (KF1.out).below hbw5 (KF1.out).lt
  obtain ⟨xF5, yF5⟩ := kF.facts
  have zF5 := kF.lt
  have KF5 := Lib.hid kF
  have HB5 := Lib.hid (HB1.out.trans (Below.mono hbw5 HB1.out.size))
  clear kC kS kE kF
  clear HK hbV HVW hbw2 hbw3 hbw4 hbw5 HR3 HR43 HR4 HCOM
  go_wp2_with fail
  refine (HOE.out _ (HB5.out)).mono ?_
  rintro e w6 ⟨A6, c6, rfl, hst6, hb6⟩
  have HST6 := Lib.hid hst6
  clear hst6
  clear xC5 yC5 zC5 xS5 yS5 zS5 xE5 yE5 zE5 xF5 yF5 zF5
  have kC := (KC5.out).below hb6 (KC5.out).lt
  obtain ⟨xC6, yC6⟩ := kC.facts
  have zC6 := kC.lt
  have KC6 := Lib.hid kC
  have kS := (KS5.out).below hb6 (KS5.out).lt
  obtain ⟨xS6, yS6⟩ := kS.facts
  have zS6 := kS.lt
  have KS6 := Lib.hid kS
  have kE := (KE5.out).below hb6 (KE5.out).lt
  obtain ⟨xE6, yE6⟩ := kE.facts
  have zE6 := kE.lt
  have KE6 := Lib.hid kE
  have kF := (KF5.out).below hb6 (KF5.out).lt
  obtain ⟨xF6, yF6⟩ := kF.facts
  have zF6 := kF.lt
  have KF6 := Lib.hid kF
  have HB6 := Lib.hid ((HB5.out).trans (hb6.mono (HB5.out).size))
  clear hb6 kC kS kE kF
  go_wp2_with fail
  refine (HOF.out _ ((HB6.out).alloc (HB6.out).size _)).mono ?_
  rintro e w7 ⟨A7, c7, rfl, hst7, hb7⟩
  have HST6 := Lib.hid (HST6.out.below (((Below.refl w6.heap.size w6).alloc (Nat.le_refl _) _).trans (hb7.mono (by simp))))
  have HST7 := Lib.hid hst7
  clear hst7
  clear xC6 yC6 zC6 xS6 yS6 zS6 xE6 yE6 zE6 xF6 yF6 zF6
  have kC := ((KC6.out).alloc _).below hb7 ((KC6.out).alloc _).lt
  obtain ⟨xC7, yC7⟩ := kC.facts
  have zC7 := kC.lt
  have KC7 := Lib.hid kC
  have kS := ((KS6.out).alloc _).below hb7 ((KS6.out).alloc _).lt
  obtain ⟨xS7, yS7⟩ := kS.facts
  have zS7 := kS.lt
  have KS7 := Lib.hid kS
  have kE := ((KE6.out).alloc _).below hb7 ((KE6.out).alloc _).lt
  obtain ⟨xE7, yE7⟩ := kE.facts
  have zE7 := kE.lt
  have KE7 := Lib.hid kE
  have kF := ((KF6.out).alloc _).below hb7 ((KF6.out).alloc _).lt
  obtain ⟨xF7, yF7⟩ := kF.facts
  have zF7 := kF.lt
  have KF7 := Lib.hid kF
  have kA := (Has.new (w6) 27 #[.slice A6 ta.length c6]).below hb7 (Has.new (w6) 27 #[.slice A6 ta.length c6]).lt
  obtain ⟨xA7, yA7⟩ := kA.facts
  have zA7 := kA.lt
  have KA7 := Lib.hid kA
  have HB7 := Lib.hid (((HB6.out).alloc (HB6.out).size _).trans (hb7.mono ((HB6.out).alloc (HB6.out).size _).size))
  clear hb7 kC kS kE kF kA
  go_wp2_with fail
  refine (HAP.out w7 HB7.out (.slice A6 ta.length c6) ta HST6.out HTA.out.1 HTA.out.2 ⟨fop, fday, fpart, fkind, finto, fslot, fkey, fvalue, fukl, fukh, fucl, fuch, full, fulh⟩ t _ HR1.out ((Below.refl w7.heap.size w7).alloc (Nat.le_refl _) _) HEF.out).mono ?_
  rintro e w8 ⟨A8, c8, rfl, hst8, hb8⟩
  have HBX := Lib.hid (((Below.refl w7.heap.size w7).alloc (Nat.le_refl _) _).trans (hb8.mono (by simp)))
  have HST8 := Lib.hid hst8
  clear hst8
  clear xC7 yC7 zC7 xS7 yS7 zS7 xE7 yE7 zE7 xF7 yF7 zF7 xA7 yA7 zA7
  have kC := ((KC7.out).alloc _).below hb8 ((KC7.out).alloc _).lt
  obtain ⟨xC8, yC8⟩ := kC.facts
  have zC8 := kC.lt
  have KC8 := Lib.hid kC
  have kS := ((KS7.out).alloc _).below hb8 ((KS7.out).alloc _).lt
  obtain ⟨xS8, yS8⟩ := kS.facts
  have zS8 := kS.lt
  have KS8 := Lib.hid kS
  have kE := ((KE7.out).alloc _).below hb8 ((KE7.out).alloc _).lt
  obtain ⟨xE8, yE8⟩ := kE.facts
  have zE8 := kE.lt
  have KE8 := Lib.hid kE
  have kF := ((KF7.out).alloc _).below hb8 ((KF7.out).alloc _).lt
  obtain ⟨xF8, yF8⟩ := kF.facts
  have zF8 := kF.lt
  have KF8 := Lib.hid kF
  have kA := ((KA7.out).alloc _).below hb8 ((KA7.out).alloc _).lt
  obtain ⟨xA8, yA8⟩ := kA.facts
  have zA8 := kA.lt
  have KA8 := Lib.hid kA
  have kB := (Has.new (w7) 27 #[.slice A7 tb.length c7]).below hb8 (Has.new (w7) 27 #[.slice A7 tb.length c7]).lt
  obtain ⟨xB8, yB8⟩ := kB.facts
  have zB8 := kB.lt
  have KB8 := Lib.hid kB
  have HB8 := Lib.hid (((HB7.out).alloc (HB7.out).size _).trans (hb8.mono ((HB7.out).alloc (HB7.out).size _).size))
  clear hb8 kC kS kE kF kA kB
  go_wp2_with fail
  refine (HAP.out w7 HB7.out (.slice A7 tb.length c7) tb HST7.out HTB.out.1 HTB.out.2 ⟨op, day, part, kind, into, slot, key, value, ukl, ukh, ucl, uch, ull, ulh⟩ t _ HR2.out (HBX.out.alloc HBX.out.size _) HEV.out).mono ?_
  rintro e w9 ⟨A9, c9, rfl, hst9, hb9⟩
  have HST8 := Lib.hid (HST8.out.below (((Below.refl w8.heap.size w8).alloc (Nat.le_refl _) _).trans (hb9.mono (by simp))))
  have HST9 := Lib.hid hst9
  clear hst9
  clear xC8 yC8 zC8 xS8 yS8 zS8 xE8 yE8 zE8 xF8 yF8 zF8 xA8 yA8 zA8 xB8 yB8 zB8
  have kC := ((KC8.out).alloc _).below hb9 ((KC8.out).alloc _).lt
  obtain ⟨xC9, yC9⟩ := kC.facts
  have zC9 := kC.lt
  have KC9 := Lib.hid kC
  have kS := ((KS8.out).alloc _).below hb9 ((KS8.out).alloc _).lt
  obtain ⟨xS9, yS9⟩ := kS.facts
  have zS9 := kS.lt
  have KS9 := Lib.hid kS
  have kE := ((KE8.out).alloc _).below hb9 ((KE8.out).alloc _).lt
  obtain ⟨xE9, yE9⟩ := kE.facts
  have zE9 := kE.lt
  have KE9 := Lib.hid kE
  have kF := ((KF8.out).alloc _).below hb9 ((KF8.out).alloc _).lt
  obtain ⟨xF9, yF9⟩ := kF.facts
  have zF9 := kF.lt
  have KF9 := Lib.hid kF
  have kA := ((KA8.out).alloc _).below hb9 ((KA8.out).alloc _).lt
  obtain ⟨xA9, yA9⟩ := kA.facts
  have zA9 := kA.lt
  have KA9 := Lib.hid kA
  have kB := ((KB8.out).alloc _).below hb9 ((KB8.out).alloc _).lt
  obtain ⟨xB9, yB9⟩ := kB.facts
  have zB9 := kB.lt
  have KB9 := Lib.hid kB
  have kX := (Has.new (w8) 27 #[.slice A8 t.length c8]).below hb9 (Has.new (w8) 27 #[.slice A8 t.length c8]).lt
  obtain ⟨xX9, yX9⟩ := kX.facts
  have zX9 := kX.lt
  have KX9 := Lib.hid kX
  have HB9 := Lib.hid (((HB8.out).alloc (HB8.out).size _).trans (hb9.mono ((HB8.out).alloc (HB8.out).size _).size))
  clear hb9 kC kS kE kF kA kB kX
  go_wp2_with fail
  refine (same10_any w9 (.slice A8 t.length c8) (.slice A9 t.length c9) t t _ ((Below.refl w9.heap.size w9).alloc (Nat.le_refl _) _) HST8.out HST9.out HLT.out HLT.out HPT.out HPT.out).mono ?_
  rintro e w10 ⟨rfl, hb10⟩
  rw [decide_eq_true rfl]
  clear xC9 yC9 zC9 xS9 yS9 zS9 xE9 yE9 zE9 xF9 yF9 zF9 xA9 yA9 zA9 xB9 yB9 zB9 xX9 yX9 zX9
  have kC := ((KC9.out).alloc _).below hb10 ((KC9.out).alloc _).lt
  obtain ⟨xC10, yC10⟩ := kC.facts
  have zC10 := kC.lt
  have KC10 := Lib.hid kC
  have kS := ((KS9.out).alloc _).below hb10 ((KS9.out).alloc _).lt
  obtain ⟨xS10, yS10⟩ := kS.facts
  have zS10 := kS.lt
  have KS10 := Lib.hid kS
  have kE := ((KE9.out).alloc _).below hb10 ((KE9.out).alloc _).lt
  obtain ⟨xE10, yE10⟩ := kE.facts
  have zE10 := kE.lt
  have KE10 := Lib.hid kE
  have kF := ((KF9.out).alloc _).below hb10 ((KF9.out).alloc _).lt
  obtain ⟨xF10, yF10⟩ := kF.facts
  have zF10 := kF.lt
  have KF10 := Lib.hid kF
  have HB10 := Lib.hid (((HB9.out).alloc (HB9.out).size _).trans (hb10.mono ((HB9.out).alloc (HB9.out).size _).size))
  clear hb10 kC kS kE kF
  go_wp2_with fail
  go_ret
  exact ⟨rfl, HB10.out⟩
theorem commutes_any (cv sv : Value) (c : List Kd) (l : List Pa) (e0 f0 : Ev) (w : World) (hcat : Cat w cv c) (hsta : Sta w sv l) (hl : l.length ≤ maxLen) (hps : ∀ p ∈ l, p.wide) (hev : e0.short) (hef : f0.short) :
    Calls Tryz.prog 7 #[.agg #[cv], .agg #[sv], .agg e0.cells, .agg f0.cells] w fun e w' => e = .returned (.bool true) ∧ Below w.heap.size w w' := by
  obtain ⟨op, day, part, kind, into, slot, key, value, ukl, ukh, ucl, uch, ull, ulh⟩ := e0
  obtain ⟨fop, fday, fpart, fkind, finto, fslot, fkey, fvalue, fukl, fukh, fucl, fuch, full, fulh⟩ := f0
  cases hfew : fewB c l [⟨op, day, part, kind, into, slot, key, value, ukl, ukh, ucl, uch, ull, ulh⟩, ⟨fop, fday, fpart, fkind, finto, fslot, fkey, fvalue, fukl, fukh, fucl, fuch, full, fulh⟩]
  · exact comm_e1 cv sv c l op day part kind into slot key value ukl ukh ucl uch ull ulh fop fday fpart fkind finto fslot fkey fvalue fukl fukh fucl fuch full fulh w hcat hsta hl hps hev hef hfew
  cases hcom : comB (evNames ⟨op, day, part, kind, into, slot, key, value, ukl, ukh, ucl, uch, ull, ulh⟩) (evNames ⟨fop, fday, fpart, fkind, finto, fslot, fkey, fvalue, fukl, fukh, fucl, fuch, full, fulh⟩)
  · obtain ⟨ta, re, hre⟩ : ∃ t re, applyL c l ⟨op, day, part, kind, into, slot, key, value, ukl, ukh, ucl, uch, ull, ulh⟩ = (t, re) := ⟨_, _, rfl⟩
    obtain ⟨tb, rf, hrf⟩ : ∃ t rf, applyL c l ⟨fop, fday, fpart, fkind, finto, fslot, fkey, fvalue, fukl, fukh, fucl, fuch, full, fulh⟩ = (t, rf) := ⟨_, _, rfl⟩
    by_cases hne : re = 0
    · subst hne
      by_cases hnf : rf = 0
      · subst hnf
        exact comm_yy cv sv c l op day part kind into slot key value ukl ukh ucl uch ull ulh fop fday fpart fkind finto fslot fkey fvalue fukl fukh fucl fuch full fulh w hcat hsta hl hps hev hef hfew hcom ta hre tb hrf
      · exact comm_yn cv sv c l op day part kind into slot key value ukl ukh ucl uch ull ulh fop fday fpart fkind finto fslot fkey fvalue fukl fukh fucl fuch full fulh w hcat hsta hl hps hev hef hfew hcom ta hre tb rf hrf hnf
    · by_cases hnf : rf = 0
      · subst hnf
        exact comm_ny cv sv c l op day part kind into slot key value ukl ukh ucl uch ull ulh fop fday fpart fkind finto fslot fkey fvalue fukl fukh fucl fuch full fulh w hcat hsta hl hps hev hef hfew hcom ta re hre hne tb hrf
      · exact comm_nn cv sv c l op day part kind into slot key value ukl ukh ucl uch ull ulh fop fday fpart fkind finto fslot fkey fvalue fukl fukh fucl fuch full fulh w hcat hsta hl hps hev hef hfew hcom ta re hre hne tb rf hrf hnf
  · exact comm_e2 cv sv c l op day part kind into slot key value ukl ukh ucl uch ull ulh fop fday fpart fkind finto fslot fkey fvalue fukl fukh fucl fuch full fulh w hcat hsta hl hps hev hef hfew hcom
end Go.Proofs.YtpikcofbhkbifaaGreat
namespace Go.Proofs.YtpikcofbhkbifaaGreat.commutes
open Go Go.RowKit Go.ChangeShapes Go.WideShapes Go.ChangeAt
set_option maxRecDepth 100000 in
theorem contract (H : Type) (enc : TypeId × Value → H) (W : World) (base : Nat) (args : Array Value) (ds gs : List (DataW H)) (before : List MemPlace)
    (hval : ∀ (j : Nat) t v, Tryz.f7.params[j]? = some t → args[j]? = some v → Value.okWide Tryz.prog W .any base t v)
    (hW : DataW.Whole enc Tryz.prog Tryz.f7.params.toList Rows.fleetCommutesSpec.vars false W args.toList ds gs before)
    (hZ : (DataW.weightsEach Tryz.prog (Tryz.f7.params.toList ++ (OpenSpec.ofChange Rows.fleetCommutesSpec).bare.plain.varTypes Tryz.prog) (ds ++ gs)).all (· ≤ reachBytes) = true) :
    Calls Tryz.prog 7 args W fun e W' => ∃ v, e = .returned v ∧ Rows.fleetCommutesSpec.post enc Tryz.prog Tryz.f7 false true false false W args v W' := by
  have hW' := hW
  obtain ⟨p, q, hA0, hV, rfl, hfz, hnd⟩ := hW
  have hA : DataW.TrodAll enc Tryz.prog W 0 (fun _ => true) true Tryz.f7.params.toList args.toList ds p := hA0
  rw [Tryz.params7] at hA hval hZ
  obtain ⟨w0, vs0, d0, ds0, p0, q0, hargs, rfl, rfl, t0, r0⟩ := trodAll_cons hA
  obtain ⟨w1, vs1, d1, ds1, p1, q1, rfl, rfl, rfl, t1, r1⟩ := trodAll_cons r0
  obtain ⟨w2, vs2, d2, ds2, p2, q2, rfl, rfl, rfl, t2, r2⟩ := trodAll_cons r1
  obtain ⟨w3, vs3, d3, ds3, p3, q3, rfl, rfl, rfl, t3, r3⟩ := trodAll_cons r2
  obtain ⟨rfl, rfl, rfl⟩ := trodAll_nil r3
  obtain rfl : args = #[w0, w1, w2, w3] := by cases args; simp_all
  obtain ⟨rfl, rfl⟩ := trodVars_none hV
  have g0 : Light Tryz.prog 24 d0 := light_of hZ (j := 0) rfl rfl
  obtain ⟨cs0, rfl, hz0, m0, t0⟩ := struct_cells Tryz.underlying24 (hval 0 _ w0 rfl rfl) t0
  obtain ⟨v0, c0, hcs0, h0⟩ := open_cat t0 g0 (by rw [Array.length_toList, hz0]; kernel_rfl)
  obtain rfl : cs0 = #[v0] := by cases cs0; simp_all
  have g1 : Light Tryz.prog 27 d1 := light_of hZ (j := 1) rfl rfl
  obtain ⟨cs1, rfl, hz1, m1, t1⟩ := struct_cells Tryz.underlying27 (hval 1 _ w1 rfl rfl) t1
  obtain ⟨v1, l1, hcs1, h1, hl1, hw1⟩ := open_sta t1 g1 (by rw [Array.length_toList, hz1]; kernel_rfl)
  obtain rfl : cs1 = #[v1] := by cases cs1; simp_all
  have g2 : Light Tryz.prog 33 d2 := light_of hZ (j := 2) rfl rfl
  obtain ⟨cs2, rfl, hz2, m2, t2⟩ := struct_cells Tryz.underlying33 (hval 2 _ w2 rfl rfl) t2
  obtain ⟨e2, hcs2, hs2⟩ := open_evF t2 g2 (by rw [Array.length_toList, hz2]; kernel_rfl)
  obtain rfl : cs2 = e2.cells := by cases cs2; cases hce : e2.cells; simp_all
  have g3 : Light Tryz.prog 33 d3 := light_of hZ (j := 3) rfl rfl
  obtain ⟨cs3, rfl, hz3, m3, t3⟩ := struct_cells Tryz.underlying33 (hval 3 _ w3 rfl rfl) t3
  obtain ⟨e3, hcs3, hs3⟩ := open_evF t3 g3 (by rw [Array.length_toList, hz3]; kernel_rfl)
  obtain rfl : cs3 = e3.cells := by cases cs3; cases hce : e3.cells; simp_all
  refine (commutes_any v0 v1 c0 l1 e2 e3 W h0 h1 hl1 hw1 hs2 hs3).mono ?_
  rintro e W' ⟨rfl, hb⟩
  exact ⟨_, rfl, law_post (s := Rows.fleetCommutesSpec) rfl laidOut (by kernel_rfl) (by kernel_rfl) Tryz.underlying4 hW' rfl hb⟩
def wargs : Array Value := #[.agg #[.slice none 0 0], .agg #[.slice none 0 0], .agg #[.int .i64 0, .int .i64 0, .string ⟨#[]⟩, .string ⟨#[]⟩, .string ⟨#[]⟩, .string ⟨#[]⟩, .string ⟨#[]⟩, .string ⟨#[]⟩, .int .i64 0, .int .i64 0, .int .i64 0, .int .i64 0, .int .i64 0, .int .i64 0], .agg #[.int .i64 0, .int .i64 0, .string ⟨#[]⟩, .string ⟨#[]⟩, .string ⟨#[]⟩, .string ⟨#[]⟩, .string ⟨#[]⟩, .string ⟨#[]⟩, .int .i64 0, .int .i64 0, .int .i64 0, .int .i64 0, .int .i64 0, .int .i64 0]]
set_option maxRecDepth 100000 in
theorem reads (os : Os) {H : Type} (enc : TypeId × Value → H) : ∃ places, DataW.whole enc Tryz.prog ((World.holding Tryz.prog os ⟨#[], #[], []⟩).forCall (fun _ _ => 0) ⟨#[], wargs, []⟩).memory Tryz.f7.params.toList Rows.fleetCommutesSpec.vars false wargs.toList 8 = some ([.agg [.nil], .agg [.nil], .agg [.lit (.int .i64 0), .lit (.int .i64 0), .lit (.string []), .lit (.string []), .lit (.string []), .lit (.string []), .lit (.string []), .lit (.string []), .agg [.agg [.lit (.int .i64 0), .lit (.int .i64 0)], .agg [.lit (.int .i64 0), .lit (.int .i64 0)], .agg [.lit (.int .i64 0), .lit (.int .i64 0)]]], .agg [.lit (.int .i64 0), .lit (.int .i64 0), .lit (.string []), .lit (.string []), .lit (.string []), .lit (.string []), .lit (.string []), .lit (.string []), .agg [.agg [.lit (.int .i64 0), .lit (.int .i64 0)], .agg [.lit (.int .i64 0), .lit (.int .i64 0)], .agg [.lit (.int .i64 0), .lit (.int .i64 0)]]]], [], places) :=
  ⟨[], by kernel_rfl⟩
set_option maxRecDepth 100000 in
theorem laid_met (os : Os) : laidMet Tryz.prog Rows.fleetCommutesRow.laid ((World.holding Tryz.prog os ⟨#[], #[], []⟩).forCall (fun _ _ => 0) ⟨#[], wargs, []⟩).memory :=
  laidMet_of_run' 8 (by kernel_rfl) (by kernel_rfl)
set_option maxRecDepth 100000 in
theorem lifted (os : Os) (started : os.Started) (H : Type) (enc : TypeId × Value → H) (F : Stop.Interp) :
    ReturnsInHanded {} Tryz.checked os 7 .any ((OpenSpec.ofChange Rows.fleetCommutesSpec).preRow enc Tryz.prog Tryz.f7 Rows.fleetCommutesRow.domain false Rows.fleetCommutesRow.laid) (((OpenSpec.ofChange Rows.fleetCommutesSpec).at F).post enc Tryz.prog Tryz.f7 false true false false) := by
  obtain ⟨places, hx⟩ := reads os enc
  refine returnsInHanded_of_row (C := Tryz.checked) (s := OpenSpec.ofChange Rows.fleetCommutesSpec) own started (by kernel_rfl) Tryz.func7
    (witness_row_at (enc := enc) (C := Tryz.checked) false (World.holding Tryz.prog os ⟨#[], #[], []⟩) wargs rfl (by kernel_rfl) (by kernel_rfl) (by kernel_rfl)
      (OpenSpec.preRow_of_cond 8 hx (by kernel_rfl) (fun k hk => by cases hk) (by kernel_rfl) (laid_met os))) ?_
  intro W base args ds gs before hval hW _ _ hZ _ _ _
  exact contract H enc W base args ds gs before hval hW hZ
theorem said : Rows.FleetCommutesSaid :=
  OpenClaim.holds_of_cond 7 Tryz.f7 rfl rfl rfl rfl rfl rfl rfl ⟨rfl, rfl, rfl, rfl, rfl⟩ rfl rfl rfl rfl rfl (by kernel_rfl) Tryz.func7 (by kernel_rfl)
    (of_decide_eq_true (by kernel_rfl)) (by unfold Func.isWrapper; first | (rw [if_pos (by decide +kernel)]; kernel_rfl) | (rw [if_neg (by decide +kernel)]; exact ⟨rfl, rfl⟩))
    (fun os started H enc _ F => by rw [OpenClaim.pre_eq_preRow]; exact lifted os started H enc F)
#print axioms said
end Go.Proofs.YtpikcofbhkbifaaGreat.commutes
