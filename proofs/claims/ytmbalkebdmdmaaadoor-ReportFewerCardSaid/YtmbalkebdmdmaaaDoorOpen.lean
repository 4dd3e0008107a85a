/- Arguments opened: slices of whatever, events, reports, numbers. No condition. -/
import Derived.Test.YtmbalkebdmdmaaaDoorRep4
import Derived.ProofKit
import Derived.Deep.Slices
import Derived.Carry
namespace Go.Proofs.YtmbalkebdmdmaaaDoor
open Go Go.RowKit Go.ChangeShapes Go.WideShapes Go.Deep
theorem addr_plain {w : World} {a : Addr} {v : Value} (h : w.cell? a = some v) : a = ⟨a.block, a.off, none⟩ := by
  obtain ⟨b, o, sp⟩ := a
  cases sp with
  | none => rfl
  | some s => simp [World.cell?] at h; split at h <;> simp at h
section
variable {H : Type} {enc : TypeId × Value → H} {P : Program} {w : World} {base : Nat} {spare : Nat → Bool} {held : Bool}
/-- A slice whose elements are of C cells, each of which reads as something. -/
theorem open_rows {α : Type} (d : α) {t e C fuel : Nat} {v : Value} {x : DataW H × List MemPlace} (R : List Value → α → Prop) (ht : P.underlying t = some (.slice e)) (hC : P.cellsOf e = C) (h0 : 0 < C)
    (hR : ∀ n cs y, DataW.trod enc P w base spare held n e cs = some y → cs.length = C → ∃ a, R cs a)
    (h : DataW.trod enc P w base spare held fuel t [v] = some x) :
    ∃ (A : Option Addr) (c : Nat) (l : List α), v = .slice A l.length c ∧ l.length ≤ c ∧ c ≤ maxLen ∧ (l.length = 0 ∨ ∃ b o, A = some ⟨b, o, none⟩ ∧
      ∀ i a, l[i]? = some a → ∃ cs, R cs a ∧ cs.length = C ∧ ∀ j u, cs[j]? = some u → w.cell? ⟨b, o + i * C + j, none⟩ = some u) := by
  subst hC
  rcases open_slice ht h with ⟨h1, _⟩ | ⟨a, len, cap, m, n, D, Pl, hcs, _, hl, hm, hmm, _, hi⟩
  · have : v = .slice none 0 0 := by simpa using h1
    exact ⟨none, 0, [], this, Nat.le_refl _, by simp [maxLen], .inl rfl⟩
  · have hv : v = .slice (some a) len cap := by simpa using hcs
    have hlm : len ≤ m := by rw [hmm]; split <;> omega
    have hex : ∀ i, i < len → ∃ q : List Value × α, R q.1 q.2 ∧ q.1.length = P.cellsOf e ∧ ∀ j u, q.1[j]? = some u → w.cell? ((a.add (i * P.cellsOf e)).add j) = some u := by
      intro i hi'
      obtain ⟨cs', hc, ht'⟩ := hi i (by omega)
      obtain ⟨_, hcl, hat⟩ := World.cells?_some hc
      obtain ⟨y, hy⟩ := hR _ _ _ ht' hcl
      refine ⟨(cs', y), hy, hcl, fun j u hu => ?_⟩
      have hj : j < P.cellsOf e := by
        rcases Nat.lt_or_ge j (P.cellsOf e) with h1 | h1
        · exact h1
        · rw [List.getElem?_eq_none (by show cs'.length ≤ j; omega)] at hu; cases hu
      rw [hat j hj]; exact hu
    let f : Nat → List Value × α := fun i => if h : i < len then Classical.choose (hex i h) else ([], d)
    have hf : ∀ i, i < len → R (f i).1 (f i).2 ∧ (f i).1.length = P.cellsOf e ∧ ∀ j u, (f i).1[j]? = some u → w.cell? ((a.add (i * P.cellsOf e)).add j) = some u := by
      intro i hi'
      have : f i = Classical.choose (hex i hi') := dif_pos hi'
      rw [this]; exact Classical.choose_spec (hex i hi')
    have hll : ((List.range len).map fun i => (f i).2).length = len := by simp
    refine ⟨some a, cap, (List.range len).map fun i => (f i).2, by rw [hll]; exact hv, by omega, hm, ?_⟩
    by_cases hz : len = 0
    · exact .inl (by omega)
    · right
      obtain ⟨_, hl0, hc0⟩ := hf 0 (by omega)
      have hp : a = ⟨a.block, a.off, none⟩ := by
        have h1 := hc0 0 ((f 0).1[0]'(by omega)) (List.getElem?_eq_getElem (by omega))
        have e1 : (a.add (0 * P.cellsOf e)).add 0 = a := by simp [Addr.add]
        rw [e1] at h1
        exact addr_plain h1
      refine ⟨a.block, a.off, congrArg some hp, fun i y hy => ?_⟩
      have hi' : i < len := by
        rcases Nat.lt_or_ge i len with h1 | h1
        · exact h1
        · rw [List.getElem?_eq_none (by omega)] at hy; cases hy
      have hyi : (f i).2 = y := by simpa [hi'] using hy
      obtain ⟨h1, h2, h3⟩ := hf i hi'
      refine ⟨(f i).1, hyi ▸ h1, h2, fun j u hu => ?_⟩
      have := h3 j u hu
      rw [hp] at this
      rwa [Addr.add_mid, Addr.add_mid] at this

set_option maxRecDepth 100000 in
set_option maxHeartbeats 1000000 in
/-- An event's cells. -/
theorem open_ev {n : Nat} {cs : List Value} {y : DataW H × List MemPlace} (h : DataW.trod enc Tryd.prog w base spare held n 39 cs = some y) (hl : cs.length = 14) : ∃ e : Ev, cs = e.cells.toList ∧ e.short := by
  obtain ⟨xs, n1, rfl, _, _, hxl, hf⟩ := DataW.trod_struct Tryd.underlying39 h
  have some_ : ∀ (fs : Array Field) (xs : List (DataW H × List MemPlace)) i, i < fs.size → xs.length = fs.size → ∃ z, xs[i]? = some z := fun fs xs i h1 h2 => ⟨xs[i]'(by omega), List.getElem?_eq_getElem (by omega)⟩
  match cs, hl with
  | [c0, c1, c2, c3, c4, c5, c6, c7, c8, c9, c10, c11, c12, c13], _ =>
    have int_ : ∀ (m i : Nat) (c : Value) (z : Option (DataW H × List MemPlace)), z.isSome = true → DataW.trod enc Tryd.prog w base spare held m 3 [c] = z → ∃ a : Int, c = .int .i64 a := fun m i c z hz ht => by
      cases z with
      | none => cases hz
      | some z => obtain ⟨a, ha, _⟩ := DataW.trod_int Tryd.underlying3 ht; exact ⟨a, by simpa using ha⟩
    have str_ : ∀ (m i : Nat) (c : Value) (z : Option (DataW H × List MemPlace)), z.isSome = true → DataW.trod enc Tryd.prog w base spare held m 9 [c] = z → ∃ a : ByteArray, c = .string a ∧ a.size ≤ maxLen := fun m i c z hz ht => by
      cases z with
      | none => cases hz
      | some z => obtain ⟨a, ha, _, hs⟩ := DataW.trod_string Tryd.underlying9 ht; exact ⟨a, by simpa using ha, hs⟩
    have ok : ∀ i, i < 9 → (xs[i]?).isSome = true := fun i hi => by rw [List.getElem?_eq_getElem (by rw [hxl]; exact hi)]; rfl
    have k3 : Tryd.prog.cellsOf 3 = 1 := by kernel_rfl
    have k9 : Tryd.prog.cellsOf 9 = 1 := by kernel_rfl
    have k37 : Tryd.prog.cellsOf 37 = 6 := by kernel_rfl
    have k35 : Tryd.prog.cellsOf 35 = 2 := by kernel_rfl
    have f0 : DataW.trod enc Tryd.prog w base spare held n1 3 (([c0, c1, c2, c3, c4, c5, c6, c7, c8, c9, c10, c11, c12, c13].drop 0).take (Tryd.prog.cellsOf 3)) = xs[0]? := hf 0 _ rfl
    rw [k3] at f0
    have f1 : DataW.trod enc Tryd.prog w base spare held n1 3 (([c0, c1, c2, c3, c4, c5, c6, c7, c8, c9, c10, c11, c12, c13].drop 1).take (Tryd.prog.cellsOf 3)) = xs[1]? := hf 1 _ rfl
    rw [k3] at f1
    have f2 : DataW.trod enc Tryd.prog w base spare held n1 9 (([c0, c1, c2, c3, c4, c5, c6, c7, c8, c9, c10, c11, c12, c13].drop 2).take (Tryd.prog.cellsOf 9)) = xs[2]? := hf 2 _ rfl
    rw [k9] at f2
    have f3 : DataW.trod enc Tryd.prog w base spare held n1 9 (([c0, c1, c2, c3, c4, c5, c6, c7, c8, c9, c10, c11, c12, c13].drop 3).take (Tryd.prog.cellsOf 9)) = xs[3]? := hf 3 _ rfl
    rw [k9] at f3
    have f4 : DataW.trod enc Tryd.prog w base spare held n1 9 (([c0, c1, c2, c3, c4, c5, c6, c7, c8, c9, c10, c11, c12, c13].drop 4).take (Tryd.prog.cellsOf 9)) = xs[4]? := hf 4 _ rfl
    rw [k9] at f4
    have f5 : DataW.trod enc Tryd.prog w base spare held n1 9 (([c0, c1, c2, c3, c4, c5, c6, c7, c8, c9, c10, c11, c12, c13].drop 5).take (Tryd.prog.cellsOf 9)) = xs[5]? := hf 5 _ rfl
    rw [k9] at f5
    have f6 : DataW.trod enc Tryd.prog w base spare held n1 9 (([c0, c1, c2, c3, c4, c5, c6, c7, c8, c9, c10, c11, c12, c13].drop 6).take (Tryd.prog.cellsOf 9)) = xs[6]? := hf 6 _ rfl
    rw [k9] at f6
    have f7 : DataW.trod enc Tryd.prog w base spare held n1 9 (([c0, c1, c2, c3, c4, c5, c6, c7, c8, c9, c10, c11, c12, c13].drop 7).take (Tryd.prog.cellsOf 9)) = xs[7]? := hf 7 _ rfl
    rw [k9] at f7
    have f8 : DataW.trod enc Tryd.prog w base spare held n1 37 (([c0, c1, c2, c3, c4, c5, c6, c7, c8, c9, c10, c11, c12, c13].drop 8).take (Tryd.prog.cellsOf 37)) = xs[8]? := hf 8 _ rfl
    rw [k37] at f8
    obtain ⟨op, rfl⟩ := int_ _ 0 _ _ (ok 0 (by omega)) f0
    obtain ⟨day, rfl⟩ := int_ _ 0 _ _ (ok 1 (by omega)) f1
    obtain ⟨part, rfl, s2⟩ := str_ _ 0 _ _ (ok 2 (by omega)) f2
    obtain ⟨kind, rfl, s3⟩ := str_ _ 0 _ _ (ok 3 (by omega)) f3
    obtain ⟨into, rfl, s4⟩ := str_ _ 0 _ _ (ok 4 (by omega)) f4
    obtain ⟨slot, rfl, s5⟩ := str_ _ 0 _ _ (ok 5 (by omega)) f5
    obtain ⟨key, rfl, s6⟩ := str_ _ 0 _ _ (ok 6 (by omega)) f6
    obtain ⟨value, rfl, s7⟩ := str_ _ 0 _ _ (ok 7 (by omega)) f7
    have h8 := ok 8 (by omega)
    cases hx8 : xs[8]? with
    | none => rw [hx8] at h8; cases h8
    | some z8 =>
      rw [hx8] at f8
      obtain ⟨ys, n2, _, _, _, hyl, hg⟩ := DataW.trod_struct Tryd.underlying37 f8
      have iv : ∀ (c d : Value) (z : Option (DataW H × List MemPlace)), z.isSome = true → DataW.trod enc Tryd.prog w base spare held n2 35 [c, d] = z → ∃ a b : Int, c = .int .i64 a ∧ d = .int .i64 b := fun c d z hz ht => by
        cases z with
        | none => cases hz
        | some z =>
          obtain ⟨zs, n3, _, _, _, hzl, hh⟩ := DataW.trod_struct Tryd.underlying35 ht
          have g0 : DataW.trod enc Tryd.prog w base spare held n3 3 (([c, d].drop 0).take (Tryd.prog.cellsOf 3)) = zs[0]? := hh 0 _ rfl
          have g1 : DataW.trod enc Tryd.prog w base spare held n3 3 (([c, d].drop 1).take (Tryd.prog.cellsOf 3)) = zs[1]? := hh 1 _ rfl
          rw [k3] at g0 g1
          obtain ⟨a, ha⟩ := int_ _ 0 c _ (by rw [List.getElem?_eq_getElem (by rw [hzl]; exact (by decide : 0 < 2))]; rfl) g0
          obtain ⟨b, hb⟩ := int_ _ 0 d _ (by rw [List.getElem?_eq_getElem (by rw [hzl]; exact (by decide : 1 < 2))]; rfl) g1
          exact ⟨a, b, ha, hb⟩
      have oky : ∀ i, i < 3 → (ys[i]?).isSome = true := fun i hi => by rw [List.getElem?_eq_getElem (by rw [hyl]; exact hi)]; rfl
      have g0 : DataW.trod enc Tryd.prog w base spare held n2 35 (([c8, c9, c10, c11, c12, c13].drop 0).take (Tryd.prog.cellsOf 35)) = ys[0]? := hg 0 _ rfl
      have g1 : DataW.trod enc Tryd.prog w base spare held n2 35 (([c8, c9, c10, c11, c12, c13].drop 2).take (Tryd.prog.cellsOf 35)) = ys[1]? := hg 1 _ rfl
      have g2 : DataW.trod enc Tryd.prog w base spare held n2 35 (([c8, c9, c10, c11, c12, c13].drop 4).take (Tryd.prog.cellsOf 35)) = ys[2]? := hg 2 _ rfl
      rw [k35] at g0 g1 g2
      obtain ⟨kl, kh, rfl, rfl⟩ := iv _ _ _ (oky 0 (by omega)) g0
      obtain ⟨cl, ch, rfl, rfl⟩ := iv _ _ _ (oky 1 (by omega)) g1
      obtain ⟨ll, lh, rfl, rfl⟩ := iv _ _ _ (oky 2 (by omega)) g2
      exact ⟨⟨op, day, part, kind, into, slot, key, value, kl, kh, cl, ch, ll, lh⟩, rfl, s2, s3, s4, s5, s6, s7⟩

/-- A slice of events. -/
theorem open_evs {n : Nat} {v : Value} {y : DataW H × List MemPlace} (h : DataW.trod enc Tryd.prog w base spare held n 27 [v] = some y) :
    ∃ l : List Ev, Sl w v l.length 14 (evF l) ∧ (∀ e ∈ l, e.short) ∧ l.length ≤ maxLen := by
  obtain ⟨A, c, l, hv, hn, hc, h1⟩ := open_rows noEv (fun cs (e : Ev) => cs = e.cells.toList ∧ e.short) Tryd.underlying27 (by kernel_rfl : Tryd.prog.cellsOf 39 = 14) (by omega) (fun m cs y h hl => open_ev h hl) h
  refine ⟨l, ⟨A, c, hv, hn, ?_⟩, ?_, by omega⟩
  · rcases h1 with h0 | ⟨b, o, hA, hi⟩
    · exact .inl h0
    · refine .inr ⟨b, o, hA, fun j hj => ?_⟩
      have hlt : j / 14 < l.length := by omega
      obtain ⟨cs, ⟨rfl, _⟩, _, hcell⟩ := hi (j / 14) l[j / 14] (List.getElem?_eq_getElem hlt)
      have hm : j % 14 < (l[j / 14]).cells.size := by simp [Ev.cells]; omega
      have h2 := hcell (j % 14) ((l[j / 14]).cells[j % 14]) (by rw [Array.getElem?_toList, Array.getElem?_eq_getElem hm])
      rw [show o + j / 14 * 14 + j % 14 = o + j by omega] at h2
      rw [h2]
      unfold evF
      rw [List.getD_eq_getElem?_getD, List.getElem?_eq_getElem hlt, Option.getD_some, Array.getElem?_eq_getElem hm]; rfl
  · intro e he
    obtain ⟨i, hi', rfl⟩ := List.getElem_of_mem he
    rcases h1 with h0 | ⟨b, o, hA, hi⟩
    · omega
    · obtain ⟨cs, ⟨_, hs⟩, _⟩ := hi i l[i] (List.getElem?_eq_getElem hi')
      exact hs
set_option maxRecDepth 100000 in
/-- A slice of reports. -/
theorem open_reps {n : Nat} {v : Value} {y : DataW H × List MemPlace} (h : DataW.trod enc Tryd.prog w base spare held n 22 [v] = some y) :
    ∃ L : List Rep, Reps w v L ∧ (∀ r ∈ L, ∀ e ∈ r.opts, e.short) ∧ L.length ≤ maxLen ∧ ∀ r ∈ L, r.opts.length ≤ maxLen := by
  have hR : ∀ m cs y, DataW.trod enc Tryd.prog w base spare held m 29 cs = some y → cs.length = 2 → ∃ r : Rep, ∃ sv, cs = [sv, .bool r.doubt] ∧ Sl w sv r.opts.length 14 (evF r.opts) ∧ (∀ e ∈ r.opts, e.short) ∧ r.opts.length ≤ maxLen := by
    intro m cs y h hl
    obtain ⟨xs, n1, rfl, _, _, hxl, hf⟩ := DataW.trod_struct Tryd.underlying29 h
    have ok : ∀ i, i < 2 → (xs[i]?).isSome = true := fun i hi => by rw [List.getElem?_eq_getElem (by rw [hxl]; exact hi)]; rfl
    match cs, hl with
    | [c0, c1], _ =>
      have k27 : Tryd.prog.cellsOf 27 = 1 := by kernel_rfl
      have k4 : Tryd.prog.cellsOf 4 = 1 := by kernel_rfl
      have f0 : DataW.trod enc Tryd.prog w base spare held n1 27 (([c0, c1].drop 0).take (Tryd.prog.cellsOf 27)) = xs[0]? := hf 0 _ rfl
      have f1 : DataW.trod enc Tryd.prog w base spare held n1 4 (([c0, c1].drop 1).take (Tryd.prog.cellsOf 4)) = xs[1]? := hf 1 _ rfl
      rw [k27] at f0
      rw [k4] at f1
      have o0 := ok 0 (by omega)
      have o1 := ok 1 (by omega)
      cases hx0 : xs[0]? with
      | none => rw [hx0] at o0; cases o0
      | some z0 =>
        cases hx1 : xs[1]? with
        | none => rw [hx1] at o1; cases o1
        | some z1 =>
          rw [hx0] at f0
          rw [hx1] at f1
          obtain ⟨l, h1, h2, h3⟩ := open_evs (v := c0) f0
          obtain ⟨b, hb, _⟩ := DataW.trod_bool Tryd.underlying4 f1
          have hb' : c1 = .bool b := by simpa using hb
          exact ⟨⟨l, b⟩, c0, by rw [hb'], h1, h2, h3⟩
  obtain ⟨A, c, l, hv, hn, hc, h1⟩ := open_rows noRep (fun cs (r : Rep) => ∃ sv, cs = [sv, .bool r.doubt] ∧ Sl w sv r.opts.length 14 (evF r.opts) ∧ (∀ e ∈ r.opts, e.short) ∧ r.opts.length ≤ maxLen) Tryd.underlying22 (by kernel_rfl : Tryd.prog.cellsOf 29 = 2) (by omega) hR h
  have each : ∀ r ∈ l, (∀ e ∈ r.opts, e.short) ∧ r.opts.length ≤ maxLen := by
    intro e he
    obtain ⟨i, hi', rfl⟩ := List.getElem_of_mem he
    rcases h1 with h0 | ⟨b, o, hA, hi⟩
    · omega
    · obtain ⟨cs, ⟨sv, _, _, hs⟩, _⟩ := hi i l[i] (List.getElem?_eq_getElem hi')
      exact hs
  refine ⟨l, ⟨A, c, hv, hn, ?_⟩, fun r hr => (each r hr).1, by omega, fun r hr => (each r hr).2⟩
  rcases h1 with h0 | ⟨b, o, hA, hi⟩
  · exact .inl h0
  · refine .inr ⟨b, o, hA, fun i hlt => ?_⟩
    obtain ⟨cs, ⟨sv, rfl, hs, _⟩, _, hcell⟩ := hi i l[i] (List.getElem?_eq_getElem hlt)
    have e : l.getD i noRep = l[i] := by rw [List.getD_eq_getElem?_getD, List.getElem?_eq_getElem hlt]; rfl
    rw [e]
    exact ⟨sv, hcell 0 sv rfl, hcell 1 _ rfl, hs⟩
/-- A slice of numbers. -/
theorem open_nums {n : Nat} {v : Value} {y : DataW H × List MemPlace} (h : DataW.trod enc Tryd.prog w base spare held n 23 [v] = some y) :
    ∃ l : List Int, Sl w v l.length 1 (intF l) ∧ l.length ≤ maxLen := by
  obtain ⟨A, c, l, hv, hn, hc, h1⟩ := open_rows (0 : Int) (fun cs (a : Int) => cs = [.int .i64 a]) Tryd.underlying23 (by kernel_rfl : Tryd.prog.cellsOf 3 = 1) (by omega) (fun m cs y h hl => by
    obtain ⟨a, ha, _⟩ := DataW.trod_int Tryd.underlying3 h; exact ⟨a, ha⟩) h
  refine ⟨l, ⟨A, c, hv, hn, ?_⟩, by omega⟩
  rcases h1 with h0 | ⟨b, o, hA, hi⟩
  · exact .inl h0
  · refine .inr ⟨b, o, hA, fun j hj => ?_⟩
    obtain ⟨cs, rfl, _, hcell⟩ := hi j (l[j]'(by omega)) (List.getElem?_eq_getElem (by omega))
    have := hcell 0 _ rfl
    rw [Nat.mul_one, Nat.add_zero] at this
    rw [this]
    unfold intF
    rw [List.getD_eq_getElem?_getD, List.getElem?_eq_getElem (by omega)]; rfl
end
end Go.Proofs.YtmbalkebdmdmaaaDoor
