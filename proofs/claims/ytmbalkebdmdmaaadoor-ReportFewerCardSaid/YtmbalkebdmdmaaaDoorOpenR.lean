/- A report as an argument by value, opened. No condition. -/
import Derived.Test.YtmbalkebdmdmaaaDoorOpen
namespace Go.Proofs.YtmbalkebdmdmaaaDoor
open Go Go.RowKit Go.ChangeShapes Go.WideShapes Go.Deep
section
variable {H : Type} {enc : TypeId × Value → H} {w : World} {base : Nat} {spare : Nat → Bool} {held : Bool}
set_option maxRecDepth 100000 in
theorem open_rep {m : Nat} {cs : List Value} {y : DataW H × List MemPlace} (h : DataW.trod enc Tryd.prog w base spare held m 29 cs = some y) (hl : cs.length = 2) :
    ∃ r : Rep, ∃ sv, cs = [sv, .bool r.doubt] ∧ Sl w sv r.opts.length 14 (evF r.opts) ∧ (∀ e ∈ r.opts, e.short) ∧ r.opts.length ≤ maxLen := by
  obtain ⟨xs, n1, rfl, _, _, hxl, hf⟩ := DataW.trod_struct Tryd.underlying29 h
  have ok : ∀ i, i < 2 → (xs[i]?).isSome = true := fun i hi => by rw [List.getElem?_eq_getElem (by rw [hxl]; exact hi)]; rfl
  match cs, hl with
  | [c0, c1], _ =>
    have k27 : Tryd.prog.cellsOf 27 = 1 := by kernel_rfl
    have k4 : Tryd.prog.cellsOf 4 = 1 := by kernel_rfl
    have f0 : DataW.trod enc Tryd.prog w base spare held n1 27 (([c0, c1].drop 0).take (Tryd.prog.cellsOf 27)) = xs[0]? := hf 0 _ rfl
    have f1 : DataW.trod enc Tryd.prog w base spare held n1 4 (([c0, c1].drop 1).take (Tryd.prog.cellsOf 4)) = xs[1]? := hf 1 _ rfl
    rw [k27] at f0
    rw [k4] at f1
    have o0 := ok 0 (by omega)
    have o1 := ok 1 (by omega)
    cases hx0 : xs[0]? with
    | none => rw [hx0] at o0; cases o0
    | some z0 =>
      cases hx1 : xs[1]? with
      | none => rw [hx1] at o1; cases o1
      | some z1 =>
        rw [hx0] at f0
        rw [hx1] at f1
        obtain ⟨l, h1, h2, h3⟩ := open_evs (v := c0) f0
        obtain ⟨b, hb, _⟩ := DataW.trod_bool Tryd.underlying4 f1
        have hb' : c1 = .bool b := by simpa using hb
        exact ⟨⟨l, b⟩, c0, by rw [hb'], h1, h2, h3⟩
end
end Go.Proofs.YtmbalkebdmdmaaaDoor
