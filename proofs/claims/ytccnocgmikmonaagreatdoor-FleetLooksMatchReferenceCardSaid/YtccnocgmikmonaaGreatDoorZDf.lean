/- The step from a walk to a row, for a law: it returns true, and memory below is as it was. No condition. A state by value opened, with its numbers' sizes. No condition. The step from a walk to a row, for laws that read the table of powers of ten; a world that holds the listed tables. No condition of its own. -/
import Derived.Carry
import Derived.Deep.DeepHandedRow
import Derived.Deep.DeepLaidRun
import Derived.Lib.LaidTab
import Derived.OpenShut
import Derived.ProofKit
import Derived.Stop.LaidErr
import Derived.WalkKit
import Derived.Test.YtccnocgmikmonaaGreatDoorProg
import Derived.Test.YtccnocgmikmonaaGreatDoorRows
import Derived.Test.YtccnocgmikmonaaGreatDoorU26
import Derived.Test.YtccnocgmikmonaaGreatDoorZDa
import Derived.Test.YtccnocgmikmonaaGreatDoorZDb
namespace Go.Proofs.YtccnocgmikmonaaGreatDoor
open Go Go.RowKit Go.ChangeShapes Go.WideShapes Go.ChangeAt
section
variable {H : Type} {enc : TypeId × Value → H} {P : Program} {W W' : World}
theorem trodAll_below (hl : laidOutB P = true) (hb : Below W.heap.size W W') : ∀ (ts : List TypeId) (vs : List Value) (ds : List (DataW H)) (ps : List MemPlace),
    (ts.all fun t => P.readableRec t && decide (t < P.types.size)) = true → DataW.TrodAll enc P W 0 (fun _ => true) true ts vs ds ps → (∀ x ∈ ps, x.block < W.heap.size) →
    DataW.TrodAll enc P W' 0 (fun b => decide (b < W.heap.size)) true ts vs ds ps
  | [], vs, ds, ps, _, h, _ => by
    obtain ⟨rfl, rfl, rfl⟩ := trodAll_nil h
    exact trodAll_mk0
  | t :: ts, vs, ds, ps, ht, h, hp => by
    obtain ⟨v, vs', d, ds', p, q, rfl, rfl, rfl, h1, h2⟩ := trodAll_cons h
    simp only [List.all_cons, Bool.and_eq_true, decide_eq_true_eq] at ht
    exact trodAll_cons_mk (Below.trod hl ht.1.1 ht.1.2 h1 hb fun x hx => hp x (List.mem_append.2 (.inl hx))) (trodAll_below hl hb ts vs' ds' q ht.2 h2 fun x hx => hp x (List.mem_append.2 (.inr hx)))
/-- What a law owes behind its walk. -/
theorem law_post {f : Func} {s : ChangeSpec} {args : Array Value} {ds gs : List (DataW H)} {before : List MemPlace} {T : TypeId} (hsv : s.vars = []) (hl : laidOutB P = true)
    (hread : (f.params.toList.all fun t => P.readableRec t && decide (t < P.types.size)) = true) (hrt : f.resultTypes = #[T]) (hT : P.underlying T = some .bool)
    (hW : DataW.Whole enc P f.params.toList s.vars false W args.toList ds gs before) (hspec : s.fn H (ds ++ gs) = { results := [.lit (.bool true)], args := ds }) (hb : Below W.heap.size W W') :
    s.post enc P f false true false false W args (.bool true) W' := by
  have hW' := hW
  obtain ⟨p, q, hA, hV, rfl, hfz, hnd⟩ := hW
  rw [hsv] at hV
  obtain ⟨rfl, rfl⟩ := trodVars_none hV
  refine ⟨ds, [], p ++ [], [], p, [], hW', ?_, ?_, ?_, hb.frame _, fun h => by cases h⟩
  · rw [hspec, hrt]
    exact trodAll_cons_mk (shut_bool hT true) trodAll_mk0
  · rw [hspec]
    exact trodAll_below hl hb _ _ _ _ hread hA fun x hx => hW'.lt x (by simpa using hx)
  · rw [hspec, hsv]
    exact rfl
/-- The value that a slice argument is, as a list of one cell. -/
theorem slice_cells {base : Nat} {spare : Nat → Bool} {held : Bool} {t e : TypeId} {v : Value} {d : DataW H} {ps : List MemPlace} {r : Reach} {b0 : Nat} (ht : P.underlying t = some (.slice e))
    (hv : Value.okWide P W r b0 t v) (h : DataW.Trod enc P W base spare held t v d ps) : ∃ fuel, DataW.trod enc P W base spare held fuel t [v] = some (d, ps) := by
  obtain ⟨a, n, c, rfl⟩ := okWide_slice ht hv
  exact h
theorem string_cells {base : Nat} {spare : Nat → Bool} {held : Bool} {t : TypeId} {v : Value} {d : DataW H} {ps : List MemPlace} {r : Reach} {b0 : Nat} (ht : P.underlying t = some .string)
    (hv : Value.okWide P W r b0 t v) (h : DataW.Trod enc P W base spare held t v d ps) : ∃ s : ByteArray, v = .string s ∧ s.size ≤ maxLen := by
  obtain ⟨s, rfl⟩ := okWide_string ht hv
  obtain ⟨fuel, hf⟩ := h
  obtain ⟨a, ha, _, hs⟩ := DataW.trod_string ht hf
  have : s = a := by simpa [Value.cells] using ha
  subst this
  exact ⟨s, rfl, hs⟩
theorem struct_cells {base : Nat} {spare : Nat → Bool} {held : Bool} {t : TypeId} {fs : Array Field} {v : Value} {d : DataW H} {ps : List MemPlace} {r : Reach} {b0 : Nat} (ht : P.underlying t = some (.struct fs))
    (hv : Value.okWide P W r b0 t v) (h : DataW.Trod enc P W base spare held t v d ps) : ∃ cs : Array Value, v = .agg cs ∧ cs.size = P.cellsOf t ∧ ∃ fuel, DataW.trod enc P W base spare held fuel t cs.toList = some (d, ps) := by
  obtain ⟨cs, rfl, hs⟩ := okWide_struct ht hv
  exact ⟨cs, rfl, hs, h⟩
end
theorem own : ownKnob Tryz.prog.godebug = none := by kernel_rfl
theorem laidOut : laidOutB Tryz.prog = true := by kernel_rfl
end Go.Proofs.YtccnocgmikmonaaGreatDoor
namespace Go.Proofs.YtccnocgmikmonaaGreatDoor
open Go Go.RowKit Go.ChangeShapes Go.WideShapes Go.Deep
def In64 (n : Int) : Prop := -9223372036854775808 ≤ n ∧ n ≤ 9223372036854775807
section
variable {H : Type} {enc : TypeId × Value → H} {P : Program} {w : World} {base : Nat} {spare : Nat → Bool} {held : Bool}
theorem open_intI {t : TypeId} {n : Nat} {c : Value} {z : DataW H × List MemPlace} (ht : P.underlying t = some (.int .i64)) (h : DataW.trod enc P w base spare held n t [c] = some z) : ∃ a : Int, c = .int .i64 a ∧ In64 a := by
  obtain ⟨a, ha, _, hw⟩ := DataW.trod_int ht h
  refine ⟨a, by simpa using ha, ?_⟩
  have e1 : IntKind.i64.min = -9223372036854775808 := (by decide)
  have e2 : IntKind.i64.max = 9223372036854775807 := (by decide)
  simpa [Lit.wf, e1, e2, In64] using hw
end
section
variable {H : Type} {enc : TypeId × Value → H} {w : World} {base : Nat} {spare : Nat → Bool} {held : Bool}
set_option maxRecDepth 100000 in
set_option maxHeartbeats 1000000 in
theorem open_ivI {n : Nat} {c0 c1 : Value} {y : DataW H × List MemPlace} (h : DataW.trod enc Tryz.prog w base spare held n 29 [c0, c1] = some y) (hw : Light Tryz.prog 29 y.1) : ∃ a b : Int, c0 = .int .i64 a ∧ c1 = .int .i64 b ∧ In64 a ∧ In64 b := by
  obtain ⟨m, hf⟩ := light_fields Tryz.underlying29 h hw
  obtain ⟨z0, f0, w0⟩ := hf 0 _ rfl
  obtain ⟨z1, f1, w1⟩ := hf 1 _ rfl
  change DataW.trod enc Tryz.prog w base spare held m 3 (([c0, c1].drop 0).take (Tryz.prog.cellsOf 3)) = some z0 at f0
  change DataW.trod enc Tryz.prog w base spare held m 3 (([c0, c1].drop 1).take (Tryz.prog.cellsOf 3)) = some z1 at f1
  rw [cIn] at f0 f1
  obtain ⟨a, ha, ia⟩ := open_intI Tryz.underlying3 f0
  obtain ⟨b, hb, ib⟩ := open_intI Tryz.underlying3 f1
  exact ⟨a, b, ha, hb, ia, ib⟩
set_option maxRecDepth 100000 in
set_option maxHeartbeats 1000000 in
theorem open_threeI {n t : Nat} {c0 c1 c2 c3 c4 c5 : Value} {y : DataW H × List MemPlace} {fs : Array Field} (ht : Tryz.prog.underlying t = some (.struct fs)) (h0 : ∃ f, fs[0]? = some f ∧ f.type = 29 ∧ f.offset = 0) (h1 : ∃ f, fs[1]? = some f ∧ f.type = 29 ∧ f.offset = 2) (h2 : ∃ f, fs[2]? = some f ∧ f.type = 29 ∧ f.offset = 4)
    (h : DataW.trod enc Tryz.prog w base spare held n t [c0, c1, c2, c3, c4, c5] = some y) (hw : Light Tryz.prog t y.1) : ∃ a b c d e f : Int, c0 = .int .i64 a ∧ c1 = .int .i64 b ∧ c2 = .int .i64 c ∧ c3 = .int .i64 d ∧ c4 = .int .i64 e ∧ c5 = .int .i64 f ∧ In64 a ∧ In64 b ∧ In64 c ∧ In64 d ∧ In64 e ∧ In64 f := by
  obtain ⟨m, hf⟩ := light_fields ht h hw
  obtain ⟨g0, a0, b0, d0⟩ := h0
  obtain ⟨g1, a1, b1, d1⟩ := h1
  obtain ⟨g2, a2, b2, d2⟩ := h2
  obtain ⟨z0, f0, w0⟩ := hf 0 _ a0
  obtain ⟨z1, f1, w1⟩ := hf 1 _ a1
  obtain ⟨z2, f2, w2⟩ := hf 2 _ a2
  rw [b0, d0, cIv] at f0
  rw [b1, d1, cIv] at f1
  rw [b2, d2, cIv] at f2
  rw [b0] at w0
  rw [b1] at w1
  rw [b2] at w2
  obtain ⟨a, b, e0, e1, i0, i1⟩ := open_ivI (c0 := c0) (c1 := c1) f0 w0
  obtain ⟨c, d, e2, e3, i2, i3⟩ := open_ivI (c0 := c2) (c1 := c3) f1 w1
  obtain ⟨e, f, e4, e5, i4, i5⟩ := open_ivI (c0 := c4) (c1 := c5) f2 w2
  exact ⟨a, b, c, d, e, f, e0, e1, e2, e3, e4, e5, i0, i1, i2, i3, i4, i5⟩
set_option maxRecDepth 100000 in
set_option maxHeartbeats 1000000 in
theorem open_paI {n : Nat} {cs : List Value} {y : DataW H × List MemPlace} (h : DataW.trod enc Tryz.prog w base spare held n 33 cs = some y) (hw : Light Tryz.prog 33 y.1) (hl : cs.length = 14) : ∃ p : Pa, PaR w cs p ∧ (p.wide ∧ p.i64) := by
  obtain ⟨m, hf⟩ := light_fields Tryz.underlying33 h hw
  match cs, hl with
  | [c0, c1, c2, c3, c4, c5, c6, c7, c8, c9, c10, c11, c12, c13], _ =>
    obtain ⟨z0, f0, w0⟩ := hf 0 _ rfl
    obtain ⟨z1, f1, w1⟩ := hf 1 _ rfl
    obtain ⟨z2, f2, w2⟩ := hf 2 _ rfl
    obtain ⟨z3, f3, w3⟩ := hf 3 _ rfl
    obtain ⟨z4, f4, w4⟩ := hf 4 _ rfl
    obtain ⟨z5, f5, w5⟩ := hf 5 _ rfl
    obtain ⟨z6, f6, w6⟩ := hf 6 _ rfl
    obtain ⟨z7, f7, w7⟩ := hf 7 _ rfl
    obtain ⟨z8, f8, w8⟩ := hf 8 _ rfl
    change DataW.trod enc Tryz.prog w base spare held m 9 (([c0, c1, c2, c3, c4, c5, c6, c7, c8, c9, c10, c11, c12, c13].drop 0).take (Tryz.prog.cellsOf 9)) = some z0 at f0
    change DataW.trod enc Tryz.prog w base spare held m 9 (([c0, c1, c2, c3, c4, c5, c6, c7, c8, c9, c10, c11, c12, c13].drop 1).take (Tryz.prog.cellsOf 9)) = some z1 at f1
    change DataW.trod enc Tryz.prog w base spare held m 9 (([c0, c1, c2, c3, c4, c5, c6, c7, c8, c9, c10, c11, c12, c13].drop 2).take (Tryz.prog.cellsOf 9)) = some z2 at f2
    change DataW.trod enc Tryz.prog w base spare held m 9 (([c0, c1, c2, c3, c4, c5, c6, c7, c8, c9, c10, c11, c12, c13].drop 3).take (Tryz.prog.cellsOf 9)) = some z3 at f3
    change DataW.trod enc Tryz.prog w base spare held m 3 (([c0, c1, c2, c3, c4, c5, c6, c7, c8, c9, c10, c11, c12, c13].drop 4).take (Tryz.prog.cellsOf 3)) = some z4 at f4
    change DataW.trod enc Tryz.prog w base spare held m 3 (([c0, c1, c2, c3, c4, c5, c6, c7, c8, c9, c10, c11, c12, c13].drop 5).take (Tryz.prog.cellsOf 3)) = some z5 at f5
    change DataW.trod enc Tryz.prog w base spare held m 4 (([c0, c1, c2, c3, c4, c5, c6, c7, c8, c9, c10, c11, c12, c13].drop 6).take (Tryz.prog.cellsOf 4)) = some z6 at f6
    change DataW.trod enc Tryz.prog w base spare held m 27 (([c0, c1, c2, c3, c4, c5, c6, c7, c8, c9, c10, c11, c12, c13].drop 7).take (Tryz.prog.cellsOf 27)) = some z7 at f7
    change DataW.trod enc Tryz.prog w base spare held m 31 (([c0, c1, c2, c3, c4, c5, c6, c7, c8, c9, c10, c11, c12, c13].drop 8).take (Tryz.prog.cellsOf 31)) = some z8 at f8
    rw [cSt] at f0 f1 f2 f3
    rw [cIn] at f4 f5
    rw [cBo] at f6
    rw [cPr] at f7
    rw [cLi] at f8
    obtain ⟨s0, rfl, b0⟩ := open_str1 Tryz.underlying9 f0 w0
    obtain ⟨s1, rfl, b1⟩ := open_str1 Tryz.underlying9 f1 w1
    obtain ⟨s2, rfl, b2⟩ := open_str1 Tryz.underlying9 f2 w2
    obtain ⟨s3, rfl, b3⟩ := open_str1 Tryz.underlying9 f3 w3
    obtain ⟨i4, rfl, k4⟩ := open_intI Tryz.underlying3 f4
    obtain ⟨i5, rfl, k5⟩ := open_intI Tryz.underlying3 f5
    obtain ⟨i6, rfl⟩ := open_bool1 Tryz.underlying4 f6
    obtain ⟨l, hs, hl, hp⟩ := open_rowsW noPr PrR Pr.wide Tryz.underlying27 (by kernel_rfl : Tryz.prog.cellsOf 65 = 2) (by omega) (fun n cs y h hw hl => open_pr h hw hl) f7 w7
    obtain ⟨a, b, c, d, e, f, rfl, rfl, rfl, rfl, rfl, rfl, ja, jb, jc, jd, je, jf⟩ := open_threeI (t := 31) (c0 := c8) (c1 := c9) (c2 := c10) (c3 := c11) (c4 := c12) (c5 := c13) Tryz.underlying31 ⟨_, rfl, rfl, rfl⟩ ⟨_, rfl, rfl, rfl⟩ ⟨_, rfl, rfl, rfl⟩ f8 w8
    refine ⟨⟨s0, s1, s2, s3, i4, i5, i6, l, a, b, c, d, e, f⟩, ⟨c7, rfl, hs⟩, ⟨b0, b1, b2, b3, hl, hp⟩, ?_⟩
    intro n hn
    simp only [List.mem_cons, List.not_mem_nil, or_false] at hn
    rcases hn with rfl | rfl | rfl | rfl | rfl | rfl | rfl | rfl <;> assumption
set_option maxRecDepth 100000 in
set_option maxHeartbeats 1000000 in
theorem open_staI {n : Nat} {cs : List Value} {y : DataW H × List MemPlace} (h : DataW.trod enc Tryz.prog w base spare held n 24 cs = some y) (hw : Light Tryz.prog 24 y.1) (hl : cs.length = 1) : ∃ v l, cs = [v] ∧ Sta w v l ∧ l.length ≤ maxLen ∧ ∀ p ∈ l, p.wide ∧ p.i64 := by
  obtain ⟨m, hf⟩ := light_fields Tryz.underlying24 h hw
  match cs, hl with
  | [c0], _ =>
    obtain ⟨z0, f0, w0⟩ := hf 0 _ rfl
    change DataW.trod enc Tryz.prog w base spare held m 22 (([c0].drop 0).take (Tryz.prog.cellsOf 22)) = some z0 at f0
    rw [cPs] at f0
    obtain ⟨l, hs, hl, hp⟩ := open_rowsW noPa PaR (fun p => p.wide ∧ p.i64) Tryz.underlying22 (by kernel_rfl : Tryz.prog.cellsOf 33 = 14) (by omega) (fun n cs y h hw hl => open_paI h hw hl) f0 w0
    exact ⟨c0, l, rfl, hs, hl, hp⟩
end
end Go.Proofs.YtccnocgmikmonaaGreatDoor
namespace Go.Proofs.YtccnocgmikmonaaGreatDoor
open Go Go.RowKit Go.ChangeShapes Go.WideShapes Go.ChangeAt
section
variable {H : Type} {enc : TypeId × Value → H} {P : Program} {W : World}
theorem light_of {ts : List TypeId} {ds : List (DataW H)} (hZ : (DataW.weightsEach P ts ds).all (· ≤ reachBytes) = true) {j : Nat} {t : TypeId} {d : DataW H} (ht : ts[j]? = some t) (hd : ds[j]? = some d) : Light P t d :=
  fun n hn => of_decide_eq_true (List.all_eq_true.1 hZ n (DataW.weights_mem_each ht hd n hn))
theorem string_cellsW {base : Nat} {spare : Nat → Bool} {held : Bool} {t : TypeId} {v : Value} {d : DataW H} {ps : List MemPlace} {r : Reach} {b0 : Nat} (ht : P.underlying t = some .string)
    (hv : Value.okWide P W r b0 t v) (h : DataW.Trod enc P W base spare held t v d ps) (hw : Light P t d) : ∃ s : ByteArray, v = .string s ∧ s.size ≤ big := by
  obtain ⟨s, rfl⟩ := okWide_string ht hv
  obtain ⟨fuel, hf⟩ := h
  obtain ⟨a, ha, hs⟩ := open_str1 (c := .string s) (z := (d, ps)) ht hf hw
  have : s = a := by simpa using ha
  subst this
  exact ⟨s, rfl, hs⟩
end
/-- The table of powers of ten, third on a row's list. -/
theorem tab_of_laid {W : World} {x y : String × DataW Unit} {r : List (String × DataW Unit)} (h : laidMet Tryz.prog (x :: y :: ("internal/strconv.uint64pow10", Rows.laid_internal_strconv_uint64pow10) :: r) W) : Tab W := by
  have e : (Rows.laid_internal_strconv_uint64pow10 : DataW Unit) = Lib.tabData .u64 Lib.pow10Tab := by kernel_rfl
  rw [e] at h
  exact Lib.tabIs_of_head (g := 0) (t := 212) (e := 86) (n := 20) (by kernel_rfl) (by kernel_rfl) (by kernel_rfl) (by kernel_rfl) (by kernel_rfl) (by kernel_rfl) (laidMet.tail (laidMet.tail h))
mutual
def flatC : DataW Unit → List Value
  | .lit (.int k z) => [.int k z]
  | .agg l => flatCs l
  | _ => []
def flatCs : List (DataW Unit) → List Value
  | [] => []
  | d :: r => flatC d ++ flatCs r
end
def setRow (h : Array Obj) (i : Nat) (d : DataW Unit) : Array Obj := h.modify i fun
  | .cells _ t frozen => .cells (flatC d).toArray t frozen
  | o => o
/-- The settled world with the tables laid. -/
def laidHeap (h : Array Obj) : Array Obj :=
  setRow (setRow (setRow (setRow (setRow h 0 Rows.laid_internal_strconv_uint64pow10) 4 Rows.laid_math_bits_deBruijn32tab) 5 Rows.laid_math_bits_deBruijn64tab) 1 Rows.laid_unicode_utf8_first) 2 Rows.laid_unicode_utf8_acceptRanges
end Go.Proofs.YtccnocgmikmonaaGreatDoor
