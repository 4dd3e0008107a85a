/- For every event and two days bogielaw09.EventDays returns true, and leaves them alone; the listed tables and error variables are tied to the program's text. No condition of its own. -/
import Derived.Deep.DeepLaidRun
import Derived.Lay
import Derived.Stop.LaidErr
import Derived.Test.YtjlpllnhefafkaaDoorCards
import Derived.Test.YtjlpllnhefafkaaDoorTie
import Derived.Test.YtjlpllnhefafkaaDoorU08
import Derived.Test.YtjlpllnhefafkaaDoorXG
namespace Go.Proofs.YtjlpllnhefafkaaDoor.days
open Go Go.RowKit Go.ChangeShapes Go.WideShapes Go.ChangeAt
theorem tab_of_laid {W : World} {x y : String × DataW Unit} {r : List (String × DataW Unit)} (h : laidMet Tryd.prog (x :: y :: ("internal/strconv.uint64pow10", Rows.laid_internal_strconv_uint64pow10) :: r) W) : Tab W := by
  have e : (Rows.laid_internal_strconv_uint64pow10 : DataW Unit) = Lib.tabData .u64 Lib.pow10Tab := by kernel_rfl
  rw [e] at h
  exact Lib.tabIs_of_head (g := 3) (t := 131) (e := 119) (n := 20) (by kernel_rfl) (by kernel_rfl) (by kernel_rfl) (by kernel_rfl) (by kernel_rfl) (by kernel_rfl) (laidMet.tail (laidMet.tail h))
theorem star_err : "*" ++ "errors.errorString" = "*errors.errorString" := by decide
theorem row_err : ∀ u, Tryd.prog.typeName? 3 u = some "*errors.errorString" → u = 142 := fun u h => typeName_ptr_named (P := Tryd.prog) (nm := "errors.errorString") (by rw [star_err]; kernel_rfl) (by kernel_rfl) (by decide) u (by rw [star_err]; exact h)
theorem var_later {n : String} {g : Nat} {cs : Array Value} {W w : World} (hg : Tryd.prog.globalNamed n = some g) (h : W.var? Tryd.prog n = some cs) (hb : Below W.heap.size W w) : w.var? Tryd.prog n = some cs := by
  refine var?_below hb hg ?_ h
  unfold World.var? at h
  rw [hg] at h
  rcases Nat.lt_or_ge g W.heap.size with h1 | h1
  · exact h1
  · simp [Array.getElem?_eq_none h1] at h
theorem evs_of_laid {W : World} {x y z : String × DataW Unit} {r : List (String × DataW Unit)} (h : laidMet Tryd.prog (x :: y :: z :: ("strconv.ErrRange", Rows.laid_strconv_ErrRange) :: ("strconv.ErrSyntax", Rows.laid_strconv_ErrSyntax) :: r) W) : Evs W := by
  have h1 := laidMet.tail (laidMet.tail (laidMet.tail h))
  have h2 := laidMet.tail h1
  obtain ⟨a1, s1, hv1, _⟩ := laid_sentinel h1 (g := 2) (ti := 82) (tp := 142) (te := 144) (ts := 9) (by kernel_rfl) (by kernel_rfl) Tryd.underlying82 row_err Tryd.underlying142 Tryd.underlying144 rfl rfl Tryd.underlying9 (by kernel_rfl) (by kernel_rfl)
  obtain ⟨a2, s2, hv2, _⟩ := laid_sentinel h2 (g := 1) (ti := 82) (tp := 142) (te := 144) (ts := 9) (by kernel_rfl) (by kernel_rfl) Tryd.underlying82 row_err Tryd.underlying142 Tryd.underlying144 rfl rfl Tryd.underlying9 (by kernel_rfl) (by kernel_rfl)
  exact fun w hb => ⟨⟨_, _, var_later (g := 1) (by kernel_rfl) hv2 hb⟩, ⟨_, _, var_later (g := 2) (by kernel_rfl) hv1 hb⟩⟩
set_option maxRecDepth 100000 in
theorem contract (H : Type) (enc : TypeId × Value → H) (W : World) (base : Nat) (args : Array Value) (ds gs : List (DataW H)) (before : List MemPlace)
    (hval : ∀ (j : Nat) t v, Tryd.f3.params[j]? = some t → args[j]? = some v → Value.okWide Tryd.prog W .any base t v)
    (hW : DataW.Whole enc Tryd.prog Tryd.f3.params.toList Rows.eventDaysSpec.vars false W args.toList ds gs before)
    (hZ : (DataW.weightsEach Tryd.prog (Tryd.f3.params.toList ++ (OpenSpec.ofChange Rows.eventDaysSpec).bare.plain.varTypes Tryd.prog) (ds ++ gs)).all (· ≤ reachBytes) = true) (hL : laidMet Tryd.prog Rows.eventDaysRow.laid W) :
    Calls Tryd.prog 3 args W fun e W' => ∃ v, e = .returned v ∧ Rows.eventDaysSpec.post enc Tryd.prog Tryd.f3 false true false false W args v W' := by
  have hW' := hW
  obtain ⟨p, q, hA0, hV, rfl, hfz, hnd⟩ := hW
  have hA : DataW.TrodAll enc Tryd.prog W 0 (fun _ => true) true Tryd.f3.params.toList args.toList ds p := hA0
  rw [Tryd.params3] at hA hval hZ
  obtain ⟨w0, vs0, d0, ds0, p0, q0, hargs, rfl, rfl, t0, r0⟩ := trodAll_cons hA
  obtain ⟨w1, vs1, d1, ds1, p1, q1, rfl, rfl, rfl, t1, r1⟩ := trodAll_cons r0
  obtain ⟨w2, vs2, d2, ds2, p2, q2, rfl, rfl, rfl, t2, r2⟩ := trodAll_cons r1
  obtain ⟨rfl, rfl, rfl⟩ := trodAll_nil r2
  obtain rfl : args = #[w0, w1, w2] := by cases args; simp_all
  obtain ⟨rfl, rfl⟩ := trodVars_none hV
  obtain ⟨cs0, rfl, hz0, m0, t0⟩ := struct_cells Tryd.underlying27 (hval 0 _ w0 rfl rfl) t0
  obtain ⟨e0, hcs0, hs0⟩ := open_ev t0 (by rw [Array.length_toList, hz0]; kernel_rfl)
  obtain rfl : cs0 = e0.cells := by cases cs0; cases hce : e0.cells; simp_all
  obtain ⟨n1, rfl, _, _, hn1⟩ := open_int Tryd.underlying28 (hval 1 _ w1 rfl rfl) t1
  have hi1 : 0 ≤ n1 ∧ n1 ≤ 65535 := by have e1 : IntKind.u16.min = 0 := (by decide); have e2 : IntKind.u16.max = 65535 := (by decide); simpa [Lit.wf, e1, e2] using hn1
  obtain ⟨n2, rfl, _, _, hn2⟩ := open_int Tryd.underlying28 (hval 2 _ w2 rfl rfl) t2
  have hi2 : 0 ≤ n2 ∧ n2 ≤ 65535 := by have e1 : IntKind.u16.min = 0 := (by decide); have e2 : IntKind.u16.max = 65535 := (by decide); simpa [Lit.wf, e1, e2] using hn2
  refine (days_any e0 n1 n2 hi1 hi2 W (tab_of_laid hL) (evs_of_laid hL)).mono ?_
  rintro e W' ⟨rfl, hb⟩
  exact ⟨_, rfl, law_post (s := Rows.eventDaysSpec) rfl laidOut (by kernel_rfl) (by kernel_rfl) Tryd.underlying4 hW' rfl hb⟩
def wargs : Array Value := #[.agg #[.int .i64 0, .int .i64 0, .string ⟨#[]⟩, .string ⟨#[]⟩, .string ⟨#[]⟩, .string ⟨#[]⟩, .string ⟨#[]⟩, .string ⟨#[]⟩, .int .i64 0, .int .i64 0, .int .i64 0, .int .i64 0, .int .i64 0, .int .i64 0], .int .u16 0, .int .u16 0]
noncomputable def laidWorld (os : Os) : World := World.laidAll Tryd.prog os Rows.eventDaysRow.laid
set_option maxRecDepth 100000 in
theorem laid_met (os : Os) : laidMet Tryd.prog Rows.eventDaysRow.laid ((laidWorld os).forCall (fun _ _ => 0) ⟨#[], wargs, []⟩).memory :=
  laidMet_laidAll wargs (by kernel_rfl) (by kernel_rfl)
set_option maxRecDepth 100000 in
theorem reads (os : Os) {H : Type} (enc : TypeId × Value → H) : ∃ places, DataW.whole enc Tryd.prog ((laidWorld os).forCall (fun _ _ => 0) ⟨#[], wargs, []⟩).memory Tryd.f3.params.toList Rows.eventDaysSpec.vars false wargs.toList 8 = some ([.agg [.lit (.int .i64 0), .lit (.int .i64 0), .lit (.string []), .lit (.string []), .lit (.string []), .lit (.string []), .lit (.string []), .lit (.string []), .agg [.agg [.lit (.int .i64 0), .lit (.int .i64 0)], .agg [.lit (.int .i64 0), .lit (.int .i64 0)], .agg [.lit (.int .i64 0), .lit (.int .i64 0)]]], .lit (.int .u16 0), .lit (.int .u16 0)], [], places) :=
  ⟨[], by kernel_rfl⟩
set_option maxRecDepth 100000 in
theorem lifted (os : Os) (started : os.Started) (H : Type) (enc : TypeId × Value → H) (F : Stop.Interp) :
    ReturnsInHanded {} Tryd.checked os 3 .any ((OpenSpec.ofChange Rows.eventDaysSpec).preRow enc Tryd.prog Tryd.f3 Rows.eventDaysRow.domain false Rows.eventDaysRow.laid) (((OpenSpec.ofChange Rows.eventDaysSpec).at F).post enc Tryd.prog Tryd.f3 false true false false) := by
  obtain ⟨places, hx⟩ := reads os enc
  refine returnsInHanded_of_row (C := Tryd.checked) (s := OpenSpec.ofChange Rows.eventDaysSpec) own started (by kernel_rfl) Tryd.func3
    (witness_row_at (enc := enc) (C := Tryd.checked) false (laidWorld os) wargs rfl (by kernel_rfl) (by kernel_rfl) (by kernel_rfl)
      (OpenSpec.preRow_of_cond 8 hx (by kernel_rfl) (fun k hk => by cases hk) (by kernel_rfl) (laid_met os))) ?_
  intro W base args ds gs before hval hW _ _ hZ hL _ _
  exact contract H enc W base args ds gs before hval hW hZ hL
theorem said : Rows.EventDaysSaid :=
  OpenClaim.holds_of_cond 3 Tryd.f3 rfl rfl rfl rfl rfl rfl rfl ⟨rfl, rfl, rfl, rfl, rfl⟩ rfl rfl rfl rfl rfl (by kernel_rfl) Tryd.func3 (by kernel_rfl)
    (of_decide_eq_true (by kernel_rfl)) (by unfold Func.isWrapper; first | (rw [if_pos (by decide +kernel)]; kernel_rfl) | (rw [if_neg (by decide +kernel)]; exact ⟨rfl, rfl⟩))
    (fun os started H enc _ F => by rw [OpenClaim.pre_eq_preRow]; exact lifted os started H enc F)
set_option maxRecDepth 100000 in
theorem plain (f : FuncId) (fn : Func) (hf : Tryd.pinned.checked.prog.funcNamed "bogie/bogielaw09.EventDays" = some f) (hfn : Tryd.pinned.checked.prog.funcs[f]? = some fn) :
    true = Tryd.pinned.checked.prog.looks [] ∧ ∀ (j : Nat) t, fn.params[j]? = some t → Tryd.pinned.checked.prog.wantsStandIn t = false := by
  obtain rfl : f = 3 := Option.some.inj ((show Tryd.prog.funcNamed "bogie/bogielaw09.EventDays" = some 3 by kernel_rfl).symm.trans hf) |>.symm
  obtain rfl : fn = Tryd.f3 := (Option.some.inj (Tryd.func3.symm.trans hfn)).symm
  refine ⟨by kernel_rfl, fun j t ht => ?_⟩
  have h := Array.mem_of_getElem? ht
  have hall : (Tryd.f3.params.toList.all fun t => !Tryd.prog.wantsStandIn t) = true := by kernel_rfl
  have := List.all_eq_true.1 hall t (by simpa using h)
  show Tryd.prog.wantsStandIn t = false
  simpa using this
theorem card : Rows.EventDaysCardSaid :=
  Claim7.holds_tied_plain_at .later [] _ _ _ _ said (fun _ h => by cases h) (by kernel_rfl) (fun _ h => by cases h) eventDays_row_tie rfl ⟨rfl, rfl⟩ (by kernel_rfl) rfl plain (by kernel_rfl)
#print axioms card
end Go.Proofs.YtjlpllnhefafkaaDoor.days
