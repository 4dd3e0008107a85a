/- For every two states and text bogielaw10.FleetLooksMatchReference returns true, and leaves them alone; the listed tables are tied to the program's text. No condition of its own. -/
import Derived.Test.YtccnocgmikmonaaGreatDoorCards
import Derived.Test.YtccnocgmikmonaaGreatDoorTie
import Derived.Test.YtccnocgmikmonaaGreatDoorZDf
import Derived.Test.YtccnocgmikmonaaGreatDoorZLc
namespace Go.Proofs.YtccnocgmikmonaaGreatDoor.looks
open Go Go.RowKit Go.ChangeShapes Go.WideShapes Go.ChangeAt
set_option maxRecDepth 100000 in
theorem contract (H : Type) (enc : TypeId × Value → H) (W : World) (base : Nat) (args : Array Value) (ds gs : List (DataW H)) (before : List MemPlace)
    (hval : ∀ (j : Nat) t v, Tryz.f3.params[j]? = some t → args[j]? = some v → Value.okWide Tryz.prog W .any base t v)
    (hW : DataW.Whole enc Tryz.prog Tryz.f3.params.toList Rows.fleetLooksMatchReferenceSpec.vars false W args.toList ds gs before)
    (hZ : (DataW.weightsEach Tryz.prog (Tryz.f3.params.toList ++ (OpenSpec.ofChange Rows.fleetLooksMatchReferenceSpec).bare.plain.varTypes Tryz.prog) (ds ++ gs)).all (· ≤ reachBytes) = true) (hL : laidMet Tryz.prog Rows.fleetLooksMatchReferenceRow.laid W) :
    Calls Tryz.prog 3 args W fun e W' => ∃ v, e = .returned v ∧ Rows.fleetLooksMatchReferenceSpec.post enc Tryz.prog Tryz.f3 false true false false W args v W' := by
  have hW' := hW
  obtain ⟨p, q, hA0, hV, rfl, hfz, hnd⟩ := hW
  have hA : DataW.TrodAll enc Tryz.prog W 0 (fun _ => true) true Tryz.f3.params.toList args.toList ds p := hA0
  rw [Tryz.params3] at hA hval hZ
  obtain ⟨w0, vs0, d0, ds0, p0, q0, hargs, rfl, rfl, t0, r0⟩ := trodAll_cons hA
  obtain ⟨w1, vs1, d1, ds1, p1, q1, rfl, rfl, rfl, t1, r1⟩ := trodAll_cons r0
  obtain ⟨w2, vs2, d2, ds2, p2, q2, rfl, rfl, rfl, t2, r2⟩ := trodAll_cons r1
  obtain ⟨rfl, rfl, rfl⟩ := trodAll_nil r2
  obtain rfl : args = #[w0, w1, w2] := by cases args; simp_all
  obtain ⟨rfl, rfl⟩ := trodVars_none hV
  have g0 : Light Tryz.prog 24 d0 := light_of hZ (j := 0) rfl rfl
  obtain ⟨cs0, rfl, hz0, m0, t0⟩ := struct_cells Tryz.underlying24 (hval 0 _ w0 rfl rfl) t0
  obtain ⟨v0, l0, hcs0, h0, hl0, hw0⟩ := open_staI t0 g0 (by rw [Array.length_toList, hz0]; kernel_rfl)
  obtain rfl : cs0 = #[v0] := by cases cs0; simp_all
  have g1 : Light Tryz.prog 24 d1 := light_of hZ (j := 1) rfl rfl
  obtain ⟨cs1, rfl, hz1, m1, t1⟩ := struct_cells Tryz.underlying24 (hval 1 _ w1 rfl rfl) t1
  obtain ⟨v1, l1, hcs1, h1, hl1, hw1⟩ := open_staI t1 g1 (by rw [Array.length_toList, hz1]; kernel_rfl)
  obtain rfl : cs1 = #[v1] := by cases cs1; simp_all
  have g2 : Light Tryz.prog 9 d2 := light_of hZ (j := 2) rfl rfl
  obtain ⟨s2, rfl, hb2⟩ := string_cellsW Tryz.underlying9 (hval 2 _ w2 rfl rfl) t2 g2
  refine (looks_any v0 v1 l0 l1 s2 W (tab_of_laid hL) h0 h1 hl0 hl1 (fun p hp => (hw0 p hp).1) (fun p hp => (hw1 p hp).1) (fun p hp => (hw0 p hp).2) (by unfold big at hb2; unfold maxLen; omega)).mono ?_
  rintro e W' ⟨rfl, hb⟩
  exact ⟨_, rfl, law_post (s := Rows.fleetLooksMatchReferenceSpec) rfl laidOut (by kernel_rfl) (by kernel_rfl) Tryz.underlying4 hW' rfl hb⟩
def wargs : Array Value := #[.agg #[.slice none 0 0], .agg #[.slice none 0 0], .string ⟨#[]⟩]
noncomputable def laidWorld (os : Os) : World :=
  { World.holding Tryz.prog os ⟨#[], #[], []⟩ with heap := laidHeap (World.holding Tryz.prog os ⟨#[], #[], []⟩).heap }
set_option maxRecDepth 100000 in
theorem laid_met (os : Os) : laidMet Tryz.prog Rows.fleetLooksMatchReferenceRow.laid ((laidWorld os).forCall (fun _ _ => 0) ⟨#[], wargs, []⟩).memory :=
  laidMet_of_run3 8 (by kernel_rfl) (by kernel_rfl) (by kernel_rfl)
set_option maxRecDepth 100000 in
theorem reads (os : Os) {H : Type} (enc : TypeId × Value → H) : ∃ places, DataW.whole enc Tryz.prog ((laidWorld os).forCall (fun _ _ => 0) ⟨#[], wargs, []⟩).memory Tryz.f3.params.toList Rows.fleetLooksMatchReferenceSpec.vars false wargs.toList 8 = some ([.agg [.nil], .agg [.nil], .lit (.string [])], [], places) :=
  ⟨[], by kernel_rfl⟩
set_option maxRecDepth 100000 in
theorem lifted (os : Os) (started : os.Started) (H : Type) (enc : TypeId × Value → H) (F : Stop.Interp) :
    ReturnsInHanded {} Tryz.checked os 3 .any ((OpenSpec.ofChange Rows.fleetLooksMatchReferenceSpec).preRow enc Tryz.prog Tryz.f3 Rows.fleetLooksMatchReferenceRow.domain false Rows.fleetLooksMatchReferenceRow.laid) (((OpenSpec.ofChange Rows.fleetLooksMatchReferenceSpec).at F).post enc Tryz.prog Tryz.f3 false true false false) := by
  obtain ⟨places, hx⟩ := reads os enc
  refine returnsInHanded_of_row (C := Tryz.checked) (s := OpenSpec.ofChange Rows.fleetLooksMatchReferenceSpec) own started (by kernel_rfl) Tryz.func3
    (witness_row_at (enc := enc) (C := Tryz.checked) false (laidWorld os) wargs rfl (by kernel_rfl) (by kernel_rfl) (by kernel_rfl)
      (OpenSpec.preRow_of_cond 8 hx (by kernel_rfl) (fun k hk => by cases hk) (by kernel_rfl) (laid_met os))) ?_
  intro W base args ds gs before hval hW _ _ hZ hL _ _
  exact contract H enc W base args ds gs before hval hW hZ hL
theorem said : Rows.FleetLooksMatchReferenceSaid :=
  OpenClaim.holds_of_cond 3 Tryz.f3 rfl rfl rfl rfl rfl rfl rfl ⟨rfl, rfl, rfl, rfl, rfl⟩ rfl rfl rfl rfl rfl (by kernel_rfl) Tryz.func3 (by kernel_rfl)
    (of_decide_eq_true (by kernel_rfl)) (by unfold Func.isWrapper; first | (rw [if_pos (by decide +kernel)]; kernel_rfl) | (rw [if_neg (by decide +kernel)]; exact ⟨rfl, rfl⟩))
    (fun os started H enc _ F => by rw [OpenClaim.pre_eq_preRow]; exact lifted os started H enc F)
set_option maxRecDepth 100000 in
theorem plain (f : FuncId) (fn : Func) (hf : Tryz.pinned.checked.prog.funcNamed "bogie/bogielaw10.FleetLooksMatchReference" = some f) (hfn : Tryz.pinned.checked.prog.funcs[f]? = some fn) :
    false = Tryz.pinned.checked.prog.looks [] ∧ ∀ (j : Nat) t, fn.params[j]? = some t → Tryz.pinned.checked.prog.wantsStandIn t = false := by
  obtain rfl : f = 3 := Option.some.inj ((show Tryz.prog.funcNamed "bogie/bogielaw10.FleetLooksMatchReference" = some 3 by kernel_rfl).symm.trans hf) |>.symm
  obtain rfl : fn = Tryz.f3 := (Option.some.inj (Tryz.func3.symm.trans hfn)).symm
  refine ⟨by kernel_rfl, fun j t ht => ?_⟩
  have h := Array.mem_of_getElem? ht
  have hall : (Tryz.f3.params.toList.all fun t => !Tryz.prog.wantsStandIn t) = true := by kernel_rfl
  have := List.all_eq_true.1 hall t (by simpa using h)
  show Tryz.prog.wantsStandIn t = false
  simpa using this
theorem card : Rows.FleetLooksMatchReferenceCardSaid :=
  Claim7.holds_tied_plain_at .later [] _ _ _ _ said (fun _ h => by cases h) (by kernel_rfl) (fun _ h => by cases h) fleetLooksMatchReference_row_tie rfl ⟨rfl, rfl⟩ (by kernel_rfl) rfl plain (by kernel_rfl)
#print axioms card
end Go.Proofs.YtccnocgmikmonaaGreatDoor.looks
