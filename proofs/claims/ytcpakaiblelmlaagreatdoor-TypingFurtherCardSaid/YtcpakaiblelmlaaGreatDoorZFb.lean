/- For every catalog, rule and two numbers bogielaw21.TypingFurther returns true, and leaves them alone; the listed tables and error variables are tied to the program's text. No condition of its own. -/
import Derived.Deep.DeepLaidRun
import Derived.Lay
import Derived.Shelf.Vars
import Derived.Stop.LaidErr
import Derived.Test.YtcpakaiblelmlaaGreatDoorCards
import Derived.Test.YtcpakaiblelmlaaGreatDoorTie
import Derived.Test.YtcpakaiblelmlaaGreatDoorU05
import Derived.Test.YtcpakaiblelmlaaGreatDoorU13
import Derived.Test.YtcpakaiblelmlaaGreatDoorZFa
namespace Go.Proofs.YtcpakaiblelmlaaGreatDoor.tfurth
open Go Go.RowKit Go.ChangeShapes Go.WideShapes Go.ChangeAt
theorem star_err : "*" ++ "errors.errorString" = "*errors.errorString" := by decide
theorem row_err : ∀ u, Tryz.prog.typeName? 3 u = some "*errors.errorString" → u = 204 := fun u h => typeName_ptr_named (P := Tryz.prog) (nm := "errors.errorString") (by rw [star_err]; kernel_rfl) (by kernel_rfl) (by decide) u (by rw [star_err]; exact h)
theorem var_later {n : String} {g : Nat} {cs : Array Value} {W w : World} (hg : Tryz.prog.globalNamed n = some g) (h : W.var? Tryz.prog n = some cs) (hb : Below W.heap.size W w) : w.var? Tryz.prog n = some cs := by
  refine var?_below hb hg ?_ h
  unfold World.var? at h
  rw [hg] at h
  rcases Nat.lt_or_ge g W.heap.size with h1 | h1
  · exact h1
  · simp [Array.getElem?_eq_none h1] at h
theorem evs_of_laid {W : World} (h : laidMet Tryz.prog Rows.typingFurtherRow.laid W) : Evs W := by
  have h1 := (laidMet.tail (laidMet.tail (laidMet.tail h)))
  have h2 := (laidMet.tail (laidMet.tail (laidMet.tail (laidMet.tail h))))
  obtain ⟨a1, s1, hv1, _⟩ := laid_sentinel h1 (g := 2) (ti := 174) (tp := 204) (te := 206) (ts := 9) (by kernel_rfl) (by kernel_rfl) Tryz.underlying174 row_err Tryz.underlying204 Tryz.underlying206 rfl rfl Tryz.underlying9 (by kernel_rfl) (by kernel_rfl)
  obtain ⟨a2, s2, hv2, _⟩ := laid_sentinel h2 (g := 1) (ti := 174) (tp := 204) (te := 206) (ts := 9) (by kernel_rfl) (by kernel_rfl) Tryz.underlying174 row_err Tryz.underlying204 Tryz.underlying206 rfl rfl Tryz.underlying9 (by kernel_rfl) (by kernel_rfl)
  exact fun w hb => ⟨⟨_, _, var_later (g := 1) (by kernel_rfl) hv2 hb⟩, ⟨_, _, var_later (g := 2) (by kernel_rfl) hv1 hb⟩⟩
set_option maxRecDepth 100000 in
theorem contract (H : Type) (enc : TypeId × Value → H) (W : World) (base : Nat) (args : Array Value) (ds gs : List (DataW H)) (before : List MemPlace)
    (hval : ∀ (j : Nat) t v, Tryz.f4.params[j]? = some t → args[j]? = some v → Value.okWide Tryz.prog W .any base t v)
    (hW : DataW.Whole enc Tryz.prog Tryz.f4.params.toList Rows.typingFurtherSpec.vars false W args.toList ds gs before)
    (hZ : (DataW.weightsEach Tryz.prog (Tryz.f4.params.toList ++ (OpenSpec.ofChange Rows.typingFurtherSpec).bare.plain.varTypes Tryz.prog) (ds ++ gs)).all (· ≤ reachBytes) = true) (hL : laidMet Tryz.prog Rows.typingFurtherRow.laid W) :
    Calls Tryz.prog 4 args W fun e W' => ∃ v, e = .returned v ∧ Rows.typingFurtherSpec.post enc Tryz.prog Tryz.f4 false true false false W args v W' := by
  have hW' := hW
  obtain ⟨p, q, hA0, hV, rfl, hfz, hnd⟩ := hW
  have hA : DataW.TrodAll enc Tryz.prog W 0 (fun _ => true) true Tryz.f4.params.toList args.toList ds p := hA0
  rw [Tryz.params4] at hA hval hZ
  obtain ⟨w0, vs0, d0, ds0, p0, q0, hargs, rfl, rfl, t0, r0⟩ := trodAll_cons hA
  obtain ⟨w1, vs1, d1, ds1, p1, q1, rfl, rfl, rfl, t1, r1⟩ := trodAll_cons r0
  obtain ⟨w2, vs2, d2, ds2, p2, q2, rfl, rfl, rfl, t2, r2⟩ := trodAll_cons r1
  obtain ⟨w3, vs3, d3, ds3, p3, q3, rfl, rfl, rfl, t3, r3⟩ := trodAll_cons r2
  obtain ⟨rfl, rfl, rfl⟩ := trodAll_nil r3
  obtain rfl : args = #[w0, w1, w2, w3] := by cases args; simp_all
  obtain ⟨rfl, rfl⟩ := trodVars_none hV
  obtain ⟨cs0, rfl, hz0, m0, t0⟩ := struct_cells Tryz.underlying24 (hval 0 _ w0 rfl rfl) t0
  obtain ⟨cv0, ca0, hcs0, h0⟩ := open_cat t0 (by rw [Array.length_toList, hz0]; kernel_rfl)
  obtain rfl : cs0 = #[cv0] := Array.toList_inj.1 hcs0
  obtain ⟨cs1, rfl, hz1, m1, t1⟩ := struct_cells Tryz.underlying29 (hval 1 _ w1 rfl rfl) t1
  obtain ⟨ru1, v1, hcs1, h1, hf1, hn1, hk1⟩ := open_ru t1 (by rw [Array.length_toList, hz1]; kernel_rfl)
  obtain rfl : cs1 = ruA ru1 v1 := Array.toList_inj.1 hcs1
  obtain ⟨n2, rfl, hn2⟩ := u8_cells Tryz.underlying5 (hval 2 _ w2 rfl rfl) t2
  obtain ⟨n3, rfl, hn3⟩ := u8_cells Tryz.underlying5 (hval 3 _ w3 rfl rfl) t3
  refine (furth21_any W (evs_of_laid hL) cv0 ca0 ru1 v1 W (Below.refl _ _) h0 h1 n2 n3 hn2 hn3 hf1 hn1 hk1).mono ?_
  rintro e W' ⟨rfl, hb⟩
  exact ⟨_, rfl, law_post (s := Rows.typingFurtherSpec) rfl laidOut (by kernel_rfl) (by kernel_rfl) Tryz.underlying4 hW' rfl hb⟩
def wargs : Array Value := #[.agg #[.slice none 0 0], .agg #[.string ⟨#[]⟩, .string ⟨#[]⟩, .int .i64 0, .string ⟨#[]⟩, .string ⟨#[]⟩, .int .i64 0, .int .i64 0, .slice none 0 0], .int .u8 0, .int .u8 0]
noncomputable def laidWorld (os : Os) : World := World.laidAll Tryz.prog os Rows.typingFurtherRow.laid
set_option maxRecDepth 100000 in
theorem laid_met (os : Os) : laidMet Tryz.prog Rows.typingFurtherRow.laid ((laidWorld os).forCall (fun _ _ => 0) ⟨#[], wargs, []⟩).memory :=
  laidMet_laidAll wargs (by kernel_rfl) (by kernel_rfl)
set_option maxRecDepth 100000 in
theorem reads (os : Os) {H : Type} (enc : TypeId × Value → H) : ∃ places, DataW.whole enc Tryz.prog ((laidWorld os).forCall (fun _ _ => 0) ⟨#[], wargs, []⟩).memory Tryz.f4.params.toList Rows.typingFurtherSpec.vars false wargs.toList 8 = some ([.agg [.nil], .agg [.lit (.string []), .lit (.string []), .agg [.lit (.int .i64 0), .lit (.string []), .lit (.string []), .lit (.int .i64 0), .lit (.int .i64 0), .nil]], .lit (.int .u8 0), .lit (.int .u8 0)], [], places) :=
  ⟨[], by kernel_rfl⟩
set_option maxRecDepth 100000 in
theorem lifted (os : Os) (started : os.Started) (H : Type) (enc : TypeId × Value → H) (F : Stop.Interp) :
    ReturnsInHanded {} Tryz.checked os 4 .any ((OpenSpec.ofChange Rows.typingFurtherSpec).preRow enc Tryz.prog Tryz.f4 Rows.typingFurtherRow.domain false Rows.typingFurtherRow.laid) (((OpenSpec.ofChange Rows.typingFurtherSpec).at F).post enc Tryz.prog Tryz.f4 false true false false) := by
  obtain ⟨places, hx⟩ := reads os enc
  refine returnsInHanded_of_row (C := Tryz.checked) (s := OpenSpec.ofChange Rows.typingFurtherSpec) own started (by kernel_rfl) Tryz.func4
    (witness_row_at (enc := enc) (C := Tryz.checked) false (laidWorld os) wargs rfl (by kernel_rfl) (by kernel_rfl) (by kernel_rfl)
      (OpenSpec.preRow_of_cond 8 hx (by kernel_rfl) (fun k hk => by cases hk) (by kernel_rfl) (laid_met os))) ?_
  intro W base args ds gs before hval hW _ _ hZ hL _ _
  exact contract H enc W base args ds gs before hval hW hZ hL
theorem said : Rows.TypingFurtherSaid :=
  OpenClaim.holds_of_cond 4 Tryz.f4 rfl rfl rfl rfl rfl rfl rfl ⟨rfl, rfl, rfl, rfl, rfl⟩ rfl rfl rfl rfl rfl (by kernel_rfl) Tryz.func4 (by kernel_rfl)
    (of_decide_eq_true (by kernel_rfl)) (by unfold Func.isWrapper; first | (rw [if_pos (by decide +kernel)]; kernel_rfl) | (rw [if_neg (by decide +kernel)]; exact ⟨rfl, rfl⟩))
    (fun os started H enc _ F => by rw [OpenClaim.pre_eq_preRow]; exact lifted os started H enc F)
set_option maxRecDepth 100000 in
theorem plain (f : FuncId) (fn : Func) (hf : Tryz.pinned.checked.prog.funcNamed "bogie/bogielaw21.TypingFurther" = some f) (hfn : Tryz.pinned.checked.prog.funcs[f]? = some fn) :
    true = Tryz.pinned.checked.prog.looks [] ∧ ∀ (j : Nat) t, fn.params[j]? = some t → Tryz.pinned.checked.prog.wantsStandIn t = false := by
  obtain rfl : f = 4 := Option.some.inj ((show Tryz.prog.funcNamed "bogie/bogielaw21.TypingFurther" = some 4 by kernel_rfl).symm.trans hf) |>.symm
  obtain rfl : fn = Tryz.f4 := (Option.some.inj (Tryz.func4.symm.trans hfn)).symm
  refine ⟨by kernel_rfl, fun j t ht => ?_⟩
  have h := Array.mem_of_getElem? ht
  have hall : (Tryz.f4.params.toList.all fun t => !Tryz.prog.wantsStandIn t) = true := by kernel_rfl
  have := List.all_eq_true.1 hall t (by simpa using h)
  show Tryz.prog.wantsStandIn t = false
  simpa using this
theorem card : Rows.TypingFurtherCardSaid :=
  Claim7.holds_tied_plain_at .later [] _ _ _ _ said (fun _ h => by cases h) (by kernel_rfl) (fun _ h => by cases h) typingFurther_row_tie rfl ⟨rfl, rfl⟩ (by kernel_rfl) rfl plain (by kernel_rfl)
#print axioms card
end Go.Proofs.YtcpakaiblelmlaaGreatDoor.tfurth
