/-
  No cell of these rows narrows 'for every input' (looked for: loops, veiled, ifaces, maps, wideKeys, modest, calm, conditions, laid).
  DERIVED. THE GIVEN ROWS OF THIS SEAT. 5 by the template 'for every input the law returns true; each argument reads behind the call as it read before'; 0 by the template 'total and deterministic' (their statements: YtpikcofbhkbifaaGreatTotals.lean).
  GIVEN WITH THE SEED: the statements are not yours to turn. If you find one false, say at which input.
  Laid BY PROGRAM, IN A SANDBOX (cutbox-rows.mjs): the forced cells as the released guide's own fill.sh prints them over the translation 90f2bbe54a09244a… (all of the seat's roots in one cut). By AI agents, Wed Nov 11 2026. No macro, syntax, notation, axiom, sorry.
-/
import Derived.Test.YtpikcofbhkbifaaGreatChecked
import GoSem.Claim
import GoSem.ClaimJoined
import GoSem.ClaimMapViews
import Derived.JoinedTies
import Derived.KernelRfl
namespace Go.Proofs.YtpikcofbhkbifaaGreat
/- THE CELL 'sum', in the pinned program and in every row, IS THE sha256 OF THE DUMP (.gsa) THAT YtpikcofbhkbifaaGreatProg.lean LOADS. Nothing in Lean hashes anything: it is a label: what it is worth is what the hold of that sum in a sandbox is worth. -/
noncomputable def Tryz.pinned : Pinned := { name := "ytpikcofbhkbifaagreat", sum := "90f2bbe54a09244a44e04aeed77e08ebe015b17c8a636b38010083b2c4d8d0bc", checked := Tryz.checked }
namespace Rows
def none {H : Type} : Left H := { results := [], args := [] }

/-- 'bogielaw10.FleetMatchesReference': WHATEVER THE INPUT: true; the input reads as it did. -/
def fleetMatchesReferenceSpec : ChangeSpec := { name := "fleetMatchesReference", fn := fun _ => fun
  | [d1, d2, d3] => { results := [.lit (.bool true)], args := [d1, d2, d3] }
  | _ => none }
def fleetMatchesReferenceRow : OpenClaim := { program := "ytpikcofbhkbifaagreat", sum := "90f2bbe54a09244a44e04aeed77e08ebe015b17c8a636b38010083b2c4d8d0bc", func := "bogie/bogielaw10.FleetMatchesReference", spec := "fleetMatchesReference", inPlace := ["internal/bytealg.IndexByteString", "slices.overlaps[bogie/api.Part]", "slices.overlaps[bogie/api.Prop]"], unfollowed := true, recurses := true, plainKeys := false, apart := false }
def FleetMatchesReferenceSaid : Prop := fleetMatchesReferenceRow.holds Tryz.pinned (OpenSpec.ofChange fleetMatchesReferenceSpec)

/-- ITS FALSE NEIGHBOUR: 'it returns false'. Refute it at one input. -/
def fleetMatchesReferenceWrong : ChangeSpec := { name := "fleetMatchesReference", fn := fun _ => fun
  | [d1, d2, d3] => { results := [.lit (.bool false)], args := [d1, d2, d3] }
  | _ => none }
def FleetMatchesReferenceWrongFalsely : Prop := fleetMatchesReferenceRow.holds Tryz.pinned (OpenSpec.ofChange fleetMatchesReferenceWrong)

/-- 'bogielaw10.FleetChanges': WHATEVER THE INPUT: true; the input reads as it did. -/
def fleetChangesSpec : ChangeSpec := { name := "fleetChanges", fn := fun _ => fun
  | [d1, d2, d3] => { results := [.lit (.bool true)], args := [d1, d2, d3] }
  | _ => none }
def fleetChangesRow : OpenClaim := { program := "ytpikcofbhkbifaagreat", sum := "90f2bbe54a09244a44e04aeed77e08ebe015b17c8a636b38010083b2c4d8d0bc", func := "bogie/bogielaw10.FleetChanges", spec := "fleetChanges", inPlace := ["internal/bytealg.IndexByteString", "slices.overlaps[bogie/api.Part]", "slices.overlaps[bogie/api.Prop]"], unfollowed := true, recurses := true, plainKeys := false, apart := false }
def FleetChangesSaid : Prop := fleetChangesRow.holds Tryz.pinned (OpenSpec.ofChange fleetChangesSpec)

/-- ITS FALSE NEIGHBOUR: 'it returns false'. Refute it at one input. -/
def fleetChangesWrong : ChangeSpec := { name := "fleetChanges", fn := fun _ => fun
  | [d1, d2, d3] => { results := [.lit (.bool false)], args := [d1, d2, d3] }
  | _ => none }
def FleetChangesWrongFalsely : Prop := fleetChangesRow.holds Tryz.pinned (OpenSpec.ofChange fleetChangesWrong)

/-- 'bogielaw10.FleetMeans': WHATEVER THE INPUT: true; the input reads as it did. -/
def fleetMeansSpec : ChangeSpec := { name := "fleetMeans", fn := fun _ => fun
  | [d1, d2, d3] => { results := [.lit (.bool true)], args := [d1, d2, d3] }
  | _ => none }
def fleetMeansRow : OpenClaim := { program := "ytpikcofbhkbifaagreat", sum := "90f2bbe54a09244a44e04aeed77e08ebe015b17c8a636b38010083b2c4d8d0bc", func := "bogie/bogielaw10.FleetMeans", spec := "fleetMeans", inPlace := ["internal/bytealg.IndexByteString", "slices.overlaps[bogie/api.Part]", "slices.overlaps[bogie/api.Prop]"], unfollowed := true, recurses := true, plainKeys := false, apart := false }
def FleetMeansSaid : Prop := fleetMeansRow.holds Tryz.pinned (OpenSpec.ofChange fleetMeansSpec)

/-- ITS FALSE NEIGHBOUR: 'it returns false'. Refute it at one input. -/
def fleetMeansWrong : ChangeSpec := { name := "fleetMeans", fn := fun _ => fun
  | [d1, d2, d3] => { results := [.lit (.bool false)], args := [d1, d2, d3] }
  | _ => none }
def FleetMeansWrongFalsely : Prop := fleetMeansRow.holds Tryz.pinned (OpenSpec.ofChange fleetMeansWrong)

/-- 'bogielaw10.FleetBack': WHATEVER THE INPUT: true; the input reads as it did. -/
def fleetBackSpec : ChangeSpec := { name := "fleetBack", fn := fun _ => fun
  | [d1, d2, d3, d4, d5] => { results := [.lit (.bool true)], args := [d1, d2, d3, d4, d5] }
  | _ => none }
def fleetBackRow : OpenClaim := { program := "ytpikcofbhkbifaagreat", sum := "90f2bbe54a09244a44e04aeed77e08ebe015b17c8a636b38010083b2c4d8d0bc", func := "bogie/bogielaw10.FleetBack", spec := "fleetBack", inPlace := ["internal/bytealg.IndexByteString", "slices.overlaps[bogie/api.Part]", "slices.overlaps[bogie/api.Prop]"], unfollowed := true, recurses := true, plainKeys := false, apart := false }
def FleetBackSaid : Prop := fleetBackRow.holds Tryz.pinned (OpenSpec.ofChange fleetBackSpec)

/-- ITS FALSE NEIGHBOUR: 'it returns false'. Refute it at one input. -/
def fleetBackWrong : ChangeSpec := { name := "fleetBack", fn := fun _ => fun
  | [d1, d2, d3, d4, d5] => { results := [.lit (.bool false)], args := [d1, d2, d3, d4, d5] }
  | _ => none }
def FleetBackWrongFalsely : Prop := fleetBackRow.holds Tryz.pinned (OpenSpec.ofChange fleetBackWrong)

/-- 'bogielaw10.FleetCommutes': WHATEVER THE INPUT: true; the input reads as it did. -/
def fleetCommutesSpec : ChangeSpec := { name := "fleetCommutes", fn := fun _ => fun
  | [d1, d2, d3, d4] => { results := [.lit (.bool true)], args := [d1, d2, d3, d4] }
  | _ => none }
def fleetCommutesRow : OpenClaim := { program := "ytpikcofbhkbifaagreat", sum := "90f2bbe54a09244a44e04aeed77e08ebe015b17c8a636b38010083b2c4d8d0bc", func := "bogie/bogielaw10.FleetCommutes", spec := "fleetCommutes", inPlace := ["internal/bytealg.IndexByteString", "slices.overlaps[bogie/api.Part]", "slices.overlaps[bogie/api.Prop]"], unfollowed := true, recurses := true, plainKeys := false, apart := false }
def FleetCommutesSaid : Prop := fleetCommutesRow.holds Tryz.pinned (OpenSpec.ofChange fleetCommutesSpec)

/-- ITS FALSE NEIGHBOUR: 'it returns false'. Refute it at one input. -/
def fleetCommutesWrong : ChangeSpec := { name := "fleetCommutes", fn := fun _ => fun
  | [d1, d2, d3, d4] => { results := [.lit (.bool false)], args := [d1, d2, d3, d4] }
  | _ => none }
def FleetCommutesWrongFalsely : Prop := fleetCommutesRow.holds Tryz.pinned (OpenSpec.ofChange fleetCommutesWrong)

/- THE SECOND FORM. 'bulk': how many values and letters a reading holds, each counted each time it is reached (what is shared counts as often as it is met; a slice's spare places count too). A statement '..UptoSaid' is the law's where the arguments, and the package variables that the reading takes, are together of bulk at most 1048576: NARROWER than '..Said'. Prove '..Said' where nothing that the law and all that it calls make is longer than what came in: it says more and counts as full. Else prove '..UptoSaid'. A law counts once. -/
mutual
def uptoBulk {H : Type} : DataW H → Nat
  | .lit (.string bytes) => bytes.length + 1
  | .lit _ => 1
  | .nil => 1
  | .ptr d => uptoBulk d + 1
  | .slice elems spare => uptoBulkAll elems + uptoBulkAll spare + 1
  | .agg parts => uptoBulkAll parts + 1
  | .iface _ d => uptoBulk d + 1
  | .map entries => uptoBulkEntries entries + 1
  | .held _ => 1
def uptoBulkAll {H : Type} : List (DataW H) → Nat
  | [] => 0
  | d :: r => uptoBulk d + uptoBulkAll r
def uptoBulkEntries {H : Type} : List (Lit × DataW H) → Nat
  | [] => 0
  | x :: r => uptoBulkEntry x + uptoBulkEntries r
def uptoBulkEntry {H : Type} : Lit × DataW H → Nat
  | (.string bytes, d) => bytes.length + uptoBulk d + 1
  | (_, d) => uptoBulk d + 1
 end
def uptoSmall : (H : Type) → List (DataW H) → Bool := fun _ ds => decide (uptoBulkAll ds ≤ 1048576)
def OpenSpec.upto (s : _root_.Go.ChangeSpec) : _root_.Go.OpenSpec := { _root_.Go.OpenSpec.ofChange s with cond := some uptoSmall }

/-- 'bogielaw10.FleetMatchesReference', WHERE WHAT IT READS IS OF BULK AT MOST 1048576: true; the input reads as it did. -/
def fleetMatchesReferenceUptoRow : OpenClaim := { program := "ytpikcofbhkbifaagreat", sum := "90f2bbe54a09244a44e04aeed77e08ebe015b17c8a636b38010083b2c4d8d0bc", func := "bogie/bogielaw10.FleetMatchesReference", spec := "fleetMatchesReference", inPlace := ["internal/bytealg.IndexByteString", "slices.overlaps[bogie/api.Part]", "slices.overlaps[bogie/api.Prop]"], unfollowed := true, recurses := true, plainKeys := false, apart := false, narrowed := true }
def FleetMatchesReferenceUptoSaid : Prop := fleetMatchesReferenceUptoRow.holds Tryz.pinned (OpenSpec.upto fleetMatchesReferenceSpec)

/-- 'bogielaw10.FleetChanges', WHERE WHAT IT READS IS OF BULK AT MOST 1048576: true; the input reads as it did. -/
def fleetChangesUptoRow : OpenClaim := { program := "ytpikcofbhkbifaagreat", sum := "90f2bbe54a09244a44e04aeed77e08ebe015b17c8a636b38010083b2c4d8d0bc", func := "bogie/bogielaw10.FleetChanges", spec := "fleetChanges", inPlace := ["internal/bytealg.IndexByteString", "slices.overlaps[bogie/api.Part]", "slices.overlaps[bogie/api.Prop]"], unfollowed := true, recurses := true, plainKeys := false, apart := false, narrowed := true }
def FleetChangesUptoSaid : Prop := fleetChangesUptoRow.holds Tryz.pinned (OpenSpec.upto fleetChangesSpec)

/-- 'bogielaw10.FleetMeans', WHERE WHAT IT READS IS OF BULK AT MOST 1048576: true; the input reads as it did. -/
def fleetMeansUptoRow : OpenClaim := { program := "ytpikcofbhkbifaagreat", sum := "90f2bbe54a09244a44e04aeed77e08ebe015b17c8a636b38010083b2c4d8d0bc", func := "bogie/bogielaw10.FleetMeans", spec := "fleetMeans", inPlace := ["internal/bytealg.IndexByteString", "slices.overlaps[bogie/api.Part]", "slices.overlaps[bogie/api.Prop]"], unfollowed := true, recurses := true, plainKeys := false, apart := false, narrowed := true }
def FleetMeansUptoSaid : Prop := fleetMeansUptoRow.holds Tryz.pinned (OpenSpec.upto fleetMeansSpec)

/-- 'bogielaw10.FleetBack', WHERE WHAT IT READS IS OF BULK AT MOST 1048576: true; the input reads as it did. -/
def fleetBackUptoRow : OpenClaim := { program := "ytpikcofbhkbifaagreat", sum := "90f2bbe54a09244a44e04aeed77e08ebe015b17c8a636b38010083b2c4d8d0bc", func := "bogie/bogielaw10.FleetBack", spec := "fleetBack", inPlace := ["internal/bytealg.IndexByteString", "slices.overlaps[bogie/api.Part]", "slices.overlaps[bogie/api.Prop]"], unfollowed := true, recurses := true, plainKeys := false, apart := false, narrowed := true }
def FleetBackUptoSaid : Prop := fleetBackUptoRow.holds Tryz.pinned (OpenSpec.upto fleetBackSpec)

/-- 'bogielaw10.FleetCommutes', WHERE WHAT IT READS IS OF BULK AT MOST 1048576: true; the input reads as it did. -/
def fleetCommutesUptoRow : OpenClaim := { program := "ytpikcofbhkbifaagreat", sum := "90f2bbe54a09244a44e04aeed77e08ebe015b17c8a636b38010083b2c4d8d0bc", func := "bogie/bogielaw10.FleetCommutes", spec := "fleetCommutes", inPlace := ["internal/bytealg.IndexByteString", "slices.overlaps[bogie/api.Part]", "slices.overlaps[bogie/api.Prop]"], unfollowed := true, recurses := true, plainKeys := false, apart := false, narrowed := true }
def FleetCommutesUptoSaid : Prop := fleetCommutesUptoRow.holds Tryz.pinned (OpenSpec.upto fleetCommutesSpec)

end Rows
end Go.Proofs.YtpikcofbhkbifaaGreat
