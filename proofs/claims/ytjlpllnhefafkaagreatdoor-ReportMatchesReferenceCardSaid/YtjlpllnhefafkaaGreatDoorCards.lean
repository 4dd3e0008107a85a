/-
  DERIVED. GIVEN WITH THE SEED: THE CARDS: each row of YtjlpllnhefafkaaGreatDoorRows.lean that lists a variable, with what it lists TIED to the program's text (the seventh form; the later family's looks); each row that meets fmt, with fmt's text TOLD by the authors' own Lean function (tested against real Go, not proved from fmt's source: count such statements apart). THE CARD IS WHAT COUNTS. Prove the row's statement (the work); the ties are given (YtjlpllnhefafkaaGreatDoorTie.lean); close each card by the builder's one call (the guide's Derived/Test/ToyasCard.lean, 'card_holds'). Laid BY PROGRAM, IN A SANDBOX (cutbox-door.mjs). By AI agents, Wed Nov 11 2026. No macro, syntax, notation, axiom, sorry.
-/
import Derived.Test.YtjlpllnhefafkaaGreatDoorRows
import GoSem.ClaimSeven
namespace Go.Proofs.YtjlpllnhefafkaaGreatDoor
namespace Rows

/-- THE TIED CARD OF 'bogielaw13.ReportMatchesReference'. -/
def reportMatchesReferenceCard : Claim7 := { stood := { row := reportMatchesReferenceRow, standIns := [], harness := (true, "28742799b4e1b97713cdc6d10420874ee328f1cdf8b8a129b3b679d5f13415d4"), looks := true }, kinds := [], alts := [], laidByText := true, laidKinds := [.data, .data, .data, .data, .sentinel, .sentinel, .pinned], laidTests := true, laidLooks := .later }
def ReportMatchesReferenceCardSaid : Prop := Claim7.holds Tryz.pinned (.plain (OpenSpec.ofChange reportMatchesReferenceSpec)) reportMatchesReferenceCard

/-- THE SECOND FORM's CARD OF 'bogielaw13.ReportMatchesReference'. -/
def reportMatchesReferenceUptoCard : Claim7 := { stood := { row := reportMatchesReferenceUptoRow, standIns := [], harness := (true, "28742799b4e1b97713cdc6d10420874ee328f1cdf8b8a129b3b679d5f13415d4"), looks := true }, kinds := [], alts := [], laidByText := true, laidKinds := [.data, .data, .data, .data, .sentinel, .sentinel, .pinned], laidTests := true, laidLooks := .later }
def ReportMatchesReferenceUptoCardSaid : Prop := Claim7.holds Tryz.pinned (.plain (OpenSpec.upto reportMatchesReferenceSpec)) reportMatchesReferenceUptoCard
end Rows
end Go.Proofs.YtjlpllnhefafkaaGreatDoor
