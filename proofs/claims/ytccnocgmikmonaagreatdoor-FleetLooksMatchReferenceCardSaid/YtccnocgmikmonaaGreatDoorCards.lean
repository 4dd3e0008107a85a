/-
  DERIVED. GIVEN WITH THE SEED: THE CARDS: each row of YtccnocgmikmonaaGreatDoorRows.lean that lists a variable, with what it lists TIED to the program's text (the seventh form; the later family's looks); each row that meets fmt, with fmt's text TOLD by the authors' own Lean function (tested against real Go, not proved from fmt's source: count such statements apart). THE CARD IS WHAT COUNTS. Prove the row's statement (the work); the ties are given (YtccnocgmikmonaaGreatDoorTie.lean); close each card by the builder's one call (the guide's Derived/Test/ToyasCard.lean, 'card_holds'). Laid BY PROGRAM, IN A SANDBOX (cutbox-door.mjs). By AI agents, Wed Nov 11 2026. No macro, syntax, notation, axiom, sorry.
-/
import Derived.Test.YtccnocgmikmonaaGreatDoorRows
import GoSem.ClaimSeven
namespace Go.Proofs.YtccnocgmikmonaaGreatDoor
namespace Rows

/-- THE TIED CARD OF 'bogielaw10.FleetLooksMatchReference'. -/
def fleetLooksMatchReferenceCard : Claim7 := { stood := { row := fleetLooksMatchReferenceRow, standIns := [], harness := (true, "4f835b743e9bfeb5e984f3f84bfb92e4cb2ec7490950a1cd8530770365a7fab0"), looks := false }, kinds := [], alts := [], laidByText := true, laidKinds := [.data, .data, .data], laidTests := true, laidLooks := .later }
def FleetLooksMatchReferenceCardSaid : Prop := Claim7.holds Tryz.pinned (.plain (OpenSpec.ofChange fleetLooksMatchReferenceSpec)) fleetLooksMatchReferenceCard

/-- THE TIED CARD OF 'bogielaw10.FleetDigests'. -/
def fleetDigestsCard : Claim7 := { stood := { row := fleetDigestsRow, standIns := [], harness := (true, "4f835b743e9bfeb5e984f3f84bfb92e4cb2ec7490950a1cd8530770365a7fab0"), looks := false }, kinds := [], alts := [], laidByText := true, laidKinds := [.data, .data, .data, .data, .pinned], laidTests := true, laidLooks := .later }
def FleetDigestsCardSaid : Prop := Claim7.holds Tryz.pinned (.plain (OpenSpec.ofChange fleetDigestsSpec)) fleetDigestsCard

/-- THE SECOND FORM's CARD OF 'bogielaw10.FleetLooksMatchReference'. -/
def fleetLooksMatchReferenceUptoCard : Claim7 := { stood := { row := fleetLooksMatchReferenceUptoRow, standIns := [], harness := (true, "4f835b743e9bfeb5e984f3f84bfb92e4cb2ec7490950a1cd8530770365a7fab0"), looks := false }, kinds := [], alts := [], laidByText := true, laidKinds := [.data, .data, .data], laidTests := true, laidLooks := .later }
def FleetLooksMatchReferenceUptoCardSaid : Prop := Claim7.holds Tryz.pinned (.plain (OpenSpec.upto fleetLooksMatchReferenceSpec)) fleetLooksMatchReferenceUptoCard

/-- THE SECOND FORM's CARD OF 'bogielaw10.FleetDigests'. -/
def fleetDigestsUptoCard : Claim7 := { stood := { row := fleetDigestsUptoRow, standIns := [], harness := (true, "4f835b743e9bfeb5e984f3f84bfb92e4cb2ec7490950a1cd8530770365a7fab0"), looks := false }, kinds := [], alts := [], laidByText := true, laidKinds := [.data, .data, .data, .data, .pinned], laidTests := true, laidLooks := .later }
def FleetDigestsUptoCardSaid : Prop := Claim7.holds Tryz.pinned (.plain (OpenSpec.upto fleetDigestsSpec)) fleetDigestsUptoCard
end Rows
end Go.Proofs.YtccnocgmikmonaaGreatDoor
