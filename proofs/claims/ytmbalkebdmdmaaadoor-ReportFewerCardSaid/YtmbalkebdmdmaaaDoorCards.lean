/-
  DERIVED. GIVEN WITH THE SEED: THE CARDS: each row of YtmbalkebdmdmaaaDoorRows.lean that lists a variable, with what it lists TIED to the program's text (the seventh form; the later family's looks); each row that meets fmt, with fmt's text TOLD by the authors' own Lean function (tested against real Go, not proved from fmt's source: count such statements apart). THE CARD IS WHAT COUNTS. Prove the row's statement (the work); the ties are given (YtmbalkebdmdmaaaDoorTie.lean); close each card by the builder's one call (the guide's Derived/Test/ToyasCard.lean, 'card_holds'). Laid BY PROGRAM, IN A SANDBOX (cutbox-door.mjs). By AI agents, Wed Nov 11 2026. No macro, syntax, notation, axiom, sorry.
-/
import Derived.Test.YtmbalkebdmdmaaaDoorRows
import GoSem.ClaimSeven
namespace Go.Proofs.YtmbalkebdmdmaaaDoor
namespace Rows

/-- THE TIED CARD OF 'bogielaw13.ReportPicks'. -/
def reportPicksCard : Claim7 := { stood := { row := reportPicksRow, standIns := [], harness := (true, "4caaf7d07309a79308d8ea468c7c72904acc4dbbd0351e7db2e06a3c745762aa"), looks := true }, kinds := [], alts := [], laidByText := true, laidKinds := [.data, .data, .data], laidTests := true, laidLooks := .later }
def ReportPicksCardSaid : Prop := Claim7.holds Tryd.pinned (.plain (OpenSpec.ofChange reportPicksSpec)) reportPicksCard

/-- THE TIED CARD OF 'bogielaw13.ReportJoins'. -/
def reportJoinsCard : Claim7 := { stood := { row := reportJoinsRow, standIns := [], harness := (true, "4caaf7d07309a79308d8ea468c7c72904acc4dbbd0351e7db2e06a3c745762aa"), looks := true }, kinds := [], alts := [], laidByText := true, laidKinds := [.data, .data, .data], laidTests := true, laidLooks := .later }
def ReportJoinsCardSaid : Prop := Claim7.holds Tryd.pinned (.plain (OpenSpec.ofChange reportJoinsSpec)) reportJoinsCard

/-- THE TIED CARD OF 'bogielaw09.EventDays'. -/
def eventDaysCard : Claim7 := { stood := { row := eventDaysRow, standIns := [], harness := (true, "4caaf7d07309a79308d8ea468c7c72904acc4dbbd0351e7db2e06a3c745762aa"), looks := true }, kinds := [], alts := [], laidByText := true, laidKinds := [.data, .data, .data, .sentinel, .sentinel], laidTests := true, laidLooks := .later }
def EventDaysCardSaid : Prop := Claim7.holds Tryd.pinned (.plain (OpenSpec.ofChange eventDaysSpec)) eventDaysCard

/-- THE TIED CARD OF 'bogielaw13.ReportNames'. -/
def reportNamesCard : Claim7 := { stood := { row := reportNamesRow, standIns := [], harness := (true, "4caaf7d07309a79308d8ea468c7c72904acc4dbbd0351e7db2e06a3c745762aa"), looks := true }, kinds := [], alts := [], laidByText := true, laidKinds := [.data, .data, .data], laidTests := true, laidLooks := .later }
def ReportNamesCardSaid : Prop := Claim7.holds Tryd.pinned (.plain (OpenSpec.ofChange reportNamesSpec)) reportNamesCard

/-- THE TIED CARD OF 'bogielaw13.ReportFewer'. -/
def reportFewerCard : Claim7 := { stood := { row := reportFewerRow, standIns := [], harness := (true, "4caaf7d07309a79308d8ea468c7c72904acc4dbbd0351e7db2e06a3c745762aa"), looks := true }, kinds := [], alts := [], laidByText := true, laidKinds := [.data, .data, .data], laidTests := true, laidLooks := .later }
def ReportFewerCardSaid : Prop := Claim7.holds Tryd.pinned (.plain (OpenSpec.ofChange reportFewerSpec)) reportFewerCard

/-- THE TIED CARD OF 'bogielaw13.ReportTexts'. -/
def reportTextsCard : Claim7 := { stood := { row := reportTextsRow, standIns := [], harness := (true, "4caaf7d07309a79308d8ea468c7c72904acc4dbbd0351e7db2e06a3c745762aa"), looks := true }, kinds := [], alts := [], laidByText := true, laidKinds := [.data, .data, .data, .data, .sentinel, .sentinel, .pinned], laidTests := true, laidLooks := .later }
def ReportTextsCardSaid : Prop := Claim7.holds Tryd.pinned (.plain (OpenSpec.ofChange reportTextsSpec)) reportTextsCard

/-- THE SECOND FORM's CARD OF 'bogielaw13.ReportPicks'. -/
def reportPicksUptoCard : Claim7 := { stood := { row := reportPicksUptoRow, standIns := [], harness := (true, "4caaf7d07309a79308d8ea468c7c72904acc4dbbd0351e7db2e06a3c745762aa"), looks := true }, kinds := [], alts := [], laidByText := true, laidKinds := [.data, .data, .data], laidTests := true, laidLooks := .later }
def ReportPicksUptoCardSaid : Prop := Claim7.holds Tryd.pinned (.plain (OpenSpec.upto reportPicksSpec)) reportPicksUptoCard

/-- THE SECOND FORM's CARD OF 'bogielaw13.ReportJoins'. -/
def reportJoinsUptoCard : Claim7 := { stood := { row := reportJoinsUptoRow, standIns := [], harness := (true, "4caaf7d07309a79308d8ea468c7c72904acc4dbbd0351e7db2e06a3c745762aa"), looks := true }, kinds := [], alts := [], laidByText := true, laidKinds := [.data, .data, .data], laidTests := true, laidLooks := .later }
def ReportJoinsUptoCardSaid : Prop := Claim7.holds Tryd.pinned (.plain (OpenSpec.upto reportJoinsSpec)) reportJoinsUptoCard

/-- THE SECOND FORM's CARD OF 'bogielaw09.EventDays'. -/
def eventDaysUptoCard : Claim7 := { stood := { row := eventDaysUptoRow, standIns := [], harness := (true, "4caaf7d07309a79308d8ea468c7c72904acc4dbbd0351e7db2e06a3c745762aa"), looks := true }, kinds := [], alts := [], laidByText := true, laidKinds := [.data, .data, .data, .sentinel, .sentinel], laidTests := true, laidLooks := .later }
def EventDaysUptoCardSaid : Prop := Claim7.holds Tryd.pinned (.plain (OpenSpec.upto eventDaysSpec)) eventDaysUptoCard

/-- THE SECOND FORM's CARD OF 'bogielaw13.ReportNames'. -/
def reportNamesUptoCard : Claim7 := { stood := { row := reportNamesUptoRow, standIns := [], harness := (true, "4caaf7d07309a79308d8ea468c7c72904acc4dbbd0351e7db2e06a3c745762aa"), looks := true }, kinds := [], alts := [], laidByText := true, laidKinds := [.data, .data, .data], laidTests := true, laidLooks := .later }
def ReportNamesUptoCardSaid : Prop := Claim7.holds Tryd.pinned (.plain (OpenSpec.upto reportNamesSpec)) reportNamesUptoCard

/-- THE SECOND FORM's CARD OF 'bogielaw13.ReportFewer'. -/
def reportFewerUptoCard : Claim7 := { stood := { row := reportFewerUptoRow, standIns := [], harness := (true, "4caaf7d07309a79308d8ea468c7c72904acc4dbbd0351e7db2e06a3c745762aa"), looks := true }, kinds := [], alts := [], laidByText := true, laidKinds := [.data, .data, .data], laidTests := true, laidLooks := .later }
def ReportFewerUptoCardSaid : Prop := Claim7.holds Tryd.pinned (.plain (OpenSpec.upto reportFewerSpec)) reportFewerUptoCard

/-- THE SECOND FORM's CARD OF 'bogielaw13.ReportTexts'. -/
def reportTextsUptoCard : Claim7 := { stood := { row := reportTextsUptoRow, standIns := [], harness := (true, "4caaf7d07309a79308d8ea468c7c72904acc4dbbd0351e7db2e06a3c745762aa"), looks := true }, kinds := [], alts := [], laidByText := true, laidKinds := [.data, .data, .data, .data, .sentinel, .sentinel, .pinned], laidTests := true, laidLooks := .later }
def ReportTextsUptoCardSaid : Prop := Claim7.holds Tryd.pinned (.plain (OpenSpec.upto reportTextsSpec)) reportTextsUptoCard
end Rows
end Go.Proofs.YtmbalkebdmdmaaaDoor
