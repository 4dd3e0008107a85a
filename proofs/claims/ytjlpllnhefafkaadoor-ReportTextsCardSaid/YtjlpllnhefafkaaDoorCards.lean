/-
  DERIVED. GIVEN WITH THE SEED: THE CARDS: each row of YtjlpllnhefafkaaDoorRows.lean that lists a variable, with what it lists TIED to the program's text (the seventh form; the later family's looks); each row that meets fmt, with fmt's text TOLD by the authors' own Lean function (tested against real Go, not proved from fmt's source: count such statements apart). THE CARD IS WHAT COUNTS. Prove the row's statement (the work); the ties are given (YtjlpllnhefafkaaDoorTie.lean); close each card by the builder's one call (the guide's Derived/Test/ToyasCard.lean, 'card_holds'). Laid BY PROGRAM, IN A SANDBOX (cutbox-door.mjs). By AI agents, Wed Nov 11 2026. No macro, syntax, notation, axiom, sorry.
-/
import Derived.Test.YtjlpllnhefafkaaDoorRows
import GoSem.ClaimSeven
namespace Go.Proofs.YtjlpllnhefafkaaDoor
namespace Rows

/-- THE TIED CARD OF 'bogielaw09.EventDays'. -/
def eventDaysCard : Claim7 := { stood := { row := eventDaysRow, standIns := [], harness := (true, "c42fe703580b81cb924d94ba6a00a3a3f3c338e0c2c4c507d94bf4894847e77a"), looks := true }, kinds := [], alts := [], laidByText := true, laidKinds := [.data, .data, .data, .sentinel, .sentinel], laidTests := true, laidLooks := .later }
def EventDaysCardSaid : Prop := Claim7.holds Tryd.pinned (.plain (OpenSpec.ofChange eventDaysSpec)) eventDaysCard

/-- THE TIED CARD OF 'bogielaw13.ReportTexts'. -/
def reportTextsCard : Claim7 := { stood := { row := reportTextsRow, standIns := [], harness := (true, "c42fe703580b81cb924d94ba6a00a3a3f3c338e0c2c4c507d94bf4894847e77a"), looks := true }, kinds := [], alts := [], laidByText := true, laidKinds := [.data, .data, .data, .data, .sentinel, .sentinel, .pinned], laidTests := true, laidLooks := .later }
def ReportTextsCardSaid : Prop := Claim7.holds Tryd.pinned (.plain (OpenSpec.ofChange reportTextsSpec)) reportTextsCard

/-- THE SECOND FORM's CARD OF 'bogielaw09.EventDays'. -/
def eventDaysUptoCard : Claim7 := { stood := { row := eventDaysUptoRow, standIns := [], harness := (true, "c42fe703580b81cb924d94ba6a00a3a3f3c338e0c2c4c507d94bf4894847e77a"), looks := true }, kinds := [], alts := [], laidByText := true, laidKinds := [.data, .data, .data, .sentinel, .sentinel], laidTests := true, laidLooks := .later }
def EventDaysUptoCardSaid : Prop := Claim7.holds Tryd.pinned (.plain (OpenSpec.upto eventDaysSpec)) eventDaysUptoCard

/-- THE SECOND FORM's CARD OF 'bogielaw13.ReportTexts'. -/
def reportTextsUptoCard : Claim7 := { stood := { row := reportTextsUptoRow, standIns := [], harness := (true, "c42fe703580b81cb924d94ba6a00a3a3f3c338e0c2c4c507d94bf4894847e77a"), looks := true }, kinds := [], alts := [], laidByText := true, laidKinds := [.data, .data, .data, .data, .sentinel, .sentinel, .pinned], laidTests := true, laidLooks := .later }
def ReportTextsUptoCardSaid : Prop := Claim7.holds Tryd.pinned (.plain (OpenSpec.upto reportTextsSpec)) reportTextsUptoCard
end Rows
end Go.Proofs.YtjlpllnhefafkaaDoor
