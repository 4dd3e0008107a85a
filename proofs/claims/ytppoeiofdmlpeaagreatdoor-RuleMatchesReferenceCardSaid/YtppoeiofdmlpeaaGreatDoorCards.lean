/-
  DERIVED. GIVEN WITH THE SEED: THE CARDS: each row of YtppoeiofdmlpeaaGreatDoorRows.lean that lists a variable, with what it lists TIED to the program's text (the seventh form; the later family's looks); each row that meets fmt, with fmt's text TOLD by the authors' own Lean function (tested against real Go, not proved from fmt's source: count such statements apart). THE CARD IS WHAT COUNTS. Prove the row's statement (the work); the ties are given (YtppoeiofdmlpeaaGreatDoorTie.lean); close each card by the builder's one call (the guide's Derived/Test/ToyasCard.lean, 'card_holds'). Laid BY PROGRAM, IN A SANDBOX (cutbox-door.mjs). By AI agents, Wed Nov 11 2026. No macro, syntax, notation, axiom, sorry.
-/
import Derived.Test.YtppoeiofdmlpeaaGreatDoorRows
import GoSem.ClaimSeven
namespace Go.Proofs.YtppoeiofdmlpeaaGreatDoor
namespace Rows

/-- THE TIED CARD OF 'bogielaw20.RuleMatchesReference'. -/
def ruleMatchesReferenceCard : Claim7 := { stood := { row := ruleMatchesReferenceRow, standIns := [], harness := (true, "73c6d4467bcf89a2198af132251e0c92f39068e8ecc6c1d6503cd7352f79a349"), looks := true }, kinds := [], alts := [], laidByText := true, laidKinds := [.data, .data, .data, .sentinel, .sentinel], laidTests := true, laidLooks := .later }
def RuleMatchesReferenceCardSaid : Prop := Claim7.holds Tryz.pinned (.plain (OpenSpec.ofChange ruleMatchesReferenceSpec)) ruleMatchesReferenceCard

/-- THE TIED CARD OF 'bogielaw20.RuleTexts'. -/
def ruleTextsCard : Claim7 := { stood := { row := ruleTextsRow, standIns := [], harness := (true, "73c6d4467bcf89a2198af132251e0c92f39068e8ecc6c1d6503cd7352f79a349"), looks := true }, kinds := [], alts := [], laidByText := true, laidKinds := [.data, .data, .data, .sentinel, .sentinel], laidTests := true, laidLooks := .later }
def RuleTextsCardSaid : Prop := Claim7.holds Tryz.pinned (.plain (OpenSpec.ofChange ruleTextsSpec)) ruleTextsCard

/-- THE TIED CARD OF 'bogielaw20.RuleParts'. -/
def rulePartsCard : Claim7 := { stood := { row := rulePartsRow, standIns := [], harness := (true, "73c6d4467bcf89a2198af132251e0c92f39068e8ecc6c1d6503cd7352f79a349"), looks := true }, kinds := [], alts := [], laidByText := true, laidKinds := [.data, .data, .data, .sentinel, .sentinel], laidTests := true, laidLooks := .later }
def RulePartsCardSaid : Prop := Claim7.holds Tryz.pinned (.plain (OpenSpec.ofChange rulePartsSpec)) rulePartsCard

/-- THE TIED CARD OF 'bogielaw20.RuleNames'. -/
def ruleNamesCard : Claim7 := { stood := { row := ruleNamesRow, standIns := [], harness := (true, "73c6d4467bcf89a2198af132251e0c92f39068e8ecc6c1d6503cd7352f79a349"), looks := true }, kinds := [], alts := [], laidByText := true, laidKinds := [.data, .data, .data, .sentinel, .sentinel], laidTests := true, laidLooks := .later }
def RuleNamesCardSaid : Prop := Claim7.holds Tryz.pinned (.plain (OpenSpec.ofChange ruleNamesSpec)) ruleNamesCard

/-- THE SECOND FORM's CARD OF 'bogielaw20.RuleMatchesReference'. -/
def ruleMatchesReferenceUptoCard : Claim7 := { stood := { row := ruleMatchesReferenceUptoRow, standIns := [], harness := (true, "73c6d4467bcf89a2198af132251e0c92f39068e8ecc6c1d6503cd7352f79a349"), looks := true }, kinds := [], alts := [], laidByText := true, laidKinds := [.data, .data, .data, .sentinel, .sentinel], laidTests := true, laidLooks := .later }
def RuleMatchesReferenceUptoCardSaid : Prop := Claim7.holds Tryz.pinned (.plain (OpenSpec.upto ruleMatchesReferenceSpec)) ruleMatchesReferenceUptoCard

/-- THE SECOND FORM's CARD OF 'bogielaw20.RuleTexts'. -/
def ruleTextsUptoCard : Claim7 := { stood := { row := ruleTextsUptoRow, standIns := [], harness := (true, "73c6d4467bcf89a2198af132251e0c92f39068e8ecc6c1d6503cd7352f79a349"), looks := true }, kinds := [], alts := [], laidByText := true, laidKinds := [.data, .data, .data, .sentinel, .sentinel], laidTests := true, laidLooks := .later }
def RuleTextsUptoCardSaid : Prop := Claim7.holds Tryz.pinned (.plain (OpenSpec.upto ruleTextsSpec)) ruleTextsUptoCard

/-- THE SECOND FORM's CARD OF 'bogielaw20.RuleParts'. -/
def rulePartsUptoCard : Claim7 := { stood := { row := rulePartsUptoRow, standIns := [], harness := (true, "73c6d4467bcf89a2198af132251e0c92f39068e8ecc6c1d6503cd7352f79a349"), looks := true }, kinds := [], alts := [], laidByText := true, laidKinds := [.data, .data, .data, .sentinel, .sentinel], laidTests := true, laidLooks := .later }
def RulePartsUptoCardSaid : Prop := Claim7.holds Tryz.pinned (.plain (OpenSpec.upto rulePartsSpec)) rulePartsUptoCard

/-- THE SECOND FORM's CARD OF 'bogielaw20.RuleNames'. -/
def ruleNamesUptoCard : Claim7 := { stood := { row := ruleNamesUptoRow, standIns := [], harness := (true, "73c6d4467bcf89a2198af132251e0c92f39068e8ecc6c1d6503cd7352f79a349"), looks := true }, kinds := [], alts := [], laidByText := true, laidKinds := [.data, .data, .data, .sentinel, .sentinel], laidTests := true, laidLooks := .later }
def RuleNamesUptoCardSaid : Prop := Claim7.holds Tryz.pinned (.plain (OpenSpec.upto ruleNamesSpec)) ruleNamesUptoCard
end Rows
end Go.Proofs.YtppoeiofdmlpeaaGreatDoor
