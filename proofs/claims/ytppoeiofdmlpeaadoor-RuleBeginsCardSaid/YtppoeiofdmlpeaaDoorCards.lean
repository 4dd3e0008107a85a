/-
  DERIVED. GIVEN WITH THE SEED: THE CARDS: each row of YtppoeiofdmlpeaaDoorRows.lean that lists a variable, with what it lists TIED to the program's text (the seventh form; the later family's looks); each row that meets fmt, with fmt's text TOLD by the authors' own Lean function (tested against real Go, not proved from fmt's source: count such statements apart). THE CARD IS WHAT COUNTS. Prove the row's statement (the work); the ties are given (YtppoeiofdmlpeaaDoorTie.lean); close each card by the builder's one call (the guide's Derived/Test/ToyasCard.lean, 'card_holds'). Laid BY PROGRAM, IN A SANDBOX (cutbox-door.mjs). By AI agents, Wed Nov 11 2026. No macro, syntax, notation, axiom, sorry.
-/
import Derived.Test.YtppoeiofdmlpeaaDoorRows
import GoSem.ClaimSeven
namespace Go.Proofs.YtppoeiofdmlpeaaDoor
namespace Rows

/-- THE TIED CARD OF 'bogielaw20.RuleGaps'. -/
def ruleGapsCard : Claim7 := { stood := { row := ruleGapsRow, standIns := [], harness := (true, "d3afba320092eaa4e1bf27f37f34cd7304c845f61223fd16673a7732e7de8cb8"), looks := true }, kinds := [], alts := [], laidByText := true, laidKinds := [.data, .data, .data, .sentinel, .sentinel], laidTests := true, laidLooks := .later }
def RuleGapsCardSaid : Prop := Claim7.holds Tryd.pinned (.plain (OpenSpec.ofChange ruleGapsSpec)) ruleGapsCard

/-- THE TIED CARD OF 'bogielaw20.RuleBegins'. -/
def ruleBeginsCard : Claim7 := { stood := { row := ruleBeginsRow, standIns := [], harness := (true, "d3afba320092eaa4e1bf27f37f34cd7304c845f61223fd16673a7732e7de8cb8"), looks := true }, kinds := [], alts := [], laidByText := true, laidKinds := [.data, .data, .data, .sentinel, .sentinel], laidTests := true, laidLooks := .later }
def RuleBeginsCardSaid : Prop := Claim7.holds Tryd.pinned (.plain (OpenSpec.ofChange ruleBeginsSpec)) ruleBeginsCard

/-- THE SECOND FORM's CARD OF 'bogielaw20.RuleGaps'. -/
def ruleGapsUptoCard : Claim7 := { stood := { row := ruleGapsUptoRow, standIns := [], harness := (true, "d3afba320092eaa4e1bf27f37f34cd7304c845f61223fd16673a7732e7de8cb8"), looks := true }, kinds := [], alts := [], laidByText := true, laidKinds := [.data, .data, .data, .sentinel, .sentinel], laidTests := true, laidLooks := .later }
def RuleGapsUptoCardSaid : Prop := Claim7.holds Tryd.pinned (.plain (OpenSpec.upto ruleGapsSpec)) ruleGapsUptoCard

/-- THE SECOND FORM's CARD OF 'bogielaw20.RuleBegins'. -/
def ruleBeginsUptoCard : Claim7 := { stood := { row := ruleBeginsUptoRow, standIns := [], harness := (true, "d3afba320092eaa4e1bf27f37f34cd7304c845f61223fd16673a7732e7de8cb8"), looks := true }, kinds := [], alts := [], laidByText := true, laidKinds := [.data, .data, .data, .sentinel, .sentinel], laidTests := true, laidLooks := .later }
def RuleBeginsUptoCardSaid : Prop := Claim7.holds Tryd.pinned (.plain (OpenSpec.upto ruleBeginsSpec)) ruleBeginsUptoCard
end Rows
end Go.Proofs.YtppoeiofdmlpeaaDoor
