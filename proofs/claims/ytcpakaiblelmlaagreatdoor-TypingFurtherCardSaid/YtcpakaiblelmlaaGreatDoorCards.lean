/-
  DERIVED. GIVEN WITH THE SEED: THE CARDS: each row of YtcpakaiblelmlaaGreatDoorRows.lean that lists a variable, with what it lists TIED to the program's text (the seventh form; the later family's looks); each row that meets fmt, with fmt's text TOLD by the authors' own Lean function (tested against real Go, not proved from fmt's source: count such statements apart). THE CARD IS WHAT COUNTS. Prove the row's statement (the work); the ties are given (YtcpakaiblelmlaaGreatDoorTie.lean); close each card by the builder's one call (the guide's Derived/Test/ToyasCard.lean, 'card_holds'). Laid BY PROGRAM, IN A SANDBOX (cutbox-door.mjs). By AI agents, Wed Nov 11 2026. No macro, syntax, notation, axiom, sorry.
-/
import Derived.Test.YtcpakaiblelmlaaGreatDoorRows
import GoSem.ClaimSeven
namespace Go.Proofs.YtcpakaiblelmlaaGreatDoor
namespace Rows

/-- THE TIED CARD OF 'bogielaw21.TypingParts'. -/
def typingPartsCard : Claim7 := { stood := { row := typingPartsRow, standIns := [], harness := (true, "18eed0abf18e12dacce0674418700b15dfac6910b6e0bc8d2caefcea176a4503"), looks := true }, kinds := [], alts := [], laidByText := true, laidKinds := [.data, .data, .data, .sentinel, .sentinel], laidTests := true, laidLooks := .later }
def TypingPartsCardSaid : Prop := Claim7.holds Tryz.pinned (.plain (OpenSpec.ofChange typingPartsSpec)) typingPartsCard

/-- THE TIED CARD OF 'bogielaw21.TypingFurther'. -/
def typingFurtherCard : Claim7 := { stood := { row := typingFurtherRow, standIns := [], harness := (true, "18eed0abf18e12dacce0674418700b15dfac6910b6e0bc8d2caefcea176a4503"), looks := true }, kinds := [], alts := [], laidByText := true, laidKinds := [.data, .data, .data, .sentinel, .sentinel], laidTests := true, laidLooks := .later }
def TypingFurtherCardSaid : Prop := Claim7.holds Tryz.pinned (.plain (OpenSpec.ofChange typingFurtherSpec)) typingFurtherCard

/-- THE TIED CARD OF 'bogielaw21.TypingMatchesReference'. -/
def typingMatchesReferenceCard : Claim7 := { stood := { row := typingMatchesReferenceRow, standIns := [], harness := (true, "18eed0abf18e12dacce0674418700b15dfac6910b6e0bc8d2caefcea176a4503"), looks := true }, kinds := [], alts := [], laidByText := true, laidKinds := [.data, .data, .data, .sentinel, .sentinel], laidTests := true, laidLooks := .later }
def TypingMatchesReferenceCardSaid : Prop := Claim7.holds Tryz.pinned (.plain (OpenSpec.ofChange typingMatchesReferenceSpec)) typingMatchesReferenceCard

/-- THE TIED CARD OF 'bogielaw21.TypingCurrencies'. -/
def typingCurrenciesCard : Claim7 := { stood := { row := typingCurrenciesRow, standIns := [], harness := (true, "18eed0abf18e12dacce0674418700b15dfac6910b6e0bc8d2caefcea176a4503"), looks := true }, kinds := [], alts := [], laidByText := true, laidKinds := [.data, .data, .data, .sentinel, .sentinel], laidTests := true, laidLooks := .later }
def TypingCurrenciesCardSaid : Prop := Claim7.holds Tryz.pinned (.plain (OpenSpec.ofChange typingCurrenciesSpec)) typingCurrenciesCard

/-- THE SECOND FORM's CARD OF 'bogielaw21.TypingParts'. -/
def typingPartsUptoCard : Claim7 := { stood := { row := typingPartsUptoRow, standIns := [], harness := (true, "18eed0abf18e12dacce0674418700b15dfac6910b6e0bc8d2caefcea176a4503"), looks := true }, kinds := [], alts := [], laidByText := true, laidKinds := [.data, .data, .data, .sentinel, .sentinel], laidTests := true, laidLooks := .later }
def TypingPartsUptoCardSaid : Prop := Claim7.holds Tryz.pinned (.plain (OpenSpec.upto typingPartsSpec)) typingPartsUptoCard

/-- THE SECOND FORM's CARD OF 'bogielaw21.TypingFurther'. -/
def typingFurtherUptoCard : Claim7 := { stood := { row := typingFurtherUptoRow, standIns := [], harness := (true, "18eed0abf18e12dacce0674418700b15dfac6910b6e0bc8d2caefcea176a4503"), looks := true }, kinds := [], alts := [], laidByText := true, laidKinds := [.data, .data, .data, .sentinel, .sentinel], laidTests := true, laidLooks := .later }
def TypingFurtherUptoCardSaid : Prop := Claim7.holds Tryz.pinned (.plain (OpenSpec.upto typingFurtherSpec)) typingFurtherUptoCard

/-- THE SECOND FORM's CARD OF 'bogielaw21.TypingMatchesReference'. -/
def typingMatchesReferenceUptoCard : Claim7 := { stood := { row := typingMatchesReferenceUptoRow, standIns := [], harness := (true, "18eed0abf18e12dacce0674418700b15dfac6910b6e0bc8d2caefcea176a4503"), looks := true }, kinds := [], alts := [], laidByText := true, laidKinds := [.data, .data, .data, .sentinel, .sentinel], laidTests := true, laidLooks := .later }
def TypingMatchesReferenceUptoCardSaid : Prop := Claim7.holds Tryz.pinned (.plain (OpenSpec.upto typingMatchesReferenceSpec)) typingMatchesReferenceUptoCard

/-- THE SECOND FORM's CARD OF 'bogielaw21.TypingCurrencies'. -/
def typingCurrenciesUptoCard : Claim7 := { stood := { row := typingCurrenciesUptoRow, standIns := [], harness := (true, "18eed0abf18e12dacce0674418700b15dfac6910b6e0bc8d2caefcea176a4503"), looks := true }, kinds := [], alts := [], laidByText := true, laidKinds := [.data, .data, .data, .sentinel, .sentinel], laidTests := true, laidLooks := .later }
def TypingCurrenciesUptoCardSaid : Prop := Claim7.holds Tryz.pinned (.plain (OpenSpec.upto typingCurrenciesSpec)) typingCurrenciesUptoCard
end Rows
end Go.Proofs.YtcpakaiblelmlaaGreatDoor
