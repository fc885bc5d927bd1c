/-
  DERIVED. GIVEN WITH THE SEED: THE CARDS: each row of YtmgjopafgboljaaGreatDoorRows.lean that lists a variable, with what it lists TIED to the program's text (the seventh form; the later family's looks); each row that meets fmt, with fmt's text TOLD by the authors' own Lean function (tested against real Go, not proved from fmt's source: count such statements apart). THE CARD IS WHAT COUNTS. Prove the row's statement (the work); the ties are given (YtmgjopafgboljaaGreatDoorTie.lean); close each card by the builder's one call (the guide's Derived/Test/ToyasCard.lean, 'card_holds'). Laid BY PROGRAM, IN A SANDBOX (cutbox-door.mjs). By AI agents, Wed Nov 11 2026. No macro, syntax, notation, axiom, sorry.
-/
import Derived.Test.YtmgjopafgboljaaGreatDoorRows
import GoSem.ClaimSeven
namespace Go.Proofs.YtmgjopafgboljaaGreatDoor
namespace Rows

/-- THE TIED CARD OF 'grammarlablaw39.MrsChecks'. -/
def mrsChecksCard : Claim7 := { stood := { row := mrsChecksRow, standIns := [], harness := (true, "e8a0bc44aa67d20ce000a728a82ae79d63d9d026184cd064cd2a14739ae0549f"), looks := true }, kinds := [], alts := [], laidByText := true, laidKinds := [.data, .data, .data, .data, .sentinel, .sentinel, .pinned], laidTests := true, laidLooks := .later }
def MrsChecksCardSaid : Prop := Claim7.holds Tryz.pinned (.plain (OpenSpec.ofChange mrsChecksSpec)) mrsChecksCard

/-- THE TIED CARD OF 'grammarlablaw39.MrsNumbers'. -/
def mrsNumbersCard : Claim7 := { stood := { row := mrsNumbersRow, standIns := [], harness := (true, "e8a0bc44aa67d20ce000a728a82ae79d63d9d026184cd064cd2a14739ae0549f"), looks := true }, kinds := [], alts := [], laidByText := true, laidKinds := [.data, .data, .data, .data, .sentinel, .sentinel, .pinned], laidTests := true, laidLooks := .later }
def MrsNumbersCardSaid : Prop := Claim7.holds Tryz.pinned (.plain (OpenSpec.ofChange mrsNumbersSpec)) mrsNumbersCard

/-- THE TIED CARD OF 'grammarlablaw39.MrsMatches'. -/
def mrsMatchesCard : Claim7 := { stood := { row := mrsMatchesRow, standIns := [], harness := (true, "e8a0bc44aa67d20ce000a728a82ae79d63d9d026184cd064cd2a14739ae0549f"), looks := true }, kinds := [], alts := [], laidByText := true, laidKinds := [.data, .data, .data, .data, .sentinel, .sentinel, .pinned], laidTests := true, laidLooks := .later }
def MrsMatchesCardSaid : Prop := Claim7.holds Tryz.pinned (.plain (OpenSpec.ofChange mrsMatchesSpec)) mrsMatchesCard

/-- THE TIED CARD OF 'grammarlablaw39.MrsPrints'. -/
def mrsPrintsCard : Claim7 := { stood := { row := mrsPrintsRow, standIns := [], harness := (true, "e8a0bc44aa67d20ce000a728a82ae79d63d9d026184cd064cd2a14739ae0549f"), looks := true }, kinds := [], alts := [], laidByText := true, laidKinds := [.data, .data, .data, .data, .sentinel, .sentinel, .pinned], laidTests := true, laidLooks := .later }
def MrsPrintsCardSaid : Prop := Claim7.holds Tryz.pinned (.plain (OpenSpec.ofChange mrsPrintsSpec)) mrsPrintsCard

/-- THE TIED CARD OF 'grammarlablaw39.MrsParses'. -/
def mrsParsesCard : Claim7 := { stood := { row := mrsParsesRow, standIns := [], harness := (true, "e8a0bc44aa67d20ce000a728a82ae79d63d9d026184cd064cd2a14739ae0549f"), looks := true }, kinds := [], alts := [], laidByText := true, laidKinds := [.data, .data, .data, .data, .sentinel, .sentinel, .pinned], laidTests := true, laidLooks := .later }
def MrsParsesCardSaid : Prop := Claim7.holds Tryz.pinned (.plain (OpenSpec.ofChange mrsParsesSpec)) mrsParsesCard

/-- THE TIED CARD OF 'grammarlablaw39.MrsForms'. -/
def mrsFormsCard : Claim7 := { stood := { row := mrsFormsRow, standIns := [], harness := (true, "e8a0bc44aa67d20ce000a728a82ae79d63d9d026184cd064cd2a14739ae0549f"), looks := true }, kinds := [], alts := [], laidByText := true, laidKinds := [.data, .data, .data, .data, .sentinel, .sentinel, .pinned], laidTests := true, laidLooks := .later }
def MrsFormsCardSaid : Prop := Claim7.holds Tryz.pinned (.plain (OpenSpec.ofChange mrsFormsSpec)) mrsFormsCard

/-- THE TIED CARD OF 'grammarlablaw39.MrsEquivalence'. -/
def mrsEquivalenceCard : Claim7 := { stood := { row := mrsEquivalenceRow, standIns := [], harness := (true, "e8a0bc44aa67d20ce000a728a82ae79d63d9d026184cd064cd2a14739ae0549f"), looks := true }, kinds := [], alts := [], laidByText := true, laidKinds := [.data, .data, .data, .data, .sentinel, .sentinel, .pinned], laidTests := true, laidLooks := .later }
def MrsEquivalenceCardSaid : Prop := Claim7.holds Tryz.pinned (.plain (OpenSpec.ofChange mrsEquivalenceSpec)) mrsEquivalenceCard

/-- THE TIED CARD OF 'grammarlablaw39.MrsOrders'. -/
def mrsOrdersCard : Claim7 := { stood := { row := mrsOrdersRow, standIns := [], harness := (true, "e8a0bc44aa67d20ce000a728a82ae79d63d9d026184cd064cd2a14739ae0549f"), looks := true }, kinds := [], alts := [], laidByText := true, laidKinds := [.data, .data, .data, .data, .sentinel, .sentinel, .pinned], laidTests := true, laidLooks := .later }
def MrsOrdersCardSaid : Prop := Claim7.holds Tryz.pinned (.plain (OpenSpec.ofChange mrsOrdersSpec)) mrsOrdersCard

/-- THE TIED CARD OF 'grammarlablaw39.MrsNumbered'. -/
def mrsNumberedCard : Claim7 := { stood := { row := mrsNumberedRow, standIns := [], harness := (true, "e8a0bc44aa67d20ce000a728a82ae79d63d9d026184cd064cd2a14739ae0549f"), looks := true }, kinds := [], alts := [], laidByText := true, laidKinds := [.data, .data, .data, .data, .sentinel, .sentinel, .pinned], laidTests := true, laidLooks := .later }
def MrsNumberedCardSaid : Prop := Claim7.holds Tryz.pinned (.plain (OpenSpec.ofChange mrsNumberedSpec)) mrsNumberedCard

/-- THE SECOND FORM's CARD OF 'grammarlablaw39.MrsChecks'. -/
def mrsChecksUptoCard : Claim7 := { stood := { row := mrsChecksUptoRow, standIns := [], harness := (true, "e8a0bc44aa67d20ce000a728a82ae79d63d9d026184cd064cd2a14739ae0549f"), looks := true }, kinds := [], alts := [], laidByText := true, laidKinds := [.data, .data, .data, .data, .sentinel, .sentinel, .pinned], laidTests := true, laidLooks := .later }
def MrsChecksUptoCardSaid : Prop := Claim7.holds Tryz.pinned (.plain (OpenSpec.upto mrsChecksSpec)) mrsChecksUptoCard

/-- THE SECOND FORM's CARD OF 'grammarlablaw39.MrsNumbers'. -/
def mrsNumbersUptoCard : Claim7 := { stood := { row := mrsNumbersUptoRow, standIns := [], harness := (true, "e8a0bc44aa67d20ce000a728a82ae79d63d9d026184cd064cd2a14739ae0549f"), looks := true }, kinds := [], alts := [], laidByText := true, laidKinds := [.data, .data, .data, .data, .sentinel, .sentinel, .pinned], laidTests := true, laidLooks := .later }
def MrsNumbersUptoCardSaid : Prop := Claim7.holds Tryz.pinned (.plain (OpenSpec.upto mrsNumbersSpec)) mrsNumbersUptoCard

/-- THE SECOND FORM's CARD OF 'grammarlablaw39.MrsMatches'. -/
def mrsMatchesUptoCard : Claim7 := { stood := { row := mrsMatchesUptoRow, standIns := [], harness := (true, "e8a0bc44aa67d20ce000a728a82ae79d63d9d026184cd064cd2a14739ae0549f"), looks := true }, kinds := [], alts := [], laidByText := true, laidKinds := [.data, .data, .data, .data, .sentinel, .sentinel, .pinned], laidTests := true, laidLooks := .later }
def MrsMatchesUptoCardSaid : Prop := Claim7.holds Tryz.pinned (.plain (OpenSpec.upto mrsMatchesSpec)) mrsMatchesUptoCard

/-- THE SECOND FORM's CARD OF 'grammarlablaw39.MrsPrints'. -/
def mrsPrintsUptoCard : Claim7 := { stood := { row := mrsPrintsUptoRow, standIns := [], harness := (true, "e8a0bc44aa67d20ce000a728a82ae79d63d9d026184cd064cd2a14739ae0549f"), looks := true }, kinds := [], alts := [], laidByText := true, laidKinds := [.data, .data, .data, .data, .sentinel, .sentinel, .pinned], laidTests := true, laidLooks := .later }
def MrsPrintsUptoCardSaid : Prop := Claim7.holds Tryz.pinned (.plain (OpenSpec.upto mrsPrintsSpec)) mrsPrintsUptoCard

/-- THE SECOND FORM's CARD OF 'grammarlablaw39.MrsParses'. -/
def mrsParsesUptoCard : Claim7 := { stood := { row := mrsParsesUptoRow, standIns := [], harness := (true, "e8a0bc44aa67d20ce000a728a82ae79d63d9d026184cd064cd2a14739ae0549f"), looks := true }, kinds := [], alts := [], laidByText := true, laidKinds := [.data, .data, .data, .data, .sentinel, .sentinel, .pinned], laidTests := true, laidLooks := .later }
def MrsParsesUptoCardSaid : Prop := Claim7.holds Tryz.pinned (.plain (OpenSpec.upto mrsParsesSpec)) mrsParsesUptoCard

/-- THE SECOND FORM's CARD OF 'grammarlablaw39.MrsForms'. -/
def mrsFormsUptoCard : Claim7 := { stood := { row := mrsFormsUptoRow, standIns := [], harness := (true, "e8a0bc44aa67d20ce000a728a82ae79d63d9d026184cd064cd2a14739ae0549f"), looks := true }, kinds := [], alts := [], laidByText := true, laidKinds := [.data, .data, .data, .data, .sentinel, .sentinel, .pinned], laidTests := true, laidLooks := .later }
def MrsFormsUptoCardSaid : Prop := Claim7.holds Tryz.pinned (.plain (OpenSpec.upto mrsFormsSpec)) mrsFormsUptoCard

/-- THE SECOND FORM's CARD OF 'grammarlablaw39.MrsEquivalence'. -/
def mrsEquivalenceUptoCard : Claim7 := { stood := { row := mrsEquivalenceUptoRow, standIns := [], harness := (true, "e8a0bc44aa67d20ce000a728a82ae79d63d9d026184cd064cd2a14739ae0549f"), looks := true }, kinds := [], alts := [], laidByText := true, laidKinds := [.data, .data, .data, .data, .sentinel, .sentinel, .pinned], laidTests := true, laidLooks := .later }
def MrsEquivalenceUptoCardSaid : Prop := Claim7.holds Tryz.pinned (.plain (OpenSpec.upto mrsEquivalenceSpec)) mrsEquivalenceUptoCard

/-- THE SECOND FORM's CARD OF 'grammarlablaw39.MrsOrders'. -/
def mrsOrdersUptoCard : Claim7 := { stood := { row := mrsOrdersUptoRow, standIns := [], harness := (true, "e8a0bc44aa67d20ce000a728a82ae79d63d9d026184cd064cd2a14739ae0549f"), looks := true }, kinds := [], alts := [], laidByText := true, laidKinds := [.data, .data, .data, .data, .sentinel, .sentinel, .pinned], laidTests := true, laidLooks := .later }
def MrsOrdersUptoCardSaid : Prop := Claim7.holds Tryz.pinned (.plain (OpenSpec.upto mrsOrdersSpec)) mrsOrdersUptoCard

/-- THE SECOND FORM's CARD OF 'grammarlablaw39.MrsNumbered'. -/
def mrsNumberedUptoCard : Claim7 := { stood := { row := mrsNumberedUptoRow, standIns := [], harness := (true, "e8a0bc44aa67d20ce000a728a82ae79d63d9d026184cd064cd2a14739ae0549f"), looks := true }, kinds := [], alts := [], laidByText := true, laidKinds := [.data, .data, .data, .data, .sentinel, .sentinel, .pinned], laidTests := true, laidLooks := .later }
def MrsNumberedUptoCardSaid : Prop := Claim7.holds Tryz.pinned (.plain (OpenSpec.upto mrsNumberedSpec)) mrsNumberedUptoCard
end Rows
end Go.Proofs.YtmgjopafgboljaaGreatDoor
