/-
  DERIVED. GIVEN WITH THE SEED: THE CARDS: each row of YtbabdjhikamkoaaDoorRows.lean that lists a variable, with what it lists TIED to the program's text (the seventh form; the later family's looks); each row that meets fmt, with fmt's text TOLD by the authors' own Lean function (tested against real Go, not proved from fmt's source: count such statements apart). THE CARD IS WHAT COUNTS. Prove the row's statement (the work); the ties are given (YtbabdjhikamkoaaDoorTie.lean); close each card by the builder's one call (the guide's Derived/Test/ToyasCard.lean, 'card_holds'). Laid BY PROGRAM, IN A SANDBOX (cutbox-door.mjs). By AI agents, Wed Nov 11 2026. No macro, syntax, notation, axiom, sorry.
-/
import Derived.Test.YtbabdjhikamkoaaDoorRows
import GoSem.ClaimSeven
namespace Go.Proofs.YtbabdjhikamkoaaDoor
namespace Rows

/-- THE TIED CARD OF 'grammarlablaw01.TextNames'. -/
def textNamesCard : Claim7 := { stood := { row := textNamesRow, standIns := [], harness := (true, "9f683852724bc9a4e0a0f0a857676e47687753ff64819a2de6e23dcb7c509861"), looks := true }, kinds := [], alts := [], laidByText := true, laidKinds := [.data, .data, .data, .data, .sentinel, .sentinel, .pinned], laidTests := true, laidLooks := .later }
def TextNamesCardSaid : Prop := Claim7.holds Tryd.pinned (.plain (OpenSpec.ofChange textNamesSpec)) textNamesCard

/-- THE TIED CARD OF 'grammarlablaw01.TextNumbers'. -/
def textNumbersCard : Claim7 := { stood := { row := textNumbersRow, standIns := [], harness := (true, "9f683852724bc9a4e0a0f0a857676e47687753ff64819a2de6e23dcb7c509861"), looks := true }, kinds := [], alts := [], laidByText := true, laidKinds := [.data, .data, .data, .data, .sentinel, .sentinel, .pinned], laidTests := true, laidLooks := .later }
def TextNumbersCardSaid : Prop := Claim7.holds Tryd.pinned (.plain (OpenSpec.ofChange textNumbersSpec)) textNumbersCard

/-- THE TIED CARD OF 'grammarlablaw01.TextWords'. -/
def textWordsCard : Claim7 := { stood := { row := textWordsRow, standIns := [], harness := (true, "9f683852724bc9a4e0a0f0a857676e47687753ff64819a2de6e23dcb7c509861"), looks := true }, kinds := [], alts := [], laidByText := true, laidKinds := [.data, .data, .data, .data, .sentinel, .sentinel, .pinned], laidTests := true, laidLooks := .later }
def TextWordsCardSaid : Prop := Claim7.holds Tryd.pinned (.plain (OpenSpec.ofChange textWordsSpec)) textWordsCard

/-- THE TIED CARD OF 'grammarlablaw01.TextScans'. -/
def textScansCard : Claim7 := { stood := { row := textScansRow, standIns := [], harness := (true, "9f683852724bc9a4e0a0f0a857676e47687753ff64819a2de6e23dcb7c509861"), looks := true }, kinds := [], alts := [], laidByText := true, laidKinds := [.data, .data, .data, .data, .sentinel, .sentinel, .pinned], laidTests := true, laidLooks := .later }
def TextScansCardSaid : Prop := Claim7.holds Tryd.pinned (.plain (OpenSpec.ofChange textScansSpec)) textScansCard

/-- THE TIED CARD OF 'grammarlablaw01.TextDecimals'. -/
def textDecimalsCard : Claim7 := { stood := { row := textDecimalsRow, standIns := [], harness := (true, "9f683852724bc9a4e0a0f0a857676e47687753ff64819a2de6e23dcb7c509861"), looks := true }, kinds := [], alts := [], laidByText := true, laidKinds := [.data, .data, .data, .data, .sentinel, .sentinel, .pinned], laidTests := true, laidLooks := .later }
def TextDecimalsCardSaid : Prop := Claim7.holds Tryd.pinned (.plain (OpenSpec.ofChange textDecimalsSpec)) textDecimalsCard

/-- THE TIED CARD OF 'grammarlablaw01.TextTokens'. -/
def textTokensCard : Claim7 := { stood := { row := textTokensRow, standIns := [], harness := (true, "9f683852724bc9a4e0a0f0a857676e47687753ff64819a2de6e23dcb7c509861"), looks := true }, kinds := [], alts := [], laidByText := true, laidKinds := [.data, .data, .data, .data, .sentinel, .sentinel, .pinned], laidTests := true, laidLooks := .later }
def TextTokensCardSaid : Prop := Claim7.holds Tryd.pinned (.plain (OpenSpec.ofChange textTokensSpec)) textTokensCard

/-- THE TIED CARD OF 'grammarlablaw01.TextLines'. -/
def textLinesCard : Claim7 := { stood := { row := textLinesRow, standIns := [], harness := (true, "9f683852724bc9a4e0a0f0a857676e47687753ff64819a2de6e23dcb7c509861"), looks := true }, kinds := [], alts := [], laidByText := true, laidKinds := [.data, .data, .data, .data, .sentinel, .sentinel, .pinned], laidTests := true, laidLooks := .later }
def TextLinesCardSaid : Prop := Claim7.holds Tryd.pinned (.plain (OpenSpec.ofChange textLinesSpec)) textLinesCard

/-- THE SECOND FORM's CARD OF 'grammarlablaw01.TextNames'. -/
def textNamesUptoCard : Claim7 := { stood := { row := textNamesUptoRow, standIns := [], harness := (true, "9f683852724bc9a4e0a0f0a857676e47687753ff64819a2de6e23dcb7c509861"), looks := true }, kinds := [], alts := [], laidByText := true, laidKinds := [.data, .data, .data, .data, .sentinel, .sentinel, .pinned], laidTests := true, laidLooks := .later }
def TextNamesUptoCardSaid : Prop := Claim7.holds Tryd.pinned (.plain (OpenSpec.upto textNamesSpec)) textNamesUptoCard

/-- THE SECOND FORM's CARD OF 'grammarlablaw01.TextNumbers'. -/
def textNumbersUptoCard : Claim7 := { stood := { row := textNumbersUptoRow, standIns := [], harness := (true, "9f683852724bc9a4e0a0f0a857676e47687753ff64819a2de6e23dcb7c509861"), looks := true }, kinds := [], alts := [], laidByText := true, laidKinds := [.data, .data, .data, .data, .sentinel, .sentinel, .pinned], laidTests := true, laidLooks := .later }
def TextNumbersUptoCardSaid : Prop := Claim7.holds Tryd.pinned (.plain (OpenSpec.upto textNumbersSpec)) textNumbersUptoCard

/-- THE SECOND FORM's CARD OF 'grammarlablaw01.TextWords'. -/
def textWordsUptoCard : Claim7 := { stood := { row := textWordsUptoRow, standIns := [], harness := (true, "9f683852724bc9a4e0a0f0a857676e47687753ff64819a2de6e23dcb7c509861"), looks := true }, kinds := [], alts := [], laidByText := true, laidKinds := [.data, .data, .data, .data, .sentinel, .sentinel, .pinned], laidTests := true, laidLooks := .later }
def TextWordsUptoCardSaid : Prop := Claim7.holds Tryd.pinned (.plain (OpenSpec.upto textWordsSpec)) textWordsUptoCard

/-- THE SECOND FORM's CARD OF 'grammarlablaw01.TextScans'. -/
def textScansUptoCard : Claim7 := { stood := { row := textScansUptoRow, standIns := [], harness := (true, "9f683852724bc9a4e0a0f0a857676e47687753ff64819a2de6e23dcb7c509861"), looks := true }, kinds := [], alts := [], laidByText := true, laidKinds := [.data, .data, .data, .data, .sentinel, .sentinel, .pinned], laidTests := true, laidLooks := .later }
def TextScansUptoCardSaid : Prop := Claim7.holds Tryd.pinned (.plain (OpenSpec.upto textScansSpec)) textScansUptoCard

/-- THE SECOND FORM's CARD OF 'grammarlablaw01.TextDecimals'. -/
def textDecimalsUptoCard : Claim7 := { stood := { row := textDecimalsUptoRow, standIns := [], harness := (true, "9f683852724bc9a4e0a0f0a857676e47687753ff64819a2de6e23dcb7c509861"), looks := true }, kinds := [], alts := [], laidByText := true, laidKinds := [.data, .data, .data, .data, .sentinel, .sentinel, .pinned], laidTests := true, laidLooks := .later }
def TextDecimalsUptoCardSaid : Prop := Claim7.holds Tryd.pinned (.plain (OpenSpec.upto textDecimalsSpec)) textDecimalsUptoCard

/-- THE SECOND FORM's CARD OF 'grammarlablaw01.TextTokens'. -/
def textTokensUptoCard : Claim7 := { stood := { row := textTokensUptoRow, standIns := [], harness := (true, "9f683852724bc9a4e0a0f0a857676e47687753ff64819a2de6e23dcb7c509861"), looks := true }, kinds := [], alts := [], laidByText := true, laidKinds := [.data, .data, .data, .data, .sentinel, .sentinel, .pinned], laidTests := true, laidLooks := .later }
def TextTokensUptoCardSaid : Prop := Claim7.holds Tryd.pinned (.plain (OpenSpec.upto textTokensSpec)) textTokensUptoCard

/-- THE SECOND FORM's CARD OF 'grammarlablaw01.TextLines'. -/
def textLinesUptoCard : Claim7 := { stood := { row := textLinesUptoRow, standIns := [], harness := (true, "9f683852724bc9a4e0a0f0a857676e47687753ff64819a2de6e23dcb7c509861"), looks := true }, kinds := [], alts := [], laidByText := true, laidKinds := [.data, .data, .data, .data, .sentinel, .sentinel, .pinned], laidTests := true, laidLooks := .later }
def TextLinesUptoCardSaid : Prop := Claim7.holds Tryd.pinned (.plain (OpenSpec.upto textLinesSpec)) textLinesUptoCard
end Rows
end Go.Proofs.YtbabdjhikamkoaaDoor
