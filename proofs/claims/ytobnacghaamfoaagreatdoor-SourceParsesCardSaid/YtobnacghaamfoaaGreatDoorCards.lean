/-
  DERIVED. GIVEN WITH THE SEED: THE CARDS: each row of YtobnacghaamfoaaGreatDoorRows.lean that lists a variable, with what it lists TIED to the program's text (the seventh form; the later family's looks); each row that meets fmt, with fmt's text TOLD by the authors' own Lean function (tested against real Go, not proved from fmt's source: count such statements apart). THE CARD IS WHAT COUNTS. Prove the row's statement (the work); the ties are given (YtobnacghaamfoaaGreatDoorTie.lean); close each card by the builder's one call (the guide's Derived/Test/ToyasCard.lean, 'card_holds'). Laid BY PROGRAM, IN A SANDBOX (cutbox-door.mjs). By AI agents, Wed Nov 11 2026. No macro, syntax, notation, axiom, sorry.
-/
import Derived.Test.YtobnacghaamfoaaGreatDoorRows
import GoSem.ClaimSeven
namespace Go.Proofs.YtobnacghaamfoaaGreatDoor
namespace Rows

/-- THE TIED CARD OF 'grammarlablaw21.SourceAffixes'. -/
def sourceAffixesCard : Claim7 := { stood := { row := sourceAffixesRow, standIns := [], harness := (true, "33745d21729a0a41db932d2efc5e846be072804ede1ff72425a8681a3c51167b"), looks := true }, kinds := [], alts := [], laidByText := true, laidKinds := [.data, .data, .data, .data, .sentinel, .sentinel, .pinned], laidTests := true, laidLooks := .later }
def SourceAffixesCardSaid : Prop := Claim7.holds Tryz.pinned (.plain (OpenSpec.ofChange sourceAffixesSpec)) sourceAffixesCard

/-- THE TIED CARD OF 'grammarlablaw21.SourceParses'. -/
def sourceParsesCard : Claim7 := { stood := { row := sourceParsesRow, standIns := [], harness := (true, "33745d21729a0a41db932d2efc5e846be072804ede1ff72425a8681a3c51167b"), looks := true }, kinds := [], alts := [], laidByText := true, laidKinds := [.data, .data, .data, .data, .sentinel, .sentinel, .pinned], laidTests := true, laidLooks := .later }
def SourceParsesCardSaid : Prop := Claim7.holds Tryz.pinned (.plain (OpenSpec.ofChange sourceParsesSpec)) sourceParsesCard

/-- THE TIED CARD OF 'grammarlablaw21.SourcePrinted'. -/
def sourcePrintedCard : Claim7 := { stood := { row := sourcePrintedRow, standIns := [], harness := (true, "33745d21729a0a41db932d2efc5e846be072804ede1ff72425a8681a3c51167b"), looks := true }, kinds := [], alts := [], laidByText := true, laidKinds := [.data, .data, .data, .data, .sentinel, .sentinel, .pinned], laidTests := true, laidLooks := .later }
def SourcePrintedCardSaid : Prop := Claim7.holds Tryz.pinned (.plain (OpenSpec.ofChange sourcePrintedSpec)) sourcePrintedCard

/-- THE TIED CARD OF 'grammarlablaw21.SourceSpaces'. -/
def sourceSpacesCard : Claim7 := { stood := { row := sourceSpacesRow, standIns := [], harness := (true, "33745d21729a0a41db932d2efc5e846be072804ede1ff72425a8681a3c51167b"), looks := true }, kinds := [], alts := [], laidByText := true, laidKinds := [.data, .data, .data, .data, .sentinel, .sentinel, .pinned], laidTests := true, laidLooks := .later }
def SourceSpacesCardSaid : Prop := Claim7.holds Tryz.pinned (.plain (OpenSpec.ofChange sourceSpacesSpec)) sourceSpacesCard

/-- THE TIED CARD OF 'grammarlablaw21.SourceConcat'. -/
def sourceConcatCard : Claim7 := { stood := { row := sourceConcatRow, standIns := [], harness := (true, "33745d21729a0a41db932d2efc5e846be072804ede1ff72425a8681a3c51167b"), looks := true }, kinds := [], alts := [], laidByText := true, laidKinds := [.data, .data, .data, .data, .sentinel, .sentinel, .pinned], laidTests := true, laidLooks := .later }
def SourceConcatCardSaid : Prop := Claim7.holds Tryz.pinned (.plain (OpenSpec.ofChange sourceConcatSpec)) sourceConcatCard

/-- THE TIED CARD OF 'grammarlablaw21.SourceOrder'. -/
def sourceOrderCard : Claim7 := { stood := { row := sourceOrderRow, standIns := [], harness := (true, "33745d21729a0a41db932d2efc5e846be072804ede1ff72425a8681a3c51167b"), looks := true }, kinds := [], alts := [], laidByText := true, laidKinds := [.data, .data, .data, .data, .sentinel, .sentinel, .pinned], laidTests := true, laidLooks := .later }
def SourceOrderCardSaid : Prop := Claim7.holds Tryz.pinned (.plain (OpenSpec.ofChange sourceOrderSpec)) sourceOrderCard

/-- THE SECOND FORM's CARD OF 'grammarlablaw21.SourceAffixes'. -/
def sourceAffixesUptoCard : Claim7 := { stood := { row := sourceAffixesUptoRow, standIns := [], harness := (true, "33745d21729a0a41db932d2efc5e846be072804ede1ff72425a8681a3c51167b"), looks := true }, kinds := [], alts := [], laidByText := true, laidKinds := [.data, .data, .data, .data, .sentinel, .sentinel, .pinned], laidTests := true, laidLooks := .later }
def SourceAffixesUptoCardSaid : Prop := Claim7.holds Tryz.pinned (.plain (OpenSpec.upto sourceAffixesSpec)) sourceAffixesUptoCard

/-- THE SECOND FORM's CARD OF 'grammarlablaw21.SourceParses'. -/
def sourceParsesUptoCard : Claim7 := { stood := { row := sourceParsesUptoRow, standIns := [], harness := (true, "33745d21729a0a41db932d2efc5e846be072804ede1ff72425a8681a3c51167b"), looks := true }, kinds := [], alts := [], laidByText := true, laidKinds := [.data, .data, .data, .data, .sentinel, .sentinel, .pinned], laidTests := true, laidLooks := .later }
def SourceParsesUptoCardSaid : Prop := Claim7.holds Tryz.pinned (.plain (OpenSpec.upto sourceParsesSpec)) sourceParsesUptoCard

/-- THE SECOND FORM's CARD OF 'grammarlablaw21.SourcePrinted'. -/
def sourcePrintedUptoCard : Claim7 := { stood := { row := sourcePrintedUptoRow, standIns := [], harness := (true, "33745d21729a0a41db932d2efc5e846be072804ede1ff72425a8681a3c51167b"), looks := true }, kinds := [], alts := [], laidByText := true, laidKinds := [.data, .data, .data, .data, .sentinel, .sentinel, .pinned], laidTests := true, laidLooks := .later }
def SourcePrintedUptoCardSaid : Prop := Claim7.holds Tryz.pinned (.plain (OpenSpec.upto sourcePrintedSpec)) sourcePrintedUptoCard

/-- THE SECOND FORM's CARD OF 'grammarlablaw21.SourceSpaces'. -/
def sourceSpacesUptoCard : Claim7 := { stood := { row := sourceSpacesUptoRow, standIns := [], harness := (true, "33745d21729a0a41db932d2efc5e846be072804ede1ff72425a8681a3c51167b"), looks := true }, kinds := [], alts := [], laidByText := true, laidKinds := [.data, .data, .data, .data, .sentinel, .sentinel, .pinned], laidTests := true, laidLooks := .later }
def SourceSpacesUptoCardSaid : Prop := Claim7.holds Tryz.pinned (.plain (OpenSpec.upto sourceSpacesSpec)) sourceSpacesUptoCard

/-- THE SECOND FORM's CARD OF 'grammarlablaw21.SourceConcat'. -/
def sourceConcatUptoCard : Claim7 := { stood := { row := sourceConcatUptoRow, standIns := [], harness := (true, "33745d21729a0a41db932d2efc5e846be072804ede1ff72425a8681a3c51167b"), looks := true }, kinds := [], alts := [], laidByText := true, laidKinds := [.data, .data, .data, .data, .sentinel, .sentinel, .pinned], laidTests := true, laidLooks := .later }
def SourceConcatUptoCardSaid : Prop := Claim7.holds Tryz.pinned (.plain (OpenSpec.upto sourceConcatSpec)) sourceConcatUptoCard

/-- THE SECOND FORM's CARD OF 'grammarlablaw21.SourceOrder'. -/
def sourceOrderUptoCard : Claim7 := { stood := { row := sourceOrderUptoRow, standIns := [], harness := (true, "33745d21729a0a41db932d2efc5e846be072804ede1ff72425a8681a3c51167b"), looks := true }, kinds := [], alts := [], laidByText := true, laidKinds := [.data, .data, .data, .data, .sentinel, .sentinel, .pinned], laidTests := true, laidLooks := .later }
def SourceOrderUptoCardSaid : Prop := Claim7.holds Tryz.pinned (.plain (OpenSpec.upto sourceOrderSpec)) sourceOrderUptoCard
end Rows
end Go.Proofs.YtobnacghaamfoaaGreatDoor
