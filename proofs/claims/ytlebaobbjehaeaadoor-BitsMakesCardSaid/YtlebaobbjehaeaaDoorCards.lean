/-
  DERIVED. GIVEN WITH THE SEED: THE CARDS: each row of YtlebaobbjehaeaaDoorRows.lean that lists a variable, with what it lists TIED to the program's text (the seventh form; the later family's looks); each row that meets fmt, with fmt's text TOLD by the authors' own Lean function (tested against real Go, not proved from fmt's source: count such statements apart). THE CARD IS WHAT COUNTS. Prove the row's statement (the work); the ties are given (YtlebaobbjehaeaaDoorTie.lean); close each card by the builder's one call (the guide's Derived/Test/ToyasCard.lean, 'card_holds'). Laid BY PROGRAM, IN A SANDBOX (cutbox-door.mjs). By AI agents, Wed Nov 11 2026. No macro, syntax, notation, axiom, sorry.
-/
import Derived.Test.YtlebaobbjehaeaaDoorRows
import GoSem.ClaimSeven
namespace Go.Proofs.YtlebaobbjehaeaaDoor
namespace Rows

/-- THE TIED CARD OF 'grammarlablaw02.BitsMakes'. -/
def bitsMakesCard : Claim7 := { stood := { row := bitsMakesRow, standIns := [], harness := (true, "db664ab00aba70a290d4e8b83cdc8745b7321cb9be8af4842e4f82e738abdb14"), looks := false }, kinds := [], alts := [], laidByText := true, laidKinds := [.data], laidTests := true, laidLooks := .later }
def BitsMakesCardSaid : Prop := Claim7.holds Tryd.pinned (.plain (OpenSpec.ofChange bitsMakesSpec)) bitsMakesCard

/-- THE TIED CARD OF 'grammarlablaw02.BitsCombines'. -/
def bitsCombinesCard : Claim7 := { stood := { row := bitsCombinesRow, standIns := [], harness := (true, "db664ab00aba70a290d4e8b83cdc8745b7321cb9be8af4842e4f82e738abdb14"), looks := false }, kinds := [], alts := [], laidByText := true, laidKinds := [.data], laidTests := true, laidLooks := .later }
def BitsCombinesCardSaid : Prop := Claim7.holds Tryd.pinned (.plain (OpenSpec.ofChange bitsCombinesSpec)) bitsCombinesCard

/-- THE TIED CARD OF 'grammarlablaw02.BitsAsks'. -/
def bitsAsksCard : Claim7 := { stood := { row := bitsAsksRow, standIns := [], harness := (true, "db664ab00aba70a290d4e8b83cdc8745b7321cb9be8af4842e4f82e738abdb14"), looks := false }, kinds := [], alts := [], laidByText := true, laidKinds := [.data], laidTests := true, laidLooks := .later }
def BitsAsksCardSaid : Prop := Claim7.holds Tryd.pinned (.plain (OpenSpec.ofChange bitsAsksSpec)) bitsAsksCard

/-- THE TIED CARD OF 'grammarlablaw02.BitsLaws'. -/
def bitsLawsCard : Claim7 := { stood := { row := bitsLawsRow, standIns := [], harness := (true, "db664ab00aba70a290d4e8b83cdc8745b7321cb9be8af4842e4f82e738abdb14"), looks := false }, kinds := [], alts := [], laidByText := true, laidKinds := [.data], laidTests := true, laidLooks := .later }
def BitsLawsCardSaid : Prop := Claim7.holds Tryd.pinned (.plain (OpenSpec.ofChange bitsLawsSpec)) bitsLawsCard

/-- THE TIED CARD OF 'grammarlablaw02.BitsLists'. -/
def bitsListsCard : Claim7 := { stood := { row := bitsListsRow, standIns := [], harness := (true, "db664ab00aba70a290d4e8b83cdc8745b7321cb9be8af4842e4f82e738abdb14"), looks := false }, kinds := [], alts := [], laidByText := true, laidKinds := [.data], laidTests := true, laidLooks := .later }
def BitsListsCardSaid : Prop := Claim7.holds Tryd.pinned (.plain (OpenSpec.ofChange bitsListsSpec)) bitsListsCard

/-- THE SECOND FORM's CARD OF 'grammarlablaw02.BitsMakes'. -/
def bitsMakesUptoCard : Claim7 := { stood := { row := bitsMakesUptoRow, standIns := [], harness := (true, "db664ab00aba70a290d4e8b83cdc8745b7321cb9be8af4842e4f82e738abdb14"), looks := false }, kinds := [], alts := [], laidByText := true, laidKinds := [.data], laidTests := true, laidLooks := .later }
def BitsMakesUptoCardSaid : Prop := Claim7.holds Tryd.pinned (.plain (OpenSpec.upto bitsMakesSpec)) bitsMakesUptoCard

/-- THE SECOND FORM's CARD OF 'grammarlablaw02.BitsCombines'. -/
def bitsCombinesUptoCard : Claim7 := { stood := { row := bitsCombinesUptoRow, standIns := [], harness := (true, "db664ab00aba70a290d4e8b83cdc8745b7321cb9be8af4842e4f82e738abdb14"), looks := false }, kinds := [], alts := [], laidByText := true, laidKinds := [.data], laidTests := true, laidLooks := .later }
def BitsCombinesUptoCardSaid : Prop := Claim7.holds Tryd.pinned (.plain (OpenSpec.upto bitsCombinesSpec)) bitsCombinesUptoCard

/-- THE SECOND FORM's CARD OF 'grammarlablaw02.BitsAsks'. -/
def bitsAsksUptoCard : Claim7 := { stood := { row := bitsAsksUptoRow, standIns := [], harness := (true, "db664ab00aba70a290d4e8b83cdc8745b7321cb9be8af4842e4f82e738abdb14"), looks := false }, kinds := [], alts := [], laidByText := true, laidKinds := [.data], laidTests := true, laidLooks := .later }
def BitsAsksUptoCardSaid : Prop := Claim7.holds Tryd.pinned (.plain (OpenSpec.upto bitsAsksSpec)) bitsAsksUptoCard

/-- THE SECOND FORM's CARD OF 'grammarlablaw02.BitsLaws'. -/
def bitsLawsUptoCard : Claim7 := { stood := { row := bitsLawsUptoRow, standIns := [], harness := (true, "db664ab00aba70a290d4e8b83cdc8745b7321cb9be8af4842e4f82e738abdb14"), looks := false }, kinds := [], alts := [], laidByText := true, laidKinds := [.data], laidTests := true, laidLooks := .later }
def BitsLawsUptoCardSaid : Prop := Claim7.holds Tryd.pinned (.plain (OpenSpec.upto bitsLawsSpec)) bitsLawsUptoCard

/-- THE SECOND FORM's CARD OF 'grammarlablaw02.BitsLists'. -/
def bitsListsUptoCard : Claim7 := { stood := { row := bitsListsUptoRow, standIns := [], harness := (true, "db664ab00aba70a290d4e8b83cdc8745b7321cb9be8af4842e4f82e738abdb14"), looks := false }, kinds := [], alts := [], laidByText := true, laidKinds := [.data], laidTests := true, laidLooks := .later }
def BitsListsUptoCardSaid : Prop := Claim7.holds Tryd.pinned (.plain (OpenSpec.upto bitsListsSpec)) bitsListsUptoCard
end Rows
end Go.Proofs.YtlebaobbjehaeaaDoor
