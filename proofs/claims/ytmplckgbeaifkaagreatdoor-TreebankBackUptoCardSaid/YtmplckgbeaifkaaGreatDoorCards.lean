/-
  DERIVED. GIVEN WITH THE SEED: THE CARDS: each row of YtmplckgbeaifkaaGreatDoorRows.lean that lists a variable, with what it lists TIED to the program's text (the seventh form; the later family's looks); each row that meets fmt, with fmt's text TOLD by the authors' own Lean function (tested against real Go, not proved from fmt's source: count such statements apart). THE CARD IS WHAT COUNTS. Prove the row's statement (the work); the ties are given (YtmplckgbeaifkaaGreatDoorTie.lean); close each card by the builder's one call (the guide's Derived/Test/ToyasCard.lean, 'card_holds'). Laid BY PROGRAM, IN A SANDBOX (cutbox-door.mjs). By AI agents, Wed Nov 11 2026. No macro, syntax, notation, axiom, sorry.
-/
import Derived.Test.YtmplckgbeaifkaaGreatDoorRows
import GoSem.ClaimSeven
namespace Go.Proofs.YtmplckgbeaifkaaGreatDoor
namespace Rows

/-- THE TIED CARD OF 'grammarlablaw48.UpdateReplays'. -/
def updateReplaysCard : Claim7 := { stood := { row := updateReplaysRow, standIns := [], harness := (true, "313b51bc14ef078cfb59ff318f9a6b2656301a4087e5c9a3d23b81b118c85186"), looks := true }, kinds := [], alts := [], laidByText := true, laidKinds := [.data, .data, .data, .data, .sentinel, .sentinel, .pinned], laidTests := true, laidLooks := .later }
def UpdateReplaysCardSaid : Prop := Claim7.holds Tryz.pinned (.plain (OpenSpec.ofChange updateReplaysSpec)) updateReplaysCard

/-- THE TIED CARD OF 'grammarlablaw48.UpdateAll'. -/
def updateAllCard : Claim7 := { stood := { row := updateAllRow, standIns := [], harness := (true, "313b51bc14ef078cfb59ff318f9a6b2656301a4087e5c9a3d23b81b118c85186"), looks := true }, kinds := [], alts := [], laidByText := true, laidKinds := [.data, .data, .data, .data, .sentinel, .sentinel, .pinned], laidTests := true, laidLooks := .later }
def UpdateAllCardSaid : Prop := Claim7.holds Tryz.pinned (.plain (OpenSpec.ofChange updateAllSpec)) updateAllCard

/-- THE TIED CARD OF 'grammarlablaw48.UpdateNotes'. -/
def updateNotesCard : Claim7 := { stood := { row := updateNotesRow, standIns := [], harness := (true, "313b51bc14ef078cfb59ff318f9a6b2656301a4087e5c9a3d23b81b118c85186"), looks := true }, kinds := [], alts := [], laidByText := true, laidKinds := [.data, .data, .data, .data, .sentinel, .sentinel, .pinned], laidTests := true, laidLooks := .later }
def UpdateNotesCardSaid : Prop := Claim7.holds Tryz.pinned (.plain (OpenSpec.ofChange updateNotesSpec)) updateNotesCard

/-- THE TIED CARD OF 'grammarlablaw48.UpdateSame'. -/
def updateSameCard : Claim7 := { stood := { row := updateSameRow, standIns := [], harness := (true, "313b51bc14ef078cfb59ff318f9a6b2656301a4087e5c9a3d23b81b118c85186"), looks := true }, kinds := [], alts := [], laidByText := true, laidKinds := [.data, .data, .data, .data, .sentinel, .sentinel, .pinned], laidTests := true, laidLooks := .later }
def UpdateSameCardSaid : Prop := Claim7.holds Tryz.pinned (.plain (OpenSpec.ofChange updateSameSpec)) updateSameCard

/-- THE TIED CARD OF 'grammarlablaw48.UpdateAgrees'. -/
def updateAgreesCard : Claim7 := { stood := { row := updateAgreesRow, standIns := [], harness := (true, "313b51bc14ef078cfb59ff318f9a6b2656301a4087e5c9a3d23b81b118c85186"), looks := true }, kinds := [], alts := [], laidByText := true, laidKinds := [.data, .data, .data, .data, .sentinel, .sentinel, .pinned], laidTests := true, laidLooks := .later }
def UpdateAgreesCardSaid : Prop := Claim7.holds Tryz.pinned (.plain (OpenSpec.ofChange updateAgreesSpec)) updateAgreesCard

/-- THE TIED CARD OF 'grammarlablaw47.TreebankChecks'. -/
def treebankChecksCard : Claim7 := { stood := { row := treebankChecksRow, standIns := [], harness := (true, "313b51bc14ef078cfb59ff318f9a6b2656301a4087e5c9a3d23b81b118c85186"), looks := true }, kinds := [], alts := [], laidByText := true, laidKinds := [.data, .data, .data, .data, .sentinel, .sentinel, .pinned], laidTests := true, laidLooks := .later }
def TreebankChecksCardSaid : Prop := Claim7.holds Tryz.pinned (.plain (OpenSpec.ofChange treebankChecksSpec)) treebankChecksCard

/-- THE TIED CARD OF 'grammarlablaw47.TreebankPuts'. -/
def treebankPutsCard : Claim7 := { stood := { row := treebankPutsRow, standIns := [], harness := (true, "313b51bc14ef078cfb59ff318f9a6b2656301a4087e5c9a3d23b81b118c85186"), looks := true }, kinds := [], alts := [], laidByText := true, laidKinds := [.data, .data, .data, .data, .sentinel, .sentinel, .pinned], laidTests := true, laidLooks := .later }
def TreebankPutsCardSaid : Prop := Claim7.holds Tryz.pinned (.plain (OpenSpec.ofChange treebankPutsSpec)) treebankPutsCard

/-- THE TIED CARD OF 'grammarlablaw47.TreebankGets'. -/
def treebankGetsCard : Claim7 := { stood := { row := treebankGetsRow, standIns := [], harness := (true, "313b51bc14ef078cfb59ff318f9a6b2656301a4087e5c9a3d23b81b118c85186"), looks := true }, kinds := [], alts := [], laidByText := true, laidKinds := [.data, .data, .data, .data, .sentinel, .sentinel, .pinned], laidTests := true, laidLooks := .later }
def TreebankGetsCardSaid : Prop := Claim7.holds Tryz.pinned (.plain (OpenSpec.ofChange treebankGetsSpec)) treebankGetsCard

/-- THE TIED CARD OF 'grammarlablaw47.TreebankEncodes'. -/
def treebankEncodesCard : Claim7 := { stood := { row := treebankEncodesRow, standIns := [], harness := (true, "313b51bc14ef078cfb59ff318f9a6b2656301a4087e5c9a3d23b81b118c85186"), looks := true }, kinds := [], alts := [], laidByText := true, laidKinds := [.data, .data, .data, .data, .sentinel, .sentinel, .pinned], laidTests := true, laidLooks := .later }
def TreebankEncodesCardSaid : Prop := Claim7.holds Tryz.pinned (.plain (OpenSpec.ofChange treebankEncodesSpec)) treebankEncodesCard

/-- THE TIED CARD OF 'grammarlablaw47.TreebankDecodes'. -/
def treebankDecodesCard : Claim7 := { stood := { row := treebankDecodesRow, standIns := [], harness := (true, "313b51bc14ef078cfb59ff318f9a6b2656301a4087e5c9a3d23b81b118c85186"), looks := true }, kinds := [], alts := [], laidByText := true, laidKinds := [.data, .data, .data, .data, .sentinel, .sentinel, .pinned], laidTests := true, laidLooks := .later }
def TreebankDecodesCardSaid : Prop := Claim7.holds Tryz.pinned (.plain (OpenSpec.ofChange treebankDecodesSpec)) treebankDecodesCard

/-- THE TIED CARD OF 'grammarlablaw47.TreebankBack'. -/
def treebankBackCard : Claim7 := { stood := { row := treebankBackRow, standIns := [], harness := (true, "313b51bc14ef078cfb59ff318f9a6b2656301a4087e5c9a3d23b81b118c85186"), looks := true }, kinds := [], alts := [], laidByText := true, laidKinds := [.data, .data, .data, .data, .sentinel, .sentinel, .pinned], laidTests := true, laidLooks := .later }
def TreebankBackCardSaid : Prop := Claim7.holds Tryz.pinned (.plain (OpenSpec.ofChange treebankBackSpec)) treebankBackCard

/-- THE TIED CARD OF 'grammarlablaw47.TreebankKeeps'. -/
def treebankKeepsCard : Claim7 := { stood := { row := treebankKeepsRow, standIns := [], harness := (true, "313b51bc14ef078cfb59ff318f9a6b2656301a4087e5c9a3d23b81b118c85186"), looks := true }, kinds := [], alts := [], laidByText := true, laidKinds := [.data, .data, .data, .data, .sentinel, .sentinel, .pinned], laidTests := true, laidLooks := .later }
def TreebankKeepsCardSaid : Prop := Claim7.holds Tryz.pinned (.plain (OpenSpec.ofChange treebankKeepsSpec)) treebankKeepsCard

/-- THE TIED CARD OF 'grammarlablaw47.TreebankCommutes'. -/
def treebankCommutesCard : Claim7 := { stood := { row := treebankCommutesRow, standIns := [], harness := (true, "313b51bc14ef078cfb59ff318f9a6b2656301a4087e5c9a3d23b81b118c85186"), looks := true }, kinds := [], alts := [], laidByText := true, laidKinds := [.data, .data, .data, .data, .sentinel, .sentinel, .pinned], laidTests := true, laidLooks := .later }
def TreebankCommutesCardSaid : Prop := Claim7.holds Tryz.pinned (.plain (OpenSpec.ofChange treebankCommutesSpec)) treebankCommutesCard

/-- THE SECOND FORM's CARD OF 'grammarlablaw48.UpdateReplays'. -/
def updateReplaysUptoCard : Claim7 := { stood := { row := updateReplaysUptoRow, standIns := [], harness := (true, "313b51bc14ef078cfb59ff318f9a6b2656301a4087e5c9a3d23b81b118c85186"), looks := true }, kinds := [], alts := [], laidByText := true, laidKinds := [.data, .data, .data, .data, .sentinel, .sentinel, .pinned], laidTests := true, laidLooks := .later }
def UpdateReplaysUptoCardSaid : Prop := Claim7.holds Tryz.pinned (.plain (OpenSpec.upto updateReplaysSpec)) updateReplaysUptoCard

/-- THE SECOND FORM's CARD OF 'grammarlablaw48.UpdateAll'. -/
def updateAllUptoCard : Claim7 := { stood := { row := updateAllUptoRow, standIns := [], harness := (true, "313b51bc14ef078cfb59ff318f9a6b2656301a4087e5c9a3d23b81b118c85186"), looks := true }, kinds := [], alts := [], laidByText := true, laidKinds := [.data, .data, .data, .data, .sentinel, .sentinel, .pinned], laidTests := true, laidLooks := .later }
def UpdateAllUptoCardSaid : Prop := Claim7.holds Tryz.pinned (.plain (OpenSpec.upto updateAllSpec)) updateAllUptoCard

/-- THE SECOND FORM's CARD OF 'grammarlablaw48.UpdateNotes'. -/
def updateNotesUptoCard : Claim7 := { stood := { row := updateNotesUptoRow, standIns := [], harness := (true, "313b51bc14ef078cfb59ff318f9a6b2656301a4087e5c9a3d23b81b118c85186"), looks := true }, kinds := [], alts := [], laidByText := true, laidKinds := [.data, .data, .data, .data, .sentinel, .sentinel, .pinned], laidTests := true, laidLooks := .later }
def UpdateNotesUptoCardSaid : Prop := Claim7.holds Tryz.pinned (.plain (OpenSpec.upto updateNotesSpec)) updateNotesUptoCard

/-- THE SECOND FORM's CARD OF 'grammarlablaw48.UpdateSame'. -/
def updateSameUptoCard : Claim7 := { stood := { row := updateSameUptoRow, standIns := [], harness := (true, "313b51bc14ef078cfb59ff318f9a6b2656301a4087e5c9a3d23b81b118c85186"), looks := true }, kinds := [], alts := [], laidByText := true, laidKinds := [.data, .data, .data, .data, .sentinel, .sentinel, .pinned], laidTests := true, laidLooks := .later }
def UpdateSameUptoCardSaid : Prop := Claim7.holds Tryz.pinned (.plain (OpenSpec.upto updateSameSpec)) updateSameUptoCard

/-- THE SECOND FORM's CARD OF 'grammarlablaw48.UpdateAgrees'. -/
def updateAgreesUptoCard : Claim7 := { stood := { row := updateAgreesUptoRow, standIns := [], harness := (true, "313b51bc14ef078cfb59ff318f9a6b2656301a4087e5c9a3d23b81b118c85186"), looks := true }, kinds := [], alts := [], laidByText := true, laidKinds := [.data, .data, .data, .data, .sentinel, .sentinel, .pinned], laidTests := true, laidLooks := .later }
def UpdateAgreesUptoCardSaid : Prop := Claim7.holds Tryz.pinned (.plain (OpenSpec.upto updateAgreesSpec)) updateAgreesUptoCard

/-- THE SECOND FORM's CARD OF 'grammarlablaw47.TreebankChecks'. -/
def treebankChecksUptoCard : Claim7 := { stood := { row := treebankChecksUptoRow, standIns := [], harness := (true, "313b51bc14ef078cfb59ff318f9a6b2656301a4087e5c9a3d23b81b118c85186"), looks := true }, kinds := [], alts := [], laidByText := true, laidKinds := [.data, .data, .data, .data, .sentinel, .sentinel, .pinned], laidTests := true, laidLooks := .later }
def TreebankChecksUptoCardSaid : Prop := Claim7.holds Tryz.pinned (.plain (OpenSpec.upto treebankChecksSpec)) treebankChecksUptoCard

/-- THE SECOND FORM's CARD OF 'grammarlablaw47.TreebankPuts'. -/
def treebankPutsUptoCard : Claim7 := { stood := { row := treebankPutsUptoRow, standIns := [], harness := (true, "313b51bc14ef078cfb59ff318f9a6b2656301a4087e5c9a3d23b81b118c85186"), looks := true }, kinds := [], alts := [], laidByText := true, laidKinds := [.data, .data, .data, .data, .sentinel, .sentinel, .pinned], laidTests := true, laidLooks := .later }
def TreebankPutsUptoCardSaid : Prop := Claim7.holds Tryz.pinned (.plain (OpenSpec.upto treebankPutsSpec)) treebankPutsUptoCard

/-- THE SECOND FORM's CARD OF 'grammarlablaw47.TreebankGets'. -/
def treebankGetsUptoCard : Claim7 := { stood := { row := treebankGetsUptoRow, standIns := [], harness := (true, "313b51bc14ef078cfb59ff318f9a6b2656301a4087e5c9a3d23b81b118c85186"), looks := true }, kinds := [], alts := [], laidByText := true, laidKinds := [.data, .data, .data, .data, .sentinel, .sentinel, .pinned], laidTests := true, laidLooks := .later }
def TreebankGetsUptoCardSaid : Prop := Claim7.holds Tryz.pinned (.plain (OpenSpec.upto treebankGetsSpec)) treebankGetsUptoCard

/-- THE SECOND FORM's CARD OF 'grammarlablaw47.TreebankEncodes'. -/
def treebankEncodesUptoCard : Claim7 := { stood := { row := treebankEncodesUptoRow, standIns := [], harness := (true, "313b51bc14ef078cfb59ff318f9a6b2656301a4087e5c9a3d23b81b118c85186"), looks := true }, kinds := [], alts := [], laidByText := true, laidKinds := [.data, .data, .data, .data, .sentinel, .sentinel, .pinned], laidTests := true, laidLooks := .later }
def TreebankEncodesUptoCardSaid : Prop := Claim7.holds Tryz.pinned (.plain (OpenSpec.upto treebankEncodesSpec)) treebankEncodesUptoCard

/-- THE SECOND FORM's CARD OF 'grammarlablaw47.TreebankDecodes'. -/
def treebankDecodesUptoCard : Claim7 := { stood := { row := treebankDecodesUptoRow, standIns := [], harness := (true, "313b51bc14ef078cfb59ff318f9a6b2656301a4087e5c9a3d23b81b118c85186"), looks := true }, kinds := [], alts := [], laidByText := true, laidKinds := [.data, .data, .data, .data, .sentinel, .sentinel, .pinned], laidTests := true, laidLooks := .later }
def TreebankDecodesUptoCardSaid : Prop := Claim7.holds Tryz.pinned (.plain (OpenSpec.upto treebankDecodesSpec)) treebankDecodesUptoCard

/-- THE SECOND FORM's CARD OF 'grammarlablaw47.TreebankBack'. -/
def treebankBackUptoCard : Claim7 := { stood := { row := treebankBackUptoRow, standIns := [], harness := (true, "313b51bc14ef078cfb59ff318f9a6b2656301a4087e5c9a3d23b81b118c85186"), looks := true }, kinds := [], alts := [], laidByText := true, laidKinds := [.data, .data, .data, .data, .sentinel, .sentinel, .pinned], laidTests := true, laidLooks := .later }
def TreebankBackUptoCardSaid : Prop := Claim7.holds Tryz.pinned (.plain (OpenSpec.upto treebankBackSpec)) treebankBackUptoCard

/-- THE SECOND FORM's CARD OF 'grammarlablaw47.TreebankKeeps'. -/
def treebankKeepsUptoCard : Claim7 := { stood := { row := treebankKeepsUptoRow, standIns := [], harness := (true, "313b51bc14ef078cfb59ff318f9a6b2656301a4087e5c9a3d23b81b118c85186"), looks := true }, kinds := [], alts := [], laidByText := true, laidKinds := [.data, .data, .data, .data, .sentinel, .sentinel, .pinned], laidTests := true, laidLooks := .later }
def TreebankKeepsUptoCardSaid : Prop := Claim7.holds Tryz.pinned (.plain (OpenSpec.upto treebankKeepsSpec)) treebankKeepsUptoCard

/-- THE SECOND FORM's CARD OF 'grammarlablaw47.TreebankCommutes'. -/
def treebankCommutesUptoCard : Claim7 := { stood := { row := treebankCommutesUptoRow, standIns := [], harness := (true, "313b51bc14ef078cfb59ff318f9a6b2656301a4087e5c9a3d23b81b118c85186"), looks := true }, kinds := [], alts := [], laidByText := true, laidKinds := [.data, .data, .data, .data, .sentinel, .sentinel, .pinned], laidTests := true, laidLooks := .later }
def TreebankCommutesUptoCardSaid : Prop := Claim7.holds Tryz.pinned (.plain (OpenSpec.upto treebankCommutesSpec)) treebankCommutesUptoCard
end Rows
end Go.Proofs.YtmplckgbeaifkaaGreatDoor
