/-
  DERIVED. GIVEN WITH THE SEED: THE CARDS: each row of YtjkkgbdoeaihmaaGreatDoorRows.lean that lists a variable, with what it lists TIED to the program's text (the seventh form; the later family's looks); each row that meets fmt, with fmt's text TOLD by the authors' own Lean function (tested against real Go, not proved from fmt's source: count such statements apart). THE CARD IS WHAT COUNTS. Prove the row's statement (the work); the ties are given (YtjkkgbdoeaihmaaGreatDoorTie.lean); close each card by the builder's one call (the guide's Derived/Test/ToyasCard.lean, 'card_holds'). Laid BY PROGRAM, IN A SANDBOX (cutbox-door.mjs). By AI agents, Wed Nov 11 2026. No macro, syntax, notation, axiom, sorry.
-/
import Derived.Test.YtjkkgbdoeaihmaaGreatDoorRows
import GoSem.ClaimSeven
namespace Go.Proofs.YtjkkgbdoeaihmaaGreatDoor
namespace Rows

/-- THE TIED CARD OF 'grammarlablaw19.DescChecks'. -/
def descChecksCard : Claim7 := { stood := { row := descChecksRow, standIns := [], harness := (true, "c9290fb13c74ad3a826c7a2e0689ab6adbc4ee9d7be0d05032c72f4a9f2ae9ff"), looks := true }, kinds := [], alts := [], laidByText := true, laidKinds := [.data, .data, .data, .data, .sentinel, .sentinel, .pinned], laidTests := true, laidLooks := .later }
def DescChecksCardSaid : Prop := Claim7.holds Tryz.pinned (.plain (OpenSpec.ofChange descChecksSpec)) descChecksCard

/-- THE TIED CARD OF 'grammarlablaw19.DescReads'. -/
def descReadsCard : Claim7 := { stood := { row := descReadsRow, standIns := [], harness := (true, "c9290fb13c74ad3a826c7a2e0689ab6adbc4ee9d7be0d05032c72f4a9f2ae9ff"), looks := true }, kinds := [], alts := [], laidByText := true, laidKinds := [.data, .data, .data, .data, .sentinel, .sentinel, .pinned], laidTests := true, laidLooks := .later }
def DescReadsCardSaid : Prop := Claim7.holds Tryz.pinned (.plain (OpenSpec.ofChange descReadsSpec)) descReadsCard

/-- THE TIED CARD OF 'grammarlablaw19.DescParses'. -/
def descParsesCard : Claim7 := { stood := { row := descParsesRow, standIns := [], harness := (true, "c9290fb13c74ad3a826c7a2e0689ab6adbc4ee9d7be0d05032c72f4a9f2ae9ff"), looks := true }, kinds := [], alts := [], laidByText := true, laidKinds := [.data, .data, .data, .data, .sentinel, .sentinel, .pinned], laidTests := true, laidLooks := .later }
def DescParsesCardSaid : Prop := Claim7.holds Tryz.pinned (.plain (OpenSpec.ofChange descParsesSpec)) descParsesCard

/-- THE TIED CARD OF 'grammarlablaw19.DescPrints'. -/
def descPrintsCard : Claim7 := { stood := { row := descPrintsRow, standIns := [], harness := (true, "c9290fb13c74ad3a826c7a2e0689ab6adbc4ee9d7be0d05032c72f4a9f2ae9ff"), looks := true }, kinds := [], alts := [], laidByText := true, laidKinds := [.data, .data, .data, .data, .sentinel, .sentinel, .pinned], laidTests := true, laidLooks := .later }
def DescPrintsCardSaid : Prop := Claim7.holds Tryz.pinned (.plain (OpenSpec.ofChange descPrintsSpec)) descPrintsCard

/-- THE TIED CARD OF 'grammarlablaw19.DescBack'. -/
def descBackCard : Claim7 := { stood := { row := descBackRow, standIns := [], harness := (true, "c9290fb13c74ad3a826c7a2e0689ab6adbc4ee9d7be0d05032c72f4a9f2ae9ff"), looks := true }, kinds := [], alts := [], laidByText := true, laidKinds := [.data, .data, .data, .data, .sentinel, .sentinel, .pinned], laidTests := true, laidLooks := .later }
def DescBackCardSaid : Prop := Claim7.holds Tryz.pinned (.plain (OpenSpec.ofChange descBackSpec)) descBackCard

/-- THE TIED CARD OF 'grammarlablaw19.DescSpaces'. -/
def descSpacesCard : Claim7 := { stood := { row := descSpacesRow, standIns := [], harness := (true, "c9290fb13c74ad3a826c7a2e0689ab6adbc4ee9d7be0d05032c72f4a9f2ae9ff"), looks := true }, kinds := [], alts := [], laidByText := true, laidKinds := [.data, .data, .data, .data, .sentinel, .sentinel, .pinned], laidTests := true, laidLooks := .later }
def DescSpacesCardSaid : Prop := Claim7.holds Tryz.pinned (.plain (OpenSpec.ofChange descSpacesSpec)) descSpacesCard

/-- THE TIED CARD OF 'grammarlablaw19.DescNames'. -/
def descNamesCard : Claim7 := { stood := { row := descNamesRow, standIns := [], harness := (true, "c9290fb13c74ad3a826c7a2e0689ab6adbc4ee9d7be0d05032c72f4a9f2ae9ff"), looks := true }, kinds := [], alts := [], laidByText := true, laidKinds := [.data, .data, .data, .data, .sentinel, .sentinel, .pinned], laidTests := true, laidLooks := .later }
def DescNamesCardSaid : Prop := Claim7.holds Tryz.pinned (.plain (OpenSpec.ofChange descNamesSpec)) descNamesCard

/-- THE TIED CARD OF 'grammarlablaw19.DescJoins'. -/
def descJoinsCard : Claim7 := { stood := { row := descJoinsRow, standIns := [], harness := (true, "c9290fb13c74ad3a826c7a2e0689ab6adbc4ee9d7be0d05032c72f4a9f2ae9ff"), looks := true }, kinds := [], alts := [], laidByText := true, laidKinds := [.data, .data, .data, .data, .sentinel, .sentinel, .pinned], laidTests := true, laidLooks := .later }
def DescJoinsCardSaid : Prop := Claim7.holds Tryz.pinned (.plain (OpenSpec.ofChange descJoinsSpec)) descJoinsCard

/-- THE TIED CARD OF 'grammarlablaw19.DescPrefix'. -/
def descPrefixCard : Claim7 := { stood := { row := descPrefixRow, standIns := [], harness := (true, "c9290fb13c74ad3a826c7a2e0689ab6adbc4ee9d7be0d05032c72f4a9f2ae9ff"), looks := true }, kinds := [], alts := [], laidByText := true, laidKinds := [.data, .data, .data, .data, .sentinel, .sentinel, .pinned], laidTests := true, laidLooks := .later }
def DescPrefixCardSaid : Prop := Claim7.holds Tryz.pinned (.plain (OpenSpec.ofChange descPrefixSpec)) descPrefixCard

/-- THE SECOND FORM's CARD OF 'grammarlablaw19.DescChecks'. -/
def descChecksUptoCard : Claim7 := { stood := { row := descChecksUptoRow, standIns := [], harness := (true, "c9290fb13c74ad3a826c7a2e0689ab6adbc4ee9d7be0d05032c72f4a9f2ae9ff"), looks := true }, kinds := [], alts := [], laidByText := true, laidKinds := [.data, .data, .data, .data, .sentinel, .sentinel, .pinned], laidTests := true, laidLooks := .later }
def DescChecksUptoCardSaid : Prop := Claim7.holds Tryz.pinned (.plain (OpenSpec.upto descChecksSpec)) descChecksUptoCard

/-- THE SECOND FORM's CARD OF 'grammarlablaw19.DescReads'. -/
def descReadsUptoCard : Claim7 := { stood := { row := descReadsUptoRow, standIns := [], harness := (true, "c9290fb13c74ad3a826c7a2e0689ab6adbc4ee9d7be0d05032c72f4a9f2ae9ff"), looks := true }, kinds := [], alts := [], laidByText := true, laidKinds := [.data, .data, .data, .data, .sentinel, .sentinel, .pinned], laidTests := true, laidLooks := .later }
def DescReadsUptoCardSaid : Prop := Claim7.holds Tryz.pinned (.plain (OpenSpec.upto descReadsSpec)) descReadsUptoCard

/-- THE SECOND FORM's CARD OF 'grammarlablaw19.DescParses'. -/
def descParsesUptoCard : Claim7 := { stood := { row := descParsesUptoRow, standIns := [], harness := (true, "c9290fb13c74ad3a826c7a2e0689ab6adbc4ee9d7be0d05032c72f4a9f2ae9ff"), looks := true }, kinds := [], alts := [], laidByText := true, laidKinds := [.data, .data, .data, .data, .sentinel, .sentinel, .pinned], laidTests := true, laidLooks := .later }
def DescParsesUptoCardSaid : Prop := Claim7.holds Tryz.pinned (.plain (OpenSpec.upto descParsesSpec)) descParsesUptoCard

/-- THE SECOND FORM's CARD OF 'grammarlablaw19.DescPrints'. -/
def descPrintsUptoCard : Claim7 := { stood := { row := descPrintsUptoRow, standIns := [], harness := (true, "c9290fb13c74ad3a826c7a2e0689ab6adbc4ee9d7be0d05032c72f4a9f2ae9ff"), looks := true }, kinds := [], alts := [], laidByText := true, laidKinds := [.data, .data, .data, .data, .sentinel, .sentinel, .pinned], laidTests := true, laidLooks := .later }
def DescPrintsUptoCardSaid : Prop := Claim7.holds Tryz.pinned (.plain (OpenSpec.upto descPrintsSpec)) descPrintsUptoCard

/-- THE SECOND FORM's CARD OF 'grammarlablaw19.DescBack'. -/
def descBackUptoCard : Claim7 := { stood := { row := descBackUptoRow, standIns := [], harness := (true, "c9290fb13c74ad3a826c7a2e0689ab6adbc4ee9d7be0d05032c72f4a9f2ae9ff"), looks := true }, kinds := [], alts := [], laidByText := true, laidKinds := [.data, .data, .data, .data, .sentinel, .sentinel, .pinned], laidTests := true, laidLooks := .later }
def DescBackUptoCardSaid : Prop := Claim7.holds Tryz.pinned (.plain (OpenSpec.upto descBackSpec)) descBackUptoCard

/-- THE SECOND FORM's CARD OF 'grammarlablaw19.DescSpaces'. -/
def descSpacesUptoCard : Claim7 := { stood := { row := descSpacesUptoRow, standIns := [], harness := (true, "c9290fb13c74ad3a826c7a2e0689ab6adbc4ee9d7be0d05032c72f4a9f2ae9ff"), looks := true }, kinds := [], alts := [], laidByText := true, laidKinds := [.data, .data, .data, .data, .sentinel, .sentinel, .pinned], laidTests := true, laidLooks := .later }
def DescSpacesUptoCardSaid : Prop := Claim7.holds Tryz.pinned (.plain (OpenSpec.upto descSpacesSpec)) descSpacesUptoCard

/-- THE SECOND FORM's CARD OF 'grammarlablaw19.DescNames'. -/
def descNamesUptoCard : Claim7 := { stood := { row := descNamesUptoRow, standIns := [], harness := (true, "c9290fb13c74ad3a826c7a2e0689ab6adbc4ee9d7be0d05032c72f4a9f2ae9ff"), looks := true }, kinds := [], alts := [], laidByText := true, laidKinds := [.data, .data, .data, .data, .sentinel, .sentinel, .pinned], laidTests := true, laidLooks := .later }
def DescNamesUptoCardSaid : Prop := Claim7.holds Tryz.pinned (.plain (OpenSpec.upto descNamesSpec)) descNamesUptoCard

/-- THE SECOND FORM's CARD OF 'grammarlablaw19.DescJoins'. -/
def descJoinsUptoCard : Claim7 := { stood := { row := descJoinsUptoRow, standIns := [], harness := (true, "c9290fb13c74ad3a826c7a2e0689ab6adbc4ee9d7be0d05032c72f4a9f2ae9ff"), looks := true }, kinds := [], alts := [], laidByText := true, laidKinds := [.data, .data, .data, .data, .sentinel, .sentinel, .pinned], laidTests := true, laidLooks := .later }
def DescJoinsUptoCardSaid : Prop := Claim7.holds Tryz.pinned (.plain (OpenSpec.upto descJoinsSpec)) descJoinsUptoCard

/-- THE SECOND FORM's CARD OF 'grammarlablaw19.DescPrefix'. -/
def descPrefixUptoCard : Claim7 := { stood := { row := descPrefixUptoRow, standIns := [], harness := (true, "c9290fb13c74ad3a826c7a2e0689ab6adbc4ee9d7be0d05032c72f4a9f2ae9ff"), looks := true }, kinds := [], alts := [], laidByText := true, laidKinds := [.data, .data, .data, .data, .sentinel, .sentinel, .pinned], laidTests := true, laidLooks := .later }
def DescPrefixUptoCardSaid : Prop := Claim7.holds Tryz.pinned (.plain (OpenSpec.upto descPrefixSpec)) descPrefixUptoCard
end Rows
end Go.Proofs.YtjkkgbdoeaihmaaGreatDoor
