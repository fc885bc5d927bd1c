/-
  No cell of these rows narrows 'for every input' (looked for: loops, veiled, ifaces, maps, wideKeys, modest, calm, conditions, laid).
  DERIVED. THE GIVEN ROWS OF THIS SEAT. 12 by the template 'for every input the law returns true; each argument reads behind the call as it read before'; 0 by the template 'total and deterministic' (their statements: YtbiadmfmjnoecaaTotals.lean).
  GIVEN WITH THE SEED: the statements are not yours to turn. If you find one false, say at which input.
  Laid BY PROGRAM, IN A SANDBOX (cutbox-rows.mjs): the forced cells as the released guide's own fill.sh prints them over the translation 2454e117e048fe26… (all of the seat's roots in one cut). By AI agents, Wed Nov 11 2026. No macro, syntax, notation, axiom, sorry.
-/
import Derived.Test.YtbiadmfmjnoecaaChecked
import GoSem.Claim
import GoSem.ClaimJoined
import GoSem.ClaimMapViews
import Derived.JoinedTies
import Derived.KernelRfl
namespace Go.Proofs.Ytbiadmfmjnoecaa
/- THE CELL 'sum', in the pinned program and in every row, IS THE sha256 OF THE DUMP (.gsa) THAT YtbiadmfmjnoecaaProg.lean LOADS. Nothing in Lean hashes anything: it is a label: what it is worth is what the hold of that sum in a sandbox is worth. -/
noncomputable def Try.pinned : Pinned := { name := "ytbiadmfmjnoecaa", sum := "2454e117e048fe266288b2ed2fe7e20fdd9a0b0ddb680dceba14e874c4b3a771", checked := Try.checked }
namespace Rows
def none {H : Type} : Left H := { results := [], args := [] }

/-- 'grammarlablaw09.SubsumeMaps': WHATEVER THE INPUT: true; the input reads as it did. -/
def subsumeMapsSpec : ChangeSpec := { name := "subsumeMaps", fn := fun _ => fun
  | [d1, d2, d3] => { results := [.lit (.bool true)], args := [d1, d2, d3] }
  | _ => none }
def subsumeMapsRow : OpenClaim := { program := "ytbiadmfmjnoecaa", sum := "2454e117e048fe266288b2ed2fe7e20fdd9a0b0ddb680dceba14e874c4b3a771", func := "grammarlab/grammarlablaw09.SubsumeMaps", spec := "subsumeMaps", unfollowed := true, recurses := true, plainKeys := false, apart := false }
def SubsumeMapsSaid : Prop := subsumeMapsRow.holds Try.pinned (OpenSpec.ofChange subsumeMapsSpec)

/-- ITS FALSE NEIGHBOUR: 'it returns false'. Refute it at one input. -/
def subsumeMapsWrong : ChangeSpec := { name := "subsumeMaps", fn := fun _ => fun
  | [d1, d2, d3] => { results := [.lit (.bool false)], args := [d1, d2, d3] }
  | _ => none }
def SubsumeMapsWrongFalsely : Prop := subsumeMapsRow.holds Try.pinned (OpenSpec.ofChange subsumeMapsWrong)

/-- 'grammarlablaw09.SubsumeCompares': WHATEVER THE INPUT: true; the input reads as it did. -/
def subsumeComparesSpec : ChangeSpec := { name := "subsumeCompares", fn := fun _ => fun
  | [d1, d2, d3] => { results := [.lit (.bool true)], args := [d1, d2, d3] }
  | _ => none }
def subsumeComparesRow : OpenClaim := { program := "ytbiadmfmjnoecaa", sum := "2454e117e048fe266288b2ed2fe7e20fdd9a0b0ddb680dceba14e874c4b3a771", func := "grammarlab/grammarlablaw09.SubsumeCompares", spec := "subsumeCompares", unfollowed := true, recurses := true, plainKeys := false, apart := false }
def SubsumeComparesSaid : Prop := subsumeComparesRow.holds Try.pinned (OpenSpec.ofChange subsumeComparesSpec)

/-- ITS FALSE NEIGHBOUR: 'it returns false'. Refute it at one input. -/
def subsumeComparesWrong : ChangeSpec := { name := "subsumeCompares", fn := fun _ => fun
  | [d1, d2, d3] => { results := [.lit (.bool false)], args := [d1, d2, d3] }
  | _ => none }
def SubsumeComparesWrongFalsely : Prop := subsumeComparesRow.holds Try.pinned (OpenSpec.ofChange subsumeComparesWrong)

/-- 'grammarlablaw09.SubsumeMaximal': WHATEVER THE INPUT: true; the input reads as it did. -/
def subsumeMaximalSpec : ChangeSpec := { name := "subsumeMaximal", fn := fun _ => fun
  | [d1, d2] => { results := [.lit (.bool true)], args := [d1, d2] }
  | _ => none }
def subsumeMaximalRow : OpenClaim := { program := "ytbiadmfmjnoecaa", sum := "2454e117e048fe266288b2ed2fe7e20fdd9a0b0ddb680dceba14e874c4b3a771", func := "grammarlab/grammarlablaw09.SubsumeMaximal", spec := "subsumeMaximal", unfollowed := true, recurses := true, plainKeys := false, apart := false }
def SubsumeMaximalSaid : Prop := subsumeMaximalRow.holds Try.pinned (OpenSpec.ofChange subsumeMaximalSpec)

/-- ITS FALSE NEIGHBOUR: 'it returns false'. Refute it at one input. -/
def subsumeMaximalWrong : ChangeSpec := { name := "subsumeMaximal", fn := fun _ => fun
  | [d1, d2] => { results := [.lit (.bool false)], args := [d1, d2] }
  | _ => none }
def SubsumeMaximalWrongFalsely : Prop := subsumeMaximalRow.holds Try.pinned (OpenSpec.ofChange subsumeMaximalWrong)

/-- 'grammarlablaw09.SubsumeCovers': WHATEVER THE INPUT: true; the input reads as it did. -/
def subsumeCoversSpec : ChangeSpec := { name := "subsumeCovers", fn := fun _ => fun
  | [d1, d2] => { results := [.lit (.bool true)], args := [d1, d2] }
  | _ => none }
def subsumeCoversRow : OpenClaim := { program := "ytbiadmfmjnoecaa", sum := "2454e117e048fe266288b2ed2fe7e20fdd9a0b0ddb680dceba14e874c4b3a771", func := "grammarlab/grammarlablaw09.SubsumeCovers", spec := "subsumeCovers", unfollowed := true, recurses := true, plainKeys := false, apart := false }
def SubsumeCoversSaid : Prop := subsumeCoversRow.holds Try.pinned (OpenSpec.ofChange subsumeCoversSpec)

/-- ITS FALSE NEIGHBOUR: 'it returns false'. Refute it at one input. -/
def subsumeCoversWrong : ChangeSpec := { name := "subsumeCovers", fn := fun _ => fun
  | [d1, d2] => { results := [.lit (.bool false)], args := [d1, d2] }
  | _ => none }
def SubsumeCoversWrongFalsely : Prop := subsumeCoversRow.holds Try.pinned (OpenSpec.ofChange subsumeCoversWrong)

/-- 'grammarlablaw09.SubsumeChains': WHATEVER THE INPUT: true; the input reads as it did. -/
def subsumeChainsSpec : ChangeSpec := { name := "subsumeChains", fn := fun _ => fun
  | [d1, d2] => { results := [.lit (.bool true)], args := [d1, d2] }
  | _ => none }
def subsumeChainsRow : OpenClaim := { program := "ytbiadmfmjnoecaa", sum := "2454e117e048fe266288b2ed2fe7e20fdd9a0b0ddb680dceba14e874c4b3a771", func := "grammarlab/grammarlablaw09.SubsumeChains", spec := "subsumeChains", unfollowed := true, recurses := true, plainKeys := false, apart := false }
def SubsumeChainsSaid : Prop := subsumeChainsRow.holds Try.pinned (OpenSpec.ofChange subsumeChainsSpec)

/-- ITS FALSE NEIGHBOUR: 'it returns false'. Refute it at one input. -/
def subsumeChainsWrong : ChangeSpec := { name := "subsumeChains", fn := fun _ => fun
  | [d1, d2] => { results := [.lit (.bool false)], args := [d1, d2] }
  | _ => none }
def SubsumeChainsWrongFalsely : Prop := subsumeChainsRow.holds Try.pinned (OpenSpec.ofChange subsumeChainsWrong)

/-- 'grammarlablaw09.SubsumePaths': WHATEVER THE INPUT: true; the input reads as it did. -/
def subsumePathsSpec : ChangeSpec := { name := "subsumePaths", fn := fun _ => fun
  | [d1, d2, d3] => { results := [.lit (.bool true)], args := [d1, d2, d3] }
  | _ => none }
def subsumePathsRow : OpenClaim := { program := "ytbiadmfmjnoecaa", sum := "2454e117e048fe266288b2ed2fe7e20fdd9a0b0ddb680dceba14e874c4b3a771", func := "grammarlab/grammarlablaw09.SubsumePaths", spec := "subsumePaths", unfollowed := true, recurses := true, plainKeys := false, apart := false }
def SubsumePathsSaid : Prop := subsumePathsRow.holds Try.pinned (OpenSpec.ofChange subsumePathsSpec)

/-- ITS FALSE NEIGHBOUR: 'it returns false'. Refute it at one input. -/
def subsumePathsWrong : ChangeSpec := { name := "subsumePaths", fn := fun _ => fun
  | [d1, d2, d3] => { results := [.lit (.bool false)], args := [d1, d2, d3] }
  | _ => none }
def SubsumePathsWrongFalsely : Prop := subsumePathsRow.holds Try.pinned (OpenSpec.ofChange subsumePathsWrong)

/-- 'grammarlablaw10.GeneralMakes': WHATEVER THE INPUT: true; the input reads as it did. -/
def generalMakesSpec : ChangeSpec := { name := "generalMakes", fn := fun _ => fun
  | [d1, d2, d3] => { results := [.lit (.bool true)], args := [d1, d2, d3] }
  | _ => none }
def generalMakesRow : OpenClaim := { program := "ytbiadmfmjnoecaa", sum := "2454e117e048fe266288b2ed2fe7e20fdd9a0b0ddb680dceba14e874c4b3a771", func := "grammarlab/grammarlablaw10.GeneralMakes", spec := "generalMakes", unfollowed := true, recurses := true, plainKeys := false, apart := false }
def GeneralMakesSaid : Prop := generalMakesRow.holds Try.pinned (OpenSpec.ofChange generalMakesSpec)

/-- ITS FALSE NEIGHBOUR: 'it returns false'. Refute it at one input. -/
def generalMakesWrong : ChangeSpec := { name := "generalMakes", fn := fun _ => fun
  | [d1, d2, d3] => { results := [.lit (.bool false)], args := [d1, d2, d3] }
  | _ => none }
def GeneralMakesWrongFalsely : Prop := generalMakesRow.holds Try.pinned (OpenSpec.ofChange generalMakesWrong)

/-- 'grammarlablaw10.GeneralLists': WHATEVER THE INPUT: true; the input reads as it did. -/
def generalListsSpec : ChangeSpec := { name := "generalLists", fn := fun _ => fun
  | [d1, d2] => { results := [.lit (.bool true)], args := [d1, d2] }
  | _ => none }
def generalListsRow : OpenClaim := { program := "ytbiadmfmjnoecaa", sum := "2454e117e048fe266288b2ed2fe7e20fdd9a0b0ddb680dceba14e874c4b3a771", func := "grammarlab/grammarlablaw10.GeneralLists", spec := "generalLists", unfollowed := true, recurses := true, plainKeys := false, apart := false }
def GeneralListsSaid : Prop := generalListsRow.holds Try.pinned (OpenSpec.ofChange generalListsSpec)

/-- ITS FALSE NEIGHBOUR: 'it returns false'. Refute it at one input. -/
def generalListsWrong : ChangeSpec := { name := "generalLists", fn := fun _ => fun
  | [d1, d2] => { results := [.lit (.bool false)], args := [d1, d2] }
  | _ => none }
def GeneralListsWrongFalsely : Prop := generalListsRow.holds Try.pinned (OpenSpec.ofChange generalListsWrong)

/-- 'grammarlablaw10.GeneralLeast': WHATEVER THE INPUT: true; the input reads as it did. -/
def generalLeastSpec : ChangeSpec := { name := "generalLeast", fn := fun _ => fun
  | [d1, d2] => { results := [.lit (.bool true)], args := [d1, d2] }
  | _ => none }
def generalLeastRow : OpenClaim := { program := "ytbiadmfmjnoecaa", sum := "2454e117e048fe266288b2ed2fe7e20fdd9a0b0ddb680dceba14e874c4b3a771", func := "grammarlab/grammarlablaw10.GeneralLeast", spec := "generalLeast", unfollowed := true, recurses := true, plainKeys := false, apart := false }
def GeneralLeastSaid : Prop := generalLeastRow.holds Try.pinned (OpenSpec.ofChange generalLeastSpec)

/-- ITS FALSE NEIGHBOUR: 'it returns false'. Refute it at one input. -/
def generalLeastWrong : ChangeSpec := { name := "generalLeast", fn := fun _ => fun
  | [d1, d2] => { results := [.lit (.bool false)], args := [d1, d2] }
  | _ => none }
def GeneralLeastWrongFalsely : Prop := generalLeastRow.holds Try.pinned (OpenSpec.ofChange generalLeastWrong)

/-- 'grammarlablaw10.GeneralLaws': WHATEVER THE INPUT: true; the input reads as it did. -/
def generalLawsSpec : ChangeSpec := { name := "generalLaws", fn := fun _ => fun
  | [d1, d2, d3] => { results := [.lit (.bool true)], args := [d1, d2, d3] }
  | _ => none }
def generalLawsRow : OpenClaim := { program := "ytbiadmfmjnoecaa", sum := "2454e117e048fe266288b2ed2fe7e20fdd9a0b0ddb680dceba14e874c4b3a771", func := "grammarlab/grammarlablaw10.GeneralLaws", spec := "generalLaws", unfollowed := true, recurses := true, plainKeys := false, apart := false }
def GeneralLawsSaid : Prop := generalLawsRow.holds Try.pinned (OpenSpec.ofChange generalLawsSpec)

/-- ITS FALSE NEIGHBOUR: 'it returns false'. Refute it at one input. -/
def generalLawsWrong : ChangeSpec := { name := "generalLaws", fn := fun _ => fun
  | [d1, d2, d3] => { results := [.lit (.bool false)], args := [d1, d2, d3] }
  | _ => none }
def GeneralLawsWrongFalsely : Prop := generalLawsRow.holds Try.pinned (OpenSpec.ofChange generalLawsWrong)

/-- 'grammarlablaw10.GeneralGrows': WHATEVER THE INPUT: true; the input reads as it did. -/
def generalGrowsSpec : ChangeSpec := { name := "generalGrows", fn := fun _ => fun
  | [d1, d2] => { results := [.lit (.bool true)], args := [d1, d2] }
  | _ => none }
def generalGrowsRow : OpenClaim := { program := "ytbiadmfmjnoecaa", sum := "2454e117e048fe266288b2ed2fe7e20fdd9a0b0ddb680dceba14e874c4b3a771", func := "grammarlab/grammarlablaw10.GeneralGrows", spec := "generalGrows", unfollowed := true, recurses := true, plainKeys := false, apart := false }
def GeneralGrowsSaid : Prop := generalGrowsRow.holds Try.pinned (OpenSpec.ofChange generalGrowsSpec)

/-- ITS FALSE NEIGHBOUR: 'it returns false'. Refute it at one input. -/
def generalGrowsWrong : ChangeSpec := { name := "generalGrows", fn := fun _ => fun
  | [d1, d2] => { results := [.lit (.bool false)], args := [d1, d2] }
  | _ => none }
def GeneralGrowsWrongFalsely : Prop := generalGrowsRow.holds Try.pinned (OpenSpec.ofChange generalGrowsWrong)

/-- 'grammarlablaw10.GeneralPaths': WHATEVER THE INPUT: true; the input reads as it did. -/
def generalPathsSpec : ChangeSpec := { name := "generalPaths", fn := fun _ => fun
  | [d1, d2, d3] => { results := [.lit (.bool true)], args := [d1, d2, d3] }
  | _ => none }
def generalPathsRow : OpenClaim := { program := "ytbiadmfmjnoecaa", sum := "2454e117e048fe266288b2ed2fe7e20fdd9a0b0ddb680dceba14e874c4b3a771", func := "grammarlab/grammarlablaw10.GeneralPaths", spec := "generalPaths", unfollowed := true, recurses := true, plainKeys := false, apart := false }
def GeneralPathsSaid : Prop := generalPathsRow.holds Try.pinned (OpenSpec.ofChange generalPathsSpec)

/-- ITS FALSE NEIGHBOUR: 'it returns false'. Refute it at one input. -/
def generalPathsWrong : ChangeSpec := { name := "generalPaths", fn := fun _ => fun
  | [d1, d2, d3] => { results := [.lit (.bool false)], args := [d1, d2, d3] }
  | _ => none }
def GeneralPathsWrongFalsely : Prop := generalPathsRow.holds Try.pinned (OpenSpec.ofChange generalPathsWrong)

/- THE SECOND FORM. 'bulk': how many values and letters a reading holds, each counted each time it is reached (what is shared counts as often as it is met; a slice's spare places count too). A statement '..UptoSaid' is the law's where the arguments, and the package variables that the reading takes, are together of bulk at most 1048576: NARROWER than '..Said'. Prove '..Said' where nothing that the law and all that it calls make is longer than what came in: it says more and counts as full. Else prove '..UptoSaid'. A law counts once. -/
mutual
def uptoBulk {H : Type} : DataW H → Nat
  | .lit (.string bytes) => bytes.length + 1
  | .lit _ => 1
  | .nil => 1
  | .ptr d => uptoBulk d + 1
  | .slice elems spare => uptoBulkAll elems + uptoBulkAll spare + 1
  | .agg parts => uptoBulkAll parts + 1
  | .iface _ d => uptoBulk d + 1
  | .map entries => uptoBulkEntries entries + 1
  | .held _ => 1
def uptoBulkAll {H : Type} : List (DataW H) → Nat
  | [] => 0
  | d :: r => uptoBulk d + uptoBulkAll r
def uptoBulkEntries {H : Type} : List (Lit × DataW H) → Nat
  | [] => 0
  | x :: r => uptoBulkEntry x + uptoBulkEntries r
def uptoBulkEntry {H : Type} : Lit × DataW H → Nat
  | (.string bytes, d) => bytes.length + uptoBulk d + 1
  | (_, d) => uptoBulk d + 1
 end
def uptoSmall : (H : Type) → List (DataW H) → Bool := fun _ ds => decide (uptoBulkAll ds ≤ 1048576)
def OpenSpec.upto (s : _root_.Go.ChangeSpec) : _root_.Go.OpenSpec := { _root_.Go.OpenSpec.ofChange s with cond := some uptoSmall }

/-- 'grammarlablaw09.SubsumeMaps', WHERE WHAT IT READS IS OF BULK AT MOST 1048576: true; the input reads as it did. -/
def subsumeMapsUptoRow : OpenClaim := { program := "ytbiadmfmjnoecaa", sum := "2454e117e048fe266288b2ed2fe7e20fdd9a0b0ddb680dceba14e874c4b3a771", func := "grammarlab/grammarlablaw09.SubsumeMaps", spec := "subsumeMaps", unfollowed := true, recurses := true, plainKeys := false, apart := false, narrowed := true }
def SubsumeMapsUptoSaid : Prop := subsumeMapsUptoRow.holds Try.pinned (OpenSpec.upto subsumeMapsSpec)

/-- 'grammarlablaw09.SubsumeCompares', WHERE WHAT IT READS IS OF BULK AT MOST 1048576: true; the input reads as it did. -/
def subsumeComparesUptoRow : OpenClaim := { program := "ytbiadmfmjnoecaa", sum := "2454e117e048fe266288b2ed2fe7e20fdd9a0b0ddb680dceba14e874c4b3a771", func := "grammarlab/grammarlablaw09.SubsumeCompares", spec := "subsumeCompares", unfollowed := true, recurses := true, plainKeys := false, apart := false, narrowed := true }
def SubsumeComparesUptoSaid : Prop := subsumeComparesUptoRow.holds Try.pinned (OpenSpec.upto subsumeComparesSpec)

/-- 'grammarlablaw09.SubsumeMaximal', WHERE WHAT IT READS IS OF BULK AT MOST 1048576: true; the input reads as it did. -/
def subsumeMaximalUptoRow : OpenClaim := { program := "ytbiadmfmjnoecaa", sum := "2454e117e048fe266288b2ed2fe7e20fdd9a0b0ddb680dceba14e874c4b3a771", func := "grammarlab/grammarlablaw09.SubsumeMaximal", spec := "subsumeMaximal", unfollowed := true, recurses := true, plainKeys := false, apart := false, narrowed := true }
def SubsumeMaximalUptoSaid : Prop := subsumeMaximalUptoRow.holds Try.pinned (OpenSpec.upto subsumeMaximalSpec)

/-- 'grammarlablaw09.SubsumeCovers', WHERE WHAT IT READS IS OF BULK AT MOST 1048576: true; the input reads as it did. -/
def subsumeCoversUptoRow : OpenClaim := { program := "ytbiadmfmjnoecaa", sum := "2454e117e048fe266288b2ed2fe7e20fdd9a0b0ddb680dceba14e874c4b3a771", func := "grammarlab/grammarlablaw09.SubsumeCovers", spec := "subsumeCovers", unfollowed := true, recurses := true, plainKeys := false, apart := false, narrowed := true }
def SubsumeCoversUptoSaid : Prop := subsumeCoversUptoRow.holds Try.pinned (OpenSpec.upto subsumeCoversSpec)

/-- 'grammarlablaw09.SubsumeChains', WHERE WHAT IT READS IS OF BULK AT MOST 1048576: true; the input reads as it did. -/
def subsumeChainsUptoRow : OpenClaim := { program := "ytbiadmfmjnoecaa", sum := "2454e117e048fe266288b2ed2fe7e20fdd9a0b0ddb680dceba14e874c4b3a771", func := "grammarlab/grammarlablaw09.SubsumeChains", spec := "subsumeChains", unfollowed := true, recurses := true, plainKeys := false, apart := false, narrowed := true }
def SubsumeChainsUptoSaid : Prop := subsumeChainsUptoRow.holds Try.pinned (OpenSpec.upto subsumeChainsSpec)

/-- 'grammarlablaw09.SubsumePaths', WHERE WHAT IT READS IS OF BULK AT MOST 1048576: true; the input reads as it did. -/
def subsumePathsUptoRow : OpenClaim := { program := "ytbiadmfmjnoecaa", sum := "2454e117e048fe266288b2ed2fe7e20fdd9a0b0ddb680dceba14e874c4b3a771", func := "grammarlab/grammarlablaw09.SubsumePaths", spec := "subsumePaths", unfollowed := true, recurses := true, plainKeys := false, apart := false, narrowed := true }
def SubsumePathsUptoSaid : Prop := subsumePathsUptoRow.holds Try.pinned (OpenSpec.upto subsumePathsSpec)

/-- 'grammarlablaw10.GeneralMakes', WHERE WHAT IT READS IS OF BULK AT MOST 1048576: true; the input reads as it did. -/
def generalMakesUptoRow : OpenClaim := { program := "ytbiadmfmjnoecaa", sum := "2454e117e048fe266288b2ed2fe7e20fdd9a0b0ddb680dceba14e874c4b3a771", func := "grammarlab/grammarlablaw10.GeneralMakes", spec := "generalMakes", unfollowed := true, recurses := true, plainKeys := false, apart := false, narrowed := true }
def GeneralMakesUptoSaid : Prop := generalMakesUptoRow.holds Try.pinned (OpenSpec.upto generalMakesSpec)

/-- 'grammarlablaw10.GeneralLists', WHERE WHAT IT READS IS OF BULK AT MOST 1048576: true; the input reads as it did. -/
def generalListsUptoRow : OpenClaim := { program := "ytbiadmfmjnoecaa", sum := "2454e117e048fe266288b2ed2fe7e20fdd9a0b0ddb680dceba14e874c4b3a771", func := "grammarlab/grammarlablaw10.GeneralLists", spec := "generalLists", unfollowed := true, recurses := true, plainKeys := false, apart := false, narrowed := true }
def GeneralListsUptoSaid : Prop := generalListsUptoRow.holds Try.pinned (OpenSpec.upto generalListsSpec)

/-- 'grammarlablaw10.GeneralLeast', WHERE WHAT IT READS IS OF BULK AT MOST 1048576: true; the input reads as it did. -/
def generalLeastUptoRow : OpenClaim := { program := "ytbiadmfmjnoecaa", sum := "2454e117e048fe266288b2ed2fe7e20fdd9a0b0ddb680dceba14e874c4b3a771", func := "grammarlab/grammarlablaw10.GeneralLeast", spec := "generalLeast", unfollowed := true, recurses := true, plainKeys := false, apart := false, narrowed := true }
def GeneralLeastUptoSaid : Prop := generalLeastUptoRow.holds Try.pinned (OpenSpec.upto generalLeastSpec)

/-- 'grammarlablaw10.GeneralLaws', WHERE WHAT IT READS IS OF BULK AT MOST 1048576: true; the input reads as it did. -/
def generalLawsUptoRow : OpenClaim := { program := "ytbiadmfmjnoecaa", sum := "2454e117e048fe266288b2ed2fe7e20fdd9a0b0ddb680dceba14e874c4b3a771", func := "grammarlab/grammarlablaw10.GeneralLaws", spec := "generalLaws", unfollowed := true, recurses := true, plainKeys := false, apart := false, narrowed := true }
def GeneralLawsUptoSaid : Prop := generalLawsUptoRow.holds Try.pinned (OpenSpec.upto generalLawsSpec)

/-- 'grammarlablaw10.GeneralGrows', WHERE WHAT IT READS IS OF BULK AT MOST 1048576: true; the input reads as it did. -/
def generalGrowsUptoRow : OpenClaim := { program := "ytbiadmfmjnoecaa", sum := "2454e117e048fe266288b2ed2fe7e20fdd9a0b0ddb680dceba14e874c4b3a771", func := "grammarlab/grammarlablaw10.GeneralGrows", spec := "generalGrows", unfollowed := true, recurses := true, plainKeys := false, apart := false, narrowed := true }
def GeneralGrowsUptoSaid : Prop := generalGrowsUptoRow.holds Try.pinned (OpenSpec.upto generalGrowsSpec)

/-- 'grammarlablaw10.GeneralPaths', WHERE WHAT IT READS IS OF BULK AT MOST 1048576: true; the input reads as it did. -/
def generalPathsUptoRow : OpenClaim := { program := "ytbiadmfmjnoecaa", sum := "2454e117e048fe266288b2ed2fe7e20fdd9a0b0ddb680dceba14e874c4b3a771", func := "grammarlab/grammarlablaw10.GeneralPaths", spec := "generalPaths", unfollowed := true, recurses := true, plainKeys := false, apart := false, narrowed := true }
def GeneralPathsUptoSaid : Prop := generalPathsUptoRow.holds Try.pinned (OpenSpec.upto generalPathsSpec)

end Rows
end Go.Proofs.Ytbiadmfmjnoecaa
