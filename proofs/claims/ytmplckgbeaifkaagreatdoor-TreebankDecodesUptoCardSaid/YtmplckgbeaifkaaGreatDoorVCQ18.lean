/- Auxiliary facts. -/
import Derived.Test.YtmplckgbeaifkaaGreatDoorVCQ17
set_option linter.unusedSimpArgs false
set_option linter.unusedVariables false
namespace Go.Proofs.YtmplckgbeaifkaaGreatDoor
open Go Go.Abs
variable {q : Gl}
structure RW where
 j:Nat
 out:List (List UInt8)
 w:List UInt8
end Go.Proofs.YtmplckgbeaifkaaGreatDoor
