/- Auxiliary facts. -/
import Derived.Test.YtmplckgbeaifkaaGreatDoorVCQ43
set_option linter.unusedSimpArgs false
set_option linter.unusedVariables false
namespace Go.Proofs.YtmplckgbeaifkaaGreatDoor
open Go Go.Abs
variable {q : Gl}
structure RD where
 t:T
 m:List DC
 ok:IsS eDC t m
end Go.Proofs.YtmplckgbeaifkaaGreatDoor
