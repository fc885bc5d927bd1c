/- Auxiliary facts. -/
import Derived.Test.YtmplckgbeaifkaaGreatDoorVCQ68
import Derived.Test.YtmplckgbeaifkaaGreatDoorVCQ69
import Derived.Test.YtmplckgbeaifkaaGreatDoorVCQ46
set_option linter.unusedSimpArgs false
set_option linter.unusedVariables false
namespace Go.Proofs.YtmplckgbeaifkaaGreatDoor
open Go Go.Abs
variable {q : Gl}
theorem TBI.row {cs:List T} (b:TBI cs):Row.cells 39 (cs.map .t)=bRow b.ver b.u:=congrArg (fun c:List T=>Row.cells 39 (c.map .t)) b.e
end Go.Proofs.YtmplckgbeaifkaaGreatDoor
