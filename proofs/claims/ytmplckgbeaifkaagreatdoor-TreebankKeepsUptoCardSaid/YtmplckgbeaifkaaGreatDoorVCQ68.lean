/- Auxiliary facts. -/
import Derived.Test.YtmplckgbeaifkaaGreatDoorVCQ65
set_option linter.unusedSimpArgs false
set_option linter.unusedVariables false
namespace Go.Proofs.YtmplckgbeaifkaaGreatDoor
open Go Go.Abs
variable {q : Gl}
theorem TBI.ck {cs:List T} (b:TBI cs):gChk [.ag cs]=some (iv (chkT b.tb)):=by
 have:=C3y (ver:=b.ver) b.hu b.sm;rw[<-b.e]at this;exact this
end Go.Proofs.YtmplckgbeaifkaaGreatDoor
