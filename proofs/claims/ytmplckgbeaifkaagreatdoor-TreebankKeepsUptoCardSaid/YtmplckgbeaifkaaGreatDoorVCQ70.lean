/- Auxiliary facts. -/
import Derived.Test.YtmplckgbeaifkaaGreatDoorVCQ68
import Derived.Test.YtmplckgbeaifkaaGreatDoorVCQ69
set_option linter.unusedSimpArgs false
set_option linter.unusedVariables false
namespace Go.Proofs.YtmplckgbeaifkaaGreatDoor
open Go Go.Abs
variable {q : Gl}
theorem TBI.sort {cs:List T} (b:TBI cs) (h:chkT b.tb=0):A8c b.l/\b.l.length<=256:=by
 obtain⟨_,h1,_,h2⟩:=A6t.1 h;exact⟨h2,by simpa[TBI.tb]using h1⟩
theorem A9x (c:IC):c.cs.length=9:=c.ok.len
end Go.Proofs.YtmplckgbeaifkaaGreatDoor
