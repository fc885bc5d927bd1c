/- Auxiliary facts. -/
import Derived.Test.YtmplckgbeaifkaaGreatDoorVCQ46
import Derived.Test.YtmplckgbeaifkaaGreatDoorVCQ45
import Derived.Test.YtmplckgbeaifkaaGreatDoorVCQ23
set_option linter.unusedSimpArgs false
set_option linter.unusedVariables false
namespace Go.Proofs.YtmplckgbeaifkaaGreatDoor
open Go Go.Abs
variable {q : Gl}
def mx2:List DC:=[DC.of dNp,DC.of dVp]
theorem sm2:SmR xC mx2:=⟨by unfold SmK;decide,by decide⟩
end Go.Proofs.YtmplckgbeaifkaaGreatDoor
