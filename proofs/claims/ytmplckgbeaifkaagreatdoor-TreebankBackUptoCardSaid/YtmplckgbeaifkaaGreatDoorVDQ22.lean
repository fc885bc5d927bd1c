/- Auxiliary facts. -/
import Derived.StillTailTactics
import Derived.Sort.Grow
import Derived.Test.YtmplckgbeaifkaaGreatDoorVDQ21
set_option linter.unusedSimpArgs false
set_option linter.unusedVariables false
namespace Go.Proofs.YtmplckgbeaifkaaGreatDoor
open Go Go.Abs Go.Sort
variable {q : Gl}
instance:Inhabited Pr:=⟨zPr⟩
end Go.Proofs.YtmplckgbeaifkaaGreatDoor
