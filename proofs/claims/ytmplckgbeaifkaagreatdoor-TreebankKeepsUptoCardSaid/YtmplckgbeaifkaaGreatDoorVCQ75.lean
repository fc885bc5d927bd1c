/- Auxiliary facts. -/
import Derived.Test.YtmplckgbeaifkaaGreatDoorVCQ46
import Derived.Test.YtmplckgbeaifkaaGreatDoorVCQ61
import Derived.Test.YtmplckgbeaifkaaGreatDoorVCQ22
set_option linter.unusedSimpArgs false
set_option linter.unusedVariables false
namespace Go.Proofs.YtmplckgbeaifkaaGreatDoor
open Go Go.Abs
variable {q : Gl}
abbrev zTbR:Row:=.cells 39 [.t (.v (.string ⟨#[]⟩)),.t (.v (.slice none 0 0))]
end Go.Proofs.YtmplckgbeaifkaaGreatDoor
