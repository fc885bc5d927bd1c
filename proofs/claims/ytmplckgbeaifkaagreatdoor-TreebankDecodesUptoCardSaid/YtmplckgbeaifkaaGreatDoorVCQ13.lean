/- Auxiliary facts. -/
import Derived.Test.YtmplckgbeaifkaaGreatDoorVCQ12
set_option linter.unusedSimpArgs false
set_option linter.unusedVariables false
namespace Go.Proofs.YtmplckgbeaifkaaGreatDoor
open Go Go.Abs
noncomputable def C2c:A0i:=cm Tryz.f145 57
theorem D6b {q:Gl}:FnOK Tryz.prog (G q) 145 1 57 C2c [(.tmp 2),(.tmp 3)]:=fk Tryz.func145 (by kernel_rfl) (by kernel_rfl)
end Go.Proofs.YtmplckgbeaifkaaGreatDoor
