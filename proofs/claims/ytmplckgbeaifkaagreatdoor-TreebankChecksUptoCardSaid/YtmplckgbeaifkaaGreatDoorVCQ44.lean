/- Auxiliary facts. -/
import Derived.Test.YtmplckgbeaifkaaGreatDoorVCQ43
set_option linter.unusedSimpArgs false
set_option linter.unusedVariables false
namespace Go.Proofs.YtmplckgbeaifkaaGreatDoor
open Go Go.Abs
noncomputable def A7o:A0i:=cm Tryz.f8 15
theorem B4k {q:Gl}:FnOK Tryz.prog (G q) 8 1 15 A7o [(.tmp 2)]:=fk Tryz.func8 (by kernel_rfl) (by kernel_rfl)
end Go.Proofs.YtmplckgbeaifkaaGreatDoor
