/- Auxiliary facts. -/
import Derived.Test.YtmplckgbeaifkaaGreatDoorVCQ32
import Derived.Test.YtmplckgbeaifkaaGreatDoorVCQ43
set_option linter.unusedSimpArgs false
set_option linter.unusedVariables false
namespace Go.Proofs.YtmplckgbeaifkaaGreatDoor
open Go Go.Abs
noncomputable def D4a:A0i:=cm Tryz.f43 28
theorem F0y {q:Gl}:FnOK Tryz.prog (G q) 43 2 28 D4a [(.cell 4 true 9),(.tmp 5)]:=fk Tryz.func43 (by kernel_rfl) (by kernel_rfl)
noncomputable def C0h:A0i:=cm Tryz.f45 42
theorem D4b {q:Gl}:FnOK Tryz.prog (G q) 45 2 42 C0h [(.cell 4 true 2),(.tmp 5)]:=fk Tryz.func45 (by kernel_rfl) (by kernel_rfl)
noncomputable def A9k:A0i:=cm Tryz.f10 67
theorem B7v {q:Gl}:FnOK Tryz.prog (G q) 10 2 67 A9k [(.tmp 4)]:=fk Tryz.func10 (by kernel_rfl) (by kernel_rfl)
end Go.Proofs.YtmplckgbeaifkaaGreatDoor
