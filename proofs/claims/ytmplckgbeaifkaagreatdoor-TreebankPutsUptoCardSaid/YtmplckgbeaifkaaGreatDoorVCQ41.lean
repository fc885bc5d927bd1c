/- Auxiliary facts. -/
import Derived.Test.YtmplckgbeaifkaaGreatDoorVCQ32
import Derived.Test.YtmplckgbeaifkaaGreatDoorVCQ43
set_option linter.unusedSimpArgs false
set_option linter.unusedVariables false
namespace Go.Proofs.YtmplckgbeaifkaaGreatDoor
open Go Go.Abs
noncomputable def D3z:A0i:=cm Tryz.f40 71
theorem F0x {q:Gl}:FnOK Tryz.prog (G q) 40 2 71 D3z [(.cell 4 true 2),(.tmp 5)]:=fk Tryz.func40 (by kernel_rfl) (by kernel_rfl)
noncomputable def C7t:A0i:=cm Tryz.f74 9
theorem E5f {q:Gl}:FnOK Tryz.prog (G q) 74 1 9 C7t [(.tmp 2)]:=fk Tryz.func74 (by kernel_rfl) (by kernel_rfl)
noncomputable def A9j:A0i:=cm Tryz.f9 46
theorem B7u {q:Gl}:FnOK Tryz.prog (G q) 9 2 46 A9j [(.tmp 4)]:=fk Tryz.func9 (by kernel_rfl) (by kernel_rfl)
end Go.Proofs.YtmplckgbeaifkaaGreatDoor
