/- Auxiliary facts. -/
import Derived.Test.YtmgjopafgboljaaGreatDoorVEQ53
set_option linter.unusedSimpArgs false
set_option linter.unusedVariables false
namespace Go.Proofs.YtmgjopafgboljaaGreatDoor
open Go Go.Abs
noncomputable def A7a:A0p:=cm Tryz.f9 51
theorem B3f {q:Gl}:FnOK Tryz.prog (G q) 9 3 51 A7a [(.tmp 6)]:=fk Tryz.func9 (by kernel_rfl) (by kernel_rfl)
end Go.Proofs.YtmgjopafgboljaaGreatDoor
