/- Auxiliary facts. -/
import Derived.Test.YtmgjopafgboljaaGreatDoorVEQ29
import Derived.Test.YtmgjopafgboljaaGreatDoorVEQ31
set_option linter.unusedSimpArgs false
set_option linter.unusedVariables false
namespace Go.Proofs.YtmgjopafgboljaaGreatDoor
open Go Go.Abs
noncomputable def B8r:A0p:=cm Tryz.f19 131
theorem D1z {q:Gl}:FnOK Tryz.prog (G q) 19 1 131 B8r [(.cell 2 true 5)]:=fk Tryz.func19 (by kernel_rfl) (by kernel_rfl)
end Go.Proofs.YtmgjopafgboljaaGreatDoor
