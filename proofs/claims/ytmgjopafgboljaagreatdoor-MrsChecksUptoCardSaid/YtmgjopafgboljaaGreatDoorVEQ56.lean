/- Auxiliary facts. -/
import Derived.Test.YtmgjopafgboljaaGreatDoorVEQ48
set_option linter.unusedSimpArgs false
set_option linter.unusedVariables false
namespace Go.Proofs.YtmgjopafgboljaaGreatDoor
open Go Go.Abs
noncomputable def B1y:A0p:=cm Tryz.f3 15
theorem C3g {q:Gl}:FnOK Tryz.prog (G q) 3 1 15 B1y [(.tmp 2)]:=fk Tryz.func3 (by kernel_rfl) (by kernel_rfl)
end Go.Proofs.YtmgjopafgboljaaGreatDoor
