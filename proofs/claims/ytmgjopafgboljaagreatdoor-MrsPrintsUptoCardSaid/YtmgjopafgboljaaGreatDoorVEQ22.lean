/- Auxiliary facts. -/
import Derived.Test.YtmgjopafgboljaaGreatDoorVEQ21
set_option linter.unusedSimpArgs false
set_option linter.unusedVariables false
namespace Go.Proofs.YtmgjopafgboljaaGreatDoor
open Go Go.Abs
noncomputable def B5n:A0p:=cm Tryz.f95 30
theorem C7j {q:Gl}:FnOK Tryz.prog (G q) 95 1 30 B5n [(.tmp 2)]:=fk Tryz.func95 (by kernel_rfl) (by kernel_rfl)
end Go.Proofs.YtmgjopafgboljaaGreatDoor
