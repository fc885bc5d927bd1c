/- Auxiliary facts. -/
import Derived.Test.YtmgjopafgboljaaGreatDoorVEQ48
set_option linter.unusedSimpArgs false
set_option linter.unusedVariables false
namespace Go.Proofs.YtmgjopafgboljaaGreatDoor
open Go Go.Abs
noncomputable def A9q:A0p:=cm Tryz.f11 36
theorem B7v {q:Gl}:FnOK Tryz.prog (G q) 11 1 36 A9q [(.tmp 2)]:=fk Tryz.func11 (by kernel_rfl) (by kernel_rfl)
end Go.Proofs.YtmgjopafgboljaaGreatDoor
