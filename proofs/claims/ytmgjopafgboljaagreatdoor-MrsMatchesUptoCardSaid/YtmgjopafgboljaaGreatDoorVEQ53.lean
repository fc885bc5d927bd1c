/- Auxiliary facts. -/
import Derived.Test.YtmgjopafgboljaaGreatDoorVEQ48
set_option linter.unusedSimpArgs false
set_option linter.unusedVariables false
namespace Go.Proofs.YtmgjopafgboljaaGreatDoor
open Go Go.Abs
noncomputable def C3f:A0p:=cm Tryz.f20 13
theorem D6z {q:Gl}:FnOK Tryz.prog (G q) 20 2 13 C3f [(.tmp 4)]:=fk Tryz.func20 (by kernel_rfl) (by kernel_rfl)
end Go.Proofs.YtmgjopafgboljaaGreatDoor
