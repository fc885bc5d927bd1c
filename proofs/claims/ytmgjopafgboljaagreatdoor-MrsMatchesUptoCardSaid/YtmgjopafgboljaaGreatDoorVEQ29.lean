/- Auxiliary facts. -/
import Derived.Test.YtmgjopafgboljaaGreatDoorVEQ28
set_option linter.unusedSimpArgs false
set_option linter.unusedVariables false
namespace Go.Proofs.YtmgjopafgboljaaGreatDoor
open Go Go.Abs
noncomputable def C2j:A0p:=cm Tryz.f41 19
theorem D5y {q:Gl}:FnOK Tryz.prog (G q) 41 2 19 C2j [(.tmp 4)]:=fk Tryz.func41 (by kernel_rfl) (by kernel_rfl)
noncomputable def B8q:A0p:=cm Tryz.f35 30
theorem D1y {q:Gl}:FnOK Tryz.prog (G q) 35 1 30 B8q [(.tmp 2)]:=fk Tryz.func35 (by kernel_rfl) (by kernel_rfl)
end Go.Proofs.YtmgjopafgboljaaGreatDoor
