/- Auxiliary facts. -/
import Derived.Test.YtmgjopafgboljaaGreatDoorVEQ28
set_option linter.unusedSimpArgs false
set_option linter.unusedVariables false
namespace Go.Proofs.YtmgjopafgboljaaGreatDoor
open Go Go.Abs
noncomputable def C2l:A0p:=cm Tryz.f17 142
theorem D6a {q:Gl}:FnOK Tryz.prog (G q) 17 2 142 C2l [(.tmp 4)]:=fk Tryz.func17 (by kernel_rfl) (by kernel_rfl)
end Go.Proofs.YtmgjopafgboljaaGreatDoor
