/- Auxiliary facts. -/
import Derived.Test.YtmgjopafgboljaaGreatDoorVEQ29
set_option linter.unusedSimpArgs false
set_option linter.unusedVariables false
namespace Go.Proofs.YtmgjopafgboljaaGreatDoor
open Go Go.Abs
noncomputable def C2k:A0p:=cm Tryz.f15 31
theorem D5z {q:Gl}:FnOK Tryz.prog (G q) 15 1 31 C2k [(.tmp 2)]:=fk Tryz.func15 (by kernel_rfl) (by kernel_rfl)
end Go.Proofs.YtmgjopafgboljaaGreatDoor
