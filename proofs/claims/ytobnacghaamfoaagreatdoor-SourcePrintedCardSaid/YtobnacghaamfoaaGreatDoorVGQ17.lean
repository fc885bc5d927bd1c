/- Auxiliary facts. -/
import Derived.Test.YtobnacghaamfoaaGreatDoorVGQ11
set_option linter.unusedSimpArgs false
set_option linter.unusedVariables false
namespace Go.Proofs.YtobnacghaamfoaaGreatDoor
open Go Go.Abs
noncomputable def aT:An:=cm Tryz.f5 88
theorem vJ {q:Gl}:A6 Tryz.prog (G q) 5 1 88 aT [(.tmp 2)]:=fk Tryz.func5 (by kernel_rfl) (by kernel_rfl)
end Go.Proofs.YtobnacghaamfoaaGreatDoor
