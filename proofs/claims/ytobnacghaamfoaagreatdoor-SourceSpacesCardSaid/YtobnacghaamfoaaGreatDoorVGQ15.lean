/- Auxiliary facts. -/
import Derived.Test.YtobnacghaamfoaaGreatDoorVGQ11
import Derived.Test.YtobnacghaamfoaaGreatDoorVGQ09
set_option linter.unusedSimpArgs false
set_option linter.unusedVariables false
namespace Go.Proofs.YtobnacghaamfoaaGreatDoor
open Go Go.Abs
noncomputable def aS:An:=cm Tryz.f6 80
theorem vG {q:Gl}:A6 Tryz.prog (G q) 6 1 80 aS [(.tmp 2)]:=fk Tryz.func6 (by kernel_rfl) (by kernel_rfl)
end Go.Proofs.YtobnacghaamfoaaGreatDoor
