/- Auxiliary facts. -/
import Derived.Test.YtobnacghaamfoaaGreatDoorVGQ11
import Derived.Test.YtobnacghaamfoaaGreatDoorVGQ09
set_option linter.unusedSimpArgs false
set_option linter.unusedVariables false
open Go.Proofs.Tryz renaming prog->Xa
namespace Go.Proofs.YtobnacghaamfoaaGreatDoor
open Go Go.Abs
noncomputable def aR:An:=cm Tryz.f12 76
theorem vA {q:Gl}:A6 Xa (G q) 12 2 76 aR [(.cell 4 true 2),(.tmp 5),(.tmp 6)]:=fk Tryz.func12 (by kernel_rfl) (by kernel_rfl)
noncomputable def SV:An:=cm Tryz.f24 19
theorem vB {q:Gl}:A6 Xa (G q) 24 3 19 SV [(.tmp 6)]:=fk Tryz.func24 (by kernel_rfl) (by kernel_rfl)
noncomputable def SX:An:=cm Tryz.f25 9
theorem vC {q:Gl}:A6 Xa (G q) 25 2 9 SX [(.tmp 4)]:=fk Tryz.func25 (by kernel_rfl) (by kernel_rfl)
noncomputable def SY:An:=cm Tryz.f26 20
theorem vD {q:Gl}:A6 Xa (G q) 26 3 20 SY [(.tmp 6)]:=fk Tryz.func26 (by kernel_rfl) (by kernel_rfl)
noncomputable def Qv:An:=cm Tryz.f27 28
theorem vE {q:Gl}:A6 Xa (G q) 27 3 28 Qv [(.tmp 6)]:=fk Tryz.func27 (by kernel_rfl) (by kernel_rfl)
noncomputable def Lh:An:=cm Tryz.f3 78
theorem vF {q:Gl}:A6 Xa (G q) 3 3 78 Lh [(.tmp 6)]:=fk Tryz.func3 (by kernel_rfl) (by kernel_rfl)
end Go.Proofs.YtobnacghaamfoaaGreatDoor
