/- Auxiliary facts. -/
import Derived.Test.YtobnacghaamfoaaGreatDoorVGQ11
set_option linter.unusedSimpArgs false
set_option linter.unusedVariables false
open Go.Proofs.Tryz renaming prog->Xa
namespace Go.Proofs.YtobnacghaamfoaaGreatDoor
open Go Go.Abs
noncomputable def aK:An:=cm Tryz.f84 31
theorem uV {q:Gl}:A6 Xa (G q) 84 2 31 aK [(.tmp 4)]:=fk Tryz.func84 (by kernel_rfl) (by kernel_rfl)
noncomputable def aL:An:=cm Tryz.f85 27
theorem uW {q:Gl}:A6 Xa (G q) 85 2 27 aL [(.tmp 4)]:=fk Tryz.func85 (by kernel_rfl) (by kernel_rfl)
noncomputable def aM:An:=cm Tryz.f16 27
theorem uX {q:Gl}:A6 Xa (G q) 16 2 27 aM [(.tmp 4)]:=fk Tryz.func16 (by kernel_rfl) (by kernel_rfl)
noncomputable def aN:An:=cm Tryz.f19 57
theorem uY {q:Gl}:A6 Xa (G q) 19 2 57 aN [(.tmp 4)]:=fk Tryz.func19 (by kernel_rfl) (by kernel_rfl)
noncomputable def aO:An:=cm Tryz.f45 85
theorem uZ {q:Gl}:A6 Xa (G q) 45 2 85 aO [(.tmp 4)]:=fk Tryz.func45 (by kernel_rfl) (by kernel_rfl)
noncomputable def aP:An:=cm Tryz.f46 56
theorem v7 {q:Gl}:A6 Xa (G q) 46 2 56 aP [(.tmp 4)]:=fk Tryz.func46 (by kernel_rfl) (by kernel_rfl)
noncomputable def aQ:An:=cm Tryz.f47 130
theorem v8 {q:Gl}:A6 Xa (G q) 47 2 130 aQ [(.tmp 4)]:=fk Tryz.func47 (by kernel_rfl) (by kernel_rfl)
end Go.Proofs.YtobnacghaamfoaaGreatDoor
