/- Auxiliary facts. -/
import Derived.Test.YtobnacghaamfoaaGreatDoorVGQ11
import Derived.Test.YtobnacghaamfoaaGreatDoorVGQ09
set_option linter.unusedSimpArgs false
set_option linter.unusedVariables false
open Go.Proofs.Tryz renaming prog->Xa
namespace Go.Proofs.YtobnacghaamfoaaGreatDoor
open Go Go.Abs
noncomputable def aD:An:=cm Tryz.f52 80
theorem uJ {q:Gl}:A6 Xa (G q) 52 1 80 aD [(.tmp 2),(.tmp 3)]:=fk Tryz.func52 (by kernel_rfl) (by kernel_rfl)
noncomputable def aE:An:=cm Tryz.f10 71
theorem uK {q:Gl}:A6 Xa (G q) 10 1 71 aE [(.tmp 2),(.tmp 3),(.tmp 4)]:=fk Tryz.func10 (by kernel_rfl) (by kernel_rfl)
noncomputable def SR:An:=cm Tryz.f49 9
theorem uL {q:Gl}:A6 Xa (G q) 49 1 9 SR [(.tmp 2)]:=fk Tryz.func49 (by kernel_rfl) (by kernel_rfl)
noncomputable def SS:An:=cm Tryz.f87 9
theorem uM {q:Gl}:A6 Xa (G q) 87 1 9 SS [(.tmp 2)]:=fk Tryz.func87 (by kernel_rfl) (by kernel_rfl)
noncomputable def HM:An:=cm Tryz.f21 91
theorem uO {q:Gl}:A6 Xa (G q) 21 1 91 HM [(.cell 2 true 3),(.tmp 3),(.tmp 4)]:=fk Tryz.func21 (by kernel_rfl) (by kernel_rfl)
noncomputable def aF:An:=cm Tryz.f86 26
theorem uP {q:Gl}:A6 Xa (G q) 86 2 26 aF [(.tmp 4)]:=fk Tryz.func86 (by kernel_rfl) (by kernel_rfl)
noncomputable def SU:An:=cm Tryz.f48 9
theorem uQ {q:Gl}:A6 Xa (G q) 48 1 9 SU [(.tmp 2)]:=fk Tryz.func48 (by kernel_rfl) (by kernel_rfl)
noncomputable def aG:An:=cm Tryz.f50 20
theorem uR {q:Gl}:A6 Xa (G q) 50 2 20 aG [(.tmp 4)]:=fk Tryz.func50 (by kernel_rfl) (by kernel_rfl)
noncomputable def aH:An:=cm Tryz.f51 25
theorem uS {q:Gl}:A6 Xa (G q) 51 1 25 aH [(.tmp 2)]:=fk Tryz.func51 (by kernel_rfl) (by kernel_rfl)
noncomputable def aI:An:=cm Tryz.f53 27
theorem uT {q:Gl}:A6 Xa (G q) 53 1 27 aI [(.tmp 2),(.tmp 3)]:=fk Tryz.func53 (by kernel_rfl) (by kernel_rfl)
noncomputable def aJ:An:=cm Tryz.f54 37
theorem uU {q:Gl}:A6 Xa (G q) 54 1 37 aJ [(.tmp 2)]:=fk Tryz.func54 (by kernel_rfl) (by kernel_rfl)
end Go.Proofs.YtobnacghaamfoaaGreatDoor
