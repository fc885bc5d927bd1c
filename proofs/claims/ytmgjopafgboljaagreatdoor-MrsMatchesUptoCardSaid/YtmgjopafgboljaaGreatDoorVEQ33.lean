/- Auxiliary facts. -/
import Derived.Test.YtmgjopafgboljaaGreatDoorVEQ30
set_option linter.unusedSimpArgs false
set_option linter.unusedVariables false
namespace Go.Proofs.YtmgjopafgboljaaGreatDoor
open Go Go.Abs
noncomputable def C2m:A0p:=cm Tryz.f22 65
theorem D6b {q:Gl}:FnOK Tryz.prog (G q) 22 1 65 C2m [(.tmp 2)]:=fk Tryz.func22 (by kernel_rfl) (by kernel_rfl)
noncomputable def C5p:A0p:=cm Tryz.f50 68
theorem E3o {q:Gl}:FnOK Tryz.prog (G q) 50 5 68 C5p [(.tmp 10),(.tmp 11)]:=fk Tryz.func50 (by kernel_rfl) (by kernel_rfl)
noncomputable def C5q:A0p:=cm Tryz.f81 86
theorem E3p {q:Gl}:FnOK Tryz.prog (G q) 81 5 86 C5q [(.tmp 10),(.tmp 11)]:=fk Tryz.func81 (by kernel_rfl) (by kernel_rfl)
noncomputable def B1r:A0p:=cm Tryz.f80 96
theorem C2n {q:Gl}:FnOK Tryz.prog (G q) 80 5 96 B1r [(.tmp 10)]:=fk Tryz.func80 (by kernel_rfl) (by kernel_rfl)
noncomputable def B8s:A0p:=cm Tryz.f51 87
theorem D2a {q:Gl}:FnOK Tryz.prog (G q) 51 4 87 B8s [(.tmp 8),(.tmp 9)]:=fk Tryz.func51 (by kernel_rfl) (by kernel_rfl)
noncomputable def C2o:A0p:=cm Tryz.f24 84
theorem D6c {q:Gl}:FnOK Tryz.prog (G q) 24 2 84 C2o [(.tmp 4),(.tmp 5)]:=fk Tryz.func24 (by kernel_rfl) (by kernel_rfl)
end Go.Proofs.YtmgjopafgboljaaGreatDoor
