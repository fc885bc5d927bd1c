/- Auxiliary facts. -/
import Derived.Test.YtmgjopafgboljaaGreatDoorVEQ21
set_option linter.unusedSimpArgs false
set_option linter.unusedVariables false
namespace Go.Proofs.YtmgjopafgboljaaGreatDoor
open Go Go.Abs
noncomputable def A9i:A0p:=cm Tryz.f38 78
theorem B7f {q:Gl}:FnOK Tryz.prog (G q) 38 1 78 A9i [(.tmp 2)]:=fk Tryz.func38 (by kernel_rfl) (by kernel_rfl)
noncomputable def B5v:A0p:=cm Tryz.f39 51
theorem C8b {q:Gl}:FnOK Tryz.prog (G q) 39 1 51 B5v [(.tmp 2)]:=fk Tryz.func39 (by kernel_rfl) (by kernel_rfl)
noncomputable def B8p:A0p:=cm Tryz.f36 17
theorem D1x {q:Gl}:FnOK Tryz.prog (G q) 36 1 17 B8p [(.tmp 2)]:=fk Tryz.func36 (by kernel_rfl) (by kernel_rfl)
noncomputable def A9j:A0p:=cm Tryz.f37 50
theorem B7g {q:Gl}:FnOK Tryz.prog (G q) 37 1 50 A9j [(.tmp 2)]:=fk Tryz.func37 (by kernel_rfl) (by kernel_rfl)
noncomputable def C2h:A0p:=cm Tryz.f16 96
theorem D5w {q:Gl}:FnOK Tryz.prog (G q) 16 1 96 C2h [(.tmp 2)]:=fk Tryz.func16 (by kernel_rfl) (by kernel_rfl)
noncomputable def C2i:A0p:=cm Tryz.f12 39
theorem D5x {q:Gl}:FnOK Tryz.prog (G q) 12 2 39 C2i [(.tmp 4)]:=fk Tryz.func12 (by kernel_rfl) (by kernel_rfl)
end Go.Proofs.YtmgjopafgboljaaGreatDoor
