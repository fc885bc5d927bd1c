/- Auxiliary facts. -/
import Derived.Test.YtmplckgbeaifkaaGreatDoorVCQ32
import Derived.Test.YtmplckgbeaifkaaGreatDoorVCQ43
set_option linter.unusedSimpArgs false
set_option linter.unusedVariables false
namespace Go.Proofs.YtmplckgbeaifkaaGreatDoor
open Go Go.Abs
noncomputable def C7s:A0i:=cm Tryz.f87 22
theorem E5e {q:Gl}:FnOK Tryz.prog (G q) 87 1 22 C7s [(.tmp 2)]:=fk Tryz.func87 (by kernel_rfl) (by kernel_rfl)
noncomputable def C0g:A0i:=cm Tryz.f48 75
theorem D3y {q:Gl}:FnOK Tryz.prog (G q) 48 1 75 C0g [(.tmp 2),(.tmp 3)]:=fk Tryz.func48 (by kernel_rfl) (by kernel_rfl)
noncomputable def B3f:A0i:=cm Tryz.f86 8
theorem C3u {q:Gl}:FnOK Tryz.prog (G q) 86 1 8 B3f [(.tmp 2)]:=fk Tryz.func86 (by kernel_rfl) (by kernel_rfl)
noncomputable def B7t:A0i:=cm Tryz.f88 36
theorem C9y {q:Gl}:FnOK Tryz.prog (G q) 88 1 36 B7t [(.tmp 2)]:=fk Tryz.func88 (by kernel_rfl) (by kernel_rfl)
noncomputable def B5b:A0i:=cm Tryz.f133 10
theorem C5l {q:Gl}:FnOK Tryz.prog (G q) 133 1 10 B5b [(.tmp 2)]:=fk Tryz.func133 (by kernel_rfl) (by kernel_rfl)
noncomputable def A7b:A0i:=cm Tryz.f11 32
theorem B3g {q:Gl}:FnOK Tryz.prog (G q) 11 1 32 A7b [(.tmp 2)]:=fk Tryz.func11 (by kernel_rfl) (by kernel_rfl)
end Go.Proofs.YtmplckgbeaifkaaGreatDoor
