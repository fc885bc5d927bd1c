/- Auxiliary facts. -/
import Derived.Test.YtmplckgbeaifkaaGreatDoorVDQ10
set_option linter.unusedSimpArgs false
set_option linter.unusedVariables false
namespace Go.Proofs.YtmplckgbeaifkaaGreatDoor
open Go Go.Abs
noncomputable def B4w:A0j:=cm Tryz.f31 82
theorem C5c {q:Gl}:FnOK Tryz.prog (G q) 31 2 82 B4w [(.tmp 4)]:=fk Tryz.func31 (by kernel_rfl) (by kernel_rfl)
noncomputable def B9v:A0j:=cm Tryz.f51 10
theorem D1e {q:Gl}:FnOK Tryz.prog (G q) 51 2 10 B9v [(.tmp 4)]:=fk Tryz.func51 (by kernel_rfl) (by kernel_rfl)
noncomputable def B1r:A0j:=cm Tryz.f65 11
theorem D7m {q:Gl}:FnOK Tryz.prog (G q) 65 2 11 B1r [(.tmp 4)]:=fk Tryz.func65 (by kernel_rfl) (by kernel_rfl)
noncomputable def A7y:A0j:=cm Tryz.f72 8
theorem B2k {q:Gl}:FnOK Tryz.prog (G q) 72 1 8 A7y [(.tmp 2)]:=fk Tryz.func72 (by kernel_rfl) (by kernel_rfl)
noncomputable def B0q:A0j:=cm Tryz.f75 36
theorem B9w {q:Gl}:FnOK Tryz.prog (G q) 75 1 36 B0q [(.tmp 2)]:=fk Tryz.func75 (by kernel_rfl) (by kernel_rfl)
noncomputable def B4x:A0j:=cm Tryz.f83 7
theorem C5d {q:Gl}:FnOK Tryz.prog (G q) 83 1 7 B4x [(.tmp 2)]:=fk Tryz.func83 (by kernel_rfl) (by kernel_rfl)
noncomputable def C2x:A0j:=cm Tryz.f97 44
theorem D7n {q:Gl}:FnOK Tryz.prog (G q) 97 2 44 C2x [(.tmp 4)]:=fk Tryz.func97 (by kernel_rfl) (by kernel_rfl)
noncomputable def B0r:A0j:=cm Tryz.f99 36
theorem B9x {q:Gl}:FnOK Tryz.prog (G q) 99 2 36 B0r [(.tmp 4)]:=fk Tryz.func99 (by kernel_rfl) (by kernel_rfl)
noncomputable def A5v:A0j:=cm Tryz.f112 9
theorem B0s {q:Gl}:FnOK Tryz.prog (G q) 112 2 9 A5v [(.tmp 4)]:=fk Tryz.func112 (by kernel_rfl) (by kernel_rfl)
noncomputable def A3o:A0j:=cm Tryz.f123 49
theorem A6r {q:Gl}:FnOK Tryz.prog (G q) 123 3 49 A3o [(.tmp 6),(.tmp 7)]:=fk Tryz.func123 (by kernel_rfl) (by kernel_rfl)
noncomputable def A7i:A0j:=cm Tryz.f132 42
theorem B4y {q:Gl}:FnOK Tryz.prog (G q) 132 2 42 A7i []:=fk Tryz.func132 (by kernel_rfl) (by kernel_rfl)
noncomputable def A6s:A0j:=cm Tryz.f139 9
theorem B3k {q:Gl}:FnOK Tryz.prog (G q) 139 2 9 A6s [(.tmp 4)]:=fk Tryz.func139 (by kernel_rfl) (by kernel_rfl)
noncomputable def B2l:A0j:=cm Tryz.f140 19
theorem C1n {q:Gl}:FnOK Tryz.prog (G q) 140 2 19 B2l [(.tmp 4)]:=fk Tryz.func140 (by kernel_rfl) (by kernel_rfl)
noncomputable def D4d:A0j:=cm Tryz.f148 18
theorem E6t {q:Gl}:FnOK Tryz.prog (G q) 148 1 18 D4d [(.tmp 2)]:=fk Tryz.func148 (by kernel_rfl) (by kernel_rfl)
noncomputable def A6l:A0j:=cm Tryz.f149 20
theorem C5e {q:Gl}:FnOK Tryz.prog (G q) 149 2 20 A6l [(.tmp 4)]:=fk Tryz.func149 (by kernel_rfl) (by kernel_rfl)
noncomputable def A5b:A0j:=cm Tryz.f150 20
theorem B9y {q:Gl}:FnOK Tryz.prog (G q) 150 2 20 A5b [(.tmp 4)]:=fk Tryz.func150 (by kernel_rfl) (by kernel_rfl)
noncomputable def A6e:A0j:=cm Tryz.f151 39
theorem B2b {q:Gl}:FnOK Tryz.prog (G q) 151 3 39 A6e [(.tmp 6)]:=fk Tryz.func151 (by kernel_rfl) (by kernel_rfl)
noncomputable def A7j:A0j:=cm Tryz.f160 19
theorem B4z {q:Gl}:FnOK Tryz.prog (G q) 160 2 19 A7j [(.tmp 4)]:=fk Tryz.func160 (by kernel_rfl) (by kernel_rfl)
noncomputable def B9z:A0j:=cm Tryz.f181 6
theorem D1f {q:Gl}:FnOK Tryz.prog (G q) 181 1 6 B9z [(.tmp 2)]:=fk Tryz.func181 (by kernel_rfl) (by kernel_rfl)
noncomputable def B5a:A0j:=cm Tryz.f182 6
theorem C5f {q:Gl}:FnOK Tryz.prog (G q) 182 1 6 B5a [(.tmp 2)]:=fk Tryz.func182 (by kernel_rfl) (by kernel_rfl)
noncomputable def A4j:A0j:=cm Tryz.f199 87
theorem A6t {q:Gl}:FnOK Tryz.prog (G q) 199 2 87 A4j [(.cell 4 true 5)]:=fk Tryz.func199 (by kernel_rfl) (by kernel_rfl)
noncomputable def A4k:A0j:=cm Tryz.f200 16
theorem B3l {q:Gl}:FnOK Tryz.prog (G q) 200 1 16 A4k []:=fk Tryz.func200 (by kernel_rfl) (by kernel_rfl)
noncomputable def C2y:A0j:=cm Tryz.f212 93
theorem D7o {q:Gl}:FnOK Tryz.prog (G q) 212 1 93 C2y [(.cell 2 true 5),(.tmp 3),(.tmp 4)]:=fk Tryz.func212 (by kernel_rfl) (by kernel_rfl)
noncomputable def A4l:A0j:=cm Tryz.f219 28
theorem B3m {q:Gl}:FnOK Tryz.prog (G q) 219 2 28 A4l [(.tmp 4)]:=fk Tryz.func219 (by kernel_rfl) (by kernel_rfl)
noncomputable def A4m:A0j:=cm Tryz.f220 17
theorem A6u {q:Gl}:FnOK Tryz.prog (G q) 220 2 17 A4m []:=fk Tryz.func220 (by kernel_rfl) (by kernel_rfl)
noncomputable def A6v:A0j:=cm Tryz.f221 57
theorem B3n {q:Gl}:FnOK Tryz.prog (G q) 221 1 57 A6v [(.tmp 2)]:=fk Tryz.func221 (by kernel_rfl) (by kernel_rfl)
noncomputable def A5w:A0j:=cm Tryz.f222 108
theorem B0t {q:Gl}:FnOK Tryz.prog (G q) 222 1 108 A5w [(.tmp 2)]:=fk Tryz.func222 (by kernel_rfl) (by kernel_rfl)
noncomputable def C0a:A0j:=cm Tryz.f236 30
theorem D1g {q:Gl}:FnOK Tryz.prog (G q) 236 2 30 C0a [(.tmp 4),(.tmp 5)]:=fk Tryz.func236 (by kernel_rfl) (by kernel_rfl)
noncomputable def C2z:A0j:=cm Tryz.f237 49
theorem D7p {q:Gl}:FnOK Tryz.prog (G q) 237 1 49 C2z [(.tmp 2),(.tmp 3),(.tmp 4)]:=fk Tryz.func237 (by kernel_rfl) (by kernel_rfl)
noncomputable def B7k:A0j:=cm Tryz.f238 66
theorem C8m {q:Gl}:FnOK Tryz.prog (G q) 238 1 66 B7k [(.tmp 2),(.tmp 3),(.tmp 4)]:=fk Tryz.func238 (by kernel_rfl) (by kernel_rfl)
end Go.Proofs.YtmplckgbeaifkaaGreatDoor
