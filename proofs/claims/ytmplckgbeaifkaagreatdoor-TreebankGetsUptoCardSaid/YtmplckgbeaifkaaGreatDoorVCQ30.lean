/- Auxiliary facts. -/
import Derived.Test.YtmplckgbeaifkaaGreatDoorVCQ12
set_option linter.unusedSimpArgs false
set_option linter.unusedVariables false
namespace Go.Proofs.YtmplckgbeaifkaaGreatDoor
open Go Go.Abs
noncomputable def B7j:A0i:=cm Tryz.f31 82
theorem C9i {q:Gl}:FnOK Tryz.prog (G q) 31 2 82 B7j [(.tmp 4)]:=fk Tryz.func31 (by kernel_rfl) (by kernel_rfl)
noncomputable def B3z:A0i:=cm Tryz.f65 11
theorem E4c {q:Gl}:FnOK Tryz.prog (G q) 65 2 11 B3z [(.tmp 4)]:=fk Tryz.func65 (by kernel_rfl) (by kernel_rfl)
noncomputable def A9u:A0i:=cm Tryz.f72 8
theorem B4t {q:Gl}:FnOK Tryz.prog (G q) 72 1 8 A9u [(.tmp 2)]:=fk Tryz.func72 (by kernel_rfl) (by kernel_rfl)
noncomputable def B2q:A0i:=cm Tryz.f75 36
theorem C2t {q:Gl}:FnOK Tryz.prog (G q) 75 1 36 B2q [(.tmp 2)]:=fk Tryz.func75 (by kernel_rfl) (by kernel_rfl)
noncomputable def B7k:A0i:=cm Tryz.f83 7
theorem C9j {q:Gl}:FnOK Tryz.prog (G q) 83 1 7 B7k [(.tmp 2)]:=fk Tryz.func83 (by kernel_rfl) (by kernel_rfl)
noncomputable def C2u:A0i:=cm Tryz.f89 40
theorem D6o {q:Gl}:FnOK Tryz.prog (G q) 89 1 40 C2u [(.tmp 2)]:=fk Tryz.func89 (by kernel_rfl) (by kernel_rfl)
noncomputable def B2r:A0i:=cm Tryz.f99 36
theorem C2v {q:Gl}:FnOK Tryz.prog (G q) 99 2 36 B2r [(.tmp 4)]:=fk Tryz.func99 (by kernel_rfl) (by kernel_rfl)
noncomputable def A6y:A0i:=cm Tryz.f112 9
theorem B2s {q:Gl}:FnOK Tryz.prog (G q) 112 2 9 A6y [(.tmp 4)]:=fk Tryz.func112 (by kernel_rfl) (by kernel_rfl)
noncomputable def A4f:A0i:=cm Tryz.f123 49
theorem A8j {q:Gl}:FnOK Tryz.prog (G q) 123 3 49 A4f [(.tmp 6),(.tmp 7)]:=fk Tryz.func123 (by kernel_rfl) (by kernel_rfl)
noncomputable def A9e:A0i:=cm Tryz.f132 42
theorem B7l {q:Gl}:FnOK Tryz.prog (G q) 132 2 42 A9e []:=fk Tryz.func132 (by kernel_rfl) (by kernel_rfl)
noncomputable def A8k:A0i:=cm Tryz.f139 9
theorem B5x {q:Gl}:FnOK Tryz.prog (G q) 139 2 9 A8k [(.tmp 4)]:=fk Tryz.func139 (by kernel_rfl) (by kernel_rfl)
noncomputable def B4u:A0i:=cm Tryz.f140 19
theorem C5d {q:Gl}:FnOK Tryz.prog (G q) 140 2 19 B4u [(.tmp 4)]:=fk Tryz.func140 (by kernel_rfl) (by kernel_rfl)
noncomputable def C2w:A0i:=cm Tryz.f143 28
theorem D6p {q:Gl}:FnOK Tryz.prog (G q) 143 1 28 C2w [(.cell 2 true 5),(.tmp 3)]:=fk Tryz.func143 (by kernel_rfl) (by kernel_rfl)
noncomputable def D9v:A0i:=cm Tryz.f148 18
theorem F4v {q:Gl}:FnOK Tryz.prog (G q) 148 1 18 D9v [(.tmp 2)]:=fk Tryz.func148 (by kernel_rfl) (by kernel_rfl)
noncomputable def A7y:A0i:=cm Tryz.f149 20
theorem C9k {q:Gl}:FnOK Tryz.prog (G q) 149 2 20 A7y [(.tmp 4)]:=fk Tryz.func149 (by kernel_rfl) (by kernel_rfl)
noncomputable def A5x:A0i:=cm Tryz.f150 20
theorem C2x {q:Gl}:FnOK Tryz.prog (G q) 150 2 20 A5x [(.tmp 4)]:=fk Tryz.func150 (by kernel_rfl) (by kernel_rfl)
noncomputable def A7l:A0i:=cm Tryz.f151 39
theorem B4i {q:Gl}:FnOK Tryz.prog (G q) 151 3 39 A7l [(.tmp 6)]:=fk Tryz.func151 (by kernel_rfl) (by kernel_rfl)
noncomputable def A9f:A0i:=cm Tryz.f160 19
theorem B7m {q:Gl}:FnOK Tryz.prog (G q) 160 2 19 A9f [(.tmp 4)]:=fk Tryz.func160 (by kernel_rfl) (by kernel_rfl)
noncomputable def C6w:A0i:=cm Tryz.f178 105
theorem E4d {q:Gl}:FnOK Tryz.prog (G q) 178 2 105 C6w [(.cell 4 true 5),(.tmp 5),(.tmp 6)]:=fk Tryz.func178 (by kernel_rfl) (by kernel_rfl)
noncomputable def C2y:A0i:=cm Tryz.f181 6
theorem D6q {q:Gl}:FnOK Tryz.prog (G q) 181 1 6 C2y [(.tmp 2)]:=fk Tryz.func181 (by kernel_rfl) (by kernel_rfl)
noncomputable def B7n:A0i:=cm Tryz.f182 6
theorem C9l {q:Gl}:FnOK Tryz.prog (G q) 182 1 6 B7n [(.tmp 2)]:=fk Tryz.func182 (by kernel_rfl) (by kernel_rfl)
noncomputable def A5e:A0i:=cm Tryz.f199 87
theorem A8l {q:Gl}:FnOK Tryz.prog (G q) 199 2 87 A5e [(.cell 4 true 5)]:=fk Tryz.func199 (by kernel_rfl) (by kernel_rfl)
noncomputable def A5f:A0i:=cm Tryz.f200 16
theorem B5y {q:Gl}:FnOK Tryz.prog (G q) 200 1 16 A5f []:=fk Tryz.func200 (by kernel_rfl) (by kernel_rfl)
noncomputable def C6x:A0i:=cm Tryz.f212 93
theorem E4e {q:Gl}:FnOK Tryz.prog (G q) 212 1 93 C6x [(.cell 2 true 5),(.tmp 3),(.tmp 4)]:=fk Tryz.func212 (by kernel_rfl) (by kernel_rfl)
noncomputable def A5g:A0i:=cm Tryz.f219 28
theorem B5z {q:Gl}:FnOK Tryz.prog (G q) 219 2 28 A5g [(.tmp 4)]:=fk Tryz.func219 (by kernel_rfl) (by kernel_rfl)
noncomputable def A5h:A0i:=cm Tryz.f220 17
theorem A8m {q:Gl}:FnOK Tryz.prog (G q) 220 2 17 A5h []:=fk Tryz.func220 (by kernel_rfl) (by kernel_rfl)
noncomputable def A8n:A0i:=cm Tryz.f221 57
theorem B6a {q:Gl}:FnOK Tryz.prog (G q) 221 1 57 A8n [(.tmp 2)]:=fk Tryz.func221 (by kernel_rfl) (by kernel_rfl)
noncomputable def A6z:A0i:=cm Tryz.f222 108
theorem B2t {q:Gl}:FnOK Tryz.prog (G q) 222 1 108 A6z [(.tmp 2)]:=fk Tryz.func222 (by kernel_rfl) (by kernel_rfl)
noncomputable def C2z:A0i:=cm Tryz.f236 30
theorem D6r {q:Gl}:FnOK Tryz.prog (G q) 236 2 30 C2z [(.tmp 4),(.tmp 5)]:=fk Tryz.func236 (by kernel_rfl) (by kernel_rfl)
noncomputable def C6y:A0i:=cm Tryz.f237 49
theorem E4f {q:Gl}:FnOK Tryz.prog (G q) 237 1 49 C6y [(.tmp 2),(.tmp 3),(.tmp 4)]:=fk Tryz.func237 (by kernel_rfl) (by kernel_rfl)
noncomputable def B9y:A0i:=cm Tryz.f238 66
theorem D3b {q:Gl}:FnOK Tryz.prog (G q) 238 1 66 B9y [(.tmp 2),(.tmp 3),(.tmp 4)]:=fk Tryz.func238 (by kernel_rfl) (by kernel_rfl)
end Go.Proofs.YtmplckgbeaifkaaGreatDoor
