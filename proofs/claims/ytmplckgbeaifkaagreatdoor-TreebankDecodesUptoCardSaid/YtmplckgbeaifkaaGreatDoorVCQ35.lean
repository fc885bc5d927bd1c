/- Auxiliary facts. -/
import Derived.Test.YtmplckgbeaifkaaGreatDoorVCQ34
import Derived.Test.YtmplckgbeaifkaaGreatDoorVCQ19
import Derived.Test.YtmplckgbeaifkaaGreatDoorVCQ39
import Derived.Test.YtmplckgbeaifkaaGreatDoorVCQ43
set_option linter.unusedSimpArgs false
set_option linter.unusedVariables false
namespace Go.Proofs.YtmplckgbeaifkaaGreatDoor
open Go Go.Abs
variable {q : Gl}
theorem bd3 {Φ:A0n} {H:Heap} {nx:Nat} (a c d:Int):A0f Φ H nx (.build [(0,1),(1,1),(2,1),(3,1)] [.int .i64 0,.string ⟨#[]⟩,.int .i64 0,.int .i64 0] [0,2,3]) [.t (iv a),.t (iv c),.t (iv d)]=some (.t (.ag (ePr.enc ⟨a,⟨#[]⟩,c,d⟩)),H,nx):=rfl
noncomputable def C0d:A0i:=cm Tryz.f50 69
theorem D3u {q:Gl}:FnOK Tryz.prog (G q) 50 1 69 C0d [(.cell 2 true 2),(.tmp 3)]:=fk Tryz.func50 (by kernel_rfl) (by kernel_rfl)
noncomputable def D3v:A0i:=cm Tryz.f94 24
theorem F0v {q:Gl}:FnOK Tryz.prog (G q) 94 1 24 D3v [(.tmp 2),(.tmp 3),(.tmp 4)]:=fk Tryz.func94 (by kernel_rfl) (by kernel_rfl)
noncomputable def C7n:A0i:=cm Tryz.f95 135
theorem E4y {q:Gl}:FnOK Tryz.prog (G q) 95 2 135 C7n [(.cell 4 true 3),(.tmp 5)]:=fk Tryz.func95 (by kernel_rfl) (by kernel_rfl)
noncomputable def C7o:A0i:=cm Tryz.f96 11
theorem E4z {q:Gl}:FnOK Tryz.prog (G q) 96 1 11 C7o [(.cell 2 true 9)]:=fk Tryz.func96 (by kernel_rfl) (by kernel_rfl)
noncomputable def C7p:A0i:=cm Tryz.f144 20
theorem E5a {q:Gl}:FnOK Tryz.prog (G q) 144 2 20 C7p [(.cell 4 true 2)]:=fk Tryz.func144 (by kernel_rfl) (by kernel_rfl)
noncomputable def B4x:A0i:=cm Tryz.f146 83
theorem C5h {q:Gl}:FnOK Tryz.prog (G q) 146 1 83 B4x [(.cell 2 true 5),(.tmp 3)]:=fk Tryz.func146 (by kernel_rfl) (by kernel_rfl)
noncomputable def C3o:A0i:=cm Tryz.f147 47
theorem D7j {q:Gl}:FnOK Tryz.prog (G q) 147 2 47 C3o [(.cell 4 true 3),(.tmp 5)]:=fk Tryz.func147 (by kernel_rfl) (by kernel_rfl)
noncomputable def C0e:A0i:=cm Tryz.f179 19
theorem D3w {q:Gl}:FnOK Tryz.prog (G q) 179 2 19 C0e [(.tmp 4)]:=fk Tryz.func179 (by kernel_rfl) (by kernel_rfl)
noncomputable def A7a:A0i:=cm Tryz.f12 37
theorem B3b {q:Gl}:FnOK Tryz.prog (G q) 12 1 37 A7a [(.tmp 2)]:=fk Tryz.func12 (by kernel_rfl) (by kernel_rfl)
end Go.Proofs.YtmplckgbeaifkaaGreatDoor
