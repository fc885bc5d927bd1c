/- Auxiliary facts. -/
import Derived.Test.YtmgjopafgboljaaGreatDoorVEQ48
import Derived.Test.YtmgjopafgboljaaGreatDoorVEQ40
import Derived.Test.YtmgjopafgboljaaGreatDoorVEQ49
import Derived.Test.YtmgjopafgboljaaGreatDoorVEQ53
set_option linter.unusedSimpArgs false
set_option linter.unusedVariables false
namespace Go.Proofs.YtmgjopafgboljaaGreatDoor
open Go Go.Abs
variable {q : Gl}
def C3d (t i:Int) (ts:T) (u v:PV):Row:=.cells tyMr [.t (iv t),.t (iv i),.t ts,u,v]
noncomputable def B6k:A0p:=cm Tryz.f30 84
theorem C9f {q:Gl}:FnOK Tryz.prog (G q) 30 3 84 B6k [(.cell 6 true 5)]:=fk Tryz.func30 (by kernel_rfl) (by kernel_rfl)
noncomputable def B1x:A0p:=cm Tryz.f10 104
theorem C3e {q:Gl}:FnOK Tryz.prog (G q) 10 3 104 B1x [(.tmp 6)]:=fk Tryz.func10 (by kernel_rfl) (by kernel_rfl)
end Go.Proofs.YtmgjopafgboljaaGreatDoor
