/- Auxiliary facts. -/
import Derived.Test.YtobnacghaamfoaaGreatDoorVGQ46
import Derived.Test.YtobnacghaamfoaaGreatDoorVGQ39
set_option linter.unusedSimpArgs false
set_option linter.unusedVariables false
namespace Go.Proofs.YtobnacghaamfoaaGreatDoor
open Go Go.Abs
variable {q : Gl}
theorem nG {s:ByteArray} (h:s.size<=65536):(∃(k e:Int),e≠0/\G6 [sv s]=some (.tu [Ah,iv k,iv e])/\∃x,CZ s.data.toList 1 = .error x)\/∃ts,CZ s.data.toList 1 = .ok ts/\G6 [sv s]=some (.tu [Aq Aw ts,iv 0,iv 0])/\ts.length<=s.size:=by
 have hg:G6 [sv s]=some (FC s.data.toList):=zy (by omega)
 have hl:¬65536<s.data.toList.length:=by
  have:s.data.toList.length=s.size:=rfl;omega
 rw[hg];unfold FC;rw[zz hl]
 cases hs:CZ s.data.toList 1 with
 | error x=>exact .inl ⟨x.1,x.2,(Um hs).2,rfl,_,rfl⟩
 | ok ts=>exact .inr ⟨ts,rfl,rfl,Rc hs⟩
end Go.Proofs.YtobnacghaamfoaaGreatDoor
