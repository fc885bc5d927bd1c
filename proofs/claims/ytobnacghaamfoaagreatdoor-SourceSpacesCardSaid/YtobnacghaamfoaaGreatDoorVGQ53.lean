/- Auxiliary facts. -/
import Derived.Test.YtobnacghaamfoaaGreatDoorVGQ41
import Derived.Test.YtobnacghaamfoaaGreatDoorVGQ35
set_option linter.unusedSimpArgs false
set_option linter.unusedVariables false
namespace Go.Proofs.YtobnacghaamfoaaGreatDoor
open Go Go.Abs
theorem nI:∀(t X:List UInt8),t.all Ec=true->A9 (t++34::X)=(t.length,0)
 | [],X,_=>by rw[List.nil_append,A9,zy (by decide)];rfl
 | c::t,X,h=>by
  rw[List.all_cons,Bool.and_eq_true]at h;have ih:=nI t X h.2;have hc:=h.1;unfold Ec at hc;rw[decide_eq_true_eq]at hc;rw[List.cons_append,A9,zz hc.2.2,zy (by unfold prt;simp[hc.1,hc.2.1]),ih];rfl
theorem RY {t:List UInt8} (h:t.all Ec=true) (X:List UInt8):Ax (34::(t++34::X))=⟨3,t,0,t.length+2⟩:=by
 rw[Ax,zz (by decide),zz (by decide),zz (by decide),zy (by decide)];have e:(34::(t++34::X)).drop 1=t++34::X:=rfl;rw[e,nI t X h];simp only[List.take_left',if_true];congr 1;omega
end Go.Proofs.YtobnacghaamfoaaGreatDoor
