/- Auxiliary facts. -/
import Derived.Test.YtobnacghaamfoaaGreatDoorVGQ11
import Derived.Test.YtobnacghaamfoaaGreatDoorVGQ24
set_option linter.unusedSimpArgs false
set_option linter.unusedVariables false
namespace Go.Proofs.YtobnacghaamfoaaGreatDoor
open Go Go.Abs
noncomputable def Li:An:=cm Tryz.f7 77
theorem vH {q:Gl}:A6 Tryz.prog (G q) 7 2 77 Li [(.tmp 4)]:=fk Tryz.func7 (by kernel_rfl) (by kernel_rfl)
end Go.Proofs.YtobnacghaamfoaaGreatDoor
namespace Go.Abs
open Go
section
variable {α : Type} {e : Enc α} {ty b : Nat} {H : Ab} {l : List α}
theorem vI (h:Aa H b=some (rowOf e ty l)):toT H (.row b 0 l.length e.z)=some (slT e l,[b]):=by
 have hl:((l.flatMap e.enc).map PV.t).length=l.length*e.z:=by rw[List.length_map,IH]
 rw[toT,h,rowOf];simp only[hl,Nat.zero_add,Nat.le_refl,if_true,List.drop_zero];rw[<-hl,List.take_length,JF];rfl
end
end Go.Abs
