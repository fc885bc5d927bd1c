/- Auxiliary facts. -/
import Derived.Test.YtobnacghaamfoaaGreatDoorVGQ27
import Derived.Test.YtobnacghaamfoaaGreatDoorVGQ41
set_option linter.unusedSimpArgs false
set_option linter.unusedVariables false
namespace Go.Proofs.YtobnacghaamfoaaGreatDoor
open Go Go.Abs
theorem gF (a b:List UInt8):nl (a++b)=nl a+nl b:=List.countP_append ..
theorem Pg (l:List UInt8) (k:Nat):nl l=nl (l.take k)+nl (l.drop k):=by
 rw[<-gF,List.take_append_drop]
section
variable {l : List KT} {p : Nat} {e : Int} {α : Type}
theorem gG {s:List UInt8} (h:B6 l p s = .error e):e≠0:=by
 unfold B6 at h;split at h
 .injection h with h;subst h;decide
 .split at h
  .cases h
  .injection h with h;subst h;decide
end
end Go.Proofs.YtobnacghaamfoaaGreatDoor
