/- Auxiliary facts. -/
import Derived.Test.YtobnacghaamfoaaGreatDoorVGQ31
set_option linter.unusedSimpArgs false
set_option linter.unusedVariables false
namespace Go.Proofs.YtobnacghaamfoaaGreatDoor
open Go Go.Abs
variable {q : Gl} {t : T} {l : List Tok} {i : Nat}
section
theorem UC {L:List KT} {p:Nat} {k:Int} (h:EP L p k=false):AJ L p k = .error (Fz L p):=by
 unfold EP at h;unfold AJ Fz
 cases hx:L[p]? with
 | none=>rw[zy (by simpa using hx)]
 | some x=>
  rw[hx]at h;have:=(List.getElem?_eq_some_iff.1 hx).1;simp only at h ⊢;rw[zz (by simpa using h),zz (by omega)]
end
end Go.Proofs.YtobnacghaamfoaaGreatDoor
