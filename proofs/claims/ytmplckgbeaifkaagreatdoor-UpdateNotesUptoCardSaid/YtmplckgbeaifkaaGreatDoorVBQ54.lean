/-
 Auxiliary facts. No statement of the program stands here.
-/
import Derived.Test.YtmplckgbeaifkaaGreatDoorVBQ53
namespace Go.Proofs.YtmplckgbeaifkaaGreatDoor
set_option linter.unusedSimpArgs false
set_option linter.unusedVariables false
open Go Go.Abs
variable {q : Gl}
theorem D4h (c:IC) (m:List DC) (hc:SmE c.x) (hs:SmK (dvs m)):SmE (repI c.x (dvs m)):=by
 rw[A9l];have h1:=A8t (dvs m) c.x.decs;have h2:=D1c c m hs;exact⟨hc.words,by have:=hc.decs;show(keep _ _ _).length<=_;omega,by show nodD (A9z c m).d<=_;omega⟩
end Go.Proofs.YtmplckgbeaifkaaGreatDoor
