/-
 Auxiliary facts. No statement of the program stands here.
-/
import Derived.Test.YtmplckgbeaifkaaGreatDoorVBQ50
namespace Go.Proofs.YtmplckgbeaifkaaGreatDoor
set_option linter.unusedSimpArgs false
set_option linter.unusedVariables false
open Go Go.Abs
variable {q : Gl}
theorem D1c (c:IC) (m:List DC) (hs:SmK (dvs m)):nodD (A9z c m).d<=10000:=by
 unfold A9z;split
 ·cases ho:oneC m (keep (dvs m) [] c.x.decs)with
  | none=>show nodD A2c<=_;decide
  | some g=>
   have h1:=B6h m (keep (dvs m) [] c.x.decs);rw[ho]at h1;exact hs.kid (B1u h1).1
 ·show nodD A2c<=_;decide
end Go.Proofs.YtmplckgbeaifkaaGreatDoor
