/- Auxiliary facts. -/
import Derived.Test.YtobnacghaamfoaaGreatDoorVGQ32
set_option linter.unusedSimpArgs false
set_option linter.unusedVariables false
namespace Go.Proofs.YtobnacghaamfoaaGreatDoor
open Go Go.Abs
variable {q : Gl}
theorem Rr {c:UInt8} (h:B7 c=true):Bq c=false:=by
 simp only[B7,Bq,Bool.and_eq_true,decide_eq_true_eq]at h ⊢;rw[Bool.and_eq_false_iff];right;rw[decide_eq_false_iff_not];omega
end Go.Proofs.YtobnacghaamfoaaGreatDoor
