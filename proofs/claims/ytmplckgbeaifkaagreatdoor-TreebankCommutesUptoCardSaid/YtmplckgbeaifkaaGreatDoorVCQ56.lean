/- Auxiliary facts. -/
import Derived.Test.YtmplckgbeaifkaaGreatDoorVCQ53
set_option linter.unusedSimpArgs false
set_option linter.unusedVariables false
namespace Go.Proofs.YtmplckgbeaifkaaGreatDoor
open Go Go.Abs
variable {q : Gl}
theorem B3m (a b:ByteArray):(a.toList==b.toList)=decide (a=b):=by rw[<-A2g]
end Go.Proofs.YtmplckgbeaifkaaGreatDoor
