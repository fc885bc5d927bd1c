/- Auxiliary facts. -/
import Derived.Test.YtmplckgbeaifkaaGreatDoorVCQ46
import Derived.Test.YtmplckgbeaifkaaGreatDoorVCQ45
import Derived.Test.YtmplckgbeaifkaaGreatDoorVCQ24
set_option linter.unusedSimpArgs false
set_option linter.unusedVariables false
namespace Go.Proofs.YtmplckgbeaifkaaGreatDoor
open Go Go.Abs
theorem F8f (id:ByteArray) (l:List IC):getI id (l.map IC.x)=(getC id l).map IC.x:=by
 unfold getI getC;rw[List.find?_map];rfl
theorem G4s (id:ByteArray) (l:List IC):(remC id l).map IC.x=remI id (l.map IC.x):=by
 unfold remI remC;rw[List.filter_map];rfl
end Go.Proofs.YtmplckgbeaifkaaGreatDoor
