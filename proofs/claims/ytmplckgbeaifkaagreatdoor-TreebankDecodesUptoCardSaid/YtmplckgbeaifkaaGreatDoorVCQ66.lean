/- Auxiliary facts. -/
import Derived.Test.YtmplckgbeaifkaaGreatDoorVCQ53
import Derived.Test.YtmplckgbeaifkaaGreatDoorVCQ46
import Derived.Test.YtmplckgbeaifkaaGreatDoorVCQ35
set_option linter.unusedSimpArgs false
set_option linter.unusedVariables false
namespace Go.Proofs.YtmplckgbeaifkaaGreatDoor
open Go Go.Abs
variable {q : Gl}
noncomputable def gDec:List T->Option T:=gStr (fun s=>decO s.data.toList) 1000000000
theorem hDec:GOK Tryz.prog (G q) 49 gDec:=A5y fun s hs=>A8u s hs
theorem F2z {s:ByteArray} (h:s.size<=1000000000):gDec [sv s]=some (decO (lbs s)):=A9w h
end Go.Proofs.YtmplckgbeaifkaaGreatDoor
