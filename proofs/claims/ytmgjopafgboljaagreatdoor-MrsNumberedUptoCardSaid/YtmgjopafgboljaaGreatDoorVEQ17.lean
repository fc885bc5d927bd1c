/- Auxiliary facts. -/
import Derived.Test.YtmgjopafgboljaaGreatDoorVEQ16
import Derived.Test.YtmgjopafgboljaaGreatDoorVEQ11
set_option linter.unusedSimpArgs false
set_option linter.unusedVariables false
namespace Go.Abs
open Go
theorem C7g (x:Ep):mapE (fun v=>v) x=x:=by
 unfold mapE;obtain⟨p,l,as⟩:=x;simp only;congr 1;exact List.map_id as
end Go.Abs
