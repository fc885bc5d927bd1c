/- Auxiliary facts. -/
import Derived.Test.YtmgjopafgboljaaGreatDoorVEQ10
set_option linter.unusedSimpArgs false
set_option linter.unusedVariables false
namespace Go.Abs
open Go
section
variable {α : Type} {e : Enc α} {t : T} {l : List α}
theorem IsS.nil:IsS e nilS []:=.inl ⟨rfl,rfl⟩
end
end Go.Abs
