/- Auxiliary facts. -/
import Derived.Test.YtmgjopafgboljaaGreatDoorVEQ48
import Derived.Test.YtmgjopafgboljaaGreatDoorVEQ25
set_option linter.unusedSimpArgs false
set_option linter.unusedVariables false
namespace Go.Proofs.YtmgjopafgboljaaGreatDoor
open Go Go.Abs
theorem E1g {s:List UInt8} {m raw:Mr} {l:List Vr} (h:parM s = .ok m) (hf:A7r (s.length+1) ⟨s,0,[]⟩=(⟨[],0,l⟩,raw)):m=outM raw l:=by
 unfold parM at h;split at h
 ·cases h
 rw[hf]at h;simp only at h;rw[if_neg (by simp)]at h;exact(E8g h).1
end Go.Proofs.YtmgjopafgboljaaGreatDoor
