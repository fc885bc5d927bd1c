/- Auxiliary facts. -/
import Derived.Test.YtobnacghaamfoaaGreatDoorVGQ46
import Derived.Test.YtobnacghaamfoaaGreatDoorVGQ44
import Derived.Test.YtobnacghaamfoaaGreatDoorVGQ28
set_option linter.unusedSimpArgs false
set_option linter.unusedVariables false
namespace Go.Proofs.YtobnacghaamfoaaGreatDoor
open Go Go.Abs
variable {q : Gl}
theorem nF {L:List Md} {B:Nat} (h:∀m∈L,CY B m) (hB:B<=65536) (hl:L.length<=256):G5 [Cb L,Cb L]=some (bv true):=
 OS (DD.mds L) (DD.mds L) (by rw[List.length_map];omega) λm hm=>by
  obtain⟨x,hx,rfl⟩:=List.mem_map.1 hm;exact(h x hx).ok hB
end Go.Proofs.YtobnacghaamfoaaGreatDoor
