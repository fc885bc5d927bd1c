/- Auxiliary facts. -/
import Derived.Test.YtobnacghaamfoaaGreatDoorVGQ46
set_option linter.unusedSimpArgs false
set_option linter.unusedVariables false
namespace Go.Proofs.YtobnacghaamfoaaGreatDoor
open Go Go.Abs
variable {q : Gl}
section
variable (k : Int) (u : T) (R : Ab) (n : Nat)
theorem sA (z1 z2:PV):AM 2 ((n,.cells 29 [z1,z2])::R) (.ptr n 0) (.t (.ag [iv k,u]))=some ((n,.cells 29 [.t (iv k),.t u])::R):=Dv (ty:=29) (zs:=[z1,z2]) (ds:=[iv k,u]) rfl rfl R
end
end Go.Proofs.YtobnacghaamfoaaGreatDoor
