/- Auxiliary facts. -/
import Derived.Test.YtmgjopafgboljaaGreatDoorRows
import Derived.Test.YtmgjopafgboljaaGreatDoorVFQ09
set_option linter.unusedSimpArgs false
set_option linter.unusedVariables false
namespace Go.Proofs.YtmgjopafgboljaaGreatDoor
open Go Go.Abs Go.ChangeShapes Go.WideShapes Go.ChangeAt Go.RowKit
section
variable {H : Type} {enc : TypeId × Value -> H} {P : Program} {W : World} {spare : Nat -> Bool} {held : Bool}
variable {N : Nat}
inductive F2 {α:Type} (R:Nat->α->Prop):List Nat->List α->Prop
 | nil:F2 R [] []
 | cons {b:Nat} {a:α} {bs:List Nat} {l:List α}:R b a->F2 R bs l->F2 R (b::bs) (a::l)
end
end Go.Proofs.YtmgjopafgboljaaGreatDoor
