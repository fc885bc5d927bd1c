/- Auxiliary facts. -/
import Derived.Test.YtmplckgbeaifkaaGreatDoorVCQ26
import Derived.Test.YtmplckgbeaifkaaGreatDoorVCQ43
set_option linter.unusedSimpArgs false
set_option linter.unusedVariables false
namespace Go.Proofs.YtmplckgbeaifkaaGreatDoor
open Go Go.Abs Go.ChangeShapes Go.WideShapes Go.ChangeAt Go.RowKit
section
variable {H : Type} {enc : TypeId × Value -> H} {W : World} {spare : Nat -> Bool} {held : Bool} {N : Nat}
theorem G0x {x:T} {v:Value} (h:RdL W [x] [v]):RepT (Old W) W x v:=by
 have:=h.1;simp only[RepL]at this;obtain⟨z,zs,hz,h3,_⟩:=this;simp at hz;rw[hz.1];exact h3
end
end Go.Proofs.YtmplckgbeaifkaaGreatDoor
