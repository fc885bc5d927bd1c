/- Auxiliary facts. -/
import Derived.Test.YtmplckgbeaifkaaGreatDoorVCQ48
import Derived.Test.YtmplckgbeaifkaaGreatDoorVCQ51
set_option linter.unusedSimpArgs false
set_option linter.unusedVariables false
namespace Go.Proofs.YtmplckgbeaifkaaGreatDoor
open Go Go.Abs Go.ChangeShapes Go.WideShapes Go.ChangeAt Go.RowKit
section
variable {H : Type} {enc : TypeId × Value -> H} {W : World} {spare : Nat -> Bool} {held : Bool}
theorem C0z {v:Value} {d:DataW H} {p:List MemPlace} (h:DataW.Trod enc Tryz.prog W 0 spare held 9 v d p) {s:ByteArray} (hv:v = .string s) (hb:Rows.uptoBulk d<=1048576):s.size<=1000000000:=by
 obtain⟨fuel,hf⟩:=h;subst hv;obtain⟨ts,hr,s',rfl,hB⟩:=C6u (N:=fuel+1) Tryz.underlying9 fuel (by omega) _ (d,p) hf;have:=G0x hr;simp only[RepT]at this;injection this with this;subst this;have hB:Rows.uptoBulk d=s.size+1:=hB;omega
end
end Go.Proofs.YtmplckgbeaifkaaGreatDoor
