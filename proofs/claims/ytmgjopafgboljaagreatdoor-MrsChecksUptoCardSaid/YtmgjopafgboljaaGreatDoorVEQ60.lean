/- Auxiliary facts. -/
import Derived.Test.YtmgjopafgboljaaGreatDoorVEQ51
import Derived.Test.YtmgjopafgboljaaGreatDoorVEQ40
import Derived.Test.YtmgjopafgboljaaGreatDoorVEQ56
set_option linter.unusedSimpArgs false
set_option maxRecDepth 100000
set_option maxHeartbeats 0
set_option linter.unusedVariables false
namespace Go.Proofs.YtmgjopafgboljaaGreatDoor
open Go Go.Abs
variable {q : Gl}
section
variable {m : Mr} {cs : List T}
theorem E4v (h:InM m cs):A1d Tryz.prog (G q) 3 [.ag cs] (· = bv true):=by
 have hL:=A4d (B0e (q:=q) h.is 40 h.rels);have e1:=A1i [.ag cs,iv 40] (bv (A6o m 40));have e0:=A1i [] (bv true);have cd:=cdM h
 obtain⟨X,hX⟩:∃X,X=mRow cs:=⟨_,rfl⟩
 have la:=allM h (H:=[(0,X)]) (k:=0) (by rw[hX];rfl);refine C3g.call rfl ?_;(conv in B1y=>cbv);have C:Ctx Tryz.prog (G q) _:=(A0s.cons hL (.cons (G1d (q:=q)) (.cons (D1s (q:=q)) (.cons (hEx (q:=q)) .nil)))).ctx mixed;refine A0a C ?_;simp -implicitDefEqProofs [cd];rw[show Row.cells tyMr (cs.map .t)=X from hX.symm]
 cases hl:A6o m 40 with
 | false=>
  rw[hl]at e1;refine A0a C ?_;simp -implicitDefEqProofs [la,hl,e1,e0]
 | true=>
  rw[hl]at e1;have e2:C2b [.ag cs]=some (iv (A3c A0h m)):=B3a _ h.is (h.sm hl (by omega));refine A0a C ?_;simp -implicitDefEqProofs [la,hl,e1];refine A0e C ?_;simp -implicitDefEqProofs [la,e2,e0]
end
end Go.Proofs.YtmgjopafgboljaaGreatDoor
