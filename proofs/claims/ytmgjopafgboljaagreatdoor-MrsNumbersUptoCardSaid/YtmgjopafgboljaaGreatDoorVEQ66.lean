/- Auxiliary facts. -/
import Derived.Test.YtmgjopafgboljaaGreatDoorVEQ52
import Derived.Test.YtmgjopafgboljaaGreatDoorVEQ65
import Derived.Test.YtmgjopafgboljaaGreatDoorVEQ44
set_option linter.unusedSimpArgs false
set_option maxRecDepth 100000
set_option maxHeartbeats 0
set_option linter.unusedVariables false
namespace Go.Proofs.YtmgjopafgboljaaGreatDoor
open Go Go.Abs
variable {q : Gl}
section
variable {m : Mr} {cs : List T}
theorem D7d (h:InM m cs):A1d Tryz.prog (G q) 4 [.ag cs] (· = bv true):=by
 have hL:=A4d (B0e (q:=q) h.is 16 h.rels);have e1:=A1i [.ag cs,iv 16] (bv (A6o m 16));have e0:=A1i [] (bv true);have cd:=cdM h
 obtain⟨X,hX⟩:∃X,X=mRow cs:=⟨_,rfl⟩
 have la:=allM h (H:=[(0,X)]) (k:=0) (by rw[hX];rfl);refine B9f.call rfl ?_;(conv in B0o=>cbv);have C:Ctx Tryz.prog (G q) _:=(A0s.cons hL (.cons (E8q (q:=q)) (.cons (hEx (q:=q)) .nil))).ctx mixed;refine A0a C ?_;simp -implicitDefEqProofs [cd];rw[show Row.cells tyMr (cs.map .t)=X from hX.symm]
 cases hl:A6o m 16 with
 | false=>
  rw[hl]at e1;refine A0a C ?_;simp -implicitDefEqProofs [la,hl,e1,e0]
 | true=>
  rw[hl]at e1;have sm:=h.sm hl (by omega);have e2:D2d [.ag cs]=some (iv (A4f A0h m)):=B3a _ h.is sm;by_cases h0:A4f A0h m=0
  ·rw[h0]at e2;have lo:=A4j.1 h0;have hN:=A4d (B1u (q:=q) h.is sm lo.ok);have hR:=A4d (E9i (q:=q) h.is sm lo.ok)
   obtain⟨cn,hcn⟩:∃cn,cn=encM (numM m):=⟨_,rfl⟩
   have hE:=A4d (B0f (q:=q) (A3h (numM m)) (A3h (numM m)) (F1k lo sm));rw[<-hcn]at hN hR hE;have g1:=A1i [.ag cs] (.ag cn);have g2:=A1i [.ag cn,.ag cn] (bv true);have CN:Ctx Tryz.prog (G q) _:=(A0s.cons hN (.cons hR (.cons hE (.cons (hEx (q:=q)) .nil)))).ctx mixed;refine A0a C ?_;simp -implicitDefEqProofs [la,hl,e1,e2];refine A0e CN ?_;simp -implicitDefEqProofs [la,g1,g2,e0]
  ·have d1:(A4f A0h m != 0)=true:=by rw[bne_iff_ne];exact h0
   refine A0a C ?_;simp -implicitDefEqProofs [la,hl,e1,e2,d1,e0]
end
end Go.Proofs.YtmgjopafgboljaaGreatDoor
