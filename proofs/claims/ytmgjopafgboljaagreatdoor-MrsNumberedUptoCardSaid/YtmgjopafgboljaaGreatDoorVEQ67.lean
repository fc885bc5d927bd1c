/- Auxiliary facts. -/
import Derived.Test.YtmgjopafgboljaaGreatDoorVEQ59
import Derived.Test.YtmgjopafgboljaaGreatDoorVEQ52
import Derived.Test.YtmgjopafgboljaaGreatDoorVEQ65
import Derived.Test.YtmgjopafgboljaaGreatDoorVEQ38
import Derived.Test.YtmgjopafgboljaaGreatDoorVEQ55
set_option linter.unusedSimpArgs false
set_option maxRecDepth 100000
set_option maxHeartbeats 0
set_option linter.unusedVariables false
namespace Go.Proofs.YtmgjopafgboljaaGreatDoor
open Go Go.Abs
variable {q : Gl}
section
variable {m : Mr} {cs : List T}
theorem D3u (h:InM m cs):A1d Tryz.prog (G q) 11 [.ag cs] (· = bv true):=by
 have hL:=A4d (B0e (q:=q) h.is 16 h.rels);have e1:=A1i [.ag cs,iv 16] (bv (A6o m 16));have e0:=A1i [] (bv true);have cd:=cdM h
 obtain⟨X,hX⟩:∃X,X=mRow cs:=⟨_,rfl⟩
 have la:=allM h (H:=[(0,X)]) (k:=0) (by rw[hX];rfl);refine B7v.call rfl ?_;(conv in A9q=>cbv);have C:Ctx Tryz.prog (G q) _:=(A0s.cons hL (.cons (E8q (q:=q)) (.cons (hEx (q:=q)) .nil))).ctx mixed;refine A0a C ?_;simp -implicitDefEqProofs [cd];rw[show Row.cells tyMr (cs.map .t)=X from hX.symm]
 cases hl:A6o m 16 with
 | false=>
  rw[hl]at e1;refine A0a C ?_;simp -implicitDefEqProofs [la,hl,e1,e0]
 | true=>
  rw[hl]at e1;have sm:=h.sm hl (by omega);have e2:D2d [.ag cs]=some (iv (A4f A0h m)):=B3a _ h.is sm;by_cases h0:A4f A0h m=0
  ·rw[h0]at e2;have lo:=A4j.1 h0;have smn:=F1k lo sm;have lon:=A9f lo;have hid:=F5j (B8t m);have hN:=A4d (B1u (q:=q) h.is sm lo.ok);have hN2:=A4d (B1u (q:=q) (A3h (numM m)) smn lon.ok);have hE2:=A4d (B0f (q:=q) (A3h (numM m)) (A3h (numM m)) smn);rw[hid]at hN2
   have ck2:C2b [.ag (encM (numM m))]=some (iv 0):=by
    have:=B3a (fun m=>iv (A3c A0h m)) (A3h (numM m)) smn;rw[E8u h0]at this;exact this
   have ck1:C2b [.ag cs]=some (iv (A3c A0h m)):=B3a _ h.is sm
   have hsq:A2q m=true->GOK Tryz.prog (G q) 17 (gOne [.ag cs,.ag (encM (numM m))] (bv true)):=fun hn=>by
    rw[F5j hn];exact A4d (B0f (q:=q) h.is (A3h m) sm)
   obtain⟨cn,hcn⟩:∃cn,cn=encM (numM m):=⟨_,rfl⟩
   have h5:cn.length=5:=by rw[hcn];rfl
   rw[<-hcn]at hN hN2 hE2 ck2 hsq;have g1:=A1i [.ag cs] (.ag cn);have g2:=A1i [.ag cn,.ag cn] (bv true);have g3:=A1i [.ag cs,.ag cn] (bv true);have g4:=A1i [.ag cn] (.ag cn);have s1:=sM h5;have lb:=lM5 h5 (H:=[(1,mRow cn),(0,X)]) (k:=1) rfl;have la2:=allM h (H:=[(1,mRow cn),(0,X)]) (k:=0) (by rw[hX];rfl);have C1:Ctx Tryz.prog (G q) _:=(A0s.cons hN .nil).ctx mixed;have C3:Ctx Tryz.prog (G q) _:=(A0s.cons (D1s (q:=q)) (.cons hN2 (.cons hE2 (.cons (hEx (q:=q)) .nil)))).ctx mixed;refine A0a C ?_;simp -implicitDefEqProofs [la,hl,e1,e2];refine A0a C1 ?_;simp -implicitDefEqProofs [la,g1,s1];refine MC.sub (s':=⟨[(3,.ptr 1 0),(1,.ptr 0 0)],[(1,mRow cn),(0,X)],2,36⟩) (A0d (by simp -implicitDefEqProofs)) rfl ?_;by_cases hc:A3c A0h m=0
   ·have C2:Ctx Tryz.prog (G q) _:=(A0s.cons (D1s (q:=q)) (.cons (hsq (A5t.1 hc).2) .nil)).ctx mixed;rw[hc]at ck1;refine A0a C2 ?_;simp -implicitDefEqProofs [la2,ck1,lb,g3];refine A0e C3 ?_;simp -implicitDefEqProofs [lb,ck2,g4,g2,e0]
   ·have d1:(A3c A0h m==0)=false:=by rw[beq_eq_false_iff_ne];exact hc
    refine A0a C3 ?_;simp -implicitDefEqProofs [la2,ck1,d1];refine A0e C3 ?_;simp -implicitDefEqProofs [lb,ck2,g4,g2,e0]
  ·have d1:(A4f A0h m != 0)=true:=by rw[bne_iff_ne];exact h0
   refine A0a C ?_;simp -implicitDefEqProofs [la,hl,e1,e2,d1,e0]
end
end Go.Proofs.YtmgjopafgboljaaGreatDoor
