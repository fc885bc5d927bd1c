/- Auxiliary facts. -/
import Derived.Test.YtmgjopafgboljaaGreatDoorVEQ51
import Derived.Test.YtmgjopafgboljaaGreatDoorVEQ40
import Derived.Test.YtmgjopafgboljaaGreatDoorVEQ53
set_option linter.unusedSimpArgs false
set_option maxRecDepth 100000
set_option maxHeartbeats 0
set_option linter.unusedVariables false
namespace Go.Proofs.YtmgjopafgboljaaGreatDoor
open Go Go.Abs
variable {q : Gl}
def valB (m:Mr) (most:Int):Bool:=A6o m most&&decide (A3c A0h m=0)
section
variable {m : Mr} {cs : List T}
theorem B7w (h:InM m cs) {most:Int} (hm:most<=1000):A1d Tryz.prog (G q) 20 [.ag cs,iv most] (· = bv (valB m most)):=by
 have hL:=A4d (B0e (q:=q) h.is most h.rels);have e1:=A1i [.ag cs,iv most] (bv (A6o m most));have cd:=cdM h
 obtain⟨X,hX⟩:∃X,X=mRow cs:=⟨_,rfl⟩
 have la:=allM h (H:=[(0,X)]) (k:=0) (by rw[hX];rfl)
 obtain⟨R,hR⟩:∃R,R=valB m most:=⟨_,rfl⟩
 rw[<-hR];unfold valB at hR;refine D6z.call rfl ?_;(conv in C3f=>cbv);have C:Ctx Tryz.prog (G q) _:=(A0s.cons hL (.cons (G1d (q:=q)) .nil)).ctx mixed;refine A0a C ?_;simp -implicitDefEqProofs [cd];rw[show Row.cells tyMr (cs.map .t)=X from hX.symm]
 cases hl:A6o m most with
 | false=>
  rw[hl,Bool.false_and]at hR;rw[hl]at e1;refine A0e C ?_;simp -implicitDefEqProofs [la,hl,e1,hR]
 | true=>
  rw[hl,Bool.true_and]at hR;rw[hl]at e1;have e2:C2b [.ag cs]=some (iv (A3c A0h m)):=B3a _ h.is (h.sm hl hm);by_cases h0:A3c A0h m=0
  .rw[h0]at e2;rw[decide_eq_true h0]at hR;refine A0e C ?_;simp -implicitDefEqProofs [la,hl,e1,e2,hR]
  .have d1:(A3c A0h m==0)=false:=by rw[beq_eq_false_iff_ne];exact h0
   rw[decide_eq_false h0]at hR;refine A0e C ?_;simp -implicitDefEqProofs [la,hl,e1,e2,d1,hR]
end
section
variable {m : Mr} {cs : List T}
theorem C9g {most:Int} (h:valB m most=true):A6o m most=true/\A3c A0h m=0:=by
 unfold valB at h;rw[Bool.and_eq_true,decide_eq_true_eq]at h;exact h
end
end Go.Proofs.YtmgjopafgboljaaGreatDoor
