/- Auxiliary facts. -/
import Derived.Test.YtmgjopafgboljaaGreatDoorVEQ48
import Derived.Test.YtmgjopafgboljaaGreatDoorVEQ35
set_option linter.unusedSimpArgs false
set_option maxRecDepth 100000
set_option maxHeartbeats 0
set_option linter.unusedVariables false
open Go.Abs renaming look->Xc
namespace Go.Proofs.YtmgjopafgboljaaGreatDoor
open Go Go.Abs
variable {q : Gl}
def A6o (m:Mr) (most:Int):Bool:=!(decide (most<(m.rels.length:Int))||(decide (most<(m.cons.length:Int))||decide (300<m.vars.length)))&&m.rels.all λx=>decide (x.args.length<=10)
def SL5 (H:Heap) (i:Nat):A0c:=⟨[(5,.t (iv (i:Int))),(2,.ptr 0 0)],H,1,39⟩
def allL (l:List Ep):Bool:=l.all λx=>decide (x.args.length<=10)
theorem F1g (x:Ep) (l:List Ep):allL (x::l)=(decide (x.args.length<=10)&&allL l):=rfl
theorem B0e {m:Mr} {cs:List T} (hm:IsMr m cs) (most:Int) (hb:m.rels.length<=1000000):A1d Tryz.prog (G q) 12 [.ag cs,iv most] (· = bv (A6o m most)):=by
 obtain⟨tv,tr,tc,rl,rfl,hv,hr,hrm,hc⟩:=hm
 obtain⟨X,hX⟩:∃X,X=mRow [iv m.top,iv m.index,tv,tr,tc]:=⟨_,rfl⟩
 have ldx:∀{H:Heap},Xc H 0=some X->LdM (iv m.top) (iv m.index) tv tr tc H 0:=λh=>ldM (by rw[h,hX]);have l1:=hv.len;have l2:=hr.len;have l3:=hc.len
 have hrl:rl.length=m.rels.length:=by rw[<-hrm,List.length_map]
 rw[hrl]at l2;have c1:=cd5 (iv m.top) (iv m.index) tv tr tc
 obtain⟨R,hR⟩:∃R,R=A6o m most:=⟨_,rfl⟩
 rw[<-hR];unfold A6o at hR;refine D5x.call rfl ?_;(conv in C2i=>cbv);refine A0a A0g ?_;simp -implicitDefEqProofs [c1]
 obtain⟨H0,hH0⟩:∃H0:Heap,H0=[(0,X)]:=⟨_,rfl⟩
 have x0:Xc H0 0=some X:=by rw[hH0];rfl
 refine MC.sub (s':=⟨[(2,.ptr 0 0),(1,.t (iv most))],H0,1,39⟩) (by rw[hH0,hX];exact A0d (by simp -implicitDefEqProofs)) rfl ?_;have L:=ldx x0;by_cases g1:most<(m.rels.length:Int)
 .have d1:decide (most<(m.rels.length:Int))=true:=decide_eq_true g1
  have hR0:R=false:=by rw[hR,d1];rfl
  refine A0a A0g ?_;simp -implicitDefEqProofs [L.l3,L.l4,L.l2,l1,l2,l3,d1,g1,hR0]
 have d1:decide (most<(m.rels.length:Int))=false:=decide_eq_false g1;by_cases g2:most<(m.cons.length:Int)
 .have d2:decide (most<(m.cons.length:Int))=true:=decide_eq_true g2
  have hR0:R=false:=by rw[hR,d1,d2];rfl
  refine A0a A0g ?_;simp -implicitDefEqProofs [L.l3,L.l4,L.l2,l1,l2,l3,d1,g1,d2,g2,hR0]
 have d2:decide (most<(m.cons.length:Int))=false:=decide_eq_false g2;by_cases g3:300<m.vars.length
 .have d3:decide ((300:Int)<(m.vars.length:Int))=true:=decide_eq_true (by omega)
  have hR0:R=false:=by rw[hR,d1,d2,decide_eq_true g3];rfl
  refine A0a A0g ?_;simp -implicitDefEqProofs [L.l3,L.l4,L.l2,l1,l2,l3,d1,g1,d2,g2,d3,g3,hR0]
 have d3:decide ((300:Int)<(m.vars.length:Int))=false:=decide_eq_false (by omega)
 have hR1:R=allL m.rels:=by rw[hR,d1,d2,decide_eq_false g3];rfl
 refine A0a A0g ?_;simp -implicitDefEqProofs [L.l3,L.l4,L.l2,l1,l2,l3,d1,g1,d2,g2,d3,g3];refine A0q (λ_:Unit=>⟨[],H0,1,39⟩) (λ_=>R=true) (λ_=>rfl) ?_ ?_
 .refine A0a A0g ?_;simp -implicitDefEqProofs;refine A0j ?_;refine A0n (SL5 H0) (λi=>m.rels.length-i) (λi=>R=allL (m.rels.drop i)/\i<=m.rels.length) 0 (λ_=>rfl) ⟨hR1,Nat.zero_le _⟩ ?_ rfl ?_
  .exact A0d (by simp -implicitDefEqProofs [SL5])
  rintro i ⟨ha,hi⟩;by_cases hlt:i<m.rels.length
  rotate_left
  .rw[List.drop_of_length_le (by omega)]at ha;have hR2:R=true:=ha;refine A0a A0g ?_;simp -implicitDefEqProofs [SL5,L.l3,l2,hlt];exact Abs.Next.mk () hR2 (A0d (by simp -implicitDefEqProofs))
  obtain⟨c,hc1⟩:∃c,rl[i]?=some c:=⟨_,List.getElem?_eq_getElem (by omega)⟩
  have hcx:m.rels[i]?=some c.x:=by rw[<-hrm,List.getElem?_map,hc1];rfl
  obtain⟨ta,hcs,hta⟩:=c.ok;have i1:=hr.iaddr hc1 .i64;rw[show eEC.z=3 from rfl,show eEC.enc c=c.cs from rfl,hcs]at i1;have la:=hta.len;have w1:=C3b i (by omega);rw[List.drop_eq_getElem_cons hlt,(List.getElem?_eq_some_iff.1 hcx).2,F1g]at ha;refine A0a A0g ?_;simp -implicitDefEqProofs [SL5,L.l3,l2,hlt];by_cases g4:c.x.args.length<=10
  .have d4:decide ((10:Int)<(c.x.args.length:Int))=false:=decide_eq_false (by omega)
   have g5:¬10<c.x.args.length:=by omega
   rw[decide_eq_true g4,Bool.true_and]at ha;refine A0a A0g ?_;simp -implicitDefEqProofs [L.l3,i1,lp,la,d4,g5];refine A0e A0g ?_;simp -implicitDefEqProofs [w1];exact Abs.Next.mk (i+1) ⟨⟨ha,hlt⟩,by show m.rels.length-(i+1)<m.rels.length-i;omega⟩ (A0d (by simp -implicitDefEqProofs [SL5]))
  .have d4:decide ((10:Int)<(c.x.args.length:Int))=true:=decide_eq_true (by omega)
   have g5:10<c.x.args.length:=by omega
   rw[decide_eq_false g4,Bool.false_and]at ha;refine A0a A0g ?_;simp -implicitDefEqProofs [L.l3,i1,lp,la,d4,g5,ha]
 .rintro _ h;refine A0e A0g ?_;simp -implicitDefEqProofs [h]
structure InM (m:Mr) (cs:List T):Prop where
 is:IsMr m cs
 rels:m.rels.length<=1000000
 strs:∀x∈m.rels,x.pred.size<=lim/\∀a∈x.args,a.role.size<=lim
 sorts:∀s∈m.vars,s.size<=lim
theorem B6l {m:Mr} {most:Int} (h:A6o m most=true):(m.rels.length:Int)<=most/\(m.cons.length:Int)<=most/\m.vars.length<=300/\∀x∈m.rels,x.args.length<=10:=by
 unfold A6o at h;simp only[Bool.and_eq_true,Bool.not_eq_true',Bool.or_eq_false_iff,decide_eq_false_iff_not,List.all_eq_true,decide_eq_true_eq]at h;exact⟨by omega,by omega,by omega,h.2⟩
theorem InM.sm {m:Mr} {cs:List T} (h:InM m cs) {most:Int} (hl:A6o m most=true) (hm:most<=1000):SmM m:=by
 obtain⟨h1,h2,h3,h4⟩:=B6l hl;exact⟨by omega,by omega,by omega,λx hx=>by have:=h4 x hx;omega,h.strs,h.sorts⟩
section
variable {m : Mr} {cs : List T}
theorem InM.row (h:InM m cs):∃a b c d e,cs=[a,b,c,d,e]:=by
 obtain⟨tv,tr,tc,rl,rfl,_⟩:=h.is;exact⟨_,_,_,_,_,rfl⟩
theorem cdM (h:InM m cs):A1g (.t (.ag cs))=some (cs.map .t):=by
 obtain⟨a,b,c,d,e,rfl⟩:=h.row;rfl
theorem allM (h:InM m cs) {H:Heap} {k:Nat} (hk:Xc H k=some (mRow cs)):A0t true 5 H (.ptr k 0)=some (.t (.ag cs)):=by
 obtain⟨a,b,c,d,e,rfl⟩:=h.row;exact(ldM hk).all
end
end Go.Proofs.YtmgjopafgboljaaGreatDoor
