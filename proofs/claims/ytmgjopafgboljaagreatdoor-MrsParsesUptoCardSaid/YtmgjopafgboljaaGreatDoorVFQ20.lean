/- Auxiliary facts. -/
import Derived.Test.YtmgjopafgboljaaGreatDoorVFQ19
set_option linter.unusedSimpArgs false
set_option maxRecDepth 100000
set_option maxHeartbeats 0
set_option linter.unusedVariables false
open Go.Proofs.Tryz renaming prog->Xc
open Go.Abs renaming upd->Xd
open Nat renaming le_refl->Xe,le_trans->Xf,lt_succ_self->Xg,le_succ->Xh,sub_self->Xp,zero_le->X8,min_eq_left->Yg,lt_of_lt_of_le->Yo
open List renaming length_map->Xi,getElem?_eq_getElem->Xj,getElem?_eq_some_iff->Xl,mem_cons->Xm,length_append->Xn,append_nil->Xo,nil_append->Xq,length_take->Xr,drop_eq_getElem_cons->Xs,drop_of_length_le->Xt,length_cons->Xu,take_zero->Xv,append_assoc->Xw,length_singleton->Xx,take_add_one->Xy,length_drop->X0,mem_map->X2,flatMap_cons->X3,getElem?_drop->X4,drop_drop->X5,takeWhile_cons->X6,map_append->X9,take_append_drop->Ya,mem_of_getElem?->Yb,map_cons->Yd,sum_cons->Yf,set_cons_zero->Yh,any_eq_false->Yi,head?_drop->Yj,map_congr_left->Ym,not_mem_nil->Yp,map_nil->Yq,set_append_right->Yt,take_length->Yu,drop_append->Yv,set_cons_succ->Yw,map_map->Yx,replicate->Yy,all_eq_true->Yz,find?_append->Y2
open Go.IntKind renaming i64->Xk
open UInt8 renaming toNat_inj->Xz,ofNat->Yr,ofNat_toNat->Ys
open Int renaming toNat_natCast->X1
open Bool renaming and_false->X7,true_and->Yc,false_eq_true->Yk,false_and->Yl,or_eq_false_iff->Y0
open Option renaming map_eq_some_iff->Yn
namespace Go.Proofs.YtmgjopafgboljaaGreatDoor
open Go Go.Abs
variable {q : Gl}
theorem x7 (s:ByteArray) (i j:Nat):s.extract i j=ob (((wb s).drop i).take (j-i)):=by
 have h:(s.extract i j).data.toList=((wb s).drop i).take (j-i):=by
  rw[ByteArray.data_extract,Array.toList_extract]
 rw[<-h]
theorem slS {s:ByteArray} {i j:Nat} (h:i<=j) (hj:j<=s.size):ED (.t (sv s)) (some (.t (iv (i:Int)))) (some (.t (iv (j:Int))))=some (.t (sv (ob (((wb s).drop i).take (j-i))))):=by
 rw[<-x7];simp[ED,Cu,h,hj]
structure WdC where
 H:Ak
 j:Nat
def SWd (k0:Nat) (lo hi:UInt8) (i nx:Nat) (c:WdC):Am:=⟨[(7,.t (iv (i:Int))),(1,u8c lo),(2,u8c hi),(0,.ptr k0 0)],c.H,nx,92⟩
section
variable {s : ByteArray} {k0 kv i : Nat} {r : Rs} {H : Ak} {nx : Nat}
theorem RdS.eta (h:RdS s k0 kv i r H nx):r=⟨(wb s).drop i,r.e,r.seen⟩:=by rw[<-h.rest]
theorem x8 (h:RdS s k0 kv i r H nx) {big:Bool} {lo hi:UInt8} (hok:∀c,okC big c=(decide (lo.toNat<=c.toNat)&&decide (c.toNat<=hi.toNat))) (hs:s.size<=1000000000) :
  ∃f:Fin,(f.r = .t (sv (Bt big r).2)/\f.nx=nx/\(∃i',RdS s k0 kv i' (Bt big r).1 f.H nx)/\(∀c,c≠k0->Aj f.H c=Aj H c)/\(Frs H nx->Frs f.H nx))/\B3 Xc (G q) 123 [.ptr k0 0,u8c lo,u8c hi] H nx f.r f.H f.nx:=by
 have L:=ldR h.o
 obtain⟨R,hR⟩:∃R,R=Bt big r:=⟨_,rfl⟩
 rw[<-hR]
 obtain⟨W,hW⟩:∃W,W=Dm big true r.rest:=⟨_,rfl⟩
 refine oW.callX rfl ?_;(conv in Va=>cbv);refine A3 An ?_;simp -implicitDefEqProofs;refine A3 An ?_;simp -implicitDefEqProofs [L.l1];by_cases he:r.e=0
 rotate_left
 .have hb:(r.e==0)=false:=by rw[zp];exact he
  have hRe:R=(r,⟨#[]⟩):=by rw[hR];exact Oi he big
  obtain⟨⟨fr,fH,fn⟩,⟨hr,hn,hfS,hfk,hff⟩,hfc⟩:=K8 (q:=q) h;simp only at hr hn hfS hfk hff hfc;subst hr hn;obtain⟨tf,tf1,tf2⟩:=hAt hfc hff;have CC:Ctx Xc (G q) _:=AB.nil.ctxH (AG.cons tf2 .nil) mixed;have Lf:=ldR hfS.o;have sl:=slS (s:=s) (Xe i) h.hi;rw[Xp,Xv]at sl;rw[QD he]at hfS;refine Cp (λ_:Unit=>⟨[(7,.t (iv (i:Int))),(0,.ptr k0 0)],H,fn,92⟩) (λ_=>True) (λ_=>rfl) ?_ ?_
  .refine BA ?_;refine DH (SWd k0 lo hi i fn) (λ_=>0) (λc=>c=⟨H,i⟩) ⟨H,i⟩ (λ_=>rfl) rfl ?_ rfl ?_
   .exact Aw (by simp -implicitDefEqProofs [SWd])
   rintro _ rfl;refine A3 CC ?_;simp -implicitDefEqProofs [SWd,L.l2,hb];exact A4.mk () trivial (Aw (by simp -implicitDefEqProofs))
  rintro _ _;refine A3 CC ?_;simp -implicitDefEqProofs [L.l1,tf1];refine AV CC ?_;simp -implicitDefEqProofs [Lf.l1,Lf.l0,sl];exact Bp ⟨.t (sv (ob [])),fH,fn⟩ ⟨by rw[hRe],rfl,⟨i,by rw[hRe];exact hfS⟩,hfk,hff⟩ (by simp -implicitDefEqProofs)
 have hb:(r.e==0)=true:=by rw[he];rfl
 have hRw:R=if W=[]then(Be r,⟨#[]⟩)else(⟨r.rest.drop W.length,r.e,r.seen⟩,ob W):=by rw[hR];unfold Bt;rw[zu he,<-hW]
 have hi':=h.hi;refine Cp (λc:WdC=>⟨[(7,.t (iv (i:Int))),(0,.ptr k0 0)],c.H,nx,92⟩) (λc=>RdS s k0 kv c.j ⟨(wb s).drop c.j,r.e,r.seen⟩ c.H nx/\i<=c.j/\W=((wb s).drop i).take (c.j-i)/\(∀c',c'≠k0->Aj c.H c'=Aj H c')/\(Frs H nx->Frs c.H nx)) (λ_=>rfl) ?_ ?_
 .refine BA ?_
  refine DH (SWd k0 lo hi i nx) (λc=>s.size-c.j) (λc=>RdS s k0 kv c.j ⟨(wb s).drop c.j,r.e,r.seen⟩ c.H nx/\i<=c.j/\W=((wb s).drop i).take (c.j-i)++Dm big (decide (c.j=i)) ((wb s).drop c.j)/\(∀c',c'≠k0->Aj c.H c'=Aj H c')/\(Frs H nx->Frs c.H nx)) ⟨H,i⟩ (λ_=>rfl) ⟨by rw[<-h.eta];exact h,Xe _,by
    simp only[Xp,Xv,Xq,decide_true]
    rw[hW,h.rest],λ_ _=>rfl,λh=>h⟩ ?_ rfl ?_
  .exact Aw (by simp -implicitDefEqProofs [SWd])
  rintro⟨Ha,j⟩ ⟨hS,hij,hWj,hk,hf⟩;simp only at hS hij hWj hk hf;have La:=ldR hS.o;have hjs:=hS.hi;by_cases hlt:j<s.size
  rotate_left
  .have hd:decide ((j:Int)<(s.size:Int))=false:=zt (by omega);have edn:(wb s).drop j=[]:=Xt (by rw[Bz];omega)
   have hrn:∀b,Dm big b []=[]:=λb=>by cases b<;>rfl
   have hWe:W=((wb s).drop i).take (j-i):=by rw[hWj,edn,hrn,Xo]
   refine A3 An ?_;simp -implicitDefEqProofs [SWd,La.l2,La.l1,La.l0,hb,hd,hlt];exact A4.mk ⟨Ha,j⟩ ⟨hS,hij,hWe,hk,hf⟩ (Aw (by simp -implicitDefEqProofs))
  have hd:decide ((j:Int)<(s.size:Int))=true:=zq (by omega)
  obtain⟨c,hc⟩:∃c,(wb s)[j]?=some c:=⟨_,Xj (by rw[Bz];exact hlt)⟩
  have ix:=ixS hc
  have ed:(wb s).drop j=c::(wb s).drop (j+1):=by
   rw[Xs (by rw[Bz];exact hlt),(Xl.1 hc).2]
  rw[ed,Dm]at hWj
  have etk:((wb s).drop i).take (j+1-i)=((wb s).drop i).take (j-i)++[c]:=by
   rw[show j+1-i=(j-i)+1 by omega,Xy,X4,show i+(j-i)=j by omega,hc];rfl
  have w2:Xk.wrap ((j:Int)+1)=((j+1:Nat):Int):=Bb (by omega) (by omega);have S2:=hS.step (j:=j+1) (e':=r.e) (by omega);have s2:=Mp hS.o (j+1)
  obtain⟨H2,hH2⟩:∃H2,H2=Xd Ha k0 (Dy s (j+1) r.e (Ax eVr kv r.seen)):=⟨_,rfl⟩
  simp only at s2;rw[<-hH2]at s2 S2;rw[show((j+1:Nat):Int)=(j:Int)+1 from rfl]at s2 w2
  have go:(okC big c||(!decide (j=i)&&(Bd c||decide (c=45))))=true->RdS s k0 kv (j+1) ⟨(wb s).drop (j+1),r.e,r.seen⟩ H2 nx/\i<=j+1/\W=((wb s).drop i).take (j+1-i)++Dm big (decide (j+1=i)) ((wb s).drop (j+1))/\(∀c',c'≠k0->Aj H2 c'=Aj H c')/\(Frs H nx->Frs H2 nx):=λhg=>by
   rw[zu hg]at hWj;refine⟨S2,by omega,?_,λc hc=>by rw[hH2,A7,zw hc];exact hk c hc,λh=>by rw[hH2];exact(hf h).upd⟩;rw[hWj,etk,zt (by omega:¬j+1=i),Xw];rfl
  have stop:(okC big c||(!decide (j=i)&&(Bd c||decide (c=45))))=false->W=((wb s).drop i).take (j-i):=λhg=>by
   rw[zw (by rw[hg];decide)]at hWj;rw[hWj,Xo]
  refine A3 An ?_;simp -implicitDefEqProofs [SWd,La.l2,La.l1,La.l0,hb,hd,hlt];refine BA ?_;refine A3 An ?_;simp -implicitDefEqProofs [La.l0,La.l1,ix];have hcc:=hok c
  have c45:c=45 ↔ c.toNat=45:=⟨λe=>by rw[e];rfl,λe=>Xz.1 e⟩
  by_cases g1:c.toNat<lo.toNat
  .have hnok:okC big c=false:=by rw[hcc,zt (by omega:¬lo.toNat<=c.toNat)];rfl
   have d1:decide ((c.toNat:Int)<(lo.toNat:Int))=true:=zq (by omega);by_cases g3:j=i
   .have d3:((j:Int)==(i:Int))=true:=by rw[g3];exact beq_self_eq_true _
    refine A3 An ?_;simp -implicitDefEqProofs [La.l1,d1,g1,d3];exact A4.mk ⟨Ha,j⟩ ⟨hS,hij,stop (by rw[hnok,zq g3];rfl),hk,hf⟩ (Aw (by simp -implicitDefEqProofs))
   .have d3:((j:Int)==(i:Int))=false:=by rw[zp];omega
    by_cases g4:c.toNat<48
    .have d4:decide ((c.toNat:Int)<48)=true:=zq (by omega)
     have hdg:Bd c=false:=by unfold Bd;rw[zt (by omega:¬48<=c.toNat)];rfl
     by_cases g6:c.toNat=45
     .have d6:((c.toNat:Int) != 45)=false:=by rw[g6];rfl
      refine A3 An ?_;simp -implicitDefEqProofs [La.l1,d1,g1,d3,La.l1,d4,g4,d6];refine AV An ?_;simp -implicitDefEqProofs [La.l1,w2,s2];exact A4.mk ⟨H2,j+1⟩ ⟨go (by rw[hnok,hdg,zt g3,zq (c45.2 g6)];rfl),by show s.size-(j+1)<s.size-j;omega⟩ (Aw (by simp -implicitDefEqProofs [SWd]))
     .have d6:((c.toNat:Int) != 45)=true:=by rw[bne_iff_ne];omega
      refine A3 An ?_;simp -implicitDefEqProofs [La.l1,d1,g1,d3,La.l1,d4,g4,d6,g6];exact A4.mk ⟨Ha,j⟩ ⟨hS,hij,stop (by rw[hnok,hdg,zt (λe=>g6 (c45.1 e))];cases decide (j=i)<;>rfl),hk,hf⟩ (Aw (by simp -implicitDefEqProofs))
    .have d4:decide ((c.toNat:Int)<48)=false:=zt (by omega);by_cases g5:57<c.toNat
     .have d5:decide ((57:Int)<(c.toNat:Int))=true:=zq (by omega)
      have hdg:Bd c=false:=by unfold Bd;rw[zt (by omega:¬c.toNat<=57),X7]
      have d6:((c.toNat:Int) != 45)=true:=by rw[bne_iff_ne];omega
      have g6:¬c.toNat=45:=by omega
      refine A3 An ?_;simp -implicitDefEqProofs [La.l1,d1,g1,d3,La.l1,d4,g4,d5,g5,d6,g6];exact A4.mk ⟨Ha,j⟩ ⟨hS,hij,stop (by rw[hnok,hdg,zt (λe=>g6 (c45.1 e))];cases decide (j=i)<;>rfl),hk,hf⟩ (Aw (by simp -implicitDefEqProofs))
     .have d5:decide ((57:Int)<(c.toNat:Int))=false:=zt (by omega)
      have hdg:Bd c=true:=by unfold Bd;rw[zq (by omega:48<=c.toNat),zq (by omega:c.toNat<=57)];rfl
      refine A3 An ?_;simp -implicitDefEqProofs [La.l1,d1,g1,d3,La.l1,d4,g4,d5,g5];refine AV An ?_;simp -implicitDefEqProofs [La.l1,w2,s2];exact A4.mk ⟨H2,j+1⟩ ⟨go (by rw[hnok,hdg,zt g3];rfl),by show s.size-(j+1)<s.size-j;omega⟩ (Aw (by simp -implicitDefEqProofs [SWd]))
  .have d1:decide ((c.toNat:Int)<(lo.toNat:Int))=false:=zt (by omega);by_cases g2:hi.toNat<c.toNat
   .have hnok:okC big c=false:=by rw[hcc,zt (by omega:¬c.toNat<=hi.toNat),X7]
    have d2:decide ((hi.toNat:Int)<(c.toNat:Int))=true:=zq (by omega);by_cases g3:j=i
    .have d3:((j:Int)==(i:Int))=true:=by rw[g3];exact beq_self_eq_true _
     refine A3 An ?_;simp -implicitDefEqProofs [La.l1,d1,g1,d2,g2,d3];exact A4.mk ⟨Ha,j⟩ ⟨hS,hij,stop (by rw[hnok,zq g3];rfl),hk,hf⟩ (Aw (by simp -implicitDefEqProofs))
    .have d3:((j:Int)==(i:Int))=false:=by rw[zp];omega
     by_cases g4:c.toNat<48
     .have d4:decide ((c.toNat:Int)<48)=true:=zq (by omega)
      have hdg:Bd c=false:=by unfold Bd;rw[zt (by omega:¬48<=c.toNat)];rfl
      by_cases g6:c.toNat=45
      .have d6:((c.toNat:Int) != 45)=false:=by rw[g6];rfl
       refine A3 An ?_;simp -implicitDefEqProofs [La.l1,d1,g1,d2,g2,d3,La.l1,d4,g4,d6];refine AV An ?_;simp -implicitDefEqProofs [La.l1,w2,s2];exact A4.mk ⟨H2,j+1⟩ ⟨go (by rw[hnok,hdg,zt g3,zq (c45.2 g6)];rfl),by show s.size-(j+1)<s.size-j;omega⟩ (Aw (by simp -implicitDefEqProofs [SWd]))
      .have d6:((c.toNat:Int) != 45)=true:=by rw[bne_iff_ne];omega
       refine A3 An ?_;simp -implicitDefEqProofs [La.l1,d1,g1,d2,g2,d3,La.l1,d4,g4,d6,g6];exact A4.mk ⟨Ha,j⟩ ⟨hS,hij,stop (by rw[hnok,hdg,zt (λe=>g6 (c45.1 e))];cases decide (j=i)<;>rfl),hk,hf⟩ (Aw (by simp -implicitDefEqProofs))
     .have d4:decide ((c.toNat:Int)<48)=false:=zt (by omega);by_cases g5:57<c.toNat
      .have d5:decide ((57:Int)<(c.toNat:Int))=true:=zq (by omega)
       have hdg:Bd c=false:=by unfold Bd;rw[zt (by omega:¬c.toNat<=57),X7]
       have d6:((c.toNat:Int) != 45)=true:=by rw[bne_iff_ne];omega
       have g6:¬c.toNat=45:=by omega
       refine A3 An ?_;simp -implicitDefEqProofs [La.l1,d1,g1,d2,g2,d3,La.l1,d4,g4,d5,g5,d6,g6];exact A4.mk ⟨Ha,j⟩ ⟨hS,hij,stop (by rw[hnok,hdg,zt (λe=>g6 (c45.1 e))];cases decide (j=i)<;>rfl),hk,hf⟩ (Aw (by simp -implicitDefEqProofs))
      .have d5:decide ((57:Int)<(c.toNat:Int))=false:=zt (by omega)
       have hdg:Bd c=true:=by unfold Bd;rw[zq (by omega:48<=c.toNat),zq (by omega:c.toNat<=57)];rfl
       refine A3 An ?_;simp -implicitDefEqProofs [La.l1,d1,g1,d2,g2,d3,La.l1,d4,g4,d5,g5];refine AV An ?_;simp -implicitDefEqProofs [La.l1,w2,s2];exact A4.mk ⟨H2,j+1⟩ ⟨go (by rw[hnok,hdg,zt g3];rfl),by show s.size-(j+1)<s.size-j;omega⟩ (Aw (by simp -implicitDefEqProofs [SWd]))
   .have d2:decide ((hi.toNat:Int)<(c.toNat:Int))=false:=zt (by omega)
    have hokc:okC big c=true:=by rw[hcc,zq (by omega:lo.toNat<=c.toNat),zq (by omega:c.toNat<=hi.toNat)];rfl
    refine A3 An ?_;simp -implicitDefEqProofs [d1,g1,d2,g2];refine AV An ?_;simp -implicitDefEqProofs [La.l1,w2,s2];exact A4.mk ⟨H2,j+1⟩ ⟨go (by rw[hokc];rfl),by show s.size-(j+1)<s.size-j;omega⟩ (Aw (by simp -implicitDefEqProofs [SWd]))
 rintro⟨Ha,j⟩ ⟨hS,hij,hWj,hk,hf⟩;simp only at hS hij hWj hk hf;have La:=ldR hS.o;have hjs:=hS.hi;have sl:=slS (s:=s) hij hjs;rw[<-hWj]at sl;by_cases hji:j=i
 .subst hji;have d3:((j:Int)==(j:Int))=true:=beq_self_eq_true _
  have hW0:W=[]:=by rw[hWj,Xp,Xv]
  rw[zu hW0]at hRw;subst hW0;obtain⟨⟨fr,fH,fn⟩,⟨hr,hn,hfS,hfk,hff⟩,hfc⟩:=K8 (q:=q) hS;simp only at hr hn hfS hfk hff hfc;subst hr hn;obtain⟨tf,tf1,tf2⟩:=hAt hfc hff;have CC:Ctx Xc (G q) _:=AB.nil.ctxH (AG.cons tf2 .nil) mixed;have Lf:=ldR hfS.o;refine A3 CC ?_;simp -implicitDefEqProofs [La.l1,d3,tf1];refine AV CC ?_;simp -implicitDefEqProofs [Lf.l1,Lf.l0,sl];refine Bp ⟨.t (sv (ob [])),fH,fn⟩ ⟨by rw[hRw],rfl,⟨j,?_⟩,λc hc=>(hfk c hc).trans (hk c hc),λh=>hff (hf h)⟩ (by simp -implicitDefEqProofs);rw[hRw,show r=⟨(wb s).drop j,r.e,r.seen⟩from h.eta];exact hfS
 .have d3:((j:Int)==(i:Int))=false:=by rw[zp];omega
  have hWl:W.length=j-i:=by rw[hWj,Xr,X0,Bz];omega
  have hW0:W≠[]:=λe=>by rw[e]at hWl;simp at hWl;omega
  rw[zw hW0]at hRw;refine A3 An ?_;simp -implicitDefEqProofs [La.l1,d3];refine AV An ?_;simp -implicitDefEqProofs [La.l1,La.l0,sl];refine Bp ⟨.t (sv (ob W)),Ha,nx⟩ ⟨by rw[hRw],rfl,⟨j,?_⟩,hk,hf⟩ (by simp -implicitDefEqProofs);rw[hRw];simp only;rw[h.rest,X5,hWl,show i+(j-i)=j by omega];exact hS
end
theorem x9 (c:UInt8):decide (Lib.indexByte [104,101,120,105] c<0) = !GF c:=by
 unfold GF;simp only[Lib.indexByte];by_cases h1:c=104
 .subst h1;rfl
 by_cases h2:c=101
 .subst h2;rfl
 by_cases h3:c=120
 .subst h3;rfl
 by_cases h4:c=105
 .subst h4;rfl
 have g1:((104:UInt8)==c)=false:=by simpa using λe=>h1 e.symm
 have g2:((101:UInt8)==c)=false:=by simpa using λe=>h2 e.symm
 have g3:((120:UInt8)==c)=false:=by simpa using λe=>h3 e.symm
 have g4:((105:UInt8)==c)=false:=by simpa using λe=>h4 e.symm
 simp[g1,g2,g3,g4,h1,h2,h3,h4]
theorem gIB (c:UInt8):PK [.v (.string ⟨#[104,101,120,105]⟩),.v (.int .u8 (c.toNat:Int))]=some (iv (Lib.indexByte [104,101,120,105] c)):=by
 show some (iv (Lib.indexByte [104,101,120,105] ((c.toNat:Int)).toNat.toUInt8))=_;rw[X1];simp
def D5 (first z:Bool) (l:List UInt8):List UInt8:=if first then CQ l else if z then []else l.takeWhile Bd
def muR (r:Rs):Nat:=r.seen.length+r.rest.length
structure VaC where
 H:Ak
 j:Nat
def SVa (k0:Nat) (so:ByteArray) (m nx:Nat) (c:VaC):Am:=⟨[(4,.t (iv (m:Int))),(3,.t (sv so)),(0,.ptr k0 0)],c.H,nx,153⟩
structure a8 (s:ByteArray) (k0 kv:Nat) (r:Rs) (o:Rs×Int) (H:Ak) (nx:Nat) (f:Fin):Prop where
 r:f.r = .t (iv o.2)
 p:RdP s k0 kv o.1 H nx f
section
variable {s : ByteArray} {k0 kv i : Nat} {r : Rs} {H : Ak} {nx : Nat}
theorem xA {e:Int} {v:PV} (h:Aj H k0=some (Dy s i e v)) {b n z:Nat}:AO 1 H (.ptr k0 3) (.row b 0 n z)=some (Xd H k0 (Dy s i e (.row b 0 n z))):=
 BF (ns:=[.row b 0 n z]) h rfl rfl (by show 3+1<=4;omega)
theorem xB (h:RdS s k0 kv i r H nx) (hs:s.size<=1000000000) (hmu:muR r<=1000000000) :
  ∃f:Fin,a8 s k0 kv r (AW r) H nx f/\B3 Xc (G q) 86 [.ptr k0 0] H nx f.r f.H f.nx:=by
 have L:=ldR h.o
 obtain⟨O,hO⟩:∃O,O=AW r:=⟨_,rfl⟩
 rw[<-hO];refine oX.callX rfl ?_;(conv in Vb=>cbv);refine A3 An ?_;simp -implicitDefEqProofs;by_cases he:r.e=0
 rotate_left
 .have hb:(r.e != 0)=true:=by rw[bne_iff_ne];exact he
  have hOe:O=(r,0):=by rw[hO];exact Oj he
  refine A3 An ?_;simp -implicitDefEqProofs [L.l2,hb];exact Bp ⟨.t (iv 0),H,nx⟩ ⟨by rw[hOe],by rw[hOe];exact⟨⟨kv,i,h,.inl rfl⟩,λ_ _ _ _=>rfl,Xe _,λh=>h⟩⟩ (by simp -implicitDefEqProofs)
 have hb:(r.e != 0)=false:=by rw[he];rfl
 have hi':=h.hi;refine A3 An ?_;simp -implicitDefEqProofs [L.l2,hb];obtain⟨⟨fr,fH,fn⟩,⟨hr,hn,hfS,hfk,hff⟩,hfc⟩:=K8 (q:=q) h;simp only at hr hn hfS hfk hff hfc;subst hr hn;obtain⟨tf,tf1,tf2⟩:=hAt hfc hff;have CF:Ctx Xc (G q) _:=(AB.cons (mA (q:=q)) .nil).ctxH (AG.cons tf2 .nil) mixed
 have bad:O=(Be r,0)->a8 s k0 kv r O H fn ⟨.t (iv 0),fH,fn⟩:=λe=>by
  rw[e];exact⟨rfl,⟨kv,i,hfS,.inl rfl⟩,λc _ h0 _=>hfk c h0,Xe _,hff⟩
 unfold AW at hO;rw[zu he]at hO;by_cases hlt:i<s.size
 rotate_left
 .have hd:decide ((s.size:Int)<=(i:Int))=true:=zq (by omega)
  have hle:s.size<=i:=by omega
  rw[h.nil.2 hle]at hO;refine A3 CF ?_;simp -implicitDefEqProofs [L.l1,L.l0,hd,hle,tf1];exact Bp ⟨.t (iv 0),fH,fn⟩ (bad hO) (by simp -implicitDefEqProofs)
 have hd:decide ((s.size:Int)<=(i:Int))=false:=zt (by omega)
 have hnle:¬s.size<=i:=by omega
 obtain⟨c,hc⟩:∃c,(wb s)[i]?=some c:=⟨_,Xj (by rw[Bz];exact hlt)⟩
 have ix:=ixS hc
 have er:r.rest=c::(wb s).drop (i+1):=by
  rw[h.rest,Xs (by rw[Bz];exact hlt),(Xl.1 hc).2]
 rw[er]at hO;simp only at hO;have eib:=gIB c;have dib:=x9 c
 obtain⟨z,hz⟩:∃z,z=Lib.indexByte [104,101,120,105] c:=⟨_,rfl⟩
 rw[<-hz]at eib dib
 cases hsc:GF c with
 | false=>
  rw[hsc]at hO dib;rw[zw (by decide)]at hO
  have zl:z<0:=by simpa using dib
  refine A3 CF ?_;simp -implicitDefEqProofs [L.l1,L.l0,hd,hnle,ix,eib,dib,zl,tf1];exact Bp ⟨.t (iv 0),fH,fn⟩ (bad hO) (by simp -implicitDefEqProofs)
 | true=>
 rw[hsc]at hO dib;rw[zu rfl]at hO
 have zl:¬z<0:=by simpa using dib
 obtain⟨m,hm⟩:∃m,m=i+1:=⟨_,rfl⟩
 have w2:Xk.wrap ((i:Int)+1)=(m:Int):=by rw[hm];exact Bb (by omega) (by omega)
 have hms:m<=s.size:=by omega
 have slc:=slS (s:=s) (i:=i) (j:=m) (by omega) hms
 have etk1:((wb s).drop i).take (m-i)=[c]:=by
  rw[show m-i=1 by omega,<-h.rest,er];rfl
 rw[etk1]at slc;rw[<-hm]at hO;have S2:=h.step (j:=m) (e':=r.e) hms;have s2:=Mp h.o m
 obtain⟨H2,hH2⟩:∃H2,H2=Xd H k0 (Dy s m r.e (Ax eVr kv r.seen)):=⟨_,rfl⟩
 rw[<-hH2]at s2 S2
 have k2:∀c,c≠k0->Aj H2 c=Aj H c:=λc hc=>by rw[hH2,A7,zw hc]
 have f2:Frs H fn->Frs H2 fn:=λh=>by rw[hH2];exact h.upd
 have L2:=ldR S2.o;refine A3 CF ?_;simp -implicitDefEqProofs [L.l1,L.l0,hd,hnle,ix,eib,dib,zl];refine A3 An ?_;simp -implicitDefEqProofs [L.l1,L.l0,w2,slc];refine A3 An ?_;simp -implicitDefEqProofs [L.l1,w2,s2];refine A3 An ?_;simp -implicitDefEqProofs [L2.l1]
 obtain⟨Q,hQ⟩:∃Q,Q=(wb s).drop m:=⟨_,rfl⟩
 rw[<-hQ]at hO
 obtain⟨D,hD⟩:∃D,D=CQ Q:=⟨_,rfl⟩
 rw[<-hD]at hO
 obtain⟨zz,hzz⟩:∃zz,zz=decide (Q.head?=some 48):=⟨_,rfl⟩
 refine Cp (λc':VaC=>⟨[(4,.t (iv (m:Int))),(3,.t (sv (ob [c]))),(0,.ptr k0 0)],c'.H,fn,153⟩) (λc'=>RdS s k0 kv c'.j ⟨(wb s).drop c'.j,r.e,r.seen⟩ c'.H fn/\m<=c'.j/\D=Q.take (c'.j-m)/\(∀c'',c''≠k0->Aj c'.H c''=Aj H c'')/\(Frs H fn->Frs c'.H fn)) (λ_=>rfl) ?_ ?_
 .refine BA ?_
  refine DH (SVa k0 (ob [c]) m fn) (λc'=>s.size-c'.j) (λc'=>RdS s k0 kv c'.j ⟨(wb s).drop c'.j,r.e,r.seen⟩ c'.H fn/\m<=c'.j/\D=Q.take (c'.j-m)++D5 (decide (c'.j=m)) zz ((wb s).drop c'.j)/\(∀c'',c''≠k0->Aj c'.H c''=Aj H c'')/\(Frs H fn->Frs c'.H fn)) ⟨H2,m⟩ (λ_=>rfl) ⟨S2,Xe _,by
    simp only[Xp,Xv,Xq,decide_true]
    rw[hD,hQ];rfl,k2,f2⟩ ?_ rfl ?_
  .exact Aw (by simp -implicitDefEqProofs [SVa])
  rintro⟨Ha,j⟩ ⟨hS,hij,hWj,hk,hf⟩;simp only at hS hij hWj hk hf;have La:=ldR hS.o;have hjs:=hS.hi;by_cases hlj:j<s.size
  rotate_left
  .have hdj:decide ((j:Int)<(s.size:Int))=false:=zt (by omega);have edn:(wb s).drop j=[]:=Xt (by rw[Bz];omega)
   have hrn:∀a b,D5 a b []=[]:=λa b=>by cases a<;>cases b<;>rfl
   have hWe:D=Q.take (j-m):=by rw[hWj,edn,hrn,Xo]
   refine A3 An ?_;simp -implicitDefEqProofs [SVa,La.l1,La.l0,hdj,hlj];exact A4.mk ⟨Ha,j⟩ ⟨hS,hij,hWe,hk,hf⟩ (Aw (by simp -implicitDefEqProofs))
  have hdj:decide ((j:Int)<(s.size:Int))=true:=zq (by omega)
  obtain⟨x,hx⟩:∃x,(wb s)[j]?=some x:=⟨_,Xj (by rw[Bz];exact hlj)⟩
  have ixj:=ixS hx
  have ed:(wb s).drop j=x::(wb s).drop (j+1):=by
   rw[Xs (by rw[Bz];exact hlj),(Xl.1 hx).2]
  have etk:Q.take (j+1-m)=Q.take (j-m)++[x]:=by
   rw[hQ,show j+1-m=(j-m)+1 by omega,Xy,X4,show m+(j-m)=j by omega,hx];rfl
  have w3:Xk.wrap ((j:Int)+1)=((j+1:Nat):Int):=Bb (by omega) (by omega);have S3:=hS.step (j:=j+1) (e':=r.e) (by omega);have s3:=Mp hS.o (j+1)
  obtain⟨H3,hH3⟩:∃H3,H3=Xd Ha k0 (Dy s (j+1) r.e (Ax eVr kv r.seen)):=⟨_,rfl⟩
  simp only at s3;rw[<-hH3]at s3 S3;rw[show((j+1:Nat):Int)=(j:Int)+1 from rfl]at s3 w3
  have go:D=Q.take (j+1-m)++D5 false zz ((wb s).drop (j+1))->RdS s k0 kv (j+1) ⟨(wb s).drop (j+1),r.e,r.seen⟩ H3 fn/\m<=j+1/\D=Q.take (j+1-m)++D5 (decide (j+1=m)) zz ((wb s).drop (j+1))/\(∀c',c'≠k0->Aj H3 c'=Aj H c')/\(Frs H fn->Frs H3 fn):=λhg=>by
   refine⟨S3,by omega,by rw[zt (by omega:¬j+1=m)];exact hg,λc hc=>by rw[hH3,A7,zw hc];exact hk c hc,λh=>by rw[hH3];exact(hf h).upd⟩
  rw[ed]at hWj
  have x48:x=48 ↔ x.toNat=48:=⟨λe=>by rw[e];rfl,λe=>Xz.1 e⟩
  by_cases g1:48<=x.toNat
  rotate_left
  .have d1:decide ((48:Int)<=(x.toNat:Int))=false:=zt (by omega)
   have hdg:Bd x=false:=by unfold Bd;rw[zt g1];rfl
   have hWe:D=Q.take (j-m):=by
    rw[hWj]
    have:D5 (decide (j=m)) zz (x::(wb s).drop (j+1))=[]:=by
     unfold D5;split
     .rw[CQ,zw (by rw[hdg];decide)]
     .split
      .rfl
      .rw[X6,hdg];rfl
    rw[this,Xo]
   refine A3 An ?_;simp -implicitDefEqProofs [SVa,La.l1,La.l0,hdj,hlj,ixj,d1,g1];exact A4.mk ⟨Ha,j⟩ ⟨hS,hij,hWe,hk,hf⟩ (Aw (by simp -implicitDefEqProofs))
  have d1:decide ((48:Int)<=(x.toNat:Int))=true:=zq (by omega);by_cases g2:x.toNat<=57
  rotate_left
  .have d2:decide ((x.toNat:Int)<=57)=false:=zt (by omega)
   have hdg:Bd x=false:=by unfold Bd;rw[zt g2,X7]
   have hWe:D=Q.take (j-m):=by
    rw[hWj]
    have:D5 (decide (j=m)) zz (x::(wb s).drop (j+1))=[]:=by
     unfold D5;split
     .rw[CQ,zw (by rw[hdg];decide)]
     .split
      .rfl
      .rw[X6,hdg];rfl
    rw[this,Xo]
   refine A3 An ?_;simp -implicitDefEqProofs [SVa,La.l1,La.l0,hdj,hlj,ixj,d1,g1,d2,g2];exact A4.mk ⟨Ha,j⟩ ⟨hS,hij,hWe,hk,hf⟩ (Aw (by simp -implicitDefEqProofs))
  have d2:decide ((x.toNat:Int)<=57)=true:=zq (by omega)
  have hdg:Bd x=true:=by unfold Bd;rw[zq g1,zq g2];rfl
  by_cases g3:j=m
  .have d3:((j:Int)==(m:Int))=true:=by rw[g3];exact beq_self_eq_true _
   have hg:D=Q.take (j+1-m)++D5 false zz ((wb s).drop (j+1)):=by
    rw[hWj,etk,zq g3,Xw];congr 1
    have hz2:zz=decide (x=48):=by
     rw[hzz,hQ,<-g3,ed];simp
    unfold D5;rw[hz2];by_cases e:x=48
    .rw[zu rfl,CQ,zu hdg,zu e,zq e];rfl
    .rw[zu rfl,CQ,zu hdg,zw e,zt e];rfl
   refine A3 An ?_;simp -implicitDefEqProofs [SVa,La.l1,La.l0,hdj,hlj,ixj,d1,g1,d2,g2,d3];refine BA ?_;refine AV An ?_;simp -implicitDefEqProofs [La.l1,w3,s3];exact A4.mk ⟨H3,j+1⟩ ⟨go hg,by show s.size-(j+1)<s.size-j;omega⟩ (Aw (by simp -implicitDefEqProofs [SVa]))
  .have d3:((j:Int)==(m:Int))=false:=by rw[zp];omega
   obtain⟨y,hy⟩:∃y,(wb s)[m]?=some y:=⟨_,Xj (by rw[Bz];omega)⟩
   have ixm:=ixS hy
   have y48:y=48 ↔ y.toNat=48:=⟨λe=>by rw[e];rfl,λe=>Xz.1 e⟩
   have hz2:zz=decide (y=48):=by
    rw[hzz,hQ,Yj,hy];simp
   by_cases g4:y.toNat=48
   .have d4:((y.toNat:Int) != 48)=false:=by rw[g4];rfl
    have hWe:D=Q.take (j-m):=by
     rw[hWj,zt g3,hz2,zq (y48.2 g4)];unfold D5;rw[zw (by decide),zu rfl,Xo]
    refine A3 An ?_;simp -implicitDefEqProofs [SVa,La.l1,La.l0,hdj,hlj,ixj,ixm,d1,g1,d2,g2,d3,d4];exact A4.mk ⟨Ha,j⟩ ⟨hS,hij,hWe,hk,hf⟩ (Aw (by simp -implicitDefEqProofs))
   .have d4:((y.toNat:Int) != 48)=true:=by rw[bne_iff_ne];omega
    have hg:D=Q.take (j+1-m)++D5 false zz ((wb s).drop (j+1)):=by
     rw[hWj,etk,zt g3,Xw,hz2,zt (λe=>g4 (y48.1 e))];congr 1;unfold D5;rw[zw (by decide),zw (by decide),zw (by decide),zw (by decide),X6,hdg];rfl
    refine A3 An ?_;simp -implicitDefEqProofs [SVa,La.l1,La.l0,hdj,hlj,ixj,ixm,d1,g1,d2,g2,d3,d4];refine BA ?_;refine AV An ?_;simp -implicitDefEqProofs [La.l1,w3,s3];exact A4.mk ⟨H3,j+1⟩ ⟨go hg,by show s.size-(j+1)<s.size-j;omega⟩ (Aw (by simp -implicitDefEqProofs [SVa]))
 rintro⟨Ha,j⟩ ⟨hS,hij,hWj,hk,hf⟩;simp only at hS hij hWj hk hf;have La:=ldR hS.o;have hjs:=hS.hi;by_cases g3:j=m
 .have d3:((j:Int)==(m:Int))=true:=by rw[g3];exact beq_self_eq_true _
  have hD0:D=[]:=by rw[hWj,g3,Xp,Xv]
  rw[zu hD0]at hO;obtain⟨⟨fr',fH',fn'⟩,⟨hr',hn',hfS',hfk',hff'⟩,hfc'⟩:=K8 (q:=q) hS;simp only at hr' hn' hfS' hfk' hff' hfc';subst hr' hn';obtain⟨tg,tg1,tg2⟩:=hAt hfc' hff';have CG:Ctx Xc (G q) _:=AB.nil.ctxH (AG.cons tg2 .nil) mixed;refine A3 CG ?_;simp -implicitDefEqProofs [La.l1,d3,tg1];refine Bp ⟨.t (iv 0),fH',fn'⟩ ⟨by rw[hO],?_⟩ (by simp -implicitDefEqProofs);rw[hO];refine⟨⟨kv,j,?_,.inl rfl⟩,λc _ h0 _=>(hfk' c h0).trans (hk c h0),Xe _,λh=>hff' (hf h)⟩;simp only;rw[hQ,<-g3];exact hfS'
 .have d3:((j:Int)==(m:Int))=false:=by rw[zp];omega
  have hDl:D.length=j-m:=by rw[hWj,hQ,Xr,X0,Bz];omega
  have hD0:D≠[]:=λe=>by rw[e]at hDl;simp at hDl;omega
  rw[zw hD0]at hO;have sld:=slS (s:=s) (i:=m) (j:=j) hij hjs;rw[<-hQ,<-hWj]at sld
  have hsl:r.seen.length<=1000000000:=by unfold muR at hmu;omega
  obtain⟨Hd,ad,bd,cdd,fd⟩:=EM (by':=32) (nx:=fn) (⟨ob [c],ob D⟩:Vr) 2 rfl [sv (ob [c]),sv (ob D)] rfl hS.v hS.lv (by simp only;omega) (by simp only;omega);simp only at ad bd
  have odd:Aj Hd k0=some (Dy s j r.e (Ax eVr kv r.seen)):=by rw[cdd k0 h.l0 h.ne.symm];exact hS.o
  have Ld:=ldR odd
  obtain⟨ns,hns⟩:∃ns,ns=r.seen++[(⟨ob [c],ob D⟩:Vr)]:=⟨_,rfl⟩
  rw[<-hns]at ad bd hO
  have hnl:ns.length=r.seen.length+1:=by rw[hns];simp
  have nne:ns≠[]:=λe=>by rw[e]at hnl;simp at hnl
  have erw:Ax eVr fn ns = .row fn 0 (r.seen.length+1) 2:=by rw[F3 eVr fn ns nne,hnl];rfl
  rw[erw]at ad;have s4:=xA odd (b:=fn) (n:=r.seen.length+1) (z:=2)
  obtain⟨He,hHe⟩:∃He,He=Xd Hd k0 (Dy s j r.e (.row fn 0 (r.seen.length+1) 2)):=⟨_,rfl⟩
  rw[<-hHe]at s4
  have oe:Aj He k0=some (Dy s j r.e (.row fn 0 (r.seen.length+1) 2)):=by rw[hHe,A7,zu rfl,odd];rfl
  have Le:=ldR oe;have bdm:∀(Φ:AP) (H:Ak) (nx:Nat),A0 Φ H nx (.build [(0,1),(1,1)] [.string ⟨#[]⟩,.string ⟨#[]⟩] [0,1]) [.t (sv (ob [c])),.t (sv (ob D))]=some (.t (.ag [sv (ob [c]),sv (ob D)]),H,nx):=λ_ _ _=>rfl;have htsl:EZ Iw 2 [.string ⟨#[]⟩,.string ⟨#[]⟩] 1 [(0,.t (.ag [sv (ob [c]),sv (ob D)]))]=some (.t (.sl 1 [sv (ob [c]),sv (ob D)])):=rfl;have lnr:CV (.row fn 0 (r.seen.length+1) 2)=some (.t (iv ((r.seen.length+1:Nat):Int))):=rfl;have w5:Xk.wrap (((r.seen.length+1:Nat):Int)-1)=((r.seen.length:Nat):Int):=Bb (by omega) (by omega);rw[show((r.seen.length+1:Nat):Int)=(r.seen.length:Int)+1 from rfl]at lnr w5;have w6:Xk.wrap ((r.seen.length:Nat):Int)=((r.seen.length:Nat):Int):=Bb rfl (by omega);refine A3 An ?_;simp -implicitDefEqProofs [La.l1,d3];refine A3 An ?_;simp -implicitDefEqProofs [La.l3,La.l0,La.l1,sld,bdm,htsl,ad,s4,-BU];refine AV An ?_;simp -implicitDefEqProofs [Le.l3,lnr,w5];refine Bp ⟨.t (iv (r.seen.length:Int)),He,fn+1⟩ ⟨by rw[hO],?_⟩ (by simp -implicitDefEqProofs [w6]);rw[hO];refine⟨⟨fn,j,⟨?_,?_,?_,hjs,?_,?_,?_⟩,.inr (Xe _)⟩,λc hc h0 hv=>?_,Xh _,λh=>?_⟩
  .simp only;rw[erw];exact oe
  .refine bd.imp id λe=>?_;show Aj He fn=_;rw[hHe,A7,zw (by have:=h.l0;omega)];exact e
  .simp only;rw[hDl,hQ,X5,show m+(j-m)=j by omega]
  .have:=h.l0;show k0<fn+1;omega
  .exact Xg fn
  .have:=h.l0;omega
  .show Aj He c=_;rw[hHe,A7,zw h0,cdd c hc hv];exact hk c h0
  .show Frs He (fn+1);rw[hHe];exact(fd (hf h)).upd
end
structure Acc (k0 kv0:Nat) (H0:Ak) (nx0:Nat) (kv:Nat) (H:Ak) (nx:Nat):Prop where
 v:kv=kv0\/nx0<=kv
 k:∀c,c<nx0->c≠k0->c≠kv0->Aj H c=Aj H0 c
 n:nx0<=nx
 fr:Frs H0 nx0->Frs H nx
structure Stp (s:ByteArray) (k0 kv0:Nat) (H0:Ak) (nx0:Nat) (kv:Nat) (r':Rs) (H:Ak) (nx kv' i':Nat) (H':Ak) (nx':Nat):Prop where
 s:RdS s k0 kv' i' r' H' nx'
 a:Acc k0 kv0 H0 nx0 kv' H' nx'
 k:∀c,c<nx->c≠k0->c≠kv->Aj H' c=Aj H c
 v:kv'=kv\/nx<=kv'
 n:nx<=nx'
section
variable {s : ByteArray} {k0 kv0 kv i : Nat} {r : Rs} {H0 H : Ak} {nx0 nx : Nat}
theorem Acc.refl:Acc k0 kv H nx kv H nx:=⟨.inl rfl,λ_ _ _ _=>rfl,Xe _,λh=>h⟩
theorem Acc.step (A:Acc k0 kv0 H0 nx0 kv H nx) {kv' nx':Nat} {H':Ak} (hk:∀c,c<nx->c≠k0->c≠kv->Aj H' c=Aj H c) (hv:kv'=kv\/nx<=kv') (hn:nx<=nx') (hf:Frs H nx->Frs H' nx'):Acc k0 kv0 H0 nx0 kv' H' nx':=by
 have n1:=A.n;have v1:=A.v;refine⟨by rcases hv with e | e<;>omega,λc hc h0 hcv=>?_,by omega,λh=>hf (A.fr h)⟩;rw[hk c (by omega) h0 (by omega)];exact A.k c hc h0 hcv
theorem Acc.cons (A:Acc k0 kv0 H0 nx0 kv H nx) (x:Row):Acc k0 kv0 H0 nx0 kv ((nx,x)::H) (nx+1):=
 A.step (λc hc _ _=>by rw[A9,zw (by omega)]) (.inl rfl) (Xh _) (λh=>h.cons (Xg _) (Xh _))
theorem Acc.upd (A:Acc k0 kv0 H0 nx0 kv H nx) {b:Nat} (hb:nx0<=b) (x:Row):Acc k0 kv0 H0 nx0 kv (Xd H b x) nx:=
 ⟨A.v,λc hc h0 hcv=>by rw[A7,zw (by omega)];exact A.k c hc h0 hcv,A.n,λh=>(A.fr h).upd⟩
theorem RdS.cons (h:RdS s k0 kv i r H nx) (x:Row):RdS s k0 kv i r ((nx,x)::H) (nx+1):=by
 have h1:=h.l0;have h2:=h.lv;exact⟨by rw[A9,zw (by omega)];exact h.o,h.v.imp id λe=>by rw[A9,zw (by omega)];exact e,h.rest,h.hi,by omega,by omega,h.ne⟩
theorem RdS.upd (h:RdS s k0 kv i r H nx) {b:Nat} (h0:k0≠b) (hv:kv≠b) (x:Row):RdS s k0 kv i r (Xd H b x) nx:=
 ⟨by rw[A7,zw h0];exact h.o,h.v.imp id λe=>by rw[A7,zw hv];exact e,h.rest,h.hi,h.l0,h.lv,h.ne⟩
theorem FF (S:RdS s k0 kv i r H nx) (A:Acc k0 kv0 H0 nx0 kv H nx) {t:ByteArray} (ht:t.size<=1000) (hs:s.size<=1000000000) :
  ∃H' i' tb,Stp s k0 kv0 H0 nx0 kv (AC (wb t) r) H nx kv i' H' nx/\tb [.ptr k0 0,.t (sv t)] H nx=some (.t (.tu []),H',nx)/\HOK Xc (G q) 87 tb:=by
 obtain⟨⟨fr,fH,fn⟩,⟨hr,hn,⟨i',hS⟩,hk,hf⟩,hc⟩:=x6 (q:=q) S ht hs;simp only at hr hn hS hk hf hc;subst hr hn;obtain⟨tb,t1,t2⟩:=hAt hc hf;exact⟨fH,i',tb,⟨hS,A.step (λc _ h0 _=>hk c h0) (.inl rfl) (Xe _) hf,λc _ h0 _=>hk c h0,.inl rfl,Xe _⟩,t1,t2⟩
theorem aA (S:RdS s k0 kv i r H nx) (A:Acc k0 kv0 H0 nx0 kv H nx) {big:Bool} {lo hi:UInt8} (hok:∀c,okC big c=(decide (lo.toNat<=c.toNat)&&decide (c.toNat<=hi.toNat))) (hs:s.size<=1000000000) :
  ∃H' i' tb,Stp s k0 kv0 H0 nx0 kv (Bt big r).1 H nx kv i' H' nx/\tb [.ptr k0 0,u8c lo,u8c hi] H nx=some (.t (sv (Bt big r).2),H',nx)/\HOK Xc (G q) 123 tb:=by
 obtain⟨⟨fr,fH,fn⟩,⟨hr,hn,⟨i',hS⟩,hk,hf⟩,hc⟩:=x8 (q:=q) S hok hs;simp only at hr hn hS hk hf hc;subst hr hn;obtain⟨tb,t1,t2⟩:=hAt hc hf;exact⟨fH,i',tb,⟨hS,A.step (λc _ h0 _=>hk c h0) (.inl rfl) (Xe _) hf,λc _ h0 _=>hk c h0,.inl rfl,Xe _⟩,t1,t2⟩
theorem K9 (S:RdS s k0 kv i r H nx) (A:Acc k0 kv0 H0 nx0 kv H nx) (hs:s.size<=1000000000) (hmu:muR r<=1000000000) :
  ∃H' kv' i' nx' tb,Stp s k0 kv0 H0 nx0 kv (AW r).1 H nx kv' i' H' nx'/\tb [.ptr k0 0] H nx=some (.t (iv (AW r).2),H',nx')/\HOK Xc (G q) 86 tb:=by
 obtain⟨⟨fr,fH,fn⟩,⟨hr,⟨⟨kv',i',hS,hv⟩,hk,hn,hf⟩⟩,hc⟩:=xB (q:=q) S hs hmu;simp only at hr hn hS hk hf hc;subst hr;obtain⟨tb,t1,t2⟩:=hAt hc hf;exact⟨fH,kv',i',fn,tb,⟨hS,A.step hk hv hn hf,hk,hv,hn⟩,t1,t2⟩
theorem Ix (S:RdS s k0 kv i r H nx) (c:UInt8):∃tb,tb [.ptr k0 0,u8c c] H nx=some (.t (bv (AR c r)),H,nx)/\HOK Xc (G q) 88 tb:=by
 obtain⟨tb,t1,t2⟩:=hAt (x5 (q:=q) S c) (λh=>h);exact⟨tb,t1,t2⟩
end
theorem Mq (r:Rs):muR (Be r)=muR r:=by unfold muR;rw[EO,GG]
theorem Rg:∀(t:List UInt8) (r:Rs),(AC t r).seen=r.seen
 | [],_=>rfl
 | c::t,r=>by
  rw[AC];split
  .split
   .split
    .exact Rg t _
    .exact GG r
   .exact GG r
  .rfl
theorem CI (t:List UInt8) (r:Rs):muR (AC t r)<=muR r:=by
 have:=DG t r;unfold muR;rw[Rg];omega
theorem KA (big:Bool) (r:Rs):muR (Bt big r).1<=muR r:=by
 have h:=On big r
 have e:(Bt big r).1.seen=r.seen:=by
  unfold Bt;split
  .split
   .exact GG r
   .rfl
  .rfl
 unfold muR;rw[e];omega
theorem ET (r:Rs):muR (AW r).1<=muR r:=by
 unfold AW;split
 .split
  .rename_i c q hr;split
   .split
    .rw[Mq];unfold muR;rw[hr];simp
    .rename_i hD;have h1:0<(CQ q).length:=List.length_pos_iff.2 hD;unfold muR;rw[hr];simp only[Xn,Xu,List.length_nil,X0];omega
   .exact Nat.le_of_eq (Mq r)
  .exact Nat.le_of_eq (Mq r)
 .exact Xe _
theorem xC (r:Rs):muR (EB r)<=muR r:=by
 unfold muR EB;simp only[X0];omega
abbrev Jo:Nat:=85
def rqC (s:ByteArray) (i:Nat) (e:Int) (u v:PV):List PV:=[.t (sv s),.t (iv (i:Int)),.t (iv e),u,v]
def DC (s:ByteArray) (i:Nat) (e:Int) (u v:PV):Row:=.cells Jo (rqC s i e u v)
abbrev soL (r:Rs):List ByteArray:=r.seen.map Vr.sort
abbrev diL (r:Rs):List ByteArray:=r.seen.map Vr.digits
def rqP (s:ByteArray) (ks kt i:Nat) (r:Rs):PV:=BI (rqC s i r.e (Ax Ar ks (soL r)) (Ax Ar kt (diL r)))
def rqT (s:ByteArray) (i:Nat) (r:Rs):T:=.ag [sv s,iv (i:Int),iv r.e,Ba Ar (soL r),Ba Ar (diL r)]
def rqR (s:ByteArray) (ks kt i:Nat) (r:Rs):Row:=DC s i r.e (Ax Ar ks (soL r)) (Ax Ar kt (diL r))
structure RqS (s:ByteArray) (ks kt i:Nat) (r:Rs) (H:Ak) (nx:Nat):Prop where
 vs:AK Ar tyS H ks (soL r)
 vt:AK Ar tyS H kt (diL r)
 rest:r.rest=(wb s).drop i
 hi:i<=s.size
 ls:ks<nx
 lt:kt<nx
 ne:ks≠kt
structure Kp (H:Ak) (nx:Nat) (H':Ak) (nx':Nat):Prop where
 k:∀c,c<nx->Aj H' c=Aj H c
 n:nx<=nx'
 fr:Frs H nx->Frs H' nx'
structure Kq (ks kt:Nat) (H:Ak) (nx:Nat) (ks' kt':Nat) (H':Ak) (nx':Nat):Prop where
 k:∀c,c<nx->c≠ks->c≠kt->Aj H' c=Aj H c
 n:nx<=nx'
 fr:Frs H nx->Frs H' nx'
 s:ks'=ks\/nx<=ks'
 t:kt'=kt\/nx<=kt'
structure LdQ (s:ByteArray) (i:Nat) (e:Int) (u v:PV) (H:Ak) (k:Nat):Prop where
 l0:AD false 1 H (.ptr k 0)=some (.t (sv s))
 l1:AD false 1 H (.ptr k 1)=some (.t (iv (i:Int)))
 l2:AD false 1 H (.ptr k 2)=some (.t (iv e))
 l3:AD false 1 H (.ptr k 3)=some u
 l4:AD false 1 H (.ptr k 4)=some v
 all:AD true 5 H (.ptr k 0)=some (BI (rqC s i e u v))
section
variable {s : ByteArray} {ks kt i k : Nat} {r : Rs} {H H' : Ak} {nx nx' : Nat} {e : Int} {u v : PV}
theorem Kp.refl:Kp H nx H nx:=⟨λ_ _=>rfl,Xe _,λh=>h⟩
theorem Kp.trans {H2:Ak} {n2:Nat} (a:Kp H nx H' nx') (b:Kp H' nx' H2 n2):Kp H nx H2 n2:=
 ⟨λc h=>by rw[b.k c (by have:=a.n;omega),a.k c h],by have:=a.n;have:=b.n;omega,λh=>b.fr (a.fr h)⟩
theorem Kp.cons (a:Kp H nx H' nx') (x:Row):Kp H nx ((nx',x)::H') (nx'+1):=
 a.trans ⟨λc h=>by rw[A9,zw (by omega)],Xh _,λh=>h.cons (Xg _) (Xh _)⟩
theorem Kp.upd (a:Kp H nx H' nx') {b:Nat} (hb:nx<=b) (x:Row):Kp H nx (Xd H' b x) nx':=
 ⟨λc h=>by rw[A7,zw (by omega)];exact a.k c h,a.n,λh=>(a.fr h).upd⟩
theorem Kp.kq (a:Kp H nx H' nx') (ks kt:Nat):Kq ks kt H nx ks kt H' nx':=⟨λc h _ _=>a.k c h,a.n,a.fr,.inl rfl,.inl rfl⟩
theorem RqS.kp (S:RqS s ks kt i r H nx) (a:Kp H nx H' nx'):RqS s ks kt i r H' nx':=by
 have h1:=S.ls;have h2:=S.lt;have h3:=a.n;exact⟨S.vs.imp id λe=>by rw[a.k ks h1];exact e,S.vt.imp id λe=>by rw[a.k kt h2];exact e,S.rest,S.hi,by omega,by omega,S.ne⟩
theorem RqS.to (S:RqS s ks kt i r H nx) {j:Nat} (e':Int) (hj:j<=s.size):RqS s ks kt j ⟨(wb s).drop j,e',r.seen⟩ H nx:=⟨S.vs,S.vt,rfl,hj,S.ls,S.lt,S.ne⟩
theorem RqS.fail (S:RqS s ks kt i r H nx):RqS s ks kt i (Be r) H nx:=by
 refine⟨?_,?_,by rw[EO];exact S.rest,S.hi,S.ls,S.lt,S.ne⟩
 .unfold soL;rw[GG];exact S.vs
 .unfold diL;rw[GG];exact S.vt
theorem RqS.nil (S:RqS s ks kt i r H nx):r.rest=[] ↔ s.size<=i:=by rw[S.rest,List.drop_eq_nil_iff,Bz]
theorem RqS.at_ (S:RqS s ks kt i r H nx) {c:UInt8} (h:(wb s)[i]?=some c):r.rest=c::(wb s).drop (i+1):=by
 have hl:=(Xl.1 h).1;rw[S.rest,Xs hl,(Xl.1 h).2]
theorem xD (s:ByteArray) (i:Nat) (e:Int) {α:Type} (x:Enc α) (ks kt:Nat) (l m:List α):Bq (BI (rqC s i e (Ax x ks l) (Ax x kt m)))=some (rqC s i e (Ax x ks l) (Ax x kt m)):=by
 cases l<;>cases m<;>rfl
theorem Iy (s:ByteArray) (ks kt i:Nat) (r:Rs):Bq (rqP s ks kt i r)=some (rqC s i r.e (Ax Ar ks (soL r)) (Ax Ar kt (diL r))):=xD _ _ _ _ _ _ _ _
theorem ldQ (h:Aj H k=some (DC s i e u v)):LdQ s i e u v H k:=by
 have l:∀j,AD false 1 H (.ptr k j)=(rqC s i e u v)[j]?:=λj=>by
  simp only[AD,h,DC,Yk,if_false]
 exact⟨l 0,l 1,l 2,l 3,l 4,by simp only[AD,h,DC];rfl⟩
theorem xE (h:Aj H k=some (DC s i e u v)) (j:Nat):AO 1 H (.ptr k 1) (.t (iv (j:Int)))=some (Xd H k (DC s j e u v)):=
 BF (ns:=[.t (iv (j:Int))]) h rfl rfl (by show 1+1<=5;omega)
theorem aB (h:Aj H k=some (DC s i e u v)) (e':Int):AO 1 H (.ptr k 2) (.t (iv e'))=some (Xd H k (DC s i e' u v)):=
 BF (ns:=[.t (iv e')]) h rfl rfl (by show 2+1<=5;omega)
theorem xF (h:Aj H k=some (DC s i e u v)) {x:PV} (hx:Bq x=some [x]):AO 1 H (.ptr k 3) x=some (Xd H k (DC s i e x v)):=
 BF (ns:=[x]) h hx rfl (by show 3+1<=5;omega)
theorem xG (h:Aj H k=some (DC s i e u v)) {x:PV} (hx:Bq x=some [x]):AO 1 H (.ptr k 4) x=some (Xd H k (DC s i e u x)):=
 BF (ns:=[x]) h hx rfl (by show 4+1<=5;omega)
theorem Ms {x:Row} (h:Aj H k=some x) {a b c d f:PV} (hx:x = .cells Jo [a,b,c,d,f]) (s:ByteArray) (ks kt i:Nat) (r:Rs):AO 5 H (.ptr k 0) (rqP s ks kt i r)=some (Xd H k (rqR s ks kt i r)):=by
 subst hx;exact BF (ns:=rqC s i r.e (Ax Ar ks (soL r)) (Ax Ar kt (diL r))) h (Iy _ _ _ _ _) rfl (by show 0+5<=5;omega)
theorem Ew {p:PV} {ps:List PV} {x:T} {ts:List T} {F F':List Nat} (h:toT H p=some (x,F)) (h':Bn H ps=some (ts,F')):Bn H (p::ps)=some (x::ts,F++F'):=by
 simp only[Bn,h,h']
theorem aC {ps:List PV} {ts:List T} {F:List Nat} (h:Bn H ps=some (ts,F)):toT H (.ag ps)=some (.ag ts,F):=by
 simp only[Abs.toT,h];rfl
theorem xH (S:RqS s ks kt i r H nx):∃F,toT H (rqP s ks kt i r)=some (rqT s i r,F):=by
 have h1:=S.vs.toT;have h2:=S.vt.toT
 cases hs:r.seen with
 | nil=>exact⟨[],by unfold rqP rqT soL diL;rw[hs];rfl⟩
 | cons a l=>
  have e1:BI (rqC s i r.e (Ax Ar ks (soL r)) (Ax Ar kt (diL r))) = .ag (rqC s i r.e (Ax Ar ks (soL r)) (Ax Ar kt (diL r))):=by
   unfold soL diL;rw[hs];rfl
  have nl:Bn H []=some ([],[]):=rfl;have tt:∀x:T,toT H (.t x)=some (x,[]):=λ_=>rfl;unfold rqP rqT;rw[e1];exact⟨_,aC (Ew (tt _) (Ew (tt _) (Ew (tt _) (Ew h1 (Ew h2 nl)))))⟩
end
noncomputable def Iz (a:List T) (r:T):List T->Option T:=λargs=>open Classical in if args=a then some r else none
theorem Gg (a:List T) (r:T):Iz a r a=some r:=zu rfl
theorem FG {P:Program} {G:AM} {f:FuncId} {a:List T} {r:T} (h:Bc P G f a (· = r)):GOK P G f (Iz a r):=λargs r' hr=>by
 unfold Iz at hr;split at hr
 .rename_i e;subst e;injection hr with hr;subst hr;exact h
 .cases hr
def btB (c a b:UInt8):Bool:=decide (a.toNat<=c.toNat)&&decide (c.toNat<=b.toNat)
def gBt:List T->Option T
 | [.v (.int .u8 c),.v (.int .u8 a),.v (.int .u8 b)]=>some (bv (decide (a<=c)&&decide (c<=b)))
 | _=>none
theorem hBt:GOK Xc (G q) 96 gBt:=λargs r hr=>by
 unfold gBt at hr;split at hr
 .rename_i c a b;injection hr with hr;refine pP.call rfl ?_;(conv in Vv=>cbv);refine Ao An ?_;simp -implicitDefEqProofs;by_cases h1:a<=c
  .have d1:decide (a<=c)=true:=zq h1;rw[d1,Yc]at hr;subst hr;refine A8 An ?_;simp -implicitDefEqProofs [h1]
  .have d1:decide (a<=c)=false:=zt h1;rw[d1,Yl]at hr;subst hr;refine A8 An ?_;simp -implicitDefEqProofs [h1]
 .cases hr
theorem Rh (c a b:UInt8):gBt [.v (.int .u8 (c.toNat:Int)),.v (.int .u8 (a.toNat:Int)),.v (.int .u8 (b.toNat:Int))]=some (bv (btB c a b)):=by
 unfold btB;show some (bv (decide ((a.toNat:Int)<=c.toNat)&&decide ((c.toNat:Int)<=b.toNat)))=_;simp only[Int.ofNat_le]
section
variable {s : ByteArray} {ks kt i : Nat} {r : Rs} {H : Ak} {nx : Nat}
theorem xI {s:ByteArray} {i:Nat} {r:Rs} {u v:T} (hr:r.rest=(wb s).drop i) (c:UInt8):Bc Xc (G q) 97 [.ag [sv s,iv (i:Int),iv r.e,u,v],.v (.int .u8 (c.toNat:Int))] (· = bv (AR c r)):=by
 obtain⟨R,hR⟩:∃R,R=AR c r:=⟨_,rfl⟩
 rw[<-hR];refine pO.call rfl ?_;(conv in Vu=>cbv);have L:=ldQ (s:=s) (i:=i) (e:=r.e) (u:=.t u) (v:=.t v) (H:=[(0,DC s i r.e (.t u) (.t v))]) (k:=0) rfl;have hc:Bq (.t (.ag [sv s,iv (i:Int),iv r.e,u,v]))=some (rqC s i r.e (.t u) (.t v)):=rfl;refine Ao An ?_;simp -implicitDefEqProofs [hc]
 obtain⟨H1,hH1⟩:∃H1:Ak,H1=[(0,DC s i r.e (.t u) (.t v))]:=⟨_,rfl⟩
 rw[show([(0,Row.cells Jo (rqC s i r.e (.t u) (.t v)))]:Ak)=H1 from hH1.symm];rw[<-hH1]at L;by_cases he:r.e=0
 .have hb:(r.e==0)=true:=by rw[he];rfl
  by_cases hn:i<s.size
  .have hd:decide ((i:Int)<(s.size:Int))=true:=zq (by omega)
   obtain⟨x,hx⟩:∃x,(wb s)[i]?=some x:=⟨_,Xj (by rw[Bz];exact hn)⟩
   have ix:=ixS hx
   have e1:R=((x.toNat:Int)==(c.toNat:Int)):=by
    rw[hR];unfold AR;rw[hr,zq he,Yc,Yj,hx];by_cases hxc:x=c
    .subst hxc;simp
    .rw[zt (by simpa using hxc)];symm;rw[zp];intro h2;exact hxc (Xz.1 (by omega))
   refine A8 An ?_;simp -implicitDefEqProofs [L.l2,hb,L.l1,L.l0,hd,hn,ix,e1]
  .have hd:decide ((i:Int)<(s.size:Int))=false:=zt (by omega)
   have e1:R=false:=by
    rw[hR];unfold AR;rw[hr,Xt (by rw[Bz];omega)];simp
   refine A8 An ?_;simp -implicitDefEqProofs [L.l2,hb,L.l1,L.l0,hd,hn,e1]
 .have hb:(r.e==0)=false:=by rw[zp];exact he
  have e1:R=false:=by rw[hR];exact Kv he c
  refine A8 An ?_;simp -implicitDefEqProofs [L.l2,hb,e1]
def zqR:Row:=.cells Jo [.t (sv ⟨#[]⟩),.t (iv 0),.t (iv 0),.t Au,.t Au]
theorem Ri (S:RqS s ks kt i r H nx) {H1:Ak} (hH1:H1=(nx+1,zqR)::(nx,rqR s ks kt i r)::H):RqS s ks kt i r H1 (nx+2)/\Kp H nx H1 (nx+2)/\Aj H1 nx=some (rqR s ks kt i r)/\Aj H1 (nx+1)=some zqR:=by
 subst hH1;have K:Kp H nx ((nx+1,zqR)::(nx,rqR s ks kt i r)::H) (nx+2):=(Kp.refl.cons _).cons _;exact⟨S.kp K,K,by rw[A9,zw (by omega),A9,zu rfl],by rw[A9,zu rfl]⟩
theorem xJ (S:RqS s ks kt i r H nx):∃f:Fin,(f.r=rqP s ks kt i (Be r)/\Kp H nx f.H f.nx)/\B3 Xc (G q) 63 [rqP s ks kt i r] H nx f.r f.H f.nx:=by
 have cs:=Iy s ks kt i r
 obtain⟨p,hp⟩:∃p,p=rqP s ks kt i r:=⟨_,rfl⟩
 rw[<-hp]at cs ⊢
 obtain⟨H1,hH1⟩:∃H1:Ak,H1=(nx+1,zqR)::(nx,rqR s ks kt i r)::H:=⟨_,rfl⟩
 obtain⟨S1,K1,x0,x1⟩:=Ri S hH1;have L:=ldQ x0;refine pM.callX rfl ?_;(conv in Vp=>cbv);refine A3 An ?_;simp -implicitDefEqProofs [cs];refine B4 (s':=⟨[(2,.ptr (nx+1) 0),(1,.ptr nx 0)],H1,nx+2,20⟩) (by rw[hH1];exact Aw (by simp -implicitDefEqProofs)) rfl ?_;refine Cp (λH2:Ak=>⟨[(2,.ptr (nx+1) 0),(1,.ptr nx 0)],H2,nx+2,20⟩) (λH2=>Kp H nx H2 (nx+2)/\Aj H2 nx=some (rqR s ks kt i (Be r))/\Aj H2 (nx+1)=some zqR) (λ_=>rfl) ?_ ?_
 .by_cases he:r.e=0
  .have e1:Be r=⟨r.rest,eos r.rest,r.seen⟩:=by unfold Be;rw[zu he]
   have hb:(r.e==0)=true:=by rw[he];rfl
   have fin:∀H2,H2=Xd H1 nx (DC s i (eos r.rest) (Ax Ar ks (soL r)) (Ax Ar kt (diL r)))->Kp H nx H2 (nx+2)/\Aj H2 nx=some (rqR s ks kt i (Be r))/\Aj H2 (nx+1)=some zqR:=λH2 h=>by
    subst h;refine⟨K1.upd (Xe _) _,?_,?_⟩
    .rw[A7,zu rfl,x0,e1];rfl
    .rw[A7,zw (by omega)];exact x1
   by_cases hn:s.size<=i
   .have e2:eos r.rest=9:=by unfold eos;rw[zu (S.nil.2 hn)]
    rw[e2]at fin;have hd:decide ((s.size:Int)<=(i:Int))=true:=zq (by omega);have s1:=aB x0 9;refine AV An ?_;simp -implicitDefEqProofs [L.l2,hb,L.l1,L.l0,hd,hn,s1];exact A4.mk _ (fin _ rfl) (Aw (by simp -implicitDefEqProofs))
   .have e2:eos r.rest=8:=by unfold eos;rw[zw (λe=>hn (S.nil.1 e))]
    rw[e2]at fin;have hd:decide ((s.size:Int)<=(i:Int))=false:=zt (by omega);have s1:=aB x0 8;refine AV An ?_;simp -implicitDefEqProofs [L.l2,hb,L.l1,L.l0,hd,hn,s1];exact A4.mk _ (fin _ rfl) (Aw (by simp -implicitDefEqProofs))
  .have hb:(r.e==0)=false:=by rw[zp];exact he
   have e1:=QD he;refine AV An ?_;simp -implicitDefEqProofs [L.l2,hb];exact A4.mk H1 ⟨K1,by rw[e1];exact x0,x1⟩ (Aw (by simp -implicitDefEqProofs))
 .rintro H2 ⟨K2,y0,y1⟩;have L2:=(ldQ y0).all;have s5:=Ms y1 rfl s ks kt i (Be r);have L3:=(ldQ (H:=Xd H2 (nx+1) (rqR s ks kt i (Be r))) (k:=nx+1) (by rw[A7,zu rfl,y1];rfl)).all;rw[show BI (rqC s i (Be r).e (Ax Ar ks (soL (Be r))) (Ax Ar kt (diL (Be r))))=rqP s ks kt i (Be r)from rfl]at L2 L3;refine AV An ?_;simp -implicitDefEqProofs [L2,s5];exact Bp ⟨rqP s ks kt i (Be r),Xd H2 (nx+1) (rqR s ks kt i (Be r)),nx+2⟩ ⟨rfl,K2.upd (by omega) _⟩ (by simp -implicitDefEqProofs [L3])
theorem Mt (S:RqS s ks kt i r H nx):∃H' nx' tb,Kp H nx H' nx'/\tb [rqP s ks kt i r] H nx=some (rqP s ks kt i (Be r),H',nx')/\HOK Xc (G q) 63 tb:=by
 obtain⟨⟨fr,fH,fn⟩,⟨hr,hk⟩,hc⟩:=xJ (q:=q) S;simp only at hr hk hc;subst hr;obtain⟨tb,t1,t2⟩:=hAt hc hk.fr;exact⟨fH,fn,tb,hk,t1,t2⟩
end
structure WdD where
 H:Ak
 i:Nat
 k:Nat
 r:Rs
def SWq (t:ByteArray) (nx:Nat) (c:WdD):Am:=⟨[(5,.t (iv (c.k:Int))),(4,.ptr (nx+1) 0),(2,.ptr nx 0),(1,.t (sv t))],c.H,nx+2,41⟩
structure RqI (s:ByteArray) (ks kt:Nat) (H0:Ak) (nx:Nat) (i:Nat) (r:Rs) (H:Ak):Prop where
 S:RqS s ks kt i r H (nx+2)
 K:Kp H0 nx H (nx+2)
 x0:Aj H nx=some (rqR s ks kt i r)
 x1:Aj H (nx+1)=some zqR
section
variable {s : ByteArray} {ks kt i : Nat} {r : Rs} {H : Ak} {nx : Nat}
theorem RqS.upd' (S:RqS s ks kt i r H nx) {b:Nat} (h1:ks≠b) (h2:kt≠b) (x:Row):RqS s ks kt i r (Xd H b x) nx:=
 ⟨S.vs.imp id λe=>by rw[A7,zw h1];exact e,S.vt.imp id λe=>by rw[A7,zw h2];exact e,S.rest,S.hi,S.ls,S.lt,S.ne⟩
theorem RqI.first (S:RqS s ks kt i r H nx) {H1:Ak} (hH1:H1=(nx+1,zqR)::(nx,rqR s ks kt i r)::H):RqI s ks kt H nx i r H1:=by
 obtain⟨a,b,c,d⟩:=Ri S hH1;exact⟨a,b,c,d⟩
theorem RqI.step {H0:Ak} (h:RqI s ks kt H0 nx i r H) (hks:ks<nx) (hkt:kt<nx) {j:Nat} (hj:j<=s.size) :
  ∃H',AO 1 H (.ptr nx 1) (.t (iv (j:Int)))=some H'/\RqI s ks kt H0 nx j ⟨(wb s).drop j,r.e,r.seen⟩ H':=by
 refine⟨_,xE h.x0 j,?_,h.K.upd (Xe _) _,?_,?_⟩
 .have S:=h.S.to r.e hj;exact⟨S.vs.imp id λe=>by rw[A7,zw (by omega)];exact e,S.vt.imp id λe=>by rw[A7,zw (by omega)];exact e,S.rest,S.hi,S.ls,S.lt,S.ne⟩
 .rw[A7,zu rfl,h.x0];rfl
 .rw[A7,zw (by omega)];exact h.x1
theorem RqI.ret {H0:Ak} {r':Rs} {i':Nat} {ks' kt' n:Nat} (x1:Aj H (nx+1)=some zqR):AO 5 H (.ptr (nx+1) 0) (rqP s ks' kt' i' r')=some (Xd H (nx+1) (rqR s ks' kt' i' r')) /\
  AD true 5 (Xd H (nx+1) (rqR s ks' kt' i' r')) (.ptr (nx+1) 0)=some (rqP s ks' kt' i' r'):=
 ⟨Ms x1 rfl s ks' kt' i' r',(ldQ (H:=Xd H (nx+1) (rqR s ks' kt' i' r')) (k:=nx+1) (by rw[A7,zu rfl,x1];rfl)).all⟩
theorem xK (S:RqS s ks kt i r H nx) {t:ByteArray} (ht:t.size<=1000) (hs:s.size<=1000000000):∃f:Fin,(∃i',f.r=rqP s ks kt i' (AC (wb t) r)/\RqS s ks kt i' (AC (wb t) r) f.H f.nx/\Kp H nx f.H f.nx)/\B3 Xc (G q) 60 [rqP s ks kt i r,.t (sv t)] H nx f.r f.H f.nx:=by
 obtain⟨R,hR⟩:∃R,R=AC (wb t) r:=⟨_,rfl⟩
 rw[<-hR];have lks:=S.ls;have lkt:=S.lt;have cs:=Iy s ks kt i r
 obtain⟨p,hp⟩:∃p,p=rqP s ks kt i r:=⟨_,rfl⟩
 rw[<-hp]at cs ⊢
 obtain⟨H1,hH1⟩:∃H1:Ak,H1=(nx+1,zqR)::(nx,rqR s ks kt i r)::H:=⟨_,rfl⟩
 have I1:=RqI.first S hH1
 refine pN.callX rfl ?_;(conv in Vq=>cbv);refine A3 An ?_;simp -implicitDefEqProofs [cs];refine B4 (s':=⟨[(4,.ptr (nx+1) 0),(2,.ptr nx 0),(1,.t (sv t))],H1,nx+2,41⟩) (by rw[hH1];exact Aw (by simp -implicitDefEqProofs)) rfl ?_;refine Cp (λc:WdD=>⟨[(4,.ptr (nx+1) 0),(2,.ptr nx 0)],c.H,nx+2,41⟩) (λc=>RqI s ks kt H nx c.i R c.H) (λ_=>rfl) ?_ ?_
 .refine A3 An ?_;simp -implicitDefEqProofs;refine BA ?_;refine DH (SWq t nx) (λc=>t.size-c.k) (λc=>RqI s ks kt H nx c.i c.r c.H/\R=AC ((wb t).drop c.k) c.r/\c.k<=t.size) ⟨H1,i,0,r⟩ (λ_=>rfl) ⟨I1,hR,X8 _⟩ ?_ rfl ?_
  .exact Aw (by simp -implicitDefEqProofs [SWq])
  rintro⟨Ha,j,k,ra⟩ ⟨hI,hRk,hkl⟩;simp only at hI hRk hkl;have L:=ldQ hI.x0;by_cases hlt:k<t.size
  rotate_left
  .have hd:decide ((k:Int)<(t.size:Int))=false:=zt (by omega);rw[Xt (by rw[Bz];omega),AC]at hRk;subst hRk;refine A3 An ?_;simp -implicitDefEqProofs [SWq,hd,hlt];exact A4.mk ⟨Ha,j,0,R⟩ hI (Aw (by simp -implicitDefEqProofs))
  have hd:decide ((k:Int)<(t.size:Int))=true:=zq (by omega)
  obtain⟨c,hc⟩:∃c,(wb t)[k]?=some c:=⟨_,Xj (by rw[Bz];exact hlt)⟩
  have ixt:=ixS hc
  have ed:(wb t).drop k=c::(wb t).drop (k+1):=by
   rw[Xs (by rw[Bz];exact hlt),(Xl.1 hc).2]
  rw[ed]at hRk;by_cases he:ra.e=0
  rotate_left
  .have hb:(ra.e==0)=false:=by rw[zp];exact he
   rw[Ge he]at hRk;subst hRk;refine A3 An ?_;simp -implicitDefEqProofs [SWq,hd,hlt,L.l2,hb];exact A4.mk ⟨Ha,j,0,R⟩ hI (Aw (by simp -implicitDefEqProofs))
  have hb:(ra.e==0)=true:=by rw[he];rfl
  rw[AC,zu he]at hRk;refine A3 An ?_;simp -implicitDefEqProofs [SWq,hd,hlt,L.l2,hb];obtain⟨Hf,nf,tf,Kf,tf1,tf2⟩:=Mt (q:=q) hI.S;have CC:Ctx Xc (G q) _:=AB.nil.ctxH (AG.cons tf2 .nil) mixed;have w1:Xk.wrap ((k:Int)+1)=((k+1:Nat):Int):=Bb (by omega) (by omega);have hji:=hI.S.hi;have w2:Xk.wrap ((j:Int)+1)=((j+1:Nat):Int):=Bb (by omega) (by omega);have la:=L.all;rw[show BI (rqC s j ra.e (Ax Ar ks (soL ra)) (Ax Ar kt (diL ra)))=rqP s ks kt j ra from rfl]at la;have n2:=Kf.n
  have fx1:Aj Hf (nx+1)=some zqR:=by rw[Kf.k (nx+1) (by omega)];exact hI.x1
  obtain⟨r1,r2⟩:=RqI.ret (s:=s) (H:=Hf) (nx:=nx) (H0:=H) (n:=0) (r':=Be ra) (i':=j) (ks':=ks) (kt':=kt) fx1
  have fin:R=Be ra->∃f:Fin,f=⟨rqP s ks kt j (Be ra),Xd Hf (nx+1) (rqR s ks kt j (Be ra)),nf⟩/\(∃i',f.r=rqP s ks kt i' R/\RqS s ks kt i' R f.H f.nx/\Kp H nx f.H f.nx):=λe=>by
   refine⟨_,rfl,j,by rw[e],?_,(hI.K.trans Kf).upd (by omega) _⟩;rw[e];exact(hI.S.fail.kp Kf).upd' (by omega) (by omega) _
  refine Cp (λc:WdD=>⟨[(5,.t (iv (k:Int))),(4,.ptr (nx+1) 0),(2,.ptr nx 0),(1,.t (sv t))],c.H,nx+2,41⟩) (λc'=>RqI s ks kt H nx c'.i c'.r c'.H/\R=AC ((wb t).drop (k+1)) c'.r) (λ_=>rfl) ?_ ?_
  .refine BA ?_;by_cases hnl:s.size<=j
   .have hd2:decide ((s.size:Int)<=(j:Int))=true:=zq (by omega);rw[hI.S.nil.2 hnl]at hRk;simp only at hRk;obtain⟨f,hf,hp⟩:=fin hRk;refine A3 CC ?_;simp -implicitDefEqProofs [L.l1,L.l0,hd2,hnl,la,tf1,r1];exact Bp f hp (by subst hf;simp -implicitDefEqProofs [r2])
   .have hd2:decide ((s.size:Int)<=(j:Int))=false:=zt (by omega)
    obtain⟨x,hx⟩:∃x,(wb s)[j]?=some x:=⟨_,Xj (by rw[Bz];omega)⟩
    have ixs:=ixS hx;rw[hI.S.at_ hx]at hRk;simp only at hRk;by_cases hxc:x=c
    .subst hxc;rw[zu rfl]at hRk;obtain⟨H2,s2,I2⟩:=hI.step lks lkt (j:=j+1) (by omega);rw[show((j+1:Nat):Int)=(j:Int)+1 from rfl]at s2 w2;refine A3 CC ?_;simp -implicitDefEqProofs [L.l1,L.l0,hd2,hnl,ixs,ixt];refine AV CC ?_;simp -implicitDefEqProofs [L.l1,w2,s2];exact A4.mk ⟨H2,j+1,0,_⟩ ⟨I2,hRk⟩ (Aw (by simp -implicitDefEqProofs))
    .rw[zw hxc]at hRk
     have hne:((x.toNat:Int)==(c.toNat:Int))=false:=by
      rw[zp];intro h2;exact hxc (Xz.1 (by omega))
     have hne2:((x.toNat:Int) !=(c.toNat:Int))=true:=by rw[bne,hne];rfl
     obtain⟨f,hf,hp⟩:=fin hRk;refine A3 CC ?_;simp -implicitDefEqProofs [L.l1,L.l0,hd2,hnl,ixs,ixt,hne,hne2,la,tf1,r1];exact Bp f hp (by subst hf;simp -implicitDefEqProofs [r2])
  .rintro⟨Hz,jz,_,rz⟩ ⟨g1,g2⟩;simp only at g1 g2;refine AV An ?_;simp -implicitDefEqProofs [w1];exact A4.mk ⟨Hz,jz,k+1,rz⟩ ⟨⟨g1,g2,hlt⟩,by show t.size-(k+1)<t.size-k;omega⟩ (Aw (by simp -implicitDefEqProofs [SWq]))
 .rintro⟨Ha,j,_,_⟩ hI;simp only at hI;have la:=(ldQ hI.x0).all;rw[show BI (rqC s j R.e (Ax Ar ks (soL R)) (Ax Ar kt (diL R)))=rqP s ks kt j R from rfl]at la;obtain⟨r1,r2⟩:=RqI.ret (s:=s) (H:=Ha) (nx:=nx) (H0:=H) (n:=0) (r':=R) (i':=j) (ks':=ks) (kt':=kt) hI.x1;refine AV An ?_;simp -implicitDefEqProofs [la,r1];exact Bp ⟨rqP s ks kt j R,Xd Ha (nx+1) (rqR s ks kt j R),nx+2⟩ ⟨j,rfl,hI.S.upd' (by omega) (by omega) _,hI.K.upd (by omega) _⟩ (by simp -implicitDefEqProofs [r2])
theorem Rj (S:RqS s ks kt i r H nx) {t:ByteArray} (ht:t.size<=1000) (hs:s.size<=1000000000):∃H' i' nx' tb,RqS s ks kt i' (AC (wb t) r) H' nx'/\Kp H nx H' nx'/\tb [rqP s ks kt i r,.t (sv t)] H nx=some (rqP s ks kt i' (AC (wb t) r),H',nx')/\HOK Xc (G q) 60 tb:=by
 obtain⟨⟨fr,fH,fn⟩,⟨i',hr,hS,hk⟩,hc⟩:=xK (q:=q) S ht hs;simp only at hr hS hk hc;subst hr;obtain⟨tb,t1,t2⟩:=hAt hc hk.fr;exact⟨fH,i',fn,tb,hS,hk,t1,t2⟩
end
def BD (a b:PV):PV:=Df [a,b]
theorem Gh (a b:PV):B5 (BD a b) 0=some a/\B5 (BD a b) 1=some b:=by
 cases a<;>cases b<;>exact⟨rfl,rfl⟩
theorem Rk (c:UInt8):gBt [.v (.int .u8 (c.toNat:Int)),.v (.int .u8 48),.v (.int .u8 57)]=some (bv (Bd c)):=Rh c 48 57
structure RnD where
 H:Ak
 j:Nat
def SRu (i nx:Nat) (lo hi:UInt8) (c:RnD):Am:=⟨[(8,.t (iv (i:Int))),(6,.ptr (nx+1) 0),(3,.ptr nx 0),(1,u8c lo),(2,u8c hi)],c.H,nx+2,77⟩
section
variable {s : ByteArray} {ks kt i : Nat} {r : Rs} {H : Ak} {nx : Nat}
theorem xL (S:RqS s ks kt i r H nx) {big:Bool} {lo hi:UInt8} (hok:∀c,okC big c=btB c lo hi) (hs:s.size<=1000000000):∃f:Fin,(∃i',f.r=BD (rqP s ks kt i' (Bt big r).1) (.t (sv (Bt big r).2))/\RqS s ks kt i' (Bt big r).1 f.H f.nx/\Kp H nx f.H f.nx) /\
  B3 Xc (G q) 98 [rqP s ks kt i r,u8c lo,u8c hi] H nx f.r f.H f.nx:=by
 obtain⟨R,hR⟩:∃R,R=Bt big r:=⟨_,rfl⟩
 rw[<-hR];have lks:=S.ls;have lkt:=S.lt;have hi':=S.hi;have cs:=Iy s ks kt i r
 obtain⟨p,hp⟩:∃p,p=rqP s ks kt i r:=⟨_,rfl⟩
 rw[<-hp]at cs ⊢
 obtain⟨H1,hH1⟩:∃H1:Ak,H1=(nx+1,zqR)::(nx,rqR s ks kt i r)::H:=⟨_,rfl⟩
 have I1:=RqI.first S hH1
 have L:=ldQ I1.x0;have la:=L.all;rw[show BI (rqC s i r.e (Ax Ar ks (soL r)) (Ax Ar kt (diL r)))=rqP s ks kt i r from rfl,<-hp]at la;refine pQ.callX rfl ?_;(conv in Vw=>cbv);refine A3 An ?_;simp -implicitDefEqProofs [cs];refine B4 (s':=⟨[(7,.t (sv ⟨#[]⟩)),(6,.ptr (nx+1) 0),(3,.ptr nx 0),(1,u8c lo),(2,u8c hi)],H1,nx+2,77⟩) (by rw[hH1];exact Aw (by simp -implicitDefEqProofs)) rfl ?_;by_cases he:r.e=0
 rotate_left
 .have hb:(r.e != 0)=true:=by rw[bne_iff_ne];exact he
  have hRe:R=(r,⟨#[]⟩):=by rw[hR];exact Oi he big
  obtain⟨r1,r2⟩:=RqI.ret (s:=s) (H:=H1) (nx:=nx) (H0:=H) (n:=0) (r':=r) (i':=i) (ks':=ks) (kt':=kt) I1.x1;rw[<-hp]at r1 r2;refine A3 An ?_;simp -implicitDefEqProofs [L.l2,hb,la,r1];exact Bp ⟨BD p (.t (sv ⟨#[]⟩)),Xd H1 (nx+1) (rqR s ks kt i r),nx+2⟩ ⟨i,by rw[hRe,hp],by rw[hRe];exact I1.S.upd' (by omega) (by omega) _,I1.K.upd (by omega) _⟩ (by simp -implicitDefEqProofs [BD,r2])
 have hb:(r.e != 0)=false:=by rw[he];rfl
 obtain⟨W,hW⟩:∃W,W=Dm big true r.rest:=⟨_,rfl⟩
 have hRw:R=if W=[]then(Be r,⟨#[]⟩)else(⟨r.rest.drop W.length,r.e,r.seen⟩,ob W):=by rw[hR];unfold Bt;rw[zu he,<-hW]
 refine A3 An ?_;simp -implicitDefEqProofs [L.l2,hb];obtain⟨Hf,nf,tf,Kf,tf1,tf2⟩:=Mt (q:=q) I1.S;rw[<-hp]at tf1;have CC:Ctx Xc (G q) _:=(AB.cons (hBt (q:=q)) .nil).ctxH (AG.cons tf2 .nil) mixed;have n2:=Kf.n
 have fx1:Aj Hf (nx+1)=some zqR:=by rw[Kf.k (nx+1) (by omega)];exact I1.x1
 obtain⟨r1,r2⟩:=RqI.ret (s:=s) (H:=Hf) (nx:=nx) (H0:=H) (n:=0) (r':=Be r) (i':=i) (ks':=ks) (kt':=kt) fx1
 have bad:W=[]->∃i',(⟨BD (rqP s ks kt i (Be r)) (.t (sv ⟨#[]⟩)),Xd Hf (nx+1) (rqR s ks kt i (Be r)),nf⟩:Fin).r=BD (rqP s ks kt i' R.1) (.t (sv R.2))/\RqS s ks kt i' R.1 (Xd Hf (nx+1) (rqR s ks kt i (Be r))) nf/\Kp H nx (Xd Hf (nx+1) (rqR s ks kt i (Be r))) nf:=λh=>by
  rw[zu h]at hRw;refine⟨i,by rw[hRw],?_,(I1.K.trans Kf).upd (by omega) _⟩;rw[hRw];exact(I1.S.fail.kp Kf).upd' (by omega) (by omega) _
 by_cases hlt:i<s.size
 rotate_left
 .have hd:decide ((s.size:Int)<=(i:Int))=true:=zq (by omega)
  have hle:s.size<=i:=by omega
  have hW0:W=[]:=by rw[hW,S.nil.2 hle];rfl
  refine A3 CC ?_;simp -implicitDefEqProofs [L.l1,L.l0,hd,hle,la,tf1,r1];exact Bp _ (bad hW0) (by simp -implicitDefEqProofs [BD,r2])
 have hd:decide ((s.size:Int)<=(i:Int))=false:=zt (by omega)
 have hnle:¬s.size<=i:=by omega
 obtain⟨c,hc⟩:∃c,(wb s)[i]?=some c:=⟨_,Xj (by rw[Bz];exact hlt)⟩
 have ix:=ixS hc;have er:=S.at_ hc;have b1:=Rh c lo hi;rw[<-hok c]at b1
 cases hkc:okC big c with
 | false=>
  rw[hkc]at b1
  have hW0:W=[]:=by rw[hW,er,Dm,hkc];rfl
  refine A3 CC ?_;simp -implicitDefEqProofs [L.l1,L.l0,hd,hnle,ix,b1,la,tf1,r1];exact Bp _ (bad hW0) (by simp -implicitDefEqProofs [BD,r2])
 | true=>
 rw[hkc]at b1;refine A3 CC ?_;simp -implicitDefEqProofs [L.l1,L.l0,hd,hnle,ix,b1];refine A3 CC ?_;simp -implicitDefEqProofs [L.l1];refine Cp (λc:RnD=>⟨[(8,.t (iv (i:Int))),(6,.ptr (nx+1) 0),(3,.ptr nx 0)],c.H,nx+2,77⟩) (λc=>RqI s ks kt H nx c.j ⟨(wb s).drop c.j,r.e,r.seen⟩ c.H/\i<c.j/\W=((wb s).drop i).take (c.j-i)) (λ_=>rfl) ?_ ?_
 .refine BA ?_
  refine DH (SRu i nx lo hi) (λc=>s.size-c.j) (λc=>RqI s ks kt H nx c.j ⟨(wb s).drop c.j,r.e,r.seen⟩ c.H/\i<=c.j/\W=((wb s).drop i).take (c.j-i)++Dm big (decide (c.j=i)) ((wb s).drop c.j)) ⟨H1,i⟩ (λ_=>rfl) ⟨by rw[<-S.rest];exact I1,Xe _,by
    simp only[Xp,Xv,Xq,decide_true]
    rw[hW,S.rest]⟩ ?_ rfl ?_
  .exact Aw (by simp -implicitDefEqProofs [SRu])
  rintro⟨Ha,j⟩ ⟨hI,hij,hWj⟩;simp only at hI hij hWj;have La:=ldQ hI.x0;have hjs:=hI.S.hi;by_cases hlj:j<s.size
  rotate_left
  .have hdj:decide ((j:Int)<(s.size:Int))=false:=zt (by omega);have edn:(wb s).drop j=[]:=Xt (by rw[Bz];omega)
   have hrn:∀b,Dm big b []=[]:=λb=>by cases b<;>rfl
   have hWe:W=((wb s).drop i).take (j-i):=by rw[hWj,edn,hrn,Xo]
   refine A3 CC ?_;simp -implicitDefEqProofs [SRu,La.l1,La.l0,hdj,hlj];exact A4.mk ⟨Ha,j⟩ ⟨hI,by show i<j;omega,hWe⟩ (Aw (by simp -implicitDefEqProofs))
  have hdj:decide ((j:Int)<(s.size:Int))=true:=zq (by omega)
  obtain⟨x,hx⟩:∃x,(wb s)[j]?=some x:=⟨_,Xj (by rw[Bz];exact hlj)⟩
  have ixj:=ixS hx
  have ed:(wb s).drop j=x::(wb s).drop (j+1):=by
   rw[Xs (by rw[Bz];exact hlj),(Xl.1 hx).2]
  rw[ed,Dm]at hWj
  have etk:((wb s).drop i).take (j+1-i)=((wb s).drop i).take (j-i)++[x]:=by
   rw[show j+1-i=(j-i)+1 by omega,Xy,X4,show i+(j-i)=j by omega,hx];rfl
  have w2:Xk.wrap ((j:Int)+1)=((j+1:Nat):Int):=Bb (by omega) (by omega);obtain⟨H2,s2,I2⟩:=hI.step lks lkt (j:=j+1) (by omega);rw[show((j+1:Nat):Int)=(j:Int)+1 from rfl]at s2 w2
  have go:(okC big x||(!decide (j=i)&&(Bd x||decide (x=45))))=true->RqI s ks kt H nx (j+1) ⟨(wb s).drop (j+1),r.e,r.seen⟩ H2/\i<=j+1/\W=((wb s).drop i).take (j+1-i)++Dm big (decide (j+1=i)) ((wb s).drop (j+1)):=λhg=>by
   rw[zu hg]at hWj;refine⟨I2,by omega,?_⟩;rw[hWj,etk,zt (by omega:¬j+1=i),Xw];rfl
  have hne:j≠i\/okC big x=true:=by
   by_cases h:j=i
   .right;rw[h,hc]at hx;injection hx with hx;rw[<-hx];exact hkc
   .exact .inl h
  have c1:=Rh x lo hi;rw[<-hok x]at c1;have c2:=Rk x
  have c45:x=45 ↔ x.toNat=45:=⟨λe=>by rw[e];rfl,λe=>Xz.1 e⟩
  have nxt:∀H',H'=H2->∃c:RnD,c=⟨H',j+1⟩:=λH' _=>⟨_,rfl⟩
  cases hox:okC big x with
  | true=>
   rw[hox]at c1;refine A3 CC ?_;simp -implicitDefEqProofs [SRu,La.l1,La.l0,hdj,hlj,ixj,c1];refine BA ?_;refine AV An ?_;simp -implicitDefEqProofs [La.l1,w2,s2];exact A4.mk ⟨H2,j+1⟩ ⟨go (by rw[hox];rfl),by show s.size-(j+1)<s.size-j;omega⟩ (Aw (by simp -implicitDefEqProofs [SRu]))
  | false=>
  rw[hox]at c1 hne
  have hji:j≠i:=by rcases hne with h | h;exact h;cases h
  cases hdx:Bd x with
  | true=>
   rw[hdx]at c2;refine A3 CC ?_;simp -implicitDefEqProofs [SRu,La.l1,La.l0,hdj,hlj,ixj,c1,c2];refine BA ?_;refine AV An ?_;simp -implicitDefEqProofs [La.l1,w2,s2];exact A4.mk ⟨H2,j+1⟩ ⟨go (by rw[hox,hdx,zt hji];rfl),by show s.size-(j+1)<s.size-j;omega⟩ (Aw (by simp -implicitDefEqProofs [SRu]))
  | false=>
  rw[hdx]at c2;by_cases g6:x.toNat=45
  .have d6:((x.toNat:Int)==45)=true:=by rw[g6];rfl
   refine A3 CC ?_;simp -implicitDefEqProofs [SRu,La.l1,La.l0,hdj,hlj,ixj,c1,c2,d6];refine BA ?_;refine AV An ?_;simp -implicitDefEqProofs [La.l1,w2,s2];exact A4.mk ⟨H2,j+1⟩ ⟨go (by rw[hox,hdx,zt hji,zq (c45.2 g6)];rfl),by show s.size-(j+1)<s.size-j;omega⟩ (Aw (by simp -implicitDefEqProofs [SRu]))
  .have d6:((x.toNat:Int)==45)=false:=by rw[zp];omega
   have hWe:W=((wb s).drop i).take (j-i):=by
    rw[zw (by rw[hox,hdx,zt (λe=>g6 (c45.1 e))];simp)]at hWj;rw[hWj,Xo]
   refine A3 CC ?_;simp -implicitDefEqProofs [SRu,La.l1,La.l0,hdj,hlj,ixj,c1,c2,d6];exact A4.mk ⟨Ha,j⟩ ⟨hI,by show i<j;omega,hWe⟩ (Aw (by simp -implicitDefEqProofs))
 rintro⟨Ha,j⟩ ⟨hI,hij,hWj⟩;simp only at hI hij hWj;have La:=ldQ hI.x0;have hjs:=hI.S.hi;have sl:=slS (s:=s) (i:=i) (j:=j) (by omega) hjs;rw[<-hWj]at sl
 have hWl:W.length=j-i:=by rw[hWj,Xr,X0,Bz];omega
 have hW0:W≠[]:=λe=>by rw[e]at hWl;simp at hWl;omega
 rw[zw hW0]at hRw
 obtain⟨rr,hrr⟩:∃rr:Rs,rr=⟨(wb s).drop j,r.e,r.seen⟩:=⟨_,rfl⟩
 have hR1:R=(rr,ob W):=by rw[hRw,hrr,S.rest,X5,hWl,show i+(j-i)=j by omega]
 have laj:=La.all;rw[show BI (rqC s j r.e (Ax Ar ks (soL ⟨(wb s).drop j,r.e,r.seen⟩)) (Ax Ar kt (diL ⟨(wb s).drop j,r.e,r.seen⟩)))=rqP s ks kt j rr by rw[hrr];rfl]at laj;rw[<-hrr]at hI;obtain⟨q1,q2⟩:=RqI.ret (s:=s) (H:=Ha) (nx:=nx) (H0:=H) (n:=0) (r':=rr) (i':=j) (ks':=ks) (kt':=kt) hI.x1;have Lb:=ldQ (H:=Xd Ha (nx+1) (rqR s ks kt j rr)) (k:=nx) (by rw[A7,zw (by omega)];exact hI.x0);refine AV An ?_;simp -implicitDefEqProofs [La.l1,La.l0,laj,sl,q1,Lb.l1,Lb.l0];exact Bp ⟨BD (rqP s ks kt j rr) (.t (sv (ob W))),Xd Ha (nx+1) (rqR s ks kt j rr),nx+2⟩ ⟨j,by rw[hR1],by rw[hR1];exact hI.S.upd' (by omega) (by omega) _,hI.K.upd (by omega) _⟩ (by simp -implicitDefEqProofs [BD,q2])
theorem xM (S:RqS s ks kt i r H nx) {big:Bool} {lo hi:UInt8} (hok:∀c,okC big c=btB c lo hi) (hs:s.size<=1000000000):∃H' i' nx' tb,RqS s ks kt i' (Bt big r).1 H' nx'/\Kp H nx H' nx'/\tb [rqP s ks kt i r,u8c lo,u8c hi] H nx=some (BD (rqP s ks kt i' (Bt big r).1) (.t (sv (Bt big r).2)),H',nx')/\HOK Xc (G q) 98 tb:=by
 obtain⟨⟨fr,fH,fn⟩,⟨i',hr,hS,hk⟩,hc⟩:=xL (q:=q) S hok hs;simp only at hr hS hk hc;subst hr;obtain⟨tb,t1,t2⟩:=hAt hc hk.fr;exact⟨fH,i',fn,tb,hS,hk,t1,t2⟩
end
theorem xN (c:UInt8):Cr (ob [c])=GF c:=by
 have h:∀d:UInt8,decide (ob [c]=ob [d])=decide (c=d):=λd=>by
  by_cases e:c=d
  .subst e;simp
  .rw[zt e,zt];intro h;have:=congrArg wb h;rw[Co,Co]at this;exact e (by simpa using this)
 unfold Cr GF;rw[<-h 104,<-h 101,<-h 120,<-h 105];rfl
theorem xO {α:Type} (e:Enc α) (b:Nat) (l:List α):CV (Ax e b l)=some (.t (iv (l.length:Int))):=by
 cases l<;>rfl
structure VaD where
 H:Ak
 j:Nat
def SVq (m nx:Nat) (so:ByteArray) (c:VaD):Am:=⟨[(5,.t (iv (m:Int))),(4,.t (sv so)),(2,.ptr (nx+1) 0),(1,.ptr nx 0)],c.H,nx+2,114⟩
structure Rl (s:ByteArray) (ks kt:Nat) (o:Rs×Int) (H:Ak) (nx:Nat) (f:Fin):Prop where
 ex:∃i' ks' kt',f.r=BD (rqP s ks' kt' i' o.1) (.t (iv o.2))/\RqS s ks' kt' i' o.1 f.H f.nx/\Kq ks kt H nx ks' kt' f.H f.nx
section
variable {s : ByteArray} {ks kt i : Nat} {r : Rs} {H : Ak} {nx : Nat}
theorem xP (S:RqS s ks kt i r H nx) (hs:s.size<=1000000000) (hmu:muR r<=1000000000):∃f:Fin,Rl s ks kt (AW r) H nx f/\B3 Xc (G q) 59 [rqP s ks kt i r] H nx f.r f.H f.nx:=by
 obtain⟨O,hO⟩:∃O,O=AW r:=⟨_,rfl⟩
 rw[<-hO];have lks:=S.ls;have lkt:=S.lt;have lne:=S.ne;have hi':=S.hi;have cs:=Iy s ks kt i r
 obtain⟨p,hp⟩:∃p,p=rqP s ks kt i r:=⟨_,rfl⟩
 rw[<-hp]at cs ⊢
 obtain⟨H1,hH1⟩:∃H1:Ak,H1=(nx+1,zqR)::(nx,rqR s ks kt i r)::H:=⟨_,rfl⟩
 have I1:=RqI.first S hH1
 have L:=ldQ I1.x0;have la:=L.all;rw[show BI (rqC s i r.e (Ax Ar ks (soL r)) (Ax Ar kt (diL r)))=rqP s ks kt i r from rfl,<-hp]at la;refine pR.callX rfl ?_;(conv in Vx=>cbv);refine A3 An ?_;simp -implicitDefEqProofs [cs];refine B4 (s':=⟨[(2,.ptr (nx+1) 0),(1,.ptr nx 0)],H1,nx+2,114⟩) (by rw[hH1];exact Aw (by simp -implicitDefEqProofs)) rfl ?_;by_cases he:r.e=0
 rotate_left
 .have hb:(r.e != 0)=true:=by rw[bne_iff_ne];exact he
  have hOe:O=(r,0):=by rw[hO];exact Oj he
  obtain⟨r1,r2⟩:=RqI.ret (s:=s) (H:=H1) (nx:=nx) (H0:=H) (n:=0) (r':=r) (i':=i) (ks':=ks) (kt':=kt) I1.x1;rw[<-hp]at r1 r2;refine A3 An ?_;simp -implicitDefEqProofs [L.l2,hb,la,r1];exact Bp ⟨BD p (.t (iv 0)),Xd H1 (nx+1) (rqR s ks kt i r),nx+2⟩ ⟨i,ks,kt,by rw[hOe,hp],by rw[hOe];exact I1.S.upd' (by omega) (by omega) _,(I1.K.upd (by omega) _).kq _ _⟩ (by simp -implicitDefEqProofs [BD,r2])
 have hb:(r.e != 0)=false:=by rw[he];rfl
 refine A3 An ?_;simp -implicitDefEqProofs [L.l2,hb];obtain⟨Hf,nf,tf,Kf,tf1,tf2⟩:=Mt (q:=q) I1.S;rw[<-hp]at tf1;have n2:=Kf.n
 have fx1:Aj Hf (nx+1)=some zqR:=by rw[Kf.k (nx+1) (by omega)];exact I1.x1
 obtain⟨r1,r2⟩:=RqI.ret (s:=s) (H:=Hf) (nx:=nx) (H0:=H) (n:=0) (r':=Be r) (i':=i) (ks':=ks) (kt':=kt) fx1
 have bad:O=(Be r,0)->Rl s ks kt O H nx ⟨BD (rqP s ks kt i (Be r)) (.t (iv 0)),Xd Hf (nx+1) (rqR s ks kt i (Be r)),nf⟩:=λh=>by
  rw[h];exact⟨i,ks,kt,rfl,(I1.S.fail.kp Kf).upd' (by omega) (by omega) _,((I1.K.trans Kf).upd (by omega) _).kq _ _⟩
 unfold AW at hO;rw[zu he]at hO;by_cases hlt:i<s.size
 rotate_left
 .have hd:decide ((s.size:Int)<=(i:Int))=true:=zq (by omega)
  have hle:s.size<=i:=by omega
  rw[S.nil.2 hle]at hO;have CF:Ctx Xc (G q) _:=AB.nil.ctxH (AG.cons tf2 .nil) mixed;refine A3 CF ?_;simp -implicitDefEqProofs [L.l1,L.l0,hd,hle,la,tf1,r1];exact Bp _ (bad hO) (by simp -implicitDefEqProofs [BD,r2])
 have hd:decide ((s.size:Int)<=(i:Int))=false:=zt (by omega)
 have hnle:¬s.size<=i:=by omega
 obtain⟨c,hc⟩:∃c,(wb s)[i]?=some c:=⟨_,Xj (by rw[Bz];exact hlt)⟩
 have er:=S.at_ hc;rw[er]at hO;simp only at hO
 obtain⟨m,hm⟩:∃m,m=i+1:=⟨_,rfl⟩
 have w2:Xk.wrap ((i:Int)+1)=(m:Int):=by rw[hm];exact Bb (by omega) (by omega)
 have hms:m<=s.size:=by omega
 have slc:=slS (s:=s) (i:=i) (j:=m) (by omega) hms
 have etk1:((wb s).drop i).take (m-i)=[c]:=by
  rw[show m-i=1 by omega,<-S.rest,er];rfl
 rw[etk1]at slc;rw[<-hm]at hO;have hso:=FG (V9 (q:=q) (ob [c]));rw[xN]at hso;have gso:=Gg [sv (ob [c])] (bv (GF c));have CF:Ctx Xc (G q) _:=(AB.cons hso .nil).ctxH (AG.cons tf2 .nil) mixed
 cases hsc:GF c with
 | false=>
  rw[hsc]at hO gso CF;rw[zw (by decide)]at hO;refine A3 CF ?_;simp -implicitDefEqProofs [L.l1,L.l0,hd,hnle,w2,slc,gso,la,tf1,r1];exact Bp _ (bad hO) (by simp -implicitDefEqProofs [BD,r2])
 | true=>
 rw[hsc]at hO gso CF;rw[zu rfl]at hO;refine A3 CF ?_;simp -implicitDefEqProofs [L.l1,L.l0,hd,hnle,w2,slc,gso];obtain⟨H2,s2,I2⟩:=I1.step lks lkt hms;have L2:=ldQ I2.x0;refine A3 An ?_;simp -implicitDefEqProofs [L.l1,L.l0,w2,slc];refine A3 An ?_;simp -implicitDefEqProofs [L.l1,w2,s2]
 obtain⟨r2',hr2'⟩:∃r2':Rs,r2'=⟨(wb s).drop m,r.e,r.seen⟩:=⟨_,rfl⟩
 have la2:=L2.all;rw[show BI (rqC s m r.e (Ax Ar ks (soL ⟨(wb s).drop m,r.e,r.seen⟩)) (Ax Ar kt (diL ⟨(wb s).drop m,r.e,r.seen⟩)))=rqP s ks kt m r2' by rw[hr2'];rfl]at la2;rw[<-hr2']at I2 hO
 obtain⟨Q,hQ⟩:∃Q,Q=(wb s).drop m:=⟨_,rfl⟩
 rw[<-hQ]at hO
 obtain⟨D,hD⟩:∃D,D=CQ Q:=⟨_,rfl⟩
 rw[<-hD]at hO;obtain⟨Hg,ng,tg,Kg,tg1,tg2⟩:=Mt (q:=q) I2.S;have n3:=Kg.n
 have gx1:Aj Hg (nx+1)=some zqR:=by rw[Kg.k (nx+1) (by omega)];exact I2.x1
 obtain⟨q1,q2⟩:=RqI.ret (s:=s) (H:=Hg) (nx:=nx) (H0:=H) (n:=0) (r':=Be r2') (i':=m) (ks':=ks) (kt':=kt) gx1
 have bad2:D=[]->Rl s ks kt O H nx ⟨BD (rqP s ks kt m (Be r2')) (.t (iv 0)),Xd Hg (nx+1) (rqR s ks kt m (Be r2')),ng⟩:=λh=>by
  rw[zu h]at hO;rw[hO];exact⟨m,ks,kt,rfl,(I2.S.fail.kp Kg).upd' (by omega) (by omega) _,((I2.K.trans Kg).upd (by omega) _).kq _ _⟩
 have CG:Ctx Xc (G q) _:=(AB.cons (hBt (q:=q)) .nil).ctxH (AG.cons tg2 .nil) mixed;by_cases hlm:m<s.size
 rotate_left
 .have hdm:decide ((s.size:Int)<=(m:Int))=true:=zq (by omega)
  have hle:s.size<=m:=by omega
  have hD0:D=[]:=by rw[hD,hQ,Xt (by rw[Bz];omega)];rfl
  refine A3 CG ?_;simp -implicitDefEqProofs [L2.l1,L2.l0,hdm,hle,la2,tg1,q1];exact Bp _ (bad2 hD0) (by simp -implicitDefEqProofs [BD,q2])
 have hdm:decide ((s.size:Int)<=(m:Int))=false:=zt (by omega)
 have hnlm:¬s.size<=m:=by omega
 obtain⟨y,hy⟩:∃y,(wb s)[m]?=some y:=⟨_,Xj (by rw[Bz];exact hlm)⟩
 have ixm:=ixS hy
 have eQ:Q=y::(wb s).drop (m+1):=by rw[hQ,Xs (by rw[Bz];exact hlm),(Xl.1 hy).2]
 have b1:=Rk y
 cases hdy:Bd y with
 | false=>
  rw[hdy]at b1
  have hD0:D=[]:=by rw[hD,eQ,CQ,hdy];rfl
  refine A3 CG ?_;simp -implicitDefEqProofs [L2.l1,L2.l0,hdm,hnlm,ixm,b1,la2,tg1,q1];exact Bp _ (bad2 hD0) (by simp -implicitDefEqProofs [BD,q2])
 | true=>
 rw[hdy]at b1;refine A3 CG ?_;simp -implicitDefEqProofs [L2.l1,L2.l0,hdm,hnlm,ixm,b1];refine A3 An ?_;simp -implicitDefEqProofs [L2.l1]
 obtain⟨zz,hzz⟩:∃zz,zz=decide (y=48):=⟨_,rfl⟩
 have CB:Ctx Xc (G q) _:=(AB.cons (hBt (q:=q)) .nil).ctx mixed;refine Cp (λc':VaD=>⟨[(5,.t (iv (m:Int))),(4,.t (sv (ob [c]))),(2,.ptr (nx+1) 0),(1,.ptr nx 0)],c'.H,nx+2,114⟩) (λc'=>RqI s ks kt H nx c'.j ⟨(wb s).drop c'.j,r.e,r.seen⟩ c'.H/\m<c'.j/\D=Q.take (c'.j-m)) (λ_=>rfl) ?_ ?_
 .refine BA ?_
  refine DH (SVq m nx (ob [c])) (λc'=>s.size-c'.j) (λc'=>RqI s ks kt H nx c'.j ⟨(wb s).drop c'.j,r.e,r.seen⟩ c'.H/\m<=c'.j/\D=Q.take (c'.j-m)++D5 (decide (c'.j=m)) zz ((wb s).drop c'.j)) ⟨H2,m⟩ (λ_=>rfl) ⟨by rw[<-hr2'];exact I2,Xe _,by
    simp only[Xp,Xv,Xq,decide_true]
    rw[hD,hQ];rfl⟩ ?_ rfl ?_
  .exact Aw (by simp -implicitDefEqProofs [SVq])
  rintro⟨Ha,j⟩ ⟨hI,hij,hWj⟩;simp only at hI hij hWj;have La:=ldQ hI.x0;have hjs:=hI.S.hi;by_cases hlj:j<s.size
  rotate_left
  .have hdj:decide ((j:Int)<(s.size:Int))=false:=zt (by omega);have edn:(wb s).drop j=[]:=Xt (by rw[Bz];omega)
   have hrn:∀a b,D5 a b []=[]:=λa b=>by cases a<;>cases b<;>rfl
   have hWe:D=Q.take (j-m):=by rw[hWj,edn,hrn,Xo]
   refine A3 CB ?_;simp -implicitDefEqProofs [SVq,La.l1,La.l0,hdj,hlj];exact A4.mk ⟨Ha,j⟩ ⟨hI,by show m<j;omega,hWe⟩ (Aw (by simp -implicitDefEqProofs))
  have hdj:decide ((j:Int)<(s.size:Int))=true:=zq (by omega)
  obtain⟨x,hx⟩:∃x,(wb s)[j]?=some x:=⟨_,Xj (by rw[Bz];exact hlj)⟩
  have ixj:=ixS hx
  have ed:(wb s).drop j=x::(wb s).drop (j+1):=by
   rw[Xs (by rw[Bz];exact hlj),(Xl.1 hx).2]
  rw[ed]at hWj
  have etk:Q.take (j+1-m)=Q.take (j-m)++[x]:=by
   rw[hQ,show j+1-m=(j-m)+1 by omega,Xy,X4,show m+(j-m)=j by omega,hx];rfl
  have w3:Xk.wrap ((j:Int)+1)=((j+1:Nat):Int):=Bb (by omega) (by omega);obtain⟨H3,s3,I3⟩:=hI.step lks lkt (j:=j+1) (by omega);rw[show((j+1:Nat):Int)=(j:Int)+1 from rfl]at s3 w3;have c2:=Rk x
  have y48:y=48 ↔ y.toNat=48:=⟨λe=>by rw[e];rfl,λe=>Xz.1 e⟩
  have hjm:Bd x=true\/m<j:=by
   by_cases h:j=m
   .left;rw[h,hy]at hx;injection hx with hx;rw[<-hx];exact hdy
   .right;omega
  cases hdx:Bd x with
  | false=>
   rw[hdx]at c2 hjm
   have hlt2:m<j:=by rcases hjm with h | h;cases h;exact h
   have hWe:D=Q.take (j-m):=by
    rw[hWj]
    have:D5 (decide (j=m)) zz (x::(wb s).drop (j+1))=[]:=by
     unfold D5;split
     .rw[CQ,zw (by rw[hdx];decide)]
     .split
      .rfl
      .rw[X6,hdx];rfl
    rw[this,Xo]
   refine A3 CB ?_;simp -implicitDefEqProofs [SVq,La.l1,La.l0,hdj,hlj,ixj,c2];exact A4.mk ⟨Ha,j⟩ ⟨hI,hlt2,hWe⟩ (Aw (by simp -implicitDefEqProofs))
  | true=>
  rw[hdx]at c2;by_cases g3:j=m
  .have d3:((j:Int)==(m:Int))=true:=by rw[g3];exact beq_self_eq_true _
   have hxy:x=y:=by rw[g3,hy]at hx;injection hx with hx;exact hx.symm
   have hg:D=Q.take (j+1-m)++D5 (decide (j+1=m)) zz ((wb s).drop (j+1)):=by
    rw[hWj,etk,zq g3,zt (by omega:¬j+1=m),Xw];congr 1;unfold D5;rw[hzz,hxy,zu rfl,CQ,zu hdy];simp only[Yk,if_false];by_cases e:y=48
    .rw[zu e,zq e];rfl
    .rw[zw e,zt e];rfl
   refine A3 CB ?_;simp -implicitDefEqProofs [SVq,La.l1,La.l0,hdj,hlj,ixj,c2,d3];refine BA ?_;refine AV An ?_;simp -implicitDefEqProofs [La.l1,w3,s3];exact A4.mk ⟨H3,j+1⟩ ⟨⟨I3,by show m<=j+1;omega,hg⟩,by show s.size-(j+1)<s.size-j;omega⟩ (Aw (by simp -implicitDefEqProofs [SVq]))
  .have d3:((j:Int)==(m:Int))=false:=by rw[zp];omega
   by_cases g4:y.toNat=48
   .have d4:((y.toNat:Int) != 48)=false:=by rw[g4];rfl
    have hWe:D=Q.take (j-m):=by
     rw[hWj,zt g3,hzz,zq (y48.2 g4)];unfold D5;rw[zw (by decide),zu rfl,Xo]
    refine A3 CB ?_;simp -implicitDefEqProofs [SVq,La.l1,La.l0,hdj,hlj,ixj,ixm,c2,d3,d4];exact A4.mk ⟨Ha,j⟩ ⟨hI,by show m<j;omega,hWe⟩ (Aw (by simp -implicitDefEqProofs))
   .have d4:((y.toNat:Int) != 48)=true:=by rw[bne_iff_ne];omega
    have hg:D=Q.take (j+1-m)++D5 (decide (j+1=m)) zz ((wb s).drop (j+1)):=by
     rw[hWj,etk,zt g3,zt (by omega:¬j+1=m),Xw,hzz,zt (λe=>g4 (y48.1 e))];congr 1;unfold D5;rw[zw (by decide),zw (by decide),zw (by decide),zw (by decide),X6,hdx];rfl
    refine A3 CB ?_;simp -implicitDefEqProofs [SVq,La.l1,La.l0,hdj,hlj,ixj,ixm,c2,d3,d4];refine BA ?_;refine AV An ?_;simp -implicitDefEqProofs [La.l1,w3,s3];exact A4.mk ⟨H3,j+1⟩ ⟨⟨I3,by show m<=j+1;omega,hg⟩,by show s.size-(j+1)<s.size-j;omega⟩ (Aw (by simp -implicitDefEqProofs [SVq]))
 rintro⟨Ha,j⟩ ⟨hI,hij,hWj⟩;simp only at hI hij hWj;have La:=ldQ hI.x0;have hjs:=hI.S.hi
 have hDl:D.length=j-m:=by rw[hWj,hQ,Xr,X0,Bz];omega
 have hD0:D≠[]:=λe=>by rw[e]at hDl;simp at hDl;omega
 rw[zw hD0]at hO;have sld:=slS (s:=s) (i:=m) (j:=j) (by omega) hjs;rw[<-hQ,<-hWj]at sld
 have hsl:r.seen.length<=1000000000:=by unfold muR at hmu;omega
 obtain⟨Hb,ab,bb,cb,fb⟩:=LU (by':=16) (nx:=nx+2) (ob [c]) 1 rfl [.t (sv (ob [c]))] rfl hI.S.vs hI.S.ls (by show((soL r).length+1)*16<=_;unfold soL;rw[Xi];omega) (by show(soL r).length<=_;unfold soL;rw[Xi];omega);rw[show soL ⟨(wb s).drop j,r.e,r.seen⟩=soL r from rfl]at ab bb
 have xb:Aj Hb nx=some (DC s j r.e (Ax Ar ks (soL r)) (Ax Ar kt (diL r))):=by rw[cb nx (by omega) (by omega)];exact hI.x0
 have sb:=xF xb (Gc Ar (nx+2+1) (soL r++[ob [c]]))
 obtain⟨Hc,hHc⟩:∃Hc,Hc=Xd Hb nx (DC s j r.e (Ax Ar (nx+2+1) (soL r++[ob [c]])) (Ax Ar kt (diL r))):=⟨_,rfl⟩
 rw[<-hHc]at sb
 have xc:Aj Hc nx=some (DC s j r.e (Ax Ar (nx+2+1) (soL r++[ob [c]])) (Ax Ar kt (diL r))):=by rw[hHc,A7,zu rfl,xb];rfl
 have Lc:=ldQ xc
 have vsc:AK Ar tyS Hc (nx+2+1) (soL r++[ob [c]]):=bb.imp id λe=>by rw[hHc,A7,zw (by omega)];exact e
 have kc:∀z,z<nx+2->z≠nx->z≠ks->Aj Hc z=Aj Ha z:=λz h1 h2 h3=>by rw[hHc,A7,zw h2,cb z h1 h3]
 have vtc:AK Ar tyS Hc kt (diL r):=hI.S.vt.imp id λe=>by rw[kc kt hI.S.lt (by omega) lne.symm];exact e
 have bsl:BB tyS 1 [.string ⟨#[]⟩] 1 [(0,.t (sv (ob [c])))] (nx+2)=some (.row (nx+2) 0 1 1,.cells tyS [.t (sv (ob [c]))]):=rfl;obtain⟨Hd,ad,bd,cd,fd⟩:=EM (by':=16) (nx:=nx+2+2) (ob D) 1 rfl [sv (ob D)] rfl vtc (by omega) (by unfold diL;rw[Xi];omega) (by unfold diL;rw[Xi];omega);have tsl:EZ tyS 1 [.string ⟨#[]⟩] 1 [(0,.t (sv (ob D)))]=some (.t (.sl 1 [sv (ob D)])):=rfl
 have xd:Aj Hd nx=some (DC s j r.e (Ax Ar (nx+2+1) (soL r++[ob [c]])) (Ax Ar kt (diL r))):=by rw[cd nx (by omega) (by omega)];exact xc
 have Ld:=ldQ xd;have sd:=xG xd (Gc Ar (nx+2+2) (diL r++[ob D]))
 obtain⟨v,hv⟩:∃v:Vr,v=⟨ob [c],ob D⟩:=⟨_,rfl⟩
 obtain⟨r3,hr3⟩:∃r3:Rs,r3=⟨(wb s).drop j,r.e,r.seen++[v]⟩:=⟨_,rfl⟩
 have eso:soL r3=soL r++[ob [c]]:=by rw[hr3,hv];unfold soL;simp
 have edi:diL r3=diL r++[ob D]:=by rw[hr3,hv];unfold diL;simp
 have ere:r3.e=r.e:=by rw[hr3]
 have hO2:O=(r3,(r.seen.length:Int)):=by
  rw[hO,hr3,hv,hDl,hQ,X5,show m+(j-m)=j by omega]
 obtain⟨He,hHe⟩:∃He,He=Xd Hd nx (DC s j r.e (Ax Ar (nx+2+1) (soL r++[ob [c]])) (Ax Ar (nx+2+2) (diL r++[ob D]))):=⟨_,rfl⟩
 rw[<-hHe]at sd
 have xe:Aj He nx=some (rqR s (nx+2+1) (nx+2+2) j r3):=by rw[hHe,A7,zu rfl,xd];unfold rqR;rw[eso,edi,ere];rfl
 have xe1:Aj He (nx+1)=some zqR:=by rw[hHe,A7,zw (by omega),cd (nx+1) (by omega) (by omega),kc (nx+1) (by omega) (by omega) (by omega)];exact hI.x1
 have Le:=ldQ xe;have le:=Le.all;rw[show BI (rqC s j r3.e (Ax Ar (nx+2+1) (soL r3)) (Ax Ar (nx+2+2) (diL r3)))=rqP s (nx+2+1) (nx+2+2) j r3 from rfl]at le;obtain⟨p1,p2⟩:=RqI.ret (s:=s) (H:=He) (nx:=nx) (H0:=H) (n:=0) (r':=r3) (i':=j) (ks':=nx+2+1) (kt':=nx+2+2) xe1;have Lf:=ldQ (H:=Xd He (nx+1) (rqR s (nx+2+1) (nx+2+2) j r3)) (k:=nx) (by rw[A7,zw (by omega)];exact xe)
 have lnn:CV (Ax Ar (nx+2+2) (diL r3))=some (.t (iv ((r.seen.length:Int)+1))):=by
  rw[xO,hr3];unfold diL;simp
 have w5:Xk.wrap ((r.seen.length:Int)+1-1)=(r.seen.length:Int):=by
  rw[show(r.seen.length:Int)+1-1=((r.seen.length:Nat):Int)by omega];exact Bb rfl (by omega)
 have w6:Xk.wrap (r.seen.length:Int)=(r.seen.length:Int):=Bb rfl (by omega)
 have Vs:AK Ar tyS He (nx+2+1) (soL r3):=by
  rw[eso]
  exact vsc.imp id λe=>by rw[hHe,A7,zw (by omega),cd (nx+2+1) (by omega) (by omega)];exact e
 have Vt:AK Ar tyS He (nx+2+2) (diL r3):=by
  rw[edi]
  exact bd.imp id λe=>by rw[hHe,A7,zw (by omega)];exact e
 have Se:RqS s (nx+2+1) (nx+2+2) j r3 He (nx+2+2+1):=⟨Vs,Vt,by rw[hr3],hjs,by omega,by omega,by omega⟩
 have Ke:Kq ks kt H nx (nx+2+1) (nx+2+2) He (nx+2+2+1):=⟨λz h1 h2 h3=>by rw[hHe,A7,zw (by omega),cd z (by omega) h3,kc z (by omega) (by omega) h2,hI.K.k z h1],by omega,λh=>by rw[hHe];exact(fd (by rw[hHc];exact(fb (hI.K.fr h)).upd)).upd,.inr (by omega),.inr (by omega)⟩
 refine A3 An ?_;simp -implicitDefEqProofs [La.l3,bsl,ab,sb];refine A3 An ?_;simp -implicitDefEqProofs [Lc.l4,Lc.l0,Lc.l1,sld,tsl,ad,sd];refine AV An ?_;simp -implicitDefEqProofs [le,Le.l4,lnn,w5,p1,Lf.l4];refine Bp ⟨BD (rqP s (nx+2+1) (nx+2+2) j r3) (.t (iv (r.seen.length:Int))),Xd He (nx+1) (rqR s (nx+2+1) (nx+2+2) j r3),nx+2+2+1⟩ ⟨j,nx+2+1,nx+2+2,by rw[hO2],by rw[hO2];exact Se.upd' (by omega) (by omega) _,⟨λz h1 h2 h3=>by show Aj (Xd He (nx+1) _) z=_;rw[A7,zw (by omega)];exact Ke.k z h1 h2 h3,Ke.n,λh=>(Ke.fr h).upd,Ke.s,Ke.t⟩⟩ (by simp -implicitDefEqProofs [BD,p2,w6])
theorem aD (S:RqS s ks kt i r H nx) (hs:s.size<=1000000000) (hmu:muR r<=1000000000):∃H' ks' kt' i' nx' tb,RqS s ks' kt' i' (AW r).1 H' nx'/\Kq ks kt H nx ks' kt' H' nx'/\tb [rqP s ks kt i r] H nx=some (BD (rqP s ks' kt' i' (AW r).1) (.t (iv (AW r).2)),H',nx')/\HOK Xc (G q) 59 tb:=by
 obtain⟨⟨fr,fH,fn⟩,⟨i',ks',kt',hr,hS,hk⟩,hc⟩:=xP (q:=q) S hs hmu;simp only at hr hS hk hc;subst hr;obtain⟨tb,t1,t2⟩:=hAt hc hk.fr;exact⟨fH,ks',kt',i',fn,tb,hS,hk,t1,t2⟩
end
def DU (n:Nat) (r:Row):Prop:=∃ty cs,r = .cells ty cs/\∀p∈cs,(∃t,p = .t t)\/∃b o m z,p = .row b o m z/\b<n
theorem DU.frz {n:Nat} {r:Row} (h:DU n r) {H:Ak} {F:List Nat} (hF:∀b∈F,n<=b):E5 H F r=r:=by
 obtain⟨ty,cs,rfl,hc⟩:=h;show Row.cells ty (cs.map (BO H F))=_;congr 1
 have e:cs.map (BO H F)=cs.map id:=Ym λp hp=>by
  rcases hc p hp with⟨t,rfl⟩ | ⟨b,o,m,z,rfl,hb⟩
  .rfl
  .unfold BO;rw[toT];split
   .rename_i x F' hx;split at hx
    .split at hx
     .obtain⟨ts,_,e⟩:=Yn.1 hx;injection e with _ e;subst e;rw[zw]
      .rfl
      .simp only[List.all_cons,List.all_nil,Bool.and_true,List.contains_iff_mem];intro hm;exact absurd (hF b hm) (by omega)
     .cases hx
    .cases hx
   .rfl
 rw[e,List.map_id]
theorem Frs.frz {H:Ak} {nx:Nat} (h:Frs H nx) (F:List Nat):Frs (Cg H F) nx:=λb x hb=>by
 unfold Cg at hb;rw[JH]at hb;obtain⟨y,hy,_⟩:=Yn.1 hb;exact h b y (DY F H b y hy).1
structure xQ (s:ByteArray) (k0 kv:Nat) (o:Rs×Ep) (H:Ak) (nx:Nat) (f:Fin):Prop where
 r:f.r = .t (.ag (EC.of o.2).cs)
 ex:∃kv' i',RdS s k0 kv' i' o.1 f.H f.nx/\(kv'=kv\/nx<=kv')
 k:∀c x,c<nx->c≠k0->c≠kv->Aj H c=some x->DU nx x->Aj f.H c=some x
 n:nx<=f.nx
 fr:Frs H nx->Frs f.H f.nx
theorem xR (Φ:AP) (H:Ak) (nx:Nat) (l:Int):A0 Φ H nx (.build [(0,1),(1,1),(2,1)] [.string ⟨#[]⟩,.int .i64 0,.slice none 0 0] [1]) [.t (iv l)]=some (.t (.ag [sv ⟨#[]⟩,iv l,Au]),H,nx):=rfl
theorem xS (c:UInt8):okC false c=(decide ((97:UInt8).toNat<=c.toNat)&&decide (c.toNat<=(122:UInt8).toNat)):=rfl
theorem xT (c:UInt8):okC true c=(decide ((65:UInt8).toNat<=c.toNat)&&decide (c.toNat<=(90:UInt8).toNat)):=rfl
abbrev AH:Nat:=47
section
variable {s : ByteArray} {k0 kv i : Nat} {r : Rs} {H : Ak} {nx : Nat}
theorem Rm {k:Nat} {a b c:T} (h:Aj H k=some (.cells AH [.t a,.t b,.t c])):AD true 3 H (.ptr k 0)=some (.t (.ag [a,b,c])):=by
 simp only[AD,h];rfl
theorem aE {k:Nat} {x y z:PV} {p:PV} {u v w:PV} (h:Aj H k=some (.cells AH [x,y,z])) (hp:Bq p=some [u,v,w]):AO 3 H (.ptr k 0) p=some (Xd H k (.cells AH [u,v,w])):=
 BF (ns:=[u,v,w]) h hp rfl (by show 0+3<=3;omega)
theorem xU {k:Nat} {x y z u:PV} (h:Aj H k=some (.cells AH [x,y,z])) (hu:Bq u=some [u]):AO 1 H (.ptr k 0) u=some (Xd H k (.cells AH [u,y,z])):=
 BF (ns:=[u]) h hu rfl (by show 0+1<=3;omega)
theorem xV {k:Nat} {x y z u:PV} (h:Aj H k=some (.cells AH [x,y,z])) (hu:Bq u=some [u]):AO 1 H (.ptr k 2) u=some (Xd H k (.cells AH [x,y,u])):=
 BF (ns:=[u]) h hu rfl (by show 2+1<=3;omega)
theorem aF {k:Nat} {x y z:PV} (h:Aj H k=some (.cells AH [x,y,z])):AD false 1 H (.ptr k 2)=some z:=by
 simp only[AD,h];rfl
theorem xW {k:Nat} {a b c:PV} (h:Aj H k=some (.cells AH [a,b,c])):AD true 3 H (.ptr k 0)=some (BI [a,b,c]):=by
 simp only[AD,h];rfl
theorem xX (w:ByteArray) (l:Int) (ka:Nat) (out:List Ag):Bq (BI [.t (sv w),.t (iv l),Ax eAg ka out])=some [.t (sv w),.t (iv l),Ax eAg ka out]:=by
 cases out<;>rfl
theorem xY {k:Nat} {a b:T} (h:Aj H k=some (.cells tyA [.t a,.t b])):AD true 2 H (.ptr k 0)=some (.t (.ag [a,b])):=by
 simp only[AD,h];rfl
theorem xZ {k:Nat} {x y u:PV} (h:Aj H k=some (.cells tyA [x,y])) (hu:Bq u=some [u]):AO 1 H (.ptr k 1) u=some (Xd H k (.cells tyA [x,u])):=
 BF (ns:=[u]) h hu rfl (by show 1+1<=2;omega)
theorem y5 (Φ:AP) (H:Ak) (nx:Nat) (w:ByteArray):A0 Φ H nx (.build [(0,1),(1,1)] [.string ⟨#[]⟩,.int .i64 0] [0]) [.t (sv w)]=some (.t (.ag [sv w,iv 0]),H,nx):=rfl
theorem Rn (k:Nat) (w:ByteArray) (v:Int):BB tyA 2 [.string ⟨#[]⟩,.int .i64 0] 1 [(0,.t (.ag [sv w,iv v]))] k=some (.row k 0 1 2,.cells tyA [.t (sv w),.t (iv v)]):=rfl
theorem y6 (ka:Nat) (out:List Ag):Bq (Ax eAg ka out)=some [Ax eAg ka out]:=by
 cases out<;>rfl
theorem RdS.mono (h:RdS s k0 kv i r H nx) {nx':Nat} (hn:nx<=nx'):RdS s k0 kv i r H nx':=⟨h.o,h.v,h.rest,h.hi,Yo h.l0 hn,Yo h.lv hn,h.ne⟩
theorem Acc.mono {kv0 nx0:Nat} {H0:Ak} (A:Acc k0 kv0 H0 nx0 kv H nx) {nx':Nat} (hn:nx<=nx'):Acc k0 kv0 H0 nx0 kv H nx':=⟨A.v,A.k,Xf A.n hn,λh=>(A.fr h).mono hn⟩
theorem RdS.frz (h:RdS s k0 kv i r H nx) {F:List Nat} (h0:k0∉F) (hv:kv∉F):RdS s k0 kv i r (Cg H F) nx:=by
 refine⟨?_,h.v.frz hv,h.rest,h.hi,h.l0,h.lv,h.ne⟩;rw[BQ h0 h.o];show some (Row.cells ZY [.t (sv s),.t (iv (i:Int)),.t (iv r.e),BO H F (Ax eVr kv r.seen)])=_;rw[Gb h.v hv];rfl
structure PnC where
 H:Ak
 kv:Nat
 i:Nat
 nx:Nat
 r:Rs
 ka:Nat
 out:List Ag
 m:Nat
def SPn (k0 nx na:Nat) (c:PnC):Am:=⟨[(3,.ptr na 0),(2,.ptr nx 0),(0,.ptr k0 0)],c.H,c.nx,52⟩
structure PnI (s:ByteArray) (k0 kv:Nat) (H:Ak) (nx na:Nat) (w:ByteArray) (l:Int) (c:PnC):Prop where
 S:RdS s k0 c.kv c.i c.r c.H c.nx
 A:Acc k0 kv H nx c.kv c.H c.nx
 p2:Aj c.H nx=some (.cells AH [.t (sv ⟨#[]⟩),.t (iv 0),.t Au])
 p3:Aj c.H na=some (.cells AH [.t (sv w),.t (iv l),Ax eAg c.ka c.out])
 ro:AK eAg tyA c.H c.ka c.out
 v2:c.kv≠nx
 v3:c.kv≠na
 a1:na<c.ka
 a2:c.ka≠c.kv
 a3:c.ka<c.nx
theorem y7 (S0:RdS s k0 kv i r H nx) (hs:s.size<=1000000000) (hmu:muR r<=1000000000) {n:Nat} (hn:r.rest.length<n) (hn2:n<=1000000000) :
  ∃f:Fin,xQ s k0 kv (Bl n r) H nx f/\B3 Xc (G q) 89 [.ptr k0 0] H nx f.r f.H f.nx:=by
 obtain⟨O,hO⟩:∃O,O=Bl n r:=⟨_,rfl⟩
 rw[<-hO];have l0:=S0.l0;have lv:=S0.lv;refine oY.callX rfl ?_;(conv in Vc=>cbv);refine A3 An ?_;simp -implicitDefEqProofs;have S1:=S0.cons (.cells AH [.t (sv ⟨#[]⟩),.t (iv 0),.t Au]);have A1:=(Acc.refl (k0:=k0) (kv:=kv) (H:=H) (nx:=nx)).cons (.cells AH [.t (sv ⟨#[]⟩),.t (iv 0),.t Au])
 obtain⟨H1,hH1⟩:∃H1:Ak,H1=(nx,.cells AH [.t (sv ⟨#[]⟩),.t (iv 0),.t Au])::H:=⟨_,rfl⟩
 rw[<-hH1]at S1 A1
 have p2:Aj H1 nx=some (.cells AH [.t (sv ⟨#[]⟩),.t (iv 0),.t Au]):=by rw[hH1,A9,zu rfl]
 obtain⟨Ha,kva,ia,na,ta,⟨Sa,Aa,ka,va,nna⟩,ta1,ta2⟩:=K9 (q:=q) S1 A1 hs hmu;have mua:=ET r;rw[hH1]at ta1
 have pa2:Aj Ha nx=some (.cells AH [.t (sv ⟨#[]⟩),.t (iv 0),.t Au]):=by rw[ka nx (by omega) (by omega) (by omega)];exact p2
 obtain⟨l,hl⟩:∃l,l=(AW r).2:=⟨_,rfl⟩
 rw[<-hl]at ta1
 obtain⟨r1,hr1⟩:∃r1,r1=(AW r).1:=⟨_,rfl⟩
 rw[<-hr1]at Sa mua;have S2:=Sa.cons (.cells AH [.t (sv ⟨#[]⟩),.t (iv l),.t Au]);have A2:=Aa.cons (.cells AH [.t (sv ⟨#[]⟩),.t (iv l),.t Au])
 obtain⟨Hb,hHb⟩:∃Hb:Ak,Hb=(na,.cells AH [.t (sv ⟨#[]⟩),.t (iv l),.t Au])::Ha:=⟨_,rfl⟩
 rw[<-hHb]at S2 A2
 have pb2:Aj Hb nx=some (.cells AH [.t (sv ⟨#[]⟩),.t (iv 0),.t Au]):=by rw[hHb,A9,zw (by omega)];exact pa2
 have pb3:Aj Hb na=some (.cells AH [.t (sv ⟨#[]⟩),.t (iv l),.t Au]):=by rw[hHb,A9,zu rfl]
 have u1:∀a b c,AO 3 ((na,.cells AH [a,b,c])::Ha) (.ptr na 0) (.t (.ag [sv ⟨#[]⟩,iv l,Au]))=some ((na,.cells AH [.t (sv ⟨#[]⟩),.t (iv l),.t Au])::Ha):=λa b c=>st3 na a b c _ _ _ AH Ha rfl;rw[<-hHb]at u1;have CA:Ctx Xc (G q) _:=AB.nil.ctxH (AG.cons ta2 .nil) mixed;refine A3 CA ?_;simp -implicitDefEqProofs [ta1,xR,u1,-BU];refine B4 (s':=⟨[(3,.ptr na 0),(2,.ptr nx 0),(0,.ptr k0 0)],Hb,na+1,52⟩) (by rw[hHb];exact Aw (by simp -implicitDefEqProofs)) rfl ?_
 have vka:kva≠nx/\kva≠na/\kva≠k0:=⟨by omega,by have:=Sa.lv;omega,Sa.ne⟩
 obtain⟨Hc,ic,tb,⟨Sc,Ac,kc,_,_⟩,tb1,tb2⟩:=FF (q:=q) S2 A2 (t:=⟨#[58]⟩) (by decide) hs;have muc:=CI (wb ⟨#[58]⟩) r1
 obtain⟨r2,hr2⟩:∃r2,r2=AC (wb ⟨#[58]⟩) r1:=⟨_,rfl⟩
 rw[<-hr2]at Sc muc
 have pc2:Aj Hc nx=some (.cells AH [.t (sv ⟨#[]⟩),.t (iv 0),.t Au]):=by rw[kc nx (by omega) (by omega) (by omega)];exact pb2
 have pc3:Aj Hc na=some (.cells AH [.t (sv ⟨#[]⟩),.t (iv l),.t Au]):=by rw[kc na (by omega) (by omega) (by omega)];exact pb3
 have CB:Ctx Xc (G q) _:=AB.nil.ctxH (AG.cons tb2 .nil) mixed;refine A3 CB ?_;simp -implicitDefEqProofs [tb1];obtain⟨Hd,id',tc,⟨Sd,Ad,kd,_,_⟩,tc1,tc2⟩:=aA (q:=q) Sc Ac (big:=false) (lo:=97) (hi:=122) xS hs;rw[show u8c 97 = .t (.v (.int .u8 97))from rfl,show u8c 122 = .t (.v (.int .u8 122))from rfl]at tc1;have mud:=KA false r2
 obtain⟨r3,hr3⟩:∃r3,r3=(Bt false r2).1:=⟨_,rfl⟩
 obtain⟨w,hw⟩:∃w,w=(Bt false r2).2:=⟨_,rfl⟩
 rw[<-hr3]at Sd mud;rw[<-hw]at tc1
 have pd2:Aj Hd nx=some (.cells AH [.t (sv ⟨#[]⟩),.t (iv 0),.t Au]):=by rw[kd nx (by omega) (by omega) (by omega)];exact pc2
 have pd3:Aj Hd na=some (.cells AH [.t (sv ⟨#[]⟩),.t (iv l),.t Au]):=by rw[kd na (by omega) (by omega) (by omega)];exact pc3
 have sd:=xU pd3 (u:=.t (sv w)) rfl;have Se:=Sd.upd (b:=na) (by omega) vka.2.1 (.cells AH [.t (sv w),.t (iv l),.t Au]);have Ae:=Ad.upd (b:=na) (by omega) (.cells AH [.t (sv w),.t (iv l),.t Au])
 obtain⟨He,hHe⟩:∃He,He=Xd Hd na (.cells AH [.t (sv w),.t (iv l),.t Au]):=⟨_,rfl⟩
 rw[<-hHe]at sd Se Ae
 have pe2:Aj He nx=some (.cells AH [.t (sv ⟨#[]⟩),.t (iv 0),.t Au]):=by rw[hHe,A7,zw (by omega)];exact pd2
 have pe3:Aj He na=some (.cells AH [.t (sv w),.t (iv l),.t Au]):=by rw[hHe,A7,zu rfl,pd3];rfl
 have CC:Ctx Xc (G q) _:=AB.nil.ctxH (AG.cons tc2 .nil) mixed;refine A3 CC ?_;simp -implicitDefEqProofs [tc1,sd];obtain⟨Hf,jf,td,⟨Sf,Af,kf,_,_⟩,td1,td2⟩:=FF (q:=q) Se Ae (t:=⟨#[40]⟩) (by decide) hs;have muf:=CI (wb ⟨#[40]⟩) r3
 obtain⟨r4,hr4⟩:∃r4,r4=AC (wb ⟨#[40]⟩) r3:=⟨_,rfl⟩
 rw[<-hr4]at Sf muf
 have hhead:Ci r=(r4,l,w):=by rw[hr4,hr3,hw,hr2,hr1,hl];rfl
 have pf2:Aj Hf nx=some (.cells AH [.t (sv ⟨#[]⟩),.t (iv 0),.t Au]):=by rw[kf nx (by omega) (by omega) (by omega)];exact pe2
 have pf3:Aj Hf na=some (.cells AH [.t (sv w),.t (iv l),.t Au]):=by rw[kf na (by omega) (by omega) (by omega)];exact pe3
 have CD:Ctx Xc (G q) _:=AB.nil.ctxH (AG.cons td2 .nil) mixed;refine A3 CD ?_;simp -implicitDefEqProofs [td1];refine B4 (s':=⟨[(3,.ptr na 0),(2,.ptr nx 0),(0,.ptr k0 0)],Hf,na+1,52⟩) (Aw (by simp -implicitDefEqProofs)) rfl ?_;obtain⟨te,te1,te2⟩:=Ix (q:=q) Sf 41;rw[show u8c 41 = .t (.v (.int .u8 41))from rfl]at te1;have CE:Ctx Xc (G q) _:=AB.nil.ctxH (AG.cons te2 .nil) mixed;unfold Bl at hO;rw[hhead]at hO;simp only at hO
 have mur4:muR r4<=1000000000:=by omega
 cases hf4:AR 41 r4 with
 | true=>
  rw[hf4]at hO te1;rw[zu rfl]at hO;obtain⟨he4,Q,hQ⟩:=Jk hf4
  have hjs:jf<s.size:=by
   have h1:¬s.size<=jf:=λe=>by rw[Sf.nil.2 e]at hQ;cases hQ
   omega
  have Lf:=ldR Sf.o;have w1:Xk.wrap ((jf:Int)+1)=((jf+1:Nat):Int):=Bb (by omega) (by omega);have Sg:=Sf.step (j:=jf+1) (e':=r4.e) (by omega);have sg:=Mp Sf.o (jf+1)
  have Ag:Acc k0 kv H nx kva (Xd Hf k0 (Dy s (jf+1) r4.e (Ax eVr kva r4.seen))) (na+1):=
   ⟨Af.v,λc h1 h2 h3=>by rw[A7,zw h2];exact Af.k c h1 h2 h3,Af.n,λh=>(Af.fr h).upd⟩
  obtain⟨Hg,hHg⟩:∃Hg,Hg=Xd Hf k0 (Dy s (jf+1) r4.e (Ax eVr kva r4.seen)):=⟨_,rfl⟩
  rw[<-hHg]at Sg sg Ag;rw[show((jf+1:Nat):Int)=(jf:Int)+1 from rfl]at sg w1
  have pg2:Aj Hg nx=some (.cells AH [.t (sv ⟨#[]⟩),.t (iv 0),.t Au]):=by rw[hHg,A7,zw (by omega)];exact pf2
  have pg3:Aj Hg na=some (.cells AH [.t (sv w),.t (iv l),.t Au]):=by rw[hHg,A7,zw (by omega)];exact pf3
  have al:=Rm pg3;have sh:=aE pg2 (p:=.t (.ag [sv w,iv l,Au])) (u:=.t (sv w)) (v:=.t (iv l)) (w:=.t Au) rfl;have Sh:=Sg.upd (b:=nx) (by omega) (by omega) (.cells AH [.t (sv w),.t (iv l),.t Au]);have Ah:=Ag.upd (b:=nx) (Xe _) (.cells AH [.t (sv w),.t (iv l),.t Au])
  obtain⟨Hh,hHh⟩:∃Hh,Hh=Xd Hg nx (.cells AH [.t (sv w),.t (iv l),.t Au]):=⟨_,rfl⟩
  rw[<-hHh]at sh Sh Ah
  have ph2:Aj Hh nx=some (.cells AH [.t (sv w),.t (iv l),.t Au]):=by rw[hHh,A7,zu rfl,pg2];rfl
  have al2:=Rm ph2;refine A3 CE ?_;simp -implicitDefEqProofs [te1,Lf.l1,w1,sg,al,sh];refine Bp ⟨.t (.ag [sv w,iv l,Au]),Hh,na+1⟩ ⟨by rw[hO];rfl,⟨kva,jf+1,?_,Ah.v⟩,λc x h1 h2 h3 h4 _=>(Ah.k c h1 h2 h3).trans h4,Ah.n,Ah.fr⟩ (by simp -implicitDefEqProofs [al2]);rw[hO];show RdS s k0 kva (jf+1) (EB r4) Hh (na+1);unfold EB;rw[Sf.rest,X5];exact Sh
 | false=>
 rw[hf4]at hO te1;rw[zw (by decide)]at hO;refine A3 CE ?_;simp -implicitDefEqProofs [te1];refine B4 (s':=⟨[(3,.ptr na 0),(2,.ptr nx 0),(0,.ptr k0 0)],Hf,na+1+1,52⟩) ((EN (nx':=na+1+1) (Xh _)).trans (Aw (by simp -implicitDefEqProofs))) rfl ?_
 obtain⟨Z,hZ⟩:∃Z,Z=Cz n r4 []:=⟨_,rfl⟩
 rw[<-hZ]at hO
 have hl4:r4.rest.length<n:=by
  have:=LX r;rw[hhead]at this;simp only at this;omega
 refine Cp (SPn k0 nx na) (λc=>Z=(c.r,c.out)/\PnI s k0 kv H nx na w l c) (λ_=>rfl) ?_ ?_
 .refine BA ?_
  refine DH (SPn k0 nx na) (λc=>c.m) (λc=>Z=Cz c.m c.r c.out/\c.r.rest.length<c.m/\c.out.length+c.m<=n/\muR c.r<=1000000000/\PnI s k0 kv H nx na w l c) ⟨Hf,kva,jf,na+1+1,r4,na+1,[],n⟩ (λ_=>rfl)
   ⟨hZ,hl4,by simp,mur4,⟨Sf.mono (Xh _),Af.mono (Xh _),pf2,pf3,.inl rfl,vka.1,vka.2.1,Xg _,by have:=Sf.lv;show na+1≠kva;omega,Xg _⟩⟩ ?_ rfl ?_
  .exact Aw (by simp -implicitDefEqProofs [SPn])
  rintro⟨Ha,kw,j,ny,ra,ka,out,m⟩ ⟨hZm,hrm,hom,hmr,⟨S,A,q2,q3,ro,v2,v3,a1,a2,a3⟩⟩;simp only at hZm hrm hom hmr S A q2 q3 ro v2 v3 a1 a2 a3;have L:=ldR S.o
  obtain⟨m,rfl⟩:∃m',m=m'+1:=⟨m-1,by omega⟩
  rw[Cz]at hZm;by_cases he:ra.e=0
  rotate_left
  .have hb:(ra.e==0)=false:=by rw[zp];exact he
   rw[zw he]at hZm;refine A3 An ?_;simp -implicitDefEqProofs [SPn,L.l2,hb];exact A4.mk ⟨Ha,kw,j,ny,ra,ka,out,0⟩ ⟨hZm,⟨S,A,q2,q3,ro,v2,v3,a1,a2,a3⟩⟩ (Aw (by simp -implicitDefEqProofs))
  have hb:(ra.e==0)=true:=by rw[he];rfl
  rw[zu he]at hZm;refine A3 An ?_;simp -implicitDefEqProofs [SPn,L.l2,hb];refine BA ?_;obtain⟨Hb,ib,tb,⟨Sb,Ab,kb,_,_⟩,tb1,tb2⟩:=aA (q:=q) S A (big:=true) (lo:=65) (hi:=90) xT hs;rw[show u8c 65 = .t (.v (.int .u8 65))from rfl,show u8c 90 = .t (.v (.int .u8 90))from rfl]at tb1;have mub:=KA true ra
  obtain⟨rb,hrb⟩:∃rb,rb=(Bt true ra).1:=⟨_,rfl⟩
  obtain⟨wo,hwo⟩:∃wo,wo=(Bt true ra).2:=⟨_,rfl⟩
  rw[<-hrb]at Sb mub;rw[<-hwo]at tb1
  have b2:Aj Hb nx=some (.cells AH [.t (sv ⟨#[]⟩),.t (iv 0),.t Au]):=by rw[kb nx (by omega) (by omega) (by omega)];exact q2
  have b3:Aj Hb na=some (.cells AH [.t (sv w),.t (iv l),Ax eAg ka out]):=by rw[kb na (by omega) (by omega) (by omega)];exact q3
  have bo:AK eAg tyA Hb ka out:=ro.imp id λe=>by rw[kb ka a3 (by omega) a2];exact e
  have S1:=Sb.cons (.cells tyA [.t (sv wo),.t (iv 0)]);have A1:=Ab.cons (.cells tyA [.t (sv wo),.t (iv 0)]);have u1:∀a b,AO 2 ((ny,.cells tyA [a,b])::Hb) (.ptr ny 0) (.t (.ag [sv wo,iv 0]))=some ((ny,.cells tyA [.t (sv wo),.t (iv 0)])::Hb):=λa b=>st2 ny a b _ _ tyA Hb
  obtain⟨H1,hH1⟩:∃H1:Ak,H1=(ny,.cells tyA [.t (sv wo),.t (iv 0)])::Hb:=⟨_,rfl⟩
  rw[<-hH1]at S1 A1 u1
  have k1:∀c,c<ny->Aj H1 c=Aj Hb c:=λc h=>by rw[hH1,A9,zw (by omega)]
  have c4:Aj H1 ny=some (.cells tyA [.t (sv wo),.t (iv 0)]):=by rw[hH1,A9,zu rfl]
  have C1:Ctx Xc (G q) _:=AB.nil.ctxH (AG.cons tb2 .nil) mixed;refine A3 C1 ?_;simp -implicitDefEqProofs [tb1,y5,u1,-BU];refine B4 (s':=⟨[(4,.ptr ny 0),(3,.ptr na 0),(2,.ptr nx 0),(0,.ptr k0 0)],H1,ny+1,52⟩) (by rw[hH1];exact Aw (by simp -implicitDefEqProofs)) rfl ?_;obtain⟨Hc,ic,tc,⟨Sc,Ac,kc,_,_⟩,tc1,tc2⟩:=FF (q:=q) S1 A1 (t:=⟨#[32]⟩) (by decide) hs;have muc:=CI (wb ⟨#[32]⟩) rb
  obtain⟨rc,hrc⟩:∃rc,rc=AC (wb ⟨#[32]⟩) rb:=⟨_,rfl⟩
  rw[<-hrc]at Sc muc;have lvb:=Sb.lv;have C2:Ctx Xc (G q) _:=AB.nil.ctxH (AG.cons tc2 .nil) mixed;refine A3 C2 ?_;simp -implicitDefEqProofs [tc1];obtain⟨Hd,kx,id',nd,td,⟨Sd,Ad,kd,vd,nnd⟩,td1,td2⟩:=K9 (q:=q) Sc Ac hs (by omega);have mud:=ET rc
  obtain⟨rd,hrd⟩:∃rd,rd=(AW rc).1:=⟨_,rfl⟩
  obtain⟨v,hv⟩:∃v,v=(AW rc).2:=⟨_,rfl⟩
  rw[<-hrd]at Sd mud;rw[<-hv]at td1
  have hargr:Db ra=(rd,⟨wo,v⟩):=by rw[hrd,hv,hwo,hrc,hrb];rfl
  rw[hargr]at hZm;simp only at hZm
  have kcd:∀c,c<ny+1->c≠k0->c≠kw->Aj Hd c=Aj H1 c:=λc h1 h2 h3=>by rw[kd c h1 h2 h3,kc c h1 h2 h3]
  have d2:Aj Hd nx=some (.cells AH [.t (sv ⟨#[]⟩),.t (iv 0),.t Au]):=by rw[kcd nx (by omega) (by omega) (by omega),k1 nx (by omega)];exact b2
  have d3:Aj Hd na=some (.cells AH [.t (sv w),.t (iv l),Ax eAg ka out]):=by rw[kcd na (by omega) (by omega) (by omega),k1 na (by omega)];exact b3
  have d4:Aj Hd ny=some (.cells tyA [.t (sv wo),.t (iv 0)]):=by rw[kcd ny (by omega) (by omega) (by omega)];exact c4
  have dO:AK eAg tyA Hd ka out:=bo.imp id λe=>by rw[kcd ka (by omega) (by omega) a2,k1 ka a3];exact e
  have sd4:=xZ d4 (u:=.t (iv v)) rfl
  have kxy:kx≠nx/\kx≠na/\kx≠ny/\kx≠ka:=by omega
  have Se:=Sd.upd (b:=ny) (by omega) kxy.2.2.1 (.cells tyA [.t (sv wo),.t (iv v)]);have Ae:=Ad.upd (b:=ny) (by omega) (.cells tyA [.t (sv wo),.t (iv v)])
  obtain⟨He,hHe⟩:∃He,He=Xd Hd ny (.cells tyA [.t (sv wo),.t (iv v)]):=⟨_,rfl⟩
  rw[<-hHe]at sd4 Se Ae
  have ke:∀c,c≠ny->Aj He c=Aj Hd c:=λc h=>by rw[hHe,A7,zw h]
  have e4:Aj He ny=some (.cells tyA [.t (sv wo),.t (iv v)]):=by rw[hHe,A7,zu rfl,d4];rfl
  have C3:Ctx Xc (G q) _:=AB.nil.ctxH (AG.cons td2 .nil) mixed;refine A3 C3 ?_;simp -implicitDefEqProofs [td1,sd4]
  have e3:Aj He na=some (.cells AH [.t (sv w),.t (iv l),Ax eAg ka out]):=by rw[ke na (by omega)];exact d3
  have le3:=aF e3;have le4:=xY e4
  have eO:AK eAg tyA He ka out:=dO.imp id λe=>by rw[ke ka (by omega)];exact e
  obtain⟨Hf',af,bf,cf,ff⟩:=LU (by':=24) (nx:=nd) (⟨wo,v⟩:Ag) 2 rfl [.t (sv wo),.t (iv v)] rfl eO (by omega) (by omega) (by omega)
  obtain⟨out',hout'⟩:∃out',out'=out++[(⟨wo,v⟩:Ag)]:=⟨_,rfl⟩
  rw[<-hout']at af bf hZm
  have f3:Aj Hf' na=some (.cells AH [.t (sv w),.t (iv l),Ax eAg ka out]):=by rw[cf na (by omega) (by omega)];exact e3
  have sf3:=xV f3 (u:=Ax eAg (nd+1) out') (y6 _ _)
  have Sf':RdS s k0 kx id' rd Hf' (nd+2):=⟨by rw[cf k0 Se.l0 (by omega)];exact Se.o,Se.v.imp id λe=>by rw[cf kx Se.lv kxy.2.2.2];exact e,Se.rest,Se.hi,by have:=Se.l0;omega,by have:=Se.lv;omega,Se.ne⟩
  have Af':Acc k0 kv H nx kx Hf' (nd+2):=⟨Ae.v,λc h1 h2 h3=>by rw[cf c (by omega) (by omega)];exact Ae.k c h1 h2 h3,by omega,λh=>ff (Ae.fr h)⟩
  have Sg:=Sf'.upd (b:=na) (by omega) kxy.2.1 (.cells AH [.t (sv w),.t (iv l),Ax eAg (nd+1) out']);have Ag':=Af'.upd (b:=na) (by omega) (.cells AH [.t (sv w),.t (iv l),Ax eAg (nd+1) out'])
  obtain⟨Hg,hHg⟩:∃Hg,Hg=Xd Hf' na (.cells AH [.t (sv w),.t (iv l),Ax eAg (nd+1) out']):=⟨_,rfl⟩
  rw[<-hHg]at sf3 Sg Ag'
  have g2:Aj Hg nx=some (.cells AH [.t (sv ⟨#[]⟩),.t (iv 0),.t Au]):=by rw[hHg,A7,zw (by omega),cf nx (by omega) (by omega),ke nx (by omega)];exact d2
  have g3:Aj Hg na=some (.cells AH [.t (sv w),.t (iv l),Ax eAg (nd+1) out']):=by rw[hHg,A7,zu rfl,f3];rfl
  have gO:AK eAg tyA Hg (nd+1) out':=bf.imp id λe=>by rw[hHg,A7,zw (by omega)];exact e
  refine A3 An ?_;simp -implicitDefEqProofs [le3,le4,Rn,af,sf3];refine B4 (s':=⟨[(3,.ptr na 0),(2,.ptr nx 0),(0,.ptr k0 0)],Hg,nd+2,52⟩) (Aw (by simp -implicitDefEqProofs)) rfl ?_;have lxd:=Sd.lv
  have I:∀H' i' r',Stp s k0 kv H nx kx r' Hg (nd+2) kx i' H' (nd+2)->PnI s k0 kv H nx na w l ⟨H',kx,i',nd+2,r',nd+1,out',m⟩:=λH' i' r' st=>
   ⟨st.s,st.a,by show Aj H' nx=_;rw[st.k nx (by omega) (by omega) kxy.1.symm];exact g2,by show Aj H' na=_;rw[st.k na (by omega) (by omega) kxy.2.1.symm];exact g3,
    gO.imp id λe=>by show Aj H' (nd+1)=_;rw[st.k (nd+1) (by omega) (by omega) (by omega)];exact e,kxy.1,kxy.2.1,by show na<nd+1;omega,by show nd+1≠kx;omega,Xg _⟩
  obtain⟨te,te1,te2⟩:=Ix (q:=q) Sg 44;rw[show u8c 44 = .t (.v (.int .u8 44))from rfl]at te1;have hlr:=LW ra;rw[hargr]at hlr;simp only at hlr
  cases hf5:AR 44 rd with
  | false=>
   rw[hf5]at hZm te1;rw[zw (by decide)]at hZm;have C5:Ctx Xc (G q) _:=AB.nil.ctxH (AG.cons te2 .nil) mixed;refine A3 C5 ?_;simp -implicitDefEqProofs [te1];exact A4.mk ⟨Hg,kx,id',nd+2,rd,nd+1,out',m⟩ ⟨hZm,I Hg id' rd ⟨Sg,Ag',λ_ _ _ _=>rfl,.inl rfl,Xe _⟩⟩ (Aw (by simp -implicitDefEqProofs [SPn]))
  | true=>
   rw[hf5]at hZm te1;rw[zu rfl]at hZm;have C5:Ctx Xc (G q) _:=AB.nil.ctxH (AG.cons te2 .nil) mixed;obtain⟨Hh,ih,th,Sth,th1,th2⟩:=FF (q:=q) Sg Ag' (t:=⟨#[44,32]⟩) (by decide) hs;have muh:=CI (wb ⟨#[44,32]⟩) rd;have hlh:=Gf hf5 [32];have C6:Ctx Xc (G q) _:=AB.nil.ctxH (AG.cons th2 .nil) mixed;refine A3 C5 ?_;simp -implicitDefEqProofs [te1];refine AV C6 ?_;simp -implicitDefEqProofs [th1];refine A4.mk ⟨Hh,kx,ih,nd+2,AC (wb ⟨#[44,32]⟩) rd,nd+1,out',m⟩ ⟨⟨hZm,?_,?_,?_,I Hh ih _ Sth⟩,Xg m⟩ (Aw (by simp -implicitDefEqProofs [SPn]))
   .show(AC [44,32] rd).rest.length<m;omega
   .show out'.length+m<=n;rw[hout',Xn,Xx];omega
   .show muR (AC (wb ⟨#[44,32]⟩) rd)<=1000000000;omega
 rintro⟨Hx,kw,j,ny,rx,ka,out,_⟩ ⟨hZx,⟨S,A,q2,q3,ro,v2,v3,a1,a2,a3⟩⟩;simp only at hZx S A q2 q3 ro v2 v3 a1 a2 a3;rw[hZx]at hO;simp only at hO;obtain⟨Hy,jy,ty,⟨Sy,Ay,ky,_,_⟩,ty1,ty2⟩:=FF (q:=q) S A (t:=⟨#[41]⟩) (by decide) hs
 have py2:Aj Hy nx=some (.cells AH [.t (sv ⟨#[]⟩),.t (iv 0),.t Au]):=by rw[ky nx (by omega) (by omega) (by omega)];exact q2
 have py3:Aj Hy na=some (.cells AH [.t (sv w),.t (iv l),Ax eAg ka out]):=by rw[ky na (by omega) (by omega) (by omega)];exact q3
 have ry:AK eAg tyA Hy ka out:=ro.imp id λe=>by rw[ky ka a3 (by omega) a2];exact e
 have all:=xW py3;have cse:=xX w l ka out
 obtain⟨ge,hge⟩:∃g,g=BI [.t (sv w),.t (iv l),Ax eAg ka out]:=⟨_,rfl⟩
 rw[<-hge]at all cse;have sz:=aE py2 (p:=ge) cse;have Sz:=Sy.upd (b:=nx) (by omega) v2 (.cells AH [.t (sv w),.t (iv l),Ax eAg ka out]);have Az:=Ay.upd (b:=nx) (Xe _) (.cells AH [.t (sv w),.t (iv l),Ax eAg ka out])
 obtain⟨Hz,hHz⟩:∃Hz,Hz=Xd Hy nx (.cells AH [.t (sv w),.t (iv l),Ax eAg ka out]):=⟨_,rfl⟩
 rw[<-hHz]at sz Sz Az
 have pz2:Aj Hz nx=some (.cells AH [.t (sv w),.t (iv l),Ax eAg ka out]):=by rw[hHz,A7,zu rfl,py2];rfl
 have rz:AK eAg tyA Hz ka out:=ry.imp id λe=>by rw[hHz,A7,zw (by omega)];exact e
 have CY:Ctx Xc (G q) _:=AB.nil.ctxH (AG.cons ty2 .nil) mixed;refine A3 CY ?_;simp -implicitDefEqProofs [SPn,ty1];refine A3 CY ?_;simp -implicitDefEqProofs [all,sz]
 obtain⟨Hw,hHw⟩:∃Hw,Hw=Cg Hz [ka]:=⟨_,rfl⟩
 refine B4 (s':=⟨[(2,.ptr nx 0)],Hw,ny,52⟩) (by rw[hHw];exact F8 [ka] (by simp -implicitDefEqProofs [FA])) rfl ?_;have Sw:=Sz.frz (F:=[ka]) (by simp;omega) (by simp;omega)
 have pw2:Aj Hw nx=some (.cells AH [.t (sv w),.t (iv l),.t (Ba eAg out)]):=by
  rw[hHw,BQ (by simp;omega) pz2];show some (Row.cells AH [.t (sv w),.t (iv l),BO Hz [ka] (Ax eAg ka out)])=_;rw[Fh rz (by simp)]
 have al2:=Rm pw2;rw[<-hHw]at Sw;refine AV CY ?_;simp -implicitDefEqProofs;refine Bp ⟨.t (.ag [sv w,iv l,Ba eAg out]),Hw,ny⟩ ⟨by rw[hO];rfl,⟨kw,jy,by rw[hO];exact Sw,Az.v⟩,λc x h1 h2 h3 h4 h5=>?_,Az.n,λh=>by show Frs Hw ny;rw[hHw];exact Frs.frz (Az.fr h) [ka]⟩ (by simp -implicitDefEqProofs [al2]);show Aj Hw c=some x;rw[hHw,BQ (by simp;omega) ((Az.k c h1 h2 h3).trans h4),h5.frz (F:=[ka]) (by simp;omega)]
end
theorem aG (r:Rs):muR (Db r).1<=muR r:=Xf (ET _) (Xf (CI _ _) (KA _ _))
theorem aH:∀(n:Nat) (r:Rs) (out:List Ag),muR (Cz n r out).1<=muR r
 | 0,r,out=>Xe _
 | n+1,r,out=>by
  rw[Cz];split
  .split
   .exact Xf (aH n _ _) (Xf (CI _ _) (aG r))
   .exact aG r
  .exact Xe _
theorem aI (r:Rs):muR (Ci r).1<=muR r:=Xf (CI _ _) (Xf (KA _ _) (Xf (CI _ _) (ET _)))
theorem O4 (n:Nat) (r:Rs):muR (Bl n r).1<=muR r:=by
 unfold Bl;split
 .exact Xf (xC _) (aI r)
 .exact Xf (CI _ _) (Xf (aH _ _ _) (aI r))
theorem DU.mono {n m:Nat} {x:Row} (h:DU n x) (hm:n<=m):DU m x:=by
 obtain⟨ty,cs,rfl,hc⟩:=h;exact⟨ty,cs,rfl,λp hp=>(hc p hp).imp id λ⟨b,o,k,z,e,hb⟩=>⟨b,o,k,z,e,by omega⟩⟩
theorem Ro {α:Type} (e:Enc α) (ty:Nat) (l:List α) (n:Nat):DU n (A5 e ty l):=⟨ty,_,rfl,λp hp=>by
 obtain⟨t,_,rfl⟩:=X2.1 hp
 exact .inl ⟨t,rfl⟩⟩
theorem Rp {α:Type} (e:Enc α) (b:Nat) (l:List α) {n:Nat} (h:b<n):(∃t,Ax e b l = .t t)\/∃b' o m z,Ax e b l = .row b' o m z/\b'<n:=by
 cases l with
 | nil=>exact .inl ⟨_,rfl⟩
 | cons x r=>exact .inr ⟨_,_,_,_,rfl,h⟩
abbrev Ct:Nat:=26
abbrev B0:Nat:=52
def mRw (a b:Int) (d e:PV):Row:=.cells Ct [.t (iv a),.t (iv b),.t Au,d,e]
theorem aJ {a b:Int} {d e:PV} {n:Nat} (hd:(∃t,d = .t t)\/∃b' o m z,d = .row b' o m z/\b'<n) (he:(∃t,e = .t t)\/∃b' o m z,e = .row b' o m z/\b'<n):DU n (mRw a b d e):=⟨_,_,rfl,λp hp=>by
 simp only[Xm,Yp,or_false]at hp;rcases hp with rfl | rfl | rfl | rfl | rfl
 .exact .inl ⟨_,rfl⟩
 .exact .inl ⟨_,rfl⟩
 .exact .inl ⟨_,rfl⟩
 .exact hd
 .exact he⟩
structure Dd (k0 kv0:Nat) (H0:Ak) (nx0:Nat) (kv:Nat) (H:Ak) (nx:Nat):Prop where
 v:kv=kv0\/nx0<=kv
 k:∀c x,c<nx0->c≠k0->c≠kv0->Aj H0 c=some x->DU nx0 x->Aj H c=some x
 n:nx0<=nx
 fr:Frs H0 nx0->Frs H nx
section
variable {s : ByteArray} {k0 kv0 kv i : Nat} {r : Rs} {H0 H : Ak} {nx0 nx : Nat}
theorem Dd.refl:Dd k0 kv H nx kv H nx:=⟨.inl rfl,λ_ _ _ _ _ h _=>h,Xe _,λh=>h⟩
theorem Dd.step (A:Dd k0 kv0 H0 nx0 kv H nx) {kv' nx':Nat} {H':Ak} (a:Acc k0 kv H nx kv' H' nx'):Dd k0 kv0 H0 nx0 kv' H' nx':=by
 have n1:=A.n;have v1:=A.v;have v2:=a.v;have n2:=a.n;refine⟨by omega,λc x hc h0 hcv hx hr=>?_,by omega,λh=>a.fr (A.fr h)⟩;rw[a.k c (by omega) h0 (by omega)];exact A.k c x hc h0 hcv hx hr
theorem Dd.stepQ (A:Dd k0 kv0 H0 nx0 kv H nx) {kv' nx':Nat} {H':Ak} (a:Dd k0 kv H nx kv' H' nx'):Dd k0 kv0 H0 nx0 kv' H' nx':=by
 have n1:=A.n;have v1:=A.v;have v2:=a.v;have n2:=a.n;exact⟨by omega,λc x hc h0 hcv hx hr=>a.k c x (by omega) h0 (by omega) (A.k c x hc h0 hcv hx hr) (hr.mono n1),by omega,λh=>a.fr (A.fr h)⟩
theorem Dd.cons (A:Dd k0 kv0 H0 nx0 kv H nx) (x:Row):Dd k0 kv0 H0 nx0 kv ((nx,x)::H) (nx+1):=A.step (Acc.refl.cons x)
theorem Dd.upd (A:Dd k0 kv0 H0 nx0 kv H nx) {b:Nat} (hb:nx0<=b) (x:Row):Dd k0 kv0 H0 nx0 kv (Xd H b x) nx:=
 ⟨A.v,λc y hc h0 hcv hy hr=>by rw[A7,zw (by omega)];exact A.k c y hc h0 hcv hy hr,A.n,λh=>(A.fr h).upd⟩
theorem Dd.mono (A:Dd k0 kv0 H0 nx0 kv H nx) {nx':Nat} (hn:nx<=nx'):Dd k0 kv0 H0 nx0 kv H nx':=⟨A.v,A.k,Xf A.n hn,λh=>(A.fr h).mono hn⟩
structure y8 (s:ByteArray) (k0 kv:Nat) (o:Rs×Mr) (H:Ak) (nx:Nat) (f:Fin):Prop where
 r:f.r = .t (.ag (Bm o.2))
 ex:∃kv' i',RdS s k0 kv' i' o.1 f.H f.nx/\Dd k0 kv H nx kv' f.H f.nx
theorem y9 (S:RdS s k0 kv i r H nx) (hs:s.size<=1000000000) (hmu:muR r<=1000000000) {n:Nat} (hn:r.rest.length<n) (hn2:n<=1000000000) :
  ∃H' kv' i' nx' tb,RdS s k0 kv' i' (Bl n r).1 H' nx'/\Dd k0 kv H nx kv' H' nx'/\tb [.ptr k0 0] H nx=some (.t (.ag (EC.of (Bl n r).2).cs),H',nx')/\HOK Xc (G q) 89 tb:=by
 obtain⟨⟨fr,fH,fn⟩,⟨hr,⟨kv',i',hS,hv⟩,hk,hn',hf⟩,hc⟩:=y7 (q:=q) S hs hmu hn hn2;simp only at hr hS hk hn' hf hc;subst hr;obtain⟨tb,t1,t2⟩:=hAt hc hf;exact⟨fH,kv',i',fn,tb,hS,⟨hv,hk,hn',hf⟩,t1,t2⟩
theorem Rq (S:RdS s k0 kv i r H nx):∃H' tb,RdS s k0 kv i (Be r) H' nx/\Acc k0 kv H nx kv H' nx/\tb [.ptr k0 0] H nx=some (.t (.tu []),H',nx)/\HOK Xc (G q) 90 tb:=by
 obtain⟨⟨fr,fH,fn⟩,⟨hr,hn,hS,hk,hf⟩,hc⟩:=K8 (q:=q) S;simp only at hr hn hS hk hf hc;subst hr hn;obtain⟨tb,t1,t2⟩:=hAt hc hf;exact⟨fH,tb,hS,⟨.inl rfl,λc _ h0 _=>hk c h0,Xe _,hf⟩,t1,t2⟩
theorem GL {k:Nat} {a b:Int} {d e:PV} (h:Aj H k=some (mRw a b d e)):AD false 1 H (.ptr k 3)=some d/\AD false 1 H (.ptr k 4)=some e/\AD true 5 H (.ptr k 0)=some (BI [.t (iv a),.t (iv b),.t Au,d,e]):=by
 unfold mRw at h;simp only[AD,h];exact⟨rfl,rfl,rfl⟩
theorem aK {k:Nat} {a b:Int} {d e:PV} (h:Aj H k=some (mRw a b d e)) (x:Int):AO 1 H (.ptr k 1) (.t (iv x))=some (Xd H k (mRw a x d e)):=
 BF (ns:=[.t (iv x)]) h rfl rfl (by show 1+1<=5;omega)
theorem aL {k:Nat} {a b:Int} {d e x:PV} (h:Aj H k=some (mRw a b d e)) (hx:Bq x=some [x]):AO 1 H (.ptr k 3) x=some (Xd H k (mRw a b x e)):=
 BF (ns:=[x]) h hx rfl (by show 3+1<=5;omega)
theorem aM {k:Nat} {a b:Int} {d e x:PV} (h:Aj H k=some (mRw a b d e)) (hx:Bq x=some [x]):AO 1 H (.ptr k 4) x=some (Xd H k (mRw a b d x)):=
 BF (ns:=[x]) h hx rfl (by show 4+1<=5;omega)
theorem aN {k:Nat} {a b a' b':Int} {d e d' e' p:PV} (h:Aj H k=some (mRw a b d e)) (hp:Bq p=some [.t (iv a'),.t (iv b'),.t Au,d',e']):AO 5 H (.ptr k 0) p=some (Xd H k (mRw a' b' d' e')):=
 BF (ns:=[.t (iv a'),.t (iv b'),.t Au,d',e']) h hp rfl (by show 0+5<=5;omega)
theorem O5 {α:Type} (e:Enc α) (b:Nat) (l:List α):Bq (Ax e b l)=some [Ax e b l]:=by
 cases l<;>rfl
theorem aO (a b:Int) (kr kc:Nat) (L:List EC) (C:List Qq):Bq (BI [.t (iv a),.t (iv b),.t Au,Ax eEC kr L,Ax eQq kc C])=some [.t (iv a),.t (iv b),.t Au,Ax eEC kr L,Ax eQq kc C]:=by
 cases L<;>cases C<;>rfl
theorem yA (Φ:AP) (H:Ak) (nx:Nat) (a:Int):A0 Φ H nx (.build [(0,1),(1,1),(2,1),(3,1),(4,1)] [.int .i64 0,.int .i64 0,.slice none 0 0,.slice none 0 0,.slice none 0 0] [0]) [.t (iv a)]=some (.t (.ag [iv a,iv 0,Au,Au,Au]),H,nx):=rfl
structure FmC where
 H:Ak
 kv:Nat
 i:Nat
 nx:Nat
 r:Rs
 kr:Nat
 rels:List Ep
 m:Nat
def SFm (k0 nx na:Nat) (c:FmC):Am:=⟨[(3,.ptr na 0),(2,.ptr nx 0),(0,.ptr k0 0)],c.H,c.nx,97⟩
structure FmI (s:ByteArray) (k0 kv:Nat) (H:Ak) (nx na:Nat) (a b:Int) (c:FmC):Prop where
 S:RdS s k0 c.kv c.i c.r c.H c.nx
 A:Dd k0 kv H nx c.kv c.H c.nx
 p2:Aj c.H nx=some (mRw 0 0 (.t Au) (.t Au))
 p3:Aj c.H na=some (mRw a b (Ax eEC c.kr (c.rels.map EC.of)) (.t Au))
 ro:AK eEC AH c.H c.kr (c.rels.map EC.of)
 v2:c.kv≠nx
 v3:c.kv≠na
 a1:na<c.kr
 a2:c.kr≠c.kv
 a3:c.kr<c.nx
structure FnC where
 H:Ak
 kv:Nat
 i:Nat
 nx:Nat
 r:Rs
 kc:Nat
 cons:List Qq
 m:Nat
def SFn (k0 nx na:Nat) (c:FnC):Am:=⟨[(3,.ptr na 0),(2,.ptr nx 0),(0,.ptr k0 0)],c.H,c.nx,97⟩
structure FnI (s:ByteArray) (k0 kv:Nat) (H:Ak) (nx na:Nat) (a b:Int) (kr:Nat) (L:List EC) (c:FnC):Prop where
 S:RdS s k0 c.kv c.i c.r c.H c.nx
 A:Dd k0 kv H nx c.kv c.H c.nx
 p2:Aj c.H nx=some (mRw 0 0 (.t Au) (.t Au))
 p3:Aj c.H na=some (mRw a b (Ax eEC kr L) (Ax eQq c.kc c.cons))
 rl:AK eEC AH c.H kr L
 ro:AK eQq B0 c.H c.kc c.cons
 v2:c.kv≠nx
 v3:c.kv≠na
 v4:c.kv≠kr
 b1:na<kr
 a1:kr<c.kc
 a2:c.kc≠c.kv
 a3:c.kc<c.nx
end
structure Mu (M:Rs->Nat):Prop where
 fail:∀r,M (Be r)<=M r
 must:∀t r,M (AC t r)<=M r
 word:∀big r,M (Bt big r).1<=M r
 var:∀r,M (AW r).1<=M r
 skip:∀r,M (EB r)<=M r
section
variable {M : Rs -> Nat} (h : Mu M)
include h
theorem Mu.arg (r:Rs):M (Db r).1<=M r:=Xf (h.var _) (Xf (h.must _ _) (h.word _ _))
theorem Mu.args:∀(n:Nat) (r:Rs) (out:List Ag),M (Cz n r out).1<=M r
 | 0,r,out=>Xe _
 | n+1,r,out=>by
  rw[Cz];split
  .split
   .exact Xf (Mu.args n _ _) (Xf (h.must _ _) (h.arg r))
   .exact h.arg r
  .exact Xe _
theorem Mu.head (r:Rs):M (Ci r).1<=M r:=Xf (h.must _ _) (Xf (h.word _ _) (Xf (h.must _ _) (h.var _)))
theorem Mu.pred (n:Nat) (r:Rs):M (Bl n r).1<=M r:=by
 unfold Bl;split
 .exact Xf (h.skip _) (h.head r)
 .exact Xf (h.must _ _) (Xf (h.args _ _ _) (h.head r))
theorem Mu.con (r:Rs):M (Bw r).1<=M r:=Xf (h.var _) (Xf (h.must _ _) (h.var _))
theorem Mu.semi (r:Rs):M (Eu r)<=M r:=by
 unfold Eu;split
 .exact Xf (h.fail _) (h.must _ _)
 .exact h.must _ _
theorem Mu.rels (k:Nat):∀(n:Nat) (r:Rs) (out:List Ep),M (BW k n r out).1<=M r
 | 0,r,out=>Xe _
 | n+1,r,out=>by
  rw[BW];split
  .split
   .exact Xf (Mu.rels k n _ _) (Xf (h.semi _) (h.pred k r))
   .exact h.pred k r
  .exact Xe _
theorem Mu.cons:∀(n:Nat) (r:Rs) (out:List Qq),M (C7 n r out).1<=M r
 | 0,r,out=>Xe _
 | n+1,r,out=>by
  rw[C7];split
  .split
   .exact Xf (Mu.cons n _ _) (Xf (h.semi _) (h.con r))
   .exact h.con r
  .exact Xe _
theorem Mu.form (n:Nat) (r:Rs):M (Dn n r).1<=M r:=by
 have h1:M (BG r).1<=M r:=Xf (h.must _ _) (Xf (h.var _) (Xf (h.must _ _) (h.var _)))
 have he:∀r,M (D4 r)<=M r:=λr=>by
  unfold D4;split
  .exact h.fail r
  .exact Xe _
 exact Xf (he _) (Xf (h.must _ _) (Xf (h.cons _ _ _) (Xf (h.must _ _) (Xf (h.rels _ _ _ _) h1))))
end
def muS (r:Rs):Nat:=(r.seen.map λv=>(wb v.digits).length+1).sum+r.rest.length
theorem yB (l:List UInt8):(CQ l).length<=l.length:=by
 have:=congrArg List.length (YF l).1;rw[Xn]at this;omega
theorem yC:Mu muS:=by
 have keep:∀{a b:Rs},a.seen=b.seen->a.rest.length<=b.rest.length->muS a<=muS b:=λ{a b} h1 h2=>by unfold muS;rw[h1];omega
 refine⟨λr=>keep (GG r) (by rw[EO];exact Xe _),λt r=>keep (Rg t r) (DG t r),λbig r=>keep ?_ (On big r),λr=>?_,λr=>keep rfl (by unfold EB;simp)⟩
 .unfold Bt;split
  .split
   .exact GG r
   .rfl
  .rfl
 .have kf:muS (Be r)<=muS r:=keep (GG r) (by rw[EO];exact Xe _);unfold AW;split
  .split
   .rename_i c q hr;split
    .split
     .unfold muS;rw[GG,EO,hr];simp
     .have:=yB q;unfold muS;rw[hr];simp only[X9,List.sum_append,Yd,Yq,Yf,List.sum_nil,Xu,X0,Co];omega
    .exact kf
   .exact kf
  .exact Xe _
theorem aP {α:Type} (f:α->Nat):∀{l:List α} {x:α},x∈l->f x<=(l.map f).sum
 | a::r,x,h=>by
  rw[Yd,Yf];rcases Xm.1 h with rfl | h
  .omega
  .have:=aP f h;omega
theorem aQ {α:Type} (f:α->Nat):∀{l:List α},(∀x∈l,1<=f x)->l.length<=(l.map f).sum
 | [],_=>by simp
 | a::r,h=>by
  have h1:=h a (by simp);have:=aQ f (l:=r) λx hx=>h x (by simp[hx]);rw[Yd,Yf,Xu];omega
theorem Rr {n:Nat} {s:List UInt8}:(Dn n ⟨s,0,[]⟩).1.seen.length<=s.length/\∀v∈(Dn n ⟨s,0,[]⟩).1.seen,(wb v.digits).length<=s.length:=by
 have h:=yC.form n ⟨s,0,[]⟩
 have e:muS ⟨s,0,[]⟩=s.length:=by simp[muS]
 rw[e]at h;unfold muS at h;have h1:=aQ (λv:Vr=>(wb v.digits).length+1) (l:=(Dn n ⟨s,0,[]⟩).1.seen) (λv _=>by omega);refine⟨by omega,λv hv=>?_⟩;have h2:=aP (λv:Vr=>(wb v.digits).length+1) hv;omega
section
variable {s : ByteArray} {k0 kv i : Nat} {r : Rs} {H : Ak} {nx : Nat}
theorem yD (S0:RdS s k0 kv i r H nx) (hs:s.size<=1000000000) (hmu:muR r<=1000000000) {n:Nat} (hn:r.rest.length<n) (hn2:n<=1000000000) :
  ∃f:Fin,y8 s k0 kv (Dn n r) H nx f/\B3 Xc (G q) 55 [.ptr k0 0] H nx f.r f.H f.nx:=by
 obtain⟨O,hO⟩:∃O,O=Dn n r:=⟨_,rfl⟩
 rw[<-hO];have l0:=S0.l0;have lv:=S0.lv;refine oZ.callX rfl ?_;(conv in Vd=>cbv);refine A3 An ?_;simp -implicitDefEqProofs;have S1:=S0.cons (mRw 0 0 (.t Au) (.t Au));have Q1:=(Dd.refl (k0:=k0) (kv:=kv) (H:=H) (nx:=nx)).cons (mRw 0 0 (.t Au) (.t Au))
 obtain⟨H1,hH1⟩:∃H1:Ak,H1=(nx,mRw 0 0 (.t Au) (.t Au))::H:=⟨_,rfl⟩
 rw[<-hH1]at S1 Q1;rw[show((nx,Row.cells Ct [.t (.v (.int .i64 0)),.t (.v (.int .i64 0)),.t (.v (.slice none 0 0)),.t (.v (.slice none 0 0)),.t (.v (.slice none 0 0))])::H:Ak)=H1 from hH1.symm]
 have p2:Aj H1 nx=some (mRw 0 0 (.t Au) (.t Au)):=by rw[hH1,A9,zu rfl]
 obtain⟨Ha,kva,ia,na,ta,⟨Sa,Aa,ka,va,nna⟩,ta1,ta2⟩:=K9 (q:=q) S1 Acc.refl hs hmu;have mua:=ET r;have Qa:=Q1.step Aa
 have pa2:Aj Ha nx=some (mRw 0 0 (.t Au) (.t Au)):=by rw[ka nx (by omega) (by omega) (by omega)];exact p2
 obtain⟨tp,htp⟩:∃tp,tp=(AW r).2:=⟨_,rfl⟩
 rw[<-htp]at ta1
 obtain⟨r1,hr1⟩:∃r1,r1=(AW r).1:=⟨_,rfl⟩
 rw[<-hr1]at Sa mua;have S2:=Sa.cons (mRw tp 0 (.t Au) (.t Au));have Q2:=Qa.cons (mRw tp 0 (.t Au) (.t Au))
 have u1:∀a b c d e,AO 5 ((na,.cells Ct [a,b,c,d,e])::Ha) (.ptr na 0) (.t (.ag [iv tp,iv 0,Au,Au,Au]))=some ((na,mRw tp 0 (.t Au) (.t Au))::Ha):=λa b c d e=>by
  have hz:Bq (.t (.ag [iv tp,iv 0,Au,Au,Au]))=some [.t (iv tp),.t (iv 0),.t Au,.t Au,.t Au]:=rfl;simp[AO,hz,upd,Cj,mRw]
 obtain⟨Hb,hHb⟩:∃Hb:Ak,Hb=(na,mRw tp 0 (.t Au) (.t Au))::Ha:=⟨_,rfl⟩
 rw[<-hHb]at S2 Q2 u1
 have pb2:Aj Hb nx=some (mRw 0 0 (.t Au) (.t Au)):=by rw[hHb,A9,zw (by omega)];exact pa2
 have pb3:Aj Hb na=some (mRw tp 0 (.t Au) (.t Au)):=by rw[hHb,A9,zu rfl]
 have CA:Ctx Xc (G q) _:=AB.nil.ctxH (AG.cons ta2 .nil) mixed;refine A3 CA ?_;simp -implicitDefEqProofs [ta1,yA,u1,-BU];refine B4 (s':=⟨[(3,.ptr na 0),(2,.ptr nx 0),(0,.ptr k0 0)],Hb,na+1,97⟩) (Aw (by simp -implicitDefEqProofs)) rfl ?_
 have vka:kva≠nx/\kva≠na/\kva≠k0:=⟨by omega,by have:=Sa.lv;omega,Sa.ne⟩
 obtain⟨Hc,ic,tb,⟨Sc,Ac,kc,_,_⟩,tb1,tb2⟩:=FF (q:=q) S2 Acc.refl (t:=⟨#[32]⟩) (by decide) hs;have muc:=CI (wb ⟨#[32]⟩) r1
 obtain⟨r2,hr2⟩:∃r2,r2=AC (wb ⟨#[32]⟩) r1:=⟨_,rfl⟩
 rw[<-hr2]at Sc muc;have Qc:=Q2.step Ac
 have pc2:Aj Hc nx=some (mRw 0 0 (.t Au) (.t Au)):=by rw[kc nx (by omega) (by omega) (by omega)];exact pb2
 have pc3:Aj Hc na=some (mRw tp 0 (.t Au) (.t Au)):=by rw[kc na (by omega) (by omega) (by omega)];exact pb3
 have CB:Ctx Xc (G q) _:=AB.nil.ctxH (AG.cons tb2 .nil) mixed;refine A3 CB ?_;simp -implicitDefEqProofs [tb1];obtain⟨Hd,kvd,id',nd,tc,⟨Sd,Ad,kd,vd,nnd⟩,tc1,tc2⟩:=K9 (q:=q) Sc Acc.refl hs (by omega);have mud:=ET r2;have Qd:=Qc.step Ad
 obtain⟨ix,hix⟩:∃ix,ix=(AW r2).2:=⟨_,rfl⟩
 rw[<-hix]at tc1
 obtain⟨r3,hr3⟩:∃r3,r3=(AW r2).1:=⟨_,rfl⟩
 rw[<-hr3]at Sd mud
 have pd2:Aj Hd nx=some (mRw 0 0 (.t Au) (.t Au)):=by rw[kd nx (by omega) (by omega) (by omega)];exact pc2
 have pd3:Aj Hd na=some (mRw tp 0 (.t Au) (.t Au)):=by rw[kd na (by omega) (by omega) (by omega)];exact pc3
 have sd:=aK pd3 ix;have Se:=Sd.upd (b:=na) (by omega) (by omega) (mRw tp ix (.t Au) (.t Au));have Qe:=Qd.upd (b:=na) (by omega) (mRw tp ix (.t Au) (.t Au))
 obtain⟨He,hHe⟩:∃He,He=Xd Hd na (mRw tp ix (.t Au) (.t Au)):=⟨_,rfl⟩
 rw[<-hHe]at sd Se Qe
 have pe2:Aj He nx=some (mRw 0 0 (.t Au) (.t Au)):=by rw[hHe,A7,zw (by omega)];exact pd2
 have pe3:Aj He na=some (mRw tp ix (.t Au) (.t Au)):=by rw[hHe,A7,zu rfl,pd3];rfl
 have CC:Ctx Xc (G q) _:=AB.nil.ctxH (AG.cons tc2 .nil) mixed;refine A3 CC ?_;simp -implicitDefEqProofs [tc1,sd];obtain⟨Hf,jf,td,⟨Sf,Af,kf,_,_⟩,td1,td2⟩:=FF (q:=q) Se Acc.refl (t:=⟨#[32,123]⟩) (by decide) hs;have muf:=CI (wb ⟨#[32,123]⟩) r3
 obtain⟨r4,hr4⟩:∃r4,r4=AC (wb ⟨#[32,123]⟩) r3:=⟨_,rfl⟩
 rw[<-hr4]at Sf muf;have Qf:=Qe.step Af
 have htop:BG r=(r4,tp,ix):=by rw[hr4,hr3,hix,hr2,hr1,htp];rfl
 have pf2:Aj Hf nx=some (mRw 0 0 (.t Au) (.t Au)):=by rw[kf nx (by omega) (by omega) (by omega)];exact pe2
 have pf3:Aj Hf na=some (mRw tp ix (.t Au) (.t Au)):=by rw[kf na (by omega) (by omega) (by omega)];exact pe3
 have CD:Ctx Xc (G q) _:=AB.nil.ctxH (AG.cons td2 .nil) mixed;refine A3 CD ?_;simp -implicitDefEqProofs [td1];refine B4 (s':=⟨[(3,.ptr na 0),(2,.ptr nx 0),(0,.ptr k0 0)],Hf,nd+1,97⟩) ((EN (nx':=nd+1) (Xh _)).trans (Aw (by simp -implicitDefEqProofs))) rfl ?_
 have hl4:r4.rest.length<n:=by
  have:=Ou r;rw[htop]at this;simp only at this;omega
 have mur4:muR r4<=1000000000:=by omega
 have vkd:kvd≠nx/\kvd≠na/\kvd<nd:=⟨by omega,by omega,Sd.lv⟩
 obtain⟨Z,hZ⟩:∃Z,Z=BW n n r4 []:=⟨_,rfl⟩
 unfold Dn at hO;rw[htop]at hO;simp only at hO;rw[<-hZ]at hO;refine Cp (SFm k0 nx na) (λc=>Z=(c.r,c.rels)/\muR c.r<=1000000000/\c.r.rest.length<n/\FmI s k0 kv H nx na tp ix c) (λ_=>rfl) ?_ ?_
 .refine BA ?_
  refine DH (SFm k0 nx na) (λc=>c.m) (λc=>Z=BW n c.m c.r c.rels/\c.r.rest.length<c.m/\c.rels.length+c.m<=n/\muR c.r<=1000000000/\FmI s k0 kv H nx na tp ix c) ⟨Hf,kvd,jf,nd+1,r4,nd,[],n⟩ (λ_=>rfl)
   ⟨hZ,hl4,by simp,mur4,⟨Sf.mono (Xh _),Qf.mono (Xh _),pf2,pf3,.inl rfl,vkd.1,vkd.2.1,by show na<nd;omega,by have:=vkd.2.2;show nd≠kvd;omega,Xg _⟩⟩ ?_ rfl ?_
  .exact Aw (by simp -implicitDefEqProofs [SFm])
  rintro⟨Ha,kw,j,ny,ra,kr,rels,m⟩ ⟨hZm,hrm,hom,hmr,⟨S,A,q2,q3,ro,v2,v3,a1,a2,a3⟩⟩;simp only at hZm hrm hom hmr S A q2 q3 ro v2 v3 a1 a2 a3;have L:=ldR S.o
  obtain⟨m,rfl⟩:∃m',m=m'+1:=⟨m-1,by omega⟩
  have stop:Z=(ra,rels)->(Z=(ra,rels)/\muR ra<=1000000000/\ra.rest.length<n/\FmI s k0 kv H nx na tp ix ⟨Ha,kw,j,ny,ra,kr,rels,0⟩):=λe=>⟨e,hmr,by omega,⟨S,A,q2,q3,ro,v2,v3,a1,a2,a3⟩⟩
  obtain⟨te,te1,te2⟩:=Ix (q:=q) S 125;rw[show u8c 125 = .t (.v (.int .u8 125))from rfl]at te1;have CE:Ctx Xc (G q) _:=AB.nil.ctxH (AG.cons te2 .nil) mixed;by_cases he:ra.e=0
  rotate_left
  .have hb:(ra.e==0)=false:=by rw[zp];exact he
   rw[Ol n _ he]at hZm;refine A3 CE ?_;simp -implicitDefEqProofs [SFm,L.l2,hb];exact A4.mk ⟨Ha,kw,j,ny,ra,kr,rels,0⟩ (stop hZm) (Aw (by simp -implicitDefEqProofs))
  have hb:(ra.e==0)=true:=by rw[he];rfl
  cases hf4:AR 125 ra with
  | true=>
   rw[hf4]at te1;rw[QF hf4]at hZm;refine A3 CE ?_;simp -implicitDefEqProofs [SFm,L.l2,hb,te1];exact A4.mk ⟨Ha,kw,j,ny,ra,kr,rels,0⟩ (stop hZm) (Aw (by simp -implicitDefEqProofs))
  | false=>
  rw[hf4]at te1;rw[QE he hf4]at hZm;refine A3 CE ?_;simp -implicitDefEqProofs [SFm,L.l2,hb,te1];refine BA ?_;obtain⟨Hp,kp,jp,np,tp',Sp,Ap,tp1,tp2⟩:=y9 (q:=q) S hs hmr (n:=n) (by omega) hn2;have mup:=O4 n ra;have lpr:=Iu n ra
  obtain⟨rp,hrp⟩:∃rp,rp=(Bl n ra).1:=⟨_,rfl⟩
  obtain⟨x,hx⟩:∃x,x=(Bl n ra).2:=⟨_,rfl⟩
  rw[<-hrp]at Sp mup lpr hZm;rw[<-hx]at tp1 hZm;have vp:=Ap.v;have npn:=Ap.n;have g2:Aj Hp nx=some (mRw 0 0 (.t Au) (.t Au)):=Ap.k nx _ (by omega) (by omega) v2.symm q2 (aJ (.inl ⟨_,rfl⟩) (.inl ⟨_,rfl⟩));have g3:Aj Hp na=some (mRw tp ix (Ax eEC kr (rels.map EC.of)) (.t Au)):=Ap.k na _ (by omega) (by omega) v3.symm q3 (aJ (Rp _ _ _ a3) (.inl ⟨_,rfl⟩));have gO:AK eEC AH Hp kr (rels.map EC.of):=ro.imp id λe=>Ap.k kr _ a3 (by omega) a2 e (Ro _ _ _ _);have Qp:=A.stepQ Ap;have lq:=(GL q3).1;have lg:=(GL g3).1;obtain⟨Hq,aq,bq,cq,fq⟩:=EM (by':=48) (nx:=np) (EC.of x) 3 rfl (EC.of x).cs rfl gO (by omega) (by rw[Xi];omega) (by rw[Xi];omega)
  obtain⟨rels',hrels'⟩:∃rels',rels'=rels++[x]:=⟨_,rfl⟩
  rw[show rels.map EC.of++[EC.of x]=rels'.map EC.of by rw[hrels'];simp]at aq bq;rw[<-hrels']at hZm
  have h3:Aj Hq na=some (mRw tp ix (Ax eEC kr (rels.map EC.of)) (.t Au)):=by rw[cq na (by omega) (by omega)];exact g3
  have sq:=aL h3 (x:=Ax eEC np (rels'.map EC.of)) (O5 _ _ _);have lp0:=Sp.l0;have lpv:=Sp.lv
  have Sq:RdS s k0 kp jp rp Hq (np+1):=⟨by rw[cq k0 lp0 (by omega)];exact Sp.o,Sp.v.imp id λe=>by rw[cq kp lpv (by omega)];exact e,Sp.rest,Sp.hi,by omega,by omega,Sp.ne⟩
  have Qq:Dd k0 kv H nx kp Hq (np+1):=⟨Qp.v,λc y h1 h2 h3 h4 h5=>by rw[cq c (by omega) (by omega)];exact Qp.k c y h1 h2 h3 h4 h5,by omega,λh=>fq (Qp.fr h)⟩
  have Sr:=Sq.upd (b:=na) (by omega) (by omega) (mRw tp ix (Ax eEC np (rels'.map EC.of)) (.t Au));have Qr:=Qq.upd (b:=na) (by omega) (mRw tp ix (Ax eEC np (rels'.map EC.of)) (.t Au))
  obtain⟨Hr,hHr⟩:∃Hr,Hr=Xd Hq na (mRw tp ix (Ax eEC np (rels'.map EC.of)) (.t Au)):=⟨_,rfl⟩
  rw[<-hHr]at sq Sr Qr
  have i2:Aj Hr nx=some (mRw 0 0 (.t Au) (.t Au)):=by rw[hHr,A7,zw (by omega),cq nx (by omega) (by omega)];exact g2
  have i3:Aj Hr na=some (mRw tp ix (Ax eEC np (rels'.map EC.of)) (.t Au)):=by rw[hHr,A7,zu rfl,h3];rfl
  have iO:AK eEC AH Hr np (rels'.map EC.of):=bq.imp id λe=>by rw[hHr,A7,zw (by omega)];exact e
  have htsl:EZ AH 3 [.string ⟨#[]⟩,.int .i64 0,.slice none 0 0] 1 [(0,.t (.ag (EC.of x).cs))]=some (.t (.sl 1 (EC.of x).cs)):=by
   obtain⟨p,l,ag⟩:=x;cases ag<;>rfl
  obtain⟨cx,hcx⟩:∃cx,cx=(EC.of x).cs:=⟨_,rfl⟩
  rw[<-hcx]at tp1 htsl aq;have CP:Ctx Xc (G q) _:=AB.nil.ctxH (AG.cons tp2 .nil) mixed;refine A3 CP ?_;simp -implicitDefEqProofs [lq,tp1,lg,htsl,aq,sq];refine B4 (s':=⟨[(3,.ptr na 0),(2,.ptr nx 0),(0,.ptr k0 0)],Hr,np+1,97⟩) (Aw (by simp -implicitDefEqProofs)) rfl ?_
  have I:∀H' i' r',RdS s k0 kp i' r' H' (np+1)->Acc k0 kp Hr (np+1) kp H' (np+1)->FmI s k0 kv H nx na tp ix ⟨H',kp,i',np+1,r',np,rels',m⟩:=λH' i' r' hS hA=>
   ⟨hS,Qr.step hA,by show Aj H' nx=_;rw[hA.k nx (by omega) (by omega) (by omega)];exact i2,by show Aj H' na=_;rw[hA.k na (by omega) (by omega) (by omega)];exact i3,
    iO.imp id λe=>by show Aj H' np=_;rw[hA.k np (by omega) (by omega) (by omega)];exact e,by show kp≠nx;omega,by show kp≠na;omega,by show na<np;omega,by show np≠kp;omega,Xg _⟩
  obtain⟨tg,tg1,tg2⟩:=Ix (q:=q) Sr 59;rw[show u8c 59 = .t (.v (.int .u8 59))from rfl]at tg1;have CG:Ctx Xc (G q) _:=AB.nil.ctxH (AG.cons tg2 .nil) mixed
  cases hf5:AR 59 rp with
  | false=>
   rw[hf5]at hZm tg1;rw[zw (by decide)]at hZm;refine A3 CG ?_;simp -implicitDefEqProofs [tg1];exact A4.mk ⟨Hr,kp,jp,np+1,rp,np,rels',m⟩ ⟨hZm,by show muR rp<=_;omega,by show rp.rest.length<n;omega,I Hr jp rp Sr Acc.refl⟩ (Aw (by simp -implicitDefEqProofs [SFm]))
  | true=>
  rw[hf5]at hZm tg1;rw[zu rfl]at hZm;refine A3 CG ?_;simp -implicitDefEqProofs [tg1];obtain⟨Hs,js,th,⟨Ss,As,ks,_,_⟩,th1,th2⟩:=FF (q:=q) Sr Acc.refl (t:=⟨#[59,32]⟩) (by decide) hs;have mus:=CI (wb ⟨#[59,32]⟩) rp;have lts:=Gf hf5 [32];rw[show([59,32]:List UInt8)=wb ⟨#[59,32]⟩from rfl]at lts
  have hsem:Eu rp=if AR 125 (AC (wb ⟨#[59,32]⟩) rp)then Be (AC (wb ⟨#[59,32]⟩) rp)else AC (wb ⟨#[59,32]⟩) rp:=rfl
  obtain⟨rs,hrs⟩:∃rs,rs=AC (wb ⟨#[59,32]⟩) rp:=⟨_,rfl⟩
  rw[<-hrs]at Ss mus lts hsem;rw[hsem]at hZm;have CH:Ctx Xc (G q) _:=AB.nil.ctxH (AG.cons th2 .nil) mixed;refine A3 CH ?_;simp -implicitDefEqProofs [th1];obtain⟨tk,tk1,tk2⟩:=Ix (q:=q) Ss 125;rw[show u8c 125 = .t (.v (.int .u8 125))from rfl]at tk1
  cases hf6:AR 125 rs with
  | false=>
   rw[hf6]at hZm tk1;rw[zw (by decide)]at hZm;have CK:Ctx Xc (G q) _:=AB.nil.ctxH (AG.cons tk2 .nil) mixed;refine AV CK ?_;simp -implicitDefEqProofs [tk1];exact A4.mk ⟨Hs,kp,js,np+1,rs,np,rels',m⟩ ⟨⟨hZm,by show rs.rest.length<m;omega,by show rels'.length+m<=n;rw[hrels',Xn,Xx];omega,by show muR rs<=_;omega,I Hs js rs Ss As⟩,Xg m⟩ (Aw (by simp -implicitDefEqProofs [SFm]))
  | true=>
   rw[hf6]at hZm tk1;rw[zu rfl]at hZm;obtain⟨Ht,tu,St,At,tu1,tu2⟩:=Rq (q:=q) Ss;have mft:=Mq rs;have CK:Ctx Xc (G q) _:=AB.nil.ctxH (AG.cons tk2 (AG.cons tu2 .nil)) mixed;refine AV CK ?_;simp -implicitDefEqProofs [tk1,tu1];exact A4.mk ⟨Ht,kp,js,np+1,Be rs,np,rels',m⟩ ⟨⟨hZm,by show(Be rs).rest.length<m;rw[EO];omega,by show rels'.length+m<=n;rw[hrels',Xn,Xx];omega,by show muR (Be rs)<=_;omega,I Ht js _ St (As.step At.k At.v At.n At.fr)⟩,Xg m⟩ (Aw (by simp -implicitDefEqProofs [SFm]))
 rintro⟨Hg,kg,jg,ng,rg,kr,rels,_⟩ ⟨hZg,mug,lg,⟨Sg,Qg,g2,g3,gO,v2,v3,a1,a2,a3⟩⟩;simp only at hZg mug lg Sg Qg g2 g3 gO v2 v3 a1 a2 a3;rw[hZg]at hO;simp only at hO
 obtain⟨RL,hRL⟩:∃RL,RL=rels.map EC.of:=⟨_,rfl⟩
 rw[<-hRL]at g3 gO;obtain⟨Hh,jh,th,⟨Sh,Ah,kh,_,_⟩,th1,th2⟩:=FF (q:=q) Sg Acc.refl (t:=⟨#[125,32,123]⟩) (by decide) hs;have muh:=CI (wb ⟨#[125,32,123]⟩) rg;have lh:=DG (wb ⟨#[125,32,123]⟩) rg;have Qh:=Qg.step Ah;rw[show AC [125,32,123] rg=AC (wb ⟨#[125,32,123]⟩) rg from rfl]at hO
 obtain⟨rh,hrh⟩:∃rh,rh=AC (wb ⟨#[125,32,123]⟩) rg:=⟨_,rfl⟩
 rw[<-hrh]at Sh muh lh hO
 have h2:Aj Hh nx=some (mRw 0 0 (.t Au) (.t Au)):=by rw[kh nx (by omega) (by omega) (by omega)];exact g2
 have h3:Aj Hh na=some (mRw tp ix (Ax eEC kr RL) (.t Au)):=by rw[kh na (by omega) (by omega) (by omega)];exact g3
 have hOr:AK eEC AH Hh kr RL:=gO.imp id λe=>by rw[kh kr a3 (by omega) a2];exact e
 have CH:Ctx Xc (G q) _:=AB.nil.ctxH (AG.cons th2 .nil) mixed;refine A3 CH ?_;simp -implicitDefEqProofs [SFm,th1];refine B4 (s':=⟨[(3,.ptr na 0),(2,.ptr nx 0),(0,.ptr k0 0)],Hh,ng+1,97⟩) ((EN (nx':=ng+1) (Xh _)).trans (Aw (by simp -implicitDefEqProofs))) rfl ?_
 obtain⟨Y,hY⟩:∃Y,Y=C7 n rh []:=⟨_,rfl⟩
 rw[<-hY]at hO;have lvh:=Sh.lv;refine Cp (SFn k0 nx na) (λc=>Y=(c.r,c.cons)/\FnI s k0 kv H nx na tp ix kr RL c) (λ_=>rfl) ?_ ?_
 .refine BA ?_
  refine DH (SFn k0 nx na) (λc=>c.m) (λc=>Y=C7 c.m c.r c.cons/\c.r.rest.length<c.m/\c.cons.length+c.m<=n/\muR c.r<=1000000000/\FnI s k0 kv H nx na tp ix kr RL c) ⟨Hh,kg,jh,ng+1,rh,ng,[],n⟩ (λ_=>rfl)
   ⟨hY,by show rh.rest.length<n;omega,by simp,by show muR rh<=_;omega,⟨Sh.mono (Xh _),Qh.mono (Xh _),h2,h3,hOr,.inl rfl,v2,v3,a2.symm,a1,a3,by show ng≠kg;omega,Xg _⟩⟩ ?_ rfl ?_
  .exact Aw (by simp -implicitDefEqProofs [SFn])
  rintro⟨Ha,kw,j,ny,ra,kc,cons,m⟩ ⟨hYm,hrm,hom,hmr,⟨S,A,q2,q3,rl,ro,v2,v3,v4,b1,a1,a2,a3⟩⟩;simp only at hYm hrm hom hmr S A q2 q3 rl ro v2 v3 v4 b1 a1 a2 a3;have L:=ldR S.o
  obtain⟨m,rfl⟩:∃m',m=m'+1:=⟨m-1,by omega⟩
  have stop:Y=(ra,cons)->(Y=(ra,cons)/\FnI s k0 kv H nx na tp ix kr RL ⟨Ha,kw,j,ny,ra,kc,cons,0⟩):=λe=>⟨e,⟨S,A,q2,q3,rl,ro,v2,v3,v4,b1,a1,a2,a3⟩⟩
  obtain⟨te,te1,te2⟩:=Ix (q:=q) S 125;rw[show u8c 125 = .t (.v (.int .u8 125))from rfl]at te1;have CE:Ctx Xc (G q) _:=AB.nil.ctxH (AG.cons te2 .nil) mixed;by_cases he:ra.e=0
  rotate_left
  .have hb:(ra.e==0)=false:=by rw[zp];exact he
   rw[Om _ he]at hYm;refine A3 CE ?_;simp -implicitDefEqProofs [SFn,L.l2,hb];exact A4.mk ⟨Ha,kw,j,ny,ra,kc,cons,0⟩ (stop hYm) (Aw (by simp -implicitDefEqProofs))
  have hb:(ra.e==0)=true:=by rw[he];rfl
  cases hf4:AR 125 ra with
  | true=>
   rw[hf4]at te1;rw[QH hf4]at hYm;refine A3 CE ?_;simp -implicitDefEqProofs [SFn,L.l2,hb,te1];exact A4.mk ⟨Ha,kw,j,ny,ra,kc,cons,0⟩ (stop hYm) (Aw (by simp -implicitDefEqProofs))
  | false=>
  rw[hf4]at te1;rw[QG he hf4]at hYm;refine A3 CE ?_;simp -implicitDefEqProofs [SFn,L.l2,hb,te1];refine BA ?_;obtain⟨Hb,kb,jb,nb,tb,⟨Sb,Ab,kkb,vb,nnb⟩,tb1,tb2⟩:=K9 (q:=q) S Acc.refl hs hmr;have mub:=ET ra
  obtain⟨rb,hrb⟩:∃rb,rb=(AW ra).1:=⟨_,rfl⟩
  obtain⟨va',hva⟩:∃va',va'=(AW ra).2:=⟨_,rfl⟩
  rw[<-hrb]at Sb mub;rw[<-hva]at tb1;have C1:Ctx Xc (G q) _:=AB.nil.ctxH (AG.cons tb2 .nil) mixed;refine A3 C1 ?_;simp -implicitDefEqProofs [tb1];refine B4 (s':=⟨[(4,.t (iv va')),(3,.ptr na 0),(2,.ptr nx 0),(0,.ptr k0 0)],Hb,nb,97⟩) (Aw (by simp -implicitDefEqProofs)) rfl ?_;obtain⟨Hc,jc,tc,⟨Sc,Ac,kkc,_,_⟩,tc1,tc2⟩:=FF (q:=q) Sb Acc.refl (t:=⟨#[32,113,101,113,32]⟩) (by decide) hs;have muc:=CI (wb ⟨#[32,113,101,113,32]⟩) rb
  obtain⟨rc,hrc⟩:∃rc,rc=AC (wb ⟨#[32,113,101,113,32]⟩) rb:=⟨_,rfl⟩
  rw[<-hrc]at Sc muc;have C2:Ctx Xc (G q) _:=AB.nil.ctxH (AG.cons tc2 .nil) mixed;refine A3 C2 ?_;simp -implicitDefEqProofs [tc1];obtain⟨Hp,kp,jp,np,td,⟨Sp,Ad,kkd,vd,nnd⟩,td1,td2⟩:=K9 (q:=q) Sc Acc.refl hs (by omega);have mup:=ET rc
  obtain⟨rp,hrp⟩:∃rp,rp=(AW rc).1:=⟨_,rfl⟩
  obtain⟨vb',hvb⟩:∃vb',vb'=(AW rc).2:=⟨_,rfl⟩
  rw[<-hrp]at Sp mup;rw[<-hvb]at td1
  have hcon:Bw ra=(rp,⟨va',vb'⟩):=by rw[hrp,hvb,hva,hrc,hrb];rfl
  have lcon:=Oo ra;rw[hcon]at hYm lcon;simp only at hYm lcon
  have kC:∀c,c<ny->c≠k0->c≠kw->Aj Hc c=Aj Ha c:=λc h1 h2 h3=>by rw[kkc c (by omega) h2 (by omega),kkb c h1 h2 h3]
  have kP:∀c,c<ny->c≠k0->c≠kw->Aj Hp c=Aj Ha c:=λc h1 h2 h3=>by rw[kkd c (by omega) h2 (by omega),kC c h1 h2 h3]
  have g2:Aj Hp nx=some (mRw 0 0 (.t Au) (.t Au)):=by rw[kP nx (by omega) (by omega) (by omega)];exact q2
  have q3c:Aj Hc na=some (mRw tp ix (Ax eEC kr RL) (Ax eQq kc cons)):=by rw[kC na (by omega) (by omega) (by omega)];exact q3
  have g3:Aj Hp na=some (mRw tp ix (Ax eEC kr RL) (Ax eQq kc cons)):=by rw[kP na (by omega) (by omega) (by omega)];exact q3
  have gR:AK eEC AH Hp kr RL:=rl.imp id λe=>by rw[kP kr (by omega) (by omega) (by omega)];exact e
  have gO:AK eQq B0 Hp kc cons:=ro.imp id λe=>by rw[kP kc a3 (by omega) (by omega)];exact e
  have Qp:=((A.step Ab).step Ac).step Ad;have lq:=(GL q3c).2.1;have lg:=(GL g3).2.1;have lp0:=Sp.l0;have lpv:=Sp.lv;obtain⟨Hq,aq,bq,cq,fq⟩:=EM (by':=16) (nx:=np) (⟨va',vb'⟩:Qq) 2 rfl [iv va',iv vb'] rfl gO (by omega) (by omega) (by omega)
  obtain⟨cons',hcons'⟩:∃cons',cons'=cons++[(⟨va',vb'⟩:Qq)]:=⟨_,rfl⟩
  rw[<-hcons']at aq bq hYm
  have h3:Aj Hq na=some (mRw tp ix (Ax eEC kr RL) (Ax eQq kc cons)):=by rw[cq na (by omega) (by omega)];exact g3
  have sq:=aM h3 (x:=Ax eQq np cons') (O5 _ _ _)
  have Sq:RdS s k0 kp jp rp Hq (np+1):=⟨by rw[cq k0 lp0 (by omega)];exact Sp.o,Sp.v.imp id λe=>by rw[cq kp lpv (by omega)];exact e,Sp.rest,Sp.hi,by omega,by omega,Sp.ne⟩
  have Qq':Dd k0 kv H nx kp Hq (np+1):=⟨Qp.v,λc y h1 h2 h3 h4 h5=>by rw[cq c (by omega) (by omega)];exact Qp.k c y h1 h2 h3 h4 h5,by omega,λh=>fq (Qp.fr h)⟩
  have Sr:=Sq.upd (b:=na) (by omega) (by omega) (mRw tp ix (Ax eEC kr RL) (Ax eQq np cons'));have Qr:=Qq'.upd (b:=na) (by omega) (mRw tp ix (Ax eEC kr RL) (Ax eQq np cons'))
  obtain⟨Hr,hHr⟩:∃Hr,Hr=Xd Hq na (mRw tp ix (Ax eEC kr RL) (Ax eQq np cons')):=⟨_,rfl⟩
  rw[<-hHr]at sq Sr Qr
  have i2:Aj Hr nx=some (mRw 0 0 (.t Au) (.t Au)):=by rw[hHr,A7,zw (by omega),cq nx (by omega) (by omega)];exact g2
  have i3:Aj Hr na=some (mRw tp ix (Ax eEC kr RL) (Ax eQq np cons')):=by rw[hHr,A7,zu rfl,h3];rfl
  have iR:AK eEC AH Hr kr RL:=gR.imp id λe=>by rw[hHr,A7,zw (by omega),cq kr (by omega) (by omega)];exact e
  have iO:AK eQq B0 Hr np cons':=bq.imp id λe=>by rw[hHr,A7,zw (by omega)];exact e
  have bdm:∀(Φ:AP) (H:Ak) (nx:Nat),A0 Φ H nx (.build [(0,1),(1,1)] [.int .i64 0,.int .i64 0] [0,1]) [.t (iv va'),.t (iv vb')]=some (.t (.ag [iv va',iv vb']),H,nx):=λ_ _ _=>rfl;have htsl:EZ B0 2 [.int .i64 0,.int .i64 0] 1 [(0,.t (.ag [iv va',iv vb']))]=some (.t (.sl 1 [iv va',iv vb'])):=rfl;have CP:Ctx Xc (G q) _:=AB.nil.ctxH (AG.cons td2 .nil) mixed;refine A3 CP ?_;simp -implicitDefEqProofs [lq,td1,lg,bdm,htsl,aq,sq,-BU];refine B4 (s':=⟨[(3,.ptr na 0),(2,.ptr nx 0),(0,.ptr k0 0)],Hr,np+1,97⟩) (Aw (by simp -implicitDefEqProofs)) rfl ?_
  have I:∀H' i' r',RdS s k0 kp i' r' H' (np+1)->Acc k0 kp Hr (np+1) kp H' (np+1)->FnI s k0 kv H nx na tp ix kr RL ⟨H',kp,i',np+1,r',np,cons',m⟩:=λH' i' r' hS hA=>
   ⟨hS,Qr.step hA,by show Aj H' nx=_;rw[hA.k nx (by omega) (by omega) (by omega)];exact i2,by show Aj H' na=_;rw[hA.k na (by omega) (by omega) (by omega)];exact i3,
    iR.imp id λe=>by show Aj H' kr=_;rw[hA.k kr (by omega) (by omega) (by omega)];exact e,
    iO.imp id λe=>by show Aj H' np=_;rw[hA.k np (by omega) (by omega) (by omega)];exact e,by show kp≠nx;omega,by show kp≠na;omega,by show kp≠kr;omega,b1,by show kr<np;omega,by show np≠kp;omega,Xg _⟩
  obtain⟨tg,tg1,tg2⟩:=Ix (q:=q) Sr 59;rw[show u8c 59 = .t (.v (.int .u8 59))from rfl]at tg1;have CG:Ctx Xc (G q) _:=AB.nil.ctxH (AG.cons tg2 .nil) mixed
  cases hf5:AR 59 rp with
  | false=>
   rw[hf5]at hYm tg1;rw[zw (by decide)]at hYm;refine A3 CG ?_;simp -implicitDefEqProofs [tg1];exact A4.mk ⟨Hr,kp,jp,np+1,rp,np,cons',m⟩ ⟨hYm,I Hr jp rp Sr Acc.refl⟩ (Aw (by simp -implicitDefEqProofs [SFn]))
  | true=>
  rw[hf5]at hYm tg1;rw[zu rfl]at hYm;refine A3 CG ?_;simp -implicitDefEqProofs [tg1];obtain⟨Hs,js,th,⟨Ss,As,ks,_,_⟩,th1,th2⟩:=FF (q:=q) Sr Acc.refl (t:=⟨#[59,32]⟩) (by decide) hs;have mus:=CI (wb ⟨#[59,32]⟩) rp;have lts:=Gf hf5 [32];rw[show([59,32]:List UInt8)=wb ⟨#[59,32]⟩from rfl]at lts
  have hsem:Eu rp=if AR 125 (AC (wb ⟨#[59,32]⟩) rp)then Be (AC (wb ⟨#[59,32]⟩) rp)else AC (wb ⟨#[59,32]⟩) rp:=rfl
  obtain⟨rs,hrs⟩:∃rs,rs=AC (wb ⟨#[59,32]⟩) rp:=⟨_,rfl⟩
  rw[<-hrs]at Ss mus lts hsem;rw[hsem]at hYm;have CH:Ctx Xc (G q) _:=AB.nil.ctxH (AG.cons th2 .nil) mixed;refine A3 CH ?_;simp -implicitDefEqProofs [th1];obtain⟨tk,tk1,tk2⟩:=Ix (q:=q) Ss 125;rw[show u8c 125 = .t (.v (.int .u8 125))from rfl]at tk1
  cases hf6:AR 125 rs with
  | false=>
   rw[hf6]at hYm tk1;rw[zw (by decide)]at hYm;have CK:Ctx Xc (G q) _:=AB.nil.ctxH (AG.cons tk2 .nil) mixed;refine AV CK ?_;simp -implicitDefEqProofs [tk1];exact A4.mk ⟨Hs,kp,js,np+1,rs,np,cons',m⟩ ⟨⟨hYm,by show rs.rest.length<m;omega,by show cons'.length+m<=n;rw[hcons',Xn,Xx];omega,by show muR rs<=_;omega,I Hs js rs Ss As⟩,Xg m⟩ (Aw (by simp -implicitDefEqProofs [SFn]))
  | true=>
   rw[hf6]at hYm tk1;rw[zu rfl]at hYm;obtain⟨Ht,tu,St,At,tu1,tu2⟩:=Rq (q:=q) Ss;have mft:=Mq rs;have CK:Ctx Xc (G q) _:=AB.nil.ctxH (AG.cons tk2 (AG.cons tu2 .nil)) mixed;refine AV CK ?_;simp -implicitDefEqProofs [tk1,tu1];exact A4.mk ⟨Ht,kp,js,np+1,Be rs,np,cons',m⟩ ⟨⟨hYm,by show(Be rs).rest.length<m;rw[EO];omega,by show cons'.length+m<=n;rw[hcons',Xn,Xx];omega,by show muR (Be rs)<=_;omega,I Ht js _ St (As.step At.k At.v At.n At.fr)⟩,Xg m⟩ (Aw (by simp -implicitDefEqProofs [SFn]))
 rintro⟨Hx,kw,j,ny,rx,kc,cons,_⟩ ⟨hYx,⟨S,A,q2,q3,rl,ro,v2,v3,v4,b1,a1,a2,a3⟩⟩;simp only at hYx S A q2 q3 rl ro v2 v3 v4 b1 a1 a2 a3;rw[hYx]at hO;simp only at hO;obtain⟨Hy,jy,ty,⟨Sy,Ay,ky,_,_⟩,ty1,ty2⟩:=FF (q:=q) S Acc.refl (t:=⟨#[125]⟩) (by decide) hs;rw[show AC [125] rx=AC (wb ⟨#[125]⟩) rx from rfl]at hO
 obtain⟨ry,hry⟩:∃ry,ry=AC (wb ⟨#[125]⟩) rx:=⟨_,rfl⟩
 rw[<-hry]at Sy hO;have CY:Ctx Xc (G q) _:=AB.nil.ctxH (AG.cons ty2 .nil) mixed;refine A3 CY ?_;simp -implicitDefEqProofs [SFn,ty1];refine Cp (λc:Ak=>⟨[(3,.ptr na 0),(2,.ptr nx 0),(0,.ptr k0 0)],c,ny,97⟩) (λc=>RdS s k0 kw jy (D4 ry) c ny/\Acc k0 kw Hy ny kw c ny) (λ_=>rfl) ?_ ?_
 .have L:=ldR Sy.o;by_cases he:ry.e=0
  rotate_left
  .have hb:(ry.e==0)=false:=by rw[zp];exact he
   have e1:D4 ry=ry:=by unfold D4;rw[zw λe=>he e.1]
   refine A3 An ?_;simp -implicitDefEqProofs [L.l2,hb];refine AV An ?_;simp -implicitDefEqProofs;exact A4.mk Hy ⟨by rw[e1];exact Sy,Acc.refl⟩ (Aw (by simp -implicitDefEqProofs))
  have hb:(ry.e==0)=true:=by rw[he];rfl
  by_cases hlt:jy<s.size
  .have hd:decide ((jy:Int)<(s.size:Int))=true:=zq (by omega)
   have e1:D4 ry=Be ry:=by unfold D4;rw[zu ⟨he,λe=>by have:=Sy.nil.1 e;omega⟩]
   obtain⟨Ht,tu,St,At,tu1,tu2⟩:=Rq (q:=q) Sy;have CU:Ctx Xc (G q) _:=AB.nil.ctxH (AG.cons tu2 .nil) mixed;refine A3 CU ?_;simp -implicitDefEqProofs [L.l2,hb,L.l1,L.l0,hd,hlt];refine AV CU ?_;simp -implicitDefEqProofs [tu1];exact A4.mk Ht ⟨by rw[e1];exact St,At⟩ (Aw (by simp -implicitDefEqProofs))
  .have hd:decide ((jy:Int)<(s.size:Int))=false:=zt (by omega)
   have e1:D4 ry=ry:=by unfold D4;rw[zw λe=>e.2 (Sy.nil.2 (by omega))]
   refine A3 An ?_;simp -implicitDefEqProofs [L.l2,hb,L.l1,L.l0,hd,hlt];refine AV An ?_;simp -implicitDefEqProofs;exact A4.mk Hy ⟨by rw[e1];exact Sy,Acc.refl⟩ (Aw (by simp -implicitDefEqProofs))
 rintro Hz ⟨Sz,Az⟩;have Qz:=(A.step Ay).step Az
 have kz:∀c,c<ny->c≠k0->c≠kw->Aj Hz c=Aj Hx c:=λc h1 h2 h3=>by rw[Az.k c h1 h2 h3,ky c h1 h2 h3]
 have z2:Aj Hz nx=some (mRw 0 0 (.t Au) (.t Au)):=by rw[kz nx (by omega) (by omega) (by omega)];exact q2
 have z3:Aj Hz na=some (mRw tp ix (Ax eEC kr RL) (Ax eQq kc cons)):=by rw[kz na (by omega) (by omega) (by omega)];exact q3
 have zr:AK eEC AH Hz kr RL:=rl.imp id λe=>by rw[kz kr (by omega) (by omega) (by omega)];exact e
 have zc:AK eQq B0 Hz kc cons:=ro.imp id λe=>by rw[kz kc a3 (by omega) (by omega)];exact e
 have all:=(GL z3).2.2;have cse:=aO tp ix kr kc RL cons
 obtain⟨ge,hge⟩:∃g,g=BI [.t (iv tp),.t (iv ix),.t Au,Ax eEC kr RL,Ax eQq kc cons]:=⟨_,rfl⟩
 rw[<-hge]at all cse;have sw:=aN z2 (p:=ge) cse;have Sw:=Sz.upd (b:=nx) (by omega) v2 (mRw tp ix (Ax eEC kr RL) (Ax eQq kc cons));have Qw:=Qz.upd (b:=nx) (Xe _) (mRw tp ix (Ax eEC kr RL) (Ax eQq kc cons))
 obtain⟨Hw,hHw⟩:∃Hw,Hw=Xd Hz nx (mRw tp ix (Ax eEC kr RL) (Ax eQq kc cons)):=⟨_,rfl⟩
 rw[<-hHw]at sw Sw Qw
 have w2:Aj Hw nx=some (mRw tp ix (Ax eEC kr RL) (Ax eQq kc cons)):=by rw[hHw,A7,zu rfl,z2];rfl
 have wr:AK eEC AH Hw kr RL:=zr.imp id λe=>by rw[hHw,A7,zw (by omega)];exact e
 have wc:AK eQq B0 Hw kc cons:=zc.imp id λe=>by rw[hHw,A7,zw (by omega)];exact e
 refine A3 An ?_;simp -implicitDefEqProofs [all,sw]
 obtain⟨Hv,hHv⟩:∃Hv,Hv=Cg Hw [kr,kc]:=⟨_,rfl⟩
 refine B4 (s':=⟨[(2,.ptr nx 0)],Hv,ny,97⟩) (by rw[hHv];exact F8 [kr,kc] (by simp -implicitDefEqProofs [FA])) rfl ?_;have Sv:=Sw.frz (F:=[kr,kc]) (by simp;omega) (by simp;omega);rw[<-hHv]at Sv
 have v2':Aj Hv nx=some (mRw tp ix (.t (Ba eEC RL)) (.t (Ba eQq cons))):=by
  rw[hHv,BQ (by simp;omega) w2];show some (Row.cells Ct [.t (iv tp),.t (iv ix),.t Au,BO Hw [kr,kc] (Ax eEC kr RL),BO Hw [kr,kc] (Ax eQq kc cons)])=_;rw[Fh wr (by simp),Fh wc (by simp)];rfl
 have al2:=(GL v2').2.2;rw[show BI [.t (iv tp),.t (iv ix),.t Au,.t (Ba eEC RL),.t (Ba eQq cons)] = .t (.ag [iv tp,iv ix,Au,Ba eEC RL,Ba eQq cons])from rfl]at al2;refine AV An ?_;simp -implicitDefEqProofs;refine Bp ⟨.t (.ag [iv tp,iv ix,Au,Ba eEC RL,Ba eQq cons]),Hv,ny⟩ ⟨by rw[hO,hRL];rfl,⟨kw,jy,by rw[hO];exact Sv,⟨Qw.v,λc x h1 h2 h3 h4 h5=>?_,Qw.n,λh=>by show Frs Hv ny;rw[hHv];exact Frs.frz (Qw.fr h) [kr,kc]⟩⟩⟩ (by simp -implicitDefEqProofs [al2]);show Aj Hv c=some x;rw[hHv,BQ (by simp;omega) (Qw.k c x h1 h2 h3 h4 h5),h5.frz (F:=[kr,kc]) (by simp;omega)]
end
def Gi:List T->Option T
 | [.ag [.v (.string s),.v (.int .i64 i),.v (.int .i64 e),_,_],.v (.int .u8 c)]=>
  if 0<=i/\0<=c/\c<256 then some (bv (AR (Yr c.toNat) ⟨(wb s).drop i.toNat,e,[]⟩))else none
 | _=>none
theorem Rt:GOK Xc (G q) 97 Gi:=λargs r hr=>by
 unfold Gi at hr;split at hr
 .rename_i s i e u v c;split at hr
  .rename_i h;injection hr with hr;subst hr
   obtain⟨n,rfl⟩:∃n:Nat,i=(n:Int):=⟨i.toNat,by omega⟩
   obtain⟨d,rfl⟩:∃d:UInt8,c=(d.toNat:Int):=⟨Yr c.toNat,by
    rw[UInt8.toNat_ofNat'];omega⟩
   have:=xI (q:=q) (s:=s) (i:=n) (r:=⟨(wb s).drop n,e,[]⟩) (u:=u) (v:=v) rfl d;rw[X1,X1,Ys];exact this
  .cases hr
 .cases hr
section
variable {s : ByteArray} {ks kt i ks0 kt0 : Nat} {r : Rs} {H H0 : Ak} {nx nx' n0 : Nat}
theorem yE (S:RqS s ks kt i r H nx) (c:UInt8):Gi [rqT s i r,.v (.int .u8 (c.toNat:Int))]=some (bv (AR c r)):=by
 have hc:(c.toNat:Int)<256:=by have:=c.toNat_lt;omega
 unfold Gi rqT;simp only;rw[zu ⟨by omega,by omega,hc⟩,X1,X1,Ys];rw[<-S.rest];rfl
theorem KB {Φ:AP} (S:RqS s ks kt i r H nx) (c:UInt8) (hΦ:∀a,Φ 97 a=Gi a) (n:Nat):A0 Φ H n (.call 97) [rqP s ks kt i r,u8c c]=some (.t (bv (AR c r)),H,n):=by
 obtain⟨F,hF⟩:=xH S;have hT:Bn H [rqP s ks kt i r,u8c c]=some ([rqT s i r,.v (.int .u8 (c.toNat:Int))],F++([]++[])):=Ew hF (Ew (F:=[]) rfl rfl);rw[CW,hT];show(Φ 97 _).map _=_;rw[hΦ,yE S c];simp only[Option.map_some];rw[show De (bv (AR c r))=true from rfl];simp
structure RqJ (s:ByteArray) (ks0 kt0:Nat) (H0:Ak) (n0 nx:Nat) (i:Nat) (r:Rs) (ks kt:Nat) (H:Ak) (nx':Nat):Prop where
 S:RqS s ks kt i r H nx'
 k:∀c,c<nx->c≠ks0->c≠kt0->Aj H c=Aj H0 c
 n:nx+2<=nx'
 fr:Frs H0 n0->Frs H nx'
 vs:ks=ks0\/nx+2<=ks
 vt:kt=kt0\/nx+2<=kt
 x0:Aj H nx=some (rqR s ks kt i r)
 x1:Aj H (nx+1)=some zqR
 l0:ks0<nx
 l1:kt0<nx
theorem RqJ.first (S:RqS s ks kt i r H nx) {H1:Ak} (hH1:H1=(nx+1,zqR)::(nx,rqR s ks kt i r)::H):RqJ s ks kt H nx nx i r ks kt H1 (nx+2):=by
 obtain⟨a,b,c,d⟩:=Ri S hH1;exact⟨a,λc h _ _=>b.k c h,Xe _,b.fr,.inl rfl,.inl rfl,c,d,S.ls,S.lt⟩
theorem RqJ.all (J:RqJ s ks0 kt0 H0 n0 nx i r ks kt H nx'):AD true 5 H (.ptr nx 0)=some (rqP s ks kt i r):=(ldQ J.x0).all
theorem RqJ.set (J:RqJ s ks0 kt0 H0 n0 nx i r ks kt H nx') {ks' kt' i' n2:Nat} {r':Rs} {H':Ak} (S:RqS s ks' kt' i' r' H' n2) (K:Kq ks kt H nx' ks' kt' H' n2) :
  ∃H'',AO 5 H' (.ptr nx 0) (rqP s ks' kt' i' r')=some H''/\RqJ s ks0 kt0 H0 n0 nx i' r' ks' kt' H'' n2/\(∀c,nx+2<=c->c<nx'->c≠ks->c≠kt->Aj H'' c=Aj H c)/\∀c,c≠nx->Aj H'' c=Aj H' c:=by
 have a1:=J.n;have a2:=J.vs;have a3:=J.vt;have a4:=J.l0;have a5:=J.l1;have b1:=K.n;have b2:=K.s;have b3:=K.t
 have x0:Aj H' nx=some (rqR s ks kt i r):=by rw[K.k nx (by omega) (by omega) (by omega)];exact J.x0
 refine⟨_,Ms x0 rfl s ks' kt' i' r',⟨S.upd' (by omega) (by omega) _,λc h h1 h2=>?_,by omega,λh=>(K.fr (J.fr h)).upd,by omega,by omega,?_,?_,a4,a5⟩,λc h h1 h2 h3=>?_,λc h=>by rw[A7,zw h]⟩
 .rw[A7,zw (by omega),K.k c (by omega) (by omega) (by omega)];exact J.k c h h1 h2
 .rw[A7,zu rfl,x0];rfl
 .rw[A7,zw (by omega),K.k (nx+1) (by omega) (by omega) (by omega)];exact J.x1
 .rw[A7,zw (by omega),K.k c h1 h2 h3]
theorem RqJ.other (J:RqJ s ks0 kt0 H0 n0 nx i r ks kt H nx') {ko n2:Nat} {H':Ak} (hk:∀c,c<nx'->c≠ko->Aj H' c=Aj H c) (h1:nx+2<=ko) (h2:ko≠ks) (h3:ko≠kt) (hn:nx'<=n2) (hf:Frs H nx'->Frs H' n2):RqJ s ks0 kt0 H0 n0 nx i r ks kt H' n2:=by
 have a1:=J.n;have a2:=J.S.ls;have a3:=J.S.lt;have a4:=J.l0;have a5:=J.l1
 exact⟨⟨J.S.vs.imp id λe=>by rw[hk ks a2 h2.symm];exact e,J.S.vt.imp id λe=>by rw[hk kt a3 h3.symm];exact e,J.S.rest,J.S.hi,by omega,by omega,J.S.ne⟩,
  λc h g1 g2=>by rw[hk c (by omega) (by omega)];exact J.k c h g1 g2,by omega,λh=>hf (J.fr h),J.vs,J.vt,by rw[hk nx (by omega) (by omega)];exact J.x0,by rw[hk (nx+1) (by omega) (by omega)];exact J.x1,a4,a5⟩
end
def Own (nx n ks kt:Nat) (H H':Ak):Prop:=∀c,nx+2<=c->c<n->c≠ks->c≠kt->Aj H' c=Aj H c
section
variable {s : ByteArray} {ks kt i ks0 kt0 : Nat} {r : Rs} {H H0 : Ak} {nx n n0 : Nat}
theorem Jq (J:RqJ s ks0 kt0 H0 n0 nx i r ks kt H n) {t:ByteArray} (ht:t.size<=1000) (hs:s.size<=1000000000):∃i' H' n' tb H'',tb [rqP s ks kt i r,.t (sv t)] H n=some (rqP s ks kt i' (AC (wb t) r),H',n')/\HOK Xc (G q) 60 tb /\
  AO 5 H' (.ptr nx 0) (rqP s ks kt i' (AC (wb t) r))=some H''/\RqJ s ks0 kt0 H0 n0 nx i' (AC (wb t) r) ks kt H'' n'/\n<=n'/\Own nx n ks kt H H'':=by
 obtain⟨H',i',n',tb,S,K,t1,t2⟩:=Rj (q:=q) J.S ht hs;obtain⟨H'',s1,J1,o1,_⟩:=J.set S (K.kq ks kt);exact⟨i',H',n',tb,H'',t1,t2,s1,J1,K.n,o1⟩
theorem aR (J:RqJ s ks0 kt0 H0 n0 nx i r ks kt H n) {big:Bool} {lo hi:UInt8} (hok:∀c,okC big c=btB c lo hi) (hs:s.size<=1000000000):∃i' H' n' tb H'',tb [rqP s ks kt i r,u8c lo,u8c hi] H n=some (BD (rqP s ks kt i' (Bt big r).1) (.t (sv (Bt big r).2)),H',n')/\HOK Xc (G q) 98 tb /\
  AO 5 H' (.ptr nx 0) (rqP s ks kt i' (Bt big r).1)=some H''/\RqJ s ks0 kt0 H0 n0 nx i' (Bt big r).1 ks kt H'' n'/\n<=n'/\Own nx n ks kt H H'':=by
 obtain⟨H',i',n',tb,S,K,t1,t2⟩:=xM (q:=q) J.S hok hs;obtain⟨H'',s1,J1,o1,_⟩:=J.set S (K.kq ks kt);exact⟨i',H',n',tb,H'',t1,t2,s1,J1,K.n,o1⟩
theorem O6 (J:RqJ s ks0 kt0 H0 n0 nx i r ks kt H n) (hs:s.size<=1000000000) (hmu:muR r<=1000000000):∃i' ks' kt' H' n' tb H'',tb [rqP s ks kt i r] H n=some (BD (rqP s ks' kt' i' (AW r).1) (.t (iv (AW r).2)),H',n')/\HOK Xc (G q) 59 tb /\
  AO 5 H' (.ptr nx 0) (rqP s ks' kt' i' (AW r).1)=some H''/\RqJ s ks0 kt0 H0 n0 nx i' (AW r).1 ks' kt' H'' n'/\n<=n'/\Own nx n ks kt H H''/\(ks'=ks\/n<=ks')/\(kt'=kt\/n<=kt'):=by
 obtain⟨H',ks',kt',i',n',tb,S,K,t1,t2⟩:=aD (q:=q) J.S hs hmu;obtain⟨H'',s1,J1,o1,_⟩:=J.set S K;exact⟨i',ks',kt',H',n',tb,H'',t1,t2,s1,J1,K.n,o1,K.s,K.t⟩
theorem Ru (J:RqJ s ks0 kt0 H0 n0 nx i r ks kt H n) {t:ByteArray} (ht:t.size<=1000) (hs:s.size<=1000000000):∃i' H' n' tb H'',tb [rqP s ks kt i r,.t (sv t)] H n=some (rqP s ks kt i' (AC (wb t) r),H',n')/\HOK Xc (G q) 60 tb /\
  AO 5 H' (.ptr (nx+1) 0) (rqP s ks kt i' (AC (wb t) r))=some H''/\AD true 5 H'' (.ptr (nx+1) 0)=some (rqP s ks kt i' (AC (wb t) r))/\RqS s ks kt i' (AC (wb t) r) H'' n'/\(∀c,c<nx->c≠ks0->c≠kt0->Aj H'' c=Aj H0 c)/\(Frs H0 n0->Frs H'' n')/\(∀c,nx+2<=c->c<n->Aj H'' c=Aj H c)/\n<=n':=by
 obtain⟨H',i',n',tb,S,K,t1,t2⟩:=Rj (q:=q) J.S ht hs;have a1:=J.n;have a2:=J.vs;have a3:=J.vt;have a4:=J.l0;have a5:=J.l1;have b1:=K.n
 have x1:Aj H' (nx+1)=some zqR:=by rw[K.k (nx+1) (by omega)];exact J.x1
 obtain⟨p1,p2⟩:=RqI.ret (s:=s) (H:=H') (nx:=nx) (H0:=H) (n:=0) (r':=AC (wb t) r) (i':=i') (ks':=ks) (kt':=kt) x1;refine⟨i',H',n',tb,_,t1,t2,p1,p2,S.upd' (by omega) (by omega) _,λc h h1 h2=>?_,λh=>(K.fr (J.fr h)).upd,λc h1 h2=>?_,b1⟩
 .rw[A7,zw (by omega),K.k c (by omega)];exact J.k c h h1 h2
 .rw[A7,zw (by omega),K.k c h2]
theorem yF (c:UInt8):okC false c=btB c 97 122:=rfl
theorem yG (c:UInt8):okC true c=btB c 65 90:=rfl
def EU (n:Nat) (r:Rs):Rs×List Ag:=if AR 41 r then(EB r,[])else(AC [41] (Cz n r []).1,(Cz n r []).2)
def I0 (m:Nat) (r:Rs) (out:List Ag):Rs×List Ag:=if out=[]/\AR 41 r=true then(r,out)else Cz m r out
theorem yH {c:UInt8} {r:Rs} (h:AR c r=true):AC [c] r=EB r:=by
 obtain⟨h1,q,h2⟩:=Jk h;obtain⟨a,e,l⟩:=r;simp only at h1 h2;subst h1;subst h2;simp[AC,EB]
theorem yI (n:Nat) (r:Rs):EU n r=(AC [41] (I0 n r []).1,(I0 n r []).2):=by
 unfold EU I0
 cases h:AR 41 r with
 | true=>rw[zu rfl,zu ⟨rfl,rfl⟩,yH h]
 | false=>rw[zw (by decide),zw (λe=>by cases e.2)]
theorem yJ (n:Nat) (r:Rs):Bl n r=((EU n (Ci r).1).1,⟨(Ci r).2.2,(Ci r).2.1,(EU n (Ci r).1).2⟩):=by
 unfold Bl EU;split<;>rfl
structure ArC where
 H:Ak
 ks:Nat
 kt:Nat
 i:Nat
 n:Nat
 r:Rs
 ko:Nat
 out:List Ag
 m:Nat
def SAr (nx:Nat) (c:ArC):Am:=⟨[(4,.row c.ko 0 c.out.length 2),(2,.ptr (nx+1) 0),(1,.ptr nx 0)],c.H,c.n,47⟩
structure ArI (s:ByteArray) (ks0 kt0:Nat) (H0:Ak) (nx:Nat) (c:ArC):Prop where
 J:RqJ s ks0 kt0 H0 nx nx c.i c.r c.ks c.kt c.H c.n
 o:Aj c.H c.ko=some (A5 eAg tyA c.out)
 o1:nx+2<=c.ko
 o2:c.ko<c.n
 o3:c.ko≠c.ks
 o4:c.ko≠c.kt
structure yK (s:ByteArray) (ks kt:Nat) (o:Rs×List Ag) (H:Ak) (nx:Nat) (f:Fin):Prop where
 ex:∃i' ks' kt' ko,f.r=BD (rqP s ks' kt' i' o.1) (.row ko 0 o.2.length 2)/\RqS s ks' kt' i' o.1 f.H f.nx/\Kq ks kt H nx ks' kt' f.H f.nx/\Aj f.H ko=some (A5 eAg tyA o.2)/\nx<=ko/\ko<f.nx/\ko≠ks'/\ko≠kt'
theorem yL (S:RqS s ks kt i r H nx) (hs:s.size<=1000000000) (hmu:muR r<=1000000000) {n:Nat} (hn:r.rest.length<n) (hn2:n<=1000000000) :
  ∃f:Fin,yK s ks kt (EU n r) H nx f/\B3 Xc (G q) 99 [rqP s ks kt i r] H nx f.r f.H f.nx:=by
 obtain⟨O,hO⟩:∃O,O=EU n r:=⟨_,rfl⟩
 rw[<-hO];rw[yI]at hO
 obtain⟨Y,hY⟩:∃Y,Y=I0 n r []:=⟨_,rfl⟩
 rw[<-hY]at hO;have cs:=Iy s ks kt i r
 obtain⟨p,hp⟩:∃p,p=rqP s ks kt i r:=⟨_,rfl⟩
 rw[<-hp]at cs ⊢
 obtain⟨H1,hH1⟩:∃H1:Ak,H1=(nx+1,zqR)::(nx,rqR s ks kt i r)::H:=⟨_,rfl⟩
 have J1:=RqJ.first S hH1
 refine pS.callX rfl ?_;(conv in Vy=>cbv);refine A3 An ?_;simp -implicitDefEqProofs [cs];refine B4 (s':=⟨[(2,.ptr (nx+1) 0),(1,.ptr nx 0)],H1,nx+2,47⟩) (by rw[hH1];exact Aw (by simp -implicitDefEqProofs)) rfl ?_;have bs0:BB tyA 2 [.string ⟨#[]⟩,.int .i64 0] 0 [] (nx+2)=some (.row (nx+2) 0 0 2,.cells tyA []):=rfl
 obtain⟨H2,hH2⟩:∃H2:Ak,H2=(nx+2,.cells tyA [])::H1:=⟨_,rfl⟩
 have J2:RqJ s ks kt H nx nx i r ks kt H2 (nx+3):=J1.other (ko:=nx+2) (λc h _=>by rw[hH2,A9,zw (by omega)]) (Xe _) (by have:=S.ls;omega) (by have:=S.lt;omega) (Xh _) (λh=>by rw[hH2];exact h.cons (Xg _) (Xh _));refine A3 An ?_;simp -implicitDefEqProofs [bs0];refine B4 (s':=⟨[(4,.row (nx+2) 0 0 2),(2,.ptr (nx+1) 0),(1,.ptr nx 0)],H2,nx+3,47⟩) (by rw[hH2];exact Aw (by simp -implicitDefEqProofs)) rfl ?_;refine Cp (SAr nx) (λc=>Y=(c.r,c.out)/\ArI s ks kt H nx c) (λ_=>rfl) ?_ ?_
 .refine BA ?_
  refine DH (SAr nx) (λc=>c.m) (λc=>Y=I0 c.m c.r c.out/\c.r.rest.length<c.m/\c.out.length+c.m<=n/\muR c.r<=1000000000/\ArI s ks kt H nx c) ⟨H2,ks,kt,i,nx+3,r,nx+2,[],n⟩ (λ_=>rfl)
   ⟨hY,hn,by simp,hmu,⟨J2,by rw[hH2,A9,zu rfl];rfl,Xe _,Xg _,by have:=S.ls;show nx+2≠ks;omega,by have:=S.lt;show nx+2≠kt;omega⟩⟩ ?_ rfl ?_
  .exact Aw (by simp -implicitDefEqProofs [SAr])
  rintro⟨Ha,kw,kx,j,ny,ra,ko,out,m⟩ ⟨hYm,hrm,hom,hmr,⟨J,o,o1,o2,o3,o4⟩⟩;simp only at hYm hrm hom hmr J o o1 o2 o3 o4;have L:=ldQ J.x0;have la:=J.all
  obtain⟨m,rfl⟩:∃m',m=m'+1:=⟨m-1,by omega⟩
  obtain⟨on,hon⟩:∃on,on=out.length:=⟨_,rfl⟩
  have C0:Ctx Xc (G q) _:=(AB.cons (Rt (q:=q)) .nil).ctx mixed;have en:=KB (Φ:=orc [(97,Gi)]) J.S 41 (λa=>rfl);rw[show u8c 41 = .t (.v (.int .u8 41))from rfl]at en
  have stop:Y=(ra,out)->(Y=(ra,out)/\ArI s ks kt H nx ⟨Ha,kw,kx,j,ny,ra,ko,out,0⟩):=λe=>⟨e,⟨J,o,o1,o2,o3,o4⟩⟩
  unfold I0 at hYm;refine Cp (λ_:Unit=>SAr nx ⟨Ha,kw,kx,j,ny,ra,ko,out,m⟩) (λ_=>ra.e=0/\Y=Cz (m+1) ra out) (λ_=>rfl) ?_ ?_
  .by_cases he:ra.e=0
   rotate_left
   .have hb:(ra.e==0)=false:=by rw[zp];exact he
    rw[zw (λe=>by rw[Kv he]at e;cases e.2),Cz,zw he]at hYm;refine AV C0 ?_;simp -implicitDefEqProofs [SAr,L.l2,hb];exact A4.mk ⟨Ha,kw,kx,j,ny,ra,ko,out,0⟩ (stop hYm) (Aw (by simp -implicitDefEqProofs [SAr]))
   have hb:(ra.e==0)=true:=by rw[he];rfl
   cases out with
   | nil=>
    have ln0:CV (.row ko 0 0 2)=some (.t (iv 0)):=rfl
    cases hf:AR 41 ra with
    | true=>
     rw[hf]at en;rw[zu ⟨rfl,hf⟩]at hYm;refine AV C0 ?_;simp -implicitDefEqProofs [SAr,L.l2,hb,ln0,la,en,-CW];exact A4.mk ⟨Ha,kw,kx,j,ny,ra,ko,[],0⟩ (stop hYm) (Aw (by simp -implicitDefEqProofs [SAr]))
    | false=>
     rw[hf]at en;rw[zw (λe=>by rw[hf]at e;cases e.2)]at hYm;refine AV C0 ?_;simp -implicitDefEqProofs [SAr,L.l2,hb,ln0,la,en,-CW];exact A4.mk () ⟨he,hYm⟩ (Aw (by simp -implicitDefEqProofs [SAr]))
   | cons a out'=>
    rw[zw (λe=>by cases e.1)]at hYm
    have d0:(((a::out').length:Int)==0)=false:=by rw[zp];simp;omega
    have ln:CV (.row ko 0 (a::out').length 2)=some (.t (iv (((a::out').length:Nat):Int))):=rfl
    obtain⟨on,hon⟩:∃on,on=(a::out').length:=⟨_,rfl⟩
    rw[<-hon]at d0 ln
    have e1:SAr nx ⟨Ha,kw,kx,j,ny,ra,ko,a::out',m+1⟩=⟨[(4,.row ko 0 on 2),(2,.ptr (nx+1) 0),(1,.ptr nx 0)],Ha,ny,47⟩:=by rw[hon];rfl
    rw[e1];refine AV C0 ?_;simp -implicitDefEqProofs [L.l2,hb,ln,d0];exact A4.mk () ⟨he,hYm⟩ (Aw (by simp -implicitDefEqProofs [SAr,hon]))
  rintro _ ⟨he,hYm⟩;rw[Cz,zu he]at hYm
  obtain⟨on,hon⟩:∃on,on=out.length:=⟨_,rfl⟩
  have e1:SAr nx ⟨Ha,kw,kx,j,ny,ra,ko,out,m⟩=⟨[(4,.row ko 0 on 2),(2,.ptr (nx+1) 0),(1,.ptr nx 0)],Ha,ny,47⟩:=by rw[hon];rfl
  rw[e1];refine BA ?_;refine A3 C0 ?_;simp -implicitDefEqProofs;refine A3 C0 ?_;simp -implicitDefEqProofs;obtain⟨jb,Hb1,nb,tb,Hb,tb1,tb2,sb,Jb,nnb,ob_⟩:=aR (q:=q) J yG hs;rw[show u8c 65 = .t (.v (.int .u8 65))from rfl,show u8c 90 = .t (.v (.int .u8 90))from rfl]at tb1;have mub:=KA true ra;have hag:Db ra=((AW (AC [32] (Bt true ra).1)).1,⟨(Bt true ra).2,(AW (AC [32] (Bt true ra).1)).2⟩):=rfl;have lag:=LW ra
  obtain⟨rb,hrb⟩:∃rb,rb=(Bt true ra).1:=⟨_,rfl⟩
  obtain⟨wo,hwo⟩:∃wo,wo=(Bt true ra).2:=⟨_,rfl⟩
  rw[<-hrb]at Jb mub tb1 sb hag;rw[<-hwo]at tb1 hag;obtain⟨x1,x2⟩:=Gh (rqP s kw kx jb rb) (.t (sv wo));have CB:Ctx Xc (G q) _:=AB.nil.ctxH (AG.cons tb2 .nil) mixed;refine A3 CB ?_;simp -implicitDefEqProofs [la,tb1,x1,x2,sb,-B5];refine B4 (s':=⟨[(5,.t (sv wo)),(4,.row ko 0 on 2),(2,.ptr (nx+1) 0),(1,.ptr nx 0)],Hb,nb,47⟩) (Aw (by simp -implicitDefEqProofs)) rfl ?_
  have bo:Aj Hb ko=some (A5 eAg tyA out):=by rw[ob_ ko o1 o2 o3 o4];exact o
  have lb:=Jb.all;obtain⟨jc,Hc1,nc,tc,Hc,tc1,tc2,sc,Jc,nnc,oc_⟩:=Jq (q:=q) Jb (t:=⟨#[32]⟩) (by decide) hs;have muc:=CI (wb ⟨#[32]⟩) rb;rw[show([32]:List UInt8)=wb ⟨#[32]⟩from rfl]at hag
  obtain⟨rc,hrc⟩:∃rc,rc=AC (wb ⟨#[32]⟩) rb:=⟨_,rfl⟩
  rw[<-hrc]at Jc muc tc1 sc hag;have CC:Ctx Xc (G q) _:=AB.nil.ctxH (AG.cons tc2 .nil) mixed;refine A3 CC ?_;simp -implicitDefEqProofs [lb,tc1,sc];refine B4 (s':=⟨[(5,.t (sv wo)),(4,.row ko 0 on 2),(2,.ptr (nx+1) 0),(1,.ptr nx 0)],Hc,nc,47⟩) (Aw (by simp -implicitDefEqProofs)) rfl ?_
  have co:Aj Hc ko=some (A5 eAg tyA out):=by rw[oc_ ko o1 (by omega) o3 o4];exact bo
  have lc:=Jc.all;obtain⟨jd,kd,ld,Hd1,nd,td,Hd,td1,td2,sd,Jd,nnd,od_,vd1,vd2⟩:=O6 (q:=q) Jc hs (by omega);have mud:=ET rc
  obtain⟨rd,hrd⟩:∃rd,rd=(AW rc).1:=⟨_,rfl⟩
  obtain⟨va,hva⟩:∃va,va=(AW rc).2:=⟨_,rfl⟩
  rw[<-hrd]at Jd mud td1 sd hag;rw[<-hva]at td1 hag;obtain⟨y1,y2⟩:=Gh (rqP s kd ld jd rd) (.t (iv va));have CD:Ctx Xc (G q) _:=AB.nil.ctxH (AG.cons td2 .nil) mixed;refine A3 CD ?_;simp -implicitDefEqProofs [lc,td1,y1,y2,sd,-B5];refine B4 (s':=⟨[(6,.t (iv va)),(5,.t (sv wo)),(4,.row ko 0 on 2),(2,.ptr (nx+1) 0),(1,.ptr nx 0)],Hd,nd,47⟩) (Aw (by simp -implicitDefEqProofs)) rfl ?_
  have do_:Aj Hd ko=some (A5 eAg tyA out):=by rw[od_ ko o1 (by omega) o3 o4];exact co
  rw[hag]at hYm lag;simp only at hYm lag;obtain⟨He,ae,be,ce,fe⟩:=LS (by':=24) (nx:=nd) (⟨wo,va⟩:Ag) 2 rfl [.t (sv wo),.t (iv va)] rfl on hon do_ (by omega) (by omega) (by omega);have bdm:∀(Φ:AP) (H:Ak) (nx:Nat),A0 Φ H nx (.build [(0,1),(1,1)] [.string ⟨#[]⟩,.int .i64 0] [0,1]) [.t (sv wo),.t (iv va)]=some (.t (.ag [sv wo,iv va]),H,nx):=λ_ _ _=>rfl;have bsl:=Rn nd wo va;have Je:RqJ s ks kt H nx nx jd rd kd ld He (nd+2):=Jd.other (ko:=ko) (λc h1 h2=>ce c h1 h2) o1 (by omega) (by omega) (by omega) fe;refine A3 An ?_;simp -implicitDefEqProofs [bdm,bsl,ae,-BU]
  obtain⟨out',hout'⟩:∃out',out'=out++[(⟨wo,va⟩:Ag)]:=⟨_,rfl⟩
  rw[<-hout']at be hYm
  have hol:out'.length=on+1:=by rw[hout',Xn,Xx,hon]
  refine B4 (s':=⟨[(4,.row (nd+1) 0 (on+1) 2),(2,.ptr (nx+1) 0),(1,.ptr nx 0)],He,nd+2,47⟩) (Aw (by simp -implicitDefEqProofs)) rfl ?_;have le:=Je.all
  have I:∀c:ArC,c.out=out'->c.ko=nd+1->RqJ s ks kt H nx nx c.i c.r c.ks c.kt c.H c.n->Aj c.H (nd+1)=some (A5 eAg tyA out')->nd+2<=c.n->c.ks=kd->c.kt=ld->ArI s ks kt H nx c:=λc e1 e2 h1 h2 h3 h4 h5=>by
   have g1:=Jd.S.ls;have g2:=Jd.S.lt;refine⟨h1,by rw[e1,e2];exact h2,by rw[e2];omega,by rw[e2];omega,by rw[e2,h4];omega,by rw[e2,h5];omega⟩
  have ee:=KB (Φ:=orc [(97,Gi)]) Je.S 44 (λa=>rfl);rw[show u8c 44 = .t (.v (.int .u8 44))from rfl]at ee
  cases hf2:AR 44 rd with
  | false=>
   rw[hf2]at ee hYm;rw[zw (by decide)]at hYm;refine A3 C0 ?_;simp -implicitDefEqProofs [le,ee,-CW];exact A4.mk ⟨He,kd,ld,jd,nd+2,rd,nd+1,out',0⟩ ⟨hYm,I _ rfl rfl Je be (Xe _) rfl rfl⟩ (Aw (by simp -implicitDefEqProofs [SAr,hol]))
  | true=>
   rw[hf2]at ee hYm;rw[zu rfl]at hYm;refine A3 C0 ?_;simp -implicitDefEqProofs [le,ee,-CW];obtain⟨jg,Hg1,ng,tg,Hg,tg1,tg2,sg,Jg,nng,og_⟩:=Jq (q:=q) Je (t:=⟨#[44,32]⟩) (by decide) hs;have mug:=CI (wb ⟨#[44,32]⟩) rd;have ltg:=Gf hf2 [32];rw[show([44,32]:List UInt8)=wb ⟨#[44,32]⟩from rfl]at hYm ltg
   obtain⟨rg,hrg⟩:∃rg,rg=AC (wb ⟨#[44,32]⟩) rd:=⟨_,rfl⟩
   rw[<-hrg]at Jg mug tg1 sg hYm ltg;have CG:Ctx Xc (G q) _:=AB.nil.ctxH (AG.cons tg2 .nil) mixed
   have go:Aj Hg (nd+1)=some (A5 eAg tyA out'):=by
    have g1:=Jd.S.ls;have g2:=Jd.S.lt;rw[og_ (nd+1) (by have:=Jd.n;omega) (by omega) (by omega) (by omega)];exact be
   have hne:out'≠[]:=by rw[hout'];simp
   refine AV CG ?_;simp -implicitDefEqProofs [le,tg1,sg];exact A4.mk ⟨Hg,kd,ld,jg,ng,rg,nd+1,out',m⟩ ⟨⟨by show Y=I0 m rg out';unfold I0;rw[zw (λe=>hne e.1)];exact hYm,by show rg.rest.length<m;omega,by show out'.length+m<=n;omega,by show muR rg<=_;omega,I _ rfl rfl Jg go nng rfl rfl⟩,Xg m⟩ (Aw (by simp -implicitDefEqProofs [SAr,hol]))
 rintro⟨Ha,kw,kx,j,ny,ra,ko,out,m⟩ ⟨hYe,⟨J,o,o1,o2,o3,o4⟩⟩;simp only at hYe J o o1 o2 o3 o4;rw[hYe]at hO;simp only at hO;have la:=J.all;obtain⟨jb,Hb,nb,tb,Hc,tb1,tb2,sb,lb,Sb,kb,fb,oo,nnb⟩:=Ru (q:=q) J (t:=⟨#[41]⟩) (by decide) hs;rw[show([41]:List UInt8)=wb ⟨#[41]⟩from rfl]at hO
 obtain⟨rb,hrb⟩:∃rb,rb=AC (wb ⟨#[41]⟩) ra:=⟨_,rfl⟩
 rw[<-hrb]at tb1 sb lb Sb hO;have CB:Ctx Xc (G q) _:=AB.nil.ctxH (AG.cons tb2 .nil) mixed;have n1:=J.n
 obtain⟨on,hon⟩:∃on,on=out.length:=⟨_,rfl⟩
 have e1:SAr nx ⟨Ha,kw,kx,j,ny,ra,ko,out,m⟩=⟨[(4,.row ko 0 on 2),(2,.ptr (nx+1) 0),(1,.ptr nx 0)],Ha,ny,47⟩:=by rw[hon];rfl
 rw[e1];refine AV CB ?_;simp -implicitDefEqProofs [la,tb1,sb];exact Bp ⟨BD (rqP s kw kx jb rb) (.row ko 0 on 2),Hc,nb⟩ ⟨jb,kw,kx,ko,by rw[hO,hon],by rw[hO];exact Sb,⟨kb,by show nx<=nb;omega,fb,by have:=J.vs;omega,by have:=J.vt;omega⟩,by rw[hO];show Aj Hc ko=_;rw[oo ko o1 o2];exact o,by omega,by show ko<nb;omega,o3,o4⟩ (by simp -implicitDefEqProofs [BD,lb])
theorem yM (J:RqJ s ks0 kt0 H0 n0 nx i r ks kt H n) (hs:s.size<=1000000000) (hmu:muR r<=1000000000) {k:Nat} (hn:r.rest.length<k) (hn2:k<=1000000000):∃i' ks' kt' ko H' n' tb H'',tb [rqP s ks kt i r] H n=some (BD (rqP s ks' kt' i' (EU k r).1) (.row ko 0 (EU k r).2.length 2),H',n')/\HOK Xc (G q) 99 tb /\
  AO 5 H' (.ptr nx 0) (rqP s ks' kt' i' (EU k r).1)=some H''/\RqJ s ks0 kt0 H0 n0 nx i' (EU k r).1 ks' kt' H'' n'/\n<=n'/\Own nx n ks kt H H''/\(ks'=ks\/n<=ks')/\(kt'=kt\/n<=kt')/\Aj H'' ko=some (A5 eAg tyA (EU k r).2)/\n<=ko/\ko<n'/\ko≠ks'/\ko≠kt':=by
 obtain⟨⟨fr,fH,fn⟩,⟨i',ks',kt',ko,hr,S,K,o,o1,o2,o3,o4⟩,hc⟩:=yL (q:=q) J.S hs hmu hn hn2;simp only at hr S K o o1 o2 o3 o4 hc;subst hr;obtain⟨tb,t1,t2⟩:=hAt hc K.fr;obtain⟨H'',s1,J1,w1,w2⟩:=J.set S K;have:=J.n;exact⟨i',ks',kt',ko,fH,fn,tb,H'',t1,t2,s1,J1,K.n,w1,K.s,K.t,by rw[w2 ko (by omega)];exact o,o1,o2,o3,o4⟩
end
structure KqC (ks kt:Nat) (H:Ak) (nx:Nat) (ks' kt':Nat) (H':Ak) (nx':Nat):Prop where
 k:∀c x,c<nx->c≠ks->c≠kt->Aj H c=some x->DU nx x->Aj H' c=some x
 n:nx<=nx'
 fr:Frs H nx->Frs H' nx'
 s:ks'=ks\/nx<=ks'
 t:kt'=kt\/nx<=kt'
theorem Rv {α:Type} {e:Enc α} {ty b n:Nat} {H:Ak} {l:List α} {F:List Nat} (h:Aj H b=some (A5 e ty l)) (hn:n=l.length) (hb:b∈F):BO H F (.row b 0 n e.z) = .t (slT e l):=by
 subst hn;unfold BO;rw[DN h];simp[hb]
theorem yN {α:Type} {e:Enc α} {ty b n:Nat} {H:Ak} {l:List α} {F:List Nat} (h:Aj H b=some (A5 e ty l)) (hn:n=l.length) (hb:b∉F):BO H F (.row b 0 n e.z) = .row b 0 n e.z:=by
 subst hn;unfold BO;rw[DN h];simp[hb]
section
variable {s : ByteArray} {ks kt i ks0 kt0 : Nat} {r : Rs} {H H0 : Ak} {nx n n0 : Nat}
theorem RqJ.base (J:RqJ s ks0 kt0 H0 n0 nx i r ks kt H n):RqJ s ks0 kt0 H n nx i r ks kt H n:=
 ⟨J.S,λ_ _ _ _=>rfl,J.n,λh=>h,J.vs,J.vt,J.x0,J.x1,J.l0,J.l1⟩
theorem RqJ.frz (J:RqJ s ks0 kt0 H0 n0 nx i r ks kt H n) {ka:Nat} (h1:nx+2<=ka) (h2:ka≠ks) (h3:ka≠kt):RqJ s ks0 kt0 (Cg H [ka]) n nx i r ks kt (Cg H [ka]) n:=by
 have g2:ks∉[ka]:=by simp;omega
 have g3:kt∉[ka]:=by simp;omega
 refine⟨⟨J.S.vs.frz g2,J.S.vt.frz g3,J.S.rest,J.S.hi,J.S.ls,J.S.lt,J.S.ne⟩,λ_ _ _ _=>rfl,J.n,λh=>h,J.vs,J.vt,?_,?_,J.l0,J.l1⟩
 .rw[BQ (by simp;omega) J.x0];show some (Row.cells Jo [.t (sv s),.t (iv (i:Int)),.t (iv r.e),BO H [ka] (Ax Ar ks (soL r)),BO H [ka] (Ax Ar kt (diL r))])=_;rw[Gb J.S.vs g2,Gb J.S.vt g3];rfl
 .rw[BQ (by simp;omega) J.x1];rfl
def Gj (k n:Nat) (r:Rs):Rs×List Ep:=(AC [125] (Dv k n r []).1,(Dv k n r []).2)
structure aS where
 H:Ak
 ks:Nat
 kt:Nat
 i:Nat
 n:Nat
 r:Rs
 ko:Nat
 L:List EC
 m:Nat
def SPx (nx:Nat) (c:aS):Am:=⟨[(4,.row c.ko 0 c.L.length 3),(2,.ptr (nx+1) 0),(1,.ptr nx 0)],c.H,c.n,57⟩
structure PdI (s:ByteArray) (ks0 kt0:Nat) (H0:Ak) (nx:Nat) (c:aS):Prop where
 J:RqJ s ks0 kt0 c.H c.n nx c.i c.r c.ks c.kt c.H c.n
 k:∀b x,b<nx->b≠ks0->b≠kt0->Aj H0 b=some x->DU nx x->Aj c.H b=some x
 f:Frs H0 nx->Frs c.H c.n
 o:Aj c.H c.ko=some (A5 eEC AH c.L)
 o1:nx+2<=c.ko
 o2:c.ko<c.n
 o3:c.ko≠c.ks
 o4:c.ko≠c.kt
structure yO (s:ByteArray) (ks kt:Nat) (o:Rs×List Ep) (H:Ak) (nx:Nat) (f:Fin):Prop where
 ex:∃i' ks' kt' ko L,f.r=BD (rqP s ks' kt' i' o.1) (.row ko 0 L.length 3)/\RqS s ks' kt' i' o.1 f.H f.nx/\KqC ks kt H nx ks' kt' f.H f.nx/\Aj f.H ko=some (A5 eEC AH L)/\L.map EC.x=o.2/\nx<=ko/\ko<f.nx/\ko≠ks'/\ko≠kt'
theorem yP (S:RqS s ks kt i r H nx) (hs:s.size<=1000000000) (hmu:muR r<=1000000000) {n:Nat} (hn:r.rest.length<n) (hn2:n<=1000000000) :
  ∃f:Fin,yO s ks kt (Gj n n r) H nx f/\B3 Xc (G q) 61 [rqP s ks kt i r] H nx f.r f.H f.nx:=by
 obtain⟨O,hO⟩:∃O,O=Gj n n r:=⟨_,rfl⟩
 rw[<-hO];unfold Gj at hO
 obtain⟨Y,hY⟩:∃Y,Y=Dv n n r []:=⟨_,rfl⟩
 rw[<-hY]at hO;have cs:=Iy s ks kt i r
 obtain⟨p,hp⟩:∃p,p=rqP s ks kt i r:=⟨_,rfl⟩
 rw[<-hp]at cs ⊢
 obtain⟨H1,hH1⟩:∃H1:Ak,H1=(nx+1,zqR)::(nx,rqR s ks kt i r)::H:=⟨_,rfl⟩
 have J1:=RqJ.first S hH1
 refine pT.callX rfl ?_;(conv in Vz=>cbv);refine A3 An ?_;simp -implicitDefEqProofs [cs];refine B4 (s':=⟨[(2,.ptr (nx+1) 0),(1,.ptr nx 0)],H1,nx+2,57⟩) (by rw[hH1];exact Aw (by simp -implicitDefEqProofs)) rfl ?_;have bs0:BB AH 3 [.string ⟨#[]⟩,.int .i64 0,.slice none 0 0] 0 [] (nx+2)=some (.row (nx+2) 0 0 3,.cells AH []):=rfl
 obtain⟨H2,hH2⟩:∃H2:Ak,H2=(nx+2,.cells AH [])::H1:=⟨_,rfl⟩
 have J2:RqJ s ks kt H nx nx i r ks kt H2 (nx+3):=J1.other (ko:=nx+2) (λc h _=>by rw[hH2,A9,zw (by omega)]) (Xe _) (by have:=S.ls;omega) (by have:=S.lt;omega) (Xh _) (λh=>by rw[hH2];exact h.cons (Xg _) (Xh _));refine A3 An ?_;simp -implicitDefEqProofs [bs0];refine B4 (s':=⟨[(4,.row (nx+2) 0 0 3),(2,.ptr (nx+1) 0),(1,.ptr nx 0)],H2,nx+3,57⟩) (by rw[hH2];exact Aw (by simp -implicitDefEqProofs)) rfl ?_;refine Cp (SPx nx) (λc=>Y=(c.r,c.L.map EC.x)/\PdI s ks kt H nx c) (λ_=>rfl) ?_ ?_
 .refine BA ?_
  refine DH (SPx nx) (λc=>c.m) (λc=>Y=Dv n c.m c.r (c.L.map EC.x)/\c.r.rest.length<c.m/\c.L.length+c.m<=n/\muR c.r<=1000000000/\PdI s ks kt H nx c) ⟨H2,ks,kt,i,nx+3,r,nx+2,[],n⟩ (λ_=>rfl)
   ⟨hY,hn,by simp,hmu,⟨J2.base,λb x h1 h2 h3 h4 _=>(J2.k b h1 h2 h3).trans h4,J2.fr,by rw[hH2,A9,zu rfl];rfl,Xe _,Xg _,by have:=S.ls;show nx+2≠ks;omega,by have:=S.lt;show nx+2≠kt;omega⟩⟩ ?_ rfl ?_
  .exact Aw (by simp -implicitDefEqProofs [SPx])
  rintro⟨Ha,kw,kx,j,ny,ra,ko,L,m⟩ ⟨hYm,hrm,hom,hmr,⟨J,kk,kf,o,o1,o2,o3,o4⟩⟩;simp only at hYm hrm hom hmr J kk kf o o1 o2 o3 o4;have Lq:=ldQ J.x0;have la:=J.all
  obtain⟨m,rfl⟩:∃m',m=m'+1:=⟨m-1,by omega⟩
  have C0:Ctx Xc (G q) _:=(AB.cons (Rt (q:=q)) .nil).ctx mixed;have en:=KB (Φ:=orc [(97,Gi)]) J.S 125 (λa=>rfl);rw[show u8c 125 = .t (.v (.int .u8 125))from rfl]at en
  have stop:Y=(ra,L.map EC.x)->(Y=(ra,L.map EC.x)/\PdI s ks kt H nx ⟨Ha,kw,kx,j,ny,ra,ko,L,0⟩):=λe=>⟨e,⟨J,kk,kf,o,o1,o2,o3,o4⟩⟩
  refine Cp (λ_:Unit=>SPx nx ⟨Ha,kw,kx,j,ny,ra,ko,L,m⟩) (λ_=>ra.e=0/\Y=if AR 59 (Bl n ra).1 then Dv n m (AC [59,32] (Bl n ra).1) (L.map EC.x++[(Bl n ra).2])else((Bl n ra).1,L.map EC.x++[(Bl n ra).2])) (λ_=>rfl) ?_ ?_
  .by_cases he:ra.e=0
   rotate_left
   .have hb:(ra.e==0)=false:=by rw[zp];exact he
    rw[XU _ _ he]at hYm;refine AV C0 ?_;simp -implicitDefEqProofs [SPx,Lq.l2,hb];exact A4.mk ⟨Ha,kw,kx,j,ny,ra,ko,L,0⟩ (stop hYm) (Aw (by simp -implicitDefEqProofs [SPx]))
   have hb:(ra.e==0)=true:=by rw[he];rfl
   cases L with
   | nil=>
    have ln0:CV (.row ko 0 0 3)=some (.t (iv 0)):=rfl
    cases hf:AR 125 ra with
    | true=>
     rw[hf]at en;rw[Yq,XX hf]at hYm;refine AV C0 ?_;simp -implicitDefEqProofs [SPx,Lq.l2,hb,ln0,la,en,-CW];exact A4.mk ⟨Ha,kw,kx,j,ny,ra,ko,[],0⟩ (stop hYm) (Aw (by simp -implicitDefEqProofs [SPx]))
    | false=>
     rw[hf]at en;rw[Oq he (.inr hf)]at hYm;refine AV C0 ?_;simp -implicitDefEqProofs [SPx,Lq.l2,hb,ln0,la,en,-CW];exact A4.mk () ⟨he,hYm⟩ (Aw (by simp -implicitDefEqProofs [SPx]))
   | cons a L'=>
    rw[Oq he (.inl (by simp))]at hYm
    have d0:(((a::L').length:Int)==0)=false:=by rw[zp];simp;omega
    have ln:CV (.row ko 0 (a::L').length 3)=some (.t (iv (((a::L').length:Nat):Int))):=rfl
    obtain⟨on,hon⟩:∃on,on=(a::L').length:=⟨_,rfl⟩
    rw[<-hon]at d0 ln
    have e1:SPx nx ⟨Ha,kw,kx,j,ny,ra,ko,a::L',m+1⟩=⟨[(4,.row ko 0 on 3),(2,.ptr (nx+1) 0),(1,.ptr nx 0)],Ha,ny,57⟩:=by rw[hon];rfl
    rw[e1];refine AV C0 ?_;simp -implicitDefEqProofs [Lq.l2,hb,ln,d0];exact A4.mk () ⟨he,hYm⟩ (Aw (by simp -implicitDefEqProofs [SPx,hon]))
  rintro _ ⟨he,hYm⟩
  obtain⟨on,hon⟩:∃on,on=L.length:=⟨_,rfl⟩
  have e1:SPx nx ⟨Ha,kw,kx,j,ny,ra,ko,L,m⟩=⟨[(4,.row ko 0 on 3),(2,.ptr (nx+1) 0),(1,.ptr nx 0)],Ha,ny,57⟩:=by rw[hon];rfl
  rw[e1];refine BA ?_;refine A3 C0 ?_;simp -implicitDefEqProofs;refine A3 C0 ?_;simp -implicitDefEqProofs;have bsA:BB tyA 2 [.string ⟨#[]⟩,.int .i64 0] 0 [] ny=some (.row ny 0 0 2,.cells tyA []):=rfl
  obtain⟨Hz,hHz⟩:∃Hz:Ak,Hz=(ny,.cells tyA [])::Ha:=⟨_,rfl⟩
  have kz:∀c,c<ny->Aj Hz c=Aj Ha c:=λc h=>by rw[hHz,A9,zw (by omega)]
  have w1:=J.S.ls;have w2:=J.S.lt;have w3:=J.n;have Jz:RqJ s ks kt Ha ny nx j ra kw kx Hz (ny+1):=J.other (ko:=ny) (λc h _=>kz c h) (by omega) (by omega) (by omega) (Xh _) (λh=>by rw[hHz];exact h.cons (Xg _) (Xh _))
  have zo:Aj Hz ko=some (A5 eEC AH L):=by rw[kz ko o2];exact o
  refine A3 An ?_;simp -implicitDefEqProofs [bsA];refine B4 (s':=⟨[(4,.row ko 0 on 3),(2,.ptr (nx+1) 0),(1,.ptr nx 0)],Hz,ny+1,57⟩) (by rw[hHz];exact Aw (by simp -implicitDefEqProofs)) rfl ?_;have lz:=Jz.all;obtain⟨jb,kb,lb,Hb1,nb,tb,Hb,tb1,tb2,sb,Jb,nnb,ob_,vb1,vb2⟩:=O6 (q:=q) Jz hs hmr;have mub:=ET ra;have hhd:Ci ra=(AC [40] (Bt false (AC [58] (AW ra).1)).1,(AW ra).2,(Bt false (AC [58] (AW ra).1)).2):=rfl
  obtain⟨rb,hrb⟩:∃rb,rb=(AW ra).1:=⟨_,rfl⟩
  obtain⟨vl,hvl⟩:∃vl,vl=(AW ra).2:=⟨_,rfl⟩
  rw[<-hrb]at Jb mub tb1 sb hhd;rw[<-hvl]at tb1 hhd;obtain⟨x1,x2⟩:=Gh (rqP s kb lb jb rb) (.t (iv vl));have CB:Ctx Xc (G q) _:=AB.nil.ctxH (AG.cons tb2 .nil) mixed;refine A3 CB ?_;simp -implicitDefEqProofs [lz,tb1,x1,x2,sb,-B5];refine B4 (s':=⟨[(5,.t (iv vl)),(4,.row ko 0 on 3),(2,.ptr (nx+1) 0),(1,.ptr nx 0)],Hb,nb,57⟩) (Aw (by simp -implicitDefEqProofs)) rfl ?_
  have bo:Aj Hb ko=some (A5 eEC AH L):=by rw[ob_ ko o1 (by omega) o3 o4];exact zo
  have lb':=Jb.all;obtain⟨jc,Hc1,nc,tc,Hc,tc1,tc2,sc,Jc,nnc,oc_⟩:=Jq (q:=q) Jb (t:=⟨#[58]⟩) (by decide) hs;have muc:=CI (wb ⟨#[58]⟩) rb;rw[show([58]:List UInt8)=wb ⟨#[58]⟩from rfl]at hhd
  obtain⟨rc,hrc⟩:∃rc,rc=AC (wb ⟨#[58]⟩) rb:=⟨_,rfl⟩
  rw[<-hrc]at Jc muc tc1 sc hhd;have CC:Ctx Xc (G q) _:=AB.nil.ctxH (AG.cons tc2 .nil) mixed;refine A3 CC ?_;simp -implicitDefEqProofs [lb',tc1,sc];refine B4 (s':=⟨[(5,.t (iv vl)),(4,.row ko 0 on 3),(2,.ptr (nx+1) 0),(1,.ptr nx 0)],Hc,nc,57⟩) (Aw (by simp -implicitDefEqProofs)) rfl ?_
  have co:Aj Hc ko=some (A5 eEC AH L):=by rw[oc_ ko o1 (by omega) (by omega) (by omega)];exact bo
  have lc:=Jc.all;obtain⟨jd,Hd1,nd,td,Hd,td1,td2,sd,Jd,nnd,od_⟩:=aR (q:=q) Jc yF hs;rw[show u8c 97 = .t (.v (.int .u8 97))from rfl,show u8c 122 = .t (.v (.int .u8 122))from rfl]at td1;have mud:=KA false rc
  obtain⟨rd,hrd⟩:∃rd,rd=(Bt false rc).1:=⟨_,rfl⟩
  obtain⟨wo,hwo⟩:∃wo,wo=(Bt false rc).2:=⟨_,rfl⟩
  rw[<-hrd]at Jd mud td1 sd hhd;rw[<-hwo]at td1 hhd;obtain⟨y1,y2⟩:=Gh (rqP s kb lb jd rd) (.t (sv wo));have CD:Ctx Xc (G q) _:=AB.nil.ctxH (AG.cons td2 .nil) mixed;refine A3 CD ?_;simp -implicitDefEqProofs [lc,td1,y1,y2,sd,-B5];refine B4 (s':=⟨[(6,.t (sv wo)),(5,.t (iv vl)),(4,.row ko 0 on 3),(2,.ptr (nx+1) 0),(1,.ptr nx 0)],Hd,nd,57⟩) (Aw (by simp -implicitDefEqProofs)) rfl ?_
  have do_:Aj Hd ko=some (A5 eEC AH L):=by rw[od_ ko o1 (by omega) (by omega) (by omega)];exact co
  have ld:=Jd.all;obtain⟨je,He1,ne,te,He,te1,te2,se,Je,nne,oe_⟩:=Jq (q:=q) Jd (t:=⟨#[40]⟩) (by decide) hs;have mue:=CI (wb ⟨#[40]⟩) rd;rw[show([40]:List UInt8)=wb ⟨#[40]⟩from rfl]at hhd
  obtain⟨re,hre⟩:∃re,re=AC (wb ⟨#[40]⟩) rd:=⟨_,rfl⟩
  rw[<-hre]at Je mue te1 se hhd;have CE:Ctx Xc (G q) _:=AB.nil.ctxH (AG.cons te2 .nil) mixed;refine A3 CE ?_;simp -implicitDefEqProofs [ld,te1,se];refine B4 (s':=⟨[(6,.t (sv wo)),(5,.t (iv vl)),(4,.row ko 0 on 3),(2,.ptr (nx+1) 0),(1,.ptr nx 0)],He,ne,57⟩) (Aw (by simp -implicitDefEqProofs)) rfl ?_
  have eo:Aj He ko=some (A5 eEC AH L):=by rw[oe_ ko o1 (by omega) (by omega) (by omega)];exact do_
  have le:=Je.all;have lhd:=LX ra;rw[hhd]at lhd;simp only at lhd;obtain⟨jf,kf',lf,ka,Hf1,nf,tf,Hf,tf1,tf2,sf,Jf,nnf,of_,vf1,vf2,ao,a1,a2,a3,a4⟩:=yM (q:=q) Je hs (by omega) (k:=n) (by omega) hn2;have hpr:=yJ n ra;rw[hhd]at hpr;simp only at hpr;have lpr:=Iu n ra;have mup:=O4 n ra
  obtain⟨rf,hrf⟩:∃rf,rf=(EU n re).1:=⟨_,rfl⟩
  obtain⟨ags,hags⟩:∃ags,ags=(EU n re).2:=⟨_,rfl⟩
  rw[<-hrf]at Jf tf1 sf hpr;rw[<-hags]at tf1 ao hpr;rw[hpr]at hYm lpr mup;simp only at hYm lpr mup
  obtain⟨an,han⟩:∃an,an=ags.length:=⟨_,rfl⟩
  rw[<-han]at tf1;obtain⟨z1,z2⟩:=Gh (rqP s kf' lf jf rf) (.row ka 0 an 2);have CF:Ctx Xc (G q) _:=AB.nil.ctxH (AG.cons tf2 .nil) mixed;refine A3 CF ?_;simp -implicitDefEqProofs [le,tf1,z1,z2,sf,-B5]
  have fo:Aj Hf ko=some (A5 eEC AH L):=by rw[of_ ko o1 (by omega) (by omega) (by omega)];exact eo
  obtain⟨ta,hta⟩:∃ta,ta=slT eAg ags:=⟨_,rfl⟩
  have fza:BO Hf [ka] (.row ka 0 an 2) = .t ta:=by rw[hta];exact Rv ao han (by simp)
  have fzo:BO Hf [ka] (.row ko 0 on 3) = .row ko 0 on 3:=yN fo hon (by simp;omega);have Jg:=Jf.frz (ka:=ka) (by have:=Jf.n;have:=Je.n;omega) a3 a4
  obtain⟨Hg,hHg⟩:∃Hg,Hg=Cg Hf [ka]:=⟨_,rfl⟩
  refine B4 (s':=⟨[(7,.t ta),(6,.t (sv wo)),(5,.t (iv vl)),(4,.row ko 0 on 3),(2,.ptr (nx+1) 0),(1,.ptr nx 0)],Hg,nf,57⟩) (by rw[hHg];exact F8 [ka] (by simp -implicitDefEqProofs [EA,FA,fza,fzo])) rfl ?_;rw[<-hHg]at Jg
  have go:Aj Hg ko=some (A5 eEC AH L):=by rw[hHg,BQ (by simp;omega) fo,Q6]
  have gk:∀b x,b<nx->b≠ks->b≠kt->Aj H b=some x->DU nx x->Aj Hg b=some x:=λb x h1 h2 h3 h4 h5=>by
   have g1:Aj Hf b=some x:=by rw[Jf.k b h1 h2 h3];exact kk b x h1 h2 h3 h4 h5
   rw[hHg,BQ (by simp;omega) g1,h5.frz (by simp;omega)]
  have gf:Frs H nx->Frs Hg nf:=λh=>by rw[hHg];exact Frs.frz (Jf.fr (kf h)) _
  obtain⟨ec,hec⟩:∃ec:EC,ec=⟨⟨wo,vl,ags⟩,[sv wo,iv vl,ta],ta,rfl,by rw[hta];exact IsS.mk ags⟩:=⟨_,rfl⟩
  have ecc:ec.cs=[sv wo,iv vl,ta]:=by rw[hec]
  have ecx:ec.x=⟨wo,vl,ags⟩:=by rw[hec]
  obtain⟨Hh,ah,bh,ch,fh⟩:=LS (by':=48) (nx:=nf) ec 3 rfl [.t (sv wo),.t (iv vl),.t ta] (by show _=ec.cs.map _;rw[ecc];rfl) on hon go (by omega) (by omega) (by omega)
  have bdm:∀(Φ:AP) (H:Ak) (nx:Nat),A0 Φ H nx (.build [(0,1),(1,1),(2,1)] [.string ⟨#[]⟩,.int .i64 0,.slice none 0 0] [0,1,2]) [.t (sv wo),.t (iv vl),.t ta]=some (.t (.ag [sv wo,iv vl,ta]),H,nx):=λ_ _ _=>by rw[hta];rfl
  have bsl:=sQ (sv wo) (iv vl) ta nf;have g1:=Jg.S.ls;have g2:=Jg.S.lt;have g3:=Jg.n;have Jh:RqJ s ks kt Hg nf nx jf rf kf' lf Hh (nf+2):=Jg.other (ko:=ko) (λc h1 h2=>ch c h1 h2) o1 (by omega) (by omega) (by omega) fh;refine A3 An ?_;simp -implicitDefEqProofs [bdm,bsl,ah,-BU]
  obtain⟨L2,hL2⟩:∃L2,L2=L++[ec]:=⟨_,rfl⟩
  have eL:L2.map EC.x=L.map EC.x++[⟨wo,vl,ags⟩]:=by rw[hL2,X9,<-ecx];rfl
  rw[<-hL2]at bh;rw[<-eL]at hYm
  have hol:L2.length=on+1:=by rw[hL2,Xn,Xx,hon]
  refine B4 (s':=⟨[(4,.row (nf+1) 0 (on+1) 3),(2,.ptr (nx+1) 0),(1,.ptr nx 0)],Hh,nf+2,57⟩) (Aw (by simp -implicitDefEqProofs)) rfl ?_;have lh:=Jh.all
  have hk:∀b x,b<nx->b≠ks->b≠kt->Aj H b=some x->DU nx x->Aj Hh b=some x:=λb x h1 h2 h3 h4 h5=>by rw[ch b (by omega) (by omega)];exact gk b x h1 h2 h3 h4 h5
  have hf:Frs H nx->Frs Hh (nf+2):=λh=>fh (gf h);have ee:=KB (Φ:=orc [(97,Gi)]) Jh.S 59 (λa=>rfl);rw[show u8c 59 = .t (.v (.int .u8 59))from rfl]at ee
  cases hf2:AR 59 rf with
  | false=>
   rw[hf2]at ee hYm;rw[zw (by decide)]at hYm;refine A3 C0 ?_;simp -implicitDefEqProofs [lh,ee,-CW];exact A4.mk ⟨Hh,kf',lf,jf,nf+2,rf,nf+1,L2,0⟩ ⟨hYm,⟨Jh.base,hk,hf,bh,by show nx+2<=nf+1;omega,by show nf+1<nf+2;omega,by show nf+1≠kf';omega,by show nf+1≠lf;omega⟩⟩ (Aw (by simp -implicitDefEqProofs [SPx,hol]))
  | true=>
   rw[hf2]at ee hYm;rw[zu rfl]at hYm;refine A3 C0 ?_;simp -implicitDefEqProofs [lh,ee,-CW];obtain⟨jp,Hp1,np,tp,Hp,tp1,tp2,sp,Jp,nnp,op_⟩:=Jq (q:=q) Jh (t:=⟨#[59,32]⟩) (by decide) hs;have mug:=CI (wb ⟨#[59,32]⟩) rf;have ltg:=Gf hf2 [32];rw[show([59,32]:List UInt8)=wb ⟨#[59,32]⟩from rfl]at hYm ltg
   obtain⟨rp,hrp⟩:∃rp,rp=AC (wb ⟨#[59,32]⟩) rf:=⟨_,rfl⟩
   rw[<-hrp]at Jp mug tp1 sp hYm ltg;have CG:Ctx Xc (G q) _:=AB.nil.ctxH (AG.cons tp2 .nil) mixed
   have po:Aj Hp (nf+1)=some (A5 eEC AH L2):=by rw[op_ (nf+1) (by omega) (by omega) (by omega) (by omega)];exact bh
   refine AV CG ?_;simp -implicitDefEqProofs [lh,tp1,sp];exact A4.mk ⟨Hp,kf',lf,jp,np,rp,nf+1,L2,m⟩ ⟨⟨hYm,by show rp.rest.length<m;omega,by show L2.length+m<=n;omega,by show muR rp<=_;omega,⟨Jp.base,λb x h1 h2 h3 h4 h5=>by show Aj Hp b=_;rw[Jp.k b h1 h2 h3];exact gk b x h1 h2 h3 h4 h5,λh=>Jp.fr (gf h),po,by show nx+2<=nf+1;omega,by show nf+1<np;omega,by show nf+1≠kf';omega,by show nf+1≠lf;omega⟩⟩,Xg m⟩ (Aw (by simp -implicitDefEqProofs [SPx,hol]))
 rintro⟨Ha,kw,kx,j,ny,ra,ko,L,m⟩ ⟨hYe,⟨J,kk,kf,o,o1,o2,o3,o4⟩⟩;simp only at hYe J kk kf o o1 o2 o3 o4;rw[hYe]at hO;simp only at hO;have la:=J.all;obtain⟨jb,Hb,nb,tb,Hc,tb1,tb2,sb,lb,Sb,kb,fb,oo,nnb⟩:=Ru (q:=q) J (t:=⟨#[125]⟩) (by decide) hs;rw[show([125]:List UInt8)=wb ⟨#[125]⟩from rfl]at hO
 obtain⟨rb,hrb⟩:∃rb,rb=AC (wb ⟨#[125]⟩) ra:=⟨_,rfl⟩
 rw[<-hrb]at tb1 sb lb Sb hO;have CB:Ctx Xc (G q) _:=AB.nil.ctxH (AG.cons tb2 .nil) mixed;have n1:=J.n;have n2:=J.vs;have n3:=J.vt
 obtain⟨on,hon⟩:∃on,on=L.length:=⟨_,rfl⟩
 have e1:SPx nx ⟨Ha,kw,kx,j,ny,ra,ko,L,m⟩=⟨[(4,.row ko 0 on 3),(2,.ptr (nx+1) 0),(1,.ptr nx 0)],Ha,ny,57⟩:=by rw[hon];rfl
 rw[e1];refine AV CB ?_;simp -implicitDefEqProofs [la,tb1,sb];exact Bp ⟨BD (rqP s kw kx jb rb) (.row ko 0 on 3),Hc,nb⟩ ⟨jb,kw,kx,ko,L,by rw[hO,hon],by rw[hO];exact Sb,⟨λc x h1 h2 h3 h4 h5=>by show Aj Hc c=_;rw[kb c h1 h2 h3];exact kk c x h1 h2 h3 h4 h5,by show nx<=nb;omega,λh=>fb (kf h),by omega,by omega⟩,by show Aj Hc ko=_;rw[oo ko o1 o2];exact o,by rw[hO],by omega,by show ko<nb;omega,o3,o4⟩ (by simp -implicitDefEqProofs [BD,lb])
end
section
variable {s : ByteArray} {ks kt i ks0 kt0 : Nat} {r : Rs} {H H0 : Ak} {nx n n0 : Nat}
def FH (n:Nat) (r:Rs):Rs×List Qq:=(AC [125] (DS n r []).1,(DS n r []).2)
structure CqC where
 H:Ak
 ks:Nat
 kt:Nat
 i:Nat
 n:Nat
 r:Rs
 ko:Nat
 out:List Qq
 m:Nat
def SCq (nx:Nat) (c:CqC):Am:=⟨[(4,.row c.ko 0 c.out.length 2),(2,.ptr (nx+1) 0),(1,.ptr nx 0)],c.H,c.n,47⟩
structure CqI (s:ByteArray) (ks0 kt0:Nat) (H0:Ak) (nx:Nat) (c:CqC):Prop where
 J:RqJ s ks0 kt0 H0 nx nx c.i c.r c.ks c.kt c.H c.n
 o:Aj c.H c.ko=some (A5 eQq B0 c.out)
 o1:nx+2<=c.ko
 o2:c.ko<c.n
 o3:c.ko≠c.ks
 o4:c.ko≠c.kt
structure yQ (s:ByteArray) (ks kt:Nat) (o:Rs×List Qq) (H:Ak) (nx:Nat) (f:Fin):Prop where
 ex:∃i' ks' kt' ko,f.r=BD (rqP s ks' kt' i' o.1) (.row ko 0 o.2.length 2)/\RqS s ks' kt' i' o.1 f.H f.nx/\Kq ks kt H nx ks' kt' f.H f.nx/\Aj f.H ko=some (A5 eQq B0 o.2)/\nx<=ko/\ko<f.nx/\ko≠ks'/\ko≠kt'
theorem yR (S:RqS s ks kt i r H nx) (hs:s.size<=1000000000) (hmu:muR r<=1000000000) {n:Nat} (hn:r.rest.length<n) (hn2:n<=1000000000) :
  ∃f:Fin,yQ s ks kt (FH n r) H nx f/\B3 Xc (G q) 62 [rqP s ks kt i r] H nx f.r f.H f.nx:=by
 obtain⟨O,hO⟩:∃O,O=FH n r:=⟨_,rfl⟩
 rw[<-hO];unfold FH at hO
 obtain⟨Y,hY⟩:∃Y,Y=DS n r []:=⟨_,rfl⟩
 rw[<-hY]at hO;have cs:=Iy s ks kt i r
 obtain⟨p,hp⟩:∃p,p=rqP s ks kt i r:=⟨_,rfl⟩
 rw[<-hp]at cs ⊢
 obtain⟨H1,hH1⟩:∃H1:Ak,H1=(nx+1,zqR)::(nx,rqR s ks kt i r)::H:=⟨_,rfl⟩
 have J1:=RqJ.first S hH1
 refine pU.callX rfl ?_;(conv in V0=>cbv);refine A3 An ?_;simp -implicitDefEqProofs [cs];refine B4 (s':=⟨[(2,.ptr (nx+1) 0),(1,.ptr nx 0)],H1,nx+2,47⟩) (by rw[hH1];exact Aw (by simp -implicitDefEqProofs)) rfl ?_;have bs0:BB B0 2 [.int .i64 0,.int .i64 0] 0 [] (nx+2)=some (.row (nx+2) 0 0 2,.cells B0 []):=rfl
 obtain⟨H2,hH2⟩:∃H2:Ak,H2=(nx+2,.cells B0 [])::H1:=⟨_,rfl⟩
 have J2:RqJ s ks kt H nx nx i r ks kt H2 (nx+3):=J1.other (ko:=nx+2) (λc h _=>by rw[hH2,A9,zw (by omega)]) (Xe _) (by have:=S.ls;omega) (by have:=S.lt;omega) (Xh _) (λh=>by rw[hH2];exact h.cons (Xg _) (Xh _));refine A3 An ?_;simp -implicitDefEqProofs [bs0];refine B4 (s':=⟨[(4,.row (nx+2) 0 0 2),(2,.ptr (nx+1) 0),(1,.ptr nx 0)],H2,nx+3,47⟩) (by rw[hH2];exact Aw (by simp -implicitDefEqProofs)) rfl ?_;refine Cp (SCq nx) (λc=>Y=(c.r,c.out)/\CqI s ks kt H nx c) (λ_=>rfl) ?_ ?_
 .refine BA ?_
  refine DH (SCq nx) (λc=>c.m) (λc=>Y=DS c.m c.r c.out/\c.r.rest.length<c.m/\c.out.length+c.m<=n/\muR c.r<=1000000000/\CqI s ks kt H nx c) ⟨H2,ks,kt,i,nx+3,r,nx+2,[],n⟩ (λ_=>rfl)
   ⟨hY,hn,by simp,hmu,⟨J2,by rw[hH2,A9,zu rfl];rfl,Xe _,Xg _,by have:=S.ls;show nx+2≠ks;omega,by have:=S.lt;show nx+2≠kt;omega⟩⟩ ?_ rfl ?_
  .exact Aw (by simp -implicitDefEqProofs [SCq])
  rintro⟨Ha,kw,kx,j,ny,ra,ko,out,m⟩ ⟨hYm,hrm,hom,hmr,⟨J,o,o1,o2,o3,o4⟩⟩;simp only at hYm hrm hom hmr J o o1 o2 o3 o4;have L:=ldQ J.x0;have la:=J.all
  obtain⟨m,rfl⟩:∃m',m=m'+1:=⟨m-1,by omega⟩
  obtain⟨on,hon⟩:∃on,on=out.length:=⟨_,rfl⟩
  have C0:Ctx Xc (G q) _:=(AB.cons (Rt (q:=q)) .nil).ctx mixed;have en:=KB (Φ:=orc [(97,Gi)]) J.S 125 (λa=>rfl);rw[show u8c 125 = .t (.v (.int .u8 125))from rfl]at en
  have stop:Y=(ra,out)->(Y=(ra,out)/\CqI s ks kt H nx ⟨Ha,kw,kx,j,ny,ra,ko,out,0⟩):=λe=>⟨e,⟨J,o,o1,o2,o3,o4⟩⟩
  refine Cp (λ_:Unit=>SCq nx ⟨Ha,kw,kx,j,ny,ra,ko,out,m⟩) (λ_=>ra.e=0/\Y=if AR 59 (Bw ra).1 then DS m (AC [59,32] (Bw ra).1) (out++[(Bw ra).2])else((Bw ra).1,out++[(Bw ra).2])) (λ_=>rfl) ?_ ?_
  .by_cases he:ra.e=0
   rotate_left
   .have hb:(ra.e==0)=false:=by rw[zp];exact he
    rw[XV _ he]at hYm;refine AV C0 ?_;simp -implicitDefEqProofs [SCq,L.l2,hb];exact A4.mk ⟨Ha,kw,kx,j,ny,ra,ko,out,0⟩ (stop hYm) (Aw (by simp -implicitDefEqProofs [SCq]))
   have hb:(ra.e==0)=true:=by rw[he];rfl
   cases out with
   | nil=>
    have ln0:CV (.row ko 0 0 2)=some (.t (iv 0)):=rfl
    cases hf:AR 125 ra with
    | true=>
     rw[hf]at en;rw[XY hf]at hYm;refine AV C0 ?_;simp -implicitDefEqProofs [SCq,L.l2,hb,ln0,la,en,-CW];exact A4.mk ⟨Ha,kw,kx,j,ny,ra,ko,[],0⟩ (stop hYm) (Aw (by simp -implicitDefEqProofs [SCq]))
    | false=>
     rw[hf]at en;rw[Ot he (.inr hf)]at hYm;refine AV C0 ?_;simp -implicitDefEqProofs [SCq,L.l2,hb,ln0,la,en,-CW];exact A4.mk () ⟨he,hYm⟩ (Aw (by simp -implicitDefEqProofs [SCq]))
   | cons a out'=>
    rw[Ot he (.inl (by simp))]at hYm
    have d0:(((a::out').length:Int)==0)=false:=by rw[zp];simp;omega
    have ln:CV (.row ko 0 (a::out').length 2)=some (.t (iv (((a::out').length:Nat):Int))):=rfl
    obtain⟨on,hon⟩:∃on,on=(a::out').length:=⟨_,rfl⟩
    rw[<-hon]at d0 ln
    have e1:SCq nx ⟨Ha,kw,kx,j,ny,ra,ko,a::out',m+1⟩=⟨[(4,.row ko 0 on 2),(2,.ptr (nx+1) 0),(1,.ptr nx 0)],Ha,ny,47⟩:=by rw[hon];rfl
    rw[e1];refine AV C0 ?_;simp -implicitDefEqProofs [L.l2,hb,ln,d0];exact A4.mk () ⟨he,hYm⟩ (Aw (by simp -implicitDefEqProofs [SCq,hon]))
  rintro _ ⟨he,hYm⟩
  obtain⟨on,hon⟩:∃on,on=out.length:=⟨_,rfl⟩
  have e1:SCq nx ⟨Ha,kw,kx,j,ny,ra,ko,out,m⟩=⟨[(4,.row ko 0 on 2),(2,.ptr (nx+1) 0),(1,.ptr nx 0)],Ha,ny,47⟩:=by rw[hon];rfl
  rw[e1];refine BA ?_;refine A3 C0 ?_;simp -implicitDefEqProofs;refine A3 C0 ?_;simp -implicitDefEqProofs;obtain⟨jb,kb,lb,Hb1,nb,tb,Hb,tb1,tb2,sb,Jb,nnb,ob_,vb1,vb2⟩:=O6 (q:=q) J hs hmr;have mub:=ET ra;have hag:Bw ra=((AW (AC [32,113,101,113,32] (AW ra).1)).1,⟨(AW ra).2,(AW (AC [32,113,101,113,32] (AW ra).1)).2⟩):=rfl;have lag:=Oo ra;have w1:=J.S.ls;have w2:=J.S.lt;have w3:=J.n
  obtain⟨rb,hrb⟩:∃rb,rb=(AW ra).1:=⟨_,rfl⟩
  obtain⟨wo,hwo⟩:∃wo,wo=(AW ra).2:=⟨_,rfl⟩
  rw[<-hrb]at Jb mub tb1 sb hag;rw[<-hwo]at tb1 hag;obtain⟨x1,x2⟩:=Gh (rqP s kb lb jb rb) (.t (iv wo));have CB:Ctx Xc (G q) _:=AB.nil.ctxH (AG.cons tb2 .nil) mixed;refine A3 CB ?_;simp -implicitDefEqProofs [la,tb1,x1,x2,sb,-B5];refine B4 (s':=⟨[(5,.t (iv wo)),(4,.row ko 0 on 2),(2,.ptr (nx+1) 0),(1,.ptr nx 0)],Hb,nb,47⟩) (Aw (by simp -implicitDefEqProofs)) rfl ?_
  have bo:Aj Hb ko=some (A5 eQq B0 out):=by rw[ob_ ko o1 o2 o3 o4];exact o
  have lb':=Jb.all;obtain⟨jc,Hc1,nc,tc,Hc,tc1,tc2,sc,Jc,nnc,oc_⟩:=Jq (q:=q) Jb (t:=⟨#[32,113,101,113,32]⟩) (by decide) hs;have muc:=CI (wb ⟨#[32,113,101,113,32]⟩) rb;rw[show([32,113,101,113,32]:List UInt8)=wb ⟨#[32,113,101,113,32]⟩from rfl]at hag
  obtain⟨rc,hrc⟩:∃rc,rc=AC (wb ⟨#[32,113,101,113,32]⟩) rb:=⟨_,rfl⟩
  rw[<-hrc]at Jc muc tc1 sc hag;have CC:Ctx Xc (G q) _:=AB.nil.ctxH (AG.cons tc2 .nil) mixed;refine A3 CC ?_;simp -implicitDefEqProofs [lb',tc1,sc];refine B4 (s':=⟨[(5,.t (iv wo)),(4,.row ko 0 on 2),(2,.ptr (nx+1) 0),(1,.ptr nx 0)],Hc,nc,47⟩) (Aw (by simp -implicitDefEqProofs)) rfl ?_
  have co:Aj Hc ko=some (A5 eQq B0 out):=by rw[oc_ ko o1 (by omega) (by omega) (by omega)];exact bo
  have lc:=Jc.all;obtain⟨jd,kd,ld,Hd1,nd,td,Hd,td1,td2,sd,Jd,nnd,od_,vd1,vd2⟩:=O6 (q:=q) Jc hs (by omega);have mud:=ET rc
  obtain⟨rd,hrd⟩:∃rd,rd=(AW rc).1:=⟨_,rfl⟩
  obtain⟨va,hva⟩:∃va,va=(AW rc).2:=⟨_,rfl⟩
  rw[<-hrd]at Jd mud td1 sd hag;rw[<-hva]at td1 hag;obtain⟨y1,y2⟩:=Gh (rqP s kd ld jd rd) (.t (iv va));have CD:Ctx Xc (G q) _:=AB.nil.ctxH (AG.cons td2 .nil) mixed;refine A3 CD ?_;simp -implicitDefEqProofs [lc,td1,y1,y2,sd,-B5];refine B4 (s':=⟨[(6,.t (iv va)),(5,.t (iv wo)),(4,.row ko 0 on 2),(2,.ptr (nx+1) 0),(1,.ptr nx 0)],Hd,nd,47⟩) (Aw (by simp -implicitDefEqProofs)) rfl ?_
  have do_:Aj Hd ko=some (A5 eQq B0 out):=by rw[od_ ko o1 (by omega) (by omega) (by omega)];exact co
  rw[hag]at hYm lag;simp only at hYm lag;obtain⟨He,ae,be,ce,fe⟩:=LS (by':=16) (nx:=nd) (⟨wo,va⟩:Qq) 2 rfl [.t (iv wo),.t (iv va)] rfl on hon do_ (by omega) (by omega) (by omega);have bdm:∀(Φ:AP) (H:Ak) (nx:Nat),A0 Φ H nx (.build [(0,1),(1,1)] [.int .i64 0,.int .i64 0] [0,1]) [.t (iv wo),.t (iv va)]=some (.t (.ag [iv wo,iv va]),H,nx):=λ_ _ _=>rfl;have bsl:BB B0 2 [.int .i64 0,.int .i64 0] 1 [(0,.t (.ag [iv wo,iv va]))] nd=some (.row nd 0 1 2,.cells B0 [.t (iv wo),.t (iv va)]):=rfl;have Je:RqJ s ks kt H nx nx jd rd kd ld He (nd+2):=Jd.other (ko:=ko) (λc h1 h2=>ce c h1 h2) o1 (by omega) (by omega) (by omega) fe;refine A3 An ?_;simp -implicitDefEqProofs [bdm,bsl,ae,-BU]
  obtain⟨out',hout'⟩:∃out',out'=out++[(⟨wo,va⟩:Qq)]:=⟨_,rfl⟩
  rw[<-hout']at be hYm
  have hol:out'.length=on+1:=by rw[hout',Xn,Xx,hon]
  refine B4 (s':=⟨[(4,.row (nd+1) 0 (on+1) 2),(2,.ptr (nx+1) 0),(1,.ptr nx 0)],He,nd+2,47⟩) (Aw (by simp -implicitDefEqProofs)) rfl ?_;have le:=Je.all
  have I:∀c:CqC,c.out=out'->c.ko=nd+1->RqJ s ks kt H nx nx c.i c.r c.ks c.kt c.H c.n->Aj c.H (nd+1)=some (A5 eQq B0 out')->nd+2<=c.n->c.ks=kd->c.kt=ld->CqI s ks kt H nx c:=λc e1 e2 h1 h2 h3 h4 h5=>by
   have g1:=Jd.S.ls;have g2:=Jd.S.lt;refine⟨h1,by rw[e1,e2];exact h2,by rw[e2];omega,by rw[e2];omega,by rw[e2,h4];omega,by rw[e2,h5];omega⟩
  have ee:=KB (Φ:=orc [(97,Gi)]) Je.S 59 (λa=>rfl);rw[show u8c 59 = .t (.v (.int .u8 59))from rfl]at ee
  cases hf2:AR 59 rd with
  | false=>
   rw[hf2]at ee hYm;rw[zw (by decide)]at hYm;refine A3 C0 ?_;simp -implicitDefEqProofs [le,ee,-CW];exact A4.mk ⟨He,kd,ld,jd,nd+2,rd,nd+1,out',0⟩ ⟨hYm,I _ rfl rfl Je be (Xe _) rfl rfl⟩ (Aw (by simp -implicitDefEqProofs [SCq,hol]))
  | true=>
   rw[hf2]at ee hYm;rw[zu rfl]at hYm;refine A3 C0 ?_;simp -implicitDefEqProofs [le,ee,-CW];obtain⟨jg,Hg1,ng,tg,Hg,tg1,tg2,sg,Jg,nng,og_⟩:=Jq (q:=q) Je (t:=⟨#[59,32]⟩) (by decide) hs;have mug:=CI (wb ⟨#[59,32]⟩) rd;have ltg:=Gf hf2 [32];rw[show([59,32]:List UInt8)=wb ⟨#[59,32]⟩from rfl]at hYm ltg
   obtain⟨rg,hrg⟩:∃rg,rg=AC (wb ⟨#[59,32]⟩) rd:=⟨_,rfl⟩
   rw[<-hrg]at Jg mug tg1 sg hYm ltg;have CG:Ctx Xc (G q) _:=AB.nil.ctxH (AG.cons tg2 .nil) mixed
   have go:Aj Hg (nd+1)=some (A5 eQq B0 out'):=by
    have g1:=Jd.S.ls;have g2:=Jd.S.lt;rw[og_ (nd+1) (by have:=Jd.n;omega) (by omega) (by omega) (by omega)];exact be
   have hne:out'≠[]:=by rw[hout'];simp
   refine AV CG ?_;simp -implicitDefEqProofs [le,tg1,sg];exact A4.mk ⟨Hg,kd,ld,jg,ng,rg,nd+1,out',m⟩ ⟨⟨hYm,by show rg.rest.length<m;omega,by show out'.length+m<=n;omega,by show muR rg<=_;omega,I _ rfl rfl Jg go nng rfl rfl⟩,Xg m⟩ (Aw (by simp -implicitDefEqProofs [SCq,hol]))
 rintro⟨Ha,kw,kx,j,ny,ra,ko,out,m⟩ ⟨hYe,⟨J,o,o1,o2,o3,o4⟩⟩;simp only at hYe J o o1 o2 o3 o4;rw[hYe]at hO;simp only at hO;have la:=J.all;obtain⟨jb,Hb,nb,tb,Hc,tb1,tb2,sb,lb,Sb,kb,fb,oo,nnb⟩:=Ru (q:=q) J (t:=⟨#[125]⟩) (by decide) hs;rw[show([125]:List UInt8)=wb ⟨#[125]⟩from rfl]at hO
 obtain⟨rb,hrb⟩:∃rb,rb=AC (wb ⟨#[125]⟩) ra:=⟨_,rfl⟩
 rw[<-hrb]at tb1 sb lb Sb hO;have CB:Ctx Xc (G q) _:=AB.nil.ctxH (AG.cons tb2 .nil) mixed;have n1:=J.n
 obtain⟨on,hon⟩:∃on,on=out.length:=⟨_,rfl⟩
 have e1:SCq nx ⟨Ha,kw,kx,j,ny,ra,ko,out,m⟩=⟨[(4,.row ko 0 on 2),(2,.ptr (nx+1) 0),(1,.ptr nx 0)],Ha,ny,47⟩:=by rw[hon];rfl
 rw[e1];refine AV CB ?_;simp -implicitDefEqProofs [la,tb1,sb];exact Bp ⟨BD (rqP s kw kx jb rb) (.row ko 0 on 2),Hc,nb⟩ ⟨jb,kw,kx,ko,by rw[hO,hon],by rw[hO];exact Sb,⟨kb,by show nx<=nb;omega,fb,by have:=J.vs;omega,by have:=J.vt;omega⟩,by rw[hO];show Aj Hc ko=_;rw[oo ko o1 o2];exact o,by omega,by show ko<nb;omega,o3,o4⟩ (by simp -implicitDefEqProofs [BD,lb])
end
structure Rw {α:Type} (e:Enc α) (ty:Nat) (l:List α) (H:Ak) (nx:Nat) (f:Fin):Prop where
 r:f.r=Ax e (nx+1) l
 n:f.nx=nx+2
 at_:AK e ty f.H (nx+1) l
 k:∀c,c<nx->Aj f.H c=Aj H c
 fr:Frs H nx->Frs f.H f.nx
theorem yS {H:Ak} {nx:Nat} {l:List EC} (hl:l.length<=1000000) :
  ∃f:Fin,Rw eEC AH l H nx f/\B3 Xc (G q) 92 [.t (Ba eEC l)] H nx f.r f.H f.nx:=by
 refine rJ.callX rfl ?_;(conv in WB=>cbv)
 cases l with
 | nil=>
  have ev:∀(Φ:AP) (H:Ak) (nx:Nat),A0 Φ H nx (.bin false .eql (some .sl)) [.t Au,.t (.v (.slice none 0 0))]=some (.t (.v (.bool true)),H,nx):=λ_ _ _=>rfl;rw[show Ba eEC []=Au from rfl];refine B4 (EN (nx':=nx+2) (by simp -implicitDefEqProofs)) rfl ?_;refine A3 An ?_;simp -implicitDefEqProofs;refine A3 An ?_;simp -implicitDefEqProofs [ev];exact Bp ⟨.t Au,H,nx+2⟩ ⟨rfl,rfl,.inl rfl,λ_ _=>rfl,λh=>h.mono (by show nx<=nx+2;omega)⟩ (by simp -implicitDefEqProofs)
 | cons x r=>
  obtain⟨l,hL⟩:∃l,l=x::r:=⟨_,rfl⟩
  have hne:l≠[]:=by rw[hL];simp
  have ht:Ba eEC (x::r)=slT eEC l:=by rw[hL];rfl
  rw[ht,<-hL];rw[<-hL]at hl;have hs:CM ((nx,.cells AH [])::H) (eEC).z (.t (slT eEC l))=some (l.length,(l.flatMap (eEC).enc).map .t):=JL (.inr rfl);have ap:=JU (e:=eEC) (ty:=AH) (b:=nx) (l:=[]) (H:=(nx,.cells AH [])::H) (by':=48) (nx:=nx+1) (m:=l) (by rw[A9,zu rfl];rfl) hs (by simp;omega) (by simp;omega);rw[Xq]at ap;have hz:(eEC).z=3:=rfl;rw[hz]at ap
  obtain⟨H2,hH2⟩:∃H2:Ak,H2=(nx+1,A5 eEC AH l)::rem ((nx,.cells AH [])::H) nx:=⟨_,rfl⟩
  have ap:Dp AH 3 48 ((nx,.cells AH [])::H) (nx+1) (.row nx 0 0 3) (.t (slT eEC l))=some (.row (nx+1) 0 l.length 3,H2,nx+2):=by rw[hH2];exact ap
  have bs:∀k,BB AH 3 [.string ⟨#[]⟩,.int .i64 0,.slice none 0 0] 0 [] k=some (.row k 0 0 3,.cells AH []):=λk=>rfl;have ev:∀(Φ:AP) (H:Ak) (nx:Nat),A0 Φ H nx (.bin false .eql (some .sl)) [.t (slT eEC l),.t (.v (.slice none 0 0))]=some (.t (.v (.bool false)),H,nx):=λ_ _ _=>rfl;refine A3 An ?_;simp -implicitDefEqProofs;refine A3 An ?_;simp -implicitDefEqProofs [ev];refine AV An ?_;simp -implicitDefEqProofs [bs,ap]
  exact Bp ⟨.row (nx+1) 0 l.length 3,H2,nx+2⟩ ⟨(F3 eEC (nx+1) l hne).symm,rfl,.inr (by show Aj H2 (nx+1)=_;rw[hH2,A9,zu rfl]),λc hc=>by
   show Aj H2 c=_
   rw[hH2,A9,zw (by omega),BZ,zw (by omega),A9,zw (by omega)],λhf=>by
   show Frs H2 (nx+2);rw[hH2]
   exact((hf.cons (Xg _) (Xh _)).rem).cons (by omega) (by omega)⟩ (by simp -implicitDefEqProofs)
theorem yT {H:Ak} {nx:Nat} {l:List Ag} (hl:l.length<=1000000) :
  ∃f:Fin,Rw eAg tyA l H nx f/\B3 Xc (G q) 93 [.t (Ba eAg l)] H nx f.r f.H f.nx:=by
 refine rK.callX rfl ?_;(conv in WC=>cbv)
 cases l with
 | nil=>
  have ev:∀(Φ:AP) (H:Ak) (nx:Nat),A0 Φ H nx (.bin false .eql (some .sl)) [.t Au,.t (.v (.slice none 0 0))]=some (.t (.v (.bool true)),H,nx):=λ_ _ _=>rfl;rw[show Ba eAg []=Au from rfl];refine B4 (EN (nx':=nx+2) (by simp -implicitDefEqProofs)) rfl ?_;refine A3 An ?_;simp -implicitDefEqProofs;refine A3 An ?_;simp -implicitDefEqProofs [ev];exact Bp ⟨.t Au,H,nx+2⟩ ⟨rfl,rfl,.inl rfl,λ_ _=>rfl,λh=>h.mono (by show nx<=nx+2;omega)⟩ (by simp -implicitDefEqProofs)
 | cons x r=>
  obtain⟨l,hL⟩:∃l,l=x::r:=⟨_,rfl⟩
  have hne:l≠[]:=by rw[hL];simp
  have ht:Ba eAg (x::r)=slT eAg l:=by rw[hL];rfl
  rw[ht,<-hL];rw[<-hL]at hl;have hs:CM ((nx,.cells tyA [])::H) (eAg).z (.t (slT eAg l))=some (l.length,(l.flatMap (eAg).enc).map .t):=JL (.inr rfl);have ap:=JU (e:=eAg) (ty:=tyA) (b:=nx) (l:=[]) (H:=(nx,.cells tyA [])::H) (by':=24) (nx:=nx+1) (m:=l) (by rw[A9,zu rfl];rfl) hs (by simp;omega) (by simp;omega);rw[Xq]at ap;have hz:(eAg).z=2:=rfl;rw[hz]at ap
  obtain⟨H2,hH2⟩:∃H2:Ak,H2=(nx+1,A5 eAg tyA l)::rem ((nx,.cells tyA [])::H) nx:=⟨_,rfl⟩
  have ap:Dp tyA 2 24 ((nx,.cells tyA [])::H) (nx+1) (.row nx 0 0 2) (.t (slT eAg l))=some (.row (nx+1) 0 l.length 2,H2,nx+2):=by rw[hH2];exact ap
  have bs:∀k,BB tyA 2 [.string ⟨#[]⟩,.int .i64 0] 0 [] k=some (.row k 0 0 2,.cells tyA []):=λk=>rfl;have ev:∀(Φ:AP) (H:Ak) (nx:Nat),A0 Φ H nx (.bin false .eql (some .sl)) [.t (slT eAg l),.t (.v (.slice none 0 0))]=some (.t (.v (.bool false)),H,nx):=λ_ _ _=>rfl;refine A3 An ?_;simp -implicitDefEqProofs;refine A3 An ?_;simp -implicitDefEqProofs [ev];refine AV An ?_;simp -implicitDefEqProofs [bs,ap]
  exact Bp ⟨.row (nx+1) 0 l.length 2,H2,nx+2⟩ ⟨(F3 eAg (nx+1) l hne).symm,rfl,.inr (by show Aj H2 (nx+1)=_;rw[hH2,A9,zu rfl]),λc hc=>by
   show Aj H2 c=_
   rw[hH2,A9,zw (by omega),BZ,zw (by omega),A9,zw (by omega)],λhf=>by
   show Frs H2 (nx+2);rw[hH2]
   exact((hf.cons (Xg _) (Xh _)).rem).cons (by omega) (by omega)⟩ (by simp -implicitDefEqProofs)
theorem yU {H:Ak} {nx:Nat} {l:List Qq} (hl:l.length<=1000000) :
  ∃f:Fin,Rw eQq B0 l H nx f/\B3 Xc (G q) 94 [.t (Ba eQq l)] H nx f.r f.H f.nx:=by
 refine rL.callX rfl ?_;(conv in WD=>cbv)
 cases l with
 | nil=>
  have ev:∀(Φ:AP) (H:Ak) (nx:Nat),A0 Φ H nx (.bin false .eql (some .sl)) [.t Au,.t (.v (.slice none 0 0))]=some (.t (.v (.bool true)),H,nx):=λ_ _ _=>rfl;rw[show Ba eQq []=Au from rfl];refine B4 (EN (nx':=nx+2) (by simp -implicitDefEqProofs)) rfl ?_;refine A3 An ?_;simp -implicitDefEqProofs;refine A3 An ?_;simp -implicitDefEqProofs [ev];exact Bp ⟨.t Au,H,nx+2⟩ ⟨rfl,rfl,.inl rfl,λ_ _=>rfl,λh=>h.mono (by show nx<=nx+2;omega)⟩ (by simp -implicitDefEqProofs)
 | cons x r=>
  obtain⟨l,hL⟩:∃l,l=x::r:=⟨_,rfl⟩
  have hne:l≠[]:=by rw[hL];simp
  have ht:Ba eQq (x::r)=slT eQq l:=by rw[hL];rfl
  rw[ht,<-hL];rw[<-hL]at hl;have hs:CM ((nx,.cells B0 [])::H) (eQq).z (.t (slT eQq l))=some (l.length,(l.flatMap (eQq).enc).map .t):=JL (.inr rfl);have ap:=JU (e:=eQq) (ty:=B0) (b:=nx) (l:=[]) (H:=(nx,.cells B0 [])::H) (by':=16) (nx:=nx+1) (m:=l) (by rw[A9,zu rfl];rfl) hs (by simp;omega) (by simp;omega);rw[Xq]at ap;have hz:(eQq).z=2:=rfl;rw[hz]at ap
  obtain⟨H2,hH2⟩:∃H2:Ak,H2=(nx+1,A5 eQq B0 l)::rem ((nx,.cells B0 [])::H) nx:=⟨_,rfl⟩
  have ap:Dp B0 2 16 ((nx,.cells B0 [])::H) (nx+1) (.row nx 0 0 2) (.t (slT eQq l))=some (.row (nx+1) 0 l.length 2,H2,nx+2):=by rw[hH2];exact ap
  have bs:∀k,BB B0 2 [.int .i64 0,.int .i64 0] 0 [] k=some (.row k 0 0 2,.cells B0 []):=λk=>rfl;have ev:∀(Φ:AP) (H:Ak) (nx:Nat),A0 Φ H nx (.bin false .eql (some .sl)) [.t (slT eQq l),.t (.v (.slice none 0 0))]=some (.t (.v (.bool false)),H,nx):=λ_ _ _=>rfl;refine A3 An ?_;simp -implicitDefEqProofs;refine A3 An ?_;simp -implicitDefEqProofs [ev];refine AV An ?_;simp -implicitDefEqProofs [bs,ap]
  exact Bp ⟨.row (nx+1) 0 l.length 2,H2,nx+2⟩ ⟨(F3 eQq (nx+1) l hne).symm,rfl,.inr (by show Aj H2 (nx+1)=_;rw[hH2,A9,zu rfl]),λc hc=>by
   show Aj H2 c=_
   rw[hH2,A9,zw (by omega),BZ,zw (by omega),A9,zw (by omega)],λhf=>by
   show Frs H2 (nx+2);rw[hH2]
   exact((hf.cons (Xg _) (Xh _)).rem).cons (by omega) (by omega)⟩ (by simp -implicitDefEqProofs)
theorem yV {ns:List Int} {x:Int} (h:inR ns.length x):ns[x.toNat]?=some (toV ns x):=by
 have h1:=h.1;have h2:=h.2
 have hl:x.toNat<ns.length:=by omega
 unfold toV;rw[List.getD_eq_getElem?_getD,Xj hl,Option.getD_some]
theorem FI {t:T} {ns:List Int} (ht:IsS A6 t ns) {x:Int} (h:inR ns.length x) :
  ∃A,BN 1 (.t t) (.t (iv x))=some A/\∀H,AD false 1 H A=some (.t (iv (toV ns x))):=by
 obtain⟨k,rfl⟩:∃k:Nat,x=(k:Int):=⟨x.toNat,by have:=h.1;omega⟩
 have e:=yV h;rw[X1]at e;have i1:=ht.iaddr e .i64;rw[show A6.z=1 from rfl,show A6.enc (toV ns (k:Int))=[iv (toV ns (k:Int))]from rfl]at i1;exact⟨_,i1,λH=>lp H _ _⟩
def CJ {α:Type} (f:α->α) (l:List α) (k:Nat):List α:=(l.take k).map f++l.drop k
theorem Rx {α:Type} (f:α->α) (l:List α) (k:Nat):(CJ f l k).length=l.length:=by
 unfold CJ;rw[Xn,Xi,<-Xn,Ya]
theorem Ry {α:Type} {f:α->α} {l:List α} {k:Nat} (h:k<l.length):(CJ f l k)[k]?=l[k]?:=by
 unfold CJ;rw[List.getElem?_append_right (by rw[Xi,Xr];omega),Xi,Xr,Yg (by omega),Xp,X4,Nat.add_zero]
theorem Rz {α:Type} {f:α->α} {l:List α} {k:Nat} {x:α} (h:l[k]?=some x):(CJ f l k).set k (f x)=CJ f l (k+1):=by
 have hk:k<l.length:=(Xl.1 h).1
 have e:l.drop k=x::l.drop (k+1):=by rw[Xs hk,(Xl.1 h).2]
 unfold CJ;rw[Yt _ _ (by rw[Xi,Xr];omega),Xi,Xr,Yg (by omega),Xp,e,Yh,Xy,h];simp
theorem R0 {α:Type} (f:α->α) (l:List α):CJ f l l.length=l.map f:=by
 unfold CJ;rw[Yu,List.drop_length,Xo]
theorem R1 {α:Type} (f:α->α) (l:List α):CJ f l 0=l:=by
 unfold CJ;simp
theorem aT {α:Type} (e:Enc α):∀{l:List α} {i:Nat} {x:α},i<l.length->(l.set i x).flatMap e.enc=(l.flatMap e.enc).take (i*e.z)++e.enc x++(l.flatMap e.enc).drop (i*e.z+e.z)
 | a::l,0,x,_=>by
  have h:=e.len a;rw[Yh,X3,X3,Nat.zero_mul,Xv,Xq,Nat.zero_add,Yv,h,Xp,List.drop_zero,Xt (by omega),Xq]
 | a::l,i+1,x,h=>by
  have ha:=e.len a
  have hi:i<l.length:=by simpa using h
  rw[Yw,X3,X3,aT e hi]
  have e1:(i+1)*e.z=e.z+i*e.z:=by rw[Nat.succ_mul,Nat.add_comm]
  obtain⟨F,hF⟩:∃F,F=l.flatMap e.enc:=⟨_,rfl⟩
  rw[<-hF];have g1:(e.enc a).take (e.z+i*e.z)=e.enc a:=List.take_of_length_le (by omega);have g2:(e.enc a).drop (e.z+i*e.z+e.z)=[]:=Xt (by omega)
  have t1:(e.enc a++F).take (e.z+i*e.z)=e.enc a++F.take (i*e.z):=by
   rw[List.take_append,g1,ha,Nat.add_sub_cancel_left]
  have d1:(e.enc a++F).drop (e.z+i*e.z+e.z)=F.drop (i*e.z+e.z):=by
   rw[Yv,g2,ha,Xq,show e.z+i*e.z+e.z-e.z=i*e.z+e.z by omega]
  rw[e1,t1,d1];simp only[Xw]
theorem aU {α:Type} {e:Enc α} {ty b n i:Nat} {H:Ak} {l:List α} {x:α} {p:PV} (h:Aj H b=some (A5 e ty l)) (hi:i<l.length) (hn:n=e.z) (hp:Bq p=some ((e.enc x).map .t)):AO n H (.ptr b (i*n)) p=some (Xd H b (A5 e ty (l.set i x))):=by
 subst hn
 have hlen:((l.flatMap e.enc).map PV.t).length=l.length*e.z:=by rw[Xi,G4]
 have hle:i*e.z+e.z<=l.length*e.z:=by
  have:=Nat.mul_le_mul_right e.z (show i+1<=l.length from hi);rw[Nat.succ_mul]at this;exact this
 have hx:((e.enc x).map PV.t).length=e.z:=by rw[Xi];exact e.len x
 rw[BF (n:=e.z) (ns:=(e.enc x).map .t) h hp hx (by rw[hlen];exact hle)];congr 3;rw[MA (by rw[hlen,hx];exact hle),hx,aT e hi,X9,X9,List.map_take,List.map_drop]
theorem aV {v:Int}:∀{l:List Ag} {i:Nat} {x:Ag},l[i]?=some x->(l.set i ⟨x.role,v⟩).flatMap eAg.enc=(l.flatMap eAg.enc).set (i*2+1) (iv v)
 | a::l,0,x,h=>by
  injection h with h;subst h;rfl
 | a::l,i+1,x,h=>by
  have ih:=aV (v:=v) (l:=l) (i:=i) (x:=x) h;rw[Yw,X3,X3,ih,show(i+1)*2+1=(i*2+1)+1+1 by omega];rfl
theorem yW {ty b i:Nat} {H:Ak} {l:List Ag} {x:Ag} {v:Int} (h:Aj H b=some (A5 eAg ty l)) (hx:l[i]?=some x):AO 1 H (.ptr b (i*2+1)) (.t (iv v))=some (Xd H b (A5 eAg ty (l.set i ⟨x.role,v⟩))):=by
 have hi:i<l.length:=(Xl.1 hx).1
 have hlen:((l.flatMap eAg.enc).map PV.t).length=l.length*2:=by rw[Xi,G4];rfl
 rw[BF (n:=1) (ns:=[.t (iv v)]) h rfl rfl (by rw[hlen];omega)];congr 3;rw[aV hx,List.map_set];rfl
theorem yX {k:Nat} {H:Ak} {a b:Int} {d e:PV} (h:Aj H k=some (mRw a b d e)) (x:Int):AO 1 H (.ptr k 0) (.t (iv x))=some (Xd H k (mRw x b d e)):=
 BF (ns:=[.t (iv x)]) h rfl rfl (by show 0+1<=5;omega)
theorem yY {k:Nat} {H:Ak} {a b:Int} {d e:PV} (h:Aj H k=some (mRw a b d e)):AD false 1 H (.ptr k 0)=some (.t (iv a))/\AD false 1 H (.ptr k 1)=some (.t (iv b)):=by
 unfold mRw at h;simp only[AD,h];exact⟨rfl,rfl⟩
structure RnC where
 H:Ak
 nx:Nat
 i:Nat
def SRn (tn:T) (kr n:Nat) (rw_:PV) (c:RnC):Am:=⟨[(31,.t (iv (c.i:Int))),(30,.t (iv (n:Int))),(29,rw_),(5,rw_),(4,.ptr 1 0),(2,.ptr 0 0),(1,.t tn)],c.H,c.nx,99⟩
def I4 (tn:T) (n:Nat) (rw_ rc:PV) (c:RnC):Am:=⟨[(74,.t (iv (c.i:Int))),(73,.t (iv (n:Int))),(72,rc),(11,rc),(5,rw_),(4,.ptr 1 0),(2,.ptr 0 0),(1,.t tn)],c.H,c.nx,99⟩
def SRi (tn:T) (n i nx na:Nat) (rw_ ra:PV) (c:RnC):Am:=⟨[(41,.t (iv (c.i:Int))),(40,.t (iv (na:Int))),(39,ra),(8,ra),(7,.ptr nx 0),(6,.t (iv (i:Int))),(31,.t (iv (i:Int))),(30,.t (iv (n:Int))),(29,rw_),(5,rw_),(4,.ptr 1 0),(2,.ptr 0 0),(1,.t tn)],c.H,c.nx,99⟩
def fA (ns:List Int) (a:Ag):Ag:=⟨a.role,toV ns a.var⟩
theorem yZ (Φ:AP) (H:Ak) (nx:Nat) (w:ByteArray) (l:Int) (as':List Ag):A0 Φ H nx (.build [(0,1),(1,1),(2,1)] [.string ⟨#[]⟩,.int .i64 0,.slice none 0 0] [0,1,2]) [.t (sv w),.t (iv l),.t (Ba eAg as')]=some (.t (.ag [sv w,iv l,Ba eAg as']),H,nx):=by
 cases as'<;>rfl
theorem aW (w:ByteArray) (l:Int) (as':List Ag):Bq (.t (.ag [sv w,iv l,Ba eAg as']))=some [.t (sv w),.t (iv l),.t (Ba eAg as')]:=by
 cases as'<;>rfl
theorem z8 {m:Mr} {tn:T} {ns:List Int} (hv:m.vars=[]) (ht:IsS A6 tn ns) (htop:inR ns.length m.top) (hidx:inR ns.length m.index) (hre:∀x∈m.rels,inE ns.length x) (hco:∀c∈m.cons,inQ ns.length c)
  (hr1:m.rels.length<=100000) (hr2:∀x∈m.rels,x.args.length<=100000) (hc1:m.cons.length<=100000) :
  Bc Xc (G q) 57 [.ag (Bm m),tn] (· = .ag (Bm ⟨toV ns m.top,toV ns m.index,[],m.rels.map (Bu (toV ns)),m.cons.map (Bv (toV ns))⟩)):=by
 obtain⟨tr,htr⟩:∃tr,tr=Ba eEC (m.rels.map EC.of):=⟨_,rfl⟩
 obtain⟨tc,htc⟩:∃tc,tc=Ba eQq m.cons:=⟨_,rfl⟩
 have hes:Bm m=[iv m.top,iv m.index,Au,tr,tc]:=by unfold Bm;rw[hv,htr,htc];rfl
 rw[hes];have cd:=cd5 (iv m.top) (iv m.index) Au tr tc
 obtain⟨H0,hH0⟩:∃H0:Ak,H0=[(1,mRw 0 0 (.t Au) (.t Au)),(0,mRw m.top m.index (.t tr) (.t tc))]:=⟨_,rfl⟩
 have z0:Aj H0 0=some (mRw m.top m.index (.t tr) (.t tc)):=by rw[hH0];rfl
 have z1:Aj H0 1=some (mRw 0 0 (.t Au) (.t Au)):=by rw[hH0];rfl
 refine p9.call rfl ?_;(conv in Vf=>cbv);refine Ao An ?_;simp -implicitDefEqProofs [cd];rw[show([(1,Row.cells Ct [.t (.v (.int .i64 0)),.t (.v (.int .i64 0)),.t (.v (.slice none 0 0)),.t (.v (.slice none 0 0)),.t (.v (.slice none 0 0))]),(0,Row.cells Ct [.t (iv m.top),.t (iv m.index),.t Au,.t tr,.t tc])]:Ak)=H0 from hH0.symm];obtain⟨A1,i1,l1⟩:=FI ht htop;obtain⟨A2,i2,l2⟩:=FI ht hidx;obtain⟨lt,li⟩:=yY z0;have s1:=yX z0 (toV ns m.top)
 obtain⟨H1,hH1⟩:∃H1,H1=Xd H0 0 (mRw (toV ns m.top) m.index (.t tr) (.t tc)):=⟨_,rfl⟩
 rw[<-hH1]at s1
 have y0:Aj H1 0=some (mRw (toV ns m.top) m.index (.t tr) (.t tc)):=by rw[hH1,A7,zu rfl,z0];rfl
 have y1:Aj H1 1=some (mRw 0 0 (.t Au) (.t Au)):=by rw[hH1,A7,zw (by omega)];exact z1
 have s2:=aK y0 (toV ns m.index)
 obtain⟨H2,hH2⟩:∃H2,H2=Xd H1 0 (mRw (toV ns m.top) (toV ns m.index) (.t tr) (.t tc)):=⟨_,rfl⟩
 rw[<-hH2]at s2
 have x0:Aj H2 0=some (mRw (toV ns m.top) (toV ns m.index) (.t tr) (.t tc)):=by rw[hH2,A7,zu rfl,y0];rfl
 have x1:Aj H2 1=some (mRw 0 0 (.t Au) (.t Au)):=by rw[hH2,A7,zw (by omega)];exact y1
 refine Ao An ?_;simp -implicitDefEqProofs [lt,li,i1,i2,l1,l2,s1,s2]
 obtain⟨L,hL⟩:∃L,L=m.rels.map EC.of:=⟨_,rfl⟩
 rw[<-hL]at htr
 have hLl:L.length=m.rels.length:=by rw[hL,Xi]
 obtain⟨⟨fr,F,fn⟩,⟨hfr,hfn,hat,hk,hf⟩,hc⟩:=yS (q:=q) (H:=H2) (nx:=2) (l:=L) (by omega);simp only at hfr hfn hat hk hf hc;subst hfr hfn;rw[<-htr]at hc;obtain⟨t,t1,t2⟩:=hAt hc hf;have lr:=(GL x0).1;have C:Ctx Xc (G q) _:=AB.nil.ctxH (AG.cons t2 .nil) mixed;refine Ao C ?_;simp -implicitDefEqProofs [lr,t1];have lnL:CV (Ax eEC 3 L)=some (.t (iv (L.length:Int))):=Nn eEC 3 L
 obtain⟨g,hg⟩:∃g:EC->EC,g=λc=>EC.of (Bu (toV ns) c.x):=⟨_,rfl⟩
 refine AZ (λc:RnC=>⟨[(5,Ax eEC 3 L),(4,.ptr 1 0),(2,.ptr 0 0),(1,.t tn)],c.H,c.nx,99⟩) (λc=>Aj c.H 0=some (mRw (toV ns m.top) (toV ns m.index) (.t tr) (.t tc))/\Aj c.H 1=some (mRw 0 0 (.t Au) (.t Au))/\AK eEC AH c.H 3 (L.map g)/\3<c.nx) (λ_=>rfl) ?_ ?_
 .refine Ao C ?_;simp -implicitDefEqProofs [lnL];refine AY ?_
  refine Bj (SRn tn 3 L.length (Ax eEC 3 L)) (λc=>L.length-c.i) (λc=>Aj c.H 0=some (mRw (toV ns m.top) (toV ns m.index) (.t tr) (.t tc))/\Aj c.H 1=some (mRw 0 0 (.t Au) (.t Au))/\AK eEC AH c.H 3 (CJ g L c.i)/\3<c.nx/\c.i<=L.length)
   ⟨F,4,0⟩ (λ_=>rfl) ⟨by show Aj F 0=_;rw[hk 0 (by omega)];exact x0,by show Aj F 1=_;rw[hk 1 (by omega)];exact x1,by rw[R1];exact hat,by show 3<4;omega,X8 _⟩ ?_ rfl ?_
  .exact Aw (by simp -implicitDefEqProofs [SRn])
  rintro⟨Ha,nx,i⟩ ⟨w0,w1,wr,wn,wi⟩;simp only at w0 w1 wr wn wi;by_cases hlt:i<L.length
  rotate_left
  .have ei:i=L.length:=by omega
   subst ei;rw[R0]at wr;refine A8 An ?_;simp -implicitDefEqProofs [SRn];exact A4.mk ⟨Ha,nx,0⟩ ⟨w0,w1,wr,wn⟩ (Aw (by simp -implicitDefEqProofs))
  obtain⟨X,hX⟩:∃X,m.rels[i]?=some X:=⟨_,Xj (by omega)⟩
  have hXm:=Yb hX
  have hLi:L[i]?=some (EC.of X):=by rw[hL,List.getElem?_map,hX];rfl
  have hMi:(CJ g L i)[i]?=some (EC.of X):=by rw[Ry hlt];exact hLi
  have hMl:=Rx g L i
  have hMne:CJ g L i≠[]:=λe=>by rw[e]at hMl;simp at hMl;omega
  have wrl:=wr.resolve_left hMne;have erow:Ax eEC 3 L = .row 3 0 L.length 3:=F3 eEC 3 L (λe=>by rw[e]at hlt;simp at hlt);have j1:BN 3 (.row 3 0 L.length 3) (.t (iv (i:Int)))=some (.ptr 3 (i*3)):=NM (e:=eEC) (b:=3) hLi;have ld1:AD true 3 Ha (.ptr 3 (i*3))=some (.t (.ag (EC.of X).cs)):=Oc (e:=eEC) wrl hMi rfl;have hcs:(EC.of X).cs=[sv X.pred,iv X.label,Ba eAg X.args]:=rfl;rw[hcs]at ld1;have u1:∀a b c,AO 3 ((nx,.cells AH [a,b,c])::Ha) (.ptr nx 0) (.t (.ag [sv X.pred,iv X.label,Ba eAg X.args]))=some ((nx,.cells AH [.t (sv X.pred),.t (iv X.label),.t (Ba eAg X.args)])::Ha):=λa b c=>st3 nx a b c _ _ _ AH Ha (aW _ _ _)
  obtain⟨H3,hH3⟩:∃H3:Ak,H3=(nx,.cells AH [.t (sv X.pred),.t (iv X.label),.t (Ba eAg X.args)])::Ha:=⟨_,rfl⟩
  rw[<-hH3]at u1
  have k3:∀c,c<nx->Aj H3 c=Aj Ha c:=λc h=>by rw[hH3,A9,zw (by omega)]
  have e3:Aj H3 nx=some (.cells AH [.t (sv X.pred),.t (iv X.label),.t (Ba eAg X.args)]):=by rw[hH3,A9,zu rfl]
  have le2:=aF e3;have hXa:=hr2 X hXm;obtain⟨⟨ar,B,bn⟩,⟨har,hbn,bat,bk,bf⟩,bc⟩:=yT (q:=q) (H:=H3) (nx:=nx+1) (l:=X.args) (by omega);simp only at har hbn bat bk bf bc;subst har hbn;obtain⟨ta,ta1,ta2⟩:=hAt bc bf;have CA:Ctx Xc (G q) _:=AB.nil.ctxH (AG.cons ta2 .nil) mixed;have w1':Xk.wrap ((i:Int)+1)=((i+1:Nat):Int):=Bb (by omega) (by omega);rw[erow];refine Ao An ?_;simp -implicitDefEqProofs [SRn,hlt];refine Ao An ?_;simp -implicitDefEqProofs;refine AZ (λc:RnC=>⟨[(31,.t (iv (i:Int))),(30,.t (iv (L.length:Int))),(29,.row 3 0 L.length 3),(5,.row 3 0 L.length 3),(4,.ptr 1 0),(2,.ptr 0 0),(1,.t tn)],c.H,c.nx,99⟩) (λc=>Aj c.H 0=some (mRw (toV ns m.top) (toV ns m.index) (.t tr) (.t tc))/\Aj c.H 1=some (mRw 0 0 (.t Au) (.t Au))/\AK eEC AH c.H 3 (CJ g L (i+1))/\3<c.nx) (λ_=>rfl) ?_ ?_
  rotate_left
  .rintro⟨Hz,nz,_⟩ ⟨g0,g1,gr,gn⟩;simp only at g0 g1 gr gn;refine A8 An ?_;simp -implicitDefEqProofs [w1'];exact A4.mk ⟨Hz,nz,i+1⟩ ⟨⟨g0,g1,gr,gn,hlt⟩,by show L.length-(i+1)<L.length-i;omega⟩ (Aw (by simp -implicitDefEqProofs [SRn,erow]))
  refine AY ?_;refine Ao An ?_;simp -implicitDefEqProofs [j1,ld1,u1];refine MC.sub (s':=⟨[(7,.ptr nx 0),(6,.t (iv (i:Int))),(31,.t (iv (i:Int))),(30,.t (iv (L.length:Int))),(29,.row 3 0 L.length 3),(5,.row 3 0 L.length 3),(4,.ptr 1 0),(2,.ptr 0 0),(1,.t tn)],H3,nx+1,99⟩) (Aw (by simp -implicitDefEqProofs)) rfl ?_;refine Ao CA ?_;simp -implicitDefEqProofs [le2,ta1];have lnA:CV (Ax eAg (nx+1+1) X.args)=some (.t (iv (X.args.length:Int))):=Nn eAg _ X.args
  obtain⟨ra,hra⟩:∃ra,ra=Ax eAg (nx+1+1) X.args:=⟨_,rfl⟩
  rw[<-hra]at lnA
  obtain⟨ka,hka⟩:∃ka,ka=nx+1+1:=⟨_,rfl⟩
  rw[<-hka]at bat hra;refine AZ (λc:RnC=>⟨[(8,ra),(7,.ptr nx 0),(6,.t (iv (i:Int))),(31,.t (iv (i:Int))),(30,.t (iv (L.length:Int))),(29,.row 3 0 L.length 3),(5,.row 3 0 L.length 3),(4,.ptr 1 0),(2,.ptr 0 0),(1,.t tn)],c.H,c.nx,99⟩) (λc=>(∀c',c'<ka->Aj c.H c'=Aj B c')/\AK eAg tyA c.H ka (X.args.map (fA ns))/\ka<c.nx) (λ_=>rfl) ?_ ?_
  .refine Ao An ?_;simp -implicitDefEqProofs [<-hka,<-hra,lnA];refine AY ?_
   refine Bj (SRi tn L.length i nx X.args.length (.row 3 0 L.length 3) ra) (λc=>X.args.length-c.i) (λc=>(∀c',c'<ka->Aj c.H c'=Aj B c')/\AK eAg tyA c.H ka (CJ (fA ns) X.args c.i)/\ka<c.nx/\c.i<=X.args.length)
    ⟨B,ka+1,0⟩ (λ_=>rfl) ⟨λ_ _=>rfl,by rw[R1];exact bat,Xg _,X8 _⟩ ?_ rfl ?_
   .rw[hka];exact Aw (by simp -implicitDefEqProofs [SRi])
   rintro⟨Hc,ny,k⟩ ⟨ck,cr,cn,ci⟩;simp only at ck cr cn ci;by_cases hlk:k<X.args.length
   rotate_left
   .have ek:k=X.args.length:=by omega
    subst ek;rw[R0]at cr;refine A8 An ?_;simp -implicitDefEqProofs [SRi];exact A4.mk ⟨Hc,ny,0⟩ ⟨ck,cr,cn⟩ (Aw (by simp -implicitDefEqProofs))
   obtain⟨a,ha⟩:∃a,X.args[k]?=some a:=⟨_,Xj hlk⟩
   have hMk:(CJ (fA ns) X.args k)[k]?=some a:=by rw[Ry hlk];exact ha
   have hNl:=Rx (fA ns) X.args k;have crl:=cr.resolve_left (λe=>by rw[e]at hNl;simp at hNl;omega)
   have era:ra = .row ka 0 X.args.length 2:=by rw[hra];exact F3 eAg ka X.args (λe=>by rw[e]at hlk;simp at hlk)
   have b1:BN 2 (.row ka 0 X.args.length 2) (.t (iv (k:Int)))=some (.ptr ka (k*2)):=NM (e:=eAg) (b:=ka) ha;have b2:AD true 2 Hc (.ptr ka (k*2))=some (.t (.ag [sv a.role,iv a.var])):=Oc (e:=eAg) crl hMk rfl;have u2:∀x y,AO 2 ((ny,.cells tyA [x,y])::Hc) (.ptr ny 0) (.t (.ag [sv a.role,iv a.var]))=some ((ny,.cells tyA [.t (sv a.role),.t (iv a.var)])::Hc):=λx y=>st2 ny x y _ _ tyA Hc
   obtain⟨H5,hH5⟩:∃H5:Ak,H5=(ny,.cells tyA [.t (sv a.role),.t (iv a.var)])::Hc:=⟨_,rfl⟩
   rw[<-hH5]at u2
   have k5:∀c,c<ny->Aj H5 c=Aj Hc c:=λc h=>by rw[hH5,A9,zw (by omega)]
   have b3:=(Eg (H:=H5) (b:=ny) (ty:=tyA) (p0:=.t (sv a.role)) (p1:=.t (iv a.var)) (by rw[hH5,A9,zu rfl])).2;obtain⟨A,ia,la⟩:=FI ht (x:=a.var) (hre X hXm a.var (by simp only[B7,Xm,X2];exact .inr ⟨a,Yb ha,rfl⟩));have s5:=yW (v:=toV ns a.var) (H:=H5) (b:=ka) (by rw[k5 ka cn];exact crl) hMk;rw[show(⟨a.role,toV ns a.var⟩:Ag)=fA ns a from rfl,Rz ha]at s5
   obtain⟨H6,hH6⟩:∃H6,H6=Xd H5 ka (A5 eAg tyA (CJ (fA ns) X.args (k+1))):=⟨_,rfl⟩
   rw[<-hH6]at s5;have w2:Xk.wrap ((k:Int)+1)=((k+1:Nat):Int):=Bb rfl (by omega);rw[era];refine Ao An ?_;simp -implicitDefEqProofs [SRi,hlk];refine Ao An ?_;simp -implicitDefEqProofs;refine AZ (λc:RnC=>SRi tn L.length i nx X.args.length (.row 3 0 L.length 3) ra ⟨c.H,c.nx,k⟩) (λc=>H6=c.H/\ny+1=c.nx) (λ_=>rfl) ?_ ?_
   .refine AY ?_;refine Ao An ?_;simp -implicitDefEqProofs [b1,b2,u2];refine A8 An ?_;simp -implicitDefEqProofs [<-hH5,b3,ia,la,b1,s5];exact A4.mk ⟨H6,ny+1,0⟩ ⟨rfl,rfl⟩ (Aw (by simp -implicitDefEqProofs [SRi,era]))
   .rintro⟨_,_,_⟩ ⟨e1,e2⟩;simp only at e1 e2;subst e1 e2;refine A8 An ?_;simp -implicitDefEqProofs [SRi,w2];refine A4.mk ⟨H6,ny+1,k+1⟩ ⟨⟨λc hc=>?_,.inr ?_,by show ka<ny+1;omega,hlk⟩,by show X.args.length-(k+1)<X.args.length-k;omega⟩ (Aw (by simp -implicitDefEqProofs [SRi,era]))
    .show Aj H6 c=_;rw[hH6,A7,zw (by omega),k5 c (by omega)];exact ck c hc
    .show Aj H6 ka=_;rw[hH6,A7,zu rfl,k5 ka cn,crl];rfl
  rintro⟨Hz,nz,_⟩ ⟨gk,gr,gn⟩;simp only at gk gr gn
  have kz:∀c,c<nx+1->Aj Hz c=Aj H3 c:=λc h=>by rw[gk c (by omega),bk c (by omega)]
  have p0:Aj Hz 0=some (mRw (toV ns m.top) (toV ns m.index) (.t tr) (.t tc)):=by rw[kz 0 (by omega),k3 0 (by omega)];exact w0
  have p1:Aj Hz 1=some (mRw 0 0 (.t Au) (.t Au)):=by rw[kz 1 (by omega),k3 1 (by omega)];exact w1
  have p3:Aj Hz 3=some (A5 eEC AH (CJ g L i)):=by rw[kz 3 (by omega),k3 3 (by omega)];exact wrl
  have p4:Aj Hz nx=some (.cells AH [.t (sv X.pred),.t (iv X.label),.t (Ba eAg X.args)]):=by rw[kz nx (by omega)];exact e3
  have gr':AK eAg tyA Hz ka (X.args.map (fA ns)):=gr
  obtain⟨Hy,hHy⟩:∃Hy,Hy=Cg Hz [ka]:=⟨_,rfl⟩
  have hfr:BO Hz [ka] ra = .t (Ba eAg (X.args.map (fA ns))):=by
   have e:Ax eAg ka X.args=Ax eAg ka (X.args.map (fA ns)):=by cases X.args<;>simp[Ax]
   rw[hra,e];exact Fh gr' (by simp)
  have hfo:BO Hz [ka] (.row 3 0 L.length 3) = .row 3 0 L.length 3:=by
   have:=Gb (e:=eEC) (ty:=AH) (H:=Hz) (F:=[ka]) (b:=3) (l:=CJ g L i) (.inr p3) (by simp;omega);rw[F3 eEC 3 _ hMne,hMl]at this;exact this
  refine MC.sub (s':=⟨[(8,.t (Ba eAg (X.args.map (fA ns)))),(7,.ptr nx 0),(6,.t (iv (i:Int))),(31,.t (iv (i:Int))),(30,.t (iv (L.length:Int))),(29,.row 3 0 L.length 3),(5,.row 3 0 L.length 3),(4,.ptr 1 0),(2,.ptr 0 0),(1,.t tn)],Hy,nz,99⟩) (by rw[hHy];exact F8 [ka] (by simp -implicitDefEqProofs [EA,FA,hfr,hfo])) rfl ?_
  have f0:Aj Hy 0=some (mRw (toV ns m.top) (toV ns m.index) (.t tr) (.t tc)):=by
   rw[hHy,BQ (by simp;omega) p0];rfl
  have f1:Aj Hy 1=some (mRw 0 0 (.t Au) (.t Au)):=by
   rw[hHy,BQ (by simp;omega) p1];rfl
  have f3:Aj Hy 3=some (A5 eEC AH (CJ g L i)):=by
   rw[hHy,BQ (by simp;omega) p3,Q6]
  have f4:Aj Hy nx=some (.cells AH [.t (sv X.pred),.t (iv X.label),.t (Ba eAg X.args)]):=by
   rw[hHy,BQ (by simp;omega) p4];rfl
  have q0:AD false 1 Hy (.ptr nx 0)=some (.t (sv X.pred)):=by simp only[AD,f4];rfl
  have q1:AD false 1 Hy (.ptr nx 1)=some (.t (iv X.label)):=by simp only[AD,f4];rfl
  obtain⟨A,ia,la⟩:=FI ht (x:=X.label) (hre X hXm X.label (by simp[B7]));have s7:=aU (e:=eEC) (n:=3) (x:=EC.of (Bu (toV ns) X)) (p:=.t (.ag [sv X.pred,iv (toV ns X.label),Ba eAg (X.args.map (fA ns))])) f3 (i:=i) (by rw[hMl];exact hlt) rfl (aW _ _ _)
  have hgs:(CJ g L i).set i (EC.of (Bu (toV ns) X))=CJ g L (i+1):=by
   have:=Rz (f:=g) hLi;rw[<-this,hg];rfl
  rw[hgs]at s7;refine A8 An ?_;simp -implicitDefEqProofs [q0,q1,ia,la,yZ,j1,s7,-BU];refine A4.mk ⟨Xd Hy 3 (A5 eEC AH (CJ g L (i+1))),nz,0⟩ ⟨?_,?_,.inr ?_,by show 3<nz;omega⟩ (Aw (by simp -implicitDefEqProofs))
  .show Aj (Xd Hy 3 _) 0=_;rw[A7,zw (by omega)];exact f0
  .show Aj (Xd Hy 3 _) 1=_;rw[A7,zw (by omega)];exact f1
  .show Aj (Xd Hy 3 _) 3=_;rw[A7,zu rfl,f3];rfl
 rintro⟨Hx,nx,_⟩ ⟨w0,w1,wr,wn⟩;simp only at w0 w1 wr wn;obtain⟨⟨cr,D,dn⟩,⟨hcr,hdn,dat,dk,df⟩,dc⟩:=yU (q:=q) (H:=Hx) (nx:=nx) (l:=m.cons) (by omega);simp only at hcr hdn dat dk df dc;subst hcr hdn;rw[<-htc]at dc;obtain⟨td,td1,td2⟩:=hAt dc df;have CD:Ctx Xc (G q) _:=AB.nil.ctxH (AG.cons td2 .nil) mixed;have lc4:=(GL w0).2.1;refine Ao CD ?_;simp -implicitDefEqProofs [lc4,td1]
 obtain⟨kc,hkc⟩:∃kc,kc=nx+1:=⟨_,rfl⟩
 rw[<-hkc]at dat;have lnC:CV (Ax eQq kc m.cons)=some (.t (iv (m.cons.length:Int))):=Nn eQq kc m.cons
 obtain⟨rc,hrc⟩:∃rc,rc=Ax eQq kc m.cons:=⟨_,rfl⟩
 rw[<-hrc]at lnC
 obtain⟨rwE,hrwE⟩:∃rwE,rwE=Ax eEC 3 L:=⟨_,rfl⟩
 refine AZ (λc:RnC=>⟨[(11,rc),(5,rwE),(4,.ptr 1 0),(2,.ptr 0 0),(1,.t tn)],c.H,c.nx,99⟩) (λc=>(∀c',c'<kc->Aj c.H c'=Aj D c')/\AK eQq B0 c.H kc (m.cons.map (Bv (toV ns)))/\kc<c.nx) (λ_=>rfl) ?_ ?_
 .refine Ao An ?_;simp -implicitDefEqProofs [<-hkc,<-hrc,<-hrwE,lnC];refine AY ?_
  refine Bj (I4 tn m.cons.length rwE rc) (λc=>m.cons.length-c.i) (λc=>(∀c',c'<kc->Aj c.H c'=Aj D c')/\AK eQq B0 c.H kc (CJ (Bv (toV ns)) m.cons c.i)/\kc<c.nx/\c.i<=m.cons.length)
   ⟨D,kc+1,0⟩ (λ_=>rfl) ⟨λ_ _=>rfl,by rw[R1];exact dat,Xg _,X8 _⟩ ?_ rfl ?_
  .rw[hkc];exact Aw (by simp -implicitDefEqProofs [I4])
  rintro⟨Hc,ny,k⟩ ⟨ck,cr,cn,ci⟩;simp only at ck cr cn ci;by_cases hlk:k<m.cons.length
  rotate_left
  .have ek:k=m.cons.length:=by omega
   subst ek;rw[R0]at cr;refine A8 An ?_;simp -implicitDefEqProofs [I4];exact A4.mk ⟨Hc,ny,0⟩ ⟨ck,cr,cn⟩ (Aw (by simp -implicitDefEqProofs))
  obtain⟨a,ha⟩:∃a,m.cons[k]?=some a:=⟨_,Xj hlk⟩
  have hMk:(CJ (Bv (toV ns)) m.cons k)[k]?=some a:=by rw[Ry hlk];exact ha
  have hNl:=Rx (Bv (toV ns)) m.cons k;have crl:=cr.resolve_left (λe=>by rw[e]at hNl;simp at hNl;omega)
  have erc:rc = .row kc 0 m.cons.length 2:=by rw[hrc];exact F3 eQq kc m.cons (λe=>by rw[e]at hlk;simp at hlk)
  have b1:BN 2 (.row kc 0 m.cons.length 2) (.t (iv (k:Int)))=some (.ptr kc (k*2)):=NM (e:=eQq) (b:=kc) ha;have b2:AD true 2 Hc (.ptr kc (k*2))=some (.t (.ag [iv a.high,iv a.low])):=Oc (e:=eQq) crl hMk rfl;have u2:∀x y,AO 2 ((ny,.cells B0 [x,y])::Hc) (.ptr ny 0) (.t (.ag [iv a.high,iv a.low]))=some ((ny,.cells B0 [.t (iv a.high),.t (iv a.low)])::Hc):=λx y=>st2 ny x y _ _ B0 Hc
  obtain⟨H5,hH5⟩:∃H5:Ak,H5=(ny,.cells B0 [.t (iv a.high),.t (iv a.low)])::Hc:=⟨_,rfl⟩
  rw[<-hH5]at u2
  have k5:∀c,c<ny->Aj H5 c=Aj Hc c:=λc h=>by rw[hH5,A9,zw (by omega)]
  obtain⟨b3,b4⟩:=Eg (H:=H5) (b:=ny) (ty:=B0) (p0:=.t (iv a.high)) (p1:=.t (iv a.low)) (by rw[hH5,A9,zu rfl]);have hai:=hco a (Yb ha);obtain⟨A1,ia1,la1⟩:=FI ht (x:=a.high) (hai _ (by simp[BE]));obtain⟨A2,ia2,la2⟩:=FI ht (x:=a.low) (hai _ (by simp[BE]));have s5:=aU (e:=eQq) (n:=2) (H:=H5) (b:=kc) (x:=Bv (toV ns) a) (p:=.t (.ag [iv (toV ns a.high),iv (toV ns a.low)])) (by rw[k5 kc cn];exact crl) (i:=k) (by rw[hNl];exact hlk) rfl rfl;rw[Rz ha]at s5
  obtain⟨H6,hH6⟩:∃H6,H6=Xd H5 kc (A5 eQq B0 (CJ (Bv (toV ns)) m.cons (k+1))):=⟨_,rfl⟩
  rw[<-hH6]at s5;have bdm:∀(Φ:AP) (H:Ak) (nx:Nat),A0 Φ H nx (.build [(0,1),(1,1)] [.int .i64 0,.int .i64 0] [0,1]) [.t (iv (toV ns a.high)),.t (iv (toV ns a.low))]=some (.t (.ag [iv (toV ns a.high),iv (toV ns a.low)]),H,nx):=λ_ _ _=>rfl;have w2:Xk.wrap ((k:Int)+1)=((k+1:Nat):Int):=Bb rfl (by omega);rw[erc];refine Ao An ?_;simp -implicitDefEqProofs [I4,hlk];refine Ao An ?_;simp -implicitDefEqProofs;refine AZ (λc:RnC=>I4 tn m.cons.length rwE rc ⟨c.H,c.nx,k⟩) (λc=>H6=c.H/\ny+1=c.nx) (λ_=>rfl) ?_ ?_
  .refine AY ?_;refine Ao An ?_;simp -implicitDefEqProofs [b1,b2,u2];refine A8 An ?_;simp -implicitDefEqProofs [<-hH5,b3,b4,ia1,la1,ia2,la2,b1,bdm,s5,-BU];exact A4.mk ⟨H6,ny+1,0⟩ ⟨rfl,rfl⟩ (Aw (by simp -implicitDefEqProofs [I4,erc]))
  .rintro⟨_,_,_⟩ ⟨e1,e2⟩;simp only at e1 e2;subst e1 e2;refine A8 An ?_;simp -implicitDefEqProofs [I4,w2];refine A4.mk ⟨H6,ny+1,k+1⟩ ⟨⟨λc hc=>?_,.inr ?_,by show kc<ny+1;omega,hlk⟩,by show m.cons.length-(k+1)<m.cons.length-k;omega⟩ (Aw (by simp -implicitDefEqProofs [I4,erc]))
   .show Aj H6 c=_;rw[hH6,A7,zw (by omega),k5 c (by omega)];exact ck c hc
   .show Aj H6 kc=_;rw[hH6,A7,zu rfl,k5 kc cn,crl];rfl
 rintro⟨Hz,nz,_⟩ ⟨gk,gr,gn⟩;simp only at gk gr gn
 have kz:∀c,c<nx->Aj Hz c=Aj Hx c:=λc h=>by rw[gk c (by omega),dk c h]
 have p0:Aj Hz 0=some (mRw (toV ns m.top) (toV ns m.index) (.t tr) (.t tc)):=by rw[kz 0 (by omega)];exact w0
 have p1:Aj Hz 1=some (mRw 0 0 (.t Au) (.t Au)):=by rw[kz 1 (by omega)];exact w1
 have p3:AK eEC AH Hz 3 (L.map g):=wr.imp id λe=>by rw[kz 3 wn];exact e
 have eL:rwE=Ax eEC 3 (L.map g):=by rw[hrwE];cases L<;>simp[Ax]
 have eC:rc=Ax eQq kc (m.cons.map (Bv (toV ns))):=by rw[hrc];cases m.cons<;>simp[Ax]
 have s3:=aL p0 (x:=Ax eEC 3 (L.map g)) (O5 _ _ _)
 obtain⟨H7,hH7⟩:∃H7,H7=Xd Hz 0 (mRw (toV ns m.top) (toV ns m.index) (Ax eEC 3 (L.map g)) (.t tc)):=⟨_,rfl⟩
 rw[<-hH7]at s3
 have v0:Aj H7 0=some (mRw (toV ns m.top) (toV ns m.index) (Ax eEC 3 (L.map g)) (.t tc)):=by rw[hH7,A7,zu rfl,p0];rfl
 have s4:=aM v0 (x:=Ax eQq kc (m.cons.map (Bv (toV ns)))) (O5 _ _ _)
 obtain⟨H8,hH8⟩:∃H8,H8=Xd H7 0 (mRw (toV ns m.top) (toV ns m.index) (Ax eEC 3 (L.map g)) (Ax eQq kc (m.cons.map (Bv (toV ns))))):=⟨_,rfl⟩
 rw[<-hH8]at s4
 have k8:∀c,c≠0->Aj H8 c=Aj Hz c:=λc h=>by rw[hH8,A7,zw h,hH7,A7,zw h]
 have u0:Aj H8 0=some (mRw (toV ns m.top) (toV ns m.index) (Ax eEC 3 (L.map g)) (Ax eQq kc (m.cons.map (Bv (toV ns))))):=by rw[hH8,A7,zu rfl,v0];rfl
 have u1:Aj H8 1=some (mRw 0 0 (.t Au) (.t Au)):=by rw[k8 1 (by omega)];exact p1
 have u3:AK eEC AH H8 3 (L.map g):=p3.imp id λe=>by rw[k8 3 (by omega)];exact e
 have uc:AK eQq B0 H8 kc (m.cons.map (Bv (toV ns))):=gr.imp id λe=>by rw[k8 kc (by omega)];exact e
 refine Ao An ?_;simp -implicitDefEqProofs [eL,eC,s3,s4];have all:=(GL u0).2.2;have cse:=aO (toV ns m.top) (toV ns m.index) 3 kc (L.map g) (m.cons.map (Bv (toV ns)))
 obtain⟨ge,hge⟩:∃g',g'=BI [.t (iv (toV ns m.top)),.t (iv (toV ns m.index)),.t Au,Ax eEC 3 (L.map g),Ax eQq kc (m.cons.map (Bv (toV ns)))]:=⟨_,rfl⟩
 rw[<-hge]at all cse;have s9:=aN u1 (p:=ge) cse
 obtain⟨H9,hH9⟩:∃H9,H9=Xd H8 1 (mRw (toV ns m.top) (toV ns m.index) (Ax eEC 3 (L.map g)) (Ax eQq kc (m.cons.map (Bv (toV ns))))):=⟨_,rfl⟩
 rw[<-hH9]at s9
 have r1:Aj H9 1=some (mRw (toV ns m.top) (toV ns m.index) (Ax eEC 3 (L.map g)) (Ax eQq kc (m.cons.map (Bv (toV ns))))):=by rw[hH9,A7,zu rfl,u1];rfl
 have r3:AK eEC AH H9 3 (L.map g):=u3.imp id λe=>by rw[hH9,A7,zw (by omega)];exact e
 have rcc:AK eQq B0 H9 kc (m.cons.map (Bv (toV ns))):=uc.imp id λe=>by rw[hH9,A7,zw (by omega)];exact e
 refine Ao An ?_;simp -implicitDefEqProofs [all,s9]
 obtain⟨Hv,hHv⟩:∃Hv,Hv=Cg H9 [3,kc]:=⟨_,rfl⟩
 refine MC.sub (s':=⟨[(4,.ptr 1 0)],Hv,nz,99⟩) (by rw[hHv];exact F8 [3,kc] (by simp -implicitDefEqProofs [FA])) rfl ?_
 have v1:Aj Hv 1=some (mRw (toV ns m.top) (toV ns m.index) (.t (Ba eEC (L.map g))) (.t (Ba eQq (m.cons.map (Bv (toV ns)))))):=by
  rw[hHv,BQ (by simp;omega) r1];show some (Row.cells Ct [.t (iv (toV ns m.top)),.t (iv (toV ns m.index)),.t Au,BO H9 [3,kc] (Ax eEC 3 (L.map g)),BO H9 [3,kc] (Ax eQq kc (m.cons.map (Bv (toV ns))))])=_;rw[Fh r3 (by simp),Fh rcc (by simp)];rfl
 have al2:=(GL v1).2.2
 have eLg:L.map g=(m.rels.map (Bu (toV ns))).map EC.of:=by
  rw[hL,Yx,Yx]
  exact Ym λx _=>by rw[hg];rfl
 rw[show BI [.t (iv (toV ns m.top)),.t (iv (toV ns m.index)),.t Au,.t (Ba eEC (L.map g)),.t (Ba eQq (m.cons.map (Bv (toV ns))))] = .t (.ag [iv (toV ns m.top),iv (toV ns m.index),Au,Ba eEC (L.map g),Ba eQq (m.cons.map (Bv (toV ns)))])from rfl]at al2
 have hfin:Bm ⟨toV ns m.top,toV ns m.index,[],m.rels.map (Bu (toV ns)),m.cons.map (Bv (toV ns))⟩=[iv (toV ns m.top),iv (toV ns m.index),Au,Ba eEC (L.map g),Ba eQq (m.cons.map (Bv (toV ns)))]:=by
  rw[eLg];rfl
 rw[hfin];refine A8 An ?_;simp -implicitDefEqProofs [al2]
def HJ (ns:List Int) (m:Mr):Mr:=⟨toV ns m.top,toV ns m.index,[],m.rels.map (Bu (toV ns)),m.cons.map (Bv (toV ns))⟩
structure aX (m:Mr) (ns:List Int):Prop where
 v:m.vars=[]
 top:inR ns.length m.top
 idx:inR ns.length m.index
 re:∀x∈m.rels,inE ns.length x
 co:∀c∈m.cons,inQ ns.length c
 r1:m.rels.length<=100000
 r2:∀x∈m.rels,x.args.length<=100000
 c1:m.cons.length<=100000
noncomputable def gRn (m:Mr) (tn:T) (ns:List Int):List T->Option T:=λargs=>open Classical in if args=[.ag (Bm m),tn]then some (.ag (Bm (HJ ns m)))else none
theorem hRn {m:Mr} {tn:T} {ns:List Int} (h:aX m ns) (ht:IsS A6 tn ns):GOK Xc (G q) 57 (gRn m tn ns):=λargs r hr=>by
 unfold gRn at hr;split at hr
 .rename_i e;subst e;injection hr with hr;subst hr;exact z8 h.v ht h.top h.idx h.re h.co h.r1 h.r2 h.c1
 .cases hr
theorem zB {m:Mr} {tn:T} {ns:List Int}:gRn m tn ns [.ag (Bm m),tn]=some (.ag (Bm (HJ ns m))):=by
 unfold gRn;rw[zu rfl]
theorem aY:∀(k:Nat) (l:List Ag) (a:Ag),a∈plA k l->(k:Int)<=a.var/\a.var<((k+l.length:Nat):Int)
 | k,[],a,h=>by cases h
 | k,b::l,a,h=>by
  rw[plA]at h;rcases Xm.1 h with rfl | h
  .simp only[Xu];constructor<;>omega
  .have:=aY (k+1) l a h;simp only[Xu];omega
theorem aZ:∀(k:Nat) (l:List Ep) (x:Ep),x∈GH k l->∀v∈B7 x,(k:Int)<=v/\v<((k+nE l:Nat):Int)
 | k,[],x,h=>by cases h
 | k,y::l,x,h=>by
  rw[GH]at h;rw[nE];intro v hv;rcases Xm.1 h with rfl | h
  .simp only[plE,B7,Xm,X2]at hv;rcases hv with rfl | ⟨a,ha,rfl⟩
   .omega
   .have:=aY (k+1) y.args a ha;omega
  .have:=aZ (k+(1+y.args.length)) l x h v hv;omega
theorem bA:∀(k:Nat) (l:List Qq) (c:Qq),c∈HH k l->∀v∈BE c,(k:Int)<=v/\v<((k+2*l.length:Nat):Int)
 | k,[],x,h=>by cases h
 | k,y::l,x,h=>by
  rw[HH]at h;intro v hv;rcases Xm.1 h with rfl | h
  .simp only[BE,Xm,Yp,or_false]at hv;simp only[Xu];rcases hv with rfl | rfl<;>omega
  .have:=bA (k+2) l x h v hv;simp only[Xu];omega
theorem bB (m:Mr):(occ m).length=2+nE m.rels+2*m.cons.length:=by
 unfold occ;simp only[Xu,Xn];rw[QN,QO];omega
theorem bC {m:Mr} {ns:List Int} (h:m=plM m) (hl:ns.length=(occ m).length) (hn:ns.length<=100000):aX m ns:=by
 have e:=bB m;have e1:m.top=0:=congrArg Mr.top h;have e2:m.index=1:=congrArg Mr.index h;have e3:m.vars=[]:=congrArg Mr.vars h;have e4:m.rels=GH 2 m.rels:=congrArg Mr.rels h;have e5:m.cons=HH (2+nE m.rels) m.cons:=congrArg Mr.cons h
 have hE:∀l:List Ep,l.length<=nE l/\∀x∈l,x.args.length<=nE l:=λl=>by
  induction l with
  | nil=>exact⟨Xe _,λx hx=>by cases hx⟩
  | cons y l ih=>
   rw[nE];refine⟨by rw[Xu];omega,λx hx=>?_⟩;rcases Xm.1 hx with rfl | hx
   .omega
   .have:=ih.2 x hx;omega
 have hr:=hE m.rels;refine⟨e3,⟨by omega,by omega⟩,⟨by omega,by omega⟩,λx hx v hv=>?_,λc hc v hv=>?_,by omega,λx hx=>by have:=hr.2 x hx;omega,by omega⟩
 .rw[e4]at hx;have:=aZ 2 m.rels x hx v hv;exact⟨by omega,by omega⟩
 .rw[e5]at hc;have:=bA (2+nE m.rels) m.cons c hc v hv;exact⟨by omega,by omega⟩
def gNb:List T->Option T
 | [.v (.string s)]=>if s.size<=1000000000 then some (Di s.data.toList)else none
 | _=>none
theorem hNb:GOK Xc (G q) 91 gNb:=λargs r hr=>by
 unfold gNb at hr;split at hr
 .rename_i s;split at hr
  .rename_i h;injection hr with hr;subst hr;exact nK s (by omega)
  .cases hr
 .cases hr
theorem zC {s:ByteArray} (h:s.size<=1000000000):gNb [sv s]=some (Di (wb s)):=zu h
def nmL (l:List Vr) (i:Nat):List Int:=(l.take i).map nmV++Yy (l.length-i) 0
theorem zD (l:List Vr) (i:Nat) (h:i<=l.length):(nmL l i).length=l.length:=by
 unfold nmL;rw[Xn,Xi,Xr,List.length_replicate];omega
theorem zE {l:List Vr} {i:Nat} {x:Vr} (h:l[i]?=some x):(nmL l i).set i (nmV x)=nmL l (i+1):=by
 have hi:i<l.length:=(Xl.1 h).1;unfold nmL;rw[Yt _ _ (by rw[Xi,Xr];omega),Xi,Xr,Yg (by omega),Xp,show l.length-i=(l.length-(i+1))+1 by omega,List.replicate_succ,Yh,Xy,h];simp
theorem zF (l:List Vr):nmL l 0=Yy l.length 0:=by simp[nmL]
theorem zG (l:List Vr):nmL l l.length=l.map nmV:=by simp[nmL]
theorem bD {l:List Vr} {i:Nat} {x:Vr} (h:l[i]?=some x) (hx:(Cl (wb x.digits)).2≠0):Fj l=none:=by
 unfold Fj;rw[zw];intro ha;have:=Yz.1 ha x (Yb h);exact hx (of_decide_eq_true this)
theorem bE {l:List Vr} (h:∀x∈l.take l.length,(Cl (wb x.digits)).2=0):Fj l=some (l.map nmV):=by
 unfold Fj;rw[zu];refine Yz.2 λx hx=>zq (h x ?_);rw[Yu];exact hx
def mpS (l:List Vr) (ns:List Int):List (Key×Value):=ns.map λn=>(Key.n [n],Value.string (Bx l n))
theorem bF {l:List Vr} {v:Int}:∀{ns:List Int},E0 (mpS l ns) (.n [v])=if v∈ns then some (.string (Bx l v))else none
 | []=>rfl
 | a::r=>by
  have ih:=bF (l:=l) (v:=v) (ns:=r);show(if Key.n [a]=Key.n [v]then some (Value.string (Bx l a))else E0 (mpS l r) (.n [v]))=_;by_cases h:a=v
  .subst h;rw[zu rfl,zu (by simp)]
  .rw[zw (by simpa using h),ih];by_cases hm:v∈r
   .rw[zu hm,zu (by simp[hm])]
   .rw[zw hm,zw (by simp only[Xm,not_or];exact⟨λe=>h e.symm,hm⟩)]
theorem bG {l:List Vr} {v:Int}:∀{ns:List Int},Cq (mpS l ns) (.n [v]) (.string (Bx l v))=if v∈ns then mpS l ns else mpS l (ns++[v])
 | []=>rfl
 | a::r=>by
  have ih:=bG (l:=l) (v:=v) (ns:=r);show(if Key.n [a]=Key.n [v]then(Key.n [a],Value.string (Bx l v))::mpS l r else(Key.n [a],Value.string (Bx l a))::Cq (mpS l r) (.n [v]) (.string (Bx l v)))=_;by_cases h:a=v
  .subst h;rw[zu rfl,zu (by simp)];rfl
  .rw[zw (by simpa using h),ih];by_cases hm:v∈r
   .rw[zu hm,zu (by simp[hm])];rfl
   .rw[zw hm,zw (by simp only[Xm,not_or];exact⟨λe=>h e.symm,hm⟩)];rfl
theorem zH (l:List Vr) (ns:List Int):(mpS l ns).length=ns.length:=by simp[mpS]
theorem bH:∀(r acc:List Vr),BX acc r=false->∀x∈r,∀y∈acc,nmV y=nmV x->y.sort=x.sort
 | [],_,_,x,hx,_,_,_=>by cases hx
 | a::r,acc,h,x,hx,y,hy,hn=>by
  rw[BX,Y0]at h;rcases Xm.1 hx with rfl | hx
  .have h1:=Yi.1 h.1 y hy;by_cases he:y.sort=x.sort
   .exact he
   .exact absurd (by simp[hn,he]) h1
  .exact bH r (acc++[a]) h.2 x hx y (by simp[hy]) hn
theorem R2:∀(a b acc:List Vr),BX acc (a++b)=(BX acc a||BX (acc++a) b)
 | [],b,acc=>by simp[BX]
 | x::a,b,acc=>by
  rw[List.cons_append,BX,BX,R2 a b (acc++[x]),Bool.or_assoc,Xw];rfl
theorem zI {l:List Vr} {i:Nat} {n:Int} (h:n∈(l.take i).map nmV):∃y∈l.take i,nmV y=n/\Bx l n=y.sort:=by
 obtain⟨z,hz,hzn⟩:=X2.1 h
 have hs:((l.take i).find? λv=>decide (nmV v=n)).isSome=true:=by
  rw[List.find?_isSome];exact⟨z,hz,zq hzn⟩
 obtain⟨y,hy⟩:=Option.isSome_iff_exists.1 hs;have hp:=List.find?_some hy;refine⟨y,List.mem_of_find?_eq_some hy,of_decide_eq_true hp,?_⟩
 have e:(l.find? λv=>decide (nmV v=n))=some y:=by
  rw[<-Ya i l,Y2,hy];rfl
 unfold Bx;rw[e];rfl
theorem zJ {l:List Vr} {i:Nat} {x:Vr} (hx:l[i]?=some x) (h:nmV x∉(l.take i).map nmV):Bx l (nmV x)=x.sort:=by
 have hi:i<l.length:=(Xl.1 hx).1
 have e0:l.drop i=x::l.drop (i+1):=by rw[Xs hi,(Xl.1 hx).2]
 have en:(l.take i).find? (λv=>decide (nmV v=nmV x))=none:=by
  rw[List.find?_eq_none];intro y hy hd;exact h (X2.2 ⟨y,hy,of_decide_eq_true hd⟩)
 have e:(l.find? λv=>decide (nmV v=nmV x))=some x:=by
  rw[<-Ya i l,Y2,en,e0,List.find?_cons_of_pos (by simp)];rfl
 unfold Bx;rw[e];rfl
theorem bI:∀(r acc:List Vr),BX acc r=false->∀z∈r,∀y∈r,nmV z=nmV y->z.sort=y.sort
 | [],_,_,z,hz,_,_,_=>by cases hz
 | a::r,acc,h,z,hz,y,hy,e=>by
  have h0:=h;rw[BX,Y0]at h0;have key:∀w∈r,nmV a=nmV w->a.sort=w.sort:=λw hw ew=>bH r (acc++[a]) h0.2 w hw a (by simp) ew;rcases Xm.1 hz with e1 | hz'
  .rcases Xm.1 hy with e2 | hy'
   .rw[e1,e2]
   .rw[e1]at e ⊢;exact key y hy' e
  .rcases Xm.1 hy with e2 | hy'
   .rw[e2]at e ⊢;exact(key z hz' e.symm).symm
   .exact bI r (acc++[a]) h0.2 z hz' y hy' e
theorem bJ {l:List Vr} {i:Nat} {x:Vr} (hx:l[i]?=some x) (h:BX [] (l.take i)=false):BX [] (l.take (i+1))=(decide (nmV x∈(l.take i).map nmV) && !decide (Bx l (nmV x)=x.sort)):=by
 rw[Xy,hx,R2,h,Bool.false_or,Xq];show((l.take i).any (λy=>decide (nmV y=nmV x) && !decide (y.sort=x.sort))||false)=_;rw[Bool.or_false];by_cases hm:nmV x∈(l.take i).map nmV
 .rw[zq hm,Yc];obtain⟨y,hy,hn,hs⟩:=zI hm;rw[hs];by_cases hd:y.sort=x.sort
  .rw[zq hd];refine Yi.2 λz hz=>?_;by_cases hzn:nmV z=nmV x
   .have:=bI _ _ h z hz y hy (hzn.trans hn.symm);simp[hzn,this,hd]
   .simp[hzn]
  .rw[zt hd];exact List.any_eq_true.2 ⟨y,hy,by simp[hn,hd]⟩
 .rw[zt hm,Yl];refine Yi.2 λy hy=>?_;have:¬nmV y=nmV x:=λe=>hm (X2.2 ⟨y,hy,e⟩);simp[this]
theorem zK {l:List Vr} {i:Nat} (h:BX [] (l.take i)=true):BX [] l=true:=by
 have:=R2 (l.take i) (l.drop i) [];rw[Ya,h,Bool.true_or]at this;exact this
end Go.Proofs.YtmgjopafgboljaaGreatDoor
