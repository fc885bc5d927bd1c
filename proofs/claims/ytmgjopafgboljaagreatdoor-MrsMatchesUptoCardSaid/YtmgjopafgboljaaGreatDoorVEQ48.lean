/- Auxiliary facts. -/
import Derived.Test.YtmgjopafgboljaaGreatDoorVEQ45
set_option linter.unusedSimpArgs false
set_option maxRecDepth 100000
set_option maxHeartbeats 0
set_option linter.unusedVariables false
open Go.Abs renaming look->Xc,upd->Xd,toTs->Yg
open Nat renaming le_refl->Xe,le_trans->Xf,lt_succ_self->Xi,le_succ->Xl,sub_self->Xo,zero_le->Xx,lt_of_lt_of_le->Yh,min_eq_left->Yk
open List renaming length_map->Xg,mem_cons->Xh,mem_map->Xj,length_append->Xk,length_cons->Xm,getElem?_eq_getElem->Xn,nil_append->Xp,getElem?_eq_some_iff->Xq,length_take->Xr,append_nil->Xs,take_add_one->Xt,replicate->Xu,take_zero->Xv,flatMap_cons->Xw,drop_eq_getElem_cons->Xy,append_assoc->Xz,length_drop->X0,length_singleton->X2,mem_of_getElem?->X3,map_map->X4,drop_of_length_le->X5,map_append->X8,map_cons->X9,take_append_drop->Ya,take_length->Yb,getElem?_drop->Yc,drop_drop->Yd,takeWhile_cons->Yf,not_mem_nil->Yi,sum_cons->Yj,set_cons_zero->Yl,getElem?_map->Ym,all_eq_true->Yn,any_eq_false->Yo,map_congr_left->Yr,set_append_right->Ys,drop_append->Yt,set_cons_succ->Yu,length_replicate->Yv,mem_of_find?_eq_some->Yx,find?_append->Yy,getElem?_eq_none->Y2,countP_cons->Y3,mem_append->Y5,getElem?_set_self->Y8
open Int renaming toNat_natCast->X1
open Bool renaming and_false->X6,true_and->Yp,or_eq_false_iff->Yw,false_and->Yz,false_eq_true->Y6,true_eq_false->Y9
open Option renaming map_eq_some_iff->X7
open Go.Result renaming andThen_ok->Yq
open Array renaming getElem?_setIfInBounds_ne->Y0,toList_push->Y7
namespace Go.Proofs.YtmgjopafgboljaaGreatDoor
open Go Go.Abs
variable {q : Gl}
theorem G2k (s:ByteArray) (i j:Nat):s.extract i j=ob (((wb s).drop i).take (j-i)):=by
 have h:(s.extract i j).data.toList=((wb s).drop i).take (j-i):=by
  rw[ByteArray.data_extract,Array.toList_extract]
 rw[<-h]
theorem slS {s:ByteArray} {i j:Nat} (h:i<=j) (hj:j<=s.size):B0h (.t (sv s)) (some (.t (iv (i:Int)))) (some (.t (iv (j:Int))))=some (.t (sv (ob (((wb s).drop i).take (j-i))))):=by
 rw[<-G2k];simp[B0h,boundV,h,hj]
structure WdC where
 H:Heap
 j:Nat
def SWd (k0:Nat) (lo hi:UInt8) (i nx:Nat) (c:WdC):A0c:=⟨[(7,.t (iv (i:Int))),(1,u8c lo),(2,u8c hi),(0,.ptr k0 0)],c.H,nx,92⟩
section
variable {s : ByteArray} {k0 kv i : Nat} {r : Rs} {H : Heap} {nx : Nat}
theorem RdS.eta (h:RdS s k0 kv i r H nx):r=⟨(wb s).drop i,r.e,r.seen⟩:=by rw[<-h.rest]
theorem E4o (h:RdS s k0 kv i r H nx) {big:Bool} {lo hi:UInt8} (hok:∀c,okC big c=(decide (lo.toNat<=c.toNat)&&decide (c.toNat<=hi.toNat))) (hs:s.size<=1000000000) :
  ∃f:Fin,(f.r = .t (sv (A3u big r).2)/\f.nx=nx/\(∃i',RdS s k0 kv i' (A3u big r).1 f.H nx)/\(∀c,c≠k0->Xc f.H c=Xc H c)/\(Frs H nx->Frs f.H nx))/\A3n Tryz.prog (G q) 123 [.ptr k0 0,u8c lo,u8c hi] H nx f.r f.H f.nx:=by
 have L:=ldR h.o
 obtain⟨R,hR⟩:∃R,R=A3u big r:=⟨_,rfl⟩
 rw[<-hR]
 obtain⟨W,hW⟩:∃W,W=runW big true r.rest:=⟨_,rfl⟩
 refine B6z.callX rfl ?_;(conv in A9c=>cbv);refine A0b A0g ?_;simp -implicitDefEqProofs;refine A0b A0g ?_;simp -implicitDefEqProofs [L.l1];by_cases he:r.e=0
 rotate_left
 .have hb:(r.e==0)=false:=by rw[beq_eq_false_iff_ne];exact he
  have hRe:R=(r,⟨#[]⟩):=by rw[hR];exact D2p he big
  obtain⟨⟨fr,fH,fn⟩,⟨hr,hn,hfS,hfk,hff⟩,hfc⟩:=A9m (q:=q) h;simp only at hr hn hfS hfk hff hfc;subst hr hn;obtain⟨tf,tf1,tf2⟩:=hAt hfc hff;have CC:Ctx Tryz.prog (G q) _:=A0s.nil.ctxH (A0v.cons tf2 .nil) mixed;have Lf:=ldR hfS.o;have sl:=slS (s:=s) (Xe i) h.hi;rw[Xo,Xv]at sl;rw[E0b he]at hfS;refine A3q (λ_:Unit=>⟨[(7,.t (iv (i:Int))),(0,.ptr k0 0)],H,fn,92⟩) (λ_=>True) (λ_=>rfl) ?_ ?_
  .refine A1k ?_;refine A2w (SWd k0 lo hi i fn) (λ_=>0) (λc=>c=⟨H,i⟩) ⟨H,i⟩ (λ_=>rfl) rfl ?_ rfl ?_
   .exact A0d (by simp -implicitDefEqProofs [SWd])
   rintro _ rfl;refine A0b CC ?_;simp -implicitDefEqProofs [SWd,L.l2,hb];exact Abs.Next.mk () trivial (A0d (by simp -implicitDefEqProofs))
  rintro _ _;refine A0b CC ?_;simp -implicitDefEqProofs [L.l1,tf1];refine A0r CC ?_;simp -implicitDefEqProofs [Lf.l1,Lf.l0,sl];exact A1u ⟨.t (sv (ob [])),fH,fn⟩ ⟨by rw[hRe],rfl,⟨i,by rw[hRe];exact hfS⟩,hfk,hff⟩ (by simp -implicitDefEqProofs)
 have hb:(r.e==0)=true:=by rw[he];rfl
 have hRw:R=if W=[]then(A4c r,⟨#[]⟩)else(⟨r.rest.drop W.length,r.e,r.seen⟩,ob W):=by rw[hR];unfold A3u;rw[if_pos he,<-hW]
 have hi':=h.hi;refine A3q (λc:WdC=>⟨[(7,.t (iv (i:Int))),(0,.ptr k0 0)],c.H,nx,92⟩) (λc=>RdS s k0 kv c.j ⟨(wb s).drop c.j,r.e,r.seen⟩ c.H nx/\i<=c.j/\W=((wb s).drop i).take (c.j-i)/\(∀c',c'≠k0->Xc c.H c'=Xc H c')/\(Frs H nx->Frs c.H nx)) (λ_=>rfl) ?_ ?_
 .refine A1k ?_
  refine A2w (SWd k0 lo hi i nx) (λc=>s.size-c.j) (λc=>RdS s k0 kv c.j ⟨(wb s).drop c.j,r.e,r.seen⟩ c.H nx/\i<=c.j/\W=((wb s).drop i).take (c.j-i)++runW big (decide (c.j=i)) ((wb s).drop c.j)/\(∀c',c'≠k0->Xc c.H c'=Xc H c')/\(Frs H nx->Frs c.H nx)) ⟨H,i⟩ (λ_=>rfl) ⟨by rw[<-h.eta];exact h,Xe _,by
    simp only[Xo,Xv,Xp,decide_true]
    rw[hW,h.rest],λ_ _=>rfl,λh=>h⟩ ?_ rfl ?_
  .exact A0d (by simp -implicitDefEqProofs [SWd])
  rintro⟨Ha,j⟩ ⟨hS,hij,hWj,hk,hf⟩;simp only at hS hij hWj hk hf;have La:=ldR hS.o;have hjs:=hS.hi;by_cases hlt:j<s.size
  rotate_left
  .have hd:decide ((j:Int)<(s.size:Int))=false:=decide_eq_false (by omega);have edn:(wb s).drop j=[]:=X5 (by rw[A2y];omega)
   have hrn:∀b,runW big b []=[]:=λb=>by cases b<;>rfl
   have hWe:W=((wb s).drop i).take (j-i):=by rw[hWj,edn,hrn,Xs]
   refine A0b A0g ?_;simp -implicitDefEqProofs [SWd,La.l2,La.l1,La.l0,hb,hd,hlt];exact Abs.Next.mk ⟨Ha,j⟩ ⟨hS,hij,hWe,hk,hf⟩ (A0d (by simp -implicitDefEqProofs))
  have hd:decide ((j:Int)<(s.size:Int))=true:=decide_eq_true (by omega)
  obtain⟨c,hc⟩:∃c,(wb s)[j]?=some c:=⟨_,Xn (by rw[A2y];exact hlt)⟩
  have ix:=ixS hc
  have ed:(wb s).drop j=c::(wb s).drop (j+1):=by
   rw[Xy (by rw[A2y];exact hlt),(Xq.1 hc).2]
  rw[ed,runW]at hWj
  have etk:((wb s).drop i).take (j+1-i)=((wb s).drop i).take (j-i)++[c]:=by
   rw[show j+1-i=(j-i)+1 by omega,Xt,Yc,show i+(j-i)=j by omega,hc];rfl
  have w2:IntKind.i64.wrap ((j:Int)+1)=((j+1:Nat):Int):=A0k (by omega) (by omega);have S2:=hS.step (j:=j+1) (e':=r.e) (by omega);have s2:=stR1 hS.o (j+1)
  obtain⟨H2,hH2⟩:∃H2,H2=Xd Ha k0 (A7v s (j+1) r.e (rowP eVr kv r.seen)):=⟨_,rfl⟩
  simp only at s2;rw[<-hH2]at s2 S2;rw[show((j+1:Nat):Int)=(j:Int)+1 from rfl]at s2 w2
  have go:(okC big c||(!decide (j=i)&&(A1j c||decide (c=45))))=true->RdS s k0 kv (j+1) ⟨(wb s).drop (j+1),r.e,r.seen⟩ H2 nx/\i<=j+1/\W=((wb s).drop i).take (j+1-i)++runW big (decide (j+1=i)) ((wb s).drop (j+1))/\(∀c',c'≠k0->Xc H2 c'=Xc H c')/\(Frs H nx->Frs H2 nx):=λhg=>by
   rw[if_pos hg]at hWj;refine⟨S2,by omega,?_,λc hc=>by rw[hH2,A0f,if_neg hc];exact hk c hc,λh=>by rw[hH2];exact(hf h).upd⟩;rw[hWj,etk,decide_eq_false (by omega:¬j+1=i),Xz];rfl
  have stop:(okC big c||(!decide (j=i)&&(A1j c||decide (c=45))))=false->W=((wb s).drop i).take (j-i):=λhg=>by
   rw[if_neg (by rw[hg];decide)]at hWj;rw[hWj,Xs]
  refine A0b A0g ?_;simp -implicitDefEqProofs [SWd,La.l2,La.l1,La.l0,hb,hd,hlt];refine A1k ?_;refine A0b A0g ?_;simp -implicitDefEqProofs [La.l0,La.l1,ix];have hcc:=hok c
  have c45:c=45 ↔ c.toNat=45:=⟨λe=>by rw[e];rfl,λe=>UInt8.toNat_inj.1 e⟩
  by_cases g1:c.toNat<lo.toNat
  .have hnok:okC big c=false:=by rw[hcc,decide_eq_false (by omega:¬lo.toNat<=c.toNat)];rfl
   have d1:decide ((c.toNat:Int)<(lo.toNat:Int))=true:=decide_eq_true (by omega);by_cases g3:j=i
   .have d3:((j:Int)==(i:Int))=true:=by rw[g3];exact beq_self_eq_true _
    refine A0b A0g ?_;simp -implicitDefEqProofs [La.l1,d1,g1,d3];exact Abs.Next.mk ⟨Ha,j⟩ ⟨hS,hij,stop (by rw[hnok,decide_eq_true g3];rfl),hk,hf⟩ (A0d (by simp -implicitDefEqProofs))
   .have d3:((j:Int)==(i:Int))=false:=by rw[beq_eq_false_iff_ne];omega
    by_cases g4:c.toNat<48
    .have d4:decide ((c.toNat:Int)<48)=true:=decide_eq_true (by omega)
     have hdg:A1j c=false:=by unfold A1j;rw[decide_eq_false (by omega:¬48<=c.toNat)];rfl
     by_cases g6:c.toNat=45
     .have d6:((c.toNat:Int) != 45)=false:=by rw[g6];rfl
      refine A0b A0g ?_;simp -implicitDefEqProofs [La.l1,d1,g1,d3,La.l1,d4,g4,d6];refine A0r A0g ?_;simp -implicitDefEqProofs [La.l1,w2,s2];exact Abs.Next.mk ⟨H2,j+1⟩ ⟨go (by rw[hnok,hdg,decide_eq_false g3,decide_eq_true (c45.2 g6)];rfl),by show s.size-(j+1)<s.size-j;omega⟩ (A0d (by simp -implicitDefEqProofs [SWd]))
     .have d6:((c.toNat:Int) != 45)=true:=by rw[bne_iff_ne];omega
      refine A0b A0g ?_;simp -implicitDefEqProofs [La.l1,d1,g1,d3,La.l1,d4,g4,d6,g6];exact Abs.Next.mk ⟨Ha,j⟩ ⟨hS,hij,stop (by rw[hnok,hdg,decide_eq_false (λe=>g6 (c45.1 e))];cases decide (j=i)<;>rfl),hk,hf⟩ (A0d (by simp -implicitDefEqProofs))
    .have d4:decide ((c.toNat:Int)<48)=false:=decide_eq_false (by omega);by_cases g5:57<c.toNat
     .have d5:decide ((57:Int)<(c.toNat:Int))=true:=decide_eq_true (by omega)
      have hdg:A1j c=false:=by unfold A1j;rw[decide_eq_false (by omega:¬c.toNat<=57),X6]
      have d6:((c.toNat:Int) != 45)=true:=by rw[bne_iff_ne];omega
      have g6:¬c.toNat=45:=by omega
      refine A0b A0g ?_;simp -implicitDefEqProofs [La.l1,d1,g1,d3,La.l1,d4,g4,d5,g5,d6,g6];exact Abs.Next.mk ⟨Ha,j⟩ ⟨hS,hij,stop (by rw[hnok,hdg,decide_eq_false (λe=>g6 (c45.1 e))];cases decide (j=i)<;>rfl),hk,hf⟩ (A0d (by simp -implicitDefEqProofs))
     .have d5:decide ((57:Int)<(c.toNat:Int))=false:=decide_eq_false (by omega)
      have hdg:A1j c=true:=by unfold A1j;rw[decide_eq_true (by omega:48<=c.toNat),decide_eq_true (by omega:c.toNat<=57)];rfl
      refine A0b A0g ?_;simp -implicitDefEqProofs [La.l1,d1,g1,d3,La.l1,d4,g4,d5,g5];refine A0r A0g ?_;simp -implicitDefEqProofs [La.l1,w2,s2];exact Abs.Next.mk ⟨H2,j+1⟩ ⟨go (by rw[hnok,hdg,decide_eq_false g3];rfl),by show s.size-(j+1)<s.size-j;omega⟩ (A0d (by simp -implicitDefEqProofs [SWd]))
  .have d1:decide ((c.toNat:Int)<(lo.toNat:Int))=false:=decide_eq_false (by omega);by_cases g2:hi.toNat<c.toNat
   .have hnok:okC big c=false:=by rw[hcc,decide_eq_false (by omega:¬c.toNat<=hi.toNat),X6]
    have d2:decide ((hi.toNat:Int)<(c.toNat:Int))=true:=decide_eq_true (by omega);by_cases g3:j=i
    .have d3:((j:Int)==(i:Int))=true:=by rw[g3];exact beq_self_eq_true _
     refine A0b A0g ?_;simp -implicitDefEqProofs [La.l1,d1,g1,d2,g2,d3];exact Abs.Next.mk ⟨Ha,j⟩ ⟨hS,hij,stop (by rw[hnok,decide_eq_true g3];rfl),hk,hf⟩ (A0d (by simp -implicitDefEqProofs))
    .have d3:((j:Int)==(i:Int))=false:=by rw[beq_eq_false_iff_ne];omega
     by_cases g4:c.toNat<48
     .have d4:decide ((c.toNat:Int)<48)=true:=decide_eq_true (by omega)
      have hdg:A1j c=false:=by unfold A1j;rw[decide_eq_false (by omega:¬48<=c.toNat)];rfl
      by_cases g6:c.toNat=45
      .have d6:((c.toNat:Int) != 45)=false:=by rw[g6];rfl
       refine A0b A0g ?_;simp -implicitDefEqProofs [La.l1,d1,g1,d2,g2,d3,La.l1,d4,g4,d6];refine A0r A0g ?_;simp -implicitDefEqProofs [La.l1,w2,s2];exact Abs.Next.mk ⟨H2,j+1⟩ ⟨go (by rw[hnok,hdg,decide_eq_false g3,decide_eq_true (c45.2 g6)];rfl),by show s.size-(j+1)<s.size-j;omega⟩ (A0d (by simp -implicitDefEqProofs [SWd]))
      .have d6:((c.toNat:Int) != 45)=true:=by rw[bne_iff_ne];omega
       refine A0b A0g ?_;simp -implicitDefEqProofs [La.l1,d1,g1,d2,g2,d3,La.l1,d4,g4,d6,g6];exact Abs.Next.mk ⟨Ha,j⟩ ⟨hS,hij,stop (by rw[hnok,hdg,decide_eq_false (λe=>g6 (c45.1 e))];cases decide (j=i)<;>rfl),hk,hf⟩ (A0d (by simp -implicitDefEqProofs))
     .have d4:decide ((c.toNat:Int)<48)=false:=decide_eq_false (by omega);by_cases g5:57<c.toNat
      .have d5:decide ((57:Int)<(c.toNat:Int))=true:=decide_eq_true (by omega)
       have hdg:A1j c=false:=by unfold A1j;rw[decide_eq_false (by omega:¬c.toNat<=57),X6]
       have d6:((c.toNat:Int) != 45)=true:=by rw[bne_iff_ne];omega
       have g6:¬c.toNat=45:=by omega
       refine A0b A0g ?_;simp -implicitDefEqProofs [La.l1,d1,g1,d2,g2,d3,La.l1,d4,g4,d5,g5,d6,g6];exact Abs.Next.mk ⟨Ha,j⟩ ⟨hS,hij,stop (by rw[hnok,hdg,decide_eq_false (λe=>g6 (c45.1 e))];cases decide (j=i)<;>rfl),hk,hf⟩ (A0d (by simp -implicitDefEqProofs))
      .have d5:decide ((57:Int)<(c.toNat:Int))=false:=decide_eq_false (by omega)
       have hdg:A1j c=true:=by unfold A1j;rw[decide_eq_true (by omega:48<=c.toNat),decide_eq_true (by omega:c.toNat<=57)];rfl
       refine A0b A0g ?_;simp -implicitDefEqProofs [La.l1,d1,g1,d2,g2,d3,La.l1,d4,g4,d5,g5];refine A0r A0g ?_;simp -implicitDefEqProofs [La.l1,w2,s2];exact Abs.Next.mk ⟨H2,j+1⟩ ⟨go (by rw[hnok,hdg,decide_eq_false g3];rfl),by show s.size-(j+1)<s.size-j;omega⟩ (A0d (by simp -implicitDefEqProofs [SWd]))
   .have d2:decide ((hi.toNat:Int)<(c.toNat:Int))=false:=decide_eq_false (by omega)
    have hokc:okC big c=true:=by rw[hcc,decide_eq_true (by omega:lo.toNat<=c.toNat),decide_eq_true (by omega:c.toNat<=hi.toNat)];rfl
    refine A0b A0g ?_;simp -implicitDefEqProofs [d1,g1,d2,g2];refine A0r A0g ?_;simp -implicitDefEqProofs [La.l1,w2,s2];exact Abs.Next.mk ⟨H2,j+1⟩ ⟨go (by rw[hokc];rfl),by show s.size-(j+1)<s.size-j;omega⟩ (A0d (by simp -implicitDefEqProofs [SWd]))
 rintro⟨Ha,j⟩ ⟨hS,hij,hWj,hk,hf⟩;simp only at hS hij hWj hk hf;have La:=ldR hS.o;have hjs:=hS.hi;have sl:=slS (s:=s) hij hjs;rw[<-hWj]at sl;by_cases hji:j=i
 .subst hji;have d3:((j:Int)==(j:Int))=true:=beq_self_eq_true _
  have hW0:W=[]:=by rw[hWj,Xo,Xv]
  rw[if_pos hW0]at hRw;subst hW0;obtain⟨⟨fr,fH,fn⟩,⟨hr,hn,hfS,hfk,hff⟩,hfc⟩:=A9m (q:=q) hS;simp only at hr hn hfS hfk hff hfc;subst hr hn;obtain⟨tf,tf1,tf2⟩:=hAt hfc hff;have CC:Ctx Tryz.prog (G q) _:=A0s.nil.ctxH (A0v.cons tf2 .nil) mixed;have Lf:=ldR hfS.o;refine A0b CC ?_;simp -implicitDefEqProofs [La.l1,d3,tf1];refine A0r CC ?_;simp -implicitDefEqProofs [Lf.l1,Lf.l0,sl];refine A1u ⟨.t (sv (ob [])),fH,fn⟩ ⟨by rw[hRw],rfl,⟨j,?_⟩,λc hc=>(hfk c hc).trans (hk c hc),λh=>hff (hf h)⟩ (by simp -implicitDefEqProofs);rw[hRw,show r=⟨(wb s).drop j,r.e,r.seen⟩from h.eta];exact hfS
 .have d3:((j:Int)==(i:Int))=false:=by rw[beq_eq_false_iff_ne];omega
  have hWl:W.length=j-i:=by rw[hWj,Xr,X0,A2y];omega
  have hW0:W≠[]:=λe=>by rw[e]at hWl;simp at hWl;omega
  rw[if_neg hW0]at hRw;refine A0b A0g ?_;simp -implicitDefEqProofs [La.l1,d3];refine A0r A0g ?_;simp -implicitDefEqProofs [La.l1,La.l0,sl];refine A1u ⟨.t (sv (ob W)),Ha,nx⟩ ⟨by rw[hRw],rfl,⟨j,?_⟩,hk,hf⟩ (by simp -implicitDefEqProofs);rw[hRw];simp only;rw[h.rest,Yd,hWl,show i+(j-i)=j by omega];exact hS
end
theorem ib_sc (c:UInt8):decide (Lib.indexByte [104,101,120,105] c<0) = !isSc c:=by
 unfold isSc;simp only[Lib.indexByte];by_cases h1:c=104
 .subst h1;rfl
 by_cases h2:c=101
 .subst h2;rfl
 by_cases h3:c=120
 .subst h3;rfl
 by_cases h4:c=105
 .subst h4;rfl
 have g1:((104:UInt8)==c)=false:=by simpa using λe=>h1 e.symm
 have g2:((101:UInt8)==c)=false:=by simpa using λe=>h2 e.symm
 have g3:((120:UInt8)==c)=false:=by simpa using λe=>h3 e.symm
 have g4:((105:UInt8)==c)=false:=by simpa using λe=>h4 e.symm
 simp[g1,g2,g3,g4,h1,h2,h3,h4]
theorem gIB (c:UInt8):B6u [.v (.string ⟨#[104,101,120,105]⟩),.v (.int .u8 (c.toNat:Int))]=some (iv (Lib.indexByte [104,101,120,105] c)):=by
 show some (iv (Lib.indexByte [104,101,120,105] ((c.toNat:Int)).toNat.toUInt8))=_;rw[X1];simp
def B7t (first z:Bool) (l:List UInt8):List UInt8:=if first then digW l else if z then []else l.takeWhile A1j
def muR (r:Rs):Nat:=r.seen.length+r.rest.length
structure VaC where
 H:Heap
 j:Nat
def SVa (k0:Nat) (so:ByteArray) (m nx:Nat) (c:VaC):A0c:=⟨[(4,.t (iv (m:Int))),(3,.t (sv so)),(0,.ptr k0 0)],c.H,nx,153⟩
structure F5s (s:ByteArray) (k0 kv:Nat) (r:Rs) (o:Rs×Int) (H:Heap) (nx:Nat) (f:Fin):Prop where
 r:f.r = .t (iv o.2)
 p:RdP s k0 kv o.1 H nx f
section
variable {s : ByteArray} {k0 kv i : Nat} {r : Rs} {H : Heap} {nx : Nat}
theorem stR3 {e:Int} {v:PV} (h:Xc H k0=some (A7v s i e v)) {b n z:Nat}:A0x 1 H (.ptr k0 3) (.row b 0 n z)=some (Xd H k0 (A7v s i e (.row b 0 n z))):=
 A1z (ns:=[.row b 0 n z]) h rfl rfl (by show 3+1<=4;omega)
theorem F0i (h:RdS s k0 kv i r H nx) (hs:s.size<=1000000000) (hmu:muR r<=1000000000) :
  ∃f:Fin,F5s s k0 kv r (varR r) H nx f/\A3n Tryz.prog (G q) 86 [.ptr k0 0] H nx f.r f.H f.nx:=by
 have L:=ldR h.o
 obtain⟨O,hO⟩:∃O,O=varR r:=⟨_,rfl⟩
 rw[<-hO];refine B1o.callX rfl ?_;(conv in A6i=>cbv);refine A0b A0g ?_;simp -implicitDefEqProofs;by_cases he:r.e=0
 rotate_left
 .have hb:(r.e != 0)=true:=by rw[bne_iff_ne];exact he
  have hOe:O=(r,0):=by rw[hO];exact E0c he
  refine A0b A0g ?_;simp -implicitDefEqProofs [L.l2,hb];exact A1u ⟨.t (iv 0),H,nx⟩ ⟨by rw[hOe],by rw[hOe];exact⟨⟨kv,i,h,.inl rfl⟩,λ_ _ _ _=>rfl,Xe _,λh=>h⟩⟩ (by simp -implicitDefEqProofs)
 have hb:(r.e != 0)=false:=by rw[he];rfl
 have hi':=h.hi;refine A0b A0g ?_;simp -implicitDefEqProofs [L.l2,hb];obtain⟨⟨fr,fH,fn⟩,⟨hr,hn,hfS,hfk,hff⟩,hfc⟩:=A9m (q:=q) h;simp only at hr hn hfS hfk hff hfc;subst hr hn;obtain⟨tf,tf1,tf2⟩:=hAt hfc hff;have CF:Ctx Tryz.prog (G q) _:=(A0s.cons (E3a (q:=q)) .nil).ctxH (A0v.cons tf2 .nil) mixed
 have bad:O=(A4c r,0)->F5s s k0 kv r O H fn ⟨.t (iv 0),fH,fn⟩:=λe=>by
  rw[e];exact⟨rfl,⟨kv,i,hfS,.inl rfl⟩,λc _ h0 _=>hfk c h0,Xe _,hff⟩
 unfold varR at hO;rw[if_pos he]at hO;by_cases hlt:i<s.size
 rotate_left
 .have hd:decide ((s.size:Int)<=(i:Int))=true:=decide_eq_true (by omega)
  have hle:s.size<=i:=by omega
  rw[h.nil.2 hle]at hO;refine A0b CF ?_;simp -implicitDefEqProofs [L.l1,L.l0,hd,hle,tf1];exact A1u ⟨.t (iv 0),fH,fn⟩ (bad hO) (by simp -implicitDefEqProofs)
 have hd:decide ((s.size:Int)<=(i:Int))=false:=decide_eq_false (by omega)
 have hnle:¬s.size<=i:=by omega
 obtain⟨c,hc⟩:∃c,(wb s)[i]?=some c:=⟨_,Xn (by rw[A2y];exact hlt)⟩
 have ix:=ixS hc
 have er:r.rest=c::(wb s).drop (i+1):=by
  rw[h.rest,Xy (by rw[A2y];exact hlt),(Xq.1 hc).2]
 rw[er]at hO;simp only at hO;have eib:=gIB c;have dib:=ib_sc c
 obtain⟨z,hz⟩:∃z,z=Lib.indexByte [104,101,120,105] c:=⟨_,rfl⟩
 rw[<-hz]at eib dib
 cases hsc:isSc c with
 | false=>
  rw[hsc]at hO dib;rw[if_neg (by decide)]at hO
  have zl:z<0:=by simpa using dib
  refine A0b CF ?_;simp -implicitDefEqProofs [L.l1,L.l0,hd,hnle,ix,eib,dib,zl,tf1];exact A1u ⟨.t (iv 0),fH,fn⟩ (bad hO) (by simp -implicitDefEqProofs)
 | true=>
 rw[hsc]at hO dib;rw[if_pos rfl]at hO
 have zl:¬z<0:=by simpa using dib
 obtain⟨m,hm⟩:∃m,m=i+1:=⟨_,rfl⟩
 have w2:IntKind.i64.wrap ((i:Int)+1)=(m:Int):=by rw[hm];exact A0k (by omega) (by omega)
 have hms:m<=s.size:=by omega
 have slc:=slS (s:=s) (i:=i) (j:=m) (by omega) hms
 have etk1:((wb s).drop i).take (m-i)=[c]:=by
  rw[show m-i=1 by omega,<-h.rest,er];rfl
 rw[etk1]at slc;rw[<-hm]at hO;have S2:=h.step (j:=m) (e':=r.e) hms;have s2:=stR1 h.o m
 obtain⟨H2,hH2⟩:∃H2,H2=Xd H k0 (A7v s m r.e (rowP eVr kv r.seen)):=⟨_,rfl⟩
 rw[<-hH2]at s2 S2
 have k2:∀c,c≠k0->Xc H2 c=Xc H c:=λc hc=>by rw[hH2,A0f,if_neg hc]
 have f2:Frs H fn->Frs H2 fn:=λh=>by rw[hH2];exact h.upd
 have L2:=ldR S2.o;refine A0b CF ?_;simp -implicitDefEqProofs [L.l1,L.l0,hd,hnle,ix,eib,dib,zl];refine A0b A0g ?_;simp -implicitDefEqProofs [L.l1,L.l0,w2,slc];refine A0b A0g ?_;simp -implicitDefEqProofs [L.l1,w2,s2];refine A0b A0g ?_;simp -implicitDefEqProofs [L2.l1]
 obtain⟨Q,hQ⟩:∃Q,Q=(wb s).drop m:=⟨_,rfl⟩
 rw[<-hQ]at hO
 obtain⟨D,hD⟩:∃D,D=digW Q:=⟨_,rfl⟩
 rw[<-hD]at hO
 obtain⟨zz,hzz⟩:∃zz,zz=decide (Q.head?=some 48):=⟨_,rfl⟩
 refine A3q (λc':VaC=>⟨[(4,.t (iv (m:Int))),(3,.t (sv (ob [c]))),(0,.ptr k0 0)],c'.H,fn,153⟩) (λc'=>RdS s k0 kv c'.j ⟨(wb s).drop c'.j,r.e,r.seen⟩ c'.H fn/\m<=c'.j/\D=Q.take (c'.j-m)/\(∀c'',c''≠k0->Xc c'.H c''=Xc H c'')/\(Frs H fn->Frs c'.H fn)) (λ_=>rfl) ?_ ?_
 .refine A1k ?_
  refine A2w (SVa k0 (ob [c]) m fn) (λc'=>s.size-c'.j) (λc'=>RdS s k0 kv c'.j ⟨(wb s).drop c'.j,r.e,r.seen⟩ c'.H fn/\m<=c'.j/\D=Q.take (c'.j-m)++B7t (decide (c'.j=m)) zz ((wb s).drop c'.j)/\(∀c'',c''≠k0->Xc c'.H c''=Xc H c'')/\(Frs H fn->Frs c'.H fn)) ⟨H2,m⟩ (λ_=>rfl) ⟨S2,Xe _,by
    simp only[Xo,Xv,Xp,decide_true]
    rw[hD,hQ];rfl,k2,f2⟩ ?_ rfl ?_
  .exact A0d (by simp -implicitDefEqProofs [SVa])
  rintro⟨Ha,j⟩ ⟨hS,hij,hWj,hk,hf⟩;simp only at hS hij hWj hk hf;have La:=ldR hS.o;have hjs:=hS.hi;by_cases hlj:j<s.size
  rotate_left
  .have hdj:decide ((j:Int)<(s.size:Int))=false:=decide_eq_false (by omega);have edn:(wb s).drop j=[]:=X5 (by rw[A2y];omega)
   have hrn:∀a b,B7t a b []=[]:=λa b=>by cases a<;>cases b<;>rfl
   have hWe:D=Q.take (j-m):=by rw[hWj,edn,hrn,Xs]
   refine A0b A0g ?_;simp -implicitDefEqProofs [SVa,La.l1,La.l0,hdj,hlj];exact Abs.Next.mk ⟨Ha,j⟩ ⟨hS,hij,hWe,hk,hf⟩ (A0d (by simp -implicitDefEqProofs))
  have hdj:decide ((j:Int)<(s.size:Int))=true:=decide_eq_true (by omega)
  obtain⟨x,hx⟩:∃x,(wb s)[j]?=some x:=⟨_,Xn (by rw[A2y];exact hlj)⟩
  have ixj:=ixS hx
  have ed:(wb s).drop j=x::(wb s).drop (j+1):=by
   rw[Xy (by rw[A2y];exact hlj),(Xq.1 hx).2]
  have etk:Q.take (j+1-m)=Q.take (j-m)++[x]:=by
   rw[hQ,show j+1-m=(j-m)+1 by omega,Xt,Yc,show m+(j-m)=j by omega,hx];rfl
  have w3:IntKind.i64.wrap ((j:Int)+1)=((j+1:Nat):Int):=A0k (by omega) (by omega);have S3:=hS.step (j:=j+1) (e':=r.e) (by omega);have s3:=stR1 hS.o (j+1)
  obtain⟨H3,hH3⟩:∃H3,H3=Xd Ha k0 (A7v s (j+1) r.e (rowP eVr kv r.seen)):=⟨_,rfl⟩
  simp only at s3;rw[<-hH3]at s3 S3;rw[show((j+1:Nat):Int)=(j:Int)+1 from rfl]at s3 w3
  have go:D=Q.take (j+1-m)++B7t false zz ((wb s).drop (j+1))->RdS s k0 kv (j+1) ⟨(wb s).drop (j+1),r.e,r.seen⟩ H3 fn/\m<=j+1/\D=Q.take (j+1-m)++B7t (decide (j+1=m)) zz ((wb s).drop (j+1))/\(∀c',c'≠k0->Xc H3 c'=Xc H c')/\(Frs H fn->Frs H3 fn):=λhg=>by
   refine⟨S3,by omega,by rw[decide_eq_false (by omega:¬j+1=m)];exact hg,λc hc=>by rw[hH3,A0f,if_neg hc];exact hk c hc,λh=>by rw[hH3];exact(hf h).upd⟩
  rw[ed]at hWj
  have x48:x=48 ↔ x.toNat=48:=⟨λe=>by rw[e];rfl,λe=>UInt8.toNat_inj.1 e⟩
  by_cases g1:48<=x.toNat
  rotate_left
  .have d1:decide ((48:Int)<=(x.toNat:Int))=false:=decide_eq_false (by omega)
   have hdg:A1j x=false:=by unfold A1j;rw[decide_eq_false g1];rfl
   have hWe:D=Q.take (j-m):=by
    rw[hWj]
    have:B7t (decide (j=m)) zz (x::(wb s).drop (j+1))=[]:=by
     unfold B7t;split
     .rw[digW,if_neg (by rw[hdg];decide)]
     .split
      .rfl
      .rw[Yf,hdg];rfl
    rw[this,Xs]
   refine A0b A0g ?_;simp -implicitDefEqProofs [SVa,La.l1,La.l0,hdj,hlj,ixj,d1,g1];exact Abs.Next.mk ⟨Ha,j⟩ ⟨hS,hij,hWe,hk,hf⟩ (A0d (by simp -implicitDefEqProofs))
  have d1:decide ((48:Int)<=(x.toNat:Int))=true:=decide_eq_true (by omega);by_cases g2:x.toNat<=57
  rotate_left
  .have d2:decide ((x.toNat:Int)<=57)=false:=decide_eq_false (by omega)
   have hdg:A1j x=false:=by unfold A1j;rw[decide_eq_false g2,X6]
   have hWe:D=Q.take (j-m):=by
    rw[hWj]
    have:B7t (decide (j=m)) zz (x::(wb s).drop (j+1))=[]:=by
     unfold B7t;split
     .rw[digW,if_neg (by rw[hdg];decide)]
     .split
      .rfl
      .rw[Yf,hdg];rfl
    rw[this,Xs]
   refine A0b A0g ?_;simp -implicitDefEqProofs [SVa,La.l1,La.l0,hdj,hlj,ixj,d1,g1,d2,g2];exact Abs.Next.mk ⟨Ha,j⟩ ⟨hS,hij,hWe,hk,hf⟩ (A0d (by simp -implicitDefEqProofs))
  have d2:decide ((x.toNat:Int)<=57)=true:=decide_eq_true (by omega)
  have hdg:A1j x=true:=by unfold A1j;rw[decide_eq_true g1,decide_eq_true g2];rfl
  by_cases g3:j=m
  .have d3:((j:Int)==(m:Int))=true:=by rw[g3];exact beq_self_eq_true _
   have hg:D=Q.take (j+1-m)++B7t false zz ((wb s).drop (j+1)):=by
    rw[hWj,etk,decide_eq_true g3,Xz];congr 1
    have hz2:zz=decide (x=48):=by
     rw[hzz,hQ,<-g3,ed];simp
    unfold B7t;rw[hz2];by_cases e:x=48
    .rw[if_pos rfl,digW,if_pos hdg,if_pos e,decide_eq_true e];rfl
    .rw[if_pos rfl,digW,if_pos hdg,if_neg e,decide_eq_false e];rfl
   refine A0b A0g ?_;simp -implicitDefEqProofs [SVa,La.l1,La.l0,hdj,hlj,ixj,d1,g1,d2,g2,d3];refine A1k ?_;refine A0r A0g ?_;simp -implicitDefEqProofs [La.l1,w3,s3];exact Abs.Next.mk ⟨H3,j+1⟩ ⟨go hg,by show s.size-(j+1)<s.size-j;omega⟩ (A0d (by simp -implicitDefEqProofs [SVa]))
  .have d3:((j:Int)==(m:Int))=false:=by rw[beq_eq_false_iff_ne];omega
   obtain⟨y,hy⟩:∃y,(wb s)[m]?=some y:=⟨_,Xn (by rw[A2y];omega)⟩
   have ixm:=ixS hy
   have y48:y=48 ↔ y.toNat=48:=⟨λe=>by rw[e];rfl,λe=>UInt8.toNat_inj.1 e⟩
   have hz2:zz=decide (y=48):=by
    rw[hzz,hQ,List.head?_drop,hy];simp
   by_cases g4:y.toNat=48
   .have d4:((y.toNat:Int) != 48)=false:=by rw[g4];rfl
    have hWe:D=Q.take (j-m):=by
     rw[hWj,decide_eq_false g3,hz2,decide_eq_true (y48.2 g4)];unfold B7t;rw[if_neg (by decide),if_pos rfl,Xs]
    refine A0b A0g ?_;simp -implicitDefEqProofs [SVa,La.l1,La.l0,hdj,hlj,ixj,ixm,d1,g1,d2,g2,d3,d4];exact Abs.Next.mk ⟨Ha,j⟩ ⟨hS,hij,hWe,hk,hf⟩ (A0d (by simp -implicitDefEqProofs))
   .have d4:((y.toNat:Int) != 48)=true:=by rw[bne_iff_ne];omega
    have hg:D=Q.take (j+1-m)++B7t false zz ((wb s).drop (j+1)):=by
     rw[hWj,etk,decide_eq_false g3,Xz,hz2,decide_eq_false (λe=>g4 (y48.1 e))];congr 1;unfold B7t;rw[if_neg (by decide),if_neg (by decide),if_neg (by decide),if_neg (by decide),Yf,hdg];rfl
    refine A0b A0g ?_;simp -implicitDefEqProofs [SVa,La.l1,La.l0,hdj,hlj,ixj,ixm,d1,g1,d2,g2,d3,d4];refine A1k ?_;refine A0r A0g ?_;simp -implicitDefEqProofs [La.l1,w3,s3];exact Abs.Next.mk ⟨H3,j+1⟩ ⟨go hg,by show s.size-(j+1)<s.size-j;omega⟩ (A0d (by simp -implicitDefEqProofs [SVa]))
 rintro⟨Ha,j⟩ ⟨hS,hij,hWj,hk,hf⟩;simp only at hS hij hWj hk hf;have La:=ldR hS.o;have hjs:=hS.hi;by_cases g3:j=m
 .have d3:((j:Int)==(m:Int))=true:=by rw[g3];exact beq_self_eq_true _
  have hD0:D=[]:=by rw[hWj,g3,Xo,Xv]
  rw[if_pos hD0]at hO;obtain⟨⟨fr',fH',fn'⟩,⟨hr',hn',hfS',hfk',hff'⟩,hfc'⟩:=A9m (q:=q) hS;simp only at hr' hn' hfS' hfk' hff' hfc';subst hr' hn';obtain⟨tg,tg1,tg2⟩:=hAt hfc' hff';have CG:Ctx Tryz.prog (G q) _:=A0s.nil.ctxH (A0v.cons tg2 .nil) mixed;refine A0b CG ?_;simp -implicitDefEqProofs [La.l1,d3,tg1];refine A1u ⟨.t (iv 0),fH',fn'⟩ ⟨by rw[hO],?_⟩ (by simp -implicitDefEqProofs);rw[hO];refine⟨⟨kv,j,?_,.inl rfl⟩,λc _ h0 _=>(hfk' c h0).trans (hk c h0),Xe _,λh=>hff' (hf h)⟩;simp only;rw[hQ,<-g3];exact hfS'
 .have d3:((j:Int)==(m:Int))=false:=by rw[beq_eq_false_iff_ne];omega
  have hDl:D.length=j-m:=by rw[hWj,hQ,Xr,X0,A2y];omega
  have hD0:D≠[]:=λe=>by rw[e]at hDl;simp at hDl;omega
  rw[if_neg hD0]at hO;have sld:=slS (s:=s) (i:=m) (j:=j) hij hjs;rw[<-hQ,<-hWj]at sld
  have hsl:r.seen.length<=1000000000:=by unfold muR at hmu;omega
  obtain⟨Hd,ad,bd,cdd,fd⟩:=appT (by':=32) (nx:=fn) (⟨ob [c],ob D⟩:Vr) 2 rfl [sv (ob [c]),sv (ob D)] rfl hS.v hS.lv (by simp only;omega) (by simp only;omega);simp only at ad bd
  have odd:Xc Hd k0=some (A7v s j r.e (rowP eVr kv r.seen)):=by rw[cdd k0 h.l0 h.ne.symm];exact hS.o
  have Ld:=ldR odd
  obtain⟨ns,hns⟩:∃ns,ns=r.seen++[(⟨ob [c],ob D⟩:Vr)]:=⟨_,rfl⟩
  rw[<-hns]at ad bd hO
  have hnl:ns.length=r.seen.length+1:=by rw[hns];simp
  have nne:ns≠[]:=λe=>by rw[e]at hnl;simp at hnl
  have erw:rowP eVr fn ns = .row fn 0 (r.seen.length+1) 2:=by rw[A6q eVr fn ns nne,hnl];rfl
  rw[erw]at ad;have s4:=stR3 odd (b:=fn) (n:=r.seen.length+1) (z:=2)
  obtain⟨He,hHe⟩:∃He,He=Xd Hd k0 (A7v s j r.e (.row fn 0 (r.seen.length+1) 2)):=⟨_,rfl⟩
  rw[<-hHe]at s4
  have oe:Xc He k0=some (A7v s j r.e (.row fn 0 (r.seen.length+1) 2)):=by rw[hHe,A0f,if_pos rfl,odd];rfl
  have Le:=ldR oe;have bdm:∀(Φ:A0u) (H:Heap) (nx:Nat),A0i Φ H nx (.build [(0,1),(1,1)] [.string ⟨#[]⟩,.string ⟨#[]⟩] [0,1]) [.t (sv (ob [c])),.t (sv (ob D))]=some (.t (.ag [sv (ob [c]),sv (ob D)]),H,nx):=λ_ _ _=>rfl;have htsl:A5c tyVr 2 [.string ⟨#[]⟩,.string ⟨#[]⟩] 1 [(0,.t (.ag [sv (ob [c]),sv (ob D)]))]=some (.t (.sl 1 [sv (ob [c]),sv (ob D)])):=rfl;have lnr:A6t (.row fn 0 (r.seen.length+1) 2)=some (.t (iv ((r.seen.length+1:Nat):Int))):=rfl;have w5:IntKind.i64.wrap (((r.seen.length+1:Nat):Int)-1)=((r.seen.length:Nat):Int):=A0k (by omega) (by omega);rw[show((r.seen.length+1:Nat):Int)=(r.seen.length:Int)+1 from rfl]at lnr w5;have w6:IntKind.i64.wrap ((r.seen.length:Nat):Int)=((r.seen.length:Nat):Int):=A0k rfl (by omega);refine A0b A0g ?_;simp -implicitDefEqProofs [La.l1,d3];refine A0b A0g ?_;simp -implicitDefEqProofs [La.l3,La.l0,La.l1,sld,bdm,htsl,ad,s4,-evalK_build];refine A0r A0g ?_;simp -implicitDefEqProofs [Le.l3,lnr,w5];refine A1u ⟨.t (iv (r.seen.length:Int)),He,fn+1⟩ ⟨by rw[hO],?_⟩ (by simp -implicitDefEqProofs [w6]);rw[hO];refine⟨⟨fn,j,⟨?_,?_,?_,hjs,?_,?_,?_⟩,.inr (Xe _)⟩,λc hc h0 hv=>?_,Xl _,λh=>?_⟩
  .simp only;rw[erw];exact oe
  .refine bd.imp id λe=>?_;show Xc He fn=_;rw[hHe,A0f,if_neg (by have:=h.l0;omega)];exact e
  .simp only;rw[hDl,hQ,Yd,show m+(j-m)=j by omega]
  .have:=h.l0;show k0<fn+1;omega
  .exact Xi fn
  .have:=h.l0;omega
  .show Xc He c=_;rw[hHe,A0f,if_neg h0,cdd c hc hv];exact hk c h0
  .show Frs He (fn+1);rw[hHe];exact(fd (hf h)).upd
end
structure Acc (k0 kv0:Nat) (H0:Heap) (nx0:Nat) (kv:Nat) (H:Heap) (nx:Nat):Prop where
 v:kv=kv0\/nx0<=kv
 k:∀c,c<nx0->c≠k0->c≠kv0->Xc H c=Xc H0 c
 n:nx0<=nx
 fr:Frs H0 nx0->Frs H nx
structure Stp (s:ByteArray) (k0 kv0:Nat) (H0:Heap) (nx0:Nat) (kv:Nat) (r':Rs) (H:Heap) (nx kv' i':Nat) (H':Heap) (nx':Nat):Prop where
 s:RdS s k0 kv' i' r' H' nx'
 a:Acc k0 kv0 H0 nx0 kv' H' nx'
 k:∀c,c<nx->c≠k0->c≠kv->Xc H' c=Xc H c
 v:kv'=kv\/nx<=kv'
 n:nx<=nx'
section
variable {s : ByteArray} {k0 kv0 kv i : Nat} {r : Rs} {H0 H : Heap} {nx0 nx : Nat}
theorem Acc.refl:Acc k0 kv H nx kv H nx:=⟨.inl rfl,λ_ _ _ _=>rfl,Xe _,λh=>h⟩
theorem Acc.step (A:Acc k0 kv0 H0 nx0 kv H nx) {kv' nx':Nat} {H':Heap} (hk:∀c,c<nx->c≠k0->c≠kv->Xc H' c=Xc H c) (hv:kv'=kv\/nx<=kv') (hn:nx<=nx') (hf:Frs H nx->Frs H' nx'):Acc k0 kv0 H0 nx0 kv' H' nx':=by
 have n1:=A.n;have v1:=A.v;refine⟨by rcases hv with e | e<;>omega,λc hc h0 hcv=>?_,by omega,λh=>hf (A.fr h)⟩;rw[hk c (by omega) h0 (by omega)];exact A.k c hc h0 hcv
theorem Acc.cons (A:Acc k0 kv0 H0 nx0 kv H nx) (x:Row):Acc k0 kv0 H0 nx0 kv ((nx,x)::H) (nx+1):=
 A.step (λc hc _ _=>by rw[look_cons,if_neg (by omega)]) (.inl rfl) (Xl _) (λh=>h.cons (Xi _) (Xl _))
theorem Acc.upd (A:Acc k0 kv0 H0 nx0 kv H nx) {b:Nat} (hb:nx0<=b) (x:Row):Acc k0 kv0 H0 nx0 kv (Xd H b x) nx:=
 ⟨A.v,λc hc h0 hcv=>by rw[A0f,if_neg (by omega)];exact A.k c hc h0 hcv,A.n,λh=>(A.fr h).upd⟩
theorem RdS.cons (h:RdS s k0 kv i r H nx) (x:Row):RdS s k0 kv i r ((nx,x)::H) (nx+1):=by
 have h1:=h.l0;have h2:=h.lv;exact⟨by rw[look_cons,if_neg (by omega)];exact h.o,h.v.imp id λe=>by rw[look_cons,if_neg (by omega)];exact e,h.rest,h.hi,by omega,by omega,h.ne⟩
theorem RdS.upd (h:RdS s k0 kv i r H nx) {b:Nat} (h0:k0≠b) (hv:kv≠b) (x:Row):RdS s k0 kv i r (Xd H b x) nx:=
 ⟨by rw[A0f,if_neg h0];exact h.o,h.v.imp id λe=>by rw[A0f,if_neg hv];exact e,h.rest,h.hi,h.l0,h.lv,h.ne⟩
theorem A6r (S:RdS s k0 kv i r H nx) (A:Acc k0 kv0 H0 nx0 kv H nx) {t:ByteArray} (ht:t.size<=1000) (hs:s.size<=1000000000) :
  ∃H' i' tb,Stp s k0 kv0 H0 nx0 kv (A1f (wb t) r) H nx kv i' H' nx/\tb [.ptr k0 0,.t (sv t)] H nx=some (.t (.tu []),H',nx)/\HOK Tryz.prog (G q) 87 tb:=by
 obtain⟨⟨fr,fH,fn⟩,⟨hr,hn,⟨i',hS⟩,hk,hf⟩,hc⟩:=F0d (q:=q) S ht hs;simp only at hr hn hS hk hf hc;subst hr hn;obtain⟨tb,t1,t2⟩:=hAt hc hf;exact⟨fH,i',tb,⟨hS,A.step (λc _ h0 _=>hk c h0) (.inl rfl) (Xe _) hf,λc _ h0 _=>hk c h0,.inl rfl,Xe _⟩,t1,t2⟩
theorem F0j (S:RdS s k0 kv i r H nx) (A:Acc k0 kv0 H0 nx0 kv H nx) {big:Bool} {lo hi:UInt8} (hok:∀c,okC big c=(decide (lo.toNat<=c.toNat)&&decide (c.toNat<=hi.toNat))) (hs:s.size<=1000000000) :
  ∃H' i' tb,Stp s k0 kv0 H0 nx0 kv (A3u big r).1 H nx kv i' H' nx/\tb [.ptr k0 0,u8c lo,u8c hi] H nx=some (.t (sv (A3u big r).2),H',nx)/\HOK Tryz.prog (G q) 123 tb:=by
 obtain⟨⟨fr,fH,fn⟩,⟨hr,hn,⟨i',hS⟩,hk,hf⟩,hc⟩:=E4o (q:=q) S hok hs;simp only at hr hn hS hk hf hc;subst hr hn;obtain⟨tb,t1,t2⟩:=hAt hc hf;exact⟨fH,i',tb,⟨hS,A.step (λc _ h0 _=>hk c h0) (.inl rfl) (Xe _) hf,λc _ h0 _=>hk c h0,.inl rfl,Xe _⟩,t1,t2⟩
theorem C6c (S:RdS s k0 kv i r H nx) (A:Acc k0 kv0 H0 nx0 kv H nx) (hs:s.size<=1000000000) (hmu:muR r<=1000000000) :
  ∃H' kv' i' nx' tb,Stp s k0 kv0 H0 nx0 kv (varR r).1 H nx kv' i' H' nx'/\tb [.ptr k0 0] H nx=some (.t (iv (varR r).2),H',nx')/\HOK Tryz.prog (G q) 86 tb:=by
 obtain⟨⟨fr,fH,fn⟩,⟨hr,⟨⟨kv',i',hS,hv⟩,hk,hn,hf⟩⟩,hc⟩:=F0i (q:=q) S hs hmu;simp only at hr hn hS hk hf hc;subst hr;obtain⟨tb,t1,t2⟩:=hAt hc hf;exact⟨fH,kv',i',fn,tb,⟨hS,A.step hk hv hn hf,hk,hv,hn⟩,t1,t2⟩
theorem B8y (S:RdS s k0 kv i r H nx) (c:UInt8):∃tb,tb [.ptr k0 0,u8c c] H nx=some (.t (bv (A1x c r)),H,nx)/\HOK Tryz.prog (G q) 88 tb:=by
 obtain⟨tb,t1,t2⟩:=hAt (F0c (q:=q) S c) (λh=>h);exact⟨tb,t1,t2⟩
end
theorem C2z (r:Rs):muR (A4c r)=muR r:=by unfold muR;rw[A2k,A4x]
theorem B7u:∀(t:List UInt8) (r:Rs),(A1f t r).seen=r.seen
 | [],_=>rfl
 | c::t,r=>by
  rw[A1f];split
  .split
   .split
    .exact B7u t _
    .exact A4x r
   .exact A4x r
  .rfl
theorem A4t (t:List UInt8) (r:Rs):muR (A1f t r)<=muR r:=by
 have:=A2f t r;unfold muR;rw[B7u];omega
theorem C8w (big:Bool) (r:Rs):muR (A3u big r).1<=muR r:=by
 have h:=B5y big r
 have e:(A3u big r).1.seen=r.seen:=by
  unfold A3u;split
  .split
   .exact A4x r
   .rfl
  .rfl
 unfold muR;rw[e];omega
theorem B8z (r:Rs):muR (varR r).1<=muR r:=by
 unfold varR;split
 .split
  .rename_i c q hr;split
   .split
    .rw[C2z];unfold muR;rw[hr];simp
    .rename_i hD;have h1:0<(digW q).length:=List.length_pos_iff.2 hD;unfold muR;rw[hr];simp only[Xk,Xm,List.length_nil,X0];omega
   .exact Nat.le_of_eq (C2z r)
  .exact Nat.le_of_eq (C2z r)
 .exact Xe _
theorem F8t (r:Rs):muR (B7k r)<=muR r:=by
 unfold muR B7k;simp only[X0];omega
section
variable {s : ByteArray} {ks kt i k : Nat} {r : Rs} {H H' : Heap} {nx nx' : Nat} {e : Int} {u v : PV}
theorem F8u {p:PV} {ps:List PV} {x:T} {ts:List T} {F F':List Nat} (h:toT H p=some (x,F)) (h':toTs H ps=some (ts,F')):toTs H (p::ps)=some (x::ts,F++F'):=by
 simp only[Yg,h,h']
end
noncomputable def gOne (a:List T) (r:T):List T->Option T:=λargs=>open Classical in if args=a then some r else none
theorem A1i (a:List T) (r:T):gOne a r a=some r:=if_pos rfl
theorem A4d {P:Program} {G:A1c} {f:FuncId} {a:List T} {r:T} (h:A1d P G f a (· = r)):GOK P G f (gOne a r):=λargs r' hr=>by
 unfold gOne at hr;split at hr
 .rename_i e;subst e;injection hr with hr;subst hr;exact h
 .cases hr
def C4b (n:Nat) (r:Row):Prop:=∃ty cs,r = .cells ty cs/\∀p∈cs,(∃t,p = .t t)\/∃b o m z,p = .row b o m z/\b<n
theorem C4b.frz {n:Nat} {r:Row} (h:C4b n r) {H:Heap} {F:List Nat} (hF:∀b∈F,n<=b):A6u H F r=r:=by
 obtain⟨ty,cs,rfl,hc⟩:=h;show Row.cells ty (cs.map (frzP H F))=_;congr 1
 have e:cs.map (frzP H F)=cs.map id:=Yr λp hp=>by
  rcases hc p hp with⟨t,rfl⟩ | ⟨b,o,m,z,rfl,hb⟩
  .rfl
  .unfold frzP;rw[toT];split
   .rename_i x F' hx;split at hx
    .split at hx
     .obtain⟨ts,_,e⟩:=X7.1 hx;injection e with _ e;subst e;rw[if_neg]
      .rfl
      .simp only[List.all_cons,List.all_nil,Bool.and_true,List.contains_iff_mem];intro hm;exact absurd (hF b hm) (by omega)
     .cases hx
    .cases hx
   .rfl
 rw[e,List.map_id]
theorem Frs.frz {H:Heap} {nx:Nat} (h:Frs H nx) (F:List Nat):Frs (A5u H F) nx:=λb x hb=>by
 unfold A5u at hb;rw[B2e]at hb;obtain⟨y,hy,_⟩:=X7.1 hb;exact h b y (A1m F H b y hy).1
structure G2l (s:ByteArray) (k0 kv:Nat) (o:Rs×Ep) (H:Heap) (nx:Nat) (f:Fin):Prop where
 r:f.r = .t (.ag (EC.of o.2).cs)
 ex:∃kv' i',RdS s k0 kv' i' o.1 f.H f.nx/\(kv'=kv\/nx<=kv')
 k:∀c x,c<nx->c≠k0->c≠kv->Xc H c=some x->C4b nx x->Xc f.H c=some x
 n:nx<=f.nx
 fr:Frs H nx->Frs f.H f.nx
theorem bd_E (Φ:A0u) (H:Heap) (nx:Nat) (l:Int):A0i Φ H nx (.build [(0,1),(1,1),(2,1)] [.string ⟨#[]⟩,.int .i64 0,.slice none 0 0] [1]) [.t (iv l)]=some (.t (.ag [sv ⟨#[]⟩,iv l,nilS]),H,nx):=rfl
theorem F8v (c:UInt8):okC false c=(decide ((97:UInt8).toNat<=c.toNat)&&decide (c.toNat<=(122:UInt8).toNat)):=rfl
theorem G2m (c:UInt8):okC true c=(decide ((65:UInt8).toNat<=c.toNat)&&decide (c.toNat<=(90:UInt8).toNat)):=rfl
abbrev tyEp:Nat:=47
section
variable {s : ByteArray} {k0 kv i : Nat} {r : Rs} {H : Heap} {nx : Nat}
theorem C8x {k:Nat} {a b c:T} (h:Xc H k=some (.cells tyEp [.t a,.t b,.t c])):A0t true 3 H (.ptr k 0)=some (.t (.ag [a,b,c])):=by
 simp only[A0t,h];rfl
theorem F0k {k:Nat} {x y z:PV} {p:PV} {u v w:PV} (h:Xc H k=some (.cells tyEp [x,y,z])) (hp:A1g p=some [u,v,w]):A0x 3 H (.ptr k 0) p=some (Xd H k (.cells tyEp [u,v,w])):=
 A1z (ns:=[u,v,w]) h hp rfl (by show 0+3<=3;omega)
theorem F8w {k:Nat} {x y z u:PV} (h:Xc H k=some (.cells tyEp [x,y,z])) (hu:A1g u=some [u]):A0x 1 H (.ptr k 0) u=some (Xd H k (.cells tyEp [u,y,z])):=
 A1z (ns:=[u]) h hu rfl (by show 0+1<=3;omega)
theorem F8x {k:Nat} {x y z u:PV} (h:Xc H k=some (.cells tyEp [x,y,z])) (hu:A1g u=some [u]):A0x 1 H (.ptr k 2) u=some (Xd H k (.cells tyEp [x,y,u])):=
 A1z (ns:=[u]) h hu rfl (by show 2+1<=3;omega)
theorem F0l {k:Nat} {x y z:PV} (h:Xc H k=some (.cells tyEp [x,y,z])):A0t false 1 H (.ptr k 2)=some z:=by
 simp only[A0t,h];rfl
theorem F8y {k:Nat} {a b c:PV} (h:Xc H k=some (.cells tyEp [a,b,c])):A0t true 3 H (.ptr k 0)=some (agOf [a,b,c]):=by
 simp only[A0t,h];rfl
theorem cs_E (w:ByteArray) (l:Int) (ka:Nat) (out:List Ag):A1g (agOf [.t (sv w),.t (iv l),rowP eAg ka out])=some [.t (sv w),.t (iv l),rowP eAg ka out]:=by
 cases out<;>rfl
theorem F8z {k:Nat} {a b:T} (h:Xc H k=some (.cells tyA [.t a,.t b])):A0t true 2 H (.ptr k 0)=some (.t (.ag [a,b])):=by
 simp only[A0t,h];rfl
theorem F9a {k:Nat} {x y u:PV} (h:Xc H k=some (.cells tyA [x,y])) (hu:A1g u=some [u]):A0x 1 H (.ptr k 1) u=some (Xd H k (.cells tyA [x,u])):=
 A1z (ns:=[u]) h hu rfl (by show 1+1<=2;omega)
theorem bd_A (Φ:A0u) (H:Heap) (nx:Nat) (w:ByteArray):A0i Φ H nx (.build [(0,1),(1,1)] [.string ⟨#[]⟩,.int .i64 0] [0]) [.t (sv w)]=some (.t (.ag [sv w,iv 0]),H,nx):=rfl
theorem bs_A (k:Nat) (w:ByteArray) (v:Int):A1v tyA 2 [.string ⟨#[]⟩,.int .i64 0] 1 [(0,.t (.ag [sv w,iv v]))] k=some (.row k 0 1 2,.cells tyA [.t (sv w),.t (iv v)]):=rfl
theorem cs_P (ka:Nat) (out:List Ag):A1g (rowP eAg ka out)=some [rowP eAg ka out]:=by
 cases out<;>rfl
theorem RdS.mono (h:RdS s k0 kv i r H nx) {nx':Nat} (hn:nx<=nx'):RdS s k0 kv i r H nx':=⟨h.o,h.v,h.rest,h.hi,Yh h.l0 hn,Yh h.lv hn,h.ne⟩
theorem Acc.mono {kv0 nx0:Nat} {H0:Heap} (A:Acc k0 kv0 H0 nx0 kv H nx) {nx':Nat} (hn:nx<=nx'):Acc k0 kv0 H0 nx0 kv H nx':=⟨A.v,A.k,Xf A.n hn,λh=>(A.fr h).mono hn⟩
theorem RdS.frz (h:RdS s k0 kv i r H nx) {F:List Nat} (h0:k0∉F) (hv:kv∉F):RdS s k0 kv i r (A5u H F) nx:=by
 refine⟨?_,h.v.frz hv,h.rest,h.hi,h.l0,h.lv,h.ne⟩;rw[A1b h0 h.o];show some (Row.cells tyRd [.t (sv s),.t (iv (i:Int)),.t (iv r.e),frzP H F (rowP eVr kv r.seen)])=_;rw[B8u h.v hv];rfl
structure PnC where
 H:Heap
 kv:Nat
 i:Nat
 nx:Nat
 r:Rs
 ka:Nat
 out:List Ag
 m:Nat
def SPn (k0 nx na:Nat) (c:PnC):A0c:=⟨[(3,.ptr na 0),(2,.ptr nx 0),(0,.ptr k0 0)],c.H,c.nx,52⟩
structure PnI (s:ByteArray) (k0 kv:Nat) (H:Heap) (nx na:Nat) (w:ByteArray) (l:Int) (c:PnC):Prop where
 S:RdS s k0 c.kv c.i c.r c.H c.nx
 A:Acc k0 kv H nx c.kv c.H c.nx
 p2:Xc c.H nx=some (.cells tyEp [.t (sv ⟨#[]⟩),.t (iv 0),.t nilS])
 p3:Xc c.H na=some (.cells tyEp [.t (sv w),.t (iv l),rowP eAg c.ka c.out])
 ro:A0z eAg tyA c.H c.ka c.out
 v2:c.kv≠nx
 v3:c.kv≠na
 a1:na<c.ka
 a2:c.ka≠c.kv
 a3:c.ka<c.nx
theorem D6r (S0:RdS s k0 kv i r H nx) (hs:s.size<=1000000000) (hmu:muR r<=1000000000) {n:Nat} (hn:r.rest.length<n) (hn2:n<=1000000000) :
  ∃f:Fin,G2l s k0 kv (A3a n r) H nx f/\A3n Tryz.prog (G q) 89 [.ptr k0 0] H nx f.r f.H f.nx:=by
 obtain⟨O,hO⟩:∃O,O=A3a n r:=⟨_,rfl⟩
 rw[<-hO];have l0:=S0.l0;have lv:=S0.lv;refine A9d.callX rfl ?_;(conv in A4w=>cbv);refine A0b A0g ?_;simp -implicitDefEqProofs;have S1:=S0.cons (.cells tyEp [.t (sv ⟨#[]⟩),.t (iv 0),.t nilS]);have A1:=(Acc.refl (k0:=k0) (kv:=kv) (H:=H) (nx:=nx)).cons (.cells tyEp [.t (sv ⟨#[]⟩),.t (iv 0),.t nilS])
 obtain⟨H1,hH1⟩:∃H1:Heap,H1=(nx,.cells tyEp [.t (sv ⟨#[]⟩),.t (iv 0),.t nilS])::H:=⟨_,rfl⟩
 rw[<-hH1]at S1 A1
 have p2:Xc H1 nx=some (.cells tyEp [.t (sv ⟨#[]⟩),.t (iv 0),.t nilS]):=by rw[hH1,look_cons,if_pos rfl]
 obtain⟨Ha,kva,ia,na,ta,⟨Sa,Aa,ka,va,nna⟩,ta1,ta2⟩:=C6c (q:=q) S1 A1 hs hmu;have mua:=B8z r;rw[hH1]at ta1
 have pa2:Xc Ha nx=some (.cells tyEp [.t (sv ⟨#[]⟩),.t (iv 0),.t nilS]):=by rw[ka nx (by omega) (by omega) (by omega)];exact p2
 obtain⟨l,hl⟩:∃l,l=(varR r).2:=⟨_,rfl⟩
 rw[<-hl]at ta1
 obtain⟨r1,hr1⟩:∃r1,r1=(varR r).1:=⟨_,rfl⟩
 rw[<-hr1]at Sa mua;have S2:=Sa.cons (.cells tyEp [.t (sv ⟨#[]⟩),.t (iv l),.t nilS]);have A2:=Aa.cons (.cells tyEp [.t (sv ⟨#[]⟩),.t (iv l),.t nilS])
 obtain⟨Hb,hHb⟩:∃Hb:Heap,Hb=(na,.cells tyEp [.t (sv ⟨#[]⟩),.t (iv l),.t nilS])::Ha:=⟨_,rfl⟩
 rw[<-hHb]at S2 A2
 have pb2:Xc Hb nx=some (.cells tyEp [.t (sv ⟨#[]⟩),.t (iv 0),.t nilS]):=by rw[hHb,look_cons,if_neg (by omega)];exact pa2
 have pb3:Xc Hb na=some (.cells tyEp [.t (sv ⟨#[]⟩),.t (iv l),.t nilS]):=by rw[hHb,look_cons,if_pos rfl]
 have u1:∀a b c,A0x 3 ((na,.cells tyEp [a,b,c])::Ha) (.ptr na 0) (.t (.ag [sv ⟨#[]⟩,iv l,nilS]))=some ((na,.cells tyEp [.t (sv ⟨#[]⟩),.t (iv l),.t nilS])::Ha):=λa b c=>st3 na a b c _ _ _ tyEp Ha rfl;rw[<-hHb]at u1;have CA:Ctx Tryz.prog (G q) _:=A0s.nil.ctxH (A0v.cons ta2 .nil) mixed;refine A0b CA ?_;simp -implicitDefEqProofs [ta1,bd_E,u1,-evalK_build];refine A3i (s':=⟨[(3,.ptr na 0),(2,.ptr nx 0),(0,.ptr k0 0)],Hb,na+1,52⟩) (by rw[hHb];exact A0d (by simp -implicitDefEqProofs)) rfl ?_
 have vka:kva≠nx/\kva≠na/\kva≠k0:=⟨by omega,by have:=Sa.lv;omega,Sa.ne⟩
 obtain⟨Hc,ic,tb,⟨Sc,Ac,kc,_,_⟩,tb1,tb2⟩:=A6r (q:=q) S2 A2 (t:=⟨#[58]⟩) (by decide) hs;have muc:=A4t (wb ⟨#[58]⟩) r1
 obtain⟨r2,hr2⟩:∃r2,r2=A1f (wb ⟨#[58]⟩) r1:=⟨_,rfl⟩
 rw[<-hr2]at Sc muc
 have pc2:Xc Hc nx=some (.cells tyEp [.t (sv ⟨#[]⟩),.t (iv 0),.t nilS]):=by rw[kc nx (by omega) (by omega) (by omega)];exact pb2
 have pc3:Xc Hc na=some (.cells tyEp [.t (sv ⟨#[]⟩),.t (iv l),.t nilS]):=by rw[kc na (by omega) (by omega) (by omega)];exact pb3
 have CB:Ctx Tryz.prog (G q) _:=A0s.nil.ctxH (A0v.cons tb2 .nil) mixed;refine A0b CB ?_;simp -implicitDefEqProofs [tb1];obtain⟨Hd,id',tc,⟨Sd,Ad,kd,_,_⟩,tc1,tc2⟩:=F0j (q:=q) Sc Ac (big:=false) (lo:=97) (hi:=122) F8v hs;rw[show u8c 97 = .t (.v (.int .u8 97))from rfl,show u8c 122 = .t (.v (.int .u8 122))from rfl]at tc1;have mud:=C8w false r2
 obtain⟨r3,hr3⟩:∃r3,r3=(A3u false r2).1:=⟨_,rfl⟩
 obtain⟨w,hw⟩:∃w,w=(A3u false r2).2:=⟨_,rfl⟩
 rw[<-hr3]at Sd mud;rw[<-hw]at tc1
 have pd2:Xc Hd nx=some (.cells tyEp [.t (sv ⟨#[]⟩),.t (iv 0),.t nilS]):=by rw[kd nx (by omega) (by omega) (by omega)];exact pc2
 have pd3:Xc Hd na=some (.cells tyEp [.t (sv ⟨#[]⟩),.t (iv l),.t nilS]):=by rw[kd na (by omega) (by omega) (by omega)];exact pc3
 have sd:=F8w pd3 (u:=.t (sv w)) rfl;have Se:=Sd.upd (b:=na) (by omega) vka.2.1 (.cells tyEp [.t (sv w),.t (iv l),.t nilS]);have Ae:=Ad.upd (b:=na) (by omega) (.cells tyEp [.t (sv w),.t (iv l),.t nilS])
 obtain⟨He,hHe⟩:∃He,He=Xd Hd na (.cells tyEp [.t (sv w),.t (iv l),.t nilS]):=⟨_,rfl⟩
 rw[<-hHe]at sd Se Ae
 have pe2:Xc He nx=some (.cells tyEp [.t (sv ⟨#[]⟩),.t (iv 0),.t nilS]):=by rw[hHe,A0f,if_neg (by omega)];exact pd2
 have pe3:Xc He na=some (.cells tyEp [.t (sv w),.t (iv l),.t nilS]):=by rw[hHe,A0f,if_pos rfl,pd3];rfl
 have CC:Ctx Tryz.prog (G q) _:=A0s.nil.ctxH (A0v.cons tc2 .nil) mixed;refine A0b CC ?_;simp -implicitDefEqProofs [tc1,sd];obtain⟨Hf,jf,td,⟨Sf,Af,kf,_,_⟩,td1,td2⟩:=A6r (q:=q) Se Ae (t:=⟨#[40]⟩) (by decide) hs;have muf:=A4t (wb ⟨#[40]⟩) r3
 obtain⟨r4,hr4⟩:∃r4,r4=A1f (wb ⟨#[40]⟩) r3:=⟨_,rfl⟩
 rw[<-hr4]at Sf muf
 have hhead:A6k r=(r4,l,w):=by rw[hr4,hr3,hw,hr2,hr1,hl];rfl
 have pf2:Xc Hf nx=some (.cells tyEp [.t (sv ⟨#[]⟩),.t (iv 0),.t nilS]):=by rw[kf nx (by omega) (by omega) (by omega)];exact pe2
 have pf3:Xc Hf na=some (.cells tyEp [.t (sv w),.t (iv l),.t nilS]):=by rw[kf na (by omega) (by omega) (by omega)];exact pe3
 have CD:Ctx Tryz.prog (G q) _:=A0s.nil.ctxH (A0v.cons td2 .nil) mixed;refine A0b CD ?_;simp -implicitDefEqProofs [td1];refine A3i (s':=⟨[(3,.ptr na 0),(2,.ptr nx 0),(0,.ptr k0 0)],Hf,na+1,52⟩) (A0d (by simp -implicitDefEqProofs)) rfl ?_;obtain⟨te,te1,te2⟩:=B8y (q:=q) Sf 41;rw[show u8c 41 = .t (.v (.int .u8 41))from rfl]at te1;have CE:Ctx Tryz.prog (G q) _:=A0s.nil.ctxH (A0v.cons te2 .nil) mixed;unfold A3a at hO;rw[hhead]at hO;simp only at hO
 have mur4:muR r4<=1000000000:=by omega
 cases hf4:A1x 41 r4 with
 | true=>
  rw[hf4]at hO te1;rw[if_pos rfl]at hO;obtain⟨he4,Q,hQ⟩:=B2t hf4
  have hjs:jf<s.size:=by
   have h1:¬s.size<=jf:=λe=>by rw[Sf.nil.2 e]at hQ;cases hQ
   omega
  have Lf:=ldR Sf.o;have w1:IntKind.i64.wrap ((jf:Int)+1)=((jf+1:Nat):Int):=A0k (by omega) (by omega);have Sg:=Sf.step (j:=jf+1) (e':=r4.e) (by omega);have sg:=stR1 Sf.o (jf+1)
  have Ag:Acc k0 kv H nx kva (Xd Hf k0 (A7v s (jf+1) r4.e (rowP eVr kva r4.seen))) (na+1):=
   ⟨Af.v,λc h1 h2 h3=>by rw[A0f,if_neg h2];exact Af.k c h1 h2 h3,Af.n,λh=>(Af.fr h).upd⟩
  obtain⟨Hg,hHg⟩:∃Hg,Hg=Xd Hf k0 (A7v s (jf+1) r4.e (rowP eVr kva r4.seen)):=⟨_,rfl⟩
  rw[<-hHg]at Sg sg Ag;rw[show((jf+1:Nat):Int)=(jf:Int)+1 from rfl]at sg w1
  have pg2:Xc Hg nx=some (.cells tyEp [.t (sv ⟨#[]⟩),.t (iv 0),.t nilS]):=by rw[hHg,A0f,if_neg (by omega)];exact pf2
  have pg3:Xc Hg na=some (.cells tyEp [.t (sv w),.t (iv l),.t nilS]):=by rw[hHg,A0f,if_neg (by omega)];exact pf3
  have al:=C8x pg3;have sh:=F0k pg2 (p:=.t (.ag [sv w,iv l,nilS])) (u:=.t (sv w)) (v:=.t (iv l)) (w:=.t nilS) rfl;have Sh:=Sg.upd (b:=nx) (by omega) (by omega) (.cells tyEp [.t (sv w),.t (iv l),.t nilS]);have Ah:=Ag.upd (b:=nx) (Xe _) (.cells tyEp [.t (sv w),.t (iv l),.t nilS])
  obtain⟨Hh,hHh⟩:∃Hh,Hh=Xd Hg nx (.cells tyEp [.t (sv w),.t (iv l),.t nilS]):=⟨_,rfl⟩
  rw[<-hHh]at sh Sh Ah
  have ph2:Xc Hh nx=some (.cells tyEp [.t (sv w),.t (iv l),.t nilS]):=by rw[hHh,A0f,if_pos rfl,pg2];rfl
  have al2:=C8x ph2;refine A0b CE ?_;simp -implicitDefEqProofs [te1,Lf.l1,w1,sg,al,sh];refine A1u ⟨.t (.ag [sv w,iv l,nilS]),Hh,na+1⟩ ⟨by rw[hO];rfl,⟨kva,jf+1,?_,Ah.v⟩,λc x h1 h2 h3 h4 _=>(Ah.k c h1 h2 h3).trans h4,Ah.n,Ah.fr⟩ (by simp -implicitDefEqProofs [al2]);rw[hO];show RdS s k0 kva (jf+1) (B7k r4) Hh (na+1);unfold B7k;rw[Sf.rest,Yd];exact Sh
 | false=>
 rw[hf4]at hO te1;rw[if_neg (by decide)]at hO;refine A0b CE ?_;simp -implicitDefEqProofs [te1];refine A3i (s':=⟨[(3,.ptr na 0),(2,.ptr nx 0),(0,.ptr k0 0)],Hf,na+1+1,52⟩) ((A8j (nx':=na+1+1) (Xl _)).trans (A0d (by simp -implicitDefEqProofs))) rfl ?_
 obtain⟨Z,hZ⟩:∃Z,Z=A7z n r4 []:=⟨_,rfl⟩
 rw[<-hZ]at hO
 have hl4:r4.rest.length<n:=by
  have:=B5z r;rw[hhead]at this;simp only at this;omega
 refine A3q (SPn k0 nx na) (λc=>Z=(c.r,c.out)/\PnI s k0 kv H nx na w l c) (λ_=>rfl) ?_ ?_
 .refine A1k ?_
  refine A2w (SPn k0 nx na) (λc=>c.m) (λc=>Z=A7z c.m c.r c.out/\c.r.rest.length<c.m/\c.out.length+c.m<=n/\muR c.r<=1000000000/\PnI s k0 kv H nx na w l c) ⟨Hf,kva,jf,na+1+1,r4,na+1,[],n⟩ (λ_=>rfl)
   ⟨hZ,hl4,by simp,mur4,⟨Sf.mono (Xl _),Af.mono (Xl _),pf2,pf3,.inl rfl,vka.1,vka.2.1,Xi _,by have:=Sf.lv;show na+1≠kva;omega,Xi _⟩⟩ ?_ rfl ?_
  .exact A0d (by simp -implicitDefEqProofs [SPn])
  rintro⟨Ha,kw,j,ny,ra,ka,out,m⟩ ⟨hZm,hrm,hom,hmr,⟨S,A,q2,q3,ro,v2,v3,a1,a2,a3⟩⟩;simp only at hZm hrm hom hmr S A q2 q3 ro v2 v3 a1 a2 a3;have L:=ldR S.o
  obtain⟨m,rfl⟩:∃m',m=m'+1:=⟨m-1,by omega⟩
  rw[A7z]at hZm;by_cases he:ra.e=0
  rotate_left
  .have hb:(ra.e==0)=false:=by rw[beq_eq_false_iff_ne];exact he
   rw[if_neg he]at hZm;refine A0b A0g ?_;simp -implicitDefEqProofs [SPn,L.l2,hb];exact Abs.Next.mk ⟨Ha,kw,j,ny,ra,ka,out,0⟩ ⟨hZm,⟨S,A,q2,q3,ro,v2,v3,a1,a2,a3⟩⟩ (A0d (by simp -implicitDefEqProofs))
  have hb:(ra.e==0)=true:=by rw[he];rfl
  rw[if_pos he]at hZm;refine A0b A0g ?_;simp -implicitDefEqProofs [SPn,L.l2,hb];refine A1k ?_;obtain⟨Hb,ib,tb,⟨Sb,Ab,kb,_,_⟩,tb1,tb2⟩:=F0j (q:=q) S A (big:=true) (lo:=65) (hi:=90) G2m hs;rw[show u8c 65 = .t (.v (.int .u8 65))from rfl,show u8c 90 = .t (.v (.int .u8 90))from rfl]at tb1;have mub:=C8w true ra
  obtain⟨rb,hrb⟩:∃rb,rb=(A3u true ra).1:=⟨_,rfl⟩
  obtain⟨wo,hwo⟩:∃wo,wo=(A3u true ra).2:=⟨_,rfl⟩
  rw[<-hrb]at Sb mub;rw[<-hwo]at tb1
  have b2:Xc Hb nx=some (.cells tyEp [.t (sv ⟨#[]⟩),.t (iv 0),.t nilS]):=by rw[kb nx (by omega) (by omega) (by omega)];exact q2
  have b3:Xc Hb na=some (.cells tyEp [.t (sv w),.t (iv l),rowP eAg ka out]):=by rw[kb na (by omega) (by omega) (by omega)];exact q3
  have bo:A0z eAg tyA Hb ka out:=ro.imp id λe=>by rw[kb ka a3 (by omega) a2];exact e
  have S1:=Sb.cons (.cells tyA [.t (sv wo),.t (iv 0)]);have A1:=Ab.cons (.cells tyA [.t (sv wo),.t (iv 0)]);have u1:∀a b,A0x 2 ((ny,.cells tyA [a,b])::Hb) (.ptr ny 0) (.t (.ag [sv wo,iv 0]))=some ((ny,.cells tyA [.t (sv wo),.t (iv 0)])::Hb):=λa b=>st2 ny a b _ _ tyA Hb
  obtain⟨H1,hH1⟩:∃H1:Heap,H1=(ny,.cells tyA [.t (sv wo),.t (iv 0)])::Hb:=⟨_,rfl⟩
  rw[<-hH1]at S1 A1 u1
  have k1:∀c,c<ny->Xc H1 c=Xc Hb c:=λc h=>by rw[hH1,look_cons,if_neg (by omega)]
  have c4:Xc H1 ny=some (.cells tyA [.t (sv wo),.t (iv 0)]):=by rw[hH1,look_cons,if_pos rfl]
  have C1:Ctx Tryz.prog (G q) _:=A0s.nil.ctxH (A0v.cons tb2 .nil) mixed;refine A0b C1 ?_;simp -implicitDefEqProofs [tb1,bd_A,u1,-evalK_build];refine A3i (s':=⟨[(4,.ptr ny 0),(3,.ptr na 0),(2,.ptr nx 0),(0,.ptr k0 0)],H1,ny+1,52⟩) (by rw[hH1];exact A0d (by simp -implicitDefEqProofs)) rfl ?_;obtain⟨Hc,ic,tc,⟨Sc,Ac,kc,_,_⟩,tc1,tc2⟩:=A6r (q:=q) S1 A1 (t:=⟨#[32]⟩) (by decide) hs;have muc:=A4t (wb ⟨#[32]⟩) rb
  obtain⟨rc,hrc⟩:∃rc,rc=A1f (wb ⟨#[32]⟩) rb:=⟨_,rfl⟩
  rw[<-hrc]at Sc muc;have lvb:=Sb.lv;have C2:Ctx Tryz.prog (G q) _:=A0s.nil.ctxH (A0v.cons tc2 .nil) mixed;refine A0b C2 ?_;simp -implicitDefEqProofs [tc1];obtain⟨Hd,kx,id',nd,td,⟨Sd,Ad,kd,vd,nnd⟩,td1,td2⟩:=C6c (q:=q) Sc Ac hs (by omega);have mud:=B8z rc
  obtain⟨rd,hrd⟩:∃rd,rd=(varR rc).1:=⟨_,rfl⟩
  obtain⟨v,hv⟩:∃v,v=(varR rc).2:=⟨_,rfl⟩
  rw[<-hrd]at Sd mud;rw[<-hv]at td1
  have hargr:argR ra=(rd,⟨wo,v⟩):=by rw[hrd,hv,hwo,hrc,hrb];rfl
  rw[hargr]at hZm;simp only at hZm
  have kcd:∀c,c<ny+1->c≠k0->c≠kw->Xc Hd c=Xc H1 c:=λc h1 h2 h3=>by rw[kd c h1 h2 h3,kc c h1 h2 h3]
  have d2:Xc Hd nx=some (.cells tyEp [.t (sv ⟨#[]⟩),.t (iv 0),.t nilS]):=by rw[kcd nx (by omega) (by omega) (by omega),k1 nx (by omega)];exact b2
  have d3:Xc Hd na=some (.cells tyEp [.t (sv w),.t (iv l),rowP eAg ka out]):=by rw[kcd na (by omega) (by omega) (by omega),k1 na (by omega)];exact b3
  have d4:Xc Hd ny=some (.cells tyA [.t (sv wo),.t (iv 0)]):=by rw[kcd ny (by omega) (by omega) (by omega)];exact c4
  have dO:A0z eAg tyA Hd ka out:=bo.imp id λe=>by rw[kcd ka (by omega) (by omega) a2,k1 ka a3];exact e
  have sd4:=F9a d4 (u:=.t (iv v)) rfl
  have kxy:kx≠nx/\kx≠na/\kx≠ny/\kx≠ka:=by omega
  have Se:=Sd.upd (b:=ny) (by omega) kxy.2.2.1 (.cells tyA [.t (sv wo),.t (iv v)]);have Ae:=Ad.upd (b:=ny) (by omega) (.cells tyA [.t (sv wo),.t (iv v)])
  obtain⟨He,hHe⟩:∃He,He=Xd Hd ny (.cells tyA [.t (sv wo),.t (iv v)]):=⟨_,rfl⟩
  rw[<-hHe]at sd4 Se Ae
  have ke:∀c,c≠ny->Xc He c=Xc Hd c:=λc h=>by rw[hHe,A0f,if_neg h]
  have e4:Xc He ny=some (.cells tyA [.t (sv wo),.t (iv v)]):=by rw[hHe,A0f,if_pos rfl,d4];rfl
  have C3:Ctx Tryz.prog (G q) _:=A0s.nil.ctxH (A0v.cons td2 .nil) mixed;refine A0b C3 ?_;simp -implicitDefEqProofs [td1,sd4]
  have e3:Xc He na=some (.cells tyEp [.t (sv w),.t (iv l),rowP eAg ka out]):=by rw[ke na (by omega)];exact d3
  have le3:=F0l e3;have le4:=F8z e4
  have eO:A0z eAg tyA He ka out:=dO.imp id λe=>by rw[ke ka (by omega)];exact e
  obtain⟨Hf',af,bf,cf,ff⟩:=appB (by':=24) (nx:=nd) (⟨wo,v⟩:Ag) 2 rfl [.t (sv wo),.t (iv v)] rfl eO (by omega) (by omega) (by omega)
  obtain⟨out',hout'⟩:∃out',out'=out++[(⟨wo,v⟩:Ag)]:=⟨_,rfl⟩
  rw[<-hout']at af bf hZm
  have f3:Xc Hf' na=some (.cells tyEp [.t (sv w),.t (iv l),rowP eAg ka out]):=by rw[cf na (by omega) (by omega)];exact e3
  have sf3:=F8x f3 (u:=rowP eAg (nd+1) out') (cs_P _ _)
  have Sf':RdS s k0 kx id' rd Hf' (nd+2):=⟨by rw[cf k0 Se.l0 (by omega)];exact Se.o,Se.v.imp id λe=>by rw[cf kx Se.lv kxy.2.2.2];exact e,Se.rest,Se.hi,by have:=Se.l0;omega,by have:=Se.lv;omega,Se.ne⟩
  have Af':Acc k0 kv H nx kx Hf' (nd+2):=⟨Ae.v,λc h1 h2 h3=>by rw[cf c (by omega) (by omega)];exact Ae.k c h1 h2 h3,by omega,λh=>ff (Ae.fr h)⟩
  have Sg:=Sf'.upd (b:=na) (by omega) kxy.2.1 (.cells tyEp [.t (sv w),.t (iv l),rowP eAg (nd+1) out']);have Ag':=Af'.upd (b:=na) (by omega) (.cells tyEp [.t (sv w),.t (iv l),rowP eAg (nd+1) out'])
  obtain⟨Hg,hHg⟩:∃Hg,Hg=Xd Hf' na (.cells tyEp [.t (sv w),.t (iv l),rowP eAg (nd+1) out']):=⟨_,rfl⟩
  rw[<-hHg]at sf3 Sg Ag'
  have g2:Xc Hg nx=some (.cells tyEp [.t (sv ⟨#[]⟩),.t (iv 0),.t nilS]):=by rw[hHg,A0f,if_neg (by omega),cf nx (by omega) (by omega),ke nx (by omega)];exact d2
  have g3:Xc Hg na=some (.cells tyEp [.t (sv w),.t (iv l),rowP eAg (nd+1) out']):=by rw[hHg,A0f,if_pos rfl,f3];rfl
  have gO:A0z eAg tyA Hg (nd+1) out':=bf.imp id λe=>by rw[hHg,A0f,if_neg (by omega)];exact e
  refine A0b A0g ?_;simp -implicitDefEqProofs [le3,le4,bs_A,af,sf3];refine A3i (s':=⟨[(3,.ptr na 0),(2,.ptr nx 0),(0,.ptr k0 0)],Hg,nd+2,52⟩) (A0d (by simp -implicitDefEqProofs)) rfl ?_;have lxd:=Sd.lv
  have I:∀H' i' r',Stp s k0 kv H nx kx r' Hg (nd+2) kx i' H' (nd+2)->PnI s k0 kv H nx na w l ⟨H',kx,i',nd+2,r',nd+1,out',m⟩:=λH' i' r' st=>
   ⟨st.s,st.a,by show Xc H' nx=_;rw[st.k nx (by omega) (by omega) kxy.1.symm];exact g2,by show Xc H' na=_;rw[st.k na (by omega) (by omega) kxy.2.1.symm];exact g3,
    gO.imp id λe=>by show Xc H' (nd+1)=_;rw[st.k (nd+1) (by omega) (by omega) (by omega)];exact e,kxy.1,kxy.2.1,by show na<nd+1;omega,by show nd+1≠kx;omega,Xi _⟩
  obtain⟨te,te1,te2⟩:=B8y (q:=q) Sg 44;rw[show u8c 44 = .t (.v (.int .u8 44))from rfl]at te1;have hlr:=B9u ra;rw[hargr]at hlr;simp only at hlr
  cases hf5:A1x 44 rd with
  | false=>
   rw[hf5]at hZm te1;rw[if_neg (by decide)]at hZm;have C5:Ctx Tryz.prog (G q) _:=A0s.nil.ctxH (A0v.cons te2 .nil) mixed;refine A0b C5 ?_;simp -implicitDefEqProofs [te1];exact Abs.Next.mk ⟨Hg,kx,id',nd+2,rd,nd+1,out',m⟩ ⟨hZm,I Hg id' rd ⟨Sg,Ag',λ_ _ _ _=>rfl,.inl rfl,Xe _⟩⟩ (A0d (by simp -implicitDefEqProofs [SPn]))
  | true=>
   rw[hf5]at hZm te1;rw[if_pos rfl]at hZm;have C5:Ctx Tryz.prog (G q) _:=A0s.nil.ctxH (A0v.cons te2 .nil) mixed;obtain⟨Hh,ih,th,Sth,th1,th2⟩:=A6r (q:=q) Sg Ag' (t:=⟨#[44,32]⟩) (by decide) hs;have muh:=A4t (wb ⟨#[44,32]⟩) rd;have hlh:=A7l hf5 [32];have C6:Ctx Tryz.prog (G q) _:=A0s.nil.ctxH (A0v.cons th2 .nil) mixed;refine A0b C5 ?_;simp -implicitDefEqProofs [te1];refine A0r C6 ?_;simp -implicitDefEqProofs [th1];refine Abs.Next.mk ⟨Hh,kx,ih,nd+2,A1f (wb ⟨#[44,32]⟩) rd,nd+1,out',m⟩ ⟨⟨hZm,?_,?_,?_,I Hh ih _ Sth⟩,Xi m⟩ (A0d (by simp -implicitDefEqProofs [SPn]))
   .show(A1f [44,32] rd).rest.length<m;omega
   .show out'.length+m<=n;rw[hout',Xk,X2];omega
   .show muR (A1f (wb ⟨#[44,32]⟩) rd)<=1000000000;omega
 rintro⟨Hx,kw,j,ny,rx,ka,out,_⟩ ⟨hZx,⟨S,A,q2,q3,ro,v2,v3,a1,a2,a3⟩⟩;simp only at hZx S A q2 q3 ro v2 v3 a1 a2 a3;rw[hZx]at hO;simp only at hO;obtain⟨Hy,jy,ty,⟨Sy,Ay,ky,_,_⟩,ty1,ty2⟩:=A6r (q:=q) S A (t:=⟨#[41]⟩) (by decide) hs
 have py2:Xc Hy nx=some (.cells tyEp [.t (sv ⟨#[]⟩),.t (iv 0),.t nilS]):=by rw[ky nx (by omega) (by omega) (by omega)];exact q2
 have py3:Xc Hy na=some (.cells tyEp [.t (sv w),.t (iv l),rowP eAg ka out]):=by rw[ky na (by omega) (by omega) (by omega)];exact q3
 have ry:A0z eAg tyA Hy ka out:=ro.imp id λe=>by rw[ky ka a3 (by omega) a2];exact e
 have all:=F8y py3;have cse:=cs_E w l ka out
 obtain⟨ge,hge⟩:∃g,g=agOf [.t (sv w),.t (iv l),rowP eAg ka out]:=⟨_,rfl⟩
 rw[<-hge]at all cse;have sz:=F0k py2 (p:=ge) cse;have Sz:=Sy.upd (b:=nx) (by omega) v2 (.cells tyEp [.t (sv w),.t (iv l),rowP eAg ka out]);have Az:=Ay.upd (b:=nx) (Xe _) (.cells tyEp [.t (sv w),.t (iv l),rowP eAg ka out])
 obtain⟨Hz,hHz⟩:∃Hz,Hz=Xd Hy nx (.cells tyEp [.t (sv w),.t (iv l),rowP eAg ka out]):=⟨_,rfl⟩
 rw[<-hHz]at sz Sz Az
 have pz2:Xc Hz nx=some (.cells tyEp [.t (sv w),.t (iv l),rowP eAg ka out]):=by rw[hHz,A0f,if_pos rfl,py2];rfl
 have rz:A0z eAg tyA Hz ka out:=ry.imp id λe=>by rw[hHz,A0f,if_neg (by omega)];exact e
 have CY:Ctx Tryz.prog (G q) _:=A0s.nil.ctxH (A0v.cons ty2 .nil) mixed;refine A0b CY ?_;simp -implicitDefEqProofs [SPn,ty1];refine A0b CY ?_;simp -implicitDefEqProofs [all,sz]
 obtain⟨Hw,hHw⟩:∃Hw,Hw=A5u Hz [ka]:=⟨_,rfl⟩
 refine A3i (s':=⟨[(2,.ptr nx 0)],Hw,ny,52⟩) (by rw[hHw];exact A5i [ka] (by simp -implicitDefEqProofs [B1t])) rfl ?_;have Sw:=Sz.frz (F:=[ka]) (by simp;omega) (by simp;omega)
 have pw2:Xc Hw nx=some (.cells tyEp [.t (sv w),.t (iv l),.t (A1a eAg out)]):=by
  rw[hHw,A1b (by simp;omega) pz2];show some (Row.cells tyEp [.t (sv w),.t (iv l),frzP Hz [ka] (rowP eAg ka out)])=_;rw[B3d rz (by simp)]
 have al2:=C8x pw2;rw[<-hHw]at Sw;refine A0r CY ?_;simp -implicitDefEqProofs;refine A1u ⟨.t (.ag [sv w,iv l,A1a eAg out]),Hw,ny⟩ ⟨by rw[hO];rfl,⟨kw,jy,by rw[hO];exact Sw,Az.v⟩,λc x h1 h2 h3 h4 h5=>?_,Az.n,λh=>by show Frs Hw ny;rw[hHw];exact Frs.frz (Az.fr h) [ka]⟩ (by simp -implicitDefEqProofs [al2]);show Xc Hw c=some x;rw[hHw,A1b (by simp;omega) ((Az.k c h1 h2 h3).trans h4),h5.frz (F:=[ka]) (by simp;omega)]
end
theorem F5t (r:Rs):muR (argR r).1<=muR r:=Xf (B8z _) (Xf (A4t _ _) (C8w _ _))
theorem F0m:∀(n:Nat) (r:Rs) (out:List Ag),muR (A7z n r out).1<=muR r
 | 0,r,out=>Xe _
 | n+1,r,out=>by
  rw[A7z];split
  .split
   .exact Xf (F0m n _ _) (Xf (A4t _ _) (F5t r))
   .exact F5t r
  .exact Xe _
theorem F0n (r:Rs):muR (A6k r).1<=muR r:=Xf (A4t _ _) (Xf (C8w _ _) (Xf (A4t _ _) (B8z _)))
theorem F9b (n:Nat) (r:Rs):muR (A3a n r).1<=muR r:=by
 unfold A3a;split
 .exact Xf (F8t _) (F0n r)
 .exact Xf (A4t _ _) (Xf (F0m _ _ _) (F0n r))
theorem C4b.mono {n m:Nat} {x:Row} (h:C4b n x) (hm:n<=m):C4b m x:=by
 obtain⟨ty,cs,rfl,hc⟩:=h;exact⟨ty,cs,rfl,λp hp=>(hc p hp).imp id λ⟨b,o,k,z,e,hb⟩=>⟨b,o,k,z,e,by omega⟩⟩
theorem D6s {α:Type} (e:Enc α) (ty:Nat) (l:List α) (n:Nat):C4b n (A0l e ty l):=⟨ty,_,rfl,λp hp=>by
 obtain⟨t,_,rfl⟩:=Xj.1 hp
 exact .inl ⟨t,rfl⟩⟩
theorem F4t {α:Type} (e:Enc α) (b:Nat) (l:List α) {n:Nat} (h:b<n):(∃t,rowP e b l = .t t)\/∃b' o m z,rowP e b l = .row b' o m z/\b'<n:=by
 cases l with
 | nil=>exact .inl ⟨_,rfl⟩
 | cons x r=>exact .inr ⟨_,_,_,_,rfl,h⟩
abbrev tyMr:Nat:=26
abbrev tyQe:Nat:=52
def mRw (a b:Int) (d e:PV):Row:=.cells tyMr [.t (iv a),.t (iv b),.t nilS,d,e]
theorem D3j {a b:Int} {d e:PV} {n:Nat} (hd:(∃t,d = .t t)\/∃b' o m z,d = .row b' o m z/\b'<n) (he:(∃t,e = .t t)\/∃b' o m z,e = .row b' o m z/\b'<n):C4b n (mRw a b d e):=⟨_,_,rfl,λp hp=>by
 simp only[Xh,Yi,or_false]at hp;rcases hp with rfl | rfl | rfl | rfl | rfl
 .exact .inl ⟨_,rfl⟩
 .exact .inl ⟨_,rfl⟩
 .exact .inl ⟨_,rfl⟩
 .exact hd
 .exact he⟩
structure AccQ (k0 kv0:Nat) (H0:Heap) (nx0:Nat) (kv:Nat) (H:Heap) (nx:Nat):Prop where
 v:kv=kv0\/nx0<=kv
 k:∀c x,c<nx0->c≠k0->c≠kv0->Xc H0 c=some x->C4b nx0 x->Xc H c=some x
 n:nx0<=nx
 fr:Frs H0 nx0->Frs H nx
section
variable {s : ByteArray} {k0 kv0 kv i : Nat} {r : Rs} {H0 H : Heap} {nx0 nx : Nat}
theorem AccQ.refl:AccQ k0 kv H nx kv H nx:=⟨.inl rfl,λ_ _ _ _ _ h _=>h,Xe _,λh=>h⟩
theorem AccQ.step (A:AccQ k0 kv0 H0 nx0 kv H nx) {kv' nx':Nat} {H':Heap} (a:Acc k0 kv H nx kv' H' nx'):AccQ k0 kv0 H0 nx0 kv' H' nx':=by
 have n1:=A.n;have v1:=A.v;have v2:=a.v;have n2:=a.n;refine⟨by omega,λc x hc h0 hcv hx hr=>?_,by omega,λh=>a.fr (A.fr h)⟩;rw[a.k c (by omega) h0 (by omega)];exact A.k c x hc h0 hcv hx hr
theorem AccQ.stepQ (A:AccQ k0 kv0 H0 nx0 kv H nx) {kv' nx':Nat} {H':Heap} (a:AccQ k0 kv H nx kv' H' nx'):AccQ k0 kv0 H0 nx0 kv' H' nx':=by
 have n1:=A.n;have v1:=A.v;have v2:=a.v;have n2:=a.n;exact⟨by omega,λc x hc h0 hcv hx hr=>a.k c x (by omega) h0 (by omega) (A.k c x hc h0 hcv hx hr) (hr.mono n1),by omega,λh=>a.fr (A.fr h)⟩
theorem AccQ.cons (A:AccQ k0 kv0 H0 nx0 kv H nx) (x:Row):AccQ k0 kv0 H0 nx0 kv ((nx,x)::H) (nx+1):=A.step (Acc.refl.cons x)
theorem AccQ.upd (A:AccQ k0 kv0 H0 nx0 kv H nx) {b:Nat} (hb:nx0<=b) (x:Row):AccQ k0 kv0 H0 nx0 kv (Xd H b x) nx:=
 ⟨A.v,λc y hc h0 hcv hy hr=>by rw[A0f,if_neg (by omega)];exact A.k c y hc h0 hcv hy hr,A.n,λh=>(A.fr h).upd⟩
theorem AccQ.mono (A:AccQ k0 kv0 H0 nx0 kv H nx) {nx':Nat} (hn:nx<=nx'):AccQ k0 kv0 H0 nx0 kv H nx':=⟨A.v,A.k,Xf A.n hn,λh=>(A.fr h).mono hn⟩
structure G2n (s:ByteArray) (k0 kv:Nat) (o:Rs×Mr) (H:Heap) (nx:Nat) (f:Fin):Prop where
 r:f.r = .t (.ag (encM o.2))
 ex:∃kv' i',RdS s k0 kv' i' o.1 f.H f.nx/\AccQ k0 kv H nx kv' f.H f.nx
theorem F9c (S:RdS s k0 kv i r H nx) (hs:s.size<=1000000000) (hmu:muR r<=1000000000) {n:Nat} (hn:r.rest.length<n) (hn2:n<=1000000000) :
  ∃H' kv' i' nx' tb,RdS s k0 kv' i' (A3a n r).1 H' nx'/\AccQ k0 kv H nx kv' H' nx'/\tb [.ptr k0 0] H nx=some (.t (.ag (EC.of (A3a n r).2).cs),H',nx')/\HOK Tryz.prog (G q) 89 tb:=by
 obtain⟨⟨fr,fH,fn⟩,⟨hr,⟨kv',i',hS,hv⟩,hk,hn',hf⟩,hc⟩:=D6r (q:=q) S hs hmu hn hn2;simp only at hr hS hk hn' hf hc;subst hr;obtain⟨tb,t1,t2⟩:=hAt hc hf;exact⟨fH,kv',i',fn,tb,hS,⟨hv,hk,hn',hf⟩,t1,t2⟩
theorem D6t (S:RdS s k0 kv i r H nx):∃H' tb,RdS s k0 kv i (A4c r) H' nx/\Acc k0 kv H nx kv H' nx/\tb [.ptr k0 0] H nx=some (.t (.tu []),H',nx)/\HOK Tryz.prog (G q) 90 tb:=by
 obtain⟨⟨fr,fH,fn⟩,⟨hr,hn,hS,hk,hf⟩,hc⟩:=A9m (q:=q) S;simp only at hr hn hS hk hf hc;subst hr hn;obtain⟨tb,t1,t2⟩:=hAt hc hf;exact⟨fH,tb,hS,⟨.inl rfl,λc _ h0 _=>hk c h0,Xe _,hf⟩,t1,t2⟩
theorem mR_l {k:Nat} {a b:Int} {d e:PV} (h:Xc H k=some (mRw a b d e)):A0t false 1 H (.ptr k 3)=some d/\A0t false 1 H (.ptr k 4)=some e/\A0t true 5 H (.ptr k 0)=some (agOf [.t (iv a),.t (iv b),.t nilS,d,e]):=by
 unfold mRw at h;simp only[A0t,h];exact⟨rfl,rfl,rfl⟩
theorem G2o {k:Nat} {a b:Int} {d e:PV} (h:Xc H k=some (mRw a b d e)) (x:Int):A0x 1 H (.ptr k 1) (.t (iv x))=some (Xd H k (mRw a x d e)):=
 A1z (ns:=[.t (iv x)]) h rfl rfl (by show 1+1<=5;omega)
theorem G2p {k:Nat} {a b:Int} {d e x:PV} (h:Xc H k=some (mRw a b d e)) (hx:A1g x=some [x]):A0x 1 H (.ptr k 3) x=some (Xd H k (mRw a b x e)):=
 A1z (ns:=[x]) h hx rfl (by show 3+1<=5;omega)
theorem G2q {k:Nat} {a b:Int} {d e x:PV} (h:Xc H k=some (mRw a b d e)) (hx:A1g x=some [x]):A0x 1 H (.ptr k 4) x=some (Xd H k (mRw a b d x)):=
 A1z (ns:=[x]) h hx rfl (by show 4+1<=5;omega)
theorem G2r {k:Nat} {a b a' b':Int} {d e d' e' p:PV} (h:Xc H k=some (mRw a b d e)) (hp:A1g p=some [.t (iv a'),.t (iv b'),.t nilS,d',e']):A0x 5 H (.ptr k 0) p=some (Xd H k (mRw a' b' d' e')):=
 A1z (ns:=[.t (iv a'),.t (iv b'),.t nilS,d',e']) h hp rfl (by show 0+5<=5;omega)
theorem cs_R {α:Type} (e:Enc α) (b:Nat) (l:List α):A1g (rowP e b l)=some [rowP e b l]:=by
 cases l<;>rfl
theorem cs_M (a b:Int) (kr kc:Nat) (L:List EC) (C:List Qq):A1g (agOf [.t (iv a),.t (iv b),.t nilS,rowP eEC kr L,rowP eQq kc C])=some [.t (iv a),.t (iv b),.t nilS,rowP eEC kr L,rowP eQq kc C]:=by
 cases L<;>cases C<;>rfl
theorem bd_M (Φ:A0u) (H:Heap) (nx:Nat) (a:Int):A0i Φ H nx (.build [(0,1),(1,1),(2,1),(3,1),(4,1)] [.int .i64 0,.int .i64 0,.slice none 0 0,.slice none 0 0,.slice none 0 0] [0]) [.t (iv a)]=some (.t (.ag [iv a,iv 0,nilS,nilS,nilS]),H,nx):=rfl
structure FmC where
 H:Heap
 kv:Nat
 i:Nat
 nx:Nat
 r:Rs
 kr:Nat
 rels:List Ep
 m:Nat
def SFm (k0 nx na:Nat) (c:FmC):A0c:=⟨[(3,.ptr na 0),(2,.ptr nx 0),(0,.ptr k0 0)],c.H,c.nx,97⟩
structure FmI (s:ByteArray) (k0 kv:Nat) (H:Heap) (nx na:Nat) (a b:Int) (c:FmC):Prop where
 S:RdS s k0 c.kv c.i c.r c.H c.nx
 A:AccQ k0 kv H nx c.kv c.H c.nx
 p2:Xc c.H nx=some (mRw 0 0 (.t nilS) (.t nilS))
 p3:Xc c.H na=some (mRw a b (rowP eEC c.kr (c.rels.map EC.of)) (.t nilS))
 ro:A0z eEC tyEp c.H c.kr (c.rels.map EC.of)
 v2:c.kv≠nx
 v3:c.kv≠na
 a1:na<c.kr
 a2:c.kr≠c.kv
 a3:c.kr<c.nx
structure FnC where
 H:Heap
 kv:Nat
 i:Nat
 nx:Nat
 r:Rs
 kc:Nat
 cons:List Qq
 m:Nat
def SFn (k0 nx na:Nat) (c:FnC):A0c:=⟨[(3,.ptr na 0),(2,.ptr nx 0),(0,.ptr k0 0)],c.H,c.nx,97⟩
structure FnI (s:ByteArray) (k0 kv:Nat) (H:Heap) (nx na:Nat) (a b:Int) (kr:Nat) (L:List EC) (c:FnC):Prop where
 S:RdS s k0 c.kv c.i c.r c.H c.nx
 A:AccQ k0 kv H nx c.kv c.H c.nx
 p2:Xc c.H nx=some (mRw 0 0 (.t nilS) (.t nilS))
 p3:Xc c.H na=some (mRw a b (rowP eEC kr L) (rowP eQq c.kc c.cons))
 rl:A0z eEC tyEp c.H kr L
 ro:A0z eQq tyQe c.H c.kc c.cons
 v2:c.kv≠nx
 v3:c.kv≠na
 v4:c.kv≠kr
 b1:na<kr
 a1:kr<c.kc
 a2:c.kc≠c.kv
 a3:c.kc<c.nx
end
structure Mu (M:Rs->Nat):Prop where
 fail:∀r,M (A4c r)<=M r
 must:∀t r,M (A1f t r)<=M r
 word:∀big r,M (A3u big r).1<=M r
 var:∀r,M (varR r).1<=M r
 skip:∀r,M (B7k r)<=M r
section
variable {M : Rs -> Nat} (h : Mu M)
include h
theorem Mu.arg (r:Rs):M (argR r).1<=M r:=Xf (h.var _) (Xf (h.must _ _) (h.word _ _))
theorem Mu.args:∀(n:Nat) (r:Rs) (out:List Ag),M (A7z n r out).1<=M r
 | 0,r,out=>Xe _
 | n+1,r,out=>by
  rw[A7z];split
  .split
   .exact Xf (Mu.args n _ _) (Xf (h.must _ _) (h.arg r))
   .exact h.arg r
  .exact Xe _
theorem Mu.head (r:Rs):M (A6k r).1<=M r:=Xf (h.must _ _) (Xf (h.word _ _) (Xf (h.must _ _) (h.var _)))
theorem Mu.pred (n:Nat) (r:Rs):M (A3a n r).1<=M r:=by
 unfold A3a;split
 .exact Xf (h.skip _) (h.head r)
 .exact Xf (h.must _ _) (Xf (h.args _ _ _) (h.head r))
theorem Mu.con (r:Rs):M (conR r).1<=M r:=Xf (h.var _) (Xf (h.must _ _) (h.var _))
theorem Mu.semi (r:Rs):M (B3e r)<=M r:=by
 unfold B3e;split
 .exact Xf (h.fail _) (h.must _ _)
 .exact h.must _ _
theorem Mu.rels (k:Nat):∀(n:Nat) (r:Rs) (out:List Ep),M (A5j k n r out).1<=M r
 | 0,r,out=>Xe _
 | n+1,r,out=>by
  rw[A5j];split
  .split
   .exact Xf (Mu.rels k n _ _) (Xf (h.semi _) (h.pred k r))
   .exact h.pred k r
  .exact Xe _
theorem Mu.cons:∀(n:Nat) (r:Rs) (out:List Qq),M (A7i n r out).1<=M r
 | 0,r,out=>Xe _
 | n+1,r,out=>by
  rw[A7i];split
  .split
   .exact Xf (Mu.cons n _ _) (Xf (h.semi _) (h.con r))
   .exact h.con r
  .exact Xe _
theorem Mu.form (n:Nat) (r:Rs):M (A7r n r).1<=M r:=by
 have h1:M (topR r).1<=M r:=Xf (h.must _ _) (Xf (h.var _) (Xf (h.must _ _) (h.var _)))
 have he:∀r,M (B4l r)<=M r:=λr=>by
  unfold B4l;split
  .exact h.fail r
  .exact Xe _
 exact Xf (he _) (Xf (h.must _ _) (Xf (h.cons _ _ _) (Xf (h.must _ _) (Xf (h.rels _ _ _ _) h1))))
end
def muS (r:Rs):Nat:=(r.seen.map λv=>(wb v.digits).length+1).sum+r.rest.length
theorem F9d (l:List UInt8):(digW l).length<=l.length:=by
 have:=congrArg List.length (E0i l).1;rw[Xk]at this;omega
theorem G2s:Mu muS:=by
 have keep:∀{a b:Rs},a.seen=b.seen->a.rest.length<=b.rest.length->muS a<=muS b:=λ{a b} h1 h2=>by unfold muS;rw[h1];omega
 refine⟨λr=>keep (A4x r) (by rw[A2k];exact Xe _),λt r=>keep (B7u t r) (A2f t r),λbig r=>keep ?_ (B5y big r),λr=>?_,λr=>keep rfl (by unfold B7k;simp)⟩
 .unfold A3u;split
  .split
   .exact A4x r
   .rfl
  .rfl
 .have kf:muS (A4c r)<=muS r:=keep (A4x r) (by rw[A2k];exact Xe _);unfold varR;split
  .split
   .rename_i c q hr;split
    .split
     .unfold muS;rw[A4x,A2k,hr];simp
     .have:=F9d q;unfold muS;rw[hr];simp only[X8,List.sum_append,X9,List.map_nil,Yj,List.sum_nil,Xm,X0,A3o];omega
    .exact kf
   .exact kf
  .exact Xe _
theorem F5u {α:Type} (f:α->Nat):∀{l:List α} {x:α},x∈l->f x<=(l.map f).sum
 | a::r,x,h=>by
  rw[X9,Yj];rcases Xh.1 h with rfl | h
  .omega
  .have:=F5u f h;omega
theorem F0o {α:Type} (f:α->Nat):∀{l:List α},(∀x∈l,1<=f x)->l.length<=(l.map f).sum
 | [],_=>by simp
 | a::r,h=>by
  have h1:=h a (by simp);have:=F0o f (l:=r) λx hx=>h x (by simp[hx]);rw[X9,Yj,Xm];omega
theorem C6d {n:Nat} {s:List UInt8}:(A7r n ⟨s,0,[]⟩).1.seen.length<=s.length/\∀v∈(A7r n ⟨s,0,[]⟩).1.seen,(wb v.digits).length<=s.length:=by
 have h:=G2s.form n ⟨s,0,[]⟩
 have e:muS ⟨s,0,[]⟩=s.length:=by simp[muS]
 rw[e]at h;unfold muS at h;have h1:=F0o (λv:Vr=>(wb v.digits).length+1) (l:=(A7r n ⟨s,0,[]⟩).1.seen) (λv _=>by omega);refine⟨by omega,λv hv=>?_⟩;have h2:=F5u (λv:Vr=>(wb v.digits).length+1) hv;omega
section
variable {s : ByteArray} {k0 kv i : Nat} {r : Rs} {H : Heap} {nx : Nat}
theorem E4p (S0:RdS s k0 kv i r H nx) (hs:s.size<=1000000000) (hmu:muR r<=1000000000) {n:Nat} (hn:r.rest.length<n) (hn2:n<=1000000000) :
  ∃f:Fin,G2n s k0 kv (A7r n r) H nx f/\A3n Tryz.prog (G q) 55 [.ptr k0 0] H nx f.r f.H f.nx:=by
 obtain⟨O,hO⟩:∃O,O=A7r n r:=⟨_,rfl⟩
 rw[<-hO];have l0:=S0.l0;have lv:=S0.lv;refine B7a.callX rfl ?_;(conv in A9e=>cbv);refine A0b A0g ?_;simp -implicitDefEqProofs;have S1:=S0.cons (mRw 0 0 (.t nilS) (.t nilS));have Q1:=(AccQ.refl (k0:=k0) (kv:=kv) (H:=H) (nx:=nx)).cons (mRw 0 0 (.t nilS) (.t nilS))
 obtain⟨H1,hH1⟩:∃H1:Heap,H1=(nx,mRw 0 0 (.t nilS) (.t nilS))::H:=⟨_,rfl⟩
 rw[<-hH1]at S1 Q1;rw[show((nx,Row.cells tyMr [.t (.v (.int .i64 0)),.t (.v (.int .i64 0)),.t (.v (.slice none 0 0)),.t (.v (.slice none 0 0)),.t (.v (.slice none 0 0))])::H:Heap)=H1 from hH1.symm]
 have p2:Xc H1 nx=some (mRw 0 0 (.t nilS) (.t nilS)):=by rw[hH1,look_cons,if_pos rfl]
 obtain⟨Ha,kva,ia,na,ta,⟨Sa,Aa,ka,va,nna⟩,ta1,ta2⟩:=C6c (q:=q) S1 Acc.refl hs hmu;have mua:=B8z r;have Qa:=Q1.step Aa
 have pa2:Xc Ha nx=some (mRw 0 0 (.t nilS) (.t nilS)):=by rw[ka nx (by omega) (by omega) (by omega)];exact p2
 obtain⟨tp,htp⟩:∃tp,tp=(varR r).2:=⟨_,rfl⟩
 rw[<-htp]at ta1
 obtain⟨r1,hr1⟩:∃r1,r1=(varR r).1:=⟨_,rfl⟩
 rw[<-hr1]at Sa mua;have S2:=Sa.cons (mRw tp 0 (.t nilS) (.t nilS));have Q2:=Qa.cons (mRw tp 0 (.t nilS) (.t nilS))
 have u1:∀a b c d e,A0x 5 ((na,.cells tyMr [a,b,c,d,e])::Ha) (.ptr na 0) (.t (.ag [iv tp,iv 0,nilS,nilS,nilS]))=some ((na,mRw tp 0 (.t nilS) (.t nilS))::Ha):=λa b c d e=>by
  have hz:A1g (.t (.ag [iv tp,iv 0,nilS,nilS,nilS]))=some [.t (iv tp),.t (iv 0),.t nilS,.t nilS,.t nilS]:=rfl;simp[A0x,hz,upd,A2m,mRw]
 obtain⟨Hb,hHb⟩:∃Hb:Heap,Hb=(na,mRw tp 0 (.t nilS) (.t nilS))::Ha:=⟨_,rfl⟩
 rw[<-hHb]at S2 Q2 u1
 have pb2:Xc Hb nx=some (mRw 0 0 (.t nilS) (.t nilS)):=by rw[hHb,look_cons,if_neg (by omega)];exact pa2
 have pb3:Xc Hb na=some (mRw tp 0 (.t nilS) (.t nilS)):=by rw[hHb,look_cons,if_pos rfl]
 have CA:Ctx Tryz.prog (G q) _:=A0s.nil.ctxH (A0v.cons ta2 .nil) mixed;refine A0b CA ?_;simp -implicitDefEqProofs [ta1,bd_M,u1,-evalK_build];refine A3i (s':=⟨[(3,.ptr na 0),(2,.ptr nx 0),(0,.ptr k0 0)],Hb,na+1,97⟩) (A0d (by simp -implicitDefEqProofs)) rfl ?_
 have vka:kva≠nx/\kva≠na/\kva≠k0:=⟨by omega,by have:=Sa.lv;omega,Sa.ne⟩
 obtain⟨Hc,ic,tb,⟨Sc,Ac,kc,_,_⟩,tb1,tb2⟩:=A6r (q:=q) S2 Acc.refl (t:=⟨#[32]⟩) (by decide) hs;have muc:=A4t (wb ⟨#[32]⟩) r1
 obtain⟨r2,hr2⟩:∃r2,r2=A1f (wb ⟨#[32]⟩) r1:=⟨_,rfl⟩
 rw[<-hr2]at Sc muc;have Qc:=Q2.step Ac
 have pc2:Xc Hc nx=some (mRw 0 0 (.t nilS) (.t nilS)):=by rw[kc nx (by omega) (by omega) (by omega)];exact pb2
 have pc3:Xc Hc na=some (mRw tp 0 (.t nilS) (.t nilS)):=by rw[kc na (by omega) (by omega) (by omega)];exact pb3
 have CB:Ctx Tryz.prog (G q) _:=A0s.nil.ctxH (A0v.cons tb2 .nil) mixed;refine A0b CB ?_;simp -implicitDefEqProofs [tb1];obtain⟨Hd,kvd,id',nd,tc,⟨Sd,Ad,kd,vd,nnd⟩,tc1,tc2⟩:=C6c (q:=q) Sc Acc.refl hs (by omega);have mud:=B8z r2;have Qd:=Qc.step Ad
 obtain⟨ix,hix⟩:∃ix,ix=(varR r2).2:=⟨_,rfl⟩
 rw[<-hix]at tc1
 obtain⟨r3,hr3⟩:∃r3,r3=(varR r2).1:=⟨_,rfl⟩
 rw[<-hr3]at Sd mud
 have pd2:Xc Hd nx=some (mRw 0 0 (.t nilS) (.t nilS)):=by rw[kd nx (by omega) (by omega) (by omega)];exact pc2
 have pd3:Xc Hd na=some (mRw tp 0 (.t nilS) (.t nilS)):=by rw[kd na (by omega) (by omega) (by omega)];exact pc3
 have sd:=G2o pd3 ix;have Se:=Sd.upd (b:=na) (by omega) (by omega) (mRw tp ix (.t nilS) (.t nilS));have Qe:=Qd.upd (b:=na) (by omega) (mRw tp ix (.t nilS) (.t nilS))
 obtain⟨He,hHe⟩:∃He,He=Xd Hd na (mRw tp ix (.t nilS) (.t nilS)):=⟨_,rfl⟩
 rw[<-hHe]at sd Se Qe
 have pe2:Xc He nx=some (mRw 0 0 (.t nilS) (.t nilS)):=by rw[hHe,A0f,if_neg (by omega)];exact pd2
 have pe3:Xc He na=some (mRw tp ix (.t nilS) (.t nilS)):=by rw[hHe,A0f,if_pos rfl,pd3];rfl
 have CC:Ctx Tryz.prog (G q) _:=A0s.nil.ctxH (A0v.cons tc2 .nil) mixed;refine A0b CC ?_;simp -implicitDefEqProofs [tc1,sd];obtain⟨Hf,jf,td,⟨Sf,Af,kf,_,_⟩,td1,td2⟩:=A6r (q:=q) Se Acc.refl (t:=⟨#[32,123]⟩) (by decide) hs;have muf:=A4t (wb ⟨#[32,123]⟩) r3
 obtain⟨r4,hr4⟩:∃r4,r4=A1f (wb ⟨#[32,123]⟩) r3:=⟨_,rfl⟩
 rw[<-hr4]at Sf muf;have Qf:=Qe.step Af
 have htop:topR r=(r4,tp,ix):=by rw[hr4,hr3,hix,hr2,hr1,htp];rfl
 have pf2:Xc Hf nx=some (mRw 0 0 (.t nilS) (.t nilS)):=by rw[kf nx (by omega) (by omega) (by omega)];exact pe2
 have pf3:Xc Hf na=some (mRw tp ix (.t nilS) (.t nilS)):=by rw[kf na (by omega) (by omega) (by omega)];exact pe3
 have CD:Ctx Tryz.prog (G q) _:=A0s.nil.ctxH (A0v.cons td2 .nil) mixed;refine A0b CD ?_;simp -implicitDefEqProofs [td1];refine A3i (s':=⟨[(3,.ptr na 0),(2,.ptr nx 0),(0,.ptr k0 0)],Hf,nd+1,97⟩) ((A8j (nx':=nd+1) (Xl _)).trans (A0d (by simp -implicitDefEqProofs))) rfl ?_
 have hl4:r4.rest.length<n:=by
  have:=E0e r;rw[htop]at this;simp only at this;omega
 have mur4:muR r4<=1000000000:=by omega
 have vkd:kvd≠nx/\kvd≠na/\kvd<nd:=⟨by omega,by omega,Sd.lv⟩
 obtain⟨Z,hZ⟩:∃Z,Z=A5j n n r4 []:=⟨_,rfl⟩
 unfold A7r at hO;rw[htop]at hO;simp only at hO;rw[<-hZ]at hO;refine A3q (SFm k0 nx na) (λc=>Z=(c.r,c.rels)/\muR c.r<=1000000000/\c.r.rest.length<n/\FmI s k0 kv H nx na tp ix c) (λ_=>rfl) ?_ ?_
 .refine A1k ?_
  refine A2w (SFm k0 nx na) (λc=>c.m) (λc=>Z=A5j n c.m c.r c.rels/\c.r.rest.length<c.m/\c.rels.length+c.m<=n/\muR c.r<=1000000000/\FmI s k0 kv H nx na tp ix c) ⟨Hf,kvd,jf,nd+1,r4,nd,[],n⟩ (λ_=>rfl)
   ⟨hZ,hl4,by simp,mur4,⟨Sf.mono (Xl _),Qf.mono (Xl _),pf2,pf3,.inl rfl,vkd.1,vkd.2.1,by show na<nd;omega,by have:=vkd.2.2;show nd≠kvd;omega,Xi _⟩⟩ ?_ rfl ?_
  .exact A0d (by simp -implicitDefEqProofs [SFm])
  rintro⟨Ha,kw,j,ny,ra,kr,rels,m⟩ ⟨hZm,hrm,hom,hmr,⟨S,A,q2,q3,ro,v2,v3,a1,a2,a3⟩⟩;simp only at hZm hrm hom hmr S A q2 q3 ro v2 v3 a1 a2 a3;have L:=ldR S.o
  obtain⟨m,rfl⟩:∃m',m=m'+1:=⟨m-1,by omega⟩
  have stop:Z=(ra,rels)->(Z=(ra,rels)/\muR ra<=1000000000/\ra.rest.length<n/\FmI s k0 kv H nx na tp ix ⟨Ha,kw,j,ny,ra,kr,rels,0⟩):=λe=>⟨e,hmr,by omega,⟨S,A,q2,q3,ro,v2,v3,a1,a2,a3⟩⟩
  obtain⟨te,te1,te2⟩:=B8y (q:=q) S 125;rw[show u8c 125 = .t (.v (.int .u8 125))from rfl]at te1;have CE:Ctx Tryz.prog (G q) _:=A0s.nil.ctxH (A0v.cons te2 .nil) mixed;by_cases he:ra.e=0
  rotate_left
  .have hb:(ra.e==0)=false:=by rw[beq_eq_false_iff_ne];exact he
   rw[D2q n _ he]at hZm;refine A0b CE ?_;simp -implicitDefEqProofs [SFm,L.l2,hb];exact Abs.Next.mk ⟨Ha,kw,j,ny,ra,kr,rels,0⟩ (stop hZm) (A0d (by simp -implicitDefEqProofs))
  have hb:(ra.e==0)=true:=by rw[he];rfl
  cases hf4:A1x 125 ra with
  | true=>
   rw[hf4]at te1;rw[B7l hf4]at hZm;refine A0b CE ?_;simp -implicitDefEqProofs [SFm,L.l2,hb,te1];exact Abs.Next.mk ⟨Ha,kw,j,ny,ra,kr,rels,0⟩ (stop hZm) (A0d (by simp -implicitDefEqProofs))
  | false=>
  rw[hf4]at te1;rw[B2v he hf4]at hZm;refine A0b CE ?_;simp -implicitDefEqProofs [SFm,L.l2,hb,te1];refine A1k ?_;obtain⟨Hp,kp,jp,np,tp',Sp,Ap,tp1,tp2⟩:=F9c (q:=q) S hs hmr (n:=n) (by omega) hn2;have mup:=F9b n ra;have lpr:=B6a n ra
  obtain⟨rp,hrp⟩:∃rp,rp=(A3a n ra).1:=⟨_,rfl⟩
  obtain⟨x,hx⟩:∃x,x=(A3a n ra).2:=⟨_,rfl⟩
  rw[<-hrp]at Sp mup lpr hZm;rw[<-hx]at tp1 hZm;have vp:=Ap.v;have npn:=Ap.n;have g2:Xc Hp nx=some (mRw 0 0 (.t nilS) (.t nilS)):=Ap.k nx _ (by omega) (by omega) v2.symm q2 (D3j (.inl ⟨_,rfl⟩) (.inl ⟨_,rfl⟩));have g3:Xc Hp na=some (mRw tp ix (rowP eEC kr (rels.map EC.of)) (.t nilS)):=Ap.k na _ (by omega) (by omega) v3.symm q3 (D3j (F4t _ _ _ a3) (.inl ⟨_,rfl⟩));have gO:A0z eEC tyEp Hp kr (rels.map EC.of):=ro.imp id λe=>Ap.k kr _ a3 (by omega) a2 e (D6s _ _ _ _);have Qp:=A.stepQ Ap;have lq:=(mR_l q3).1;have lg:=(mR_l g3).1;obtain⟨Hq,aq,bq,cq,fq⟩:=appT (by':=48) (nx:=np) (EC.of x) 3 rfl (EC.of x).cs rfl gO (by omega) (by rw[Xg];omega) (by rw[Xg];omega)
  obtain⟨rels',hrels'⟩:∃rels',rels'=rels++[x]:=⟨_,rfl⟩
  rw[show rels.map EC.of++[EC.of x]=rels'.map EC.of by rw[hrels'];simp]at aq bq;rw[<-hrels']at hZm
  have h3:Xc Hq na=some (mRw tp ix (rowP eEC kr (rels.map EC.of)) (.t nilS)):=by rw[cq na (by omega) (by omega)];exact g3
  have sq:=G2p h3 (x:=rowP eEC np (rels'.map EC.of)) (cs_R _ _ _);have lp0:=Sp.l0;have lpv:=Sp.lv
  have Sq:RdS s k0 kp jp rp Hq (np+1):=⟨by rw[cq k0 lp0 (by omega)];exact Sp.o,Sp.v.imp id λe=>by rw[cq kp lpv (by omega)];exact e,Sp.rest,Sp.hi,by omega,by omega,Sp.ne⟩
  have Qq:AccQ k0 kv H nx kp Hq (np+1):=⟨Qp.v,λc y h1 h2 h3 h4 h5=>by rw[cq c (by omega) (by omega)];exact Qp.k c y h1 h2 h3 h4 h5,by omega,λh=>fq (Qp.fr h)⟩
  have Sr:=Sq.upd (b:=na) (by omega) (by omega) (mRw tp ix (rowP eEC np (rels'.map EC.of)) (.t nilS));have Qr:=Qq.upd (b:=na) (by omega) (mRw tp ix (rowP eEC np (rels'.map EC.of)) (.t nilS))
  obtain⟨Hr,hHr⟩:∃Hr,Hr=Xd Hq na (mRw tp ix (rowP eEC np (rels'.map EC.of)) (.t nilS)):=⟨_,rfl⟩
  rw[<-hHr]at sq Sr Qr
  have i2:Xc Hr nx=some (mRw 0 0 (.t nilS) (.t nilS)):=by rw[hHr,A0f,if_neg (by omega),cq nx (by omega) (by omega)];exact g2
  have i3:Xc Hr na=some (mRw tp ix (rowP eEC np (rels'.map EC.of)) (.t nilS)):=by rw[hHr,A0f,if_pos rfl,h3];rfl
  have iO:A0z eEC tyEp Hr np (rels'.map EC.of):=bq.imp id λe=>by rw[hHr,A0f,if_neg (by omega)];exact e
  have htsl:A5c tyEp 3 [.string ⟨#[]⟩,.int .i64 0,.slice none 0 0] 1 [(0,.t (.ag (EC.of x).cs))]=some (.t (.sl 1 (EC.of x).cs)):=by
   obtain⟨p,l,ag⟩:=x;cases ag<;>rfl
  obtain⟨cx,hcx⟩:∃cx,cx=(EC.of x).cs:=⟨_,rfl⟩
  rw[<-hcx]at tp1 htsl aq;have CP:Ctx Tryz.prog (G q) _:=A0s.nil.ctxH (A0v.cons tp2 .nil) mixed;refine A0b CP ?_;simp -implicitDefEqProofs [lq,tp1,lg,htsl,aq,sq];refine A3i (s':=⟨[(3,.ptr na 0),(2,.ptr nx 0),(0,.ptr k0 0)],Hr,np+1,97⟩) (A0d (by simp -implicitDefEqProofs)) rfl ?_
  have I:∀H' i' r',RdS s k0 kp i' r' H' (np+1)->Acc k0 kp Hr (np+1) kp H' (np+1)->FmI s k0 kv H nx na tp ix ⟨H',kp,i',np+1,r',np,rels',m⟩:=λH' i' r' hS hA=>
   ⟨hS,Qr.step hA,by show Xc H' nx=_;rw[hA.k nx (by omega) (by omega) (by omega)];exact i2,by show Xc H' na=_;rw[hA.k na (by omega) (by omega) (by omega)];exact i3,
    iO.imp id λe=>by show Xc H' np=_;rw[hA.k np (by omega) (by omega) (by omega)];exact e,by show kp≠nx;omega,by show kp≠na;omega,by show na<np;omega,by show np≠kp;omega,Xi _⟩
  obtain⟨tg,tg1,tg2⟩:=B8y (q:=q) Sr 59;rw[show u8c 59 = .t (.v (.int .u8 59))from rfl]at tg1;have CG:Ctx Tryz.prog (G q) _:=A0s.nil.ctxH (A0v.cons tg2 .nil) mixed
  cases hf5:A1x 59 rp with
  | false=>
   rw[hf5]at hZm tg1;rw[if_neg (by decide)]at hZm;refine A0b CG ?_;simp -implicitDefEqProofs [tg1];exact Abs.Next.mk ⟨Hr,kp,jp,np+1,rp,np,rels',m⟩ ⟨hZm,by show muR rp<=_;omega,by show rp.rest.length<n;omega,I Hr jp rp Sr Acc.refl⟩ (A0d (by simp -implicitDefEqProofs [SFm]))
  | true=>
  rw[hf5]at hZm tg1;rw[if_pos rfl]at hZm;refine A0b CG ?_;simp -implicitDefEqProofs [tg1];obtain⟨Hs,js,th,⟨Ss,As,ks,_,_⟩,th1,th2⟩:=A6r (q:=q) Sr Acc.refl (t:=⟨#[59,32]⟩) (by decide) hs;have mus:=A4t (wb ⟨#[59,32]⟩) rp;have lts:=A7l hf5 [32];rw[show([59,32]:List UInt8)=wb ⟨#[59,32]⟩from rfl]at lts
  have hsem:B3e rp=if A1x 125 (A1f (wb ⟨#[59,32]⟩) rp)then A4c (A1f (wb ⟨#[59,32]⟩) rp)else A1f (wb ⟨#[59,32]⟩) rp:=rfl
  obtain⟨rs,hrs⟩:∃rs,rs=A1f (wb ⟨#[59,32]⟩) rp:=⟨_,rfl⟩
  rw[<-hrs]at Ss mus lts hsem;rw[hsem]at hZm;have CH:Ctx Tryz.prog (G q) _:=A0s.nil.ctxH (A0v.cons th2 .nil) mixed;refine A0b CH ?_;simp -implicitDefEqProofs [th1];obtain⟨tk,tk1,tk2⟩:=B8y (q:=q) Ss 125;rw[show u8c 125 = .t (.v (.int .u8 125))from rfl]at tk1
  cases hf6:A1x 125 rs with
  | false=>
   rw[hf6]at hZm tk1;rw[if_neg (by decide)]at hZm;have CK:Ctx Tryz.prog (G q) _:=A0s.nil.ctxH (A0v.cons tk2 .nil) mixed;refine A0r CK ?_;simp -implicitDefEqProofs [tk1];exact Abs.Next.mk ⟨Hs,kp,js,np+1,rs,np,rels',m⟩ ⟨⟨hZm,by show rs.rest.length<m;omega,by show rels'.length+m<=n;rw[hrels',Xk,X2];omega,by show muR rs<=_;omega,I Hs js rs Ss As⟩,Xi m⟩ (A0d (by simp -implicitDefEqProofs [SFm]))
  | true=>
   rw[hf6]at hZm tk1;rw[if_pos rfl]at hZm;obtain⟨Ht,tu,St,At,tu1,tu2⟩:=D6t (q:=q) Ss;have mft:=C2z rs;have CK:Ctx Tryz.prog (G q) _:=A0s.nil.ctxH (A0v.cons tk2 (A0v.cons tu2 .nil)) mixed;refine A0r CK ?_;simp -implicitDefEqProofs [tk1,tu1];exact Abs.Next.mk ⟨Ht,kp,js,np+1,A4c rs,np,rels',m⟩ ⟨⟨hZm,by show(A4c rs).rest.length<m;rw[A2k];omega,by show rels'.length+m<=n;rw[hrels',Xk,X2];omega,by show muR (A4c rs)<=_;omega,I Ht js _ St (As.step At.k At.v At.n At.fr)⟩,Xi m⟩ (A0d (by simp -implicitDefEqProofs [SFm]))
 rintro⟨Hg,kg,jg,ng,rg,kr,rels,_⟩ ⟨hZg,mug,lg,⟨Sg,Qg,g2,g3,gO,v2,v3,a1,a2,a3⟩⟩;simp only at hZg mug lg Sg Qg g2 g3 gO v2 v3 a1 a2 a3;rw[hZg]at hO;simp only at hO
 obtain⟨RL,hRL⟩:∃RL,RL=rels.map EC.of:=⟨_,rfl⟩
 rw[<-hRL]at g3 gO;obtain⟨Hh,jh,th,⟨Sh,Ah,kh,_,_⟩,th1,th2⟩:=A6r (q:=q) Sg Acc.refl (t:=⟨#[125,32,123]⟩) (by decide) hs;have muh:=A4t (wb ⟨#[125,32,123]⟩) rg;have lh:=A2f (wb ⟨#[125,32,123]⟩) rg;have Qh:=Qg.step Ah;rw[show A1f [125,32,123] rg=A1f (wb ⟨#[125,32,123]⟩) rg from rfl]at hO
 obtain⟨rh,hrh⟩:∃rh,rh=A1f (wb ⟨#[125,32,123]⟩) rg:=⟨_,rfl⟩
 rw[<-hrh]at Sh muh lh hO
 have h2:Xc Hh nx=some (mRw 0 0 (.t nilS) (.t nilS)):=by rw[kh nx (by omega) (by omega) (by omega)];exact g2
 have h3:Xc Hh na=some (mRw tp ix (rowP eEC kr RL) (.t nilS)):=by rw[kh na (by omega) (by omega) (by omega)];exact g3
 have hOr:A0z eEC tyEp Hh kr RL:=gO.imp id λe=>by rw[kh kr a3 (by omega) a2];exact e
 have CH:Ctx Tryz.prog (G q) _:=A0s.nil.ctxH (A0v.cons th2 .nil) mixed;refine A0b CH ?_;simp -implicitDefEqProofs [SFm,th1];refine A3i (s':=⟨[(3,.ptr na 0),(2,.ptr nx 0),(0,.ptr k0 0)],Hh,ng+1,97⟩) ((A8j (nx':=ng+1) (Xl _)).trans (A0d (by simp -implicitDefEqProofs))) rfl ?_
 obtain⟨Y,hY⟩:∃Y,Y=A7i n rh []:=⟨_,rfl⟩
 rw[<-hY]at hO;have lvh:=Sh.lv;refine A3q (SFn k0 nx na) (λc=>Y=(c.r,c.cons)/\FnI s k0 kv H nx na tp ix kr RL c) (λ_=>rfl) ?_ ?_
 .refine A1k ?_
  refine A2w (SFn k0 nx na) (λc=>c.m) (λc=>Y=A7i c.m c.r c.cons/\c.r.rest.length<c.m/\c.cons.length+c.m<=n/\muR c.r<=1000000000/\FnI s k0 kv H nx na tp ix kr RL c) ⟨Hh,kg,jh,ng+1,rh,ng,[],n⟩ (λ_=>rfl)
   ⟨hY,by show rh.rest.length<n;omega,by simp,by show muR rh<=_;omega,⟨Sh.mono (Xl _),Qh.mono (Xl _),h2,h3,hOr,.inl rfl,v2,v3,a2.symm,a1,a3,by show ng≠kg;omega,Xi _⟩⟩ ?_ rfl ?_
  .exact A0d (by simp -implicitDefEqProofs [SFn])
  rintro⟨Ha,kw,j,ny,ra,kc,cons,m⟩ ⟨hYm,hrm,hom,hmr,⟨S,A,q2,q3,rl,ro,v2,v3,v4,b1,a1,a2,a3⟩⟩;simp only at hYm hrm hom hmr S A q2 q3 rl ro v2 v3 v4 b1 a1 a2 a3;have L:=ldR S.o
  obtain⟨m,rfl⟩:∃m',m=m'+1:=⟨m-1,by omega⟩
  have stop:Y=(ra,cons)->(Y=(ra,cons)/\FnI s k0 kv H nx na tp ix kr RL ⟨Ha,kw,j,ny,ra,kc,cons,0⟩):=λe=>⟨e,⟨S,A,q2,q3,rl,ro,v2,v3,v4,b1,a1,a2,a3⟩⟩
  obtain⟨te,te1,te2⟩:=B8y (q:=q) S 125;rw[show u8c 125 = .t (.v (.int .u8 125))from rfl]at te1;have CE:Ctx Tryz.prog (G q) _:=A0s.nil.ctxH (A0v.cons te2 .nil) mixed;by_cases he:ra.e=0
  rotate_left
  .have hb:(ra.e==0)=false:=by rw[beq_eq_false_iff_ne];exact he
   rw[D2r _ he]at hYm;refine A0b CE ?_;simp -implicitDefEqProofs [SFn,L.l2,hb];exact Abs.Next.mk ⟨Ha,kw,j,ny,ra,kc,cons,0⟩ (stop hYm) (A0d (by simp -implicitDefEqProofs))
  have hb:(ra.e==0)=true:=by rw[he];rfl
  cases hf4:A1x 125 ra with
  | true=>
   rw[hf4]at te1;rw[B7m hf4]at hYm;refine A0b CE ?_;simp -implicitDefEqProofs [SFn,L.l2,hb,te1];exact Abs.Next.mk ⟨Ha,kw,j,ny,ra,kc,cons,0⟩ (stop hYm) (A0d (by simp -implicitDefEqProofs))
  | false=>
  rw[hf4]at te1;rw[B2w he hf4]at hYm;refine A0b CE ?_;simp -implicitDefEqProofs [SFn,L.l2,hb,te1];refine A1k ?_;obtain⟨Hb,kb,jb,nb,tb,⟨Sb,Ab,kkb,vb,nnb⟩,tb1,tb2⟩:=C6c (q:=q) S Acc.refl hs hmr;have mub:=B8z ra
  obtain⟨rb,hrb⟩:∃rb,rb=(varR ra).1:=⟨_,rfl⟩
  obtain⟨va',hva⟩:∃va',va'=(varR ra).2:=⟨_,rfl⟩
  rw[<-hrb]at Sb mub;rw[<-hva]at tb1;have C1:Ctx Tryz.prog (G q) _:=A0s.nil.ctxH (A0v.cons tb2 .nil) mixed;refine A0b C1 ?_;simp -implicitDefEqProofs [tb1];refine A3i (s':=⟨[(4,.t (iv va')),(3,.ptr na 0),(2,.ptr nx 0),(0,.ptr k0 0)],Hb,nb,97⟩) (A0d (by simp -implicitDefEqProofs)) rfl ?_;obtain⟨Hc,jc,tc,⟨Sc,Ac,kkc,_,_⟩,tc1,tc2⟩:=A6r (q:=q) Sb Acc.refl (t:=⟨#[32,113,101,113,32]⟩) (by decide) hs;have muc:=A4t (wb ⟨#[32,113,101,113,32]⟩) rb
  obtain⟨rc,hrc⟩:∃rc,rc=A1f (wb ⟨#[32,113,101,113,32]⟩) rb:=⟨_,rfl⟩
  rw[<-hrc]at Sc muc;have C2:Ctx Tryz.prog (G q) _:=A0s.nil.ctxH (A0v.cons tc2 .nil) mixed;refine A0b C2 ?_;simp -implicitDefEqProofs [tc1];obtain⟨Hp,kp,jp,np,td,⟨Sp,Ad,kkd,vd,nnd⟩,td1,td2⟩:=C6c (q:=q) Sc Acc.refl hs (by omega);have mup:=B8z rc
  obtain⟨rp,hrp⟩:∃rp,rp=(varR rc).1:=⟨_,rfl⟩
  obtain⟨vb',hvb⟩:∃vb',vb'=(varR rc).2:=⟨_,rfl⟩
  rw[<-hrp]at Sp mup;rw[<-hvb]at td1
  have hcon:conR ra=(rp,⟨va',vb'⟩):=by rw[hrp,hvb,hva,hrc,hrb];rfl
  have lcon:=E0d ra;rw[hcon]at hYm lcon;simp only at hYm lcon
  have kC:∀c,c<ny->c≠k0->c≠kw->Xc Hc c=Xc Ha c:=λc h1 h2 h3=>by rw[kkc c (by omega) h2 (by omega),kkb c h1 h2 h3]
  have kP:∀c,c<ny->c≠k0->c≠kw->Xc Hp c=Xc Ha c:=λc h1 h2 h3=>by rw[kkd c (by omega) h2 (by omega),kC c h1 h2 h3]
  have g2:Xc Hp nx=some (mRw 0 0 (.t nilS) (.t nilS)):=by rw[kP nx (by omega) (by omega) (by omega)];exact q2
  have q3c:Xc Hc na=some (mRw tp ix (rowP eEC kr RL) (rowP eQq kc cons)):=by rw[kC na (by omega) (by omega) (by omega)];exact q3
  have g3:Xc Hp na=some (mRw tp ix (rowP eEC kr RL) (rowP eQq kc cons)):=by rw[kP na (by omega) (by omega) (by omega)];exact q3
  have gR:A0z eEC tyEp Hp kr RL:=rl.imp id λe=>by rw[kP kr (by omega) (by omega) (by omega)];exact e
  have gO:A0z eQq tyQe Hp kc cons:=ro.imp id λe=>by rw[kP kc a3 (by omega) (by omega)];exact e
  have Qp:=((A.step Ab).step Ac).step Ad;have lq:=(mR_l q3c).2.1;have lg:=(mR_l g3).2.1;have lp0:=Sp.l0;have lpv:=Sp.lv;obtain⟨Hq,aq,bq,cq,fq⟩:=appT (by':=16) (nx:=np) (⟨va',vb'⟩:Qq) 2 rfl [iv va',iv vb'] rfl gO (by omega) (by omega) (by omega)
  obtain⟨cons',hcons'⟩:∃cons',cons'=cons++[(⟨va',vb'⟩:Qq)]:=⟨_,rfl⟩
  rw[<-hcons']at aq bq hYm
  have h3:Xc Hq na=some (mRw tp ix (rowP eEC kr RL) (rowP eQq kc cons)):=by rw[cq na (by omega) (by omega)];exact g3
  have sq:=G2q h3 (x:=rowP eQq np cons') (cs_R _ _ _)
  have Sq:RdS s k0 kp jp rp Hq (np+1):=⟨by rw[cq k0 lp0 (by omega)];exact Sp.o,Sp.v.imp id λe=>by rw[cq kp lpv (by omega)];exact e,Sp.rest,Sp.hi,by omega,by omega,Sp.ne⟩
  have Qq':AccQ k0 kv H nx kp Hq (np+1):=⟨Qp.v,λc y h1 h2 h3 h4 h5=>by rw[cq c (by omega) (by omega)];exact Qp.k c y h1 h2 h3 h4 h5,by omega,λh=>fq (Qp.fr h)⟩
  have Sr:=Sq.upd (b:=na) (by omega) (by omega) (mRw tp ix (rowP eEC kr RL) (rowP eQq np cons'));have Qr:=Qq'.upd (b:=na) (by omega) (mRw tp ix (rowP eEC kr RL) (rowP eQq np cons'))
  obtain⟨Hr,hHr⟩:∃Hr,Hr=Xd Hq na (mRw tp ix (rowP eEC kr RL) (rowP eQq np cons')):=⟨_,rfl⟩
  rw[<-hHr]at sq Sr Qr
  have i2:Xc Hr nx=some (mRw 0 0 (.t nilS) (.t nilS)):=by rw[hHr,A0f,if_neg (by omega),cq nx (by omega) (by omega)];exact g2
  have i3:Xc Hr na=some (mRw tp ix (rowP eEC kr RL) (rowP eQq np cons')):=by rw[hHr,A0f,if_pos rfl,h3];rfl
  have iR:A0z eEC tyEp Hr kr RL:=gR.imp id λe=>by rw[hHr,A0f,if_neg (by omega),cq kr (by omega) (by omega)];exact e
  have iO:A0z eQq tyQe Hr np cons':=bq.imp id λe=>by rw[hHr,A0f,if_neg (by omega)];exact e
  have bdm:∀(Φ:A0u) (H:Heap) (nx:Nat),A0i Φ H nx (.build [(0,1),(1,1)] [.int .i64 0,.int .i64 0] [0,1]) [.t (iv va'),.t (iv vb')]=some (.t (.ag [iv va',iv vb']),H,nx):=λ_ _ _=>rfl;have htsl:A5c tyQe 2 [.int .i64 0,.int .i64 0] 1 [(0,.t (.ag [iv va',iv vb']))]=some (.t (.sl 1 [iv va',iv vb'])):=rfl;have CP:Ctx Tryz.prog (G q) _:=A0s.nil.ctxH (A0v.cons td2 .nil) mixed;refine A0b CP ?_;simp -implicitDefEqProofs [lq,td1,lg,bdm,htsl,aq,sq,-evalK_build];refine A3i (s':=⟨[(3,.ptr na 0),(2,.ptr nx 0),(0,.ptr k0 0)],Hr,np+1,97⟩) (A0d (by simp -implicitDefEqProofs)) rfl ?_
  have I:∀H' i' r',RdS s k0 kp i' r' H' (np+1)->Acc k0 kp Hr (np+1) kp H' (np+1)->FnI s k0 kv H nx na tp ix kr RL ⟨H',kp,i',np+1,r',np,cons',m⟩:=λH' i' r' hS hA=>
   ⟨hS,Qr.step hA,by show Xc H' nx=_;rw[hA.k nx (by omega) (by omega) (by omega)];exact i2,by show Xc H' na=_;rw[hA.k na (by omega) (by omega) (by omega)];exact i3,
    iR.imp id λe=>by show Xc H' kr=_;rw[hA.k kr (by omega) (by omega) (by omega)];exact e,
    iO.imp id λe=>by show Xc H' np=_;rw[hA.k np (by omega) (by omega) (by omega)];exact e,by show kp≠nx;omega,by show kp≠na;omega,by show kp≠kr;omega,b1,by show kr<np;omega,by show np≠kp;omega,Xi _⟩
  obtain⟨tg,tg1,tg2⟩:=B8y (q:=q) Sr 59;rw[show u8c 59 = .t (.v (.int .u8 59))from rfl]at tg1;have CG:Ctx Tryz.prog (G q) _:=A0s.nil.ctxH (A0v.cons tg2 .nil) mixed
  cases hf5:A1x 59 rp with
  | false=>
   rw[hf5]at hYm tg1;rw[if_neg (by decide)]at hYm;refine A0b CG ?_;simp -implicitDefEqProofs [tg1];exact Abs.Next.mk ⟨Hr,kp,jp,np+1,rp,np,cons',m⟩ ⟨hYm,I Hr jp rp Sr Acc.refl⟩ (A0d (by simp -implicitDefEqProofs [SFn]))
  | true=>
  rw[hf5]at hYm tg1;rw[if_pos rfl]at hYm;refine A0b CG ?_;simp -implicitDefEqProofs [tg1];obtain⟨Hs,js,th,⟨Ss,As,ks,_,_⟩,th1,th2⟩:=A6r (q:=q) Sr Acc.refl (t:=⟨#[59,32]⟩) (by decide) hs;have mus:=A4t (wb ⟨#[59,32]⟩) rp;have lts:=A7l hf5 [32];rw[show([59,32]:List UInt8)=wb ⟨#[59,32]⟩from rfl]at lts
  have hsem:B3e rp=if A1x 125 (A1f (wb ⟨#[59,32]⟩) rp)then A4c (A1f (wb ⟨#[59,32]⟩) rp)else A1f (wb ⟨#[59,32]⟩) rp:=rfl
  obtain⟨rs,hrs⟩:∃rs,rs=A1f (wb ⟨#[59,32]⟩) rp:=⟨_,rfl⟩
  rw[<-hrs]at Ss mus lts hsem;rw[hsem]at hYm;have CH:Ctx Tryz.prog (G q) _:=A0s.nil.ctxH (A0v.cons th2 .nil) mixed;refine A0b CH ?_;simp -implicitDefEqProofs [th1];obtain⟨tk,tk1,tk2⟩:=B8y (q:=q) Ss 125;rw[show u8c 125 = .t (.v (.int .u8 125))from rfl]at tk1
  cases hf6:A1x 125 rs with
  | false=>
   rw[hf6]at hYm tk1;rw[if_neg (by decide)]at hYm;have CK:Ctx Tryz.prog (G q) _:=A0s.nil.ctxH (A0v.cons tk2 .nil) mixed;refine A0r CK ?_;simp -implicitDefEqProofs [tk1];exact Abs.Next.mk ⟨Hs,kp,js,np+1,rs,np,cons',m⟩ ⟨⟨hYm,by show rs.rest.length<m;omega,by show cons'.length+m<=n;rw[hcons',Xk,X2];omega,by show muR rs<=_;omega,I Hs js rs Ss As⟩,Xi m⟩ (A0d (by simp -implicitDefEqProofs [SFn]))
  | true=>
   rw[hf6]at hYm tk1;rw[if_pos rfl]at hYm;obtain⟨Ht,tu,St,At,tu1,tu2⟩:=D6t (q:=q) Ss;have mft:=C2z rs;have CK:Ctx Tryz.prog (G q) _:=A0s.nil.ctxH (A0v.cons tk2 (A0v.cons tu2 .nil)) mixed;refine A0r CK ?_;simp -implicitDefEqProofs [tk1,tu1];exact Abs.Next.mk ⟨Ht,kp,js,np+1,A4c rs,np,cons',m⟩ ⟨⟨hYm,by show(A4c rs).rest.length<m;rw[A2k];omega,by show cons'.length+m<=n;rw[hcons',Xk,X2];omega,by show muR (A4c rs)<=_;omega,I Ht js _ St (As.step At.k At.v At.n At.fr)⟩,Xi m⟩ (A0d (by simp -implicitDefEqProofs [SFn]))
 rintro⟨Hx,kw,j,ny,rx,kc,cons,_⟩ ⟨hYx,⟨S,A,q2,q3,rl,ro,v2,v3,v4,b1,a1,a2,a3⟩⟩;simp only at hYx S A q2 q3 rl ro v2 v3 v4 b1 a1 a2 a3;rw[hYx]at hO;simp only at hO;obtain⟨Hy,jy,ty,⟨Sy,Ay,ky,_,_⟩,ty1,ty2⟩:=A6r (q:=q) S Acc.refl (t:=⟨#[125]⟩) (by decide) hs;rw[show A1f [125] rx=A1f (wb ⟨#[125]⟩) rx from rfl]at hO
 obtain⟨ry,hry⟩:∃ry,ry=A1f (wb ⟨#[125]⟩) rx:=⟨_,rfl⟩
 rw[<-hry]at Sy hO;have CY:Ctx Tryz.prog (G q) _:=A0s.nil.ctxH (A0v.cons ty2 .nil) mixed;refine A0b CY ?_;simp -implicitDefEqProofs [SFn,ty1];refine A3q (λc:Heap=>⟨[(3,.ptr na 0),(2,.ptr nx 0),(0,.ptr k0 0)],c,ny,97⟩) (λc=>RdS s k0 kw jy (B4l ry) c ny/\Acc k0 kw Hy ny kw c ny) (λ_=>rfl) ?_ ?_
 .have L:=ldR Sy.o;by_cases he:ry.e=0
  rotate_left
  .have hb:(ry.e==0)=false:=by rw[beq_eq_false_iff_ne];exact he
   have e1:B4l ry=ry:=by unfold B4l;rw[if_neg λe=>he e.1]
   refine A0b A0g ?_;simp -implicitDefEqProofs [L.l2,hb];refine A0r A0g ?_;simp -implicitDefEqProofs;exact Abs.Next.mk Hy ⟨by rw[e1];exact Sy,Acc.refl⟩ (A0d (by simp -implicitDefEqProofs))
  have hb:(ry.e==0)=true:=by rw[he];rfl
  by_cases hlt:jy<s.size
  .have hd:decide ((jy:Int)<(s.size:Int))=true:=decide_eq_true (by omega)
   have e1:B4l ry=A4c ry:=by unfold B4l;rw[if_pos ⟨he,λe=>by have:=Sy.nil.1 e;omega⟩]
   obtain⟨Ht,tu,St,At,tu1,tu2⟩:=D6t (q:=q) Sy;have CU:Ctx Tryz.prog (G q) _:=A0s.nil.ctxH (A0v.cons tu2 .nil) mixed;refine A0b CU ?_;simp -implicitDefEqProofs [L.l2,hb,L.l1,L.l0,hd,hlt];refine A0r CU ?_;simp -implicitDefEqProofs [tu1];exact Abs.Next.mk Ht ⟨by rw[e1];exact St,At⟩ (A0d (by simp -implicitDefEqProofs))
  .have hd:decide ((jy:Int)<(s.size:Int))=false:=decide_eq_false (by omega)
   have e1:B4l ry=ry:=by unfold B4l;rw[if_neg λe=>e.2 (Sy.nil.2 (by omega))]
   refine A0b A0g ?_;simp -implicitDefEqProofs [L.l2,hb,L.l1,L.l0,hd,hlt];refine A0r A0g ?_;simp -implicitDefEqProofs;exact Abs.Next.mk Hy ⟨by rw[e1];exact Sy,Acc.refl⟩ (A0d (by simp -implicitDefEqProofs))
 rintro Hz ⟨Sz,Az⟩;have Qz:=(A.step Ay).step Az
 have kz:∀c,c<ny->c≠k0->c≠kw->Xc Hz c=Xc Hx c:=λc h1 h2 h3=>by rw[Az.k c h1 h2 h3,ky c h1 h2 h3]
 have z2:Xc Hz nx=some (mRw 0 0 (.t nilS) (.t nilS)):=by rw[kz nx (by omega) (by omega) (by omega)];exact q2
 have z3:Xc Hz na=some (mRw tp ix (rowP eEC kr RL) (rowP eQq kc cons)):=by rw[kz na (by omega) (by omega) (by omega)];exact q3
 have zr:A0z eEC tyEp Hz kr RL:=rl.imp id λe=>by rw[kz kr (by omega) (by omega) (by omega)];exact e
 have zc:A0z eQq tyQe Hz kc cons:=ro.imp id λe=>by rw[kz kc a3 (by omega) (by omega)];exact e
 have all:=(mR_l z3).2.2;have cse:=cs_M tp ix kr kc RL cons
 obtain⟨ge,hge⟩:∃g,g=agOf [.t (iv tp),.t (iv ix),.t nilS,rowP eEC kr RL,rowP eQq kc cons]:=⟨_,rfl⟩
 rw[<-hge]at all cse;have sw:=G2r z2 (p:=ge) cse;have Sw:=Sz.upd (b:=nx) (by omega) v2 (mRw tp ix (rowP eEC kr RL) (rowP eQq kc cons));have Qw:=Qz.upd (b:=nx) (Xe _) (mRw tp ix (rowP eEC kr RL) (rowP eQq kc cons))
 obtain⟨Hw,hHw⟩:∃Hw,Hw=Xd Hz nx (mRw tp ix (rowP eEC kr RL) (rowP eQq kc cons)):=⟨_,rfl⟩
 rw[<-hHw]at sw Sw Qw
 have w2:Xc Hw nx=some (mRw tp ix (rowP eEC kr RL) (rowP eQq kc cons)):=by rw[hHw,A0f,if_pos rfl,z2];rfl
 have wr:A0z eEC tyEp Hw kr RL:=zr.imp id λe=>by rw[hHw,A0f,if_neg (by omega)];exact e
 have wc:A0z eQq tyQe Hw kc cons:=zc.imp id λe=>by rw[hHw,A0f,if_neg (by omega)];exact e
 refine A0b A0g ?_;simp -implicitDefEqProofs [all,sw]
 obtain⟨Hv,hHv⟩:∃Hv,Hv=A5u Hw [kr,kc]:=⟨_,rfl⟩
 refine A3i (s':=⟨[(2,.ptr nx 0)],Hv,ny,97⟩) (by rw[hHv];exact A5i [kr,kc] (by simp -implicitDefEqProofs [B1t])) rfl ?_;have Sv:=Sw.frz (F:=[kr,kc]) (by simp;omega) (by simp;omega);rw[<-hHv]at Sv
 have v2':Xc Hv nx=some (mRw tp ix (.t (A1a eEC RL)) (.t (A1a eQq cons))):=by
  rw[hHv,A1b (by simp;omega) w2];show some (Row.cells tyMr [.t (iv tp),.t (iv ix),.t nilS,frzP Hw [kr,kc] (rowP eEC kr RL),frzP Hw [kr,kc] (rowP eQq kc cons)])=_;rw[B3d wr (by simp),B3d wc (by simp)];rfl
 have al2:=(mR_l v2').2.2;rw[show agOf [.t (iv tp),.t (iv ix),.t nilS,.t (A1a eEC RL),.t (A1a eQq cons)] = .t (.ag [iv tp,iv ix,nilS,A1a eEC RL,A1a eQq cons])from rfl]at al2;refine A0r A0g ?_;simp -implicitDefEqProofs;refine A1u ⟨.t (.ag [iv tp,iv ix,nilS,A1a eEC RL,A1a eQq cons]),Hv,ny⟩ ⟨by rw[hO,hRL];rfl,⟨kw,jy,by rw[hO];exact Sv,⟨Qw.v,λc x h1 h2 h3 h4 h5=>?_,Qw.n,λh=>by show Frs Hv ny;rw[hHv];exact Frs.frz (Qw.fr h) [kr,kc]⟩⟩⟩ (by simp -implicitDefEqProofs [al2]);show Xc Hv c=some x;rw[hHv,A1b (by simp;omega) (Qw.k c x h1 h2 h3 h4 h5),h5.frz (F:=[kr,kc]) (by simp;omega)]
end
structure F0p {α:Type} (e:Enc α) (ty:Nat) (l:List α) (H:Heap) (nx:Nat) (f:Fin):Prop where
 r:f.r=rowP e (nx+1) l
 n:f.nx=nx+2
 at_:A0z e ty f.H (nx+1) l
 k:∀c,c<nx->Xc f.H c=Xc H c
 fr:Frs H nx->Frs f.H f.nx
theorem D6u {H:Heap} {nx:Nat} {l:List EC} (hl:l.length<=1000000) :
  ∃f:Fin,F0p eEC tyEp l H nx f/\A3n Tryz.prog (G q) 92 [.t (A1a eEC l)] H nx f.r f.H f.nx:=by
 refine B9c.callX rfl ?_;(conv in B0l=>cbv)
 cases l with
 | nil=>
  have ev:∀(Φ:A0u) (H:Heap) (nx:Nat),A0i Φ H nx (.bin false .eql (some .sl)) [.t nilS,.t (.v (.slice none 0 0))]=some (.t (.v (.bool true)),H,nx):=λ_ _ _=>rfl;rw[show A1a eEC []=nilS from rfl];refine A3i (A8j (nx':=nx+2) (by simp -implicitDefEqProofs)) rfl ?_;refine A0b A0g ?_;simp -implicitDefEqProofs;refine A0b A0g ?_;simp -implicitDefEqProofs [ev];exact A1u ⟨.t nilS,H,nx+2⟩ ⟨rfl,rfl,.inl rfl,λ_ _=>rfl,λh=>h.mono (by show nx<=nx+2;omega)⟩ (by simp -implicitDefEqProofs)
 | cons x r=>
  obtain⟨l,hL⟩:∃l,l=x::r:=⟨_,rfl⟩
  have hne:l≠[]:=by rw[hL];simp
  have ht:A1a eEC (x::r)=slT eEC l:=by rw[hL];rfl
  rw[ht,<-hL];rw[<-hL]at hl;have hs:srcP ((nx,.cells tyEp [])::H) (eEC).z (.t (slT eEC l))=some (l.length,(l.flatMap (eEC).enc).map .t):=B2f (.inr rfl);have ap:=B2l (e:=eEC) (ty:=tyEp) (b:=nx) (l:=[]) (H:=(nx,.cells tyEp [])::H) (by':=48) (nx:=nx+1) (m:=l) (by rw[look_cons,if_pos rfl];rfl) hs (by simp;omega) (by simp;omega);rw[Xp]at ap;have hz:(eEC).z=3:=rfl;rw[hz]at ap
  obtain⟨H2,hH2⟩:∃H2:Heap,H2=(nx+1,A0l eEC tyEp l)::rem ((nx,.cells tyEp [])::H) nx:=⟨_,rfl⟩
  have ap:appM tyEp 3 48 ((nx,.cells tyEp [])::H) (nx+1) (.row nx 0 0 3) (.t (slT eEC l))=some (.row (nx+1) 0 l.length 3,H2,nx+2):=by rw[hH2];exact ap
  have bs:∀k,A1v tyEp 3 [.string ⟨#[]⟩,.int .i64 0,.slice none 0 0] 0 [] k=some (.row k 0 0 3,.cells tyEp []):=λk=>rfl;have ev:∀(Φ:A0u) (H:Heap) (nx:Nat),A0i Φ H nx (.bin false .eql (some .sl)) [.t (slT eEC l),.t (.v (.slice none 0 0))]=some (.t (.v (.bool false)),H,nx):=λ_ _ _=>rfl;refine A0b A0g ?_;simp -implicitDefEqProofs;refine A0b A0g ?_;simp -implicitDefEqProofs [ev];refine A0r A0g ?_;simp -implicitDefEqProofs [bs,ap]
  exact A1u ⟨.row (nx+1) 0 l.length 3,H2,nx+2⟩ ⟨(A6q eEC (nx+1) l hne).symm,rfl,.inr (by show Xc H2 (nx+1)=_;rw[hH2,look_cons,if_pos rfl]),λc hc=>by
   show Xc H2 c=_
   rw[hH2,look_cons,if_neg (by omega),A1e,if_neg (by omega),look_cons,if_neg (by omega)],λhf=>by
   show Frs H2 (nx+2);rw[hH2]
   exact((hf.cons (Xi _) (Xl _)).rem).cons (by omega) (by omega)⟩ (by simp -implicitDefEqProofs)
theorem D6v {H:Heap} {nx:Nat} {l:List Ag} (hl:l.length<=1000000) :
  ∃f:Fin,F0p eAg tyA l H nx f/\A3n Tryz.prog (G q) 93 [.t (A1a eAg l)] H nx f.r f.H f.nx:=by
 refine B9d.callX rfl ?_;(conv in B0m=>cbv)
 cases l with
 | nil=>
  have ev:∀(Φ:A0u) (H:Heap) (nx:Nat),A0i Φ H nx (.bin false .eql (some .sl)) [.t nilS,.t (.v (.slice none 0 0))]=some (.t (.v (.bool true)),H,nx):=λ_ _ _=>rfl;rw[show A1a eAg []=nilS from rfl];refine A3i (A8j (nx':=nx+2) (by simp -implicitDefEqProofs)) rfl ?_;refine A0b A0g ?_;simp -implicitDefEqProofs;refine A0b A0g ?_;simp -implicitDefEqProofs [ev];exact A1u ⟨.t nilS,H,nx+2⟩ ⟨rfl,rfl,.inl rfl,λ_ _=>rfl,λh=>h.mono (by show nx<=nx+2;omega)⟩ (by simp -implicitDefEqProofs)
 | cons x r=>
  obtain⟨l,hL⟩:∃l,l=x::r:=⟨_,rfl⟩
  have hne:l≠[]:=by rw[hL];simp
  have ht:A1a eAg (x::r)=slT eAg l:=by rw[hL];rfl
  rw[ht,<-hL];rw[<-hL]at hl;have hs:srcP ((nx,.cells tyA [])::H) (eAg).z (.t (slT eAg l))=some (l.length,(l.flatMap (eAg).enc).map .t):=B2f (.inr rfl);have ap:=B2l (e:=eAg) (ty:=tyA) (b:=nx) (l:=[]) (H:=(nx,.cells tyA [])::H) (by':=24) (nx:=nx+1) (m:=l) (by rw[look_cons,if_pos rfl];rfl) hs (by simp;omega) (by simp;omega);rw[Xp]at ap;have hz:(eAg).z=2:=rfl;rw[hz]at ap
  obtain⟨H2,hH2⟩:∃H2:Heap,H2=(nx+1,A0l eAg tyA l)::rem ((nx,.cells tyA [])::H) nx:=⟨_,rfl⟩
  have ap:appM tyA 2 24 ((nx,.cells tyA [])::H) (nx+1) (.row nx 0 0 2) (.t (slT eAg l))=some (.row (nx+1) 0 l.length 2,H2,nx+2):=by rw[hH2];exact ap
  have bs:∀k,A1v tyA 2 [.string ⟨#[]⟩,.int .i64 0] 0 [] k=some (.row k 0 0 2,.cells tyA []):=λk=>rfl;have ev:∀(Φ:A0u) (H:Heap) (nx:Nat),A0i Φ H nx (.bin false .eql (some .sl)) [.t (slT eAg l),.t (.v (.slice none 0 0))]=some (.t (.v (.bool false)),H,nx):=λ_ _ _=>rfl;refine A0b A0g ?_;simp -implicitDefEqProofs;refine A0b A0g ?_;simp -implicitDefEqProofs [ev];refine A0r A0g ?_;simp -implicitDefEqProofs [bs,ap]
  exact A1u ⟨.row (nx+1) 0 l.length 2,H2,nx+2⟩ ⟨(A6q eAg (nx+1) l hne).symm,rfl,.inr (by show Xc H2 (nx+1)=_;rw[hH2,look_cons,if_pos rfl]),λc hc=>by
   show Xc H2 c=_
   rw[hH2,look_cons,if_neg (by omega),A1e,if_neg (by omega),look_cons,if_neg (by omega)],λhf=>by
   show Frs H2 (nx+2);rw[hH2]
   exact((hf.cons (Xi _) (Xl _)).rem).cons (by omega) (by omega)⟩ (by simp -implicitDefEqProofs)
theorem D6w {H:Heap} {nx:Nat} {l:List Qq} (hl:l.length<=1000000) :
  ∃f:Fin,F0p eQq tyQe l H nx f/\A3n Tryz.prog (G q) 94 [.t (A1a eQq l)] H nx f.r f.H f.nx:=by
 refine B9e.callX rfl ?_;(conv in B0n=>cbv)
 cases l with
 | nil=>
  have ev:∀(Φ:A0u) (H:Heap) (nx:Nat),A0i Φ H nx (.bin false .eql (some .sl)) [.t nilS,.t (.v (.slice none 0 0))]=some (.t (.v (.bool true)),H,nx):=λ_ _ _=>rfl;rw[show A1a eQq []=nilS from rfl];refine A3i (A8j (nx':=nx+2) (by simp -implicitDefEqProofs)) rfl ?_;refine A0b A0g ?_;simp -implicitDefEqProofs;refine A0b A0g ?_;simp -implicitDefEqProofs [ev];exact A1u ⟨.t nilS,H,nx+2⟩ ⟨rfl,rfl,.inl rfl,λ_ _=>rfl,λh=>h.mono (by show nx<=nx+2;omega)⟩ (by simp -implicitDefEqProofs)
 | cons x r=>
  obtain⟨l,hL⟩:∃l,l=x::r:=⟨_,rfl⟩
  have hne:l≠[]:=by rw[hL];simp
  have ht:A1a eQq (x::r)=slT eQq l:=by rw[hL];rfl
  rw[ht,<-hL];rw[<-hL]at hl;have hs:srcP ((nx,.cells tyQe [])::H) (eQq).z (.t (slT eQq l))=some (l.length,(l.flatMap (eQq).enc).map .t):=B2f (.inr rfl);have ap:=B2l (e:=eQq) (ty:=tyQe) (b:=nx) (l:=[]) (H:=(nx,.cells tyQe [])::H) (by':=16) (nx:=nx+1) (m:=l) (by rw[look_cons,if_pos rfl];rfl) hs (by simp;omega) (by simp;omega);rw[Xp]at ap;have hz:(eQq).z=2:=rfl;rw[hz]at ap
  obtain⟨H2,hH2⟩:∃H2:Heap,H2=(nx+1,A0l eQq tyQe l)::rem ((nx,.cells tyQe [])::H) nx:=⟨_,rfl⟩
  have ap:appM tyQe 2 16 ((nx,.cells tyQe [])::H) (nx+1) (.row nx 0 0 2) (.t (slT eQq l))=some (.row (nx+1) 0 l.length 2,H2,nx+2):=by rw[hH2];exact ap
  have bs:∀k,A1v tyQe 2 [.int .i64 0,.int .i64 0] 0 [] k=some (.row k 0 0 2,.cells tyQe []):=λk=>rfl;have ev:∀(Φ:A0u) (H:Heap) (nx:Nat),A0i Φ H nx (.bin false .eql (some .sl)) [.t (slT eQq l),.t (.v (.slice none 0 0))]=some (.t (.v (.bool false)),H,nx):=λ_ _ _=>rfl;refine A0b A0g ?_;simp -implicitDefEqProofs;refine A0b A0g ?_;simp -implicitDefEqProofs [ev];refine A0r A0g ?_;simp -implicitDefEqProofs [bs,ap]
  exact A1u ⟨.row (nx+1) 0 l.length 2,H2,nx+2⟩ ⟨(A6q eQq (nx+1) l hne).symm,rfl,.inr (by show Xc H2 (nx+1)=_;rw[hH2,look_cons,if_pos rfl]),λc hc=>by
   show Xc H2 c=_
   rw[hH2,look_cons,if_neg (by omega),A1e,if_neg (by omega),look_cons,if_neg (by omega)],λhf=>by
   show Frs H2 (nx+2);rw[hH2]
   exact((hf.cons (Xi _) (Xl _)).rem).cons (by omega) (by omega)⟩ (by simp -implicitDefEqProofs)
theorem G2t {ns:List Int} {x:Int} (h:inR ns.length x):ns[x.toNat]?=some (toV ns x):=by
 have h1:=h.1;have h2:=h.2
 have hl:x.toNat<ns.length:=by omega
 unfold toV;rw[List.getD_eq_getElem?_getD,Xn hl,Option.getD_some]
theorem E4q {t:T} {ns:List Int} (ht:IsS eInt t ns) {x:Int} (h:inR ns.length x) :
  ∃A,A2e 1 (.t t) (.t (iv x))=some A/\∀H,A0t false 1 H A=some (.t (iv (toV ns x))):=by
 obtain⟨k,rfl⟩:∃k:Nat,x=(k:Int):=⟨x.toNat,by have:=h.1;omega⟩
 have e:=G2t h;rw[X1]at e;have i1:=ht.iaddr e .i64;rw[show eInt.z=1 from rfl,show eInt.enc (toV ns (k:Int))=[iv (toV ns (k:Int))]from rfl]at i1;exact⟨_,i1,λH=>lp H _ _⟩
def mixL {α:Type} (f:α->α) (l:List α) (k:Nat):List α:=(l.take k).map f++l.drop k
theorem C8y {α:Type} (f:α->α) (l:List α) (k:Nat):(mixL f l k).length=l.length:=by
 unfold mixL;rw[Xk,Xg,<-Xk,Ya]
theorem D6x {α:Type} {f:α->α} {l:List α} {k:Nat} (h:k<l.length):(mixL f l k)[k]?=l[k]?:=by
 unfold mixL;rw[List.getElem?_append_right (by rw[Xg,Xr];omega),Xg,Xr,Yk (by omega),Xo,Yc,Nat.add_zero]
theorem C8z {α:Type} {f:α->α} {l:List α} {k:Nat} {x:α} (h:l[k]?=some x):(mixL f l k).set k (f x)=mixL f l (k+1):=by
 have hk:k<l.length:=(Xq.1 h).1
 have e:l.drop k=x::l.drop (k+1):=by rw[Xy hk,(Xq.1 h).2]
 unfold mixL;rw[Ys _ _ (by rw[Xg,Xr];omega),Xg,Xr,Yk (by omega),Xo,e,Yl,Xt,h];simp
theorem C9a {α:Type} (f:α->α) (l:List α):mixL f l l.length=l.map f:=by
 unfold mixL;rw[Yb,List.drop_length,Xs]
theorem C3a {α:Type} (f:α->α) (l:List α):mixL f l 0=l:=by
 unfold mixL;simp
theorem E0y {α:Type} (e:Enc α):∀{l:List α} {i:Nat} {x:α},i<l.length->(l.set i x).flatMap e.enc=(l.flatMap e.enc).take (i*e.z)++e.enc x++(l.flatMap e.enc).drop (i*e.z+e.z)
 | a::l,0,x,_=>by
  have h:=e.len a;rw[Yl,Xw,Xw,Nat.zero_mul,Xv,Xp,Nat.zero_add,Yt,h,Xo,List.drop_zero,X5 (by omega),Xp]
 | a::l,i+1,x,h=>by
  have ha:=e.len a
  have hi:i<l.length:=by simpa using h
  rw[Yu,Xw,Xw,E0y e hi]
  have e1:(i+1)*e.z=e.z+i*e.z:=by rw[Nat.succ_mul,Nat.add_comm]
  obtain⟨F,hF⟩:∃F,F=l.flatMap e.enc:=⟨_,rfl⟩
  rw[<-hF];have g1:(e.enc a).take (e.z+i*e.z)=e.enc a:=List.take_of_length_le (by omega);have g2:(e.enc a).drop (e.z+i*e.z+e.z)=[]:=X5 (by omega)
  have t1:(e.enc a++F).take (e.z+i*e.z)=e.enc a++F.take (i*e.z):=by
   rw[List.take_append,g1,ha,Nat.add_sub_cancel_left]
  have d1:(e.enc a++F).drop (e.z+i*e.z+e.z)=F.drop (i*e.z+e.z):=by
   rw[Yt,g2,ha,Xp,show e.z+i*e.z+e.z-e.z=i*e.z+e.z by omega]
  rw[e1,t1,d1];simp only[Xz]
theorem F0q {α:Type} {e:Enc α} {ty b n i:Nat} {H:Heap} {l:List α} {x:α} {p:PV} (h:Xc H b=some (A0l e ty l)) (hi:i<l.length) (hn:n=e.z) (hp:A1g p=some ((e.enc x).map .t)):A0x n H (.ptr b (i*n)) p=some (Xd H b (A0l e ty (l.set i x))):=by
 subst hn
 have hlen:((l.flatMap e.enc).map PV.t).length=l.length*e.z:=by rw[Xg,A2p]
 have hle:i*e.z+e.z<=l.length*e.z:=by
  have:=Nat.mul_le_mul_right e.z (show i+1<=l.length from hi);rw[Nat.succ_mul]at this;exact this
 have hx:((e.enc x).map PV.t).length=e.z:=by rw[Xg];exact e.len x
 rw[A1z (n:=e.z) (ns:=(e.enc x).map .t) h hp hx (by rw[hlen];exact hle)];congr 3;rw[B4s (by rw[hlen,hx];exact hle),hx,E0y e hi,X8,X8,List.map_take,List.map_drop]
theorem D3k {v:Int}:∀{l:List Ag} {i:Nat} {x:Ag},l[i]?=some x->(l.set i ⟨x.role,v⟩).flatMap eAg.enc=(l.flatMap eAg.enc).set (i*2+1) (iv v)
 | a::l,0,x,h=>by
  injection h with h;subst h;rfl
 | a::l,i+1,x,h=>by
  have ih:=D3k (v:=v) (l:=l) (i:=i) (x:=x) h;rw[Yu,Xw,Xw,ih,show(i+1)*2+1=(i*2+1)+1+1 by omega];rfl
theorem F9e {ty b i:Nat} {H:Heap} {l:List Ag} {x:Ag} {v:Int} (h:Xc H b=some (A0l eAg ty l)) (hx:l[i]?=some x):A0x 1 H (.ptr b (i*2+1)) (.t (iv v))=some (Xd H b (A0l eAg ty (l.set i ⟨x.role,v⟩))):=by
 have hi:i<l.length:=(Xq.1 hx).1
 have hlen:((l.flatMap eAg.enc).map PV.t).length=l.length*2:=by rw[Xg,A2p];rfl
 rw[A1z (n:=1) (ns:=[.t (iv v)]) h rfl rfl (by rw[hlen];omega)];congr 3;rw[D3k hx,List.map_set];rfl
theorem mR_s0 {k:Nat} {H:Heap} {a b:Int} {d e:PV} (h:Xc H k=some (mRw a b d e)) (x:Int):A0x 1 H (.ptr k 0) (.t (iv x))=some (Xd H k (mRw x b d e)):=
 A1z (ns:=[.t (iv x)]) h rfl rfl (by show 0+1<=5;omega)
theorem G2u {k:Nat} {H:Heap} {a b:Int} {d e:PV} (h:Xc H k=some (mRw a b d e)):A0t false 1 H (.ptr k 0)=some (.t (iv a))/\A0t false 1 H (.ptr k 1)=some (.t (iv b)):=by
 unfold mRw at h;simp only[A0t,h];exact⟨rfl,rfl⟩
structure RnC where
 H:Heap
 nx:Nat
 i:Nat
def SRn (tn:T) (kr n:Nat) (rw_:PV) (c:RnC):A0c:=⟨[(31,.t (iv (c.i:Int))),(30,.t (iv (n:Int))),(29,rw_),(5,rw_),(4,.ptr 1 0),(2,.ptr 0 0),(1,.t tn)],c.H,c.nx,99⟩
def SRqq (tn:T) (n:Nat) (rw_ rc:PV) (c:RnC):A0c:=⟨[(74,.t (iv (c.i:Int))),(73,.t (iv (n:Int))),(72,rc),(11,rc),(5,rw_),(4,.ptr 1 0),(2,.ptr 0 0),(1,.t tn)],c.H,c.nx,99⟩
def SRi (tn:T) (n i nx na:Nat) (rw_ ra:PV) (c:RnC):A0c:=⟨[(41,.t (iv (c.i:Int))),(40,.t (iv (na:Int))),(39,ra),(8,ra),(7,.ptr nx 0),(6,.t (iv (i:Int))),(31,.t (iv (i:Int))),(30,.t (iv (n:Int))),(29,rw_),(5,rw_),(4,.ptr 1 0),(2,.ptr 0 0),(1,.t tn)],c.H,c.nx,99⟩
def fA (ns:List Int) (a:Ag):Ag:=⟨a.role,toV ns a.var⟩
theorem bd_E3 (Φ:A0u) (H:Heap) (nx:Nat) (w:ByteArray) (l:Int) (as':List Ag):A0i Φ H nx (.build [(0,1),(1,1),(2,1)] [.string ⟨#[]⟩,.int .i64 0,.slice none 0 0] [0,1,2]) [.t (sv w),.t (iv l),.t (A1a eAg as')]=some (.t (.ag [sv w,iv l,A1a eAg as']),H,nx):=by
 cases as'<;>rfl
theorem G2v (w:ByteArray) (l:Int) (as':List Ag):A1g (.t (.ag [sv w,iv l,A1a eAg as']))=some [.t (sv w),.t (iv l),.t (A1a eAg as')]:=by
 cases as'<;>rfl
theorem D3l {m:Mr} {tn:T} {ns:List Int} (hv:m.vars=[]) (ht:IsS eInt tn ns) (htop:inR ns.length m.top) (hidx:inR ns.length m.index) (hre:∀x∈m.rels,inE ns.length x) (hco:∀c∈m.cons,inQ ns.length c)
  (hr1:m.rels.length<=100000) (hr2:∀x∈m.rels,x.args.length<=100000) (hc1:m.cons.length<=100000) :
  A1d Tryz.prog (G q) 57 [.ag (encM m),tn] (· = .ag (encM ⟨toV ns m.top,toV ns m.index,[],m.rels.map (mapE (toV ns)),m.cons.map (mapQ (toV ns))⟩)):=by
 obtain⟨tr,htr⟩:∃tr,tr=A1a eEC (m.rels.map EC.of):=⟨_,rfl⟩
 obtain⟨tc,htc⟩:∃tc,tc=A1a eQq m.cons:=⟨_,rfl⟩
 have hes:encM m=[iv m.top,iv m.index,nilS,tr,tc]:=by unfold encM;rw[hv,htr,htc];rfl
 rw[hes];have cd:=cd5 (iv m.top) (iv m.index) nilS tr tc
 obtain⟨H0,hH0⟩:∃H0:Heap,H0=[(1,mRw 0 0 (.t nilS) (.t nilS)),(0,mRw m.top m.index (.t tr) (.t tc))]:=⟨_,rfl⟩
 have z0:Xc H0 0=some (mRw m.top m.index (.t tr) (.t tc)):=by rw[hH0];rfl
 have z1:Xc H0 1=some (mRw 0 0 (.t nilS) (.t nilS)):=by rw[hH0];rfl
 refine C7r.call rfl ?_;(conv in B5r=>cbv);refine A0a A0g ?_;simp -implicitDefEqProofs [cd];rw[show([(1,Row.cells tyMr [.t (.v (.int .i64 0)),.t (.v (.int .i64 0)),.t (.v (.slice none 0 0)),.t (.v (.slice none 0 0)),.t (.v (.slice none 0 0))]),(0,Row.cells tyMr [.t (iv m.top),.t (iv m.index),.t nilS,.t tr,.t tc])]:Heap)=H0 from hH0.symm];obtain⟨A1,i1,l1⟩:=E4q ht htop;obtain⟨A2,i2,l2⟩:=E4q ht hidx;obtain⟨lt,li⟩:=G2u z0;have s1:=mR_s0 z0 (toV ns m.top)
 obtain⟨H1,hH1⟩:∃H1,H1=Xd H0 0 (mRw (toV ns m.top) m.index (.t tr) (.t tc)):=⟨_,rfl⟩
 rw[<-hH1]at s1
 have y0:Xc H1 0=some (mRw (toV ns m.top) m.index (.t tr) (.t tc)):=by rw[hH1,A0f,if_pos rfl,z0];rfl
 have y1:Xc H1 1=some (mRw 0 0 (.t nilS) (.t nilS)):=by rw[hH1,A0f,if_neg (by omega)];exact z1
 have s2:=G2o y0 (toV ns m.index)
 obtain⟨H2,hH2⟩:∃H2,H2=Xd H1 0 (mRw (toV ns m.top) (toV ns m.index) (.t tr) (.t tc)):=⟨_,rfl⟩
 rw[<-hH2]at s2
 have x0:Xc H2 0=some (mRw (toV ns m.top) (toV ns m.index) (.t tr) (.t tc)):=by rw[hH2,A0f,if_pos rfl,y0];rfl
 have x1:Xc H2 1=some (mRw 0 0 (.t nilS) (.t nilS)):=by rw[hH2,A0f,if_neg (by omega)];exact y1
 refine A0a A0g ?_;simp -implicitDefEqProofs [lt,li,i1,i2,l1,l2,s1,s2]
 obtain⟨L,hL⟩:∃L,L=m.rels.map EC.of:=⟨_,rfl⟩
 rw[<-hL]at htr
 have hLl:L.length=m.rels.length:=by rw[hL,Xg]
 obtain⟨⟨fr,F,fn⟩,⟨hfr,hfn,hat,hk,hf⟩,hc⟩:=D6u (q:=q) (H:=H2) (nx:=2) (l:=L) (by omega);simp only at hfr hfn hat hk hf hc;subst hfr hfn;rw[<-htr]at hc;obtain⟨t,t1,t2⟩:=hAt hc hf;have lr:=(mR_l x0).1;have C:Ctx Tryz.prog (G q) _:=A0s.nil.ctxH (A0v.cons t2 .nil) mixed;refine A0a C ?_;simp -implicitDefEqProofs [lr,t1];have lnL:A6t (rowP eEC 3 L)=some (.t (iv (L.length:Int))):=B9j eEC 3 L
 obtain⟨g,hg⟩:∃g:EC->EC,g=λc=>EC.of (mapE (toV ns) c.x):=⟨_,rfl⟩
 refine A0q (λc:RnC=>⟨[(5,rowP eEC 3 L),(4,.ptr 1 0),(2,.ptr 0 0),(1,.t tn)],c.H,c.nx,99⟩) (λc=>Xc c.H 0=some (mRw (toV ns m.top) (toV ns m.index) (.t tr) (.t tc))/\Xc c.H 1=some (mRw 0 0 (.t nilS) (.t nilS))/\A0z eEC tyEp c.H 3 (L.map g)/\3<c.nx) (λ_=>rfl) ?_ ?_
 .refine A0a C ?_;simp -implicitDefEqProofs [lnL];refine A0j ?_
  refine A0n (SRn tn 3 L.length (rowP eEC 3 L)) (λc=>L.length-c.i) (λc=>Xc c.H 0=some (mRw (toV ns m.top) (toV ns m.index) (.t tr) (.t tc))/\Xc c.H 1=some (mRw 0 0 (.t nilS) (.t nilS))/\A0z eEC tyEp c.H 3 (mixL g L c.i)/\3<c.nx/\c.i<=L.length)
   ⟨F,4,0⟩ (λ_=>rfl) ⟨by show Xc F 0=_;rw[hk 0 (by omega)];exact x0,by show Xc F 1=_;rw[hk 1 (by omega)];exact x1,by rw[C3a];exact hat,by show 3<4;omega,Xx _⟩ ?_ rfl ?_
  .exact A0d (by simp -implicitDefEqProofs [SRn])
  rintro⟨Ha,nx,i⟩ ⟨w0,w1,wr,wn,wi⟩;simp only at w0 w1 wr wn wi;by_cases hlt:i<L.length
  rotate_left
  .have ei:i=L.length:=by omega
   subst ei;rw[C9a]at wr;refine A0e A0g ?_;simp -implicitDefEqProofs [SRn];exact Abs.Next.mk ⟨Ha,nx,0⟩ ⟨w0,w1,wr,wn⟩ (A0d (by simp -implicitDefEqProofs))
  obtain⟨X,hX⟩:∃X,m.rels[i]?=some X:=⟨_,Xn (by omega)⟩
  have hXm:=X3 hX
  have hLi:L[i]?=some (EC.of X):=by rw[hL,Ym,hX];rfl
  have hMi:(mixL g L i)[i]?=some (EC.of X):=by rw[D6x hlt];exact hLi
  have hMl:=C8y g L i
  have hMne:mixL g L i≠[]:=λe=>by rw[e]at hMl;simp at hMl;omega
  have wrl:=wr.resolve_left hMne;have erow:rowP eEC 3 L = .row 3 0 L.length 3:=A6q eEC 3 L (λe=>by rw[e]at hlt;simp at hlt);have j1:A2e 3 (.row 3 0 L.length 3) (.t (iv (i:Int)))=some (.ptr 3 (i*3)):=B2m (e:=eEC) (b:=3) hLi;have ld1:A0t true 3 Ha (.ptr 3 (i*3))=some (.t (.ag (EC.of X).cs)):=D9v (e:=eEC) wrl hMi rfl;have hcs:(EC.of X).cs=[sv X.pred,iv X.label,A1a eAg X.args]:=rfl;rw[hcs]at ld1;have u1:∀a b c,A0x 3 ((nx,.cells tyEp [a,b,c])::Ha) (.ptr nx 0) (.t (.ag [sv X.pred,iv X.label,A1a eAg X.args]))=some ((nx,.cells tyEp [.t (sv X.pred),.t (iv X.label),.t (A1a eAg X.args)])::Ha):=λa b c=>st3 nx a b c _ _ _ tyEp Ha (G2v _ _ _)
  obtain⟨H3,hH3⟩:∃H3:Heap,H3=(nx,.cells tyEp [.t (sv X.pred),.t (iv X.label),.t (A1a eAg X.args)])::Ha:=⟨_,rfl⟩
  rw[<-hH3]at u1
  have k3:∀c,c<nx->Xc H3 c=Xc Ha c:=λc h=>by rw[hH3,look_cons,if_neg (by omega)]
  have e3:Xc H3 nx=some (.cells tyEp [.t (sv X.pred),.t (iv X.label),.t (A1a eAg X.args)]):=by rw[hH3,look_cons,if_pos rfl]
  have le2:=F0l e3;have hXa:=hr2 X hXm;obtain⟨⟨ar,B,bn⟩,⟨har,hbn,bat,bk,bf⟩,bc⟩:=D6v (q:=q) (H:=H3) (nx:=nx+1) (l:=X.args) (by omega);simp only at har hbn bat bk bf bc;subst har hbn;obtain⟨ta,ta1,ta2⟩:=hAt bc bf;have CA:Ctx Tryz.prog (G q) _:=A0s.nil.ctxH (A0v.cons ta2 .nil) mixed;have w1':IntKind.i64.wrap ((i:Int)+1)=((i+1:Nat):Int):=A0k (by omega) (by omega);rw[erow];refine A0a A0g ?_;simp -implicitDefEqProofs [SRn,hlt];refine A0a A0g ?_;simp -implicitDefEqProofs;refine A0q (λc:RnC=>⟨[(31,.t (iv (i:Int))),(30,.t (iv (L.length:Int))),(29,.row 3 0 L.length 3),(5,.row 3 0 L.length 3),(4,.ptr 1 0),(2,.ptr 0 0),(1,.t tn)],c.H,c.nx,99⟩) (λc=>Xc c.H 0=some (mRw (toV ns m.top) (toV ns m.index) (.t tr) (.t tc))/\Xc c.H 1=some (mRw 0 0 (.t nilS) (.t nilS))/\A0z eEC tyEp c.H 3 (mixL g L (i+1))/\3<c.nx) (λ_=>rfl) ?_ ?_
  rotate_left
  .rintro⟨Hz,nz,_⟩ ⟨g0,g1,gr,gn⟩;simp only at g0 g1 gr gn;refine A0e A0g ?_;simp -implicitDefEqProofs [w1'];exact Abs.Next.mk ⟨Hz,nz,i+1⟩ ⟨⟨g0,g1,gr,gn,hlt⟩,by show L.length-(i+1)<L.length-i;omega⟩ (A0d (by simp -implicitDefEqProofs [SRn,erow]))
  refine A0j ?_;refine A0a A0g ?_;simp -implicitDefEqProofs [j1,ld1,u1];refine MC.sub (s':=⟨[(7,.ptr nx 0),(6,.t (iv (i:Int))),(31,.t (iv (i:Int))),(30,.t (iv (L.length:Int))),(29,.row 3 0 L.length 3),(5,.row 3 0 L.length 3),(4,.ptr 1 0),(2,.ptr 0 0),(1,.t tn)],H3,nx+1,99⟩) (A0d (by simp -implicitDefEqProofs)) rfl ?_;refine A0a CA ?_;simp -implicitDefEqProofs [le2,ta1];have lnA:A6t (rowP eAg (nx+1+1) X.args)=some (.t (iv (X.args.length:Int))):=B9j eAg _ X.args
  obtain⟨ra,hra⟩:∃ra,ra=rowP eAg (nx+1+1) X.args:=⟨_,rfl⟩
  rw[<-hra]at lnA
  obtain⟨ka,hka⟩:∃ka,ka=nx+1+1:=⟨_,rfl⟩
  rw[<-hka]at bat hra;refine A0q (λc:RnC=>⟨[(8,ra),(7,.ptr nx 0),(6,.t (iv (i:Int))),(31,.t (iv (i:Int))),(30,.t (iv (L.length:Int))),(29,.row 3 0 L.length 3),(5,.row 3 0 L.length 3),(4,.ptr 1 0),(2,.ptr 0 0),(1,.t tn)],c.H,c.nx,99⟩) (λc=>(∀c',c'<ka->Xc c.H c'=Xc B c')/\A0z eAg tyA c.H ka (X.args.map (fA ns))/\ka<c.nx) (λ_=>rfl) ?_ ?_
  .refine A0a A0g ?_;simp -implicitDefEqProofs [<-hka,<-hra,lnA];refine A0j ?_
   refine A0n (SRi tn L.length i nx X.args.length (.row 3 0 L.length 3) ra) (λc=>X.args.length-c.i) (λc=>(∀c',c'<ka->Xc c.H c'=Xc B c')/\A0z eAg tyA c.H ka (mixL (fA ns) X.args c.i)/\ka<c.nx/\c.i<=X.args.length)
    ⟨B,ka+1,0⟩ (λ_=>rfl) ⟨λ_ _=>rfl,by rw[C3a];exact bat,Xi _,Xx _⟩ ?_ rfl ?_
   .rw[hka];exact A0d (by simp -implicitDefEqProofs [SRi])
   rintro⟨Hc,ny,k⟩ ⟨ck,cr,cn,ci⟩;simp only at ck cr cn ci;by_cases hlk:k<X.args.length
   rotate_left
   .have ek:k=X.args.length:=by omega
    subst ek;rw[C9a]at cr;refine A0e A0g ?_;simp -implicitDefEqProofs [SRi];exact Abs.Next.mk ⟨Hc,ny,0⟩ ⟨ck,cr,cn⟩ (A0d (by simp -implicitDefEqProofs))
   obtain⟨a,ha⟩:∃a,X.args[k]?=some a:=⟨_,Xn hlk⟩
   have hMk:(mixL (fA ns) X.args k)[k]?=some a:=by rw[D6x hlk];exact ha
   have hNl:=C8y (fA ns) X.args k;have crl:=cr.resolve_left (λe=>by rw[e]at hNl;simp at hNl;omega)
   have era:ra = .row ka 0 X.args.length 2:=by rw[hra];exact A6q eAg ka X.args (λe=>by rw[e]at hlk;simp at hlk)
   have b1:A2e 2 (.row ka 0 X.args.length 2) (.t (iv (k:Int)))=some (.ptr ka (k*2)):=B2m (e:=eAg) (b:=ka) ha;have b2:A0t true 2 Hc (.ptr ka (k*2))=some (.t (.ag [sv a.role,iv a.var])):=D9v (e:=eAg) crl hMk rfl;have u2:∀x y,A0x 2 ((ny,.cells tyA [x,y])::Hc) (.ptr ny 0) (.t (.ag [sv a.role,iv a.var]))=some ((ny,.cells tyA [.t (sv a.role),.t (iv a.var)])::Hc):=λx y=>st2 ny x y _ _ tyA Hc
   obtain⟨H5,hH5⟩:∃H5:Heap,H5=(ny,.cells tyA [.t (sv a.role),.t (iv a.var)])::Hc:=⟨_,rfl⟩
   rw[<-hH5]at u2
   have k5:∀c,c<ny->Xc H5 c=Xc Hc c:=λc h=>by rw[hH5,look_cons,if_neg (by omega)]
   have b3:=(A5m (H:=H5) (b:=ny) (ty:=tyA) (p0:=.t (sv a.role)) (p1:=.t (iv a.var)) (by rw[hH5,look_cons,if_pos rfl])).2;obtain⟨A,ia,la⟩:=E4q ht (x:=a.var) (hre X hXm a.var (by simp only[occE,Xh,Xj];exact .inr ⟨a,X3 ha,rfl⟩));have s5:=F9e (v:=toV ns a.var) (H:=H5) (b:=ka) (by rw[k5 ka cn];exact crl) hMk;rw[show(⟨a.role,toV ns a.var⟩:Ag)=fA ns a from rfl,C8z ha]at s5
   obtain⟨H6,hH6⟩:∃H6,H6=Xd H5 ka (A0l eAg tyA (mixL (fA ns) X.args (k+1))):=⟨_,rfl⟩
   rw[<-hH6]at s5;have w2:IntKind.i64.wrap ((k:Int)+1)=((k+1:Nat):Int):=A0k rfl (by omega);rw[era];refine A0a A0g ?_;simp -implicitDefEqProofs [SRi,hlk];refine A0a A0g ?_;simp -implicitDefEqProofs;refine A0q (λc:RnC=>SRi tn L.length i nx X.args.length (.row 3 0 L.length 3) ra ⟨c.H,c.nx,k⟩) (λc=>H6=c.H/\ny+1=c.nx) (λ_=>rfl) ?_ ?_
   .refine A0j ?_;refine A0a A0g ?_;simp -implicitDefEqProofs [b1,b2,u2];refine A0e A0g ?_;simp -implicitDefEqProofs [<-hH5,b3,ia,la,b1,s5];exact Abs.Next.mk ⟨H6,ny+1,0⟩ ⟨rfl,rfl⟩ (A0d (by simp -implicitDefEqProofs [SRi,era]))
   .rintro⟨_,_,_⟩ ⟨e1,e2⟩;simp only at e1 e2;subst e1 e2;refine A0e A0g ?_;simp -implicitDefEqProofs [SRi,w2];refine Abs.Next.mk ⟨H6,ny+1,k+1⟩ ⟨⟨λc hc=>?_,.inr ?_,by show ka<ny+1;omega,hlk⟩,by show X.args.length-(k+1)<X.args.length-k;omega⟩ (A0d (by simp -implicitDefEqProofs [SRi,era]))
    .show Xc H6 c=_;rw[hH6,A0f,if_neg (by omega),k5 c (by omega)];exact ck c hc
    .show Xc H6 ka=_;rw[hH6,A0f,if_pos rfl,k5 ka cn,crl];rfl
  rintro⟨Hz,nz,_⟩ ⟨gk,gr,gn⟩;simp only at gk gr gn
  have kz:∀c,c<nx+1->Xc Hz c=Xc H3 c:=λc h=>by rw[gk c (by omega),bk c (by omega)]
  have p0:Xc Hz 0=some (mRw (toV ns m.top) (toV ns m.index) (.t tr) (.t tc)):=by rw[kz 0 (by omega),k3 0 (by omega)];exact w0
  have p1:Xc Hz 1=some (mRw 0 0 (.t nilS) (.t nilS)):=by rw[kz 1 (by omega),k3 1 (by omega)];exact w1
  have p3:Xc Hz 3=some (A0l eEC tyEp (mixL g L i)):=by rw[kz 3 (by omega),k3 3 (by omega)];exact wrl
  have p4:Xc Hz nx=some (.cells tyEp [.t (sv X.pred),.t (iv X.label),.t (A1a eAg X.args)]):=by rw[kz nx (by omega)];exact e3
  have gr':A0z eAg tyA Hz ka (X.args.map (fA ns)):=gr
  obtain⟨Hy,hHy⟩:∃Hy,Hy=A5u Hz [ka]:=⟨_,rfl⟩
  have hfr:frzP Hz [ka] ra = .t (A1a eAg (X.args.map (fA ns))):=by
   have e:rowP eAg ka X.args=rowP eAg ka (X.args.map (fA ns)):=by cases X.args<;>simp[rowP]
   rw[hra,e];exact B3d gr' (by simp)
  have hfo:frzP Hz [ka] (.row 3 0 L.length 3) = .row 3 0 L.length 3:=by
   have:=B8u (e:=eEC) (ty:=tyEp) (H:=Hz) (F:=[ka]) (b:=3) (l:=mixL g L i) (.inr p3) (by simp;omega);rw[A6q eEC 3 _ hMne,hMl]at this;exact this
  refine MC.sub (s':=⟨[(8,.t (A1a eAg (X.args.map (fA ns)))),(7,.ptr nx 0),(6,.t (iv (i:Int))),(31,.t (iv (i:Int))),(30,.t (iv (L.length:Int))),(29,.row 3 0 L.length 3),(5,.row 3 0 L.length 3),(4,.ptr 1 0),(2,.ptr 0 0),(1,.t tn)],Hy,nz,99⟩) (by rw[hHy];exact A5i [ka] (by simp -implicitDefEqProofs [fz_t,B1t,hfr,hfo])) rfl ?_
  have f0:Xc Hy 0=some (mRw (toV ns m.top) (toV ns m.index) (.t tr) (.t tc)):=by
   rw[hHy,A1b (by simp;omega) p0];rfl
  have f1:Xc Hy 1=some (mRw 0 0 (.t nilS) (.t nilS)):=by
   rw[hHy,A1b (by simp;omega) p1];rfl
  have f3:Xc Hy 3=some (A0l eEC tyEp (mixL g L i)):=by
   rw[hHy,A1b (by simp;omega) p3,D9w]
  have f4:Xc Hy nx=some (.cells tyEp [.t (sv X.pred),.t (iv X.label),.t (A1a eAg X.args)]):=by
   rw[hHy,A1b (by simp;omega) p4];rfl
  have q0:A0t false 1 Hy (.ptr nx 0)=some (.t (sv X.pred)):=by simp only[A0t,f4];rfl
  have q1:A0t false 1 Hy (.ptr nx 1)=some (.t (iv X.label)):=by simp only[A0t,f4];rfl
  obtain⟨A,ia,la⟩:=E4q ht (x:=X.label) (hre X hXm X.label (by simp[occE]));have s7:=F0q (e:=eEC) (n:=3) (x:=EC.of (mapE (toV ns) X)) (p:=.t (.ag [sv X.pred,iv (toV ns X.label),A1a eAg (X.args.map (fA ns))])) f3 (i:=i) (by rw[hMl];exact hlt) rfl (G2v _ _ _)
  have hgs:(mixL g L i).set i (EC.of (mapE (toV ns) X))=mixL g L (i+1):=by
   have:=C8z (f:=g) hLi;rw[<-this,hg];rfl
  rw[hgs]at s7;refine A0e A0g ?_;simp -implicitDefEqProofs [q0,q1,ia,la,bd_E3,j1,s7,-evalK_build];refine Abs.Next.mk ⟨Xd Hy 3 (A0l eEC tyEp (mixL g L (i+1))),nz,0⟩ ⟨?_,?_,.inr ?_,by show 3<nz;omega⟩ (A0d (by simp -implicitDefEqProofs))
  .show Xc (Xd Hy 3 _) 0=_;rw[A0f,if_neg (by omega)];exact f0
  .show Xc (Xd Hy 3 _) 1=_;rw[A0f,if_neg (by omega)];exact f1
  .show Xc (Xd Hy 3 _) 3=_;rw[A0f,if_pos rfl,f3];rfl
 rintro⟨Hx,nx,_⟩ ⟨w0,w1,wr,wn⟩;simp only at w0 w1 wr wn;obtain⟨⟨cr,D,dn⟩,⟨hcr,hdn,dat,dk,df⟩,dc⟩:=D6w (q:=q) (H:=Hx) (nx:=nx) (l:=m.cons) (by omega);simp only at hcr hdn dat dk df dc;subst hcr hdn;rw[<-htc]at dc;obtain⟨td,td1,td2⟩:=hAt dc df;have CD:Ctx Tryz.prog (G q) _:=A0s.nil.ctxH (A0v.cons td2 .nil) mixed;have lc4:=(mR_l w0).2.1;refine A0a CD ?_;simp -implicitDefEqProofs [lc4,td1]
 obtain⟨kc,hkc⟩:∃kc,kc=nx+1:=⟨_,rfl⟩
 rw[<-hkc]at dat;have lnC:A6t (rowP eQq kc m.cons)=some (.t (iv (m.cons.length:Int))):=B9j eQq kc m.cons
 obtain⟨rc,hrc⟩:∃rc,rc=rowP eQq kc m.cons:=⟨_,rfl⟩
 rw[<-hrc]at lnC
 obtain⟨rwE,hrwE⟩:∃rwE,rwE=rowP eEC 3 L:=⟨_,rfl⟩
 refine A0q (λc:RnC=>⟨[(11,rc),(5,rwE),(4,.ptr 1 0),(2,.ptr 0 0),(1,.t tn)],c.H,c.nx,99⟩) (λc=>(∀c',c'<kc->Xc c.H c'=Xc D c')/\A0z eQq tyQe c.H kc (m.cons.map (mapQ (toV ns)))/\kc<c.nx) (λ_=>rfl) ?_ ?_
 .refine A0a A0g ?_;simp -implicitDefEqProofs [<-hkc,<-hrc,<-hrwE,lnC];refine A0j ?_
  refine A0n (SRqq tn m.cons.length rwE rc) (λc=>m.cons.length-c.i) (λc=>(∀c',c'<kc->Xc c.H c'=Xc D c')/\A0z eQq tyQe c.H kc (mixL (mapQ (toV ns)) m.cons c.i)/\kc<c.nx/\c.i<=m.cons.length)
   ⟨D,kc+1,0⟩ (λ_=>rfl) ⟨λ_ _=>rfl,by rw[C3a];exact dat,Xi _,Xx _⟩ ?_ rfl ?_
  .rw[hkc];exact A0d (by simp -implicitDefEqProofs [SRqq])
  rintro⟨Hc,ny,k⟩ ⟨ck,cr,cn,ci⟩;simp only at ck cr cn ci;by_cases hlk:k<m.cons.length
  rotate_left
  .have ek:k=m.cons.length:=by omega
   subst ek;rw[C9a]at cr;refine A0e A0g ?_;simp -implicitDefEqProofs [SRqq];exact Abs.Next.mk ⟨Hc,ny,0⟩ ⟨ck,cr,cn⟩ (A0d (by simp -implicitDefEqProofs))
  obtain⟨a,ha⟩:∃a,m.cons[k]?=some a:=⟨_,Xn hlk⟩
  have hMk:(mixL (mapQ (toV ns)) m.cons k)[k]?=some a:=by rw[D6x hlk];exact ha
  have hNl:=C8y (mapQ (toV ns)) m.cons k;have crl:=cr.resolve_left (λe=>by rw[e]at hNl;simp at hNl;omega)
  have erc:rc = .row kc 0 m.cons.length 2:=by rw[hrc];exact A6q eQq kc m.cons (λe=>by rw[e]at hlk;simp at hlk)
  have b1:A2e 2 (.row kc 0 m.cons.length 2) (.t (iv (k:Int)))=some (.ptr kc (k*2)):=B2m (e:=eQq) (b:=kc) ha;have b2:A0t true 2 Hc (.ptr kc (k*2))=some (.t (.ag [iv a.high,iv a.low])):=D9v (e:=eQq) crl hMk rfl;have u2:∀x y,A0x 2 ((ny,.cells tyQe [x,y])::Hc) (.ptr ny 0) (.t (.ag [iv a.high,iv a.low]))=some ((ny,.cells tyQe [.t (iv a.high),.t (iv a.low)])::Hc):=λx y=>st2 ny x y _ _ tyQe Hc
  obtain⟨H5,hH5⟩:∃H5:Heap,H5=(ny,.cells tyQe [.t (iv a.high),.t (iv a.low)])::Hc:=⟨_,rfl⟩
  rw[<-hH5]at u2
  have k5:∀c,c<ny->Xc H5 c=Xc Hc c:=λc h=>by rw[hH5,look_cons,if_neg (by omega)]
  obtain⟨b3,b4⟩:=A5m (H:=H5) (b:=ny) (ty:=tyQe) (p0:=.t (iv a.high)) (p1:=.t (iv a.low)) (by rw[hH5,look_cons,if_pos rfl]);have hai:=hco a (X3 ha);obtain⟨A1,ia1,la1⟩:=E4q ht (x:=a.high) (hai _ (by simp[occC]));obtain⟨A2,ia2,la2⟩:=E4q ht (x:=a.low) (hai _ (by simp[occC]));have s5:=F0q (e:=eQq) (n:=2) (H:=H5) (b:=kc) (x:=mapQ (toV ns) a) (p:=.t (.ag [iv (toV ns a.high),iv (toV ns a.low)])) (by rw[k5 kc cn];exact crl) (i:=k) (by rw[hNl];exact hlk) rfl rfl;rw[C8z ha]at s5
  obtain⟨H6,hH6⟩:∃H6,H6=Xd H5 kc (A0l eQq tyQe (mixL (mapQ (toV ns)) m.cons (k+1))):=⟨_,rfl⟩
  rw[<-hH6]at s5;have bdm:∀(Φ:A0u) (H:Heap) (nx:Nat),A0i Φ H nx (.build [(0,1),(1,1)] [.int .i64 0,.int .i64 0] [0,1]) [.t (iv (toV ns a.high)),.t (iv (toV ns a.low))]=some (.t (.ag [iv (toV ns a.high),iv (toV ns a.low)]),H,nx):=λ_ _ _=>rfl;have w2:IntKind.i64.wrap ((k:Int)+1)=((k+1:Nat):Int):=A0k rfl (by omega);rw[erc];refine A0a A0g ?_;simp -implicitDefEqProofs [SRqq,hlk];refine A0a A0g ?_;simp -implicitDefEqProofs;refine A0q (λc:RnC=>SRqq tn m.cons.length rwE rc ⟨c.H,c.nx,k⟩) (λc=>H6=c.H/\ny+1=c.nx) (λ_=>rfl) ?_ ?_
  .refine A0j ?_;refine A0a A0g ?_;simp -implicitDefEqProofs [b1,b2,u2];refine A0e A0g ?_;simp -implicitDefEqProofs [<-hH5,b3,b4,ia1,la1,ia2,la2,b1,bdm,s5,-evalK_build];exact Abs.Next.mk ⟨H6,ny+1,0⟩ ⟨rfl,rfl⟩ (A0d (by simp -implicitDefEqProofs [SRqq,erc]))
  .rintro⟨_,_,_⟩ ⟨e1,e2⟩;simp only at e1 e2;subst e1 e2;refine A0e A0g ?_;simp -implicitDefEqProofs [SRqq,w2];refine Abs.Next.mk ⟨H6,ny+1,k+1⟩ ⟨⟨λc hc=>?_,.inr ?_,by show kc<ny+1;omega,hlk⟩,by show m.cons.length-(k+1)<m.cons.length-k;omega⟩ (A0d (by simp -implicitDefEqProofs [SRqq,erc]))
   .show Xc H6 c=_;rw[hH6,A0f,if_neg (by omega),k5 c (by omega)];exact ck c hc
   .show Xc H6 kc=_;rw[hH6,A0f,if_pos rfl,k5 kc cn,crl];rfl
 rintro⟨Hz,nz,_⟩ ⟨gk,gr,gn⟩;simp only at gk gr gn
 have kz:∀c,c<nx->Xc Hz c=Xc Hx c:=λc h=>by rw[gk c (by omega),dk c h]
 have p0:Xc Hz 0=some (mRw (toV ns m.top) (toV ns m.index) (.t tr) (.t tc)):=by rw[kz 0 (by omega)];exact w0
 have p1:Xc Hz 1=some (mRw 0 0 (.t nilS) (.t nilS)):=by rw[kz 1 (by omega)];exact w1
 have p3:A0z eEC tyEp Hz 3 (L.map g):=wr.imp id λe=>by rw[kz 3 wn];exact e
 have eL:rwE=rowP eEC 3 (L.map g):=by rw[hrwE];cases L<;>simp[rowP]
 have eC:rc=rowP eQq kc (m.cons.map (mapQ (toV ns))):=by rw[hrc];cases m.cons<;>simp[rowP]
 have s3:=G2p p0 (x:=rowP eEC 3 (L.map g)) (cs_R _ _ _)
 obtain⟨H7,hH7⟩:∃H7,H7=Xd Hz 0 (mRw (toV ns m.top) (toV ns m.index) (rowP eEC 3 (L.map g)) (.t tc)):=⟨_,rfl⟩
 rw[<-hH7]at s3
 have v0:Xc H7 0=some (mRw (toV ns m.top) (toV ns m.index) (rowP eEC 3 (L.map g)) (.t tc)):=by rw[hH7,A0f,if_pos rfl,p0];rfl
 have s4:=G2q v0 (x:=rowP eQq kc (m.cons.map (mapQ (toV ns)))) (cs_R _ _ _)
 obtain⟨H8,hH8⟩:∃H8,H8=Xd H7 0 (mRw (toV ns m.top) (toV ns m.index) (rowP eEC 3 (L.map g)) (rowP eQq kc (m.cons.map (mapQ (toV ns))))):=⟨_,rfl⟩
 rw[<-hH8]at s4
 have k8:∀c,c≠0->Xc H8 c=Xc Hz c:=λc h=>by rw[hH8,A0f,if_neg h,hH7,A0f,if_neg h]
 have u0:Xc H8 0=some (mRw (toV ns m.top) (toV ns m.index) (rowP eEC 3 (L.map g)) (rowP eQq kc (m.cons.map (mapQ (toV ns))))):=by rw[hH8,A0f,if_pos rfl,v0];rfl
 have u1:Xc H8 1=some (mRw 0 0 (.t nilS) (.t nilS)):=by rw[k8 1 (by omega)];exact p1
 have u3:A0z eEC tyEp H8 3 (L.map g):=p3.imp id λe=>by rw[k8 3 (by omega)];exact e
 have uc:A0z eQq tyQe H8 kc (m.cons.map (mapQ (toV ns))):=gr.imp id λe=>by rw[k8 kc (by omega)];exact e
 refine A0a A0g ?_;simp -implicitDefEqProofs [eL,eC,s3,s4];have all:=(mR_l u0).2.2;have cse:=cs_M (toV ns m.top) (toV ns m.index) 3 kc (L.map g) (m.cons.map (mapQ (toV ns)))
 obtain⟨ge,hge⟩:∃g',g'=agOf [.t (iv (toV ns m.top)),.t (iv (toV ns m.index)),.t nilS,rowP eEC 3 (L.map g),rowP eQq kc (m.cons.map (mapQ (toV ns)))]:=⟨_,rfl⟩
 rw[<-hge]at all cse;have s9:=G2r u1 (p:=ge) cse
 obtain⟨H9,hH9⟩:∃H9,H9=Xd H8 1 (mRw (toV ns m.top) (toV ns m.index) (rowP eEC 3 (L.map g)) (rowP eQq kc (m.cons.map (mapQ (toV ns))))):=⟨_,rfl⟩
 rw[<-hH9]at s9
 have r1:Xc H9 1=some (mRw (toV ns m.top) (toV ns m.index) (rowP eEC 3 (L.map g)) (rowP eQq kc (m.cons.map (mapQ (toV ns))))):=by rw[hH9,A0f,if_pos rfl,u1];rfl
 have r3:A0z eEC tyEp H9 3 (L.map g):=u3.imp id λe=>by rw[hH9,A0f,if_neg (by omega)];exact e
 have rcc:A0z eQq tyQe H9 kc (m.cons.map (mapQ (toV ns))):=uc.imp id λe=>by rw[hH9,A0f,if_neg (by omega)];exact e
 refine A0a A0g ?_;simp -implicitDefEqProofs [all,s9]
 obtain⟨Hv,hHv⟩:∃Hv,Hv=A5u H9 [3,kc]:=⟨_,rfl⟩
 refine MC.sub (s':=⟨[(4,.ptr 1 0)],Hv,nz,99⟩) (by rw[hHv];exact A5i [3,kc] (by simp -implicitDefEqProofs [B1t])) rfl ?_
 have v1:Xc Hv 1=some (mRw (toV ns m.top) (toV ns m.index) (.t (A1a eEC (L.map g))) (.t (A1a eQq (m.cons.map (mapQ (toV ns)))))):=by
  rw[hHv,A1b (by simp;omega) r1];show some (Row.cells tyMr [.t (iv (toV ns m.top)),.t (iv (toV ns m.index)),.t nilS,frzP H9 [3,kc] (rowP eEC 3 (L.map g)),frzP H9 [3,kc] (rowP eQq kc (m.cons.map (mapQ (toV ns))))])=_;rw[B3d r3 (by simp),B3d rcc (by simp)];rfl
 have al2:=(mR_l v1).2.2
 have eLg:L.map g=(m.rels.map (mapE (toV ns))).map EC.of:=by
  rw[hL,X4,X4]
  exact Yr λx _=>by rw[hg];rfl
 rw[show agOf [.t (iv (toV ns m.top)),.t (iv (toV ns m.index)),.t nilS,.t (A1a eEC (L.map g)),.t (A1a eQq (m.cons.map (mapQ (toV ns))))] = .t (.ag [iv (toV ns m.top),iv (toV ns m.index),nilS,A1a eEC (L.map g),A1a eQq (m.cons.map (mapQ (toV ns)))])from rfl]at al2
 have hfin:encM ⟨toV ns m.top,toV ns m.index,[],m.rels.map (mapE (toV ns)),m.cons.map (mapQ (toV ns))⟩=[iv (toV ns m.top),iv (toV ns m.index),nilS,A1a eEC (L.map g),A1a eQq (m.cons.map (mapQ (toV ns)))]:=by
  rw[eLg];rfl
 rw[hfin];refine A0e A0g ?_;simp -implicitDefEqProofs [al2]
def renM (ns:List Int) (m:Mr):Mr:=⟨toV ns m.top,toV ns m.index,[],m.rels.map (mapE (toV ns)),m.cons.map (mapQ (toV ns))⟩
structure G2w (m:Mr) (ns:List Int):Prop where
 v:m.vars=[]
 top:inR ns.length m.top
 idx:inR ns.length m.index
 re:∀x∈m.rels,inE ns.length x
 co:∀c∈m.cons,inQ ns.length c
 r1:m.rels.length<=100000
 r2:∀x∈m.rels,x.args.length<=100000
 c1:m.cons.length<=100000
noncomputable def gRn (m:Mr) (tn:T) (ns:List Int):List T->Option T:=λargs=>open Classical in if args=[.ag (encM m),tn]then some (.ag (encM (renM ns m)))else none
theorem hRn {m:Mr} {tn:T} {ns:List Int} (h:G2w m ns) (ht:IsS eInt tn ns):GOK Tryz.prog (G q) 57 (gRn m tn ns):=λargs r hr=>by
 unfold gRn at hr;split at hr
 .rename_i e;subst e;injection hr with hr;subst hr;exact D3l h.v ht h.top h.idx h.re h.co h.r1 h.r2 h.c1
 .cases hr
theorem G2x {m:Mr} {tn:T} {ns:List Int}:gRn m tn ns [.ag (encM m),tn]=some (.ag (encM (renM ns m))):=by
 unfold gRn;rw[if_pos rfl]
theorem F0r:∀(k:Nat) (l:List Ag) (a:Ag),a∈plA k l->(k:Int)<=a.var/\a.var<((k+l.length:Nat):Int)
 | k,[],a,h=>by cases h
 | k,b::l,a,h=>by
  rw[plA]at h;rcases Xh.1 h with rfl | h
  .simp only[Xm];constructor<;>omega
  .have:=F0r (k+1) l a h;simp only[Xm];omega
theorem E0z:∀(k:Nat) (l:List Ep) (x:Ep),x∈plEs k l->∀v∈occE x,(k:Int)<=v/\v<((k+nE l:Nat):Int)
 | k,[],x,h=>by cases h
 | k,y::l,x,h=>by
  rw[plEs]at h;rw[nE];intro v hv;rcases Xh.1 h with rfl | h
  .simp only[plE,occE,Xh,Xj]at hv;rcases hv with rfl | ⟨a,ha,rfl⟩
   .omega
   .have:=F0r (k+1) y.args a ha;omega
  .have:=E0z (k+(1+y.args.length)) l x h v hv;omega
theorem E1a:∀(k:Nat) (l:List Qq) (c:Qq),c∈plQs k l->∀v∈occC c,(k:Int)<=v/\v<((k+2*l.length:Nat):Int)
 | k,[],x,h=>by cases h
 | k,y::l,x,h=>by
  rw[plQs]at h;intro v hv;rcases Xh.1 h with rfl | h
  .simp only[occC,Xh,Yi,or_false]at hv;simp only[Xm];rcases hv with rfl | rfl<;>omega
  .have:=E1a (k+2) l x h v hv;simp only[Xm];omega
theorem C9b (m:Mr):(occ m).length=2+nE m.rels+2*m.cons.length:=by
 unfold occ;simp only[Xm,Xk];rw[E3v,C8k];omega
theorem F0s {m:Mr} {ns:List Int} (h:m=plM m) (hl:ns.length=(occ m).length) (hn:ns.length<=100000):G2w m ns:=by
 have e:=C9b m;have e1:m.top=0:=congrArg Mr.top h;have e2:m.index=1:=congrArg Mr.index h;have e3:m.vars=[]:=congrArg Mr.vars h;have e4:m.rels=plEs 2 m.rels:=congrArg Mr.rels h;have e5:m.cons=plQs (2+nE m.rels) m.cons:=congrArg Mr.cons h
 have hE:∀l:List Ep,l.length<=nE l/\∀x∈l,x.args.length<=nE l:=λl=>by
  induction l with
  | nil=>exact⟨Xe _,λx hx=>by cases hx⟩
  | cons y l ih=>
   rw[nE];refine⟨by rw[Xm];omega,λx hx=>?_⟩;rcases Xh.1 hx with rfl | hx
   .omega
   .have:=ih.2 x hx;omega
 have hr:=hE m.rels;refine⟨e3,⟨by omega,by omega⟩,⟨by omega,by omega⟩,λx hx v hv=>?_,λc hc v hv=>?_,by omega,λx hx=>by have:=hr.2 x hx;omega,by omega⟩
 .rw[e4]at hx;have:=E0z 2 m.rels x hx v hv;exact⟨by omega,by omega⟩
 .rw[e5]at hc;have:=E1a (2+nE m.rels) m.cons c hc v hv;exact⟨by omega,by omega⟩
def gNb:List T->Option T
 | [.v (.string s)]=>if s.size<=1000000000 then some (numT s.data.toList)else none
 | _=>none
theorem hNb:GOK Tryz.prog (G q) 91 gNb:=λargs r hr=>by
 unfold gNb at hr;split at hr
 .rename_i s;split at hr
  .rename_i h;injection hr with hr;subst hr;exact D5f s (by omega)
  .cases hr
 .cases hr
theorem G2y {s:ByteArray} (h:s.size<=1000000000):gNb [sv s]=some (numT (wb s)):=if_pos h
def nmL (l:List Vr) (i:Nat):List Int:=(l.take i).map nmV++Xu (l.length-i) 0
theorem F9f (l:List Vr) (i:Nat) (h:i<=l.length):(nmL l i).length=l.length:=by
 unfold nmL;rw[Xk,Xg,Xr,Yv];omega
theorem F9g {l:List Vr} {i:Nat} {x:Vr} (h:l[i]?=some x):(nmL l i).set i (nmV x)=nmL l (i+1):=by
 have hi:i<l.length:=(Xq.1 h).1;unfold nmL;rw[Ys _ _ (by rw[Xg,Xr];omega),Xg,Xr,Yk (by omega),Xo,show l.length-i=(l.length-(i+1))+1 by omega,List.replicate_succ,Yl,Xt,h];simp
theorem F4u (l:List Vr):nmL l 0=Xu l.length 0:=by simp[nmL]
theorem F9h (l:List Vr):nmL l l.length=l.map nmV:=by simp[nmL]
theorem F0t {l:List Vr} {i:Nat} {x:Vr} (h:l[i]?=some x) (hx:(numS (wb x.digits)).2≠0):B7n l=none:=by
 unfold B7n;rw[if_neg];intro ha;have:=Yn.1 ha x (X3 h);exact hx (of_decide_eq_true this)
theorem F4v {l:List Vr} (h:∀x∈l.take l.length,(numS (wb x.digits)).2=0):B7n l=some (l.map nmV):=by
 unfold B7n;rw[if_pos];refine Yn.2 λx hx=>decide_eq_true (h x ?_);rw[Yb];exact hx
def mpS (l:List Vr) (ns:List Int):List (Key×Value):=ns.map λn=>(Key.n [n],Value.string (A3p l n))
theorem F0u {l:List Vr} {v:Int}:∀{ns:List Int},getK (mpS l ns) (.n [v])=if v∈ns then some (.string (A3p l v))else none
 | []=>rfl
 | a::r=>by
  have ih:=F0u (l:=l) (v:=v) (ns:=r);show(if Key.n [a]=Key.n [v]then some (Value.string (A3p l a))else getK (mpS l r) (.n [v]))=_;by_cases h:a=v
  .subst h;rw[if_pos rfl,if_pos (by simp)]
  .rw[if_neg (by simpa using h),ih];by_cases hm:v∈r
   .rw[if_pos hm,if_pos (by simp[hm])]
   .rw[if_neg hm,if_neg (by simp only[Xh,not_or];exact⟨λe=>h e.symm,hm⟩)]
theorem F0v {l:List Vr} {v:Int}:∀{ns:List Int},setK (mpS l ns) (.n [v]) (.string (A3p l v))=if v∈ns then mpS l ns else mpS l (ns++[v])
 | []=>rfl
 | a::r=>by
  have ih:=F0v (l:=l) (v:=v) (ns:=r);show(if Key.n [a]=Key.n [v]then(Key.n [a],Value.string (A3p l v))::mpS l r else(Key.n [a],Value.string (A3p l a))::setK (mpS l r) (.n [v]) (.string (A3p l v)))=_;by_cases h:a=v
  .subst h;rw[if_pos rfl,if_pos (by simp)];rfl
  .rw[if_neg (by simpa using h),ih];by_cases hm:v∈r
   .rw[if_pos hm,if_pos (by simp[hm])];rfl
   .rw[if_neg hm,if_neg (by simp only[Xh,not_or];exact⟨λe=>h e.symm,hm⟩)];rfl
theorem F9i (l:List Vr) (ns:List Int):(mpS l ns).length=ns.length:=by simp[mpS]
theorem E1b:∀(r acc:List Vr),misA acc r=false->∀x∈r,∀y∈acc,nmV y=nmV x->y.sort=x.sort
 | [],_,_,x,hx,_,_,_=>by cases hx
 | a::r,acc,h,x,hx,y,hy,hn=>by
  rw[misA,Yw]at h;rcases Xh.1 hx with rfl | hx
  .have h1:=Yo.1 h.1 y hy;by_cases he:y.sort=x.sort
   .exact he
   .exact absurd (by simp[hn,he]) h1
  .exact E1b r (acc++[a]) h.2 x hx y (by simp[hy]) hn
theorem C9c:∀(a b acc:List Vr),misA acc (a++b)=(misA acc a||misA (acc++a) b)
 | [],b,acc=>by simp[misA]
 | x::a,b,acc=>by
  rw[List.cons_append,misA,misA,C9c a b (acc++[x]),Bool.or_assoc,Xz];rfl
theorem F0w {l:List Vr} {i:Nat} {n:Int} (h:n∈(l.take i).map nmV):∃y∈l.take i,nmV y=n/\A3p l n=y.sort:=by
 obtain⟨z,hz,hzn⟩:=Xj.1 h
 have hs:((l.take i).find? λv=>decide (nmV v=n)).isSome=true:=by
  rw[List.find?_isSome];exact⟨z,hz,decide_eq_true hzn⟩
 obtain⟨y,hy⟩:=Option.isSome_iff_exists.1 hs;have hp:=List.find?_some hy;refine⟨y,Yx hy,of_decide_eq_true hp,?_⟩
 have e:(l.find? λv=>decide (nmV v=n))=some y:=by
  rw[<-Ya i l,Yy,hy];rfl
 unfold A3p;rw[e];rfl
theorem F0x {l:List Vr} {i:Nat} {x:Vr} (hx:l[i]?=some x) (h:nmV x∉(l.take i).map nmV):A3p l (nmV x)=x.sort:=by
 have hi:i<l.length:=(Xq.1 hx).1
 have e0:l.drop i=x::l.drop (i+1):=by rw[Xy hi,(Xq.1 hx).2]
 have en:(l.take i).find? (λv=>decide (nmV v=nmV x))=none:=by
  rw[List.find?_eq_none];intro y hy hd;exact h (Xj.2 ⟨y,hy,of_decide_eq_true hd⟩)
 have e:(l.find? λv=>decide (nmV v=nmV x))=some x:=by
  rw[<-Ya i l,Yy,en,e0,List.find?_cons_of_pos (by simp)];rfl
 unfold A3p;rw[e];rfl
theorem E1c:∀(r acc:List Vr),misA acc r=false->∀z∈r,∀y∈r,nmV z=nmV y->z.sort=y.sort
 | [],_,_,z,hz,_,_,_=>by cases hz
 | a::r,acc,h,z,hz,y,hy,e=>by
  have h0:=h;rw[misA,Yw]at h0;have key:∀w∈r,nmV a=nmV w->a.sort=w.sort:=λw hw ew=>E1b r (acc++[a]) h0.2 w hw a (by simp) ew;rcases Xh.1 hz with e1 | hz'
  .rcases Xh.1 hy with e2 | hy'
   .rw[e1,e2]
   .rw[e1]at e ⊢;exact key y hy' e
  .rcases Xh.1 hy with e2 | hy'
   .rw[e2]at e ⊢;exact(key z hz' e.symm).symm
   .exact E1c r (acc++[a]) h0.2 z hz' y hy' e
theorem E1d {l:List Vr} {i:Nat} {x:Vr} (hx:l[i]?=some x) (h:misA [] (l.take i)=false):misA [] (l.take (i+1))=(decide (nmV x∈(l.take i).map nmV) && !decide (A3p l (nmV x)=x.sort)):=by
 rw[Xt,hx,C9c,h,Bool.false_or,Xp];show((l.take i).any (λy=>decide (nmV y=nmV x) && !decide (y.sort=x.sort))||false)=_;rw[Bool.or_false];by_cases hm:nmV x∈(l.take i).map nmV
 .rw[decide_eq_true hm,Yp];obtain⟨y,hy,hn,hs⟩:=F0w hm;rw[hs];by_cases hd:y.sort=x.sort
  .rw[decide_eq_true hd];refine Yo.2 λz hz=>?_;by_cases hzn:nmV z=nmV x
   .have:=E1c _ _ h z hz y hy (hzn.trans hn.symm);simp[hzn,this,hd]
   .simp[hzn]
  .rw[decide_eq_false hd];exact List.any_eq_true.2 ⟨y,hy,by simp[hn,hd]⟩
 .rw[decide_eq_false hm,Yz];refine Yo.2 λy hy=>?_;have:¬nmV y=nmV x:=λe=>hm (Xj.2 ⟨y,hy,e⟩);simp[this]
theorem F0y {l:List Vr} {i:Nat} (h:misA [] (l.take i)=true):misA [] l=true:=by
 have:=C9c (l.take i) (l.drop i) [];rw[Ya,h,Bool.true_or]at this;exact this
end Go.Proofs.YtmgjopafgboljaaGreatDoor
namespace Go.Abs
open Go
section
variable {P : Program} {G : A1c} {B N : Nat} {Φ : A0u} {Q : Exit -> A0c -> Prop} {s : A0c}
structure G2z (kk:KK) (es:List (Key×Value)) (arr:Array MapEntry) (c:Nat):Prop where
 eq:arr.toList.map (λe=>(e.key,e.val))=es.map (λe=>(e.1.val kk,e.2))
 ok:∀e∈es,e.1.ok kk=true
 nodup:(es.map (·.1)).Nodup
 born:(arr.toList.map (·.born)).Nodup
 lt:∀e∈arr.toList,e.born<c
theorem E4r {b:Nat} {kk:KK} {es:List (Key×Value)} {code:Code} (hl:look s.H b=some (.map kk es))
  (h:∀l arr c,G2z kk es arr c->A4y P G B code Q { s with H:=upd s.H b (.blk (some l) (.map arr c)) }):A4y P G B code Q s:=λL a w hi=>by
 obtain⟨arr,c,hh,h1,h2,h3,h4,h5⟩:=hi.heap.rep b _ hl;obtain⟨k1,k2,k3⟩:=A4u (w':=w) (r:=.blk (some (L.μ b)) (.map arr c)) hi.heap (A3v.refl w) hl rfl (λ_ _=>rfl) (A1y.refl w) (λ_=>⟨λx hx=>(Option.some.inj hx),hh⟩);exact wp_mono (h (L.μ b) arr c ⟨h1,h2,h3,h4,h5⟩ L a w ⟨k1,hi.nx,hi.base,hi.size,hi.defers,hi.env⟩) λ_ _ _ hp=>Post.later k3 (λ_ _=>rfl) hp
theorem F9j {b:Nat} {kk:KK} {es:List (Key×Value)} {M:A0p} (hl:look s.H b=some (.map kk es))
  (h:∀l arr c,G2z kk es arr c->MC P G B N M Q { s with H:=upd s.H b (.blk (some l) (.map arr c)) }):MC P G B N M Q s:=
 λc hc hn=>E4r hl λl arr k hm=>h l arr k hm c hc hn
theorem E4s {ops:Array Oper} {Q:A0c->Prop} {o:Oper} {rest:List Oper} {R:PV->Heap->Nat->Prop} (hw:s.wants ops o=some true) (hd:∀k,o.dst=some k->k<s.n)
  (ho:∀L a w,Interp P G B L s a w->o.wp P a w (λa' w'=>∃r H' v L',R r H' L'.nx/\a'=a.put o.dst v/\RepV P L' w' r v/\A1o P G L' H' w'/\Mono L w L' w'/\Ext L s.H w L' H' w') (λ_ _ _=>False))
  (h:∀r H' nx',R r H' nx'->AOps P G B ops rest Q (({ s with H:=H',nx:=nx' }:A0c).put o.dst r)):AOps P G B ops (o::rest) Q s:=λL a w hi=>by
 unfold wpList;rw[if_pos (hi.wants hw)];refine .inl (A2j ?_ (λ_ _ _ h=>h.elim) (ho L a w hi));rintro a' w' ⟨r,H',v,L',hR,rfl,hr,hok,hm,hx⟩;have hp:=h r H' _ hR L' _ w' (B6m hi hd hr hok hm);rw[B0u]at hp
 have:∀(l:List Oper) (a:Act) (w2:World),wpList P ops (Post P G B (λe s'=>e = .normal/\Q s') L' H' w') l a w2->wpList P ops (Post P G B (λe s'=>e = .normal/\Q s') L s.H w) l a w2:=by
  have hq:∀e a w2,Post P G B (λe s'=>e = .normal/\Q s') L' H' w' e a w2->Post P G B (λe s'=>e = .normal/\Q s') L s.H w e a w2:=by
   rintro e a w2 ⟨s2,L2,q,hi2,hx2,hb2⟩;exact⟨s2,L2,q,hi2,hx.trans hx2,λb hb=>(hb2 b hb).trans (hm.μ b (Yh hb hi.base))⟩
  intro l
  induction l with
  | nil=>intro a w2 h;exact hq _ _ _ h
  | cons o l ih=>
   intro a w2 h;unfold wpList at h ⊢;split
   .rename_i hw;rw[if_pos hw]at h;rcases h with h | ⟨h1,a0,w0,h2⟩
    .exact .inl (A2j ih hq h)
    .exact .inr ⟨h1,a0,w0,hq _ _ _ h2⟩
   .rename_i hw;rw[if_neg hw]at h;exact ih _ _ h
 exact this _ _ _ hp
theorem F0z {o:Oper} {x:Operand} {i b l since last c:Nat} {seen:Array Nat} {arr:Array MapEntry} (ho:o.op = .next x false) (hx:s.ev G x = .ptr i 0) (hl:look s.H i=some (.blk none (.mapIter (some l) since seen last)))
  (hm:look s.H b=some (.blk (some l) (.map arr c))) (hold:∀e∈arr.toList,e.born<since) (hsc:since<=last) :
  ∀L a w,Interp P G B L s a w->o.wp P a w (λa' w'=>∃r H' v L',(((∀e∈arr.toList,e.born∈seen.toList)/\r = .t (.tu [.v (.bool false)])/\H'=s.H/\L'.nx=s.nx) \/
   (∃e∈arr.toList,e.born∉seen.toList/\r = .t (.tu [.v (.bool true),.v e.key,.v e.val])/\H'=upd s.H i (.blk none (.mapIter (some l) since (seen.push e.born) c))/\L'.nx=s.nx)) /\
   a'=a.put o.dst v/\RepV P L' w' r v/\A1o P G L' H' w'/\Mono L w L' w'/\Ext L s.H w L' H' w') (λ_ _ _=>False):=λL a w hi=>by
 have h:=hi.ev x;rw[hx]at h;simp only[RepV]at h;obtain⟨hb,h⟩:=h;obtain⟨_,hr⟩:=hi.heap.rep i _ hl;obtain⟨h1,hmr⟩:=hi.heap.rep b _ hm;rw[h1 l rfl]at hmr;have hlt:=(Array.getElem?_eq_some_iff.1 hr).1
 have hmem:∀e,e∈(leftOf arr seen).toList ↔ e∈arr.toList/\e.born∉seen.toList:=λe=>by
  unfold leftOf;simp
 unfold Oper.wp;rcases run_next_at (P:=P) w o.type (L.μ i) l since last seen arr c hr hmr hold hsc with⟨h0,hrun⟩ | ⟨e,he,w1,hw1,hrun⟩
 .have hrun':(execOp a.eval o).run P w = .ok (.value (.tuple #[.bool false])) w:=by
   simp only[execOp,ho,h,Sem.run_bind,hrun,Yq];rfl
  rw[hrun',Oper.upon_value];refine⟨_,_,_,L,.inl ⟨λe he=>?_,rfl,rfl,hi.nx⟩,rfl,by simp[RepV,RepT,RepL],hi.heap,Mono.refl L w,Ext.refl _ _ _⟩;apply Classical.byContradiction;intro hn;have:=(hmem e).2 ⟨he,hn⟩;have h0':leftOf arr seen = #[]:=Array.eq_empty_of_size_eq_zero h0;rw[h0']at this;cases this
 .have hrun':(execOp a.eval o).run P w = .ok (.value (.tuple #[.bool true,e.key,e.val])) (ChangeMaps.setBlock w1 (L.μ i) (.mapIter (some l) since (seen.push e.born) c)):=by
   simp only[execOp,ho,h,Sem.run_bind,hrun,Yq];rfl
  rw[hrun',Oper.upon_value]
  have hwh:w1.heap=w.heap:=by rcases hw1 with rfl | rfl<;>rfl
  have hwo:A3v w w1:=by rcases hw1 with rfl | rfl<;>exact⟨rfl,rfl,rfl⟩
  have hsb:(ChangeMaps.setBlock w1 (L.μ i) (.mapIter (some l) since (seen.push e.born) c)).heap=w.heap.setIfInBounds (L.μ i) (.mapIter (some l) since (seen.push e.born) c):=by
   simp only[ChangeMaps.setBlock,hwh]
  obtain⟨k1,k2,k3⟩:=A4u (w':=ChangeMaps.setBlock w1 (L.μ i) (.mapIter (some l) since (seen.push e.born) c)) (r:=.blk none (.mapIter (some l) since (seen.push e.born) c)) hi.heap
   (hwo.trans ⟨rfl,rfl,rfl⟩) hl (by rw[hsb];simp)
   (λg hg=>by rw[hsb];simp[Y0 (Ne.symm hg)]) (λg hg arr' ty fz he=>by
    rw[hsb]at he;by_cases e':g=L.μ i
    .subst e';simp[hlt]at he
    .simp[Y0 (Ne.symm e')]at he;exact⟨arr',fz,he,rfl⟩)
   (λ_=>⟨(λx hx=>by cases hx),(by rw[hsb];simp[hlt])⟩)
  obtain⟨e1,e2⟩:=(hmem e).1 he;exact⟨_,_,_,L,.inr ⟨e,e1,e2,rfl,rfl,hi.nx⟩,rfl,by simp[RepV,RepT,RepL],k1,k2,k3⟩
theorem F4w {o:Oper} {x:Operand} {i b l since c:Nat} {seen:Array Nat} {arr:Array MapEntry} {e:MapEntry} (ho:o.op = .entry x) (hx:s.ev G x = .ptr i 0) (hl:look s.H i=some (.blk none (.mapIter (some l) since (seen.push e.born) c)))
  (hm:look s.H b=some (.blk (some l) (.map arr c))) (he:e∈arr.toList) (hn:(arr.toList.map (·.born)).Nodup):AOp P G B o s (.t (.tu [.v e.key,.v e.val])) s.H s.nx:=by
 refine A3j λL a w hi=>?_;have h:=hi.ev x;rw[hx]at h;simp only[RepV]at h;obtain⟨hb,h⟩:=h;obtain⟨_,hr⟩:=hi.heap.rep i _ hl;obtain⟨h1,hmr⟩:=hi.heap.rep b _ hm;rw[h1 l rfl]at hmr;refine⟨.tuple #[e.key,e.val],?_,by simp[RepV,RepT,RepL]⟩;simp only[execOp,ho,h,Sem.run_bind,run_entry_at w (L.μ i) l since seen arr c e hr hmr he hn,Yq];rfl
end
section
variable {P : Program} {G : A1c} {B N : Nat} {Φ : A0u} {Q : Exit -> A0c -> Prop} {s : A0c}
def isNx:MK->Bool
 | .hx .mnext | .hx .ment=>true
 | _=>false
theorem D3m {d:Bool} {o:Op} {k:MK} {xs:List Opd} (hk:isNx k=true) (hc:opK P G d o=(k,xs)) :
  (∃x,o = .next x false/\k = .hx .mnext/\xs=[A0m G x])\/(∃x,o = .entry x/\k = .hx .ment/\xs=[A0m G x]):=by
 unfold opK at hc;split at hc
 .rename_i q hq;subst hc;unfold extK at hq;split at hq
  all_goals repeat' (first
   | (cases hq;done)
   | (injection hq with hq;injection hq with e1 e2;subst e1;subst e2;exact .inl ⟨_,rfl,rfl,rfl⟩)
   | (injection hq with hq;injection hq with e1 e2;subst e1;subst e2;exact .inr ⟨_,rfl,rfl,rfl⟩)
   | (injection hq with hq;injection hq with e1 e2;subst e1;cases hk;done)
   | (obtain⟨ks,_,e⟩:=X7.1 hq;injection e with e1 e2;subst e1;cases hk;done)
   | split at hq)
 .split at hc
  .split at hc
   .injection hc with e1 e2;subst e1;cases hk
   .injection hc with e1 e2;subst e1;cases hk
  .split at hc
   .rename_i q hq;subst hc;unfold D0d at hq;split at hq
    all_goals repeat' (first
     | (cases hq;done)
     | (injection hq with hq;injection hq with e1 e2;subst e1;cases hk;done)
     | (obtain⟨ks,_,e⟩:=X7.1 hq;injection e with e1 e2;subst e1;cases hk;done)
     | split at hq)
   .injection hc with e1 e2;subst e1;cases hk
theorem F4x (hΦ:Ctx P G Φ) {d x:Nat} {rest:List Mini} {b:A0p} {i c0 l since last c:Nat} {seen:Array Nat} {arr:Array MapEntry} (hx:(Opd.tmp x).ev s.env = .ptr i 0)
  (hl:look s.H i=some (.blk none (.mapIter (some l) since seen last))) (hm:look s.H c0=some (.blk (some l) (.map arr c))) (hold:∀e∈arr.toList,e.born<since) (hsc:since<=last)
  (h0:(∀e∈arr.toList,e.born∈seen.toList)->A7d Φ rest (s.set (some d) (.t (.tu [.v (.bool false)]),s.H,s.nx)) (λs1=>MC P G B N b Q s1))
  (h1:∀e∈arr.toList,e.born∉seen.toList->A7d Φ rest (s.set (some d) (.t (.tu [.v (.bool true),.v e.key,.v e.val]),upd s.H i (.blk none (.mapIter (some l) since (seen.push e.born) c)),s.nx)) (λs1=>MC P G B N b Q s1)) :
  MC P G B N (.seq (.ops (⟨some d,.hx .mnext,[.tmp x],none⟩::rest)) b) Q s:=by
 refine C4q λcc hcc hn=>?_;obtain⟨id,ops,rfl,hmm⟩:=A2a hcc;have ha:=A3y hmm;refine B0v ?_
 cases hos:ops.toList with
 | nil=>rw[hos]at ha;simp only[B0z]at ha;cases ha
 | cons o os=>
  rw[hos]at ha;simp only[B0z]at ha;obtain⟨m,l',e,hmi,hr⟩:=ha;injection e with e1 e2;subst e1;subst e2;obtain⟨hc,hdst,hd,hw⟩:=A5d hmi;rcases D3m rfl hc with⟨x0,ho,_,hx0⟩ | ⟨_,_,h,_⟩
  rotate_left
  .injection h with h;cases h
  have hx1:s.ev G x0 = .ptr i 0:=by
   have e2:Opd.tmp x=A0m G x0:=by simpa using hx0
   rw[<-A5q,<-e2];exact hx
  have fin:∀s2:A0c,s2.n=N->A7d Φ rest s2 (λs1=>MC P G B N b Q s1)->AOps P G B ops os (G0e P G B N b Q .normal) s2:=by
   intro s2 hn2 h;obtain⟨s3,h3,h4⟩:=B5g h;exact A8s hΦ.sound os hr hn2 h3 ⟨(D7x h3).trans hn2,h4⟩
  refine E4s (R:=λr H' nx'=>((∀e∈arr.toList,e.born∈seen.toList)/\r = .t (.tu [.v (.bool false)])/\H'=s.H/\nx'=s.nx) \/
   (∃e∈arr.toList,e.born∉seen.toList/\r = .t (.tu [.v (.bool true),.v e.key,.v e.val])/\H'=upd s.H i (.blk none (.mapIter (some l) since (seen.push e.born) c))/\nx'=s.nx)) (by rw[hw s];rfl) (λk hk=>by rw[hn];exact hd k hk) (F0z ho hx1 hl hm hold hsc) ?_
  rintro r H' nx' (⟨g0,rfl,rfl,rfl⟩ | ⟨e,he,hne,rfl,rfl,rfl⟩)
  .rw[<-hdst,<-A9y];exact fin _ hn (h0 g0)
  .rw[<-hdst,<-A9y];exact fin _ hn (h1 e he hne)
theorem F9k (hΦ:Ctx P G Φ) {d x:Nat} {rest:List Mini} {b:A0p} {i c0 l since c:Nat} {seen:Array Nat} {arr:Array MapEntry} {e:MapEntry} (hx:(Opd.tmp x).ev s.env = .ptr i 0)
  (hl:look s.H i=some (.blk none (.mapIter (some l) since (seen.push e.born) c))) (hm:look s.H c0=some (.blk (some l) (.map arr c))) (he:e∈arr.toList) (hnd:(arr.toList.map (·.born)).Nodup)
  (h1:A7d Φ rest (s.set (some d) (.t (.tu [.v e.key,.v e.val]),s.H,s.nx)) (λs1=>MC P G B N b Q s1)) :
  MC P G B N (.seq (.ops (⟨some d,.hx .ment,[.tmp x],none⟩::rest)) b) Q s:=by
 refine C4q λcc hcc hn=>?_;obtain⟨id,ops,rfl,hmm⟩:=A2a hcc;have ha:=A3y hmm;refine B0v ?_
 cases hos:ops.toList with
 | nil=>rw[hos]at ha;simp only[B0z]at ha;cases ha
 | cons o os=>
  rw[hos]at ha;simp only[B0z]at ha;obtain⟨m,l',e0,hmi,hr⟩:=ha;injection e0 with e1 e2;subst e1;subst e2;obtain⟨hc,hdst,hd,hw⟩:=A5d hmi;rcases D3m rfl hc with⟨_,_,h,_⟩ | ⟨x0,ho,_,hx0⟩
  .injection h with h;cases h
  have hx1:s.ev G x0 = .ptr i 0:=by
   have e2:Opd.tmp x=A0m G x0:=by simpa using hx0
   rw[<-A5q,<-e2];exact hx
  refine C9j (by rw[hw s];rfl) (λk hk=>by rw[hn];exact hd k hk) (F4w ho hx1 hl hm he hnd) ?_;rw[<-hdst,<-A9y];obtain⟨s3,h3,h4⟩:=B5g h1;exact A8s hΦ.sound os hr hn h3 ⟨(D7x h3).trans hn,h4⟩
end
end Go.Abs
namespace Go.Proofs.YtmgjopafgboljaaGreatDoor
open Go Go.Abs
variable {q : Gl}
theorem C3b (n:Nat) (h:n<=1000000):IntKind.i64.wrap ((n:Int)+1)=((n+1:Nat):Int):=A0k rfl (by omega)
def ksL (l:List Vr) (i:Nat):List Int:=accL ((l.take i).map nmV)
theorem F1a {l:List Vr} {i:Nat} {n:Int}:n∈ksL l i ↔ n∈(l.take i).map nmV:=by
 unfold ksL accL;rw[B5j];simp
theorem F4y {l:List Vr} {i:Nat} {x:Vr} (hx:l[i]?=some x):ksL l (i+1)=if nmV x∈ksL l i then ksL l i else ksL l i++[nmV x]:=by
 unfold ksL;rw[Xt,hx,X8];exact D2k _ _
theorem F9l (l:List Vr):ksL l l.length=fst1 [] (l.map nmV):=by
 unfold ksL;rw[Yb]
theorem F4z {l:List Vr} {i:Nat} {x:Vr} (hx:l[i]?=some x) (h:misA [] (l.take i)=false) (h1:misA [] (l.take (i+1))=false):setK (mpS l (ksL l i)) (.n [nmV x]) (.string x.sort)=mpS l (ksL l (i+1)):=by
 have hs:A3p l (nmV x)=x.sort:=by
  rw[E1d hx h]at h1;by_cases hm:nmV x∈(l.take i).map nmV
  .rw[decide_eq_true hm,Yp]at h1;simpa using h1
  .exact F0x hx hm
 rw[F4y hx,<-hs,F0v];split<;>rfl
theorem E4t {ks:List Int} {cells:List ByteArray} {f:Int->ByteArray} (hnd:ks.Nodup) (hl:cells.length=ks.length) (h:∀n∈ks,0<=n/\n<(ks.length:Int)/\cells[n.toNat]?=some (f n)):cells=(upN ks.length).map f:=by
 have hp:=A8e hnd (m:=upN ks.length) (λx hx=>A2h.2 ⟨(h x hx).1,(h x hx).2.1⟩) (by rw[A2u];exact Xe _);refine List.ext_getElem? λj=>?_;by_cases hj:j<ks.length
 .have hm:(j:Int)∈ks:=hp.mem_iff.2 (A2h.2 ⟨by omega,by omega⟩);have:=(h _ hm).2.2;rw[X1]at this;rw[this];unfold upN;rw[X4,Ym,List.getElem?_range hj];rfl
 .rw[Y2 (by omega),Y2 (by rw[Xg,A2u];omega)]
theorem D3n {α:Type} {p q:α->Bool}:∀{l:List α},(∀x∈l,p x=true->q x=true)->(∃x∈l,q x=true/\p x=false)->l.countP p<l.countP q
 | [],_,⟨x,hx,_⟩=>by cases hx
 | a::r,hpq,⟨x,hx,h1,h2⟩=>by
  have hle:r.countP p<=r.countP q:=List.countP_mono_left λy hy=>hpq y (by simp[hy]);rw[Y3,Y3];rcases Xh.1 hx with e | hx
  .subst e;rw[h1,h2];simp;omega
  .have ih:=D3n (λy hy=>hpq y (List.mem_cons_of_mem _ hy)) ⟨x,hx,h1,h2⟩;have:=hpq a (by simp);by_cases ha:p a=true
   .rw[ha,this ha];simp;omega
   .rw[if_neg ha];split<;>omega
def nbT (l:List Vr):T:=match B7n l with
 | none=>.tu [nilS,nilS,iv 2]
 | some ns=>if misA [] l=true then .tu [nilS,nilS,iv 17]else if ordV ns=false then .tu [nilS,nilS,iv 3]else
  .tu [slT eInt ns,slT eStr ((upN (cntV ns)).map (A3p l)),iv 0]
structure NbC where
 H:Heap
 nx:Nat
 i:Nat
def SNb (t:T) (n:Nat) (c:NbC):A0c:=⟨[(23,.t (iv (c.i:Int))),(22,.t (iv (n:Int))),(21,.t t),(5,.row 0 0 n 1),(0,.t t)],c.H,c.nx,93⟩
def SNd (t:T) (n k:Nat) (c:NbC):A0c:=⟨[(44,.t (iv (c.i:Int))),(43,.t (iv (n:Int))),(42,.row 0 0 n 1),(10,.mp k),(5,.row 0 0 n 1),(0,.t t)],c.H,k+1,93⟩
structure NbE where
 H:Heap
 seen:Array Nat
 cells:List ByteArray
def SNe (n m nx:Nat) (c:NbE):A0c:=⟨[(77,.ptr (nx+2) 0),(15,.row (nx+1) 0 m 1),(5,.row 0 0 n 1)],c.H,nx+3,93⟩
structure NbI (l:List Vr) (ks:List Int) (nx lc cc:Nat) (arr:Array MapEntry) (c:NbE):Prop where
 r0:Xc c.H 0=some (A0l eInt tyI (l.map nmV))
 rm:Xc c.H nx=some (.blk (some lc) (.map arr cc))
 ri:Xc c.H (nx+2)=some (.blk none (.mapIter (some lc) cc c.seen cc))
 ro:Xc c.H (nx+1)=some (A0l eStr tyS c.cells)
 len:c.cells.length=ks.length
 all:∀e∈arr.toList,e.born∈c.seen.toList->∃n:Int,e.key = .int .i64 n/\0<=n/\n<(ks.length:Int)/\c.cells[n.toNat]?=some (A3p l n)
def muE (arr:Array MapEntry) (seen:Array Nat):Nat:=arr.toList.countP λe=>!seen.toList.contains e.born
theorem D3o:∀{l:List MapEntry} {a b:MapEntry},(l.map (·.born)).Nodup->a∈l->b∈l->a.born=b.born->a=b
 | x::r,a,b,hn,ha,hb,h=>by
  rw[X9,List.nodup_cons]at hn;rcases Xh.1 ha with rfl | ha'
  .rcases Xh.1 hb with rfl | hb'
   .rfl
   .exact absurd (Xj.2 ⟨b,hb',h.symm⟩) hn.1
  .rcases Xh.1 hb with rfl | hb'
   .exact absurd (Xj.2 ⟨a,ha',h⟩) hn.1
   .exact D3o hn.2 ha' hb' h
theorem vr_l2 {k:Nat} {H:Heap} {a b:T} (h:Xc H k=some (.cells tyVr [.t a,.t b])):A0t false 1 H (.ptr k 0)=some (.t a)/\A0t false 1 H (.ptr k 1)=some (.t b):=A5m h
theorem C9d {t:T} {l:List Vr} (ht:IsS eVr t l) (hl:l.length<=100000) (hd:∀v∈l,v.digits.size<=1000000000) (hg:∀v∈l,A7t v):A1d Tryz.prog (G q) 56 [t] (· = nbT l):=by
 obtain⟨R,hR⟩:∃R,R=nbT l:=⟨_,rfl⟩
 rw[<-hR];unfold nbT at hR;have ln:=ht.len;have mk:=C8o (ty:=tyI) (by':=8) (nx:=0) (.int .i64 0) (n:=l.length) (by omega) (by omega)
 obtain⟨H0,hH0⟩:∃H0:Heap,H0=[(0,Row.cells tyI (Xu l.length (.t (.v (.int .i64 0)))))]:=⟨_,rfl⟩
 have r0:Xc H0 0=some (A0l eInt tyI (nmL l 0)):=by rw[F4u,A9l (c:=iv 0) rfl,hH0];rfl
 have C:Ctx Tryz.prog (G q) _:=(A0s.cons (hNb (q:=q)) .nil).ctx mixed;refine C3u.call rfl ?_;(conv in B3s=>cbv);refine A0a C ?_;simp -implicitDefEqProofs;refine A0a C ?_;simp -implicitDefEqProofs [ln,mk];rw[<-hH0];refine A0q (λc:NbC=>⟨[(5,.row 0 0 l.length 1),(0,.t t)],c.H,c.nx,93⟩) (λc=>B7n l=some (l.map nmV)/\Xc c.H 0=some (A0l eInt tyI (l.map nmV))/\0<c.nx) (λ_=>rfl) ?_ ?_
 .refine A0a C ?_;simp -implicitDefEqProofs [ln];refine A0j ?_;refine A0n (SNb t l.length) (λc=>l.length-c.i) (λc=>(∀x∈l.take c.i,(numS (wb x.digits)).2=0)/\Xc c.H 0=some (A0l eInt tyI (nmL l c.i))/\0<c.nx/\c.i<=l.length) ⟨H0,1,0⟩ (λ_=>rfl) ⟨by simp,r0,Xi _,Xx _⟩ ?_ rfl ?_
  .exact A0d (by simp -implicitDefEqProofs [SNb])
  rintro⟨H,nx,i⟩ ⟨ha,hr,hn,hi⟩;simp only at ha hr hn hi;by_cases hlt:i<l.length
  rotate_left
  .have ei:i=l.length:=by omega
   subst ei;rw[F9h]at hr;refine A0e C ?_;simp -implicitDefEqProofs [SNb];exact Abs.Next.mk ⟨H,nx,0⟩ ⟨F4v ha,hr,hn⟩ (A0d (by simp -implicitDefEqProofs))
  obtain⟨x,hx⟩:∃x,l[i]?=some x:=⟨_,Xn hlt⟩
  have i1:=ht.iaddr hx .i64;rw[show eVr.z=2 from rfl,show eVr.enc x=[sv x.sort,sv x.digits]from rfl]at i1;have u1:∀a b,A0x 2 ((nx,.cells tyVr [a,b])::H) (.ptr nx 0) (.t (.ag [sv x.sort,sv x.digits]))=some ((nx,.cells tyVr [.t (sv x.sort),.t (sv x.digits)])::H):=λa b=>st2 nx a b _ _ tyVr H
  obtain⟨Hb,hHb⟩:∃Hb:Heap,Hb=(nx,.cells tyVr [.t (sv x.sort),.t (sv x.digits)])::H:=⟨_,rfl⟩
  rw[<-hHb]at u1;obtain⟨_,b2⟩:=vr_l2 (H:=Hb) (k:=nx) (a:=sv x.sort) (b:=sv x.digits) (by rw[hHb,look_cons,if_pos rfl])
  have hb0:Xc Hb 0=some (A0l eInt tyI (nmL l i)):=by rw[hHb,look_cons,if_neg (by omega)];exact hr
  have e1:=G2y (hd x (X3 hx));have en:numT (wb x.digits) = .tu [iv (nmV x),iv (numS (wb x.digits)).2]:=rfl;rw[en]at e1;have w1:IntKind.i64.wrap ((i:Int)+1)=((i+1:Nat):Int):=A0k rfl (by omega);have ia:A2e 1 (.row 0 0 l.length 1) (.t (iv (i:Int)))=some (.ptr 0 i):=A7u _ _ _ hlt;have s1:=A5v (e:=eInt) (ty:=tyI) (c:=iv (nmV x)) (x:=nmV x) rfl hb0 (i:=i) (by rw[F9f l i hi];exact hlt) rfl rfl;rw[F9g hx]at s1;refine A0a C ?_;simp -implicitDefEqProofs [SNb,hlt];refine A0a C ?_;simp -implicitDefEqProofs;refine A0q (λc:NbC=>SNb t l.length ⟨c.H,c.nx,i⟩) (λc=>(numS (wb x.digits)).2=0/\Xc c.H 0=some (A0l eInt tyI (nmL l (i+1)))/\0<c.nx) (λ_=>rfl) ?_ ?_
  .refine A0j ?_;refine A0a C ?_;simp -implicitDefEqProofs [i1,A6j,u1];refine A0a C ?_;simp -implicitDefEqProofs [b2,e1];by_cases he:(numS (wb x.digits)).2=0
   .have d1:((numS (wb x.digits)).2 != 0)=false:=by rw[he];rfl
    refine A0a C ?_;simp -implicitDefEqProofs [d1];refine A0e C ?_;simp -implicitDefEqProofs [ia,s1];exact Abs.Next.mk ⟨Xd Hb 0 (A0l eInt tyI (nmL l (i+1))),nx+1,0⟩ ⟨he,by show Xc (Xd Hb 0 _) 0=_;rw[A0f,if_pos rfl,hb0];rfl,Nat.succ_pos _⟩ (A0d (by simp -implicitDefEqProofs [SNb]))
   .have d1:((numS (wb x.digits)).2 != 0)=true:=by rw[bne_iff_ne];exact he
    have hR0:R = .tu [nilS,nilS,iv 2]:=by rw[hR,F0t hx he]
    refine A0a C ?_;simp -implicitDefEqProofs [d1,hR0]
  .rintro⟨Hz,nz,_⟩ ⟨g1,g2,g3⟩;simp only at g1 g2 g3;refine A0e C ?_;simp -implicitDefEqProofs [SNb,w1];refine Abs.Next.mk ⟨Hz,nz,i+1⟩ ⟨⟨λy hy=>?_,g2,g3,hlt⟩,by show l.length-(i+1)<l.length-i;omega⟩ (A0d (by simp -implicitDefEqProofs [SNb]));rw[Xt,hx]at hy;rcases Y5.1 hy with h | h
   .exact ha y h
   .have:y=x:=by simpa using h
    rw[this];exact g1
 rintro⟨H,nx,_⟩ ⟨hns,r0,hnx⟩;simp only at hns r0 hnx;rw[hns]at hR;simp only at hR;refine A0a C ?_;simp -implicitDefEqProofs;refine A0q (λc:NbC=>⟨[(10,.mp nx),(5,.row 0 0 l.length 1),(0,.t t)],c.H,nx+1,93⟩) (λc=>misA [] l=false/\Xc c.H 0=some (A0l eInt tyI (l.map nmV))/\Xc c.H nx=some (.map (.int .i64) (mpS l (fst1 [] (l.map nmV))))) (λ_=>rfl) ?_ ?_
 .refine A0a C ?_;simp -implicitDefEqProofs;refine A0j ?_;refine A0n (SNd t l.length nx) (λc=>l.length-c.i) (λc=>misA [] (l.take c.i)=false/\Xc c.H 0=some (A0l eInt tyI (l.map nmV))/\Xc c.H nx=some (.map (.int .i64) (mpS l (ksL l c.i)))/\c.i<=l.length) ⟨(nx,.map (.int .i64) [])::H,0,0⟩ (λ_=>rfl) ⟨rfl,by rw[look_cons,if_neg (by omega)];exact r0,by rw[look_cons,if_pos rfl];rfl,Xx _⟩ ?_ rfl ?_
  .exact A0d (by simp -implicitDefEqProofs [SNd])
  rintro⟨H,nx',i⟩ ⟨ha,hr,hm,hi⟩;simp only at ha hr hm hi;by_cases hlt:i<l.length
  rotate_left
  .have ei:i=l.length:=by omega
   subst ei;rw[F9l]at hm;rw[Yb]at ha;refine A0e C ?_;simp -implicitDefEqProofs [SNd];exact Abs.Next.mk ⟨H,0,0⟩ ⟨ha,hr,hm⟩ (A0d (by simp -implicitDefEqProofs))
  obtain⟨x,hx⟩:∃x,l[i]?=some x:=⟨_,Xn hlt⟩
  have hnx:(l.map nmV)[i]?=some (nmV x):=by rw[Ym,hx];rfl
  have i1:=ht.iaddr hx .i64;rw[show eVr.z=2 from rfl,show eVr.enc x=[sv x.sort,sv x.digits]from rfl]at i1;have l1:=B1s hr hnx (c:=iv (nmV x)) rfl rfl;have ia:A2e 1 (.row 0 0 l.length 1) (.t (iv (i:Int)))=some (.ptr 0 i):=A7u _ _ _ hlt;have w1:=C3b i (by omega);have hk:keyT (.int .i64) (.t (iv (nmV x)))=some (.n [nmV x]):=rfl;have hg1:=F0u (l:=l) (v:=nmV x) (ns:=ksL l i);have hms:=E1d hx ha;have hst:=λh1=>F4z hx ha h1;refine A0a C ?_;simp -implicitDefEqProofs [SNd,hlt];refine A0a C ?_;simp -implicitDefEqProofs;refine A0q (λc:NbC=>SNd t l.length nx ⟨c.H,0,i⟩) (λc=>misA [] (l.take (i+1))=false/\Xc c.H 0=some (A0l eInt tyI (l.map nmV))/\Xc c.H nx=some (.map (.int .i64) (mpS l (ksL l (i+1))))) (λ_=>rfl) ?_ ?_
  .refine A0j ?_
   have done:misA [] (l.take (i+1))=false->∀s',Sub Tryz.prog (G q) 0 s' (SNd t l.length nx ⟨Xd H nx (.map (.int .i64) (setK (mpS l (ksL l i)) (.n [nmV x]) (.string x.sort))),0,i⟩)->Abs.Next Tryz.prog (G q) 0 (λc:NbC=>SNd t l.length nx ⟨c.H,0,i⟩) (λc=>misA [] (l.take (i+1))=false/\Xc c.H 0=some (A0l eInt tyI (l.map nmV))/\Xc c.H nx=some (.map (.int .i64) (mpS l (ksL l (i+1))))) s':=λh1 s' hs'=>
    Abs.Next.mk ⟨Xd H nx (.map (.int .i64) (setK (mpS l (ksL l i)) (.n [nmV x]) (.string x.sort))),0,0⟩ ⟨h1,by show Xc (Xd H nx _) 0=_;rw[A0f,if_neg (by omega)];exact hr,by show Xc (Xd H nx _) nx=_;rw[A0f,if_pos rfl,hm,hst h1];rfl⟩ hs'
   refine A0a C ?_;simp -implicitDefEqProofs [ia,l1];by_cases hmem:nmV x∈ksL l i
   .rw[if_pos hmem]at hg1;rw[decide_eq_true (F1a.1 hmem),Yp]at hms;by_cases hs:A3p l (nmV x)=x.sort
    .have ds:((A3p l (nmV x)).toList==x.sort.toList)=true:=by rw[hs];exact beq_self_eq_true _
     rw[decide_eq_true hs]at hms;refine A0a C ?_;simp -implicitDefEqProofs [hm,hk,hg1,i1,lp,ds];refine A0e C ?_;simp -implicitDefEqProofs [hm,hk,i1,lp];exact done hms _ (A0d (by simp -implicitDefEqProofs [SNd]))
    .have ds:((A3p l (nmV x)).toList==x.sort.toList)=false:=by
      rw[beq_eq_false_iff_ne];exact λe=>hs (Abs.toList_inj e)
     rw[decide_eq_false hs]at hms
     have hR0:R = .tu [nilS,nilS,iv 17]:=by rw[hR,if_pos (F0y hms)]
     refine A0a C ?_;simp -implicitDefEqProofs [hm,hk,hg1,i1,lp,ds,hR0]
   .rw[if_neg hmem]at hg1;rw[decide_eq_false (λe=>hmem (F1a.2 e)),Yz]at hms;refine A0a C ?_;simp -implicitDefEqProofs [hm,hk,hg1,i1,lp];refine A0e C ?_;simp -implicitDefEqProofs [hm,hk,i1,lp];exact done hms _ (A0d (by simp -implicitDefEqProofs [SNd]))
  .rintro⟨Hz,_,_⟩ ⟨g1,g2,g3⟩;simp only at g1 g2 g3;refine A0e C ?_;simp -implicitDefEqProofs [SNd,w1];exact Abs.Next.mk ⟨Hz,0,i+1⟩ ⟨⟨g1,g2,g3,hlt⟩,by show l.length-(i+1)<l.length-i;omega⟩ (A0d (by simp -implicitDefEqProofs [SNd]))
 rintro⟨H,_,_⟩ ⟨hmis,r0,hm⟩;simp only at hmis r0 hm;rw[hmis]at hR;simp only[Y6,if_false]at hR
 obtain⟨ks,hks⟩:∃ks,ks=fst1 [] (l.map nmV):=⟨_,rfl⟩
 have hcn:cntV (l.map nmV)=ks.length:=by rw[hks];rfl
 have hkl:ks.length<=l.length:=by have:=B9s (l.map nmV);rw[Xg]at this;rw[hks];exact this
 have hnd:ks.Nodup:=by rw[hks];exact B2g List.nodup_nil
 have hin:∀n,n∈ks ↔ n∈l.map nmV:=λn=>by rw[hks,B5j];simp
 rw[<-hks]at hm;have ml:=hxM_mlen (H:=H) (nx:=nx+1) hm;rw[F9i]at ml;have mk2:=C8o (ty:=tyS) (by':=16) (nx:=nx+1) (.string ⟨#[]⟩) (n:=ks.length) (by omega) (by omega)
 obtain⟨H2,hH2⟩:∃H2:Heap,H2=(nx+1,Row.cells tyS (Xu ks.length (.t (.v (.string ⟨#[]⟩)))))::H:=⟨_,rfl⟩
 have q0:Xc H2 0=some (A0l eInt tyI (l.map nmV)):=by rw[hH2,look_cons,if_neg (by omega)];exact r0
 have qm:Xc H2 nx=some (.map (.int .i64) (mpS l ks)):=by rw[hH2,look_cons,if_neg (by omega)];exact hm
 have qo:Xc H2 (nx+1)=some (A0l eStr tyS (Xu ks.length (⟨#[]⟩:ByteArray))):=by rw[A9l (c:=sv ⟨#[]⟩) rfl,hH2,look_cons,if_pos rfl]
 refine A0a C ?_;simp -implicitDefEqProofs [ml,mk2];rw[<-hH2];refine MC.sub (s':=⟨[(15,.row (nx+1) 0 ks.length 1),(10,.mp nx),(5,.row 0 0 l.length 1)],H2,nx+2,93⟩) (A0d (by simp -implicitDefEqProofs)) rfl ?_;refine F9j qm ?_;intro lc arr cc hmi;have hsz:=hmi.lt
 obtain⟨H3,hH3⟩:∃H3:Heap,H3=Xd H2 nx (.blk (some lc) (.map arr cc)):=⟨_,rfl⟩
 rw[<-hH3]
 have t0:Xc H3 0=some (A0l eInt tyI (l.map nmV)):=by rw[hH3,A0f,if_neg (by omega)];exact q0
 have tm:Xc H3 nx=some (.blk (some lc) (.map arr cc)):=by rw[hH3,A0f,if_pos rfl,qm];rfl
 have to:Xc H3 (nx+1)=some (A0l eStr tyS (Xu ks.length (⟨#[]⟩:ByteArray))):=by rw[hH3,A0f,if_neg (by omega)];exact qo
 have mr:hxM .mrange H3 (nx+2) [.mp nx]=some (.ptr (nx+2) 0,(nx+2,.blk none (.mapIter (some lc) cc #[] cc))::H3,nx+3):=by simp[hxM,tm]
 have key:∀e∈arr.toList,∃n∈ks,e.key = .int .i64 n/\e.val = .string (A3p l n):=λe he=>by
  have h1:(e.key,e.val)∈arr.toList.map (λe=>(e.key,e.val)):=Xj.2 ⟨e,he,rfl⟩;rw[hmi.eq]at h1;unfold mpS at h1;rw[X4]at h1;obtain⟨n,hn,h2⟩:=Xj.1 h1;injection h2 with h2 h3;exact⟨n,hn,h2.symm,h3.symm⟩
 have all:∀n∈ks,∃e∈arr.toList,e.key = .int .i64 n:=λn hn=>by
  have h1:(Value.int .i64 n,Value.string (A3p l n))∈(mpS l ks).map (λe=>(e.1.val (.int .i64),e.2)):=by
   unfold mpS;rw[X4];exact Xj.2 ⟨n,hn,rfl⟩
  rw[<-hmi.eq]at h1;obtain⟨e,he,h2⟩:=Xj.1 h1;injection h2 with h2 _;exact⟨e,he,h2⟩
 refine A0q (λc:Heap=>⟨[(15,.row (nx+1) 0 ks.length 1),(5,.row 0 0 l.length 1)],c,nx+3,93⟩) (λc=>ordV (l.map nmV)=true/\Xc c 0=some (A0l eInt tyI (l.map nmV))/\Xc c (nx+1)=some (A0l eStr tyS ((upN ks.length).map (A3p l)))) (λ_=>rfl) ?_ ?_
 .refine A0a C ?_;simp -implicitDefEqProofs [mr];refine A0j ?_;refine A0n (SNe l.length ks.length nx) (λc=>muE arr c.seen) (λc=>NbI l ks nx lc cc arr c) ⟨(nx+2,.blk none (.mapIter (some lc) cc #[] cc))::H3,#[],Xu ks.length ⟨#[]⟩⟩ (λ_=>rfl) ?_ ?_ rfl ?_
  .exact⟨by rw[look_cons,if_neg (by omega)];exact t0,by rw[look_cons,if_neg (by omega)];exact tm,by rw[look_cons,if_pos rfl],by rw[look_cons,if_neg (by omega)];exact to,by rw[Yv],λe he hs=>by simp at hs⟩
  .exact A0d (by simp -implicitDefEqProofs [SNe])
  rintro⟨Ha,seen,cells⟩ ⟨a0,am,ai,ao,al,ac⟩;simp only at a0 am ai ao al ac;refine F4x C (i:=nx+2) (c0:=nx) rfl ai am hmi.lt (Xe _) ?_ ?_
  .intro hall
   have ful:∀n∈ks,0<=n/\n<(ks.length:Int)/\cells[n.toNat]?=some (A3p l n):=λn hn=>by
    obtain⟨e,he,hk⟩:=all n hn;obtain⟨n',h1,h2,h3,h4⟩:=ac e he (hall e he);rw[hk]at h1;injection h1 with _ h1;subst h1;exact⟨h2,h3,h4⟩
   have hcl:=E4t hnd al ful
   have hord:ordV (l.map nmV)=true:=by
    unfold ordV;rw[Yn];intro n hn;refine decide_eq_true ?_;rw[hcn];exact(ful n ((hin n).2 hn)).2.1
   simp -implicitDefEqProofs [SNe];refine A0a C ?_;simp -implicitDefEqProofs;exact Abs.Next.mk Ha ⟨hord,a0,by rw[<-hcl];exact ao⟩ (A0d (by simp -implicitDefEqProofs))
  .intro e he hne;obtain⟨n,hn,hke,hve⟩:=key e he
   have n0:0<=n:=by
    obtain⟨v,hv,rfl⟩:=Xj.1 ((hin n).1 hn);exact E9g (hg v hv)
   obtain⟨j,rfl⟩:∃j:Nat,n=(j:Int):=⟨n.toNat,by omega⟩
   obtain⟨Hb,hHb⟩:∃Hb:Heap,Hb=Xd Ha (nx+2) (.blk none (.mapIter (some lc) cc (seen.push e.born) cc)):=⟨_,rfl⟩
   have b0:Xc Hb 0=some (A0l eInt tyI (l.map nmV)):=by rw[hHb,A0f,if_neg (by omega)];exact a0
   have bm:Xc Hb nx=some (.blk (some lc) (.map arr cc)):=by rw[hHb,A0f,if_neg (by omega)];exact am
   have bi:Xc Hb (nx+2)=some (.blk none (.mapIter (some lc) cc (seen.push e.born) cc)):=by rw[hHb,A0f,if_pos rfl,ai];rfl
   have bo:Xc Hb (nx+1)=some (A0l eStr tyS cells):=by rw[hHb,A0f,if_neg (by omega)];exact ao
   rw[show Xd (SNe l.length ks.length nx ⟨Ha,seen,cells⟩).H (nx+2) (.blk none (.mapIter (some lc) cc (seen.push e.born) cc))=Hb from hHb.symm,hke,hve];simp -implicitDefEqProofs [SNe];refine A0a C ?_;simp -implicitDefEqProofs;refine A0j ?_;refine F9k C (i:=nx+2) (c0:=nx) (e:=e) rfl bi bm he hmi.born ?_;rw[hke,hve];simp -implicitDefEqProofs;have lnr:A6t (.row (nx+1) 0 ks.length 1)=some (.t (iv (ks.length:Int))):=rfl;by_cases hj:ks.length<=j
   .have dj:decide ((ks.length:Int)<=(j:Int))=true:=decide_eq_true (by omega)
    have hno:ordV (l.map nmV)=false:=by
     unfold ordV;rw[List.all_eq_false];exact⟨_,(hin _).1 hn,by rw[hcn];simp;omega⟩
    have hR0:R = .tu [nilS,nilS,iv 3]:=by rw[hR,if_pos hno]
    refine A0a C ?_;simp -implicitDefEqProofs [lnr,dj,hj,hR0]
   .have dj:decide ((ks.length:Int)<=(j:Int))=false:=decide_eq_false (by omega)
    have hjl:j<ks.length:=by omega
    have ia:A2e 1 (.row (nx+1) 0 ks.length 1) (.t (iv (j:Int)))=some (.ptr (nx+1) j):=A7u _ _ _ hjl;have s1:=A5v (e:=eStr) (ty:=tyS) (c:=sv (A3p l (j:Int))) (x:=A3p l (j:Int)) rfl bo (i:=j) (by rw[al];exact hjl) rfl rfl;refine A0a C ?_;simp -implicitDefEqProofs [lnr,dj,hj];refine A0e C ?_;simp -implicitDefEqProofs [ia,s1];refine Abs.Next.mk ⟨Xd Hb (nx+1) (A0l eStr tyS (cells.set j (A3p l (j:Int)))),seen.push e.born,cells.set j (A3p l (j:Int))⟩ ⟨⟨?_,?_,?_,?_,?_,?_⟩,?_⟩ (A0d (by simp -implicitDefEqProofs [SNe]))
    .show Xc (Xd Hb (nx+1) _) 0=_;rw[A0f,if_neg (by omega)];exact b0
    .show Xc (Xd Hb (nx+1) _) nx=_;rw[A0f,if_neg (by omega)];exact bm
    .show Xc (Xd Hb (nx+1) _) (nx+2)=_;rw[A0f,if_neg (by omega)];exact bi
    .show Xc (Xd Hb (nx+1) _) (nx+1)=_;rw[A0f,if_pos rfl,bo];rfl
    .show(cells.set j _).length=_;rw[List.length_set];exact al
    .intro e' he' hs'
     have hs2:e'.born∈seen.toList\/e'.born=e.born:=by simpa[Y7]using hs'
     by_cases hb:e'.born=e.born
     .have ee:e'=e:=D3o hmi.born he' he hb;subst ee;exact⟨(j:Int),hke,by omega,by omega,by show(cells.set j _)[((j:Int)).toNat]?=_;rw[X1,Y8 (by omega)]⟩
     .obtain⟨n',h1,h2,h3,h4⟩:=ac e' he' (hs2.resolve_right hb);refine⟨n',h1,h2,h3,?_⟩;show(cells.set j _)[n'.toNat]?=_;by_cases hjn:j=n'.toNat
      .rw[<-hjn,Y8 (by omega)];rw[show n'=(j:Int)by omega]
      .rw[List.getElem?_set_ne hjn];exact h4
    .show muE arr (seen.push e.born)<muE arr seen;unfold muE;refine D3n (λy _ hy=>?_) ⟨e,he,?_,?_⟩
     .simp only[Y7,Bool.not_eq_true',List.contains_eq_mem,Y5,decide_eq_false_iff_not,not_or]at hy ⊢;exact hy.1
     .simpa using hne
     .simp
 rintro H ⟨hord,r0,ro⟩;rw[hord]at hR;simp only[Y9,if_false]at hR;rw[hcn]at hR
 have t1:toT H (.row 0 0 l.length 1)=some (slT eInt (l.map nmV),[0]):=by
  have:=A2s r0;rw[Xg]at this;exact this
 have t2:toT H (.row (nx+1) 0 ks.length 1)=some (slT eStr ((upN ks.length).map (A3p l)),[nx+1]):=by
  have:=A2s ro;rw[Xg,A2u]at this;exact this
 refine A0a C ?_;simp -implicitDefEqProofs;refine A0e C ?_
 have tts:toTs H [.row 0 0 l.length 1,.row (nx+1) 0 ks.length 1,.t (iv 0)]=some ([slT eInt (l.map nmV),slT eStr ((upN ks.length).map (A3p l)),iv 0],[0]++([nx+1]++([]++[]))):=by
  simp only[Yg,t1,t2];rfl
 simp -implicitDefEqProofs [tts,-Yg,hR]
def mr0:Mr:=⟨0,0,[],[],[]⟩
def outC (m:Mr):List T:=[iv m.top,iv m.index,slT eStr m.vars,A1a eEC (m.rels.map EC.of),A1a eQq m.cons]
def parT:Except Int Mr->T
 | .error e=>.tu [.ag (encM mr0),iv e]
 | .ok m=>.tu [.ag (outC m),iv 0]
theorem C0a (m:Mr):IsMr m (outC m):=⟨_,_,_,_,rfl,IsS.mk m.vars,IsS.tree _ _,F5e _,IsS.tree _ _⟩
def SmP (s:ByteArray):Prop:=∀raw l,A7r ((wb s).length+1) ⟨wb s,0,[]⟩=(⟨[],0,l⟩,raw)->SmM (outM raw l)
def A9p:Row:=.cells tyMr [.t (iv 0),.t (iv 0),.t nilS,.t nilS,.t nilS]
theorem F9m:C4b 3 A9p:=⟨_,_,rfl,λp hp=>by
 simp only[Xh,Yi,or_false]at hp
 rcases hp with rfl | rfl | rfl | rfl | rfl<;>exact .inl ⟨_,rfl⟩⟩
theorem st5 {H:Heap} {k:Nat} {cs:List PV} (h:Xc H k=some (.cells tyMr cs)) (hl:cs.length=5) {a b c d e:T}:A0x 5 H (.ptr k 0) (.t (.ag [a,b,c,d,e]))=some (Xd H k (mRow [a,b,c,d,e])):=by
 rw[show A0x 5 H (.ptr k 0) (.t (.ag [a,b,c,d,e]))=some (Xd H k (.cells tyMr (A2m cs 0 [.t a,.t b,.t c,.t d,.t e])))from A1z (ns:=[.t a,.t b,.t c,.t d,.t e]) h rfl rfl (by omega)]
 match cs,hl with
 | [_,_,_,_,_],_=>rfl
theorem bd_z (Φ:A0u) (H:Heap) (nx:Nat):A0i Φ H nx (.build [(0,1),(1,1),(2,1),(3,1),(4,1)] [.int .i64 0,.int .i64 0,.slice none 0 0,.slice none 0 0,.slice none 0 0] []) []=some (.t (.ag (encM mr0)),H,nx):=rfl
theorem evQ_z (Φ:A0u) (H:Heap) (nx:Nat):A1w Φ H nx (.build [(0,1),(1,1),(2,1),(3,1),(4,1)] [.int .i64 0,.int .i64 0,.slice none 0 0,.slice none 0 0,.slice none 0 0] []) []=some (.t (.ag (encM mr0))):=rfl
theorem st_z {H:Heap} (h:Xc H 0=some A9p):A0x 5 H (.ptr 0 0) (.t (.ag (encM mr0)))=some (Xd H 0 A9p):=st5 (a:=iv 0) (b:=iv 0) (c:=nilS) (d:=nilS) (e:=nilS) h rfl
theorem ld_z {H:Heap} (h:Xc H 0=some A9p):A0t true 5 (Xd H 0 A9p) (.ptr 0 0)=some (.t (.ag (encM mr0))):=(ldM (H:=Xd H 0 A9p) (k:=0) (a:=iv 0) (b:=iv 0) (c:=nilS) (d:=nilS) (e:=nilS) (by rw[A0f,if_pos rfl,h];rfl)).all
theorem B4o {s:ByteArray} (hs:s.size<=1000000000) (hsm:SmP s):A1d Tryz.prog (G q) 27 [sv s] (· = parT (parM (wb s))):=by
 obtain⟨R,hR⟩:∃R,R=parT (parM (wb s)):=⟨_,rfl⟩
 rw[<-hR];have hwl:=A2y s;unfold parM at hR;unfold SmP at hsm;rw[hwl]at hR hsm;refine D5n.call rfl ?_;(conv in C1t=>cbv);refine A0a A0g ?_;simp -implicitDefEqProofs
 obtain⟨Hz,hHz⟩:∃Hz:Heap,Hz=[(0,A9p)]:=⟨_,rfl⟩
 have hz0:Xc Hz 0=some A9p:=by rw[hHz];rfl
 have hzf:Frs Hz 1:=λb x hb=>by
  rw[hHz,look_cons]at hb;split at hb
  .omega
  .cases hb
 refine MC.sub (s':=⟨[(3,.t (iv 0)),(2,.ptr 0 0),(0,.t (sv s))],Hz,1,54⟩) (by rw[hHz];exact A0d (by simp -implicitDefEqProofs)) rfl ?_;by_cases hbig:65536<s.size
 .have d0:decide ((65536:Int)<(s.size:Int))=true:=decide_eq_true (by omega);rw[if_pos hbig]at hR;have hR0:R = .tu [.ag (encM mr0),iv 7]:=hR;refine A0a A0g ?_;simp -implicitDefEqProofs [d0,hbig,bd_z,-evalK_build,st_z hz0,ld_z hz0,hR0]
 have d0:decide ((65536:Int)<(s.size:Int))=false:=decide_eq_false (by omega);rw[if_neg hbig]at hR;refine A0a A0g ?_;simp -implicitDefEqProofs [d0,hbig];have bd1:∀(Φ:A0u) (H:Heap) (nx:Nat),A0i Φ H nx (.build [(0,1),(1,1),(2,1),(3,1)] [.string ⟨#[]⟩,.int .i64 0,.int .i64 0,.slice none 0 0] [0]) [.t (sv s)]=some (.t (.ag [sv s,iv 0,iv 0,nilS]),H,nx):=λ_ _ _=>rfl;have bx1:A1g (.t (.ag [sv s,iv 0,iv 0,nilS]))=some [.t (sv s),.t (iv 0),.t (iv 0),.t nilS]:=rfl;refine A0a A0g ?_;simp -implicitDefEqProofs [bd1,bx1,-evalK_build]
 obtain⟨H1,hH1⟩:∃H1:Heap,H1=(1,A7v s 0 0 (.t nilS))::Hz:=⟨_,rfl⟩
 have x0:Xc H1 0=some A9p:=by rw[hH1,look_cons,if_neg (by omega)];exact hz0
 have S1:RdS s 1 2 0 ⟨wb s,0,[]⟩ H1 3:=⟨by rw[hH1,look_cons,if_pos rfl];rfl,.inl rfl,rfl,Xx _,by omega,by omega,by omega⟩
 refine MC.sub (s':=⟨[(4,.ptr 1 0),(3,.t (iv 0)),(2,.ptr 0 0),(0,.t (sv s))],H1,2,54⟩) (by rw[hH1];exact A0d (by simp -implicitDefEqProofs)) rfl ?_;refine MC.sub (A8j (nx':=3) (by omega)) rfl ?_;obtain⟨⟨fr,fH,fn⟩,⟨hr,⟨kv',i',S2,A2⟩⟩,hc⟩:=E4p (q:=q) S1 hs (by show 0+(wb s).length<=_;omega) (n:=s.size+1) (by show(wb s).length<_;omega) (by omega);simp only at hr S2 A2 hc
 have f1:Frs H1 3:=by rw[hH1];exact(hzf.cons (k:=1) (m:=3) (by omega) (by omega))
 obtain⟨tb,tb1,tb2⟩:=hAt hc A2.fr
 obtain⟨rr,hrr⟩:∃rr,rr=(A7r (s.size+1) ⟨wb s,0,[]⟩).1:=⟨_,rfl⟩
 obtain⟨raw,hraw⟩:∃raw,raw=(A7r (s.size+1) ⟨wb s,0,[]⟩).2:=⟨_,rfl⟩
 rw[<-hrr,<-hraw]at hR;rw[<-hrr]at S2;rw[<-hraw]at hr;subst hr;have C1:Ctx Tryz.prog (G q) _:=A0s.nil.ctxH (A0v.cons tb2 .nil) mixed;have y0:Xc fH 0=some A9p:=A2.k 0 _ (by omega) (by omega) (by omega) x0 F9m;have l1:=S2.l0;have l2:=S2.lv;have l3:=S2.ne
 obtain⟨H2,hH2⟩:∃H2:Heap,H2=(fn,mRow (encM raw))::fH:=⟨_,rfl⟩
 have kv0:kv'≠0:=by have:=A2.v;omega
 have s1:A0x 5 ((fn,.cells tyMr [.t (iv 0),.t (iv 0),.t nilS,.t nilS,.t nilS])::fH) (.ptr fn 0) (.t (.ag (encM raw)))=some H2:=by
  rw[encM,st5 (cs:=[.t (iv 0),.t (iv 0),.t nilS,.t nilS,.t nilS]) (by rw[look_cons,if_pos rfl]) rfl,hH2];simp[Xd,encM]
 refine A0a C1 ?_;simp -implicitDefEqProofs [tb1,s1];refine MC.sub (s':=⟨[(5,.ptr fn 0),(4,.ptr 1 0),(3,.t (iv 0)),(2,.ptr 0 0),(0,.t (sv s))],H2,fn+1,54⟩) (A0d (by simp -implicitDefEqProofs)) rfl ?_
 have z0:Xc H2 0=some A9p:=by rw[hH2,look_cons,if_neg (by omega)];exact y0
 have o2:Xc H2 1=some (A7v s i' rr.e (rowP eVr kv' rr.seen)):=by rw[hH2,look_cons,if_neg (by omega)];exact S2.o
 have v2:A0z eVr tyVr H2 kv' rr.seen:=S2.v.imp id λe=>by rw[hH2,look_cons,if_neg (by omega)];exact e
 have m2:Xc H2 fn=some (mRow (encM raw)):=by rw[hH2,look_cons,if_pos rfl]
 have L:=ldR o2;by_cases he:rr.e=0
 rotate_left
 .have hb:(rr.e != 0)=true:=by rw[bne_iff_ne];exact he
  rw[if_pos he]at hR;have hR0:R = .tu [.ag (encM mr0),iv rr.e]:=hR;refine A0a A0g ?_;simp -implicitDefEqProofs [L.l2,hb,bd_z,evQ_z,-evalK_build,st_z z0,ld_z z0,hR0];exact(ldR (H:=Xd H2 0 A9p) (k0:=1) (by rw[A0f,if_neg (by omega)];exact o2)).l2
 have hb:(rr.e != 0)=false:=by rw[he];rfl
 rw[if_neg (λe=>e he)]at hR;rw[hrr]at he;obtain⟨m',seen,hEq,hpl,hsl,hgd,hwf,_⟩:=B6b (n:=s.size+1) (s:=wb s) (by omega) he;have hsml:=C6d (n:=s.size+1) (s:=wb s);rw[hEq]at hsml;simp only at hsml;have hsmm:=hsm m' seen hEq;rw[hEq]at hrr hraw;simp only at hrr hraw;subst hrr hraw;simp only at hR v2 o2 L hb;refine A0a A0g ?_;simp -implicitDefEqProofs [L.l2,hb];have nbc:=C9d (q:=q) (IsS.tree eVr seen) (by omega) (λv hv=>by have:=hsml.2 v hv;rw[A2y]at this;omega) hgd;have tts:toTs H2 [rowP eVr kv' seen]=some ([A1a eVr seen],C6x kv' seen++[]):=F8u v2.toT rfl
 obtain⟨H3,hH3⟩:∃H3:Heap,H3=if(C6x kv' seen++[]).isEmpty then H2 else if A3s (nbT seen)then H2 else remAll H2 (C6x kv' seen++[]):=⟨_,rfl⟩
 have k3:∀c,c≠kv'->Xc H3 c=Xc H2 c:=λc hc=>by
  rw[hH3];split
  .rfl
  .split
   .rfl
   .refine C2t _ _ _ ?_
    cases seen with
    | nil=>simp[C6x]
    | cons a l=>simpa[C6x]using hc
 have C2:Ctx Tryz.prog (G q) _:=(A0s.cons (A4d nbc) .nil).ctx mixed
 have ev:∀nx,A0i (orc [(56,gOne [A1a eVr seen] (nbT seen))]) H2 nx (.call 56) [rowP eVr kv' seen]=some (.t (nbT seen),H3,nx):=λnx=>by
  rw[evalK_call,tts,hH3];simp[A1i]
 have z3:Xc H3 0=some A9p:=by rw[k3 0 kv0.symm];exact z0
 have m3:Xc H3 fn=some (mRow (encM raw)):=by rw[k3 fn (by omega)];exact m2
 unfold finM at hR;have ev3:∀a b c,nbT seen = .tu [a,b,c]->∀nx,A0i (orc [(56,gOne [A1a eVr seen] (nbT seen))]) H2 nx (.call 56) [rowP eVr kv' seen]=some (.t (.tu [a,b,c]),H3,nx):=λa b c h nx=>(ev nx).trans (congrArg (λz=>some (PV.t z,H3,nx)) h)
 cases hns:B7n seen with
 | none=>
  rw[hns]at hR;have hR0:R = .tu [.ag (encM mr0),iv 2]:=hR;have e0:=ev3 nilS nilS (iv 2) (by unfold nbT;rw[hns]);refine A0a C2 ?_;simp -implicitDefEqProofs [L.l3,e0,-evalK_call];refine A0a C2 ?_;simp -implicitDefEqProofs [bd_z,-evalK_build,st_z z3,ld_z z3,hR0]
 | some ns=>
 rw[hns]at hR;have ens:=(C5v hns).1;subst ens;simp only at hR
 cases hms:misA [] seen with
 | true=>
  rw[hms]at hR;have hR0:R = .tu [.ag (encM mr0),iv 17]:=hR;have e0:=ev3 nilS nilS (iv 17) (by unfold nbT;rw[hns];simp only;rw[hms];rfl);refine A0a C2 ?_;simp -implicitDefEqProofs [L.l3,e0,-evalK_call];refine A0a C2 ?_;simp -implicitDefEqProofs [bd_z,-evalK_build,st_z z3,ld_z z3,hR0]
 | false=>
 rw[hms]at hR;simp only[Y6,if_false]at hR
 cases hor:ordV (seen.map nmV)with
 | false=>
  rw[hor]at hR;have hR0:R = .tu [.ag (encM mr0),iv 3]:=hR;have e0:=ev3 nilS nilS (iv 3) (by unfold nbT;rw[hns];simp only;rw[hms,hor];rfl);refine A0a C2 ?_;simp -implicitDefEqProofs [L.l3,e0,-evalK_call];refine A0a C2 ?_;simp -implicitDefEqProofs [bd_z,-evalK_build,st_z z3,ld_z z3,hR0]
 | true=>
 rw[hor]at hR;simp only[Y9,if_false]at hR;have e0:=ev3 (slT eInt (seen.map nmV)) (slT eStr ((upN (cntV (seen.map nmV))).map (A3p seen))) (iv 0) (by unfold nbT;rw[hns];simp only;rw[hms,hor];rfl)
 obtain⟨so,hso⟩:∃so,so=(upN (cntV (seen.map nmV))).map (A3p seen):=⟨_,rfl⟩
 obtain⟨ns,hns'⟩:∃ns,ns=seen.map nmV:=⟨_,rfl⟩
 rw[<-hso,<-hns']at e0
 obtain⟨tn,htn⟩:∃tn,tn=slT eInt ns:=⟨_,rfl⟩
 obtain⟨ts,hts⟩:∃ts,ts=slT eStr so:=⟨_,rfl⟩
 rw[<-htn,<-hts]at e0;refine A0a C2 ?_;simp -implicitDefEqProofs [L.l3,e0,-evalK_call];refine A0a C2 ?_;simp -implicitDefEqProofs
 have hnl:ns.length=(occ raw).length:=by rw[hns',Xg,hsl]
 have rok:=F0s hpl hnl (by rw[hns',Xg];omega);have C3:Ctx Tryz.prog (G q) _:=(A0s.cons (hRn (tn:=tn) (ns:=ns) rok (by rw[htn];exact IsS.mk ns)) .nil).ctx mixed;have L3:=ldM m3;have er:=G2x (m:=raw) (tn:=tn) (ns:=ns)
 obtain⟨H4,hH4⟩:∃H4,H4=Xd H3 fn (mRow (encM (renM ns raw))):=⟨_,rfl⟩
 have s4:A0x 5 H3 (.ptr fn 0) (.t (.ag (encM (renM ns raw))))=some H4:=by rw[hH4];exact st5 m3 rfl
 have z4:Xc H4 0=some A9p:=by rw[hH4,A0f,if_neg (by omega)];exact z3
 have m4:Xc H4 fn=some (mRow (encM (renM ns raw))):=by rw[hH4,A0f,if_pos rfl,m3];rfl
 have a3:=L3.all;rw[show(T.ag [iv raw.top,iv raw.index,A1a eStr raw.vars,A1a eEC (raw.rels.map EC.of),A1a eQq raw.cons]) = .ag (encM raw)from rfl]at a3;refine A0a C3 ?_;simp -implicitDefEqProofs [a3,er,s4]
 obtain⟨m,hm⟩:∃m,m=outM raw seen:=⟨_,rfl⟩
 have hmo:outC m=[iv (renM ns raw).top,iv (renM ns raw).index,ts,A1a eEC ((renM ns raw).rels.map EC.of),A1a eQq (renM ns raw).cons]:=by
  rw[hm,hts,hso,hns'];rfl
 obtain⟨H5,hH5⟩:∃H5,H5=Xd H4 fn (mRow (outC m)):=⟨_,rfl⟩
 have s5:A0x 1 H4 (.ptr fn 2) (.t ts)=some H5:=by
  rw[hH5,hmo,hts];exact A1z (ns:=[.t (slT eStr so)]) m4 rfl rfl (by show 2+1<=5;omega)
 have z5:Xc H5 0=some A9p:=by rw[hH5,A0f,if_neg (by omega)];exact z4
 have m5:Xc H5 fn=some (mRow (outC m)):=by rw[hH5,A0f,if_pos rfl,m4];rfl
 refine A0a C3 ?_;simp -implicitDefEqProofs [s5];have C4:Ctx Tryz.prog (G q) _:=(A0s.cons (D1s (q:=q)) .nil).ctx mixed;rw[<-hm]at hR hsmm;have ec:C2b [.ag (outC m)]=some (iv (A3c A0h m)):=B3a _ (C0a m) hsmm;have a5:=(ldM m5).all;rw[show(T.ag [iv m.top,iv m.index,slT eStr m.vars,A1a eEC (m.rels.map EC.of),A1a eQq m.cons]) = .ag (outC m)from rfl]at a5
 obtain⟨e,he⟩:∃e,e=A3c A0h m:=⟨_,rfl⟩
 rw[<-he]at ec hR;by_cases h0:e=0
 .have d1:(e != 0)=false:=by rw[h0];rfl
  rw[if_neg (λh=>h h0)]at hR;have hR0:R = .tu [.ag (outC m),iv 0]:=hR;have s6:A0x 5 H5 (.ptr 0 0) (.t (.ag (outC m)))=some (Xd H5 0 (mRow (outC m))):=st5 z5 rfl;have a6:=(ldM (H:=Xd H5 0 (mRow (outC m))) (k:=0) (by rw[A0f,if_pos rfl,z5];rfl)).all;rw[show(T.ag [iv m.top,iv m.index,slT eStr m.vars,A1a eEC (m.rels.map EC.of),A1a eQq m.cons]) = .ag (outC m)from rfl]at a6;refine A0a C4 ?_;simp -implicitDefEqProofs [a5,ec,d1];refine A0e C4 ?_;simp -implicitDefEqProofs [a5,s6,a6,hR0]
 .have d1:(e != 0)=true:=by rw[bne_iff_ne];exact h0
  rw[if_pos h0]at hR;have hR0:R = .tu [.ag (encM mr0),iv e]:=hR;refine A0a C4 ?_;simp -implicitDefEqProofs [a5,ec,d1,bd_z,-evalK_build,st_z z5,ld_z z5,hR0]
theorem D6y (sep:List UInt8):∀{l:List (List UInt8)} {y:List UInt8},y∈l->y.length<=(sepL sep l).length
 | [x],y,h=>by
  rw[List.mem_singleton.1 h];exact Xe _
 | x::z::r,y,h=>by
  rw[A7s];simp only[Xk];rcases Xh.1 h with e | h
  .rw[e];omega
  .have:=D6y sep h;omega
theorem F1b {w:Int->List UInt8} {m:Mr} {x:Ep} (hx:x∈m.rels):(prtE w x).length<=(prtW w m).length:=by
 have:=D6y [59,32] (Xj.2 ⟨x,hx,rfl⟩:prtE w x∈m.rels.map (prtE w));unfold prtW;simp only[Xk,Xm];omega
theorem F1c (w:Int->List UInt8) (x:Ep):(wb x.pred).length<=(prtE w x).length:=by
 unfold prtE;simp only[Xk,Xm];omega
theorem F1d (w:Int->List UInt8) {x:Ep} {a:Ag} (ha:a∈x.args):(wb a.role).length<=(prtE w x).length:=by
 have:=D6y [44,32] (Xj.2 ⟨a,ha,rfl⟩:prtA w a∈x.args.map (prtA w));unfold prtE
 have h2:(wb a.role).length<=(prtA w a).length:=by unfold prtA;simp only[Xk,Xm];omega
 simp only[Xk,Xm];omega
theorem F1e {s:ByteArray} (h:s.size<=1000):SmP s:=λraw l he=>by
 have hwl:=A2y s
 have h0:(A7r ((wb s).length+1) ⟨wb s,0,[]⟩).1.e=0:=by rw[he]
 obtain⟨m',seen,hEq,hpl,hsl,hgd,hwf,hw⟩:=B6b (n:=(wb s).length+1) (s:=wb s) (by omega) h0;rw[he]at hEq;injection hEq with e1 e2;injection e1 with _ _ e1;subst e1;subst e2;have hsm:=(C6d (n:=(wb s).length+1) (s:=wb s)).1;rw[he]at hsm;simp only at hsm;have ec:=C9b raw
 have hE:∀l:List Ep,l.length<=nE l/\∀x∈l,x.args.length<=nE l:=λl=>by
  induction l with
  | nil=>exact⟨Xe _,λx hx=>by cases hx⟩
  | cons y l ih=>
   rw[nE];refine⟨by rw[Xm];omega,λx hx=>?_⟩;rcases Xh.1 hx with rfl | hx
   .omega
   .have:=ih.2 x hx;omega
 have hr:=hE raw.rels
 obtain⟨w,hw0⟩:∃w:Int->List UInt8,w=λp=>((l[p.toNat]?).map vW).getD []:=⟨_,rfl⟩
 have hww:Wt w l:=λp v hp=>by rw[hw0];simp only[X1];rw[hp];rfl
 have hs:=hw w hww
 have hlen:(prtW w raw).length<=1000:=by rw[<-hs];omega
 have hlim:1000<=lim:=by decide
 refine⟨?_,?_,?_,λx hx=>?_,λx hx=>?_,λt ht=>?_⟩
 .show((upN (cntV (l.map nmV))).map (A3p l)).length<=_;rw[Xg,A2u];have:=B9s (l.map nmV);rw[Xg]at this;show(accL (l.map nmV)).length<=_;omega
 .show(raw.rels.map _).length<=_;rw[Xg];omega
 .show(raw.cons.map _).length<=_;rw[Xg];omega
 .obtain⟨y,hy,rfl⟩:=Xj.1 hx;show(y.args.map _).length<=_;rw[Xg];have:=hr.2 y hy;omega
 .obtain⟨y,hy,rfl⟩:=Xj.1 hx;have g:=F1b (w:=w) hy;have g1:=F1c w y;rw[A2y]at g1;refine⟨by show y.pred.size<=_;omega,λa ha=>?_⟩;obtain⟨b,hb,rfl⟩:=Xj.1 ha;have g2:=F1d w hb;rw[A2y]at g2;show b.role.size<=_;omega
 .obtain⟨n,hn,rfl⟩:=Xj.1 ht;unfold A3p
  cases hf:l.find? λv=>decide (nmV v=n)with
  | none=>show(0:Nat)<=_;omega
  | some v=>
   obtain⟨c,hc,_⟩:=(hgd v (Yx hf)).sort;show v.sort.size<=_;rw[hc];show(1:Nat)<=_;omega
noncomputable def A8k:A0p:=cm Tryz.f13 136
theorem B6i {q:Gl}:FnOK Tryz.prog (G q) 13 0 136 A8k [(.tmp 0)]:=fk Tryz.func13 (by kernel_rfl) (by kernel_rfl)
def exF:List UInt8:=[104,48,32,101,49,32,123,104,50,58,98,97,114,107,40,65,82,71,48,32,101,49,44,32,65,82,71,49,32,120,51,41,59,32,104,50,58,100,111,103,40,65,82,71,48,32,120,51,41,125,32,123,104,48,32,113,101,113,32,104,50,125]
def exM1:Mr:=⟨0,1,[ob [104],ob [101],ob [104],ob [120]],[⟨ob [98,97,114,107],2,[⟨ob [65,82,71,48],1⟩,⟨ob [65,82,71,49],3⟩]⟩,⟨ob [100,111,103],2,[⟨ob [65,82,71,48],3⟩]⟩],[⟨0,2⟩]⟩
def exN1:Mr:=⟨0,1,[ob [104],ob [101],ob [120],ob [104]],[⟨ob [100,111,103],3,[⟨ob [65,82,71,48],2⟩]⟩,⟨ob [98,97,114,107],3,[⟨ob [65,82,71,48],1⟩,⟨ob [65,82,71,49],2⟩]⟩],[⟨0,3⟩]⟩
theorem G3a:parM exF = .ok exM1:=by kernel_rfl
theorem C6e:A3c A0h exM1=0:=by kernel_rfl
theorem F9n:A3c A0h exN1=3:=by kernel_rfl
theorem C9e:A4f A0h exN1=0:=by kernel_rfl
theorem G3b:prtM exM1=exF:=by kernel_rfl
theorem G3c:A1r (A1l exM1 (numM exN1)) exM1 (numM exN1)=some [1,0]:=by kernel_rfl
theorem ex_p6:parM [104,48,32,101,49,32,123,125,32,123] = .error 9:=by kernel_rfl
theorem ex_p7:parM [104,48,32,101,48,49,32,123,125,32,123,125] = .error 8:=by kernel_rfl
theorem ex_p8:parM [104,48,32,101,48,32,123,125,32,123,125] = .error 17:=by kernel_rfl
theorem ex_p9:parM [104,48,32,101,50,32,123,125,32,123,125] = .error 3:=by kernel_rfl
theorem G3d:parM [101,48,32,104,49,32,123,125,32,123,125] = .error 2:=by kernel_rfl
theorem G3e:cmpT (A7y exM1)=slT eStr [ob [98,97,114,107],ob [100,111,103]]:=by
 unfold cmpT;rw[D9u,if_neg (by decide)]
 kernel_rfl
theorem D3p {m:Mr} (h:A7q A0h m) (ha:∀x∈m.rels,x.args.length<=1000) (hs:∀x∈m.rels,x.pred.size<=lim/\∀a∈x.args,a.role.size<=lim):SmM m:=
 ⟨by have:=h.vars;omega,by have:=h.rels;omega,by have:=h.cons;omega,ha,hs,λs hs'=>by
  obtain⟨c,rfl,_⟩:=B1v (h.sorts s hs');show(1:Nat)<=_
  decide⟩
theorem E1e:SmM exM1:=D3p (A5t.1 C6e).1 (by decide) (by decide)
theorem F5v:SmM exN1:=D3p (A4j.1 C9e) (by decide) (by decide)
theorem G3f:SmM (numM exN1):=D3p (A9f (A4j.1 C9e)) (by decide) (by decide)
noncomputable def gPx:List T->Option T
 | [.v (.string s)]=>if s.size<=1000 then some (parT (parM (wb s)))else none
 | _=>none
theorem hPx:GOK Tryz.prog (G q) 27 gPx:=λargs r hr=>by
 unfold gPx at hr;split at hr
 .rename_i s;split at hr
  .rename_i h;injection hr with hr;subst hr;exact B4o (by omega) (F1e h)
  .cases hr
 .cases hr
theorem C6f {s:ByteArray} {l:List UInt8} {r:Except Int Mr} (hs:s=ob l) (hl:l.length<=1000) (h:parM l=r):gPx [.v (.string s)]=some (parT r):=by
 subst hs
 have e:(ob l).size=l.length:=by rw[<-A2y,A3o]
 show(if(ob l).size<=1000 then _ else _)=_;rw[if_pos (by omega),A3o,h]
theorem C3c:MtIn exM1 (encM exM1):=⟨A3h _,E1e,(A5t.1 C6e).1,by decide⟩
theorem B6j:MtIn (numM exN1) (encM (numM exN1)):=⟨A3h _,G3f,A9f (A4j.1 C9e),by decide⟩
theorem lb_s (a b c d:ByteArray) (k:Nat):A1v tyS 1 [.string ⟨#[]⟩] 4 [(0,.t (sv a)),(1,.t (sv b)),(2,.t (sv c)),(3,.t (sv d))] k=some (.row k 0 4 1,.cells tyS [.t (sv a),.t (sv b),.t (sv c),.t (sv d)]):=rfl
theorem lb_a (a b c d:T) (k:Nat):A1v tyA 2 [.string ⟨#[]⟩,.int .i64 0] 2 [(0,.t (.ag [a,b])),(1,.t (.ag [c,d]))] k=some (.row k 0 2 2,.cells tyA [.t a,.t b,.t c,.t d]):=rfl
theorem lb_e (a b c d e f:PV) (k:Nat):A1v tyEp 3 [.string ⟨#[]⟩,.int .i64 0,.slice none 0 0] 2 [(0,.ag [a,b,c]),(1,.ag [d,e,f])] k=some (.row k 0 2 3,.cells tyEp [a,b,c,d,e,f]):=rfl
theorem lb_q (a b:Int) (k:Nat):A1v tyQe 2 [.int .i64 0,.int .i64 0] 1 [(0,.t (.ag [iv a,iv b]))] k=some (.row k 0 1 2,.cells tyQe [.t (iv a),.t (iv b)]):=rfl
theorem lbd_e (Φ:A0u) (H:Heap) (nx:Nat) (r:ByteArray) (v:Int) (k n:Nat):A0i Φ H nx (.build [(0,1),(1,1),(2,1)] [.string ⟨#[]⟩,.int .i64 0,.slice none 0 0] [0,1,2]) [.t (sv r),.t (iv v),.row k 0 n 2]=some (.ag [.t (sv r),.t (iv v),.row k 0 n 2],H,nx):=rfl
theorem lbd_m (Φ:A0u) (H:Heap) (nx:Nat) (v:Int) (a b c d e f:Nat):A0i Φ H nx (.build [(0,1),(1,1),(2,1),(3,1),(4,1)] [.int .i64 0,.int .i64 0,.slice none 0 0,.slice none 0 0,.slice none 0 0] [1,2,3,4]) [.t (iv v),.row a 0 b 1,.row c 0 d 3,.row e 0 f 2]=some (.ag [.t (iv 0),.t (iv v),.row a 0 b 1,.row c 0 d 3,.row e 0 f 2],H,nx):=rfl
theorem ls_m (H:Heap) (k:Nat) (a b c d e:PV) (a' b' c' d' e':PV):A0x 5 ((k,.cells tyMr [a',b',c',d',e'])::H) (.ptr k 0) (.ag [a,b,c,d,e])=some ((k,.cells tyMr [a,b,c,d,e])::H):=by
 rw[show A0x 5 ((k,.cells tyMr [a',b',c',d',e'])::H) (.ptr k 0) (.ag [a,b,c,d,e])=some (Xd ((k,.cells tyMr [a',b',c',d',e'])::H) k (.cells tyMr (A2m [a',b',c',d',e'] 0 [a,b,c,d,e])))from A1z (ns:=[a,b,c,d,e]) (by rw[look_cons,if_pos rfl]) rfl rfl (Xe 5)];simp[Xd,A2m]
def exH (M0:Row):Heap:=[(6,.cells tyMr [.t (iv 0),.t (iv 1),.row 1 0 4 1,.row 4 0 2 3,.row 5 0 1 2]),(5,.cells tyQe [.t (iv 0),.t (iv 3)]),
 (4,.cells tyEp [.t (sv (ob [100,111,103])),.t (iv 3),.row 2 0 1 2,.t (sv (ob [98,97,114,107])),.t (iv 3),.row 3 0 2 2]),
 (3,.cells tyA [.t (sv (ob [65,82,71,48])),.t (iv 1),.t (sv (ob [65,82,71,49])),.t (iv 2)]),(2,.cells tyA [.t (sv (ob [65,82,71,48])),.t (iv 2)]),
 (1,.cells tyS [.t (sv (ob [104])),.t (sv (ob [101])),.t (sv (ob [120])),.t (sv (ob [104]))]),(0,M0)]
theorem F9o (cM:List T):Xc (A5u (A5u (exH (mRow cM)) [2,3]) [1,4,5]) 6=some (mRow (encM exN1))/\Xc (A5u (A5u (exH (mRow cM)) [2,3]) [1,4,5]) 0=some (mRow cM):=by
 have a1:Xc (A5u (exH (mRow cM)) [2,3]) 6=some (.cells tyMr [.t (iv 0),.t (iv 1),.row 1 0 4 1,.row 4 0 2 3,.row 5 0 1 2]):=A1b (F:=[2,3]) (c:=6) (by decide) (r:=.cells tyMr [.t (iv 0),.t (iv 1),.row 1 0 4 1,.row 4 0 2 3,.row 5 0 1 2]) rfl
 have b1:Xc (A5u (exH (mRow cM)) [2,3]) 0=some (mRow cM):=by rw[A1b (F:=[2,3]) (c:=0) (r:=mRow cM) (by decide) rfl,B9r]
 exact⟨A1b (F:=[1,4,5]) (c:=6) (by decide) a1,by rw[A1b (F:=[1,4,5]) (c:=0) (by decide) b1,B9r]⟩
theorem s_z (k:Nat) (H:Heap):A0x 5 ((k,.cells tyMr [.t (iv 0),.t (iv 0),.t nilS,.t nilS,.t nilS])::H) (.ptr k 0) (.t (.ag (encM mr0)))=some ((k,A9p)::H):=by
 rw[show(T.ag (encM mr0)) = .ag [iv 0,iv 0,nilS,nilS,nilS]from rfl,st5 (cs:=[.t (iv 0),.t (iv 0),.t nilS,.t nilS,.t nilS]) (by rw[look_cons,if_pos rfl]) rfl];simp[Xd];rfl
theorem D3q:A1d Tryz.prog (G q) 13 [] (· = bv true):=by
 have hN:=A4d (B1u (q:=q) (A3h exN1) F5v (A4j.1 C9e).ok);have hM:=A4d (B0d (q:=q) C3c.is B6j.is C3c.sm B6j.sm C3c.lo B6j.lo C3c.oc B6j.oc (C2a C6e).2);have hS:=A4d (B7r (q:=q) C3c B6j (C2a C6e).2);have hP:=A4d (B4m (q:=q) (A3h exM1) E1e (A5t.1 C6e).1);have hD:=A4d (C2s (q:=q) (A3h exM1) E1e);rw[G3c]at hM hS;rw[show mmT (some [1,0])=T.tu [slT eInt [1,0],bv true]from rfl]at hM;rw[G3b]at hP;rw[G3e]at hD
 obtain⟨cM,hcM⟩:∃cM,cM=encM exM1:=⟨_,rfl⟩
 obtain⟨cN,hcN⟩:∃cN,cN=encM exN1:=⟨_,rfl⟩
 obtain⟨cQ,hcQ⟩:∃cQ,cQ=encM (numM exN1):=⟨_,rfl⟩
 rw[<-hcM]at hM hS hP hD;rw[<-hcN,<-hcQ]at hN;rw[<-hcQ]at hM hS;have C:Ctx Tryz.prog (G q) _:=(A0s.cons (hPx (q:=q)) (.cons (D1s (q:=q)) (.cons hN (.cons hM (.cons hS (.cons hP (.cons hD .nil))))))).ctx mixed
 obtain⟨B,hB⟩:∃B:ByteArray,B=⟨#[104,48,32,101,49,32,123,104,50,58,98,97,114,107,40,65,82,71,48,32,101,49,44,32,65,82,71,49,32,120,51,41,59,32,104,50,58,100,111,103,40,65,82,71,48,32,120,51,41,125,32,123,104,48,32,113,101,113,32,104,50,125]⟩:=⟨_,rfl⟩
 have hBo:B=ob exF:=hB
 have g1:gPx [.v (.string B)]=some (.tu [.ag cM,iv 0]):=by
  rw[C6f hBo (by decide) G3a,hcM];rfl
 have g6:=C6f (s:=⟨#[104,48,32,101,49,32,123,125,32,123]⟩) rfl (by decide) ex_p6;have g7:=C6f (s:=⟨#[104,48,32,101,48,49,32,123,125,32,123,125]⟩) rfl (by decide) ex_p7;have g8:=C6f (s:=⟨#[104,48,32,101,48,32,123,125,32,123,125]⟩) rfl (by decide) ex_p8;have g9:=C6f (s:=⟨#[104,48,32,101,50,32,123,125,32,123,125]⟩) rfl (by decide) ex_p9;have g10:=C6f (s:=⟨#[101,48,32,104,49,32,123,125,32,123,125]⟩) rfl (by decide) G3d;simp only[parT]at g6 g7 g8 g9 g10;refine B6i.call rfl ?_;(conv in A8k=>cbv);rw[<-hB];refine A0a C ?_;simp -implicitDefEqProofs
 obtain⟨M0,hM0⟩:∃M0,M0=mRow cM:=⟨_,rfl⟩
 have s1:∀H,A0x 5 ((0,.cells tyMr [.t (iv 0),.t (iv 0),.t nilS,.t nilS,.t nilS])::H) (.ptr 0 0) (.t (.ag cM))=some ((0,M0)::H):=λH=>by
  rw[hM0,hcM,encM,st5 (cs:=[.t (iv 0),.t (iv 0),.t nilS,.t nilS,.t nilS]) (by rw[look_cons,if_pos rfl]) rfl];simp[Xd]
 refine A0a C ?_;simp -implicitDefEqProofs [g1,s1];refine A0a C ?_;simp -implicitDefEqProofs [lb_s,lb_a,lb_e,lb_q,bs_A,F7s,F7t,lbd_e,lbd_m,ls_m,-evalK_build];refine MC.sub (s':=⟨[(3,.ptr 6 0),(2,.t (iv 0)),(1,.ptr 0 0)],exH M0,7,136⟩) (A0d (by simp -implicitDefEqProofs)) rfl ?_;refine MC.sub (s':=⟨[(3,.ptr 6 0),(2,.t (iv 0)),(1,.ptr 0 0)],A5u (exH M0) [2,3],7,136⟩) (A5i [2,3] (by simp -implicitDefEqProofs [fz_t,B1t])) rfl ?_;refine MC.sub (s':=⟨[(3,.ptr 6 0),(2,.t (iv 0)),(1,.ptr 0 0)],A5u (A5u (exH M0) [2,3]) [1,4,5],7,136⟩) (A5i [1,4,5] (by simp -implicitDefEqProofs [fz_t,B1t])) rfl ?_;obtain⟨z6,z0⟩:=F9o cM;rw[<-hM0,<-hcN]at z6;rw[<-hM0]at z0
 obtain⟨N0,hN0⟩:∃N0,N0=mRow cN:=⟨_,rfl⟩
 rw[<-hN0]at z6;refine MC.sub (s':=⟨[(3,.ptr 6 0),(2,.t (iv 0)),(1,.ptr 0 0)],[(6,N0),(0,M0)],7,136⟩) (A1q rfl rfl (by simp[Xc]) (by simp[z6,z0])) rfl ?_
 have lM:∀H,Xc H 0=some M0->A0t true 5 H (.ptr 0 0)=some (.t (.ag cM)):=λH h=>by
  rw[hcM];exact(ldM (by rw[h,hM0,hcM];rfl)).all
 have lN:∀H,Xc H 6=some N0->A0t true 5 H (.ptr 6 0)=some (.t (.ag cN)):=λH h=>by
  rw[hcN];exact(ldM (by rw[h,hN0,hcN];rfl)).all
 have lM0:=lM [(6,N0),(0,M0)] rfl;have lN0:=lN [(6,N0),(0,M0)] rfl;have eN:=A1i [.ag cN] (.ag cQ);have eM:=A1i [.ag cM,.ag cQ] (T.tu [slT eInt [1,0],bv true]);have eS:=A1i [.ag cM,.ag cQ] (bv true);have eP:=A1i [.ag cM] (sv (ob exF));have eD:=A1i [.ag cM] (slT eStr [ob [98,97,114,107],ob [100,111,103]]);refine A0a C ?_;simp -implicitDefEqProofs [lM0,lN0,eN,eM];refine MC.sub (s':=⟨[(5,.t (bv true)),(4,.t (slT eInt [1,0])),(3,.ptr 6 0),(2,.t (iv 0)),(1,.ptr 0 0)],[(6,N0),(0,M0)],7,136⟩) (A0d (by simp -implicitDefEqProofs)) rfl ?_;refine A0a C ?_;simp -implicitDefEqProofs [g6,s_z];refine MC.sub (s':=⟨[(7,.t (iv 9)),(5,.t (bv true)),(4,.t (slT eInt [1,0])),(3,.ptr 6 0),(2,.t (iv 0)),(1,.ptr 0 0)],[(6,N0),(0,M0)],8,136⟩) (A1q rfl rfl (by simp[Xc]) (by simp[Xc])) rfl ?_;refine A0a C ?_;simp -implicitDefEqProofs [g7,s_z];refine MC.sub (s':=⟨[(9,.t (iv 8)),(7,.t (iv 9)),(5,.t (bv true)),(4,.t (slT eInt [1,0])),(3,.ptr 6 0),(2,.t (iv 0)),(1,.ptr 0 0)],[(6,N0),(0,M0)],9,136⟩) (A1q rfl rfl (by simp[Xc]) (by simp[Xc])) rfl ?_;refine A0a C ?_;simp -implicitDefEqProofs [g8,s_z];refine MC.sub (s':=⟨[(11,.t (iv 17)),(9,.t (iv 8)),(7,.t (iv 9)),(5,.t (bv true)),(4,.t (slT eInt [1,0])),(3,.ptr 6 0),(2,.t (iv 0)),(1,.ptr 0 0)],[(6,N0),(0,M0)],10,136⟩) (A1q rfl rfl (by simp[Xc]) (by simp[Xc])) rfl ?_;refine A0a C ?_;simp -implicitDefEqProofs [g9,s_z];refine MC.sub (s':=⟨[(13,.t (iv 3)),(11,.t (iv 17)),(9,.t (iv 8)),(7,.t (iv 9)),(5,.t (bv true)),(4,.t (slT eInt [1,0])),(3,.ptr 6 0),(2,.t (iv 0)),(1,.ptr 0 0)],[(6,N0),(0,M0)],11,136⟩) (A1q rfl rfl (by simp[Xc]) (by simp[Xc])) rfl ?_;refine A0a C ?_;simp -implicitDefEqProofs [g10,s_z];refine MC.sub (s':=⟨[(15,.t (iv 2)),(13,.t (iv 3)),(11,.t (iv 17)),(9,.t (iv 8)),(7,.t (iv 9)),(5,.t (bv true)),(4,.t (slT eInt [1,0])),(3,.ptr 6 0),(2,.t (iv 0)),(1,.ptr 0 0)],[(6,N0),(0,M0)],12,136⟩) (A1q rfl rfl (by simp[Xc]) (by simp[Xc])) rfl ?_;refine A0a C ?_;simp -implicitDefEqProofs [lM0,eD];refine MC.sub (s':=⟨[(16,.t (slT eStr [ob [98,97,114,107],ob [100,111,103]])),(15,.t (iv 2)),(13,.t (iv 3)),(11,.t (iv 17)),(9,.t (iv 8)),(7,.t (iv 9)),(5,.t (bv true)),(4,.t (slT eInt [1,0])),(3,.ptr 6 0),(2,.t (iv 0)),(1,.ptr 0 0)],[(6,N0),(0,M0)],12,136⟩) (A0d (by simp -implicitDefEqProofs)) rfl ?_
 have c1:C2b [.ag cM]=some (iv 0):=by
  have:=B3a (λm=>iv (A3c A0h m)) (A3h exM1) E1e;rw[C6e,<-hcM]at this;exact this
 have c2:C2b [.ag cN]=some (iv 3):=by
  have:=B3a (λm=>iv (A3c A0h m)) (A3h exN1) F5v;rw[F9n,<-hcN]at this;exact this
 rw[<-hBo]at eP hP;have ln1:A6t (.t (slT eInt [1,0]))=some (.t (iv 2)):=rfl;have ln2:A6t (.t (slT eStr [ob [98,97,114,107],ob [100,111,103]]))=some (.t (iv 2)):=rfl;have ia0:A2e 1 (.t (slT eInt [1,0])) (.t (.v (.int .i64 0)))=some (.t (.pt [iv 1,iv 0])):=rfl;have ia1:A2e 1 (.t (slT eInt [1,0])) (.t (.v (.int .i64 1)))=some (.t (.pt [iv 0])):=rfl;have ia2:A2e 1 (.t (slT eStr [ob [98,97,114,107],ob [100,111,103]])) (.t (.v (.int .i64 0)))=some (.t (.pt [sv (ob [98,97,114,107]),sv (ob [100,111,103])])):=rfl
 have dB:((ob [98,97,114,107]).toList==(⟨#[98,97,114,107]⟩:ByteArray).toList)=true:=by
  rw[show ob [98,97,114,107]=⟨#[98,97,114,107]⟩from rfl];exact beq_self_eq_true _
 have CE:Ctx Tryz.prog (G q) _:=(A0s.cons (D1s (q:=q)) (.cons hN (.cons hS (.cons hP .nil)))).ctx mixed;refine A0e CE ?_;simp -implicitDefEqProofs [lM0,lN0,c1,c2,eN,eS,eP,ln1,ln2,ia0,ia1,ia2,lp,dB]
section
variable {m : Mr} {cs : List T}
theorem hEx:GOK Tryz.prog (G q) 13 (gOne [] (bv true)):=A4d D3q
end
end Go.Proofs.YtmgjopafgboljaaGreatDoor
