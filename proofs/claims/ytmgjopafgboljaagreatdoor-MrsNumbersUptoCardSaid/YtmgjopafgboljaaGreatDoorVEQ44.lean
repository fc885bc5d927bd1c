/- Auxiliary facts. -/
import Derived.Test.YtmgjopafgboljaaGreatDoorVEQ42
import Derived.Test.YtmgjopafgboljaaGreatDoorVEQ34
import Derived.Test.YtmgjopafgboljaaGreatDoorVEQ32
import Derived.Test.YtmgjopafgboljaaGreatDoorVEQ48
set_option linter.unusedSimpArgs false
set_option maxRecDepth 100000
set_option maxHeartbeats 0
set_option linter.unusedVariables false
namespace Go.Proofs.YtmgjopafgboljaaGreatDoor
open Go Go.Abs
variable {q : Gl}
structure RuR (m:Mr) (X:Row) (V:List ByteArray) (RL:List EC) (CL:List Qq) (H:Heap) (nx bv br bc:Nat):Prop where
 x:Abs.look H 0=some X
 z:Abs.look H 1=some zMr
 ob:Abs.look H 2=some (.cells 26 [.t (iv (rho m m.top)),.t (iv (rho m m.index)),rowP eStr bv V,rowP eEC br RL,rowP eQq bc CL])
 rv:A0z eStr tyS H bv V
 rr:A0z eEC tyE H br RL
 rc:A0z eQq tyQ H bc CL
 v2:2<bv
 vl:bv<nx
 r2:2<br
 rl:br<nx
 c2:2<bc
 cl:bc<nx
 vr:bv≠br
 vc:bv≠bc
 rc':br≠bc
theorem RuR.put {m:Mr} {X:Row} {V V':List ByteArray} {RL RL':List EC} {CL CL':List Qq} {H H':Heap} {nx nx' bv br bc bv' br' bc':Nat} (h:RuR m X V RL CL H nx bv br bc)
  (hk:∀c,c<nx->c≠2->c≠bv->c≠br->c≠bc->Abs.look H' c=Abs.look H c) (ho:Abs.look H' 2=some (.cells 26 [.t (iv (rho m m.top)),.t (iv (rho m m.index)),rowP eStr bv' V',rowP eEC br' RL',rowP eQq bc' CL']))
  (hv:A0z eStr tyS H' bv' V') (hr:A0z eEC tyE H' br' RL') (hc:A0z eQq tyQ H' bc' CL') (v2:2<bv') (vl:bv'<nx') (r2:2<br') (rl:br'<nx') (c2:2<bc') (cl:bc'<nx') (vr:bv'≠br') (vc:bv'≠bc') (rc':br'≠bc') :
  RuR m X V' RL' CL' H' nx' bv' br' bc':=by
 have a:=h.v2;have a1:=h.vl;have b:=h.r2;have c:=h.c2;refine⟨?_,?_,ho,hv,hr,hc,v2,vl,r2,rl,c2,cl,vr,vc,rc'⟩
 ·rw[hk 0 (by omega) (by omega) (by omega) (by omega) (by omega)];exact h.x
 ·rw[hk 1 (by omega) (by omega) (by omega) (by omega) (by omega)];exact h.z
theorem RuR.more {m:Mr} {X:Row} {V:List ByteArray} {RL:List EC} {CL:List Qq} {H H':Heap} {nx nx' bv br bc:Nat} (h:RuR m X V RL CL H nx bv br bc) (hn:nx<=nx') (hk:∀c,c<nx->Abs.look H' c=Abs.look H c):RuR m X V RL CL H' nx' bv br bc:=by
 have a:=h.v2;have a1:=h.vl;have b:=h.r2;have b1:=h.rl;have c:=h.c2;have c1:=h.cl
 exact h.put (fun c hc _ _ _ _=>hk c hc) (by rw[hk 2 (by omega)];exact h.ob) (h.rv.imp id fun e=>by rw[hk bv (by omega)];exact e) (h.rr.imp id fun e=>by rw[hk br (by omega)];exact e) (h.rc.imp id fun e=>by rw[hk bc (by omega)];exact e)
  a (by omega) b (by omega) c (by omega) h.vr h.vc h.rc'
theorem RuR.frz {m:Mr} {X:Row} {cs:List T} (hX:X=mRow cs) {V:List ByteArray} {RL:List EC} {CL:List Qq} {H:Heap} {nx bv br bc:Nat} (h:RuR m X V RL CL H nx bv br bc) {F:List Nat} (hF:∀c∈F,2<c/\c≠bv/\c≠br/\c≠bc) :
  RuR m X V RL CL (A5u H F) nx bv br bc:=by
 have n:∀c,c<=2->c∉F:=fun c hc hm=>by have:=(hF c hm).1;omega
 have nv:bv∉F:=fun hm=>(hF _ hm).2.1 rfl;have nr:br∉F:=fun hm=>(hF _ hm).2.2.1 rfl;have nc:bc∉F:=fun hm=>(hF _ hm).2.2.2 rfl;refine⟨?_,?_,?_,h.rv.frz nv,h.rr.frz nr,h.rc.frz nc,h.v2,h.vl,h.r2,h.rl,h.c2,h.cl,h.vr,h.vc,h.rc'⟩
 ·rw[A1b (n 0 (by omega)) h.x,hX,B9r]
 ·rw[A1b (n 1 (by omega)) h.z];rfl
 ·rw[A1b (n 2 (by omega)) h.ob];simp only[A6u,List.map_cons,List.map_nil,fz_t,B8u h.rv nv,B8u h.rr nr,B8u h.rc nc]
def varI (m:Mr) (i:Nat):List ByteArray:=((fsts m).take i).map (vS m.vars)
theorem E9h {m:Mr} {i:Nat} {v:Int} (h:(fsts m)[i]?=some v):varI m (i+1)=varI m i++[vS m.vars v]:=by
 unfold varI;rw[List.take_add_one,h];simp
structure RuY (m:Mr) (X:Row) (x:Ep) (i j:Nat) (H:Heap) (nx bv br bc ky ba:Nat):Prop where
 r:RuR m X (varI m (fsts m).length) (relI m i) [] H nx bv br bc
 y:Abs.look H ky=some (.cells tyE [.t (sv x.pred),.t (iv (rho m x.label)),rowP eAg ba (agI m x j)])
 ra:A0z eAg tyA H ba (agI m x j)
 y2:2<ky
 yl:ky<nx
 a2:2<ba
 al:ba<nx
 yv:ky≠bv
 yr:ky≠br
 yc:ky≠bc
 av:ba≠bv
 ar:ba≠br
 ac:ba≠bc
 ya:ky≠ba
def SRv (tl:T) (a:NuA):A0c:=⟨[(5,.t (iv (a.i:Int))),(4,.ptr 2 0),(3,.t tl),(2,.ptr 1 0),(1,.ptr 0 0)],a.H,a.nx,131⟩
def SRr (tl:T) (a:NuA):A0c:=⟨[(6,.t (iv (a.i:Int))),(4,.ptr 2 0),(3,.t tl),(2,.ptr 1 0),(1,.ptr 0 0)],a.H,a.nx,131⟩
def SRc (tl:T) (a:NuA):A0c:=⟨[(10,.t (iv (a.i:Int))),(4,.ptr 2 0),(3,.t tl),(2,.ptr 1 0),(1,.ptr 0 0)],a.H,a.nx,131⟩
def SRy (tl:T) (i:Nat) (a:NuB):A0c:=⟨[(8,.t (iv (a.j:Int))),(7,.ptr a.ky 0),(6,.t (iv (i:Int))),(4,.ptr 2 0),(3,.t tl),(2,.ptr 1 0),(1,.ptr 0 0)],a.H,a.nx,131⟩
theorem bd_zz (H:Heap) (nx:Nat) (Φ:A0u) (p l:Int):A0i Φ H nx (.build [(0,1),(1,1),(2,1),(3,1),(4,1)] [.int .i64 0,.int .i64 0,.slice none 0 0,.slice none 0 0,.slice none 0 0] [0,1]) [.t (iv p),.t (iv l)]=some (.t (.ag [iv p,iv l,nilS,nilS,nilS]),H,nx):=rfl
theorem E9i {m:Mr} {cs:List T} (hm:IsMr m cs) (hs:SmM m) (ho:okV m):A1d Tryz.prog (G q) 19 [.ag cs] (· = .ag (encM (numM m))):=by
 have eF:F3r [.ag cs]=some (slT eInt (fsts m)):=B3a _ hm hs;obtain⟨tv,tr,tc,rl,rfl,hv,hr,hrm,hc⟩:=hm
 obtain⟨X,hX⟩:∃X,X=mRow [iv m.top,iv m.index,tv,tr,tc]:=⟨_,rfl⟩
 have ld:∀{H:Heap},Abs.look H 0=some X->LdM (iv m.top) (iv m.index) tv tr tc H 0:=fun h=>ldM (by rw[h,hX]);have lr:=hr.len;have lc:=hc.len;have lv:=hv.len
 have hrl:rl.length=m.rels.length:=by rw[<-hrm,List.length_map]
 have hsr:=hs.rels;have hsc:=hs.cons;have cd:=cd5 (iv m.top) (iv m.index) tv tr tc
 obtain⟨tl,htl⟩:∃tl,tl=slT eInt (fsts m):=⟨_,rfl⟩
 have hTl:IsS eInt tl (fsts m):=.inr htl;rw[<-htl]at eF;have ll:=hTl.len
 have hfl:(fsts m).length<=300000000:=by
  have:=B9s (occ m);have h2:=B7b hs;show(accL (occ m)).length<=_;omega
 have eP:∀v,gPl [tl,iv v]=some (iv (rho m v)):=fun v=>D2b v hTl (by omega);have C:Ctx Tryz.prog (G q) _:=(A0s.cons (G1a (q:=q)) (.cons (hPl (q:=q)) .nil)).ctx mixed
 obtain⟨R,hR⟩:∃R,R=T.ag (encM (numM m)):=⟨_,rfl⟩
 rw[<-hR];refine D1z.call rfl ?_;(conv in B8r=>cbv);refine A0a C ?_;simp -implicitDefEqProofs [cd];rw[show Row.cells 26 [.t (iv m.top),.t (iv m.index),.t tv,.t tr,.t tc]=X from hX.symm];have z0:=ld (H:=[(1,zMr),(0,X)]) rfl;refine A0a C ?_;simp -implicitDefEqProofs [z0.all,eF];have st0:A0x 5 ((2,zMr)::[(1,zMr),(0,X)]) (.ptr 2 0) (.t (.ag [iv (rho m m.top),iv (rho m m.index),nilS,nilS,nilS]))=some [(2,.cells 26 [.t (iv (rho m m.top)),.t (iv (rho m m.index)),.t nilS,.t nilS,.t nilS]),(1,zMr),(0,X)]:=rfl;refine A0a C ?_;simp -implicitDefEqProofs [z0.l0,z0.l1,eP,bd_zz,st0,-evalK_build];refine MC.sub (A8j (nx':=6) (by omega)) rfl ?_
 obtain⟨H0,hH0⟩:∃H0:Heap,H0=[(2,.cells 26 [.t (iv (rho m m.top)),.t (iv (rho m m.index)),.t nilS,.t nilS,.t nilS]),(1,zMr),(0,X)]:=⟨_,rfl⟩
 have N0:RuR m X (varI m 0) [] [] H0 6 3 4 5:=by
  rw[hH0];exact⟨rfl,rfl,rfl,.inl rfl,.inl rfl,.inl rfl,by omega,by omega,by omega,by omega,by omega,by omega,by omega,by omega,by omega⟩
 rw[<-hH0];refine A0q (fun a:NuA=>⟨[(4,.ptr 2 0),(3,.t tl),(2,.ptr 1 0),(1,.ptr 0 0)],a.H,a.nx,131⟩) (fun a=>RuR m X (varI m (fsts m).length) [] [] a.H a.nx a.bv a.br a.bc) (fun _=>rfl) ?_ ?_
 ·refine A0a C ?_;simp -implicitDefEqProofs;refine A0j ?_;refine A0n (SRv tl) (fun a=>(fsts m).length-a.i) (fun a=>RuR m X (varI m a.i) [] [] a.H a.nx a.bv a.br a.bc/\a.i<=(fsts m).length) ⟨H0,6,3,4,5,0⟩ (fun _=>rfl) ⟨N0,Nat.zero_le _⟩ ?_ rfl ?_
  ·exact A0d (by simp -implicitDefEqProofs [SRv])
  rintro⟨H,nx,bv,br,bc,i⟩ ⟨hN,hi⟩;simp only at hN hi;by_cases hlt:i<(fsts m).length
  ·obtain⟨v,hv1⟩:∃v,(fsts m)[i]?=some v:=⟨_,List.getElem?_eq_getElem hlt⟩
   have hin:=ho v (B2q.1 (List.mem_of_getElem? hv1));have i1:=hTl.iaddr hv1 .i64;have hz:eInt.z=1:=rfl;rw[hz,show eInt.enc v=[iv v]from rfl]at i1
   obtain⟨k,rfl⟩:∃k:Nat,v=(k:Int):=⟨v.toNat,by have:=hin.1;omega⟩
   have hk:k<m.vars.length:=by have:=hin.2;omega
   have i2:=hv.iaddr (B5x hk) .i64;have hz2:eStr.z=1:=rfl;rw[hz2,show eStr.enc (vS m.vars (k:Int))=[sv (vS m.vars (k:Int))]from rfl]at i2;have w1:IntKind.i64.wrap ((i:Int)+1)=((i+1:Nat):Int):=A0k (by omega) (by omega);have z:=ld hN.x;have lo:=A7h hN.ob;have tsl:A5c tyS 1 [.string ⟨#[]⟩] 1 [(0,.t (sv (vS m.vars (k:Int))))]=some (.t (.sl 1 [sv (vS m.vars (k:Int))])):=rfl
   have vlen:(varI m i).length<=300000000:=by unfold varI;rw[List.length_map,List.length_take];omega
   have h1:=hN.v2;have h2:=hN.vl;have h3:=hN.r2;have h4:=hN.rl;have h5:=hN.c2;have h6:=hN.cl;have h7:=hN.vr;have h8:=hN.vc;have h9:=hN.rc';obtain⟨H1,a1,b1,c1,g1⟩:=appT (by':=16) (nx:=nx) (vS m.vars (k:Int)) 1 rfl [sv (vS m.vars (k:Int))] rfl hN.rv h2 (by omega) (by omega)
   have o1:Abs.look H1 2=some (.cells 26 [.t (iv (rho m m.top)),.t (iv (rho m m.index)),rowP eStr bv (varI m i),rowP eEC br [],rowP eQq bc []]):=by rw[c1 2 (by omega) (by omega)];exact hN.ob
   have s1:=A1z (o:=2) (n:=1) o1 (A2v eStr nx (varI m i++[vS m.vars (k:Int)])) rfl (by simp)
   obtain⟨H2,hH2⟩:∃H2,H2=Abs.upd H1 2 (.cells 26 [.t (iv (rho m m.top)),.t (iv (rho m m.index)),rowP eStr nx (varI m i++[vS m.vars (k:Int)]),rowP eEC br [],rowP eQq bc []]):=⟨_,rfl⟩
   have s1:A0x 1 H1 (.ptr 2 2) (rowP eStr nx (varI m i++[vS m.vars (k:Int)]))=some H2:=by rw[s1,hH2];rfl
   have k2:∀c,c≠2->Abs.look H2 c=Abs.look H1 c:=fun c h=>by rw[hH2,A0f,if_neg h]
   have N2:RuR m X (varI m (i+1)) [] [] H2 (nx+1) nx br bc:=by
    rw[E9h hv1];exact hN.put (fun c hc h2 h3 _ _=>by rw[k2 c h2,c1 c hc h3]) (by rw[hH2,A0f,if_pos rfl,o1];rfl) (b1.imp id fun e=>by rw[k2 nx (by omega)];exact e) (.inl rfl) (.inl rfl) (by omega) (by omega) h3 (by omega) h5 (by omega) (by omega) (by omega) h9
   refine A0e C ?_;simp -implicitDefEqProofs [SRv,ll,hlt,z.l2,lo.2.2.1,i1,i2,lp,tsl,a1,s1,w1];exact Abs.Next.mk ⟨H2,nx+1,nx,br,bc,i+1⟩ ⟨⟨N2,by show i+1<=_;omega⟩,by show(fsts m).length-(i+1)<(fsts m).length-i;omega⟩ (A0d (by simp -implicitDefEqProofs [SRv]))
  ·have ei:i=(fsts m).length:=by omega
   refine A0e C ?_;simp -implicitDefEqProofs [SRv,ll,hlt];refine Abs.Next.mk ⟨H,nx,bv,br,bc,0⟩ ?_ (A0d (by simp -implicitDefEqProofs));rw[<-ei];exact hN
 clear N0 hH0 H0;rintro⟨H,nx,bv,br,bc,_⟩ hN;refine A0q (fun a:NuA=>⟨[(4,.ptr 2 0),(3,.t tl),(2,.ptr 1 0),(1,.ptr 0 0)],a.H,a.nx,131⟩) (fun a=>RuR m X (varI m (fsts m).length) (relI m m.rels.length) [] a.H a.nx a.bv a.br a.bc) (fun _=>rfl) ?_ ?_
 ·refine A0a C ?_;simp -implicitDefEqProofs;refine A0j ?_;refine A0n (SRr tl) (fun a=>m.rels.length-a.i) (fun a=>RuR m X (varI m (fsts m).length) (relI m a.i) [] a.H a.nx a.bv a.br a.bc/\a.i<=m.rels.length) ⟨H,nx,bv,br,bc,0⟩ (fun _=>rfl) ⟨hN,Nat.zero_le _⟩ ?_ rfl ?_
  ·exact A0d (by simp -implicitDefEqProofs [SRr])
  clear hN;rintro⟨H,nx,bv,br,bc,i⟩ ⟨hN,hi⟩;simp only at hN hi;have z:=ld hN.x;by_cases hlt:i<rl.length
  ·obtain⟨c,hc1⟩:∃c,rl[i]?=some c:=⟨_,List.getElem?_eq_getElem (by omega)⟩
   have hx:m.rels[i]?=some c.x:=by rw[<-hrm,List.getElem?_map,hc1];rfl
   have hxm:=List.mem_of_getElem? hx;obtain⟨ta,hcs,hta⟩:=c.ok;have la:=hta.len;have hal:=hs.args c.x hxm;have i1:=hr.iaddr hc1 .i64;have hz:eEC.z=3:=rfl;rw[hz,show eEC.enc c=c.cs from rfl,hcs]at i1
   obtain⟨x,hxe⟩:∃x,x=c.x:=⟨_,rfl⟩
   rw[<-hxe]at hx hxm hta la hal i1;have w1:IntKind.i64.wrap ((i:Int)+1)=((i+1:Nat):Int):=A0k (by omega) (by omega);have s3:∀a b d,A0x 3 ((nx,.cells tyE [a,b,d])::H) (.ptr nx 0) (.t (.ag [sv x.pred,iv (rho m x.label),nilS]))=some ((nx,eRow x.pred (rho m x.label) nilS)::H):=fun a b d=>st3 nx a b d (sv x.pred) (iv (rho m x.label)) nilS tyE H (cd3 _ _ _)
   obtain⟨H1,hH1⟩:∃H1,H1=(nx,eRow x.pred (rho m x.label) nilS)::H:=⟨_,rfl⟩
   rw[<-hH1]at s3
   have k1:∀c,c<nx->Abs.look H1 c=Abs.look H c:=fun c h=>by rw[hH1,look_cons,if_neg (by omega)]
   have h1:=hN.v2;have h2:=hN.vl;have h3:=hN.r2;have h4:=hN.rl;have h5:=hN.c2;have h6:=hN.cl;have h7:=hN.vr;have h8:=hN.vc;have h9:=hN.rc'
   have Y1:RuY m X x i 0 H1 (nx+2) bv br bc nx (nx+1):=
    ⟨hN.more (by omega) k1,by rw[hH1,look_cons,if_pos rfl];rfl,.inl rfl,by omega,by omega,by omega,by omega,by omega,by omega,by omega,by omega,by omega,by omega,by omega⟩
   refine A0a C ?_;simp -implicitDefEqProofs [SRr,z.l3,lr,hlt];refine A0q (fun a:NuA=>⟨[(6,.t (iv (i:Int))),(4,.ptr 2 0),(3,.t tl),(2,.ptr 1 0),(1,.ptr 0 0)],a.H,a.nx,131⟩) (fun a=>RuR m X (varI m (fsts m).length) (relI m (i+1)) [] a.H a.nx a.bv a.br a.bc) (fun _=>rfl) ?_ ?_
   ·refine A0j ?_;refine A0a C ?_;simp -implicitDefEqProofs [z.l3,i1,lp,eP,G1j,s3,-evalK_build];refine MC.sub (A8j (nx':=nx+2) (by omega)) rfl ?_;refine A0q (fun a:NuB=>⟨[(7,.ptr a.ky 0),(6,.t (iv (i:Int))),(4,.ptr 2 0),(3,.t tl),(2,.ptr 1 0),(1,.ptr 0 0)],a.H,a.nx,131⟩) (fun a=>RuY m X x i a.j a.H a.nx a.bv a.br a.bc a.ky a.ba/\a.j=x.args.length) (fun _=>rfl) ?_ ?_
    ·refine A0a C ?_;simp -implicitDefEqProofs;refine A0j ?_;refine A0n (SRy tl i) (fun a=>x.args.length-a.j) (fun a=>RuY m X x i a.j a.H a.nx a.bv a.br a.bc a.ky a.ba/\a.j<=x.args.length) ⟨H1,nx+2,bv,br,bc,nx,nx+1,0⟩ (fun _=>rfl) ⟨Y1,Nat.zero_le _⟩ ?_ rfl ?_
     ·exact A0d (by simp -implicitDefEqProofs [SRy])
     rintro⟨Ha,na,va,ra,ca,ky,ba,j⟩ ⟨hY,hj⟩;simp only at hY hj;have za:=ld hY.r.x;by_cases hjl:j<x.args.length
     ·obtain⟨g,hg⟩:∃g,x.args[j]?=some g:=⟨_,List.getElem?_eq_getElem hjl⟩
      have i2:=hta.iaddr hg .i64;have hz2:eAg.z=2:=rfl;rw[hz2,show eAg.enc g=[sv g.role,iv g.var]from rfl]at i2;have w2:IntKind.i64.wrap ((j:Int)+1)=((j+1:Nat):Int):=A0k (by omega) (by omega);have t1:∀a b,A0x 2 ((na,.cells tyA [a,b])::Ha) (.ptr na 0) (.t (.ag [sv g.role,iv g.var]))=some ((na,.cells tyA [.t (sv g.role),.t (iv g.var)])::Ha):=fun a b=>st2 na a b _ _ tyA Ha
      obtain⟨Hb,hHb⟩:∃Hb,Hb=(na,Row.cells tyA [.t (sv g.role),.t (iv g.var)])::Ha:=⟨_,rfl⟩
      rw[<-hHb]at t1
      have kb:∀c,c<na->Abs.look Hb c=Abs.look Ha c:=fun c h=>by rw[hHb,look_cons,if_neg (by omega)]
      have hyl:=hY.yl;have hal2:=hY.al;have hy2:=hY.y2;have ha2:=hY.a2;have q1:=hY.r.v2;have q2:=hY.r.vl;have q3:=hY.r.r2;have q4:=hY.r.rl;have q5:=hY.r.c2;have q6:=hY.r.cl;have yv:=hY.yv;have yr:=hY.yr;have yc:=hY.yc;have av:=hY.av;have ar:=hY.ar;have ac:=hY.ac;have ya:=hY.ya;have yb:=hY.y;rw[<-kb ky hyl]at yb;have lb:=A5m (H:=Hb) (b:=na) (ty:=tyA) (p0:=.t (sv g.role)) (p1:=.t (iv g.var)) (by rw[hHb,look_cons,if_pos rfl]);have lyb:=D2n yb
      have rab:A0z eAg tyA Hb ba (agI m x j):=hY.ra.imp id fun e=>by rw[kb ba hal2];exact e
      have gl:(agI m x j).length<=1000:=by unfold agI;rw[List.length_map,List.length_take];omega
      obtain⟨Hd,ad,bd,cdd,fd⟩:=appT (by':=24) (nx:=na+1) (⟨g.role,rho m g.var⟩:Ag) 2 rfl [sv g.role,iv (rho m g.var)] rfl rab (by omega) (by omega) (by omega)
      have yd:Abs.look Hd ky=some (.cells tyE [.t (sv x.pred),.t (iv (rho m x.label)),rowP eAg ba (agI m x j)]):=by rw[cdd ky (by omega) ya];exact yb
      have sd:=A1z (o:=2) (n:=1) yd (A2v eAg (na+1) (agI m x j++[⟨g.role,rho m g.var⟩])) rfl (by simp)
      obtain⟨He,hHe⟩:∃He,He=Abs.upd Hd ky (.cells tyE [.t (sv x.pred),.t (iv (rho m x.label)),rowP eAg (na+1) (agI m x j++[⟨g.role,rho m g.var⟩])]):=⟨_,rfl⟩
      have sd:A0x 1 Hd (.ptr ky 2) (rowP eAg (na+1) (agI m x j++[⟨g.role,rho m g.var⟩]))=some He:=by rw[sd,hHe];rfl
      have ke:∀c,c≠ky->Abs.look He c=Abs.look Hd c:=fun c h=>by rw[hHe,A0f,if_neg h]
      have kk:∀c,c<na->c≠ky->c≠ba->Abs.look He c=Abs.look Ha c:=fun c h1 h2 h3=>by rw[ke c h2,cdd c (by omega) h3,kb c h1]
      have Me:RuR m X (varI m (fsts m).length) (relI m i) [] He (na+2) va ra ca:=
       ⟨by rw[kk 0 (by omega) (by omega) (by omega)];exact hY.r.x,by rw[kk 1 (by omega) (by omega) (by omega)];exact hY.r.z,by rw[kk 2 (by omega) (by omega) (by omega)];exact hY.r.ob,
        hY.r.rv.imp id fun e=>by rw[kk va q2 yv.symm av.symm];exact e,hY.r.rr.imp id fun e=>by rw[kk ra q4 yr.symm ar.symm];exact e,hY.r.rc.imp id fun e=>by rw[kk ca q6 yc.symm ac.symm];exact e,
        q1,by omega,q3,by omega,q5,by omega,hY.r.vr,hY.r.vc,hY.r.rc'⟩
      have Ye:RuY m X x i (j+1) He (na+2) va ra ca ky (na+1):=by
       refine⟨Me,?_,?_,hy2,by omega,by omega,by omega,yv,yr,yc,by omega,by omega,by omega,by omega⟩
       ·rw[hHe,A0f,if_pos rfl,yd,B9t hg];rfl
       ·rw[B9t hg]
        exact bd.imp id fun e=>by rw[ke (na+1) (by omega)];exact e
      have zb:=ld (H:=Hb) (by rw[kb 0 (by omega)];exact hY.r.x);refine A0e C ?_;simp -implicitDefEqProofs [SRy,za.l3,zb.l3,i1,lp,la,hjl,i2,A6j,t1,lyb.2.2,lb.1,lb.2,eP,F7s,G1i,ad,sd,w2,-evalK_build];exact Abs.Next.mk ⟨He,na+2,va,ra,ca,ky,na+1,j+1⟩ ⟨⟨Ye,hjl⟩,by show x.args.length-(j+1)<x.args.length-j;omega⟩ (A0d (by simp -implicitDefEqProofs [SRy]))
     ·refine A0e C ?_;simp -implicitDefEqProofs [SRy,za.l3,i1,lp,la,hjl];exact Abs.Next.mk ⟨Ha,na,va,ra,ca,ky,ba,j⟩ ⟨hY,by show j=_;omega⟩ (A0d (by simp -implicitDefEqProofs))
    ·rintro⟨Ha,na,va,ra,ca,ky,ba,j⟩ ⟨hY,hj⟩;simp only at hY hj;subst hj;have hyl:=hY.yl;have hal2:=hY.al;have hy2:=hY.y2;have ha2:=hY.a2;have yv:=hY.yv;have yr:=hY.yr;have yc:=hY.yc;have av:=hY.av;have ar:=hY.ar;have ac:=hY.ac;have ya:=hY.ya;have Mf:=hY.r.frz hX (F:=[ba]) (fun c hc=>by rw[List.mem_singleton.1 hc];exact⟨ha2,av,ar,ac⟩)
     obtain⟨Hf,hHf⟩:∃Hf,Hf=A5u Ha [ba]:=⟨_,rfl⟩
     have yf:Abs.look Hf ky=some (.cells tyE ((encE (Abs.mapE (rho m) x)).map .t)):=by
      rw[hHf,A1b (by simp;omega) hY.y];simp only[A6u,List.map_cons,List.map_nil,fz_t,B3d hY.ra List.mem_cons_self];unfold encE Abs.mapE agI;rw[List.take_length];rfl
     rw[<-hHf]at Mf
     have lyf:A0t true 3 Hf (.ptr ky 0)=some (.t (.ag (encE (Abs.mapE (rho m) x)))):=by
      simp only[A0t,yf];rfl
     refine MC.sub (s':=⟨[(7,.ptr ky 0),(6,.t (iv (i:Int))),(4,.ptr 2 0),(3,.t tl),(2,.ptr 1 0),(1,.ptr 0 0)],Hf,na,131⟩) (by rw[hHf];exact A5i [ba] (by simp -implicitDefEqProofs [fz_t,B1t])) rfl ?_;have q1:=Mf.v2;have q2:=Mf.vl;have q3:=Mf.r2;have q4:=Mf.rl;have q5:=Mf.c2;have q6:=Mf.cl
     have rlen:(relI m i).length<=1000:=by unfold relI;rw[List.length_map,List.length_take];omega
     obtain⟨Hg,ag,bg,cg,fg⟩:=appB (by':=48) (nx:=na) (ty:=tyE) (EC.of (Abs.mapE (rho m) x)) 3 rfl ((encE (Abs.mapE (rho m) x)).map .t) rfl Mf.rr (by omega) (by omega) (by omega)
     have og:Abs.look Hg 2=some (.cells 26 [.t (iv (rho m m.top)),.t (iv (rho m m.index)),rowP eStr va (varI m (fsts m).length),rowP eEC ra (relI m i),rowP eQq ca []]):=by rw[cg 2 (by omega) (by omega)];exact Mf.ob
     have sg:=A1z (o:=3) (n:=1) og (A2v eEC (na+1) (relI m i++[EC.of (Abs.mapE (rho m) x)])) rfl (by simp)
     obtain⟨Hh,hHh⟩:∃Hh,Hh=Abs.upd Hg 2 (.cells 26 [.t (iv (rho m m.top)),.t (iv (rho m m.index)),rowP eStr va (varI m (fsts m).length),rowP eEC (na+1) (relI m i++[EC.of (Abs.mapE (rho m) x)]),rowP eQq ca []]):=⟨_,rfl⟩
     have sg:A0x 1 Hg (.ptr 2 3) (rowP eEC (na+1) (relI m i++[EC.of (Abs.mapE (rho m) x)]))=some Hh:=by rw[sg,hHh];rfl
     have kh:∀c,c≠2->Abs.look Hh c=Abs.look Hg c:=fun c h=>by rw[hHh,A0f,if_neg h]
     have Mh:RuR m X (varI m (fsts m).length) (relI m (i+1)) [] Hh (na+2) va (na+1) ca:=by
      rw[D2l hx]
      exact Mf.put (fun c h1 h4 _ h5 _=>by rw[kh c h4,cg c h1 h5]) (by rw[hHh,A0f,if_pos rfl,og];rfl) (Mf.rv.imp id fun e=>by rw[kh va (by omega),cg va q2 Mf.vr];exact e) (bg.imp id fun e=>by rw[kh (na+1) (by omega)];exact e)
       (.inl rfl) q1 (by omega) (by omega) (by omega) q5 (by omega) (by omega) Mf.vc (by omega)
     have lof:=A7h Mf.ob;have bsl:∀k,A1v tyE 3 [.string ⟨#[]⟩,.int .i64 0,.slice none 0 0] 1 [(0,.t (.ag (encE (Abs.mapE (rho m) x))))] k=some (.row k 0 1 3,.cells tyE ((encE (Abs.mapE (rho m) x)).map .t)):=fun k=>rfl;refine A0e C ?_;simp -implicitDefEqProofs [lof.2.2.2.1,lyf,bsl,ag,sg];exact Abs.Next.mk ⟨Hh,na+2,va,na+1,ca,0⟩ Mh (A0d (by simp -implicitDefEqProofs))
   ·rintro⟨Ha,na,va,ra,ca,_⟩ hN';refine A0e C ?_;simp -implicitDefEqProofs [w1];exact Abs.Next.mk ⟨Ha,na,va,ra,ca,i+1⟩ ⟨⟨hN',by show i+1<=_;omega⟩,by show m.rels.length-(i+1)<m.rels.length-i;omega⟩ (A0d (by simp -implicitDefEqProofs [SRr]))
  ·have ei:i=m.rels.length:=by omega
   refine A0e C ?_;simp -implicitDefEqProofs [SRr,z.l3,lr,hlt];refine Abs.Next.mk ⟨H,nx,bv,br,bc,i⟩ ?_ (A0d (by simp -implicitDefEqProofs));rw[<-ei];exact hN
 clear hN;rintro⟨H,nx,bv,br,bc,_⟩ hN;refine A0q (fun a:NuA=>⟨[(4,.ptr 2 0),(2,.ptr 1 0)],a.H,a.nx,131⟩) (fun a=>RuR m X (varI m (fsts m).length) (relI m m.rels.length) (conI m m.cons.length) a.H a.nx a.bv a.br a.bc) (fun _=>rfl) ?_ ?_
 ·refine A0a C ?_;simp -implicitDefEqProofs;refine A0j ?_;refine A0n (SRc tl) (fun a=>m.cons.length-a.i) (fun a=>RuR m X (varI m (fsts m).length) (relI m m.rels.length) (conI m a.i) a.H a.nx a.bv a.br a.bc/\a.i<=m.cons.length) ⟨H,nx,bv,br,bc,0⟩ (fun _=>rfl) ⟨hN,Nat.zero_le _⟩ ?_ rfl ?_
  ·exact A0d (by simp -implicitDefEqProofs [SRc])
  clear hN;rintro⟨H,nx,bv,br,bc,i⟩ ⟨hN,hi⟩;simp only at hN hi;have z:=ld hN.x;by_cases hlt:i<m.cons.length
  ·obtain⟨c,hc1⟩:∃c,m.cons[i]?=some c:=⟨_,List.getElem?_eq_getElem (by omega)⟩
   have i1:=hc.iaddr hc1 .i64;have hz:eQq.z=2:=rfl;rw[hz,show eQq.enc c=[iv c.high,iv c.low]from rfl]at i1;have w1:IntKind.i64.wrap ((i:Int)+1)=((i+1:Nat):Int):=A0k (by omega) (by omega);have h1:=hN.v2;have h2:=hN.vl;have h3:=hN.r2;have h4:=hN.rl;have h5:=hN.c2;have h6:=hN.cl;have h7:=hN.vr;have h8:=hN.vc;have h9:=hN.rc'
   have clen:(conI m i).length<=1000:=by unfold conI;rw[List.length_map,List.length_take];omega
   have lo:=A7h hN.ob;obtain⟨H4,a4,b4,c4,g4⟩:=appT (by':=16) (nx:=nx) (mapQ (rho m) c) 2 rfl [iv (rho m c.high),iv (rho m c.low)] rfl hN.rc (by omega) (by omega) (by omega)
   have o4:Abs.look H4 2=some (.cells 26 [.t (iv (rho m m.top)),.t (iv (rho m m.index)),rowP eStr bv (varI m (fsts m).length),rowP eEC br (relI m m.rels.length),rowP eQq bc (conI m i)]):=by rw[c4 2 (by omega) (by omega)];exact hN.ob
   have s4:=A1z (o:=4) (n:=1) o4 (A2v eQq nx (conI m i++[mapQ (rho m) c])) rfl (by simp)
   obtain⟨H5,hH5⟩:∃H5,H5=Abs.upd H4 2 (.cells 26 [.t (iv (rho m m.top)),.t (iv (rho m m.index)),rowP eStr bv (varI m (fsts m).length),rowP eEC br (relI m m.rels.length),rowP eQq nx (conI m i++[mapQ (rho m) c])]):=⟨_,rfl⟩
   have s4:A0x 1 H4 (.ptr 2 4) (rowP eQq nx (conI m i++[mapQ (rho m) c]))=some H5:=by rw[s4,hH5];rfl
   have k5:∀c,c≠2->Abs.look H5 c=Abs.look H4 c:=fun c h=>by rw[hH5,A0f,if_neg h]
   have M5:RuR m X (varI m (fsts m).length) (relI m m.rels.length) (conI m (i+1)) H5 (nx+1) bv br nx:=by
    rw[D2m hc1]
    exact hN.put (fun c h1 h4 _ _ h5=>by rw[k5 c h4,c4 c h1 h5]) (by rw[hH5,A0f,if_pos rfl,o4];rfl) (hN.rv.imp id fun e=>by rw[k5 bv (by omega),c4 bv h2 h8];exact e) (hN.rr.imp id fun e=>by rw[k5 br (by omega),c4 br (by omega) h9];exact e)
     (b4.imp id fun e=>by rw[k5 nx (by omega)];exact e) h1 (by omega) h3 (by omega) (by omega) (by omega) h7 (by omega) (by omega)
   refine A0e C ?_;simp -implicitDefEqProofs [SRc,z.l4,lc,hlt,lo.2.2.2.2,i1,lp,eP,F7t,F7r,a4,s4,w1,-evalK_build];exact Abs.Next.mk ⟨H5,nx+1,bv,br,nx,i+1⟩ ⟨⟨M5,by show i+1<=_;omega⟩,by show m.cons.length-(i+1)<m.cons.length-i;omega⟩ (A0d (by simp -implicitDefEqProofs [SRc]))
  ·have ei:i=m.cons.length:=by omega
   refine A0e C ?_;simp -implicitDefEqProofs [SRc,z.l4,lc,hlt];refine Abs.Next.mk ⟨H,nx,bv,br,bc,i⟩ ?_ (A0d (by simp -implicitDefEqProofs));rw[<-ei];exact hN
 clear hN;rintro⟨H,nx,bv,br,bc,_⟩ hN;simp only at hN;have h4:=hN.v2;have hr4:=hN.r2;have hc4:=hN.c2
 obtain⟨Hf,hHf⟩:∃Hf,Hf=A5u H [bv,br,bc]:=⟨_,rfl⟩
 have of:Abs.look Hf 2=some (.cells 26 ((encM (numM m)).map .t)):=by
  rw[hHf,A1b (by simp;omega) hN.ob];simp only[A6u,List.map_cons,List.map_nil,fz_t,B3d hN.rv (F:=[bv,br,bc]) (by simp),B3d hN.rr (F:=[bv,br,bc]) (by simp),B3d hN.rc (F:=[bv,br,bc]) (by simp)];unfold encM numM relI conI varI
  have e:m.rels.map (fun x=>EC.of (Abs.mapE (rho m) x))=(m.rels.map (Abs.mapE (rho m))).map EC.of:=by rw[List.map_map];rfl
  rw[List.take_length,List.take_length,List.take_length,e];rfl
 have zf:Abs.look Hf 1=some zMr:=by rw[hHf,A1b (by simp;omega) hN.z];rfl
 refine MC.sub (s':=⟨[(4,.ptr 2 0),(2,.ptr 1 0)],Hf,nx,131⟩) (by rw[hHf];exact A5i [bv,br,bc] (by simp -implicitDefEqProofs [fz_t,B1t])) rfl ?_
 have l4:A0t true 5 Hf (.ptr 2 0)=some (.t (.ag (encM (numM m)))):=by
  simp only[A0t,of];rfl
 have st:=A1z (o:=0) (n:=5) zf (show A1g (.t (.ag (encM (numM m))))=some ((encM (numM m)).map .t)from rfl) rfl (by simp)
 obtain⟨Hg,hHg⟩:∃Hg,Hg=Abs.upd Hf 1 (.cells 26 ((encM (numM m)).map .t)):=⟨_,rfl⟩
 have st:A0x 5 Hf (.ptr 1 0) (.t (.ag (encM (numM m))))=some Hg:=by rw[st,hHg];rfl
 have lg:A0t true 5 Hg (.ptr 1 0)=some (.t (.ag (encM (numM m)))):=by
  have:Abs.look Hg 1=some (.cells 26 ((encM (numM m)).map .t)):=by rw[hHg,A0f,if_pos rfl,zf];rfl
  simp only[A0t,this];rfl
 refine A0e C ?_;simp -implicitDefEqProofs [l4,st,lg,hR]
noncomputable def B0o:A0p:=cm Tryz.f4 20
theorem B9f {q:Gl}:FnOK Tryz.prog (G q) 4 1 20 B0o [(.tmp 2)]:=fk Tryz.func4 (by kernel_rfl) (by kernel_rfl)
end Go.Proofs.YtmgjopafgboljaaGreatDoor
