/- Auxiliary facts. -/
import Derived.Test.YtmgjopafgboljaaGreatDoorVEQ45
import Derived.Test.YtmgjopafgboljaaGreatDoorVEQ43
import Derived.Test.YtmgjopafgboljaaGreatDoorVEQ48
import Derived.Test.YtmgjopafgboljaaGreatDoorVEQ53
import Derived.Test.YtmgjopafgboljaaGreatDoorVEQ51
import Derived.Test.YtmgjopafgboljaaGreatDoorVEQ58
import Derived.Test.YtmgjopafgboljaaGreatDoorVEQ68
import Derived.Test.YtmgjopafgboljaaGreatDoorVEQ69
set_option linter.unusedSimpArgs false
set_option maxRecDepth 100000
set_option maxHeartbeats 0
set_option linter.unusedVariables false
open Go.Abs renaming look->Xc
open Nat renaming zero_le->Xd,lt_succ_self->X1
open List renaming getElem?_eq_getElem->Xe,mem_of_getElem?->Xf,range->Xg,length_map->Xh,drop_eq_getElem_cons->Xi,getElem?_eq_some_iff->Xj,drop_zero->Xk,replicate->Xl,length_replicate->Xm,take_length->Xn,length_take->Xo,take_add_one->Xp,mem_map->Xq,drop_of_length_le->Xr,length_append->Xs,length_singleton->Xt,length_set->Xu,getElem?_set->Xv,map_cons->Xw,mem_cons->Xx,drop_length->Xy,getD_eq_getElem?_getD->Xz,length_cons->X0,getElem?_map->X2
namespace Go.Proofs.YtmgjopafgboljaaGreatDoor
open Go Go.Abs
variable {q : Gl}
def A6m (a b:Mr) (v:List Int) (x y:Int):List Int×Bool:=match A4a (A1l a b) v x y with
 | some w=>(w,true)
 | none=>(v,false)
abbrev tvT (st:List Int×Bool):T:=.tu [slT eInt st.1,bv st.2]
noncomputable def gBd (a b:Mr) (ca cb:List T):List T->Option T
 | [t1,t2,t,.v (.int .i64 x),.v (.int .i64 y)]=>open Classical in if t1 = .ag ca/\t2 = .ag cb then(match (tSl eInt).dec t with
  | some v=>if t=slT eInt v/\v.length=a.vars.length/\inR a.vars.length x/\inR a.vars.length y then some (tvT (A6m a b v x y))else none
  | none=>none)else none
 | _=>none
section
variable {a b : Mr} {ca cb : List T}
theorem E0w {v:List Int} (hl:v.length=a.vars.length) {x y:Int} (hx:inR a.vars.length x) (hy:inR a.vars.length y):gBd a b ca cb [.ag ca,.ag cb,slT eInt v,.v (.int .i64 x),.v (.int .i64 y)]=some (tvT (A6m a b v x y)):=by
 simp only[gBd];rw[if_pos ⟨trivial,trivial⟩,(tSl eInt).dec_is (IsS.mk (e:=eInt) v)];exact if_pos ⟨rfl,hl,hx,hy⟩
theorem A6n {v:List Int} (hl:v.length=a.vars.length) (x y:Int):(A6m a b v x y).1.length=a.vars.length:=by
 unfold A6m
 cases h:A4a (A1l a b) v x y with
 | none=>exact hl
 | some w=>
  unfold A4a at h;split at h
  .injection h with h;subst h;exact hl
  .split at h
   .cases h
   .injection h with h;subst h;show(v.set _ _).length=_;rw[Xu];exact hl
structure BdC where
 H:Heap
 nx:Nat
 ko:Nat
 j:Nat
def SBd (tv:T) (x y:Int) (tk:Nat->List Int) (c:BdC):A0c:=⟨[(13,.t (iv (c.j:Int))),(12,.row c.ko 0 (tk c.j).length 1),(4,.t (iv y)),(3,.t (iv x)),(2,.t tv)],c.H,c.nx,68⟩
theorem E0x (a b:Mr) (x y:Int):A1l a b x y=decide (vS a.vars x=vS b.vars y):=rfl
theorem hBd (h:MB a b ca cb):GOK Tryz.prog (G q) 50 (gBd a b ca cb):=λargs r hr=>by
 unfold gBd at hr;split at hr
 .rename_i t1 t2 t x y;split at hr
  .rename_i h12;obtain⟨rfl,rfl⟩:=h12;split at hr
   .rename_i v hdec;split at hr
    .rename_i hc;obtain⟨rfl,hl,hx,hy⟩:=hc;injection hr with hr;subst hr
     obtain⟨tv,htv⟩:∃tv,tv=slT eInt v:=⟨_,rfl⟩
     have hTv:IsS eInt tv v:=.inr htv;rw[<-htv];have lv:=hTv.len;have sav:=h.sa.vars;obtain⟨tva,tra,tca,rla,rfl,hva,_,_,_⟩:=h.ha;obtain⟨tvb,trb,tcb,rlb,rfl,hvb,_,_,_⟩:=h.hb
     obtain⟨Xa,hXa⟩:∃X,X=mRow [iv a.top,iv a.index,tva,tra,tca]:=⟨_,rfl⟩
     obtain⟨Xb,hXb⟩:∃X,X=mRow [iv b.top,iv b.index,tvb,trb,tcb]:=⟨_,rfl⟩
     have cda:=cd5 (iv a.top) (iv a.index) tva tra tca;have cdb:=cd5 (iv b.top) (iv b.index) tvb trb tcb;have za:=ldM (H:=[(1,Xb),(0,Xa)]) (k:=0) (by rw[hXa];rfl);have zb:=ldM (H:=[(1,Xb),(0,Xa)]) (k:=1) (by rw[hXb];rfl)
     obtain⟨k,rfl⟩:∃k:Nat,x=(k:Int):=⟨x.toNat,by have:=hx.1;omega⟩
     obtain⟨l,rfl⟩:∃l:Nat,y=(l:Int):=⟨y.toNat,by have:=hy.1;omega⟩
     have hkl:k<v.length:=by have:=hx.2;omega
     have hk1:k<a.vars.length:=by omega
     have hl1:l<b.vars.length:=by have:=hy.2;have:=h.len;omega
     have i1:=hTv.iaddr (C1f hkl) .i64;have hz:eInt.z=1:=rfl;rw[hz,show eInt.enc (bnd v (k:Int))=[iv (bnd v (k:Int))]from rfl]at i1;have i2:=hva.iaddr (B5x hk1) .i64;have hz2:eStr.z=1:=rfl;rw[hz2,show eStr.enc (vS a.vars (k:Int))=[sv (vS a.vars (k:Int))]from rfl]at i2;have i3:=hvb.iaddr (B5x hl1) .i64;rw[hz2,show eStr.enc (vS b.vars (l:Int))=[sv (vS b.vars (l:Int))]from rfl]at i3;have eP:=D2b (l:Int) hTv (by omega);have C:Ctx Tryz.prog (G q) _:=(A0s.cons (hPl (q:=q)) .nil).ctx mixed
     obtain⟨R,hR⟩:∃R,R=tvT (A6m a b v (k:Int) (l:Int)):=⟨_,rfl⟩
     rw[<-hR];unfold A6m at hR;refine E3o.call rfl ?_;(conv in C5p=>cbv);refine A0a C ?_;simp -implicitDefEqProofs [cda,cdb];rw[show Row.cells 26 [.t (iv a.top),.t (iv a.index),.t tva,.t tra,.t tca]=Xa from hXa.symm,show Row.cells 26 [.t (iv b.top),.t (iv b.index),.t tvb,.t trb,.t tcb]=Xb from hXb.symm]
     by_cases c1:bnd v (k:Int)=(l:Int)
     .have eB:A4a (A1l a b) v (k:Int) (l:Int)=some v:=by unfold A4a;rw[if_pos c1]
      rw[eB]at hR;refine A0a C ?_;simp -implicitDefEqProofs [i1,lp,c1];rw[hR,htv]
     by_cases c2:0<=bnd v (k:Int)\/(l:Int)∈v\/A1l a b (k:Int) (l:Int)=false
     .have eB:A4a (A1l a b) v (k:Int) (l:Int)=none:=by unfold A4a;rw[if_neg c1,if_pos c2]
      rw[eB]at hR
      have fin:R = .tu [tv,bv false]:=by rw[hR,htv]
      refine A0a C ?_;simp -implicitDefEqProofs [i1,lp,c1];refine A0a C ?_;by_cases d1:0<=bnd v (k:Int)
      .simp -implicitDefEqProofs [i1,lp,d1];rw[fin]
      by_cases d2:(l:Int)∈v
      .have d2':0<=plc (l:Int) 0 v:=by
        have:=(not_congr (B1f (x:=(l:Int)) (l:=v) (i:=0))).2 (λe=>e d2);omega
       simp -implicitDefEqProofs [i1,lp,d1,eP,d2'];rw[fin]
      .have d2':¬0<=plc (l:Int) 0 v:=by
        have:=(B1f (x:=(l:Int)) (l:=v) (i:=0)).2 d2;omega
       have d3:A1l a b (k:Int) (l:Int)=false:=by
        rcases c2 with e | e | e
        .exact absurd e d1
        .exact absurd e d2
        .exact e
       rw[E0x,decide_eq_false_iff_not]at d3;simp -implicitDefEqProofs [i1,lp,d1,eP,d2',za.l2,zb.l2,i2,i3,A2g,d3];rw[fin]
     .have d1:¬0<=bnd v (k:Int):=λe=>c2 (.inl e);have d2:(l:Int)∉v:=λe=>c2 (.inr (.inl e));have d3:¬A1l a b (k:Int) (l:Int)=false:=λe=>c2 (.inr (.inr e))
      have d2':¬0<=plc (l:Int) 0 v:=by
       have:=(B1f (x:=(l:Int)) (l:=v) (i:=0)).2 d2;omega
      rw[E0x,decide_eq_false_iff_not,Decidable.not_not]at d3
      have eB:A4a (A1l a b) v (k:Int) (l:Int)=some (v.set k (l:Int)):=by unfold A4a;rw[if_neg c1,if_neg c2,Int.toNat_natCast]
      rw[eB]at hR;refine A0a C ?_;simp -implicitDefEqProofs [i1,lp,c1];refine A0a C ?_;simp -implicitDefEqProofs [i1,lp,d1,eP,d2',za.l2,zb.l2,i2,i3,A2g,d3];refine A0a C ?_;simp -implicitDefEqProofs [D9n]
      obtain⟨w,hw⟩:∃w,w=v.set k (l:Int):=⟨_,rfl⟩
      have lw:w.length=v.length:=by rw[hw,Xu]
      rw[<-hw]at hR
      obtain⟨tk,htk⟩:∃tk:Nat->List Int,tk=λj=>w.take j:=⟨_,rfl⟩
      have tk0:tk 0=[]:=by rw[htk];rfl
      have tkE:tk w.length=w:=by rw[htk];exact Xn
      have tkl:∀j,(tk j).length<=w.length:=λj=>by rw[htk];show(w.take j).length<=_;rw[Xo];omega
      refine A0q (λc:BdC=>⟨[(12,.row c.ko 0 w.length 1)],c.H,c.nx,68⟩) (λc=>Xc c.H c.ko=some (A0l eInt tyI w)) (λ_=>rfl) ?_ ?_
      .refine A0a C ?_;simp -implicitDefEqProofs;refine A0j ?_;refine A0n (SBd tv (k:Int) (l:Int) tk) (λc=>w.length-c.j) (λc=>Xc c.H c.ko=some (A0l eInt tyI (tk c.j))/\c.ko<c.nx/\c.j<=w.length) ⟨(2,Row.cells tyI [])::[(1,Xb),(0,Xa)],3,2,0⟩ (λ_=>rfl) ⟨by rw[tk0];rfl,by show 2<3;omega,Xd _⟩ ?_ rfl ?_
       .exact A0d (by simp -implicitDefEqProofs [SBd,tk0])
       rintro⟨H,nx,ko,j⟩ ⟨ho,hko,hj⟩;simp only at ho hko hj;by_cases hlt:j<v.length
       .have hjw:j<w.length:=by omega
        have w1:IntKind.i64.wrap ((j:Int)+1)=((j+1:Nat):Int):=A0k (by omega) (by omega);have lt:(tk j).length<=100000:=Nat.le_trans (tkl j) (by omega)
        obtain⟨u,hu⟩:∃u,w[j]?=some u:=⟨_,Xe hjw⟩
        have es:tk (j+1)=tk j++[u]:=by rw[htk];show w.take (j+1)=w.take j++[u];rw[Xp,hu];rfl
        have el:(tk (j+1)).length=(tk j).length+1:=by rw[es];simp
        obtain⟨H1,a1,b1,d4,_⟩:=appX (by':=8) (nx:=nx) (ty:=tyI) u 1 rfl [.t (iv u)] rfl _ rfl ho hko (by omega) (by omega);rw[<-es]at b1;have bsl:∀n,A1v tyI 1 [.int .i64 0] 1 [(0,.t (iv u))] n=some (.row n 0 1 1,.cells tyI [.t (iv u)]):=λ_=>rfl;by_cases hjk:j=k
        .have hul:u=(l:Int):=by
          rw[hw,Xv,if_pos hjk.symm,if_pos hkl]at hu;injection hu with hu;exact hu.symm
         have c5:((j:Int)==(k:Int))=true:=by simp[hjk]
         rw[<-hul];refine A0e C ?_;simp -implicitDefEqProofs [SBd,lv,hlt,c5,bsl,a1,w1,-beq_iff_eq];refine Abs.Next.mk ⟨H1,nx+2,nx+1,j+1⟩ ⟨⟨b1,by show nx+1<nx+2;omega,hjw⟩,by show w.length-(j+1)<w.length-j;omega⟩ (A0d (by simp -implicitDefEqProofs [SBd,el,hul]))
        .have hul:v[j]?=some u:=by
          rw[hw,Xv,if_neg (λe=>hjk e.symm)]at hu;exact hu
         have c5:((j:Int)==(k:Int))=false:=by simp;omega
         have i4:=hTv.iaddr hul .i64;rw[hz,show eInt.enc u=[iv u]from rfl]at i4;refine A0e C ?_;simp -implicitDefEqProofs [SBd,lv,hlt,c5,i4,lp,bsl,a1,w1];refine Abs.Next.mk ⟨H1,nx+2,nx+1,j+1⟩ ⟨⟨b1,by show nx+1<nx+2;omega,hjw⟩,by show w.length-(j+1)<w.length-j;omega⟩ (A0d (by simp -implicitDefEqProofs [SBd,el]))
       .have ej:j=w.length:=by omega
        subst ej;rw[tkE]at ho;refine A0e C ?_;simp -implicitDefEqProofs [SBd,lv,hlt];exact Abs.Next.mk ⟨H,nx,ko,0⟩ ho (A0d (by simp -implicitDefEqProofs [tkE]))
      rintro⟨H,nx,ko,_⟩ ho;have hne:=D6k (e:=eInt) ho (bv true);rw[hz]at hne;refine A0e C ?_;simp -implicitDefEqProofs [hne,hR,-toT]
    .cases hr
   .cases hr
  .cases hr
 .cases hr
end
section
variable (a b : Mr)
def goP (v0:List Int):List Ag->List Ag->List Int×Bool->List Int×Bool
 | g::r,h::s,st=>if st.2 then(if g.role=h.role then goP v0 r s (A6m a b st.1 g.var h.var)else(v0,false))else st
 | _,_,st=>st
def B7s (v:List Int) (x y:Ep):List Int×Bool:=if x.pred=y.pred/\x.args.length=y.args.length then goP a b v x.args y.args (A6m a b v x.label y.label)else(v,false)
end
section
variable {a b : Mr} {ca cb : List T}
theorem B6h (v0:List Int) (l m:List Ag) {st:List Int×Bool} (h:st.2=false):goP a b v0 l m st=st:=by
 cases l with
 | nil=>rfl
 | cons g r=>cases m with
  | nil=>rfl
  | cons k s=>rw[goP,h];rfl
theorem A9n {v w:List Int} {x y:Int} (h:A4a (A1l a b) v x y=some w):A6m a b v x y=(w,true):=by unfold A6m;rw[h]
theorem A9o {v:List Int} {x y:Int} (h:A4a (A1l a b) v x y=none):A6m a b v x y=(v,false):=by unfold A6m;rw[h]
theorem F0e (v0:List Int):∀(l m:List Ag) (w:List Int),l.length=m.length ->
  (if l.map (·.role)=m.map (·.role)then A2x (A1l a b) w ((l.map (·.var)).zip (m.map (·.var)))else none)=if(goP a b v0 l m (w,true)).2 then some (goP a b v0 l m (w,true)).1 else none
 | [],[],w,_=>by simp[goP,A2x]
 | [],_::_,_,h=>by simp at h
 | _::_,[],_,h=>by simp at h
 | g::r,k::s,w,h=>by
  have hl:r.length=s.length:=by simpa using h
  rw[goP,if_pos rfl];by_cases hr:g.role=k.role
  .rw[if_pos hr]
   have e1:((g::r).map (·.role)=(k::s).map (·.role))=(r.map (·.role)=s.map (·.role)):=by simp[hr]
   simp only[Xw,List.zip_cons_cons,A2x]at e1 ⊢
   cases hb:A4a (A1l a b) w g.var k.var with
   | none=>
    rw[A9o hb,B6h v0 r s rfl];simp
   | some w'=>
    rw[A9n hb,<-F0e v0 r s w' hl];simp only[hr,List.cons.injEq,true_and]
  .rw[if_neg hr]
   have:¬((g::r).map (·.role)=(k::s).map (·.role)):=by simp[hr]
   rw[if_neg this];simp
theorem F4r (v:List Int) (x y:Ep):(match A4i x y with
  | none=>none
  | some l=>A2x (A1l a b) v l)=if(B7s a b v x y).2 then some (B7s a b v x y).1 else none:=by
 by_cases h1:x.pred=y.pred
 .by_cases h2:x.args.length=y.args.length
  .have eG:B7s a b v x y=goP a b v x.args y.args (A6m a b v x.label y.label):=if_pos ⟨h1,h2⟩;rw[eG];by_cases h3:x.args.map (·.role)=y.args.map (·.role)
   .have e:A4i x y=some ((x.label,y.label)::(x.args.map (·.var)).zip (y.args.map (·.var))):=if_pos ⟨h1,h3⟩;rw[e];show A2x _ _ (_::_)=_;rw[A2x]
    cases hb:A4a (A1l a b) v x.label y.label with
    | none=>rw[A9o hb,B6h v _ _ rfl];simp
    | some w=>rw[A9n hb,<-F0e v _ _ w h2,if_pos h3]
   .have e:A4i x y=none:=if_neg λh=>h3 h.2;rw[e]
    cases hb:A4a (A1l a b) v x.label y.label with
    | none=>rw[A9o hb,B6h v _ _ rfl];simp
    | some w=>rw[A9n hb,<-F0e v _ _ w h2,if_neg h3]
  .have e:A4i x y=none:=if_neg λh=>h2 (by have:=congrArg List.length h.2;simpa using this);have eG:B7s a b v x y=(v,false):=if_neg λh=>h2 h.2;rw[e,eG];simp
 .have e:A4i x y=none:=if_neg λh=>h1 h.1;have eG:B7s a b v x y=(v,false):=if_neg λh=>h1 h.1;rw[e,eG];simp
theorem F0f {v0:List Int} (h0:v0.length=a.vars.length):∀(l m:List Ag) (st:List Int×Bool),st.1.length=a.vars.length->(goP a b v0 l m st).1.length=a.vars.length
 | [],_,st,h=>h
 | _::_,[],st,h=>h
 | g::r,k::s,st,h=>by
  rw[goP];split
  .split
   .exact F0f h0 r s _ (A6n h _ _)
   .exact h0
  .exact h
theorem F0g {v:List Int} (h:v.length=a.vars.length) (x y:Ep):(B7s a b v x y).1.length=a.vars.length:=by
 unfold B7s;split
 .exact F0f h _ _ _ (A6n h _ _)
 .exact h
noncomputable def gPr (a b:Mr) (ca cb:List T):List T->Option T
 | [t1,t2,t,tx,ty]=>open Classical in if t1 = .ag ca/\t2 = .ag cb then(match (tSl eInt).dec t,tEp.dec tx,tEp.dec ty with
  | some v,some x,some y=>if t=slT eInt v/\v.length=a.vars.length/\(inE a.vars.length x.x/\x.x.args.length<=1000)/\(inE a.vars.length y.x/\y.x.args.length<=1000)then some (tvT (B7s a b v x.x y.x))else none
  | _,_,_=>none)else none
 | _=>none
theorem G2h {v:List Int} (hl:v.length=a.vars.length) {x y:EC} (hx:inE a.vars.length x.x/\x.x.args.length<=1000) (hy:inE a.vars.length y.x/\y.x.args.length<=1000) :
  gPr a b ca cb [.ag ca,.ag cb,slT eInt v,.ag x.cs,.ag y.cs]=some (tvT (B7s a b v x.x y.x)):=by
 simp only[gPr];rw[if_pos ⟨trivial,trivial⟩,(tSl eInt).dec_is (IsS.mk (e:=eInt) v),tEp.dec_is (a:=x) rfl,tEp.dec_is (a:=y) rfl];exact if_pos ⟨rfl,hl,hx,hy⟩
structure PaC where
 i:Nat
 st:List Int×Bool
def SPj (H:Heap) (tv:T) (c:PaC):A0c:=⟨[(14,.t (iv (c.i:Int))),(13,.t (bv c.st.2)),(12,.t (slT eInt c.st.1)),(9,.ptr 3 0),(8,.ptr 2 0),(6,.ptr 1 0),(5,.ptr 0 0),(2,.t tv)],H,4,86⟩
theorem hPr (h:MB a b ca cb):GOK Tryz.prog (G q) 81 (gPr a b ca cb):=λargs r hr=>by
 unfold gPr at hr;split at hr
 .rename_i t1 t2 t tx ty;split at hr
  .rename_i h12;obtain⟨rfl,rfl⟩:=h12;split at hr
   .rename_i v X Y hd1 hd2 hd3;split at hr
    .rename_i hc;obtain⟨rfl,hl,⟨hx,hxl⟩,⟨hy,hyl⟩⟩:=hc;injection hr with hr;subst hr;have e2:=tEp.is_dec hd2;have e3:=tEp.is_dec hd3;have e2:tx = .ag X.cs:=e2;have e3:ty = .ag Y.cs:=e3;subst e2 e3;clear hd1 hd2 hd3;have C:Ctx Tryz.prog (G q) _:=(A0s.cons (hBd (q:=q) h) .nil).ctx mixed;have eB:∀(w:List Int) (x y:Int),w.length=a.vars.length->inR a.vars.length x->inR a.vars.length y->gBd a b ca cb [.ag ca,.ag cb,slT eInt w,.v (.int .i64 x),.v (.int .i64 y)]=some (tvT (A6m a b w x y)):=λw x y hw h1 h2=>E0w hw h1 h2
     obtain⟨tv,htv⟩:∃tv,tv=slT eInt v:=⟨_,rfl⟩
     rw[<-htv];obtain⟨tva,tra,tca,rla,rfl,hva,_,_,_⟩:=h.ha;obtain⟨tvb,trb,tcb,rlb,rfl,hvb,_,_,_⟩:=h.hb
     obtain⟨Xa,hXa⟩:∃X,X=mRow [iv a.top,iv a.index,tva,tra,tca]:=⟨_,rfl⟩
     obtain⟨Xb,hXb⟩:∃X,X=mRow [iv b.top,iv b.index,tvb,trb,tcb]:=⟨_,rfl⟩
     have cda:=cd5 (iv a.top) (iv a.index) tva tra tca;have cdb:=cd5 (iv b.top) (iv b.index) tvb trb tcb
     obtain⟨x,hxx⟩:∃x,x=X.x:=⟨_,rfl⟩
     obtain⟨y,hyy⟩:∃y,y=Y.x:=⟨_,rfl⟩
     obtain⟨ta,hxc,hta⟩:=X.ok;obtain⟨tb,hyc,htb⟩:=Y.ok;rw[hxc,hyc];rw[<-hxx]at hx hxl hta ⊢;rw[<-hyy]at hy hyl htb ⊢;clear hxc hyc hxx hyy;have la:=hta.len;have lb:=htb.len
     obtain⟨H0,hH0⟩:∃H0:Heap,H0=[(3,eRow y.pred y.label tb),(2,eRow x.pred x.label ta),(1,Xb),(0,Xa)]:=⟨_,rfl⟩
     have za:=ldM (H:=H0) (k:=0) (by rw[hH0,hXa];rfl);have zb:=ldM (H:=H0) (k:=1) (by rw[hH0,hXb];rfl);have zx:=ldE (H:=H0) (k:=2) (p:=x.pred) (l:=x.label) (ta:=ta) (by rw[hH0];rfl);have zy:=ldE (H:=H0) (k:=3) (p:=y.pred) (l:=y.label) (ta:=tb) (by rw[hH0];rfl)
     obtain⟨R,hR⟩:∃R,R=B7s a b v x y:=⟨_,rfl⟩
     rw[<-hR];unfold B7s at hR;refine E3p.call rfl ?_;(conv in C5q=>cbv);refine A0a C ?_;have c3x:=cd3 (sv x.pred) (iv x.label) ta;have c3y:=cd3 (sv y.pred) (iv y.label) tb;simp -implicitDefEqProofs [cda,cdb,c3x,c3y];rw[show Row.cells 26 [.t (iv a.top),.t (iv a.index),.t tva,.t tra,.t tca]=Xa from hXa.symm,show Row.cells 26 [.t (iv b.top),.t (iv b.index),.t tvb,.t trb,.t tcb]=Xb from hXb.symm];rw[show([(3,Row.cells 47 [.t (sv y.pred),.t (iv y.label),.t tb]),(2,Row.cells 47 [.t (sv x.pred),.t (iv x.label),.t ta]),(1,Xb),(0,Xa)]:Heap)=H0 from hH0.symm];by_cases h1:x.pred=y.pred
     .by_cases h2:x.args.length=y.args.length
      .rw[if_pos ⟨h1,h2⟩]at hR
       have b1:(x.pred.toList==y.pred.toList)=true:=by rw[A2g];exact decide_eq_true h1
       have b2:((x.args.length:Int) !=(y.args.length:Int))=false:=by rw[h2];exact bne_self_eq_false _
       refine A0a C ?_;simp -implicitDefEqProofs [zx.l0,zy.l0,zx.l2,zy.l2,la,lb,b1,b2];have e1:=eB v x.label y.label hl (hx _ (by simp[occE])) (hy _ (by simp[occE]))
       obtain⟨s0,hs0⟩:∃s0,s0=A6m a b v x.label y.label:=⟨_,rfl⟩
       have ls0:s0.1.length=a.vars.length:=by rw[hs0];exact A6n hl _ _
       rw[<-hs0]at e1 hR;rw[<-htv]at e1;refine A0a C ?_;simp -implicitDefEqProofs [za.all,zb.all,zx.l1,zy.l1,e1];refine A0q (λc:PaC=>⟨[(13,.t (bv c.st.2)),(12,.t (slT eInt c.st.1))],H0,4,86⟩) (λc=>c.st=R) (λ_=>rfl) ?_ ?_
       .refine A0a C ?_;simp -implicitDefEqProofs;refine A0j ?_;refine A0n (SPj H0 tv) (λc=>x.args.length-c.i) (λc=>goP a b v (x.args.drop c.i) (y.args.drop c.i) c.st=R/\c.st.1.length=a.vars.length/\c.i<=x.args.length) ⟨0,s0⟩ (λ_=>rfl) ⟨hR.symm,ls0,Xd _⟩ ?_ rfl ?_
        .exact A0d (by simp -implicitDefEqProofs [SPj])
        rintro⟨i,w,ok⟩ ⟨hgo,hwl,hi⟩;simp only at hgo hwl hi;by_cases hlt:i<x.args.length
        .cases ok with
         | false=>
          rw[B6h v _ _ rfl]at hgo;refine A0e C ?_;simp -implicitDefEqProofs [SPj,zx.l2,la,hlt];exact Abs.Next.mk ⟨0,w,false⟩ hgo (A0d (by simp -implicitDefEqProofs))
         | true=>
          obtain⟨g,hg⟩:∃g,x.args[i]?=some g:=⟨_,Xe hlt⟩
          obtain⟨k,hk⟩:∃k,y.args[i]?=some k:=⟨_,Xe (by omega)⟩
          rw[Xi hlt,Xi (by omega:i<y.args.length),(Xj.1 hg).2,(Xj.1 hk).2,goP,if_pos rfl]at hgo;have i1:=hta.iaddr hg .i64;have i2:=htb.iaddr hk .i64;have hz2:eAg.z=2:=rfl;rw[hz2,show eAg.enc g=[sv g.role,iv g.var]from rfl]at i1;rw[hz2,show eAg.enc k=[sv k.role,iv k.var]from rfl]at i2;have w1:IntKind.i64.wrap ((i:Int)+1)=((i+1:Nat):Int):=A0k (by omega) (by omega);by_cases hro:g.role=k.role
          .rw[if_pos hro]at hgo
           have b3:(g.role.toList==k.role.toList)=true:=by rw[A2g];exact decide_eq_true hro
           have e4:=eB w g.var k.var hwl (hx _ (by simp only[occE,Xx,Xq];exact .inr ⟨g,Xf hg,rfl⟩)) (hy _ (by simp only[occE,Xx,Xq];exact .inr ⟨k,Xf hk,rfl⟩));have l2:=A6n (b:=b) hwl g.var k.var
           obtain⟨s1,hs1⟩:∃s1,s1=A6m a b w g.var k.var:=⟨_,rfl⟩
           rw[<-hs1]at e4 hgo l2;refine A0e C ?_;simp -implicitDefEqProofs [SPj,zx.l2,zy.l2,la,hlt,i1,i2,lp,b3,za.all,zb.all,e4,w1];exact Abs.Next.mk ⟨i+1,s1⟩ ⟨⟨hgo,l2,hlt⟩,by show x.args.length-(i+1)<x.args.length-i;omega⟩ (A0d (by simp -implicitDefEqProofs [SPj]))
          .rw[if_neg hro]at hgo
           have b3:(g.role.toList==k.role.toList)=false:=by rw[A2g];exact decide_eq_false hro
           refine A0e C ?_;simp -implicitDefEqProofs [SPj,zx.l2,zy.l2,la,hlt,i1,i2,lp,b3];simp -implicitDefEqProofs [<-hgo,htv]
        .have ei:i=x.args.length:=by omega
         have e0:x.args.drop i=[]:=Xr (by omega);rw[e0,goP]at hgo
         .refine A0e C ?_;simp -implicitDefEqProofs [SPj,zx.l2,la,hlt];exact Abs.Next.mk ⟨0,w,ok⟩ hgo (A0d (by simp -implicitDefEqProofs))
         .intro g r k s h;cases h
       rintro⟨_,st⟩ hst;simp only at hst;subst hst;refine A0e C ?_;simp -implicitDefEqProofs
      .rw[if_neg (λh=>h2 h.2)]at hR
       have b1:(x.pred.toList==y.pred.toList)=true:=by rw[A2g];exact decide_eq_true h1
       have b2:((x.args.length:Int) !=(y.args.length:Int))=true:=by rw[bne_iff_ne];omega
       refine A0a C ?_;simp -implicitDefEqProofs [zx.l0,zy.l0,zx.l2,zy.l2,la,lb,b1,b2,h2];simp -implicitDefEqProofs [hR,htv]
     .rw[if_neg (λh=>h1 h.1)]at hR
      have b1:(x.pred.toList==y.pred.toList)=false:=by rw[A2g];exact decide_eq_false h1
      refine A0a C ?_;simp -implicitDefEqProofs [zx.l0,zy.l0,b1];simp -implicitDefEqProofs [hR,htv]
    .cases hr
   .cases hr
  .cases hr
 .cases hr
end
theorem B9z {l:List Nat} {k:Nat}:(k:Int)∈natL l ↔ k∈l:=by
 simp only[natL,Xq];exact⟨λ⟨x,h,e⟩=>by rwa[show k=x by omega],λh=>⟨k,h,rfl⟩⟩
theorem G2i {a b:Mr} (v:List Int) (p r:Int×Int):A2x (A1l a b) v [p,r]=(if(A6m a b v p.1 p.2).2 then(if(A6m a b (A6m a b v p.1 p.2).1 r.1 r.2).2 then some (A6m a b (A6m a b v p.1 p.2).1 r.1 r.2).1 else none)else none):=by
 rw[A2x]
 cases h:A4a (A1l a b) v p.1 p.2 with
 | none=>rw[A9o h];simp
 | some w=>
  rw[A9n h];simp only[if_true];rw[A2x]
  cases h2:A4a (A1l a b) w r.1 r.2 with
  | none=>rw[A9o h2];simp
  | some w'=>rw[A9n h2];simp[A2x]
section
variable {a b : Mr} {ca cb : List T}
noncomputable def gCn (a b:Mr) (ca cb:List T) (i:Nat):List T->Option T
 | [t1,t2,t,tu,.v (.int .i64 n)]=>open Classical in if t1 = .ag ca/\t2 = .ag cb/\n=(i:Int)then(match (tSl eInt).dec t with
  | some v=>if h:∃us:List Nat,tu=A1a eInt (natL us)/\t=slT eInt v/\v.length=a.vars.length/\us.length<=i then some (bv (A4r (A1l a b) b.cons (a.cons.drop i) v h.choose))else none
  | none=>none)else none
 | _=>none
theorem C8v:∀{l m:List Nat},natL l=natL m->l=m
 | [],[],_=>rfl
 | [],_::_,h=>by simp[natL]at h
 | _::_,[],h=>by simp[natL]at h
 | x::l,y::m,h=>by
  simp only[natL,Xw,List.cons.injEq]at h;obtain⟨h1,h2⟩:=h;rw[show x=y by omega,C8v (l:=l) (m:=m) h2]
theorem F5q {i:Nat} {v:List Int} {us:List Nat} (hl:v.length=a.vars.length) (hu:us.length<=i):gCn a b ca cb i [.ag ca,.ag cb,slT eInt v,A1a eInt (natL us),.v (.int .i64 (i:Int))]=some (bv (A4r (A1l a b) b.cons (a.cons.drop i) v us)):=by
 simp only[gCn];rw[if_pos ⟨trivial,trivial,trivial⟩,(tSl eInt).dec_is (IsS.mk (e:=eInt) v)]
 have he:∃us':List Nat,A1a eInt (natL us)=A1a eInt (natL us')/\slT eInt v=slT eInt v/\v.length=a.vars.length/\us'.length<=i:=⟨us,rfl,rfl,hl,hu⟩
 obtain⟨w,hw⟩:∃w,w=he.choose:=⟨_,rfl⟩
 have hc:=he.choose_spec.1;rw[<-hw]at hc
 have h2:IsS eInt (A1a eInt (natL us)) (natL w):=by
  have:=IsS.tree eInt (natL w);rwa[<-hc]at this
 have e:us=w:=C8v ((tSl eInt).uniq _ _ _ (IsS.tree eInt (natL us)) h2);refine(dif_pos he).trans ?_;rw[<-hw,<-e]
structure CnC where
 H:Heap
 nx:Nat
 k:Nat
structure CnD where
 H:Heap
 nx:Nat
 ko:Nat
 j:Nat
def SCn (tv tu:T) (i:Nat) (c:CnC):A0c:=⟨[(11,.t (iv (c.k:Int))),(6,.ptr 1 0),(5,.ptr 0 0),(4,.t (iv (i:Int))),(3,.t tu),(2,.t tv)],c.H,c.nx,96⟩
def SCd (tv tu:T) (w:List Int) (i k:Nat) (tk:Nat->List Int) (c:CnD):A0c:=⟨[(15,.t (iv (c.j:Int))),(14,.row c.ko 0 (tk c.j).length 1),(12,.t (slT eInt w)),(11,.t (iv (k:Int))),(6,.ptr 1 0),(5,.ptr 0 0),(4,.t (iv (i:Int))),(3,.t tu),(2,.t tv)],c.H,c.nx,96⟩
theorem F0h {f:Nat->Bool} {n k:Nat} (h:k<n):((Xg n).drop k).any f=(f k||((Xg n).drop (k+1)).any f):=by
 rw[Xi (by simpa using h),List.any_cons];simp
theorem F8r (h:MB a b ca cb) (i:Nat) (ih:i<a.cons.length->GOK Tryz.prog (G q) 80 (gCn a b ca cb (i+1))) (hi:i<=a.cons.length) {v:List Int} {us:List Nat} (hl:v.length=a.vars.length) (hu:us.length<=i) :
  A1d Tryz.prog (G q) 80 [.ag ca,.ag cb,slT eInt v,A1a eInt (natL us),iv (i:Int)] (· = bv (A4r (A1l a b) b.cons (a.cons.drop i) v us)):=by
 obtain⟨i',hi'⟩:∃i',i'=i+1:=⟨_,rfl⟩
 rw[<-hi']at ih;have sac:=h.sa.cons;have sbc:=h.sb.cons;have sav:=h.sa.vars
 obtain⟨tv,htv⟩:∃tv,tv=slT eInt v:=⟨_,rfl⟩
 obtain⟨tu,htu⟩:∃tu,tu=A1a eInt (natL us):=⟨_,rfl⟩
 have hTu:IsS eInt tu (natL us):=by rw[htu];exact B7i _ _
 have lu:=hTu.len;have hul:=B9x us;rw[<-htu,<-htv]
 obtain⟨R,hR⟩:∃R,R=A4r (A1l a b) b.cons (a.cons.drop i) v us:=⟨_,rfl⟩
 rw[<-hR];have hoka:=h.oa;have hokb:=h.ob;have hlen:=h.len;have eB:∀(w:List Int) (x y:Int),w.length=a.vars.length->inR a.vars.length x->inR a.vars.length y->gBd a b ca cb [.ag ca,.ag cb,slT eInt w,.v (.int .i64 x),.v (.int .i64 y)]=some (tvT (A6m a b w x y)):=λw x y hw h1 h2=>E0w hw h1 h2;have eP:∀x:Int,gPl [tu,iv x]=some (iv (plc x 0 (natL us))):=λx=>D2b x hTu (by omega);have eC:∀(w:List Int) (us':List Nat),w.length=a.vars.length->us'.length<=i'->gCn a b ca cb i' [.ag ca,.ag cb,slT eInt w,A1a eInt (natL us'),.v (.int .i64 (i':Int))]=some (bv (A4r (A1l a b) b.cons (a.cons.drop i') w us')):=λw us' hw hu'=>F5q hw hu';have hBd':=hBd (q:=q) h;obtain⟨tva,tra,tca,rla,rfl,hva,_,_,hca⟩:=h.ha;obtain⟨tvb,trb,tcb,rlb,rfl,hvb,_,_,hcb⟩:=h.hb
 obtain⟨Xa,hXa⟩:∃X,X=mRow [iv a.top,iv a.index,tva,tra,tca]:=⟨_,rfl⟩
 obtain⟨Xb,hXb⟩:∃X,X=mRow [iv b.top,iv b.index,tvb,trb,tcb]:=⟨_,rfl⟩
 have cda:=cd5 (iv a.top) (iv a.index) tva tra tca;have cdb:=cd5 (iv b.top) (iv b.index) tvb trb tcb;have lca:=hca.len;have lcb:=hcb.len;have ld:∀{H:Heap},Xc H 0=some Xa->LdM (iv a.top) (iv a.index) tva tra tca H 0:=λh=>ldM (by rw[h,hXa]);have ldb:∀{H:Heap},Xc H 1=some Xb->LdM (iv b.top) (iv b.index) tvb trb tcb H 1:=λh=>ldM (by rw[h,hXb]);have z0:=ld (H:=[(1,Xb),(0,Xa)]) rfl;have z1:=ldb (H:=[(1,Xb),(0,Xa)]) rfl;refine C2n.call rfl ?_;(conv in B1r=>cbv);by_cases hend:i=a.cons.length
 .have C0:Ctx Tryz.prog (G q) _:=(A0s.cons hBd' (.cons (hPl (q:=q)) .nil)).ctx mixed
  have hRt:R=true:=by rw[hR,hend,Xy];rfl
  have c1:((i:Int)==(a.cons.length:Int))=true:=by rw[hend];simp
  refine A0a C0 ?_;simp -implicitDefEqProofs [cda,cdb];rw[show Row.cells 26 [.t (iv a.top),.t (iv a.index),.t tva,.t tra,.t tca]=Xa from hXa.symm,show Row.cells 26 [.t (iv b.top),.t (iv b.index),.t tvb,.t trb,.t tcb]=Xb from hXb.symm];refine A0a C0 ?_;simp -implicitDefEqProofs [z0.l4,lca,c1,hRt]
 have hil:i<a.cons.length:=by omega
 have C:Ctx Tryz.prog (G q) _:=(A0s.cons hBd' (.cons (hPl (q:=q)) (.cons (ih hil) .nil))).ctx mixed
 obtain⟨c,hc⟩:∃c,a.cons[i]?=some c:=⟨_,Xe hil⟩
 have hcm:=Xf hc;have i1:=hca.iaddr hc .i64;have hz:eQq.z=2:=rfl;rw[hz,show eQq.enc c=[iv c.high,iv c.low]from rfl]at i1;have wi:IntKind.i64.wrap ((i:Int)+1)=(i':Int):=A0k (by omega) (by omega)
 obtain⟨f,hf⟩:∃f:Nat->Bool,f=λk=>if k∈us then false else match A2x (A1l a b) v (A5r c (b.cons.getD k ⟨0,0⟩))with
  | some w=>A4r (A1l a b) b.cons (a.cons.drop i') w (k::us)
  | none=>false:=⟨_,rfl⟩
 have hRf:R=((Xg b.cons.length).drop 0).any f:=by
  (rw[hR,Xi hil,(Xj.1 hc).2,<-hi',A4r,hf,Xk])<;>rfl
 have c1:((i:Int)==(a.cons.length:Int))=false:=by simp;omega
 refine A0a C ?_;simp -implicitDefEqProofs [cda,cdb];rw[show Row.cells 26 [.t (iv a.top),.t (iv a.index),.t tva,.t tra,.t tca]=Xa from hXa.symm,show Row.cells 26 [.t (iv b.top),.t (iv b.index),.t tvb,.t trb,.t tcb]=Xb from hXb.symm];refine A0a C ?_;simp -implicitDefEqProofs [z0.l4,lca,c1];refine A0q (α:=Unit) (λ_=>⟨[],[],0,96⟩) (λ_=>R=false) (λ_=>rfl) ?_ ?_
 .refine A0a C ?_;simp -implicitDefEqProofs;refine A0j ?_;refine A0n (SCn tv tu i) (λd=>b.cons.length-d.k) (λd=>Xc d.H 0=some Xa/\Xc d.H 1=some Xb/\1<d.nx/\R=((Xg b.cons.length).drop d.k).any f/\d.k<=b.cons.length) ⟨[(1,Xb),(0,Xa)],2,0⟩ (λ_=>rfl) ⟨rfl,rfl,by show 1<2;omega,hRf,Xd _⟩ ?_ rfl ?_
  .exact A0d (by simp -implicitDefEqProofs [SCn])
  rintro⟨H,nx,k⟩ ⟨h0,h1,hn,hRk,hk⟩;simp only at h0 h1 hn hRk hk;have za:=ld h0;have zb:=ldb h1;by_cases hlt:k<b.cons.length
  .rw[F0h hlt]at hRk
   obtain⟨d,hd⟩:∃d,b.cons[k]?=some d:=⟨_,Xe hlt⟩
   have hdm:=Xf hd
   have hgd:b.cons.getD k ⟨0,0⟩=d:=by rw[Xz,hd];rfl
   have i2:=hcb.iaddr hd .i64;rw[hz,show eQq.enc d=[iv d.high,iv d.low]from rfl]at i2;have w1:IntKind.i64.wrap ((k:Int)+1)=((k+1:Nat):Int):=A0k (by omega) (by omega);have ich:=hoka.con hcm (v:=c.high) (by simp[occC]);have icl:=hoka.con hcm (v:=c.low) (by simp[occC]);have idh:=hokb.con hdm (v:=d.high) (by simp[occC]);have idl:=hokb.con hdm (v:=d.low) (by simp[occC]);rw[hlen]at idh idl;have e1:=eB v c.high d.high hl ich idh;rw[<-htv]at e1
   obtain⟨s1,hs1⟩:∃s,s=A6m a b v c.high d.high:=⟨_,rfl⟩
   have ls1:s1.1.length=a.vars.length:=by rw[hs1];exact A6n hl _ _
   have e2:=eB s1.1 c.low d.low ls1 icl idl
   obtain⟨s2,hs2⟩:∃s,s=A6m a b s1.1 c.low d.low:=⟨_,rfl⟩
   have ls2:s2.1.length=a.vars.length:=by rw[hs2];exact A6n ls1 _ _
   rw[<-hs1]at e1;rw[<-hs2]at e2;have hb2:=G2i (a:=a) (b:=b) v (c.high,d.high) (c.low,d.low);simp only at hb2;rw[<-hs1,<-hs2]at hb2
   have hfk:f k=if k∈us then false else match (if s1.2 then(if s2.2 then some s2.1 else none)else none)with
    | some w=>A4r (A1l a b) b.cons (a.cons.drop i') w (k::us)
    | none=>false:=by
    rw[hf]
    show(if k∈us then false else match A2x (A1l a b) v (A5r c (b.cons.getD k ⟨0,0⟩))with
     | some w=>_
     | none=>false)=_
    rw[hgd,show A5r c d=[(c.high,d.high),(c.low,d.low)]from rfl,hb2]<;>rfl
   obtain⟨w1',ok1⟩:=s1;obtain⟨w2',ok2⟩:=s2;simp only at hfk ls1 ls2 e2
   have next:f k=false->∀(H':Heap) (nx':Nat),Xc H' 0=some Xa->Xc H' 1=some Xb->1<nx' ->
     Abs.Next Tryz.prog (G q) 0 (λ_:Unit=>(⟨[(11,.t (iv (k:Int))),(6,.ptr 1 0),(5,.ptr 0 0),(4,.t (iv (i:Int))),(3,.t tu),(2,.t tv)],H',nx',96⟩:A0c)) (λ_=>True) ⟨[(11,.t (iv (k:Int))),(6,.ptr 1 0),(5,.ptr 0 0),(4,.t (iv (i:Int))),(3,.t tu),(2,.t tv)],H',nx',96⟩:=λ_ _ _ _ _ _=>Abs.Next.mk () trivial (Sub.refl _)
   clear next
   refine A0a C ?_;simp -implicitDefEqProofs [SCn,zb.l4,lcb,hlt];refine A0q (λd:CnC=>⟨[(11,.t (iv (k:Int))),(6,.ptr 1 0),(5,.ptr 0 0),(4,.t (iv (i:Int))),(3,.t tu),(2,.t tv)],d.H,d.nx,96⟩) (λd=>Xc d.H 0=some Xa/\Xc d.H 1=some Xb/\1<d.nx/\f k=false) (λ_=>rfl) ?_ ?_
   .refine A0j ?_;by_cases hku:k∈us
    .rw[if_pos hku]at hfk
     have hp:0<=plc (k:Int) 0 (natL us):=by
      have:=(not_congr (B1f (x:=(k:Int)) (l:=natL us) (i:=0))).2 (λe=>e (B9z.2 hku));omega
     refine A0a C ?_;simp -implicitDefEqProofs [eP,hp];exact Abs.Next.mk ⟨H,nx,0⟩ ⟨h0,h1,hn,hfk⟩ (A0d (by simp -implicitDefEqProofs))
    .rw[if_neg hku]at hfk
     have hp:¬0<=plc (k:Int) 0 (natL us):=by
      have:=(B1f (x:=(k:Int)) (l:=natL us) (i:=0)).2 (λe=>hku (B9z.1 e));omega
     refine A0a C ?_;simp -implicitDefEqProofs [eP,hp]
     cases ok1 with
     | false=>
      refine A0a C ?_;simp -implicitDefEqProofs [za.all,zb.all,za.l4,zb.l4,i1,i2,lp,e1];refine A0a C ?_;simp -implicitDefEqProofs;exact Abs.Next.mk ⟨H,nx,0⟩ ⟨h0,h1,hn,hfk⟩ (A0d (by simp -implicitDefEqProofs))
     | true=>
      refine A0a C ?_;simp -implicitDefEqProofs [za.all,zb.all,za.l4,zb.l4,i1,i2,lp,e1];refine A0a C ?_;simp -implicitDefEqProofs
      cases ok2 with
      | false=>
       refine A0a C ?_;simp -implicitDefEqProofs [za.all,zb.all,za.l4,zb.l4,i1,i2,lp,e2,A6j];refine A0a C ?_;simp -implicitDefEqProofs;exact Abs.Next.mk ⟨H,nx,0⟩ ⟨h0,h1,hn,hfk⟩ (A0d (by simp -implicitDefEqProofs))
      | true=>
       have hfk:f k=A4r (A1l a b) b.cons (a.cons.drop i') w2' (k::us):=hfk;refine A0a C ?_;simp -implicitDefEqProofs [za.all,zb.all,za.l4,zb.l4,i1,i2,lp,e2,A6j];refine A0a C ?_;simp -implicitDefEqProofs;refine A0a C ?_;simp -implicitDefEqProofs [B8v]
       obtain⟨tk,htk⟩:∃tk:Nat->List Int,tk=λj=>(k:Int)::(natL us).take j:=⟨_,rfl⟩
       have tk0:tk 0=[(k:Int)]:=by rw[htk];rfl
       have tkE:tk us.length=natL (k::us):=by rw[htk];show(k:Int)::(natL us).take us.length=_;rw[<-hul,Xn];rfl
       have tkl:∀j,(tk j).length<=2000:=λj=>by rw[htk];show((k:Int)::(natL us).take j).length<=_;rw[X0,Xo];omega
       refine A0q (λe:CnD=>⟨[(14,.row e.ko 0 (tk us.length).length 1),(12,.t (slT eInt w2')),(11,.t (iv (k:Int))),(6,.ptr 1 0),(5,.ptr 0 0),(4,.t (iv (i:Int))),(3,.t tu),(2,.t tv)],e.H,e.nx,96⟩)
        (λe=>Xc e.H 0=some Xa/\Xc e.H 1=some Xb/\1<e.nx/\Xc e.H e.ko=some (A0l eInt tyI (tk us.length))/\1<e.ko) (λ_=>rfl) ?_ ?_
       .refine A0a C ?_;simp -implicitDefEqProofs;refine A0j ?_
        refine A0n (SCd tv tu w2' i k tk) (λe=>us.length-e.j) (λe=>Xc e.H 0=some Xa/\Xc e.H 1=some Xb/\Xc e.H e.ko=some (A0l eInt tyI (tk e.j))/\1<e.ko/\e.ko<e.nx/\e.j<=us.length)
         ⟨(nx,.cells tyI [.t (iv (k:Int))])::H,nx+1,nx,0⟩ (λ_=>rfl) ⟨by rw[look_cons,if_neg (by omega)];exact h0,by rw[look_cons,if_neg (by omega)];exact h1,by rw[look_cons,if_pos rfl,tk0];rfl,hn,X1 _,Xd _⟩ ?_ rfl ?_
        .exact A0d (by simp -implicitDefEqProofs [SCd,tk0])
        rintro⟨Ha,na,ka,j⟩ ⟨g0,g1,go,gk,gn,gj⟩;simp only at g0 g1 go gk gn gj;by_cases hjl:j<us.length
        .obtain⟨u,hu1⟩:∃u,(natL us)[j]?=some u:=⟨_,Xe (by omega)⟩
         have es:tk (j+1)=tk j++[u]:=by rw[htk];show(k:Int)::(natL us).take (j+1)=(k:Int)::(natL us).take j++[u];rw[Xp,hu1];rfl
         have el:(tk (j+1)).length=(tk j).length+1:=by rw[es];simp
         have tl:=tkl j;obtain⟨Hb,ab,bb,cb',_⟩:=appX (by':=8) (nx:=na) (ty:=tyI) u 1 rfl [.t (iv u)] rfl _ rfl go gn (by omega) (by omega);rw[<-es]at bb;have i4:=hTu.iaddr hu1 .i64;have hzi:eInt.z=1:=rfl;rw[hzi,show eInt.enc u=[iv u]from rfl]at i4;have w3:IntKind.i64.wrap ((j:Int)+1)=((j+1:Nat):Int):=A0k (by omega) (by omega);rw[hul]at lu;refine A0e C ?_;simp -implicitDefEqProofs [SCd,lu,hjl,i4,lp,B8v,ab,w3];exact Abs.Next.mk ⟨Hb,na+2,na+1,j+1⟩ ⟨⟨by rw[cb' 0 (by omega) (by omega)];exact g0,by rw[cb' 1 (by omega) (by omega)];exact g1,bb,by show 1<na+1;omega,by show na+1<na+2;omega,hjl⟩,by show us.length-(j+1)<us.length-j;omega⟩ (A0d (by simp -implicitDefEqProofs [SCd,el]))
        .have ej:j=us.length:=by omega
         subst ej;rw[hul]at lu;refine A0e C ?_;simp -implicitDefEqProofs [SCd,lu,hjl];exact Abs.Next.mk ⟨Ha,na,ka,0⟩ ⟨g0,g1,by show 1<na;omega,go,gk⟩ (A0d (by simp -implicitDefEqProofs))
       rintro⟨Ha,na,ka,_⟩ ⟨g0,g1,gn,go,gk⟩;simp only at g0 g1 gn go gk;rw[tkE]at go;have zaa:=ld g0;have zbb:=ldb g1;have e3:=eC w2' (k::us) ls2 (by simp only[X0];omega);rw[<-hfk]at e3;have ht:toT Ha (.row ka 0 (natL (k::us)).length 1)=some (A1a eInt (natL (k::us)),[ka]):=A2s (e:=eInt) go
       have hts:∀x y z w:T,toTs Ha [.t x,.t y,.t z,.row ka 0 (natL (k::us)).length 1,.t w]=some ([x,y,z,A1a eInt (natL (k::us)),w],[ka]):=λx y z w=>by
        simp only[toTs,toT.eq_1,ht];rfl
       cases hfv:f k with
       | true=>
        rw[hfv,Bool.true_or]at hRk;rw[hfv]at e3;refine A0e C ?_;simp -implicitDefEqProofs [tkE,zaa.all,zbb.all,hts,wi,e3,hRk,F4a,-toTs,-toT]
       | false=>
        rw[hfv]at e3;refine A0e C ?_;simp -implicitDefEqProofs [tkE,zaa.all,zbb.all,hts,wi,e3,-toTs,-toT];exact Abs.Next.mk ⟨Ha,na,0⟩ ⟨g0,g1,gn⟩ (A0d (by simp -implicitDefEqProofs))
   .rintro⟨Ha,na,_⟩ ⟨g0,g1,gn,hfv⟩;rw[hfv,Bool.false_or]at hRk;refine A0e C ?_;simp -implicitDefEqProofs [w1];exact Abs.Next.mk ⟨Ha,na,k+1⟩ ⟨⟨g0,g1,gn,hRk,hlt⟩,by show b.cons.length-(k+1)<b.cons.length-k;omega⟩ (A0d (by simp -implicitDefEqProofs [SCn]))
  .have hRn:R=false:=by
    rw[hRk,Xr (by simp;omega)];rfl
   refine A0e C ?_;simp -implicitDefEqProofs [SCn,zb.l4,lcb,hlt];exact Abs.Next.mk () hRn (A8d (by omega) (λq hq=>by cases hq))
 rintro _ hRf';refine A0e C ?_;simp -implicitDefEqProofs [hRf']
theorem hCn (h:MB a b ca cb):∀(n i:Nat),a.cons.length-i=n->i<=a.cons.length->GOK Tryz.prog (G q) 80 (gCn a b ca cb i)
 | n,i,hn,hi=>λargs r hr=>by
  unfold gCn at hr;split at hr
  .rename_i t1 t2 t tu x;split at hr
   .rename_i h12;obtain⟨rfl,rfl,rfl⟩:=h12;split at hr
    .rename_i v hd;split at hr
     .rename_i he;injection hr with hr;subst hr;have hsp:=he.choose_spec
      obtain⟨w,hw⟩:∃w,w=he.choose:=⟨_,rfl⟩
      rw[<-hw]at hsp ⊢;clear hw he hd;obtain⟨rfl,rfl,h3,h4⟩:=hsp
      exact F8r (q:=q) h i (λhil=>match n,hn with
       | 0,hn=>absurd hn (by omega)
       | n+1,hn=>hCn h n (i+1) (by omega) (by omega)) hi h3 h4
     .cases hr
    .cases hr
   .cases hr
  .cases hr
end
def G2j (d:T):Option (List Nat)->T
 | some r=>.tu [A1a eInt (natL r),bv true]
 | none=>.tu [d,bv false]
section
variable {a b : Mr} {ca cb : List T}
def srR (a b:Mr) (v:List Int) (ps:List Nat):Option (List Nat):=A4b (A1l a b) b.cons a.cons b.rels (a.rels.drop ps.length) v ps
def srT (a b:Mr) (v:List Int) (ps:List Nat):T:=G2j (if ps.length=a.rels.length then A1a eInt (natL ps)else nilS) (srR a b v ps)
noncomputable def gSr (a b:Mr) (ca cb:List T) (i:Nat):List T->Option T
 | [t1,t2,t,tu]=>open Classical in if t1 = .ag ca/\t2 = .ag cb then(match (tSl eInt).dec t with
  | some v=>if h:∃us:List Nat,tu=A1a eInt (natL us)/\t=slT eInt v/\v.length=a.vars.length/\us.length=i then some (srT a b v h.choose)else none
  | none=>none)else none
 | _=>none
theorem F5r {i:Nat} {v:List Int} {us:List Nat} (hl:v.length=a.vars.length) (hu:us.length=i):gSr a b ca cb i [.ag ca,.ag cb,slT eInt v,A1a eInt (natL us)]=some (srT a b v us):=by
 simp only[gSr];rw[if_pos ⟨trivial,trivial⟩,(tSl eInt).dec_is (IsS.mk (e:=eInt) v)]
 have he:∃us':List Nat,A1a eInt (natL us)=A1a eInt (natL us')/\slT eInt v=slT eInt v/\v.length=a.vars.length/\us'.length=i:=⟨us,rfl,rfl,hl,hu⟩
 obtain⟨w,hw⟩:∃w,w=he.choose:=⟨_,rfl⟩
 have hc:=he.choose_spec.1;rw[<-hw]at hc
 have h2:IsS eInt (A1a eInt (natL us)) (natL w):=by
  have:=IsS.tree eInt (natL w);rwa[<-hc]at this
 have e:us=w:=C8v ((tSl eInt).uniq _ _ _ (IsS.tree eInt (natL us)) h2);refine(dif_pos he).trans ?_;rw[<-hw,<-e]
def SSr (tv tu:T) (c:CnC):A0c:=⟨[(10,.t (iv (c.k:Int))),(5,.ptr 1 0),(4,.ptr 0 0),(3,.t tu),(2,.t tv)],c.H,c.nx,87⟩
def SSd (tv tu:T) (w:List Int) (k:Nat) (tk:Nat->List Int) (c:CnD):A0c:=⟨[(14,.t (iv (c.j:Int))),(13,.row c.ko 0 (tk c.j).length 1),(11,.t (slT eInt w)),(10,.t (iv (k:Int))),(5,.ptr 1 0),(4,.ptr 0 0),(3,.t tu),(2,.t tv)],c.H,c.nx,87⟩
theorem F8s (h:MB a b ca cb) (i:Nat) (ih:i<a.rels.length->GOK Tryz.prog (G q) 51 (gSr a b ca cb (i+1))) (hi:i<=a.rels.length) {v:List Int} {us:List Nat} (hl:v.length=a.vars.length) (hu:us.length=i) :
  A1d Tryz.prog (G q) 51 [.ag ca,.ag cb,slT eInt v,A1a eInt (natL us)] (· = srT a b v us):=by
 obtain⟨i',hi'⟩:∃i',i'=i+1:=⟨_,rfl⟩
 rw[<-hi']at ih;have sar:=h.sa.rels;have sbr:=h.sb.rels;have sav:=h.sa.vars
 obtain⟨tv,htv⟩:∃tv,tv=slT eInt v:=⟨_,rfl⟩
 obtain⟨tu,htu⟩:∃tu,tu=A1a eInt (natL us):=⟨_,rfl⟩
 have hTu:IsS eInt tu (natL us):=by rw[htu];exact B7i _ _
 have hul:(natL us).length=i:=by rw[B9x,hu]
 have lu:=hTu.len;rw[hul]at lu
 obtain⟨R,hR⟩:∃R,R=srT a b v us:=⟨_,rfl⟩
 rw[<-hR,<-htu,<-htv]
 obtain⟨O,hO⟩:∃O,O=srR a b v us:=⟨_,rfl⟩
 unfold srT at hR;rw[<-hO,hu,<-htu]at hR;unfold srR at hO;rw[hu]at hO;have hoka:=h.oa;have hokb:=h.ob;have hlen:=h.len;have eP:∀x:Int,gPl [tu,iv x]=some (iv (plc x 0 (natL us))):=λx=>D2b x hTu (by omega);have eS:∀(w:List Int) (us':List Nat),w.length=a.vars.length->us'.length=i'->gSr a b ca cb i' [.ag ca,.ag cb,slT eInt w,A1a eInt (natL us')]=some (srT a b w us'):=λw us' hw hu'=>F5r hw hu';have eC:=F5q (a:=a) (b:=b) (ca:=ca) (cb:=cb) (i:=0) (v:=v) (us:=[]) hl (Nat.le_refl _);rw[Xk,<-htv,show A1a eInt (natL [])=nilS from rfl]at eC;have ePr:∀(x y:EC),(inE a.vars.length x.x/\x.x.args.length<=1000)->(inE a.vars.length y.x/\y.x.args.length<=1000)->gPr a b ca cb [.ag ca,.ag cb,slT eInt v,.ag x.cs,.ag y.cs]=some (tvT (B7s a b v x.x y.x)):=λx y hx hy=>G2h hl hx hy;have hPr':=hPr (q:=q) h;have hCn':=hCn (q:=q) h a.cons.length 0 (by omega) (Xd _);have haa:=h.sa.args;have hba:=h.sb.args;obtain⟨tva,tra,tca,rla,rfl,hva,hra,hrma,hca⟩:=h.ha;obtain⟨tvb,trb,tcb,rlb,rfl,hvb,hrb,hrmb,hcb⟩:=h.hb
 obtain⟨Xa,hXa⟩:∃X,X=mRow [iv a.top,iv a.index,tva,tra,tca]:=⟨_,rfl⟩
 obtain⟨Xb,hXb⟩:∃X,X=mRow [iv b.top,iv b.index,tvb,trb,tcb]:=⟨_,rfl⟩
 have cda:=cd5 (iv a.top) (iv a.index) tva tra tca;have cdb:=cd5 (iv b.top) (iv b.index) tvb trb tcb;have lra:=hra.len;have lrb:=hrb.len
 have rla':rla.length=a.rels.length:=by rw[<-hrma,Xh]
 have rlb':rlb.length=b.rels.length:=by rw[<-hrmb,Xh]
 rw[rla']at lra;rw[rlb']at lrb;have ld:∀{H:Heap},Xc H 0=some Xa->LdM (iv a.top) (iv a.index) tva tra tca H 0:=λh=>ldM (by rw[h,hXa]);have ldb:∀{H:Heap},Xc H 1=some Xb->LdM (iv b.top) (iv b.index) tvb trb tcb H 1:=λh=>ldM (by rw[h,hXb]);have z0:=ld (H:=[(1,Xb),(0,Xa)]) rfl;have z1:=ldb (H:=[(1,Xb),(0,Xa)]) rfl;refine D2a.call rfl ?_;(conv in B8s=>cbv);by_cases hend:i=a.rels.length
 .have C0:Ctx Tryz.prog (G q) _:=(A0s.cons hCn' .nil).ctx mixed;rw[if_pos hend]at hR
  have hOe:O=if A4r (A1l a b) b.cons a.cons v []then some us else none:=by rw[hO,hend,Xy,A4b]
  have hRe:R = .tu [tu,bv (A4r (A1l a b) b.cons a.cons v [])]:=by
   rw[hR,hOe]
   cases A4r (A1l a b) b.cons a.cons v []with
   | true=>show T.tu [A1a eInt (natL us),bv true]=_;rw[<-htu]
   | false=>rfl
  have c1:((i:Int)==(a.rels.length:Int))=true:=by rw[hend];simp
  refine A0a C0 ?_;simp -implicitDefEqProofs [cda,cdb];rw[show Row.cells 26 [.t (iv a.top),.t (iv a.index),.t tva,.t tra,.t tca]=Xa from hXa.symm,show Row.cells 26 [.t (iv b.top),.t (iv b.index),.t tvb,.t trb,.t tcb]=Xb from hXb.symm];have eC':gCn a b [iv a.top,iv a.index,tva,tra,tca] [iv b.top,iv b.index,tvb,trb,tcb] 0 [.ag [iv a.top,iv a.index,tva,tra,tca],.ag [iv b.top,iv b.index,tvb,trb,tcb],tv,nilS,.v (.int .i64 0)]=some (bv (A4r (A1l a b) b.cons a.cons v [])):=eC;refine A0a C0 ?_;simp -implicitDefEqProofs [z0.l3,lu,lra,c1,z0.all,z1.all,eC',hRe]
 have hil:i<a.rels.length:=by omega
 rw[if_neg hend]at hR;have C:Ctx Tryz.prog (G q) _:=(A0s.cons hPr' (.cons (hPl (q:=q)) (.cons (ih hil) .nil))).ctx mixed
 obtain⟨X,hX1⟩:∃X,rla[i]?=some X:=⟨_,Xe (by omega)⟩
 have hXr:a.rels[i]?=some X.x:=by rw[<-hrma,X2,hX1];rfl
 have hXm:=Xf hXr;obtain⟨tx,hXc,htx⟩:=X.ok;have i1:=hra.iaddr hX1 .i64;have hz:eEC.z=3:=rfl;rw[hz,show eEC.enc X=X.cs from rfl,hXc]at i1
 obtain⟨f,hf⟩:∃f:Nat->Option (List Nat),f=λk=>if k∈us then none else match A4i X.x (b.rels.getD k ⟨⟨#[]⟩,0,[]⟩)with
  | none=>none
  | some l=>match A2x (A1l a b) v l with
   | none=>none
   | some w=>A4b (A1l a b) b.cons a.cons b.rels (a.rels.drop i') w (us++[k]):=⟨_,rfl⟩
 have hOf:O=((Xg b.rels.length).drop 0).findSome? f:=by
  (rw[hO,Xi hil,(Xj.1 hXr).2,<-hi',A4b,hf,Xk])<;>rfl
 have c1:((i:Int)==(a.rels.length:Int))=false:=by simp;omega
 refine A0a C ?_;simp -implicitDefEqProofs [cda,cdb];rw[show Row.cells 26 [.t (iv a.top),.t (iv a.index),.t tva,.t tra,.t tca]=Xa from hXa.symm,show Row.cells 26 [.t (iv b.top),.t (iv b.index),.t tvb,.t trb,.t tcb]=Xb from hXb.symm];refine A0a C ?_;simp -implicitDefEqProofs [z0.l3,lu,lra,c1];refine A0q (α:=Unit) (λ_=>⟨[],[],0,87⟩) (λ_=>O=none) (λ_=>rfl) ?_ ?_
 .refine A0a C ?_;simp -implicitDefEqProofs;refine A0j ?_;refine A0n (SSr tv tu) (λd=>b.rels.length-d.k) (λd=>Xc d.H 0=some Xa/\Xc d.H 1=some Xb/\1<d.nx/\O=((Xg b.rels.length).drop d.k).findSome? f/\d.k<=b.rels.length) ⟨[(1,Xb),(0,Xa)],2,0⟩ (λ_=>rfl) ⟨rfl,rfl,by show 1<2;omega,hOf,Xd _⟩ ?_ rfl ?_
  .exact A0d (by simp -implicitDefEqProofs [SSr])
  rintro⟨H,nx,k⟩ ⟨h0,h1,hn,hRk,hk⟩;simp only at h0 h1 hn hRk hk;have za:=ld h0;have zb:=ldb h1;by_cases hlt:k<b.rels.length
  .rw[C5z hlt]at hRk
   obtain⟨Y,hY1⟩:∃Y,rlb[k]?=some Y:=⟨_,Xe (by omega)⟩
   have hYr:b.rels[k]?=some Y.x:=by rw[<-hrmb,X2,hY1];rfl
   have hYm:=Xf hYr
   have hgd:b.rels.getD k ⟨⟨#[]⟩,0,[]⟩=Y.x:=by rw[Xz,hYr];rfl
   obtain⟨ty,hYc,hty⟩:=Y.ok;have i2:=hrb.iaddr hY1 .i64;rw[hz,show eEC.enc Y=Y.cs from rfl,hYc]at i2;have w1:IntKind.i64.wrap ((k:Int)+1)=((k+1:Nat):Int):=A0k (by omega) (by omega);have e1:=ePr X Y ⟨λv hv=>hoka.rel hXm hv,haa _ hXm⟩ ⟨λv hv=>by have:=hokb.rel hYm hv;rwa[hlen]at this,hba _ hYm⟩;rw[hXc,hYc,<-htv]at e1;have hpe:=F4r (a:=a) (b:=b) v X.x Y.x
   obtain⟨st,hst⟩:∃st,st=B7s a b v X.x Y.x:=⟨_,rfl⟩
   have ls1:st.1.length=a.vars.length:=by rw[hst];exact F0g hl _ _
   rw[<-hst]at e1 hpe
   have hfk:f k=if k∈us then none else if st.2 then A4b (A1l a b) b.cons a.cons b.rels (a.rels.drop i') st.1 (us++[k])else none:=by
    rw[hf]
    show(if k∈us then none else match A4i X.x (b.rels.getD k ⟨⟨#[]⟩,0,[]⟩)with
     | none=>none
     | some l=>match A2x (A1l a b) v l with
      | none=>none
      | some w=>A4b (A1l a b) b.cons a.cons b.rels (a.rels.drop i') w (us++[k]))=_
    rw[hgd];congr 1
    cases hp:A4i X.x Y.x with
    | none=>
     rw[hp]at hpe
     have hpe:none=if st.2 then some st.1 else none:=hpe
     split at hpe
     .cases hpe
     .rename_i hne;rw[if_neg hne]
    | some l=>
     rw[hp]at hpe
     have hpe:A2x (A1l a b) v l=if st.2 then some st.1 else none:=hpe
     show(match A2x (A1l a b) v l with
      | none=>none
      | some w=>A4b (A1l a b) b.cons a.cons b.rels (a.rels.drop i') w (us++[k]))=_
     rw[hpe];by_cases hs:st.2=true
     .rw[if_pos hs,if_pos hs]
     .rw[if_neg hs,if_neg hs]
   clear hpe hst;obtain⟨w1',ok1⟩:=st;simp only at hfk ls1 e1;refine A0a C ?_;simp -implicitDefEqProofs [SSr,zb.l3,lrb,hlt];refine A0q (λd:CnC=>⟨[(10,.t (iv (k:Int))),(5,.ptr 1 0),(4,.ptr 0 0),(3,.t tu),(2,.t tv)],d.H,d.nx,87⟩) (λd=>Xc d.H 0=some Xa/\Xc d.H 1=some Xb/\1<d.nx/\f k=none) (λ_=>rfl) ?_ ?_
   .refine A0j ?_;by_cases hku:k∈us
    .rw[if_pos hku]at hfk
     have hp:0<=plc (k:Int) 0 (natL us):=by
      have:=(not_congr (B1f (x:=(k:Int)) (l:=natL us) (i:=0))).2 (λe=>e (B9z.2 hku));omega
     refine A0a C ?_;simp -implicitDefEqProofs [eP,hp];exact Abs.Next.mk ⟨H,nx,0⟩ ⟨h0,h1,hn,hfk⟩ (A0d (by simp -implicitDefEqProofs))
    .rw[if_neg hku]at hfk
     have hp:¬0<=plc (k:Int) 0 (natL us):=by
      have:=(B1f (x:=(k:Int)) (l:=natL us) (i:=0)).2 (λe=>hku (B9z.1 e));omega
     refine A0a C ?_;simp -implicitDefEqProofs [eP,hp];refine A0a C ?_;simp -implicitDefEqProofs [za.all,zb.all,za.l3,zb.l3,lu,i1,i2,l3_c,e1]
     cases ok1 with
     | false=>
      refine A0a C ?_;simp -implicitDefEqProofs;exact Abs.Next.mk ⟨H,nx,0⟩ ⟨h0,h1,hn,hfk⟩ (A0d (by simp -implicitDefEqProofs))
     | true=>
      have hfk:f k=A4b (A1l a b) b.cons a.cons b.rels (a.rels.drop i') w1' (us++[k]):=hfk;refine A0a C ?_;simp -implicitDefEqProofs;refine A0a C ?_;simp -implicitDefEqProofs [D9n]
      obtain⟨tk,htk⟩:∃tk:Nat->List Int,tk=λj=>(natL us).take j:=⟨_,rfl⟩
      have tk0:tk 0=[]:=by rw[htk];rfl
      have tkE:tk i=natL us:=by rw[htk,<-hul];exact Xn
      have tkl:∀j,(tk j).length<=2000:=λj=>by rw[htk];show((natL us).take j).length<=_;rw[Xo];omega
      refine A0q (λe:CnD=>⟨[(13,.row e.ko 0 (tk i).length 1),(11,.t (slT eInt w1')),(10,.t (iv (k:Int))),(5,.ptr 1 0),(4,.ptr 0 0),(3,.t tu),(2,.t tv)],e.H,e.nx,87⟩)
       (λe=>Xc e.H 0=some Xa/\Xc e.H 1=some Xb/\e.ko<e.nx/\Xc e.H e.ko=some (A0l eInt tyI (tk i))/\1<e.ko) (λ_=>rfl) ?_ ?_
      .refine A0a C ?_;simp -implicitDefEqProofs;refine A0j ?_
       refine A0n (SSd tv tu w1' k tk) (λe=>i-e.j) (λe=>Xc e.H 0=some Xa/\Xc e.H 1=some Xb/\Xc e.H e.ko=some (A0l eInt tyI (tk e.j))/\1<e.ko/\e.ko<e.nx/\e.j<=i)
        ⟨(nx,.cells tyI [])::H,nx+1,nx,0⟩ (λ_=>rfl) ⟨by rw[look_cons,if_neg (by omega)];exact h0,by rw[look_cons,if_neg (by omega)];exact h1,by rw[look_cons,if_pos rfl,tk0];rfl,hn,X1 _,Xd _⟩ ?_ rfl ?_
       .exact A0d (by simp -implicitDefEqProofs [SSd,tk0])
       rintro⟨Ha,na,ka,j⟩ ⟨g0,g1,go,gk,gn,gj⟩;simp only at g0 g1 go gk gn gj;by_cases hjl:j<i
       .obtain⟨u,hu1⟩:∃u,(natL us)[j]?=some u:=⟨_,Xe (by omega)⟩
        have es:tk (j+1)=tk j++[u]:=by rw[htk];show(natL us).take (j+1)=(natL us).take j++[u];rw[Xp,hu1];rfl
        have el:(tk (j+1)).length=(tk j).length+1:=by rw[es];simp
        have tl:=tkl j;obtain⟨Hb,ab,bb,cb',_⟩:=appX (by':=8) (nx:=na) (ty:=tyI) u 1 rfl [.t (iv u)] rfl _ rfl go gn (by omega) (by omega);rw[<-es]at bb;have i4:=hTu.iaddr hu1 .i64;have hzi:eInt.z=1:=rfl;rw[hzi,show eInt.enc u=[iv u]from rfl]at i4;have w3:IntKind.i64.wrap ((j:Int)+1)=((j+1:Nat):Int):=A0k (by omega) (by omega);refine A0e C ?_;simp -implicitDefEqProofs [SSd,lu,hjl,i4,lp,B8v,ab,w3];exact Abs.Next.mk ⟨Hb,na+2,na+1,j+1⟩ ⟨⟨by rw[cb' 0 (by omega) (by omega)];exact g0,by rw[cb' 1 (by omega) (by omega)];exact g1,bb,by show 1<na+1;omega,by show na+1<na+2;omega,hjl⟩,by show i-(j+1)<i-j;omega⟩ (A0d (by simp -implicitDefEqProofs [SSd,el]))
       .have ej:j=i:=by omega
        subst ej;refine A0e C ?_;simp -implicitDefEqProofs [SSd,lu];exact Abs.Next.mk ⟨Ha,na,ka,0⟩ ⟨g0,g1,gn,go,gk⟩ (A0d (by simp -implicitDefEqProofs))
      rintro⟨Ha,na,ka,_⟩ ⟨g0,g1,gn,go,gk⟩;simp only at g0 g1 gn go gk;rw[tkE]at go;obtain⟨Hb,ab,bb,cb',_⟩:=appX (by':=8) (nx:=na) (ty:=tyI) (k:Int) 1 rfl [.t (iv (k:Int))] rfl _ rfl go gn (by omega) (by omega)
      have eN:natL us++[(k:Int)]=natL (us++[k]):=by simp[natL]
      rw[eN]at bb
      have lN:(natL us).length+1=(natL (us++[k])).length:=by rw[<-eN];simp
      refine A0a C ?_;simp -implicitDefEqProofs [tkE,B8v,ab];have zaa:=ld (H:=Hb) (by rw[cb' 0 (by omega) (by omega)];exact g0);have zbb:=ldb (H:=Hb) (by rw[cb' 1 (by omega) (by omega)];exact g1)
      have g0':Xc Hb 0=some Xa:=by rw[cb' 0 (by omega) (by omega)];exact g0
      have g1':Xc Hb 1=some Xb:=by rw[cb' 1 (by omega) (by omega)];exact g1
      have e3:=eS w1' (us++[k]) ls1 (by rw[Xs,Xt];omega)
      have eSr:srR a b w1' (us++[k])=f k:=by
       unfold srR;rw[hfk,Xs,Xt,hu,<-hi']
      have hlen2:(us++[k]).length=i':=by rw[Xs,Xt];omega
      unfold srT at e3;rw[eSr,hlen2]at e3
      have ht:toT Hb (.row (na+1) 0 (natL (us++[k])).length 1)=some (A1a eInt (natL (us++[k])),[na+1]):=by
       have:=A2s (e:=eInt) bb;rw[show A1a eInt (natL (us++[k]))=slT eInt (natL (us++[k]))from ?_]
       .exact this
       .rw[<-eN]
        cases hq:natL us with
        | nil=>rfl
        | cons x l=>rfl
      have hts:∀x y z:T,toTs Hb [.t x,.t y,.t z,.row (na+1) 0 (natL (us++[k])).length 1]=some ([x,y,z,A1a eInt (natL (us++[k]))],[na+1]):=λx y z=>by
       simp only[toTs,F4a,ht];rfl
      rw[lN]
      cases hfv:f k with
      | some r=>
       rw[hfv]at hRk e3
       have hRr:R = .tu [A1a eInt (natL r),bv true]:=by rw[hR,hRk];rfl
       have e3:gSr a b [iv a.top,iv a.index,tva,tra,tca] [iv b.top,iv b.index,tvb,trb,tcb] i' [.ag [iv a.top,iv a.index,tva,tra,tca],.ag [iv b.top,iv b.index,tvb,trb,tcb],slT eInt w1',A1a eInt (natL (us++[k]))]=some (.tu [A1a eInt (natL r),bv true]):=e3
       obtain⟨tr,htr⟩:∃t,t=A1a eInt (natL r):=⟨_,rfl⟩
       rw[<-htr]at e3 hRr;refine A0e C ?_;simp -implicitDefEqProofs [zaa.all,zbb.all,hts,e3,hRr,-toTs]
      | none=>
       rw[hfv]at e3
       obtain⟨td,e3⟩:∃td,gSr a b [iv a.top,iv a.index,tva,tra,tca] [iv b.top,iv b.index,tvb,trb,tcb] i' [.ag [iv a.top,iv a.index,tva,tra,tca],.ag [iv b.top,iv b.index,tvb,trb,tcb],slT eInt w1',A1a eInt (natL (us++[k]))]=some (.tu [td,bv false]):=⟨_,e3⟩
       refine A0e C ?_;simp -implicitDefEqProofs [zaa.all,zbb.all,hts,e3,-toTs]
       obtain⟨Hc,hHc⟩:∃Hc,Hc=if A3s (.tu [td,bv false])=true then Hb else rem Hb (na+1):=⟨_,rfl⟩
       rw[<-hHc]
       have kc:∀c,c<na+1->Xc Hc c=Xc Hb c:=λc hc=>by
        rw[hHc];split
        .rfl
        .rw[A1e,if_neg (by omega)]
       exact Abs.Next.mk ⟨Hc,na+2,0⟩ ⟨(kc 0 (by omega)).trans g0',(kc 1 (by omega)).trans g1',by show 1<na+2;omega⟩ (A0d (by simp -implicitDefEqProofs))
   .rintro⟨Ha,na,_⟩ ⟨g0,g1,gn,hfv⟩;rw[hfv]at hRk;refine A0e C ?_;simp -implicitDefEqProofs [w1];exact Abs.Next.mk ⟨Ha,na,k+1⟩ ⟨⟨g0,g1,gn,hRk,hlt⟩,by show b.rels.length-(k+1)<b.rels.length-k;omega⟩ (A0d (by simp -implicitDefEqProofs [SSr]))
  .have hRn:O=none:=by
    rw[hRk,Xr (by simp;omega)];rfl
   refine A0e C ?_;simp -implicitDefEqProofs [SSr,zb.l3,lrb,hlt];exact Abs.Next.mk () hRn (A8d (by omega) (λq hq=>by cases hq))
 rintro _ hRf';rw[hRf']at hR;have hR:R = .tu [nilS,bv false]:=hR;refine A0e C ?_;simp -implicitDefEqProofs [hR]
theorem hSr (h:MB a b ca cb):∀(n i:Nat),a.rels.length-i=n->i<=a.rels.length->GOK Tryz.prog (G q) 51 (gSr a b ca cb i)
 | n,i,hn,hi=>λargs r hr=>by
  unfold gSr at hr;split at hr
  .rename_i t1 t2 t tu;split at hr
   .rename_i h12;obtain⟨rfl,rfl⟩:=h12;split at hr
    .rename_i v hd;split at hr
     .rename_i he;injection hr with hr;subst hr;have hsp:=he.choose_spec
      obtain⟨w,hw⟩:∃w,w=he.choose:=⟨_,rfl⟩
      rw[<-hw]at hsp ⊢;clear hw he hd;obtain⟨rfl,rfl,h3,h4⟩:=hsp
      exact F8s (q:=q) h i (λhil=>match n,hn with
       | 0,hn=>absurd hn (by omega)
       | n+1,hn=>hSr h n (i+1) (by omega) (by omega)) hi h3 h4
     .cases hr
    .cases hr
   .cases hr
  .cases hr
end
def matT:Option (List Nat)->T
 | some r=>.tu [A1a eInt (natL r),bv true]
 | none=>.tu [nilS,bv false]
section
variable {a b : Mr} {ca cb : List T}
structure MtC where
 H:Heap
 nx:Nat
 ko:Nat
 j:Nat
def SMt (c:MtC):A0c:=⟨[(7,.t (iv (c.j:Int))),(6,.row c.ko 0 c.j 1),(3,.ptr 1 0),(2,.ptr 0 0)],c.H,c.nx,84⟩
theorem F4s (n:Nat):Xl (n+1) (-1:Int)=Xl n (-1)++[-1]:=by rw[List.replicate_succ']
theorem D6p (ha:IsMr a ca) (hb:IsMr b cb) (sa:SmM a) (sb:SmM b) (oa:okV a) (ob:okV b):A1d Tryz.prog (G q) 24 [.ag ca,.ag cb] (· = matT (A1r (A1l a b) a b)):=by
 have sav:=sa.vars
 obtain⟨R,hR⟩:∃R,R=matT (A1r (A1l a b) a b):=⟨_,rfl⟩
 rw[<-hR];obtain⟨tva,tra,tca,rla,eca,hva,hra,hrma,hca⟩:=id ha;obtain⟨tvb,trb,tcb,rlb,ecb,hvb,hrb,hrmb,hcb⟩:=id hb
 obtain⟨Xa,hXa⟩:∃X,X=mRow [iv a.top,iv a.index,tva,tra,tca]:=⟨_,rfl⟩
 obtain⟨Xb,hXb⟩:∃X,X=mRow [iv b.top,iv b.index,tvb,trb,tcb]:=⟨_,rfl⟩
 have cda:=cd5 (iv a.top) (iv a.index) tva tra tca;have cdb:=cd5 (iv b.top) (iv b.index) tvb trb tcb;have lva:=hva.len;have lvb:=hvb.len;have lra:=hra.len;have lrb:=hrb.len;have lca:=hca.len;have lcb:=hcb.len
 have rla':rla.length=a.rels.length:=by rw[<-hrma,Xh]
 have rlb':rlb.length=b.rels.length:=by rw[<-hrmb,Xh]
 rw[rla']at lra;rw[rlb']at lrb;have ld:∀{H:Heap},Xc H 0=some Xa->LdM (iv a.top) (iv a.index) tva tra tca H 0:=λh=>ldM (by rw[h,hXa]);have ldb:∀{H:Heap},Xc H 1=some Xb->LdM (iv b.top) (iv b.index) tvb trb tcb H 1:=λh=>ldM (by rw[h,hXb]);have z0:=ld (H:=[(1,Xb),(0,Xa)]) rfl;have z1:=ldb (H:=[(1,Xb),(0,Xa)]) rfl;refine D6c.call rfl ?_;(conv in C2o=>cbv);by_cases hL:a.rels.length≠b.rels.length\/a.cons.length≠b.cons.length\/a.vars.length≠b.vars.length
 .have hR0:R = .tu [nilS,bv false]:=by rw[hR];unfold A1r;rw[if_pos hL];rfl
  subst eca ecb;refine A0a A0g ?_;simp -implicitDefEqProofs [cda,cdb];rw[show Row.cells 26 [.t (iv a.top),.t (iv a.index),.t tva,.t tra,.t tca]=Xa from hXa.symm,show Row.cells 26 [.t (iv b.top),.t (iv b.index),.t tvb,.t trb,.t tcb]=Xb from hXb.symm];refine A0a A0g ?_;by_cases h1:a.rels.length=b.rels.length
  .have c1:((a.rels.length:Int) !=(b.rels.length:Int))=false:=by rw[h1];exact bne_self_eq_false _
   by_cases h2:a.cons.length=b.cons.length
   .have c2:((a.cons.length:Int) !=(b.cons.length:Int))=false:=by rw[h2];exact bne_self_eq_false _
    have h3:a.vars.length≠b.vars.length:=by
     rcases hL with e | e | e
     .exact absurd h1 e
     .exact absurd h2 e
     .exact e
    have c3:((a.vars.length:Int) !=(b.vars.length:Int))=true:=by rw[bne_iff_ne];omega
    simp -implicitDefEqProofs [z0.l2,z0.l3,z0.l4,z1.l2,z1.l3,z1.l4,lva,lvb,lra,lrb,lca,lcb,c1,c2,c3,hR0]
   .have c2:((a.cons.length:Int) !=(b.cons.length:Int))=true:=by rw[bne_iff_ne];omega
    simp -implicitDefEqProofs [z0.l3,z0.l4,z1.l3,z1.l4,lra,lrb,lca,lcb,c1,c2,hR0]
  .have c1:((a.rels.length:Int) !=(b.rels.length:Int))=true:=by rw[bne_iff_ne];omega
   simp -implicitDefEqProofs [z0.l3,z1.l3,lra,lrb,c1,hR0]
 have h1:a.rels.length=b.rels.length:=Decidable.byContradiction λe=>hL (.inl e);have h2:a.cons.length=b.cons.length:=Decidable.byContradiction λe=>hL (.inr (.inl e));have h3:a.vars.length=b.vars.length:=Decidable.byContradiction λe=>hL (.inr (.inr e))
 have hMB:MB a b ca cb:=⟨ha,hb,sa,sb,oa,ob,h3.symm⟩
 have C:Ctx Tryz.prog (G q) _:=(A0s.cons (hBd (q:=q) hMB) (.cons (hSr (q:=q) hMB a.rels.length 0 (by omega) (Xd _)) .nil)).ctx mixed
 obtain⟨v0,hv0⟩:∃v,v=Xl a.vars.length (-1:Int):=⟨_,rfl⟩
 have lv0:v0.length=a.vars.length:=by rw[hv0,Xm]
 have itb:=ob.top;have iib:=ob.index;rw[<-h3]at itb iib;have e1:=E0w (a:=a) (b:=b) (ca:=ca) (cb:=cb) lv0 oa.top itb
 obtain⟨s1,hs1⟩:∃s,s=A6m a b v0 a.top b.top:=⟨_,rfl⟩
 have ls1:s1.1.length=a.vars.length:=by rw[hs1];exact A6n lv0 _ _
 have e2:=E0w (a:=a) (b:=b) (ca:=ca) (cb:=cb) ls1 oa.index iib
 obtain⟨s2,hs2⟩:∃s,s=A6m a b s1.1 a.index b.index:=⟨_,rfl⟩
 have ls2:s2.1.length=a.vars.length:=by rw[hs2];exact A6n ls1 _ _
 have hb2:=G2i (a:=a) (b:=b) v0 (a.top,b.top) (a.index,b.index);simp only at hb2;rw[<-hs1,<-hs2]at hb2
 have hMF:A1r (A1l a b) a b=match (if s1.2 then(if s2.2 then some s2.1 else none)else none)with
   | none=>none
   | some w=>A4b (A1l a b) b.cons a.cons b.rels a.rels w []:=by
  unfold A1r
  (rw[if_neg hL,<-hv0,hb2])<;>rfl
 rw[hMF]at hR;rw[<-hs1]at e1;rw[<-hs2]at e2;have e3:=F5r (a:=a) (b:=b) (ca:=ca) (cb:=cb) (i:=0) (us:=[]) ls2 rfl;rw[show A1a eInt (natL [])=nilS from rfl]at e3;unfold srT srR at e3;rw[List.length_nil,Xk]at e3
 have c1:((a.rels.length:Int) !=(b.rels.length:Int))=false:=by rw[h1];exact bne_self_eq_false _
 have c2:((a.cons.length:Int) !=(b.cons.length:Int))=false:=by rw[h2];exact bne_self_eq_false _
 have c3:((a.vars.length:Int) !=(b.vars.length:Int))=false:=by rw[h3];exact bne_self_eq_false _
 subst eca ecb;refine A0a C ?_;simp -implicitDefEqProofs [cda,cdb];rw[show Row.cells 26 [.t (iv a.top),.t (iv a.index),.t tva,.t tra,.t tca]=Xa from hXa.symm,show Row.cells 26 [.t (iv b.top),.t (iv b.index),.t tvb,.t trb,.t tcb]=Xb from hXb.symm];refine A0a C ?_;simp -implicitDefEqProofs [z0.l2,z0.l3,z0.l4,z1.l2,z1.l3,z1.l4,lva,lvb,lra,lrb,lca,lcb,c1,c2,c3];refine A0a C ?_;simp -implicitDefEqProofs [D9n];refine A0q (λc:MtC=>⟨[(6,.row c.ko 0 a.vars.length 1),(3,.ptr 1 0),(2,.ptr 0 0)],c.H,c.nx,84⟩) (λc=>Xc c.H 0=some Xa/\Xc c.H 1=some Xb/\Xc c.H c.ko=some (A0l eInt tyI v0)/\1<c.ko/\c.ko<c.nx) (λ_=>rfl) ?_ ?_
 .refine A0a C ?_;simp -implicitDefEqProofs;refine A0j ?_
  refine A0n SMt (λc=>a.vars.length-c.j) (λc=>Xc c.H 0=some Xa/\Xc c.H 1=some Xb/\Xc c.H c.ko=some (A0l eInt tyI (Xl c.j (-1)))/\1<c.ko/\c.ko<c.nx/\c.j<=a.vars.length)
   ⟨[(2,.cells tyI []),(1,Xb),(0,Xa)],3,2,0⟩ (λ_=>rfl) ⟨rfl,rfl,rfl,by show 1<2;omega,by show 2<3;omega,Xd _⟩ ?_ rfl ?_
  .exact A0d (by simp -implicitDefEqProofs [SMt])
  rintro⟨H,nx,ko,j⟩ ⟨g0,g1,go,gk,gn,gj⟩;simp only at g0 g1 go gk gn gj;have za:=ld g0;by_cases hjl:j<a.vars.length
  .obtain⟨Hb,ab,bb,cb',_⟩:=appX (by':=8) (nx:=nx) (ty:=tyI) (-1:Int) 1 rfl [.t (iv (-1))] rfl j (Xm).symm go gn (by rw[Xm];omega) (by rw[Xm];omega);rw[<-F4s]at bb;have w3:IntKind.i64.wrap ((j:Int)+1)=((j+1:Nat):Int):=A0k (by omega) (by omega);refine A0e C ?_;simp -implicitDefEqProofs [SMt,za.l2,lva,hjl,B8v,ab,w3];exact Abs.Next.mk ⟨Hb,nx+2,nx+1,j+1⟩ ⟨⟨by rw[cb' 0 (by omega) (by omega)];exact g0,by rw[cb' 1 (by omega) (by omega)];exact g1,bb,by show 1<nx+1;omega,by show nx+1<nx+2;omega,hjl⟩,by show a.vars.length-(j+1)<a.vars.length-j;omega⟩ (A0d (by simp -implicitDefEqProofs [SMt]))
  .have ej:j=a.vars.length:=by omega
   subst ej;refine A0e C ?_;simp -implicitDefEqProofs [SMt,za.l2,lva];exact Abs.Next.mk ⟨H,nx,ko,0⟩ ⟨g0,g1,by rw[hv0];exact go,gk,gn⟩ (A0d (by simp -implicitDefEqProofs))
 rintro⟨H,nx,ko,_⟩ ⟨g0,g1,go,gk,gn⟩;simp only at g0 g1 go gk gn;have za:=ld g0;have zb:=ldb g1
 have ht:toT H (.row ko 0 a.vars.length 1)=some (slT eInt v0,[ko]):=by
  have:=A2s (e:=eInt) go;rw[lv0]at this;exact this
 have hts:∀x y z w:T,toTs H [.t x,.t y,.row ko 0 a.vars.length 1,.t z,.t w]=some ([x,y,slT eInt v0,z,w],[ko]):=λx y z w=>by
  simp only[toTs,F4a,ht];rfl
 obtain⟨w1,ok1⟩:=s1;obtain⟨w2,ok2⟩:=s2;simp only at ls1 ls2 e2 e3
 obtain⟨Hc,hHc⟩:∃Hc,Hc=if A3s (.tu [slT eInt w1,bv ok1])=true then H else rem H ko:=⟨_,rfl⟩
 have kc:∀c,c≠ko->Xc Hc c=Xc H c:=λc hc=>by
  rw[hHc];split
  .rfl
  .rw[A1e,if_neg hc]
 have zac:=ld (H:=Hc) ((kc 0 (by omega)).trans g0);have zbc:=ldb (H:=Hc) ((kc 1 (by omega)).trans g1);refine A0a C ?_;simp -implicitDefEqProofs [za.all,zb.all,za.l0,zb.l0,hts,e1,-toTs];refine MC.sub (s':=⟨[(9,.t (bv ok1)),(8,.t (slT eInt w1)),(3,.ptr 1 0),(2,.ptr 0 0)],Hc,nx,84⟩) (by rw[hHc];exact A0d (by simp -implicitDefEqProofs)) rfl ?_
 cases ok1 with
 | false=>
  have hR0:R = .tu [nilS,bv false]:=hR;refine A0a C ?_;simp -implicitDefEqProofs [hR0]
 | true=>
  refine A0a C ?_;simp -implicitDefEqProofs;refine A0a C ?_;simp -implicitDefEqProofs [zac.all,zbc.all,zac.l1,zbc.l1,e2]
  cases ok2 with
  | false=>
   have hR0:R = .tu [nilS,bv false]:=hR;refine A0a C ?_;simp -implicitDefEqProofs [hR0]
  | true=>
   have hR1:R=matT (A4b (A1l a b) b.cons a.cons b.rels a.rels w2 []):=hR;refine A0a C ?_;simp -implicitDefEqProofs
   obtain⟨o,ho⟩:∃o,o=A4b (A1l a b) b.cons a.cons b.rels a.rels w2 []:=⟨_,rfl⟩
   rw[<-ho]at e3 hR1
   cases o with
   | none=>
    obtain⟨d,e3⟩:∃d,gSr a b [iv a.top,iv a.index,tva,tra,tca] [iv b.top,iv b.index,tvb,trb,tcb] 0 [.ag [iv a.top,iv a.index,tva,tra,tca],.ag [iv b.top,iv b.index,tvb,trb,tcb],slT eInt w2,nilS]=some (.tu [d,bv false]):=⟨_,e3⟩
    have hR0:R = .tu [nilS,bv false]:=hR1;refine A0e C ?_;simp -implicitDefEqProofs [zac.all,zbc.all,e3,hR0]
   | some r=>
    have e3:gSr a b [iv a.top,iv a.index,tva,tra,tca] [iv b.top,iv b.index,tvb,trb,tcb] 0 [.ag [iv a.top,iv a.index,tva,tra,tca],.ag [iv b.top,iv b.index,tvb,trb,tcb],slT eInt w2,nilS]=some (.tu [A1a eInt (natL r),bv true]):=e3;have hR0:R = .tu [A1a eInt (natL r),bv true]:=hR1
    obtain⟨tr,htr⟩:∃t,t=A1a eInt (natL r):=⟨_,rfl⟩
    rw[<-htr]at e3 hR0;refine A0e C ?_;simp -implicitDefEqProofs [zac.all,zbc.all,e3,hR0]
end
noncomputable def B0p:A0p:=cm Tryz.f5 91
theorem B9g {q:Gl}:FnOK Tryz.prog (G q) 5 2 91 B0p [(.tmp 4)]:=fk Tryz.func5 (by kernel_rfl) (by kernel_rfl)
section
variable {a b c : Mr} {ca cb cc : List T}
def SMa (tx ty:T) (n:Nat) (H:Heap) (i:Nat):A0c:=⟨[(33,.t (iv (i:Int))),(32,.t (iv (n:Int))),(5,.t tx),(6,.t ty),(3,.ptr 1 0),(2,.ptr 0 0)],H,2,91⟩
def SMb (tp tq:T) (n:Nat) (H:Heap) (i:Nat):A0c:=⟨[(77,.t (iv (i:Int))),(76,.t (iv (n:Int))),(8,.t tp),(10,.t tq)],H,2,91⟩
theorem D6q (ha:InM a ca) (hb:InM b cb):A1d Tryz.prog (G q) 5 [.ag ca,.ag cb] (· = bv true):=by
 have e0:=A1i [] (bv true);have c1:=cdM ha;have c2:=cdM hb
 obtain⟨H0,hH0⟩:∃H0:Heap,H0=[(1,mRow cb),(0,mRow ca)]:=⟨_,rfl⟩
 have l1:=allM ha (H:=H0) (k:=0) (by rw[hH0];rfl);have l2:=allM hb (H:=H0) (k:=1) (by rw[hH0];rfl);have v1:=D3v ha (k:=5) (by omega);have v2:=D3v hb (k:=5) (by omega);have C:Ctx Tryz.prog (G q) _:=(A0s.cons (hVl (q:=q)) (.cons (hEx (q:=q)) .nil)).ctx mixed;refine B9g.call rfl ?_;(conv in B0p=>cbv);refine A0a C ?_;simp -implicitDefEqProofs [c1,c2];refine MC.sub (s':=⟨[(3,.ptr 1 0),(2,.ptr 0 0)],H0,2,91⟩) (by rw[hH0];exact A0d (by simp -implicitDefEqProofs)) rfl ?_
 cases hva:valB a 5 with
 | false=>
  rw[hva]at v1;refine A0a C ?_;simp -implicitDefEqProofs [l1,v1,e0]
 | true=>
 rw[hva]at v1
 cases hvb:valB b 5 with
 | false=>
  rw[hvb]at v2;refine A0a C ?_;simp -implicitDefEqProofs [l1,v1,l2,v2,e0]
 | true=>
 rw[hvb]at v2;refine A0a C ?_;simp -implicitDefEqProofs [l1,v1,l2,v2];obtain⟨ma,fa⟩:=B7x ha hva;obtain⟨mb,fb⟩:=B7x hb hvb
 obtain⟨PL,hPL⟩:∃PL,PL=A3m [] (A7y a):=⟨_,rfl⟩
 have hx:IsS eStr (cmpT (A7y a)) PL:=by
  unfold cmpT;rw[D9u,<-hPL];split
  .rename_i h
   have:A7y a=[]:=by simpa using h
   rw[hPL,this];exact IsS.nil
  .exact IsS.mk PL
 have hy:IsS eStr (slT eStr (A3m [] (A7y a))) PL:=by rw[<-hPL];exact IsS.mk PL
 have hpl:PL.length<=1000:=by
  have h2:PL.length<=0+(A7y a).length:=by rw[hPL];exact B7o (A7y a) []
  have h3:(A7y a).length=a.rels.length:=by unfold A7y;rw[Xh]
  have:=ma.sm.rels;omega
 have hX:=A4d (C2s (q:=q) ma.is ma.sm);have hY:=A4d (D6j (q:=q) ma.is ma.sm)
 obtain⟨tx,htx⟩:∃tx,tx=cmpT (A7y a):=⟨_,rfl⟩
 obtain⟨ty,hty⟩:∃ty,ty=slT eStr (A3m [] (A7y a)):=⟨_,rfl⟩
 rw[<-htx]at hx hX;rw[<-hty]at hy hY;have lx:=hx.len;have ly:=hy.len;have gx:=A1i [.ag ca] tx;have gy:=A1i [.ag ca] ty;have C1:Ctx Tryz.prog (G q) _:=(A0s.cons hX (.cons hY .nil)).ctx mixed;refine A0a C1 ?_;simp -implicitDefEqProofs [l1,gx,gy];refine A0a C1 ?_;simp -implicitDefEqProofs [lx,ly];refine MC.sub (s':=⟨[(5,.t tx),(6,.t ty),(3,.ptr 1 0),(2,.ptr 0 0)],H0,2,91⟩) (A0d (by simp -implicitDefEqProofs)) rfl ?_;refine A0q (λ_:Unit=>⟨[(3,.ptr 1 0),(2,.ptr 0 0)],H0,2,91⟩) (λ_=>True) (λ_=>rfl) ?_ ?_
 .refine A0a C1 ?_;simp -implicitDefEqProofs [lx];refine A0j ?_;refine A0n (SMa tx ty PL.length H0) (λi=>PL.length-i) (λi=>i<=PL.length) 0 (λ_=>rfl) (Xd _) ?_ rfl ?_
  .exact A0d (by simp -implicitDefEqProofs [SMa])
  rintro i hi;by_cases hlt:i<PL.length
  .obtain⟨x,hxi⟩:∃x,PL[i]?=some x:=⟨_,Xe hlt⟩
   have i1:=hx.iaddr hxi .i64;have i2:=hy.iaddr hxi .i64;rw[show eStr.z=1 from rfl,show eStr.enc x=[sv x]from rfl]at i1 i2;have w1:=C3b i (by omega);refine A0e C1 ?_;simp -implicitDefEqProofs [SMa,hlt,i1,i2,lp,w1];exact Abs.Next.mk (i+1) ⟨hlt,by show PL.length-(i+1)<PL.length-i;omega⟩ (A0d (by simp -implicitDefEqProofs [SMa]))
  .refine A0e C1 ?_;simp -implicitDefEqProofs [SMa,hlt];exact Abs.Next.mk () trivial (A0d (by simp -implicitDefEqProofs))
 rintro _ _;have hM:=A4d (B0d (q:=q) ma.is mb.is ma.sm mb.sm ma.lo mb.lo ma.oc mb.oc fa);have hR:=A4d (D6p (q:=q) ma.is mb.is ma.sm mb.sm ma.lo.ok mb.lo.ok);have hS:=C6h ma fa mb fb
 obtain⟨O,hO⟩:∃O,O=A1r (A1l a b) a b:=⟨_,rfl⟩
 rw[<-hO]at hM hR hS
 have hol:∀r,O=some r->r.length<=1000:=λr h=>by
  rw[hO]at h;obtain⟨w,hsol⟩:=B1h ma.lo.ok mb.lo.ok h;have:=hsol.rels.len;have:=ma.sm.rels;omega
 have key:∃tp tq P,mmT O = .tu [tp,bv O.isSome]/\matT O = .tu [tq,bv O.isSome]/\IsS eInt tp P/\IsS eInt tq P/\P.length<=1000:=by
  cases O with
  | none=>exact⟨nilS,nilS,[],rfl,rfl,IsS.nil,IsS.nil,Xd _⟩
  | some r=>exact⟨_,_,natL r,rfl,rfl,IsS.mk _,IsS.tree _ _,by have:=hol r rfl;unfold natL;rw[Xh];exact this⟩
 obtain⟨tp,tq,P,k1,k2,hp,hq,hPl⟩:=key
 obtain⟨bo,hbo⟩:∃bo,bo=O.isSome:=⟨_,rfl⟩
 rw[<-hbo]at k1 k2 hS;rw[k1]at hM;rw[k2]at hR;have lp':=hp.len;have lq':=hq.len;have g1:=A1i [.ag ca,.ag cb] (T.tu [tp,bv bo]);have g2:=A1i [.ag ca,.ag cb] (T.tu [tq,bv bo]);have C2:Ctx Tryz.prog (G q) _:=(A0s.cons hM (.cons hR (.cons (hSm (q:=q)) (.cons (hEx (q:=q)) .nil)))).ctx mixed;refine A0a C2 ?_;simp -implicitDefEqProofs [l1,l2,g1];refine A0a C2 ?_;simp -implicitDefEqProofs [l1,l2,g2];refine A0a C2 ?_;simp -implicitDefEqProofs [l1,l2,lp',lq',hS];refine MC.sub (s':=⟨[(8,.t tp),(10,.t tq)],H0,2,91⟩) (A0d (by simp -implicitDefEqProofs)) rfl ?_;refine A0q (λ_:Unit=>⟨[],H0,2,91⟩) (λ_=>True) (λ_=>rfl) ?_ ?_
 .refine A0a C2 ?_;simp -implicitDefEqProofs [lp'];refine A0j ?_;refine A0n (SMb tp tq P.length H0) (λi=>P.length-i) (λi=>i<=P.length) 0 (λ_=>rfl) (Xd _) ?_ rfl ?_
  .exact A0d (by simp -implicitDefEqProofs [SMb])
  rintro i hi;by_cases hlt:i<P.length
  .obtain⟨x,hxi⟩:∃x,P[i]?=some x:=⟨_,Xe hlt⟩
   have i1:=hp.iaddr hxi .i64;have i2:=hq.iaddr hxi .i64;rw[show eInt.z=1 from rfl,show eInt.enc x=[iv x]from rfl]at i1 i2;have w1:=C3b i (by omega);refine A0e C2 ?_;simp -implicitDefEqProofs [SMb,hlt,i1,i2,lp,w1];exact Abs.Next.mk (i+1) ⟨hlt,by show P.length-(i+1)<P.length-i;omega⟩ (A0d (by simp -implicitDefEqProofs [SMb]))
  .refine A0e C2 ?_;simp -implicitDefEqProofs [SMb,hlt];exact Abs.Next.mk () trivial (A0d (by simp -implicitDefEqProofs))
 rintro _ _;refine A0e C2 ?_;simp -implicitDefEqProofs [e0]
end
end Go.Proofs.YtmgjopafgboljaaGreatDoor
