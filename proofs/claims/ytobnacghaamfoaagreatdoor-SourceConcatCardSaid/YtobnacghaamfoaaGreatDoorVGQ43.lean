/- Auxiliary facts. -/
import Derived.Test.YtobnacghaamfoaaGreatDoorVGQ42
set_option linter.unusedSimpArgs false
set_option maxRecDepth 100000
set_option maxHeartbeats 0
set_option linter.unusedVariables false
open List renaming length_append->Xa,length_cons->Xb,length_nil->Xc,length_map->Xf,take_of_length_le->Xi,append_assoc->Xj,getElem?_eq_getElem->Xk,mem_of_getElem?->Xl,map_map->Xm,mem_singleton->Xn,getElem?_map->Xo,length_take->Xp,map_cons->Xt,mem_map->Xu,flatMap_cons->Xv,getElem?_eq_some_iff->Xw,drop_of_length_le->Xx,nil_append->Xy,append_nil->Xz,length->X8,map_append->X9,mem_cons_self->Ya,mem_cons_of_mem->Yb,drop_eq_getElem_cons->Yd,cons_append->Ye,mem_filter->Yf,map_nil->Yg,flatMap_append->Yh,flatMap_map->Yi
open Go.Proofs.Tryz renaming prog->Xd
open Nat renaming zero_le->Xe,le_trans->Xg,le_of_eq->Xq,mul_le_mul_right->Xr,lt_succ_of_lt->Xs,le_refl->X0,le_succ->X7,succ_mul->Yc
open Go.IntKind renaming i64->Xh
open Go.Abs renaming upd->X6
open Option renaming map_eq_some_iff->Yj,map_some->Yk
namespace Go.Proofs.YtobnacghaamfoaaGreatDoor
open Go Go.Abs
variable {q : Gl}
def gl {α:Type} (hd sep:List UInt8) (f:α->List UInt8):List α->List UInt8
 | []=>[]
 | x::r=>hd++(f x++gl sep sep f r)
theorem Vd {α:Type} {hd sep:List UInt8} {f:α->List UInt8} {L:List α} {j:Nat} {x:α} (h:L[j]?=some x):gl (if j=0 then hd else sep) sep f (L.drop j)=(if j=0 then hd else sep)++(f x++gl (if j+1=0 then hd else sep) sep f (L.drop (j+1))):=by
 obtain⟨hlt,he⟩:=Xw.1 h;rw[Yd hlt,he,gl,zz (Nat.succ_ne_zero j)]
theorem B1e {α:Type} {hd sep:List UInt8} {f:α->List UInt8} {L:List α} {j:Nat} (h:L.length<=j):gl hd sep f (L.drop j)=[]:=by
 rw[Xx h];rfl
def Cp (sep:List UInt8) (l:List ByteArray):List UInt8:=gl [] sep (λs=>s.data.toList) l
theorem B1f (sep:List UInt8) (l:List ByteArray):Lib.join (l.map (·.data.toList)) sep=Cp sep l:=by
 cases l with
 | nil=>rfl
 | cons s r=>
  rw[Xt,Lib.join_cons];show _=[]++(s.data.toList++gl sep sep _ r);rw[Xy];congr 1
  induction r with
  | nil=>rfl
  | cons x r ih=>
   rw[Xt,gl,<-ih];simp[Lib.joinTail]
theorem Ve {t:T} {l:List ByteArray} (h:IsS Ak t l) (sep:List UInt8) (hl:l.length<=100000) (hd:(Cp sep l).length<=1000000000):gJo [t,sv (bs sep)]=some (sv (bs (Cp sep l))):=by
 have e:Lib.join (l.map (·.data.toList)) (bs sep).data.toList=Cp sep l:=B1f sep l;show g2 _ _ _ _=_;rw[Dz (τ:=tSl Ak) (σ:=BU) (x:=l) (y:=bs sep) h rfl,e,zy ⟨hl,hd⟩]
def Eu (d:Ds):List UInt8:=if Bb d 1≠0 then []else if 65536<(wrD d).length then []else wrD d
theorem kZ (d:Ds):∃v,LP d = .tu [sv (bs (Eu d)),v]:=by
 unfold LP Eu;split
 .exact⟨_,rfl⟩
 .split
  .exact⟨_,rfl⟩
  .exact⟨_,rfl⟩
def LS (l:List Ds):List UInt8:=gl [32,47,32] [32,47,32] Eu l
def Cs (d:Dfn):List UInt8:=[32,61,32]++(Eu d.strict++LS d.defaults)
def ftW (p:ByteArray×ByteArray):List UInt8:=p.1.data.toList++(32::p.2.data.toList)
def tyW (x:TyD):List UInt8:=x.name.data.toList++((if x.supers=[]then []else [32,60,32]++Cp [44,32] x.supers)++gl [32,58,32] [44,32] ftW x.feats)
def chW (p:ByteArray×ByteArray):List UInt8:=34::(p.1.data.toList++([34,32,34]++(p.2.data.toList++[34])))
def afW (a:Afx):List UInt8:=if a.kind=0 then [110,111,110,101]else(if a.kind=1 then [115,117,102,102,105,120,32]else [112,114,101,102,105,120,32])++gl [] [44,32] chW a.pairs
structure PrD (d:Dfn):Prop where
 s:D2 d.strict
 w:Bb d.strict 1=0->Wr d.strict
 l:d.defaults.length<=100000
 k:∀k∈d.defaults,D2 k/\(Bb k 1=0->Wr k)
 n:(Cs d).length<=1000000000
structure SpI {α:Type} (R:List UInt8) (hd sep:List UInt8) (f:α->List UInt8) (L:List α) (c:Nat×List UInt8×Ab×Nat):Prop where
 i:c.1<=L.length
 e:R=c.2.1++gl (if c.1=0 then hd else sep) sep f (L.drop c.1)
theorem SpI.fin {α:Type} {R hd sep:List UInt8} {f:α->List UInt8} {L:List α} {c:Nat×List UInt8×Ab×Nat} (h:SpI R hd sep f L c) (hl:¬c.1<L.length):R=c.2.1:=by
 rw[h.e,B1e (by omega),Xz]
noncomputable def Vf:Tbl:=[(110,Vc)]
theorem l5:Ctx Xd (G q) (orc Vf):=(As.cons B1d .nil).ctx mixed
def Py (E:T) (n:Nat) (c:Nat×List UInt8×Ab×Nat):Ad:=⟨[(21,.t (iv (c.1:Int))),(20,.t (iv (n:Int))),(19,.t E),(5,.t (sv (bs c.2.1)))],c.2.2.1,c.2.2.2,36⟩
theorem B1g {d:Dfn} {c:List T} (hx:Dk d c) (hz:PrD d):A1 Xd (G q) 81 [.ag c] (· = sv (bs (Cs d))):=by
 obtain⟨R,hR⟩:∃R,R=Cs d:=⟨_,rfl⟩
 have hn:=hz.n;rw[<-hR]at hn ⊢;unfold Cs LS at hR;obtain⟨a1,a2,a3,a4,E,rfl,hs,tf⟩:=hx.six;have gs:=kY hs hz.s hz.w;obtain⟨v0,ev⟩:=kZ d.strict;rw[ev]at gs;generalize Eu d.strict=P at gs hR;have lE:AO (.t E)=some (.t (iv (d.defaults.length:Int))):=tf.len;have hc:Bj (.t (.ag [sv d.name,a1,a2,a3,a4,E]))=some [.t (sv d.name),.t a1,.t a2,.t a3,.t a4,.t E]:=rfl
 obtain⟨H0,hH0⟩:∃H0:Ab,H0=[(0,.cells 59 [.t (sv d.name),.t a1,.t a2,.t a3,.t a4,.t E])]:=⟨_,rfl⟩
 have q5:Aj false 1 H0 (.ptr 0 5)=some (.t E):=by rw[hH0];rfl
 have q1:Aj true 4 H0 (.ptr 0 1)=some (.t (.ag [a1,a2,a3,a4])):=by rw[hH0];rfl
 refine CG (args:=[.ag [sv d.name,a1,a2,a3,a4,E]]) ?_;refine tZ.callX rfl ?_;(conv in ZV=>cbv);refine Ae Ac ?_;simp -implicitDefEqProofs [hc];refine Bg (s':=⟨[(1,.ptr 0 0)],H0,1,36⟩) (by rw[hH0];exact sub_env (by simp -implicitDefEqProofs)) rfl ?_;clear hH0;refine Ae l5 ?_;simp -implicitDefEqProofs [q1,Vf,gs]
 have hl1:3+P.length<=1000000000:=by
  rw[hR]at hn;simp only[Xa,Xb,Xc]at hn;omega
 have ad:=FT (a:=[32,61,32]) (b:=P) (by simp only[Xb,Xc];omega);have ad:∀(Φ:A7) (H:Ab) (nx:Nat),Ai Φ H nx (.bin false .add none) [.t (sv ⟨#[32,61,32]⟩),.t (sv (bs P))]=some (.t (sv (bs ([32,61,32]++P))),H,nx):=ad
 obtain⟨W,hW⟩:∃W,W=[32,61,32]++P:=⟨_,rfl⟩
 rw[<-hW]at ad;rw[<-Xj,<-hW]at hR;refine Ae Ac ?_;simp -implicitDefEqProofs [ad];refine AE (α:=List UInt8×Ab×Nat) (λc=>⟨[(5,.t (sv (bs c.1)))],c.2.1,c.2.2,36⟩) (λc=>R=c.1) (λ_=>rfl) ?_ ?_
 rotate_left
 .rintro⟨V,H,nx⟩ hz0;refine Ar Ac ?_;simp -implicitDefEqProofs;exact A0 ⟨.t (sv (bs V)),H,nx⟩ ⟨by rw[hz0]⟩ (by simp -implicitDefEqProofs)
 refine Ae Ac ?_;simp -implicitDefEqProofs [q5,lE];refine AG ?_;refine BV (Py E d.defaults.length) (λc=>d.defaults.length-c.1) (SpI R [32,47,32] [32,47,32] Eu d.defaults) (0,W,H0,1) (λ_=>rfl) ⟨Xe _,hR⟩ (sub_env (by simp -implicitDefEqProofs [Py])) rfl ?_;rintro⟨j,V,H,nx⟩ hk;have hj:=hk.i;have he:=hk.e;simp only at hj he;by_cases hlt:j<d.defaults.length
 rotate_left
 .have hlt':¬(j:Int)<(d.defaults.length:Int):=by omega
  have hf:=hk.fin hlt;refine Ae Ac ?_;simp -implicitDefEqProofs [Py,hlt,hlt'];refine Ae Ac ?_;simp -implicitDefEqProofs;exact Am.mk (V,H,nx) hf (sub_env (by simp -implicitDefEqProofs))
 have hlt':(j:Int)<(d.defaults.length:Int):=by omega
 obtain⟨y,hy⟩:∃y,d.defaults[j]?=some y:=⟨_,Xk hlt⟩
 rw[Vd hy]at he;obtain⟨cy,ry,ia,hcy⟩:=tf.iaddr hy .i64;have hel:=hcy.len;have la:=lpn (r:=ry) H hel;obtain⟨z1,z2⟩:=hz.k y (Xl hy);have gy:=kY hcy z1 z2;obtain⟨v1,ev1⟩:=kZ y;rw[ev1]at gy;have sn:AM 4 ((nx,.cells 57 [.t (iv 0),.t (sv ⟨#[]⟩),.t Ah,.t Ah])::H) (.ptr nx 0) (.t (.ag cy))=some ((nx,.cells 57 (cy.map .t))::H):=Dv (ty:=57) rfl hel H;have le:Aj true 4 ((nx,.cells 57 (cy.map .t))::H) (.ptr nx 0)=some (.t (.ag cy)):=ldN (by rw[Az,zy rfl]) hel;generalize cy.map PV.t=X at sn le;have hl:=hz.l;have e1:Xh.wrap ((j:Int)+1)=((j+1:Nat):Int):=AP (by omega) (by omega)
 have hgl:(if j=0 then [32,47,32]else [32,47,32])=([32,47,32]:List UInt8):=by split<;>rfl
 rw[hgl]at he
 obtain⟨S,hS⟩:∃S,S=gl (if j+1=0 then [32,47,32]else [32,47,32]) [32,47,32] Eu (d.defaults.drop (j+1)):=⟨_,rfl⟩
 obtain⟨Y,hY⟩:∃Y,Y=Eu y:=⟨_,rfl⟩
 rw[<-hS,<-hY]at he;rw[<-hY]at gy
 have hn2:V.length+(3+Y.length)<=1000000000:=by
  rw[he]at hn;simp only[Xa,Xb,Xc]at hn;omega
 have b1:∀(Φ:A7) (H:Ab) (nx:Nat),Ai Φ H nx (.bin false .add none) [.t (sv ⟨#[32,47,32]⟩),.t (sv (bs Y))]=some (.t (sv (bs ([32,47,32]++Y))),H,nx):=FT (a:=[32,47,32]) (b:=Y) (by simp only[Xb,Xc];omega)
 obtain⟨Z,hZ⟩:∃Z,Z=[32,47,32]++Y:=⟨_,rfl⟩
 rw[<-hZ]at b1
 have hZl:Z.length=3+Y.length:=by rw[hZ];simp only[Xa,Xb,Xc]
 have b2:=FT (a:=V) (b:=Z) (by omega);refine Ae Ac ?_;simp -implicitDefEqProofs [Py,hlt,hlt'];refine Ae Ac ?_;simp -implicitDefEqProofs;refine Ar l5 ?_;simp -implicitDefEqProofs [ia,la,sn,le,Vf,gy,e1,b1,b2];exact Am.mk (j+1,V++Z,(nx,.cells 57 X)::H,nx+1) ⟨⟨by show j+1<=d.defaults.length;omega,by rw[he,hZ,hS];simp only[Xj]⟩,by show d.defaults.length-(j+1)<d.defaults.length-j;omega⟩ (sub_env (by simp -implicitDefEqProofs [Py]))
noncomputable def Vg (ts:List T):Option T:=g1 tDf (λd=>open Classical in if PrD d then some (sv (bs (Cs d)))else none) ts
theorem Pz {x:Dfn} {c:List T} (hx:Dk x c) (h:PrD x):Vg [.ag c]=some (sv (bs (Cs x))):=by
 show g1 _ _ _=_;rw[D8 (τ:=tDf) (x:=x) ⟨c,rfl,hx⟩,zy h]
theorem B1h:GOK Xd (G q) 81 Vg:=D6 λa x r ha hr=>by
 split at hr
 .rename_i hc;injection hr with hr;subst hr;obtain⟨c,rfl,hd⟩:=ha;exact B1g hd hc
 .cases hr
theorem Ce {a b:List UInt8} {x y:ByteArray} (hx:x=bs a) (hy:y=bs b) (h:a.length+b.length<=2000000000) (Φ:A7) (H:Ab) (nx:Nat):Ai Φ H nx (.bin false .add none) [.t (sv x),.t (sv y)]=some (.t (sv (bs (a++b))),H,nx):=by
 subst hx;subst hy;exact FT h Φ H nx
noncomputable def l8:Tbl:=[(80,gJo)]
theorem B1i:Ctx Xd (G q) (orc l8):=(As.cons hJo .nil).ctx mixed
def Nx (E:T) (n:Nat) (c:Nat×List UInt8×Ab×Nat):Ad:=⟨[(21,.t (iv (c.1:Int))),(20,.t (iv (n:Int))),(19,.t E),(3,.t (sv (bs c.2.1)))],c.2.2.1,c.2.2.2,42⟩
structure PrT (x:TyD):Prop where
 s:x.supers.length<=100000
 f:x.feats.length<=100000
 n:(tyW x).length<=1000000000
theorem B1j {x:TyD} {c:List T} (hx:FP x c) (hz:PrT x):A1 Xd (G q) 79 [.ag c] (· = sv (bs (tyW x))):=by
 obtain⟨R,hR⟩:∃R,R=tyW x:=⟨_,rfl⟩
 have hn:=hz.n;rw[<-hR]at hn ⊢;unfold tyW at hR;obtain⟨U,E,rfl,ts,tf⟩:=hx;have lU:AO (.t U)=some (.t (iv (x.supers.length:Int))):=ts.len;have lE:AO (.t E)=some (.t (iv (x.feats.length:Int))):=tf.len;have hc:Bj (.t (.ag [sv x.name,U,E]))=some [.t (sv x.name),.t U,.t E]:=rfl
 obtain⟨H0,hH0⟩:∃H0:Ab,H0=[(0,.cells 112 [.t (sv x.name),.t U,.t E])]:=⟨_,rfl⟩
 have q0:Aj false 1 H0 (.ptr 0 0)=some (.t (sv x.name)):=by rw[hH0];rfl
 have q1:Aj false 1 H0 (.ptr 0 1)=some (.t U):=by rw[hH0];rfl
 have q2:Aj false 1 H0 (.ptr 0 2)=some (.t E):=by rw[hH0];rfl
 obtain⟨nm,hnm⟩:∃nm,nm=x.name.data.toList:=⟨_,rfl⟩
 have hnm2:x.name=bs nm:=by rw[hnm]
 rw[<-hnm]at hR;rw[hnm2]at q0;refine CG (args:=[.ag [sv x.name,U,E]]) ?_;refine tY.callX rfl ?_;(conv in ZU=>cbv);refine Ae Ac ?_;simp -implicitDefEqProofs [hc];refine Bg (s':=⟨[(1,.ptr 0 0)],H0,1,42⟩) (by rw[hH0];exact sub_env (by simp -implicitDefEqProofs)) rfl ?_;clear hH0 hc;refine Ae Ac ?_;simp -implicitDefEqProofs [q0];refine AE (λW:List UInt8=>⟨[(3,.t (sv (bs W))),(1,.ptr 0 0)],H0,1,42⟩) (λW=>R=W++gl [32,58,32] [44,32] ftW x.feats) (λ_=>rfl) ?_ ?_
 .by_cases h0:x.supers=[]
  .have l0:AO (.t U)=some (.t (iv 0)):=by rw[lU,h0];rfl
   rw[zy h0,Xy]at hR;refine Ar Ac ?_;simp -implicitDefEqProofs [q1,l0];exact Am.mk nm hR (sub_env (by simp -implicitDefEqProofs))
  .rw[zz h0]at hR;have hpos:0<x.supers.length:=List.length_pos_iff.2 h0
   have hpos':(0:Int)<(x.supers.length:Int):=by omega
   obtain⟨J,hJ⟩:∃J,J=Cp [44,32] x.supers:=⟨_,rfl⟩
   rw[<-hJ]at hR
   have hl:nm.length+(3+J.length)<=1000000000:=by
    rw[hR]at hn;simp only[Xa,Xb,Xc]at hn;omega
   have gj:gJo [U,sv ⟨#[44,32]⟩]=some (sv (bs (Cp [44,32] x.supers))):=Ve ts [44,32] hz.s (by rw[<-hJ];omega);rw[<-hJ]at gj;have b1:∀(Φ:A7) (H:Ab) (nx:Nat),Ai Φ H nx (.bin false .add none) [.t (sv ⟨#[32,60,32]⟩),.t (sv (bs J))]=some (.t (sv (bs ([32,60,32]++J))),H,nx):=Ce (a:=[32,60,32]) (b:=J) rfl rfl (by simp only[Xb,Xc];omega)
   obtain⟨Z,hZ⟩:∃Z,Z=[32,60,32]++J:=⟨_,rfl⟩
   rw[<-hZ]at b1 hR
   have hZl:Z.length=3+J.length:=by rw[hZ];simp only[Xa,Xb,Xc]
   have b2:=FT (a:=nm) (b:=Z) (by omega);refine Ar B1i ?_;simp -implicitDefEqProofs [q1,lU,hpos,hpos',l8,gj,b1,b2];exact Am.mk (nm++Z) (by rw[hR,Xj]) (sub_env (by simp -implicitDefEqProofs))
 rintro W hR;refine AE (α:=List UInt8×Ab×Nat) (λc=>⟨[(3,.t (sv (bs c.1)))],c.2.1,c.2.2,42⟩) (λc=>R=c.1) (λ_=>rfl) ?_ ?_
 rotate_left
 .rintro⟨V,H,nx⟩ hz0;refine Ar Ac ?_;simp -implicitDefEqProofs;exact A0 ⟨.t (sv (bs V)),H,nx⟩ ⟨by rw[hz0]⟩ (by simp -implicitDefEqProofs)
 refine Ae Ac ?_;simp -implicitDefEqProofs [q2,lE];refine AG ?_;refine BV (Nx E x.feats.length) (λc=>x.feats.length-c.1) (SpI R [32,58,32] [44,32] ftW x.feats) (0,W,H0,1) (λ_=>rfl) ⟨Xe _,hR⟩ (sub_env (by simp -implicitDefEqProofs [Nx])) rfl ?_;rintro⟨j,V,H,nx⟩ hk;have hj:=hk.i;have he:=hk.e;simp only at hj he;by_cases hlt:j<x.feats.length
 rotate_left
 .have hlt':¬(j:Int)<(x.feats.length:Int):=by omega
  have hf:=hk.fin hlt;refine Ae Ac ?_;simp -implicitDefEqProofs [Nx,hlt,hlt'];refine Ae Ac ?_;simp -implicitDefEqProofs;exact Am.mk (V,H,nx) hf (sub_env (by simp -implicitDefEqProofs))
 have hlt':(j:Int)<(x.feats.length:Int):=by omega
 obtain⟨y,hy⟩:∃y,x.feats[j]?=some y:=⟨_,Xk hlt⟩
 rw[Vd hy]at he;have ia:Bd 2 (.t E) (.t (iv (j:Int)))=some (.t (.pt (sv y.1::sv y.2::AU eFt x.feats j))):=tf.iaddr hy .i64;have hl:=hz.f;have e1:Xh.wrap ((j:Int)+1)=((j+1:Nat):Int):=AP (by omega) (by omega)
 obtain⟨S,hS⟩:∃S,S=gl (if j+1=0 then [32,58,32]else [44,32]) [44,32] ftW (x.feats.drop (j+1)):=⟨_,rfl⟩
 rw[<-hS]at he;obtain⟨y1,y2⟩:=y
 obtain⟨u1,hu1⟩:∃u,u=y1.data.toList:=⟨_,rfl⟩
 obtain⟨u2,hu2⟩:∃u,u=y2.data.toList:=⟨_,rfl⟩
 have hy1:y1=bs u1:=by rw[hu1]
 have hy2:y2=bs u2:=by rw[hu2]
 have hft:ftW (y1,y2)=u1++(32::u2):=by rw[hu1,hu2];rfl
 rw[hft]at he;simp only at ia;rw[hy1,hy2]at ia
 obtain⟨gg,hgg⟩:∃gg,gg=(if j=0 then [32,58,32]else([44,32]:List UInt8)):=⟨_,rfl⟩
 rw[<-hgg]at he
 have hgl:gg.length<=3:=by rw[hgg];split<;>simp
 have hn2:V.length+(gg.length+(u1.length+(1+u2.length)))<=1000000000:=by
  rw[he]at hn;simp only[Xa,Xb,Xc]at hn;omega
 have b2:∀(Φ:A7) (H:Ab) (nx:Nat),Ai Φ H nx (.bin false .add none) [.t (sv (bs u1)),.t (sv ⟨#[32]⟩)]=some (.t (sv (bs (u1++[32]))),H,nx):=Ce (b:=[32]) rfl rfl (by simp only[Xb,Xc];omega)
 obtain⟨Z1,hZ1⟩:∃Z,Z=u1++[32]:=⟨_,rfl⟩
 have hl1:Z1.length=u1.length+1:=by rw[hZ1];simp only[Xa,Xb,Xc]
 rw[<-hZ1]at b2;have b3:=FT (a:=Z1) (b:=u2) (by omega)
 obtain⟨Z2,hZ2⟩:∃Z,Z=Z1++u2:=⟨_,rfl⟩
 have hl2:Z2.length=Z1.length+u2.length:=by rw[hZ2];simp only[Xa]
 rw[<-hZ2]at b3
 obtain⟨V1,hV1⟩:∃Z,Z=V++gg:=⟨_,rfl⟩
 have hl3:V1.length=V.length+gg.length:=by rw[hV1];simp only[Xa]
 have b4:=FT (a:=V1) (b:=Z2) (by omega)
 have fin:R=(V1++Z2)++S:=by
  rw[he,hV1,hZ2,hZ1];simp only[Xj,Ye,Xy]
 refine Ae Ac ?_;simp -implicitDefEqProofs [Nx,hlt,hlt'];refine Ae Ac ?_;simp -implicitDefEqProofs;by_cases hj0:j=0
 .have hb:((j:Int)==0)=true:=by rw[beq_iff_eq];omega
  rw[zy hj0]at hgg
  have b1:∀(Φ:A7) (H:Ab) (nx:Nat),Ai Φ H nx (.bin false .add none) [.t (sv (bs V)),.t (sv ⟨#[32,58,32]⟩)]=some (.t (sv (bs V1)),H,nx):=λΦ H nx=>by
   rw[hV1,hgg];exact Ce (b:=[32,58,32]) rfl rfl (by simp only[Xb,Xc];omega) Φ H nx
  refine Ar Ac ?_;simp -implicitDefEqProofs [ia,Ie,Ig,Ib,Ic,hb,b1,b2,b3,b4,e1];exact Am.mk (j+1,V1++Z2,(nx,.cells 142 [.t (sv (bs u1)),.t (sv (bs u2))])::H,nx+1) ⟨⟨by show j+1<=x.feats.length;omega,by rw[fin,hS]⟩,by show x.feats.length-(j+1)<x.feats.length-j;omega⟩ (sub_env (by simp -implicitDefEqProofs [Nx]))
 .have hb:((j:Int)==0)=false:=by rw[zu];omega
  rw[zz hj0]at hgg
  have b1:∀(Φ:A7) (H:Ab) (nx:Nat),Ai Φ H nx (.bin false .add none) [.t (sv (bs V)),.t (sv ⟨#[44,32]⟩)]=some (.t (sv (bs V1)),H,nx):=λΦ H nx=>by
   rw[hV1,hgg];exact Ce (b:=[44,32]) rfl rfl (by simp only[Xb,Xc];omega) Φ H nx
  refine Ar Ac ?_;simp -implicitDefEqProofs [ia,Ie,Ig,Ib,Ic,hb,b1,b2,b3,b4,e1];exact Am.mk (j+1,V1++Z2,(nx,.cells 142 [.t (sv (bs u1)),.t (sv (bs u2))])::H,nx+1) ⟨⟨by show j+1<=x.feats.length;omega,by rw[fin,hS]⟩,by show x.feats.length-(j+1)<x.feats.length-j;omega⟩ (sub_env (by simp -implicitDefEqProofs [Nx]))
noncomputable def RL (ts:List T):Option T:=g1 tTy (λd=>open Classical in if PrT d then some (sv (bs (tyW d)))else none) ts
theorem B1k {x:TyD} {c:List T} (hx:FP x c) (h:PrT x):RL [.ag c]=some (sv (bs (tyW x))):=by
 show g1 _ _ _=_;rw[D8 (τ:=tTy) (x:=x) ⟨c,rfl,hx⟩,zy h]
theorem B1l:GOK Xd (G q) 79 RL:=D6 λa x r ha hr=>by
 split at hr
 .rename_i hc;injection hr with hr;subst hr;obtain⟨c,rfl,hd⟩:=ha;exact B1j hd hc
 .cases hr
def Ny (E:T) (n:Nat) (c:Nat×List UInt8×Ab×Nat):Ad:=⟨[(15,.t (iv (c.1:Int))),(14,.t (iv (n:Int))),(13,.t E),(3,.t (sv (bs c.2.1)))],c.2.2.1,c.2.2.2,36⟩
structure PrA (x:Afx):Prop where
 f:x.pairs.length<=100000
 n:(afW x).length<=1000000000
theorem B1m {x:Afx} {c:List T} (hx:EN x c) (hz:PrA x):A1 Xd (G q) 82 [.ag c] (· = sv (bs (afW x))):=by
 obtain⟨R,hR⟩:∃R,R=afW x:=⟨_,rfl⟩
 have hn:=hz.n;rw[<-hR]at hn ⊢;unfold afW at hR;obtain⟨E,rfl,tf⟩:=hx;have lE:AO (.t E)=some (.t (iv (x.pairs.length:Int))):=tf.len
 obtain⟨k,hk0⟩:∃k,k=x.kind:=⟨_,rfl⟩
 rw[<-hk0]at hR ⊢;have hc:Bj (.t (.ag [iv k,E]))=some [.t (iv k),.t E]:=rfl
 obtain⟨H0,hH0⟩:∃H0:Ab,H0=[(0,.cells 29 [.t (iv k),.t E])]:=⟨_,rfl⟩
 have q0:Aj false 1 H0 (.ptr 0 0)=some (.t (iv k)):=by rw[hH0];rfl
 have q1:Aj false 1 H0 (.ptr 0 1)=some (.t E):=by rw[hH0];rfl
 refine CG (args:=[.ag [iv k,E]]) ?_;refine uA.callX rfl ?_;(conv in ZW=>cbv);refine Ae Ac ?_;simp -implicitDefEqProofs [hc];refine Bg (s':=⟨[(1,.ptr 0 0)],H0,1,36⟩) (by rw[hH0];exact sub_env (by simp -implicitDefEqProofs)) rfl ?_;clear hH0 hc;refine Ae Ac ?_;simp -implicitDefEqProofs;refine AE (λW:List UInt8=>⟨[(3,.t (sv (bs W))),(1,.ptr 0 0)],H0,1,36⟩) (λW=>R=W++gl [] [44,32] chW x.pairs) (λ_=>rfl) ?_ ?_
 .refine Ae Ac ?_;simp -implicitDefEqProofs [q0];refine AG ?_;by_cases k0:k=0
  .rw[zy k0]at hR;subst k0;refine Ar Ac ?_;simp -implicitDefEqProofs;exact A0 ⟨.t (sv ⟨#[110,111,110,101]⟩),H0,1⟩ ⟨by rw[hR]⟩ (by simp -implicitDefEqProofs)
  .have hb0:(k==0)=false:=by rw[zu];exact k0
   rw[zz k0]at hR;by_cases k1:k=1
   .rw[zy k1]at hR;subst k1;refine Ar Ac ?_;simp -implicitDefEqProofs;exact Am.mk _ hR (sub_env (by simp -implicitDefEqProofs))
   .have hb1:(k==1)=false:=by rw[zu];exact k1
    rw[zz k1]at hR;refine Ar Ac ?_;simp -implicitDefEqProofs [hb0,hb1];exact Am.mk _ hR (sub_env (by simp -implicitDefEqProofs))
 rintro W hR;refine AE (α:=List UInt8×Ab×Nat) (λc=>⟨[(3,.t (sv (bs c.1)))],c.2.1,c.2.2,36⟩) (λc=>R=c.1) (λ_=>rfl) ?_ ?_
 rotate_left
 .rintro⟨V,H,nx⟩ hz0;refine Ar Ac ?_;simp -implicitDefEqProofs;exact A0 ⟨.t (sv (bs V)),H,nx⟩ ⟨by rw[hz0]⟩ (by simp -implicitDefEqProofs)
 refine Ae Ac ?_;simp -implicitDefEqProofs [q1,lE];refine AG ?_;refine BV (Ny E x.pairs.length) (λc=>x.pairs.length-c.1) (SpI R [] [44,32] chW x.pairs) (0,W,H0,1) (λ_=>rfl) ⟨Xe _,hR⟩ (sub_env (by simp -implicitDefEqProofs [Ny])) rfl ?_;rintro⟨j,V,H,nx⟩ hk;have hj:=hk.i;have he:=hk.e;simp only at hj he;by_cases hlt:j<x.pairs.length
 rotate_left
 .have hlt':¬(j:Int)<(x.pairs.length:Int):=by omega
  have hf:=hk.fin hlt;refine Ae Ac ?_;simp -implicitDefEqProofs [Ny,hlt,hlt'];refine Ae Ac ?_;simp -implicitDefEqProofs;exact Am.mk (V,H,nx) hf (sub_env (by simp -implicitDefEqProofs))
 have hlt':(j:Int)<(x.pairs.length:Int):=by omega
 obtain⟨y,hy⟩:∃y,x.pairs[j]?=some y:=⟨_,Xk hlt⟩
 rw[Vd hy]at he;have ia:Bd 2 (.t E) (.t (iv (j:Int)))=some (.t (.pt (sv y.1::sv y.2::AU eFt x.pairs j))):=tf.iaddr hy .i64;have hl:=hz.f;have e1:Xh.wrap ((j:Int)+1)=((j+1:Nat):Int):=AP (by omega) (by omega)
 obtain⟨S,hS⟩:∃S,S=gl (if j+1=0 then []else [44,32]) [44,32] chW (x.pairs.drop (j+1)):=⟨_,rfl⟩
 rw[<-hS]at he;obtain⟨y1,y2⟩:=y
 obtain⟨u1,hu1⟩:∃u,u=y1.data.toList:=⟨_,rfl⟩
 obtain⟨u2,hu2⟩:∃u,u=y2.data.toList:=⟨_,rfl⟩
 have hy1:y1=bs u1:=by rw[hu1]
 have hy2:y2=bs u2:=by rw[hu2]
 have hft:chW (y1,y2)=34::(u1++([34,32,34]++(u2++[34]))):=by rw[hu1,hu2];rfl
 rw[hft]at he;simp only at ia;rw[hy1,hy2]at ia
 obtain⟨gg,hgg⟩:∃gg,gg=(if j=0 then []else([44,32]:List UInt8)):=⟨_,rfl⟩
 rw[<-hgg]at he
 have hgl:gg.length<=3:=by rw[hgg];split<;>simp
 have hn2:V.length+(gg.length+(u1.length+(u2.length+5)))<=1000000000:=by
  rw[he]at hn;simp only[Xa,Xb,Xc]at hn;omega
 have b1:∀(Φ:A7) (H:Ab) (nx:Nat),Ai Φ H nx (.bin false .add none) [.t (sv ⟨#[34]⟩),.t (sv (bs u1))]=some (.t (sv (bs ([34]++u1))),H,nx):=Ce (a:=[34]) rfl rfl (by simp only[Xb,Xc];omega)
 obtain⟨Z1,hZ1⟩:∃Z,Z=[34]++u1:=⟨_,rfl⟩
 have hl1:Z1.length=u1.length+1:=by rw[hZ1];simp only[Xa,Xb,Xc];omega
 rw[<-hZ1]at b1;have b2:∀(Φ:A7) (H:Ab) (nx:Nat),Ai Φ H nx (.bin false .add none) [.t (sv (bs Z1)),.t (sv ⟨#[34,32,34]⟩)]=some (.t (sv (bs (Z1++[34,32,34]))),H,nx):=Ce (b:=[34,32,34]) rfl rfl (by simp only[Xb,Xc];omega)
 obtain⟨Z2,hZ2⟩:∃Z,Z=Z1++[34,32,34]:=⟨_,rfl⟩
 have hl2:Z2.length=Z1.length+3:=by rw[hZ2];simp only[Xa,Xb,Xc]
 rw[<-hZ2]at b2;have b3:=FT (a:=Z2) (b:=u2) (by omega)
 obtain⟨Z3,hZ3⟩:∃Z,Z=Z2++u2:=⟨_,rfl⟩
 have hl3:Z3.length=Z2.length+u2.length:=by rw[hZ3];simp only[Xa]
 rw[<-hZ3]at b3;have b4:∀(Φ:A7) (H:Ab) (nx:Nat),Ai Φ H nx (.bin false .add none) [.t (sv (bs Z3)),.t (sv ⟨#[34]⟩)]=some (.t (sv (bs (Z3++[34]))),H,nx):=Ce (b:=[34]) rfl rfl (by simp only[Xb,Xc];omega)
 obtain⟨Z4,hZ4⟩:∃Z,Z=Z3++[34]:=⟨_,rfl⟩
 have hl4:Z4.length=Z3.length+1:=by rw[hZ4];simp only[Xa,Xb,Xc]
 rw[<-hZ4]at b4
 obtain⟨V1,hV1⟩:∃Z,Z=V++gg:=⟨_,rfl⟩
 have hlV:V1.length=V.length+gg.length:=by rw[hV1];simp only[Xa]
 have b5:=FT (a:=V1) (b:=Z4) (by omega)
 have fin:R=(V1++Z4)++S:=by
  rw[he,hV1,hZ4,hZ3,hZ2,hZ1];simp only[Xj,Ye,Xy]
 refine Ae Ac ?_;simp -implicitDefEqProofs [Ny,hlt,hlt'];refine Ae Ac ?_;simp -implicitDefEqProofs;by_cases hj0:j=0
 .rw[zy hj0]at hgg
  have hv:V1=V:=by rw[hV1,hgg,Xz]
  have hj1:¬0<j:=by omega
  have hj2:¬(0:Int)<(j:Int):=by omega
  rw[hv]at b5 fin;refine Ar Ac ?_;simp -implicitDefEqProofs [ia,Ie,Ig,Ib,Ic,hj1,hj2,b1,b2,b3,b4,b5,e1];exact Am.mk (j+1,V++Z4,(nx,.cells 69 [.t (sv (bs u1)),.t (sv (bs u2))])::H,nx+1) ⟨⟨by show j+1<=x.pairs.length;omega,by rw[fin,hS]⟩,by show x.pairs.length-(j+1)<x.pairs.length-j;omega⟩ (sub_env (by simp -implicitDefEqProofs [Ny]))
 .have hj1:0<j:=by omega
  have hj2:(0:Int)<(j:Int):=by omega
  rw[zz hj0]at hgg
  have b0:∀(Φ:A7) (H:Ab) (nx:Nat),Ai Φ H nx (.bin false .add none) [.t (sv (bs V)),.t (sv ⟨#[44,32]⟩)]=some (.t (sv (bs V1)),H,nx):=λΦ H nx=>by
   rw[hV1,hgg];exact Ce (b:=[44,32]) rfl rfl (by simp only[Xb,Xc];omega) Φ H nx
  refine Ar Ac ?_;simp -implicitDefEqProofs [ia,Ie,Ig,Ib,Ic,hj1,hj2,b0,b1,b2,b3,b4,b5,e1];exact Am.mk (j+1,V1++Z4,(nx,.cells 69 [.t (sv (bs u1)),.t (sv (bs u2))])::H,nx+1) ⟨⟨by show j+1<=x.pairs.length;omega,by rw[fin,hS]⟩,by show x.pairs.length-(j+1)<x.pairs.length-j;omega⟩ (sub_env (by simp -implicitDefEqProofs [Ny]))
noncomputable def RM (ts:List T):Option T:=g1 tAf (λd=>open Classical in if PrA d then some (sv (bs (afW d)))else none) ts
theorem B1n {x:Afx} {c:List T} (hx:EN x c) (h:PrA x):RM [.ag c]=some (sv (bs (afW x))):=by
 show g1 _ _ _=_;rw[D8 (τ:=tAf) (x:=x) ⟨c,rfl,hx⟩,zy h]
theorem B1o:GOK Xd (G q) 82 RM:=D6 λa x r ha hr=>by
 split at hr
 .rename_i hc;injection hr with hr;subst hr;obtain⟨c,rfl,hd⟩:=ha;exact B1m hd hc
 .cases hr
def GD (s:ByteArray):List UInt8:=[105,109,112,111,114,116,32]++s.data.toList
def GE (x:TyD):List UInt8:=[116,121,112,101,32]++tyW x
def GF (p:List ByteArray×Dfn):List UInt8:=[101,110,116,114,121,32]++(p.2.name.data.toList++([32,34]++(Cp [32] p.1++([34]++Cs p.2))))
def GG (p:Afx×Dfn):List UInt8:=[108,101,120,114,117,108,101,32]++(p.2.name.data.toList++([32]++(afW p.1++Cs p.2)))
def GH (p:List ByteArray):List UInt8:=[99,104,101,99,107,32]++Cp [46] p
def GJ (s:ByteArray):List UInt8:=[100,114,111,112,32]++s.data.toList
def dnW (w:List UInt8) (d:Dfn):List UInt8:=w++(d.name.data.toList++Cs d)
def Jt:List UInt8:=[116,101,109,112,108,97,116,101,32]
def Ju:List UInt8:=[114,117,108,101,32]
def Jv:List UInt8:=[114,111,111,116,32]
def BX (m:ML) (k:Nat):List (List UInt8):=
 if k=2 then m.imps.map GD else if k=3 then m.typs.map GE else if k=4 then m.tmps.map (dnW Jt)else if k=5 then m.ents.map GF else if k=6 then m.lexs.map GG
 else if k=7 then m.ruls.map (dnW Ju)else if k=8 then m.roos.map (dnW Jv)else if k=9 then m.chks.map GH else m.drps.map GJ
structure FF (m:ML):Prop where
 n:m.name.size<=1000000
 n0:m.imps.length<=100000
 n1:m.typs.length<=100000
 n2:m.tmps.length<=100000
 n3:m.ents.length<=100000
 n4:m.lexs.length<=100000
 n5:m.ruls.length<=100000
 n6:m.roos.length<=100000
 n7:m.chks.length<=100000
 n8:m.drps.length<=100000
 p0:∀s∈m.imps,(GD s).length<=1000000000
 p1:∀x∈m.typs,x.supers.length<=100000/\x.feats.length<=100000/\(GE x).length<=1000000000
 p2:∀d∈m.tmps,PrD d/\(dnW Jt d).length<=1000000000
 p3:∀p∈m.ents,p.1.length<=100000/\PrD p.2/\(GF p).length<=1000000000
 p4:∀p∈m.lexs,p.1.pairs.length<=100000/\PrD p.2/\(GG p).length<=1000000000
 p5:∀d∈m.ruls,PrD d/\(dnW Ju d).length<=1000000000
 p6:∀d∈m.roos,PrD d/\(dnW Jv d).length<=1000000000
 p7:∀p∈m.chks,p.length<=100000/\(GH p).length<=1000000000
 p8:∀s∈m.drps,(GJ s).length<=1000000000
abbrev ClC:=Nat×Nat×Ab×Nat
def SCl (i1 i2 i3:Nat) (E:T) (n:Nat) (L:List ByteArray) (env:List (Nat×PV)) (c:ClC):Ad:=⟨(i3,.t (iv (c.1:Int)))::(i2,.t (iv (n:Int)))::(i1,.t E)::(5,rowP Ak c.2.1 (L.take c.1))::env,c.2.2.1,c.2.2.2,174⟩
structure ClI (L:List ByteArray) (c:ClC):Prop where
 i:c.1<=L.length
 r:Ay Ak CU c.2.2.1 c.2.1 (L.take c.1)
 b:L.take c.1≠[]->c.2.1<c.2.2.2
theorem Jw {L:List ByteArray} {j:Nat} {x:ByteArray} (h:L[j]?=some x):L.take (j+1)=L.take j++[x]:=by
 obtain⟨hlt,he⟩:=Xw.1 h;rw[List.take_add_one,h];rfl
theorem Nz {H:Ab} {b nx:Nat} {l:List ByteArray} {r:Row} (h:Ay Ak CU H b l) (hb:l≠[]->b<nx):Ay Ak CU ((nx,r)::H) b l:=by
 rcases h with h | h
 .exact .inl h
 .by_cases hn:l=[]
  .exact .inl hn
  .exact .inr (by rw[Az,zz (by have:=hb hn;omega)];exact h)
noncomputable def KI:Tbl:=[(80,gJo),(79,RL),(82,RM),(81,Vg)]
theorem LU:Ctx Xd (G q) (orc KI):=(As.cons hJo (.cons B1l (.cons B1o (.cons B1h .nil)))).ctx mixed
theorem B1p {m:ML} {c:List T} (hm:Cn m c) (hz:FF m):A1 Xd (G q) 37 [.ag c,iv 2] (· = Aq Ak ((BX m 2).map bs)):=by
 obtain⟨LL,hLL⟩:∃LL,LL=(BX m 2).map bs:=⟨_,rfl⟩
 rw[<-hLL];have hcl:BX m 2=m.imps.map GD:=rfl;rw[hcl,Xm]at hLL;obtain⟨t0,t1,t2,t3,t4,t5,t6,t7,t8,⟨rfl,h0,h1,h2,h3,h4,h5,h6,h7,h8⟩⟩:=hm;have hl:=hz.n0;have hp:=hz.p0
 have hLl:LL.length=m.imps.length:=by rw[hLL,Xf]
 have lE:AO (.t t0)=some (.t (iv (LL.length:Int))):=by rw[hLl];exact h0.len
 rw[<-hLl]at hl;have hc:Bj (.t (.ag [sv m.name,t0,t1,t2,t3,t4,t5,t6,t7,t8]))=some [.t (sv m.name),.t t0,.t t1,.t t2,.t t3,.t t4,.t t5,.t t6,.t t7,.t t8]:=rfl
 obtain⟨H0,hH0⟩:∃H0:Ab,H0=[(0,.cells 51 [.t (sv m.name),.t t0,.t t1,.t t2,.t t3,.t t4,.t t5,.t t6,.t t7,.t t8])]:=⟨_,rfl⟩
 have ld:∀j,Aj false 1 H0 (.ptr 0 j)=([.t (sv m.name),.t t0,.t t1,.t t2,.t t3,.t t4,.t t5,.t t6,.t t7,.t t8]:List PV)[j]?:=λj=>by rw[hH0];rfl
 refine CG (args:=[.ag [sv m.name,t0,t1,t2,t3,t4,t5,t6,t7,t8],iv 2]) ?_;refine IK.callX rfl ?_;(conv in HL=>cbv);refine Ae Ac ?_;simp -implicitDefEqProofs [hc];refine Bg (s':=⟨[(2,.ptr 0 0),(1,.t (iv 2))],H0,1,174⟩) (by rw[hH0];exact sub_env (by simp -implicitDefEqProofs)) rfl ?_;clear hH0 hc;refine Ae Ac ?_;simp -implicitDefEqProofs;refine Ae Ac ?_;simp -implicitDefEqProofs [ld];refine Ae Ac ?_;simp -implicitDefEqProofs;refine Bg (s':=⟨[(7,.t (sv ⟨#[114,117,108,101,32]⟩)),(6,.t t5),(5,.t Ah),(2,.ptr 0 0),(1,.t (iv 2))],H0,1,174⟩) (sub_env (by simp -implicitDefEqProofs)) rfl ?_;refine AE (α:=Empty) (λa=>nomatch a) (λa=>nomatch a) (λa=>nomatch a) ?_ (λa=>nomatch a);refine Ae Ac ?_;simp -implicitDefEqProofs;refine AG ?_;refine AE (α:=Empty) (λa=>nomatch a) (λa=>nomatch a) (λa=>nomatch a) ?_ (λa=>nomatch a);refine AG ?_;refine AE (α:=Empty) (λa=>nomatch a) (λa=>nomatch a) (λa=>nomatch a) ?_ (λa=>nomatch a);refine AG ?_;refine AE (α:=Empty) (λa=>nomatch a) (λa=>nomatch a) (λa=>nomatch a) ?_ (λa=>nomatch a);refine AG ?_;refine AE (α:=Empty) (λa=>nomatch a) (λa=>nomatch a) (λa=>nomatch a) ?_ (λa=>nomatch a);refine AG ?_;refine AE (α:=Empty) (λa=>nomatch a) (λa=>nomatch a) (λa=>nomatch a) ?_ (λa=>nomatch a);refine AG ?_;refine AE (α:=Empty) (λa=>nomatch a) (λa=>nomatch a) (λa=>nomatch a) ?_ (λa=>nomatch a);refine AG ?_;refine AE (α:=Empty) (λa=>nomatch a) (λa=>nomatch a) (λa=>nomatch a) ?_ (λa=>nomatch a);refine AG ?_;refine AE (α:=Empty) (λa=>nomatch a) (λa=>nomatch a) (λa=>nomatch a) ?_ (λa=>nomatch a);refine AG ?_;refine Ae Ac ?_;simp -implicitDefEqProofs;refine AE (α:=Empty) (λa=>nomatch a) (λa=>nomatch a) (λa=>nomatch a) ?_ (λa=>nomatch a);refine AE (α:=Nat×Ab×Nat) (λc=>⟨[(5,rowP Ak c.1 LL)],c.2.1,c.2.2,174⟩) (λc=>Ay Ak CU c.2.1 c.1 LL) (λ_=>rfl) ?_ ?_
 rotate_left
 .rintro⟨b,H,nx⟩ hrow;simp only at hrow;refine Bg (s':=⟨[(5,.t (Aq Ak LL))],B1 H [b],nx,174⟩) (EI [b] (by simp -implicitDefEqProofs [FM hrow (Xn.2 rfl)])) rfl ?_;refine Ar Ac ?_;simp -implicitDefEqProofs;exact A0 ⟨.t (Aq Ak LL),B1 H [b],nx⟩ ⟨rfl⟩ (by simp -implicitDefEqProofs)
 refine Ae Ac ?_;simp -implicitDefEqProofs [ld,lE];refine AG ?_;refine BV (SCl 42 43 44 t0 LL.length LL []) (λc=>LL.length-c.1) (ClI LL) (0,0,H0,1) (λ_=>rfl) ⟨Xe _,.inl rfl,λh=>absurd rfl h⟩ (sub_env (by simp -implicitDefEqProofs [SCl,rowP])) rfl ?_;rintro⟨j,b,H,nx⟩ hk;have hj:=hk.i;have hrow:=hk.r;have hb:=hk.b;simp only at hj hrow hb;by_cases hlt:j<LL.length
 rotate_left
 .have hlt':¬(j:Int)<(LL.length:Int):=by omega
  rw[Xi (by omega)]at hrow;have htk:LL.take j=LL:=Xi (by omega);refine Ae Ac ?_;simp -implicitDefEqProofs [SCl,hlt,hlt'];refine Ae Ac ?_;simp -implicitDefEqProofs;exact Am.mk (b,H,nx) hrow (sub_env (by simp -implicitDefEqProofs [htk]))
 have hlt':(j:Int)<(LL.length:Int):=by omega
 have hlt2:j<m.imps.length:=by omega
 obtain⟨y,hy⟩:∃y,m.imps[j]?=some y:=⟨_,Xk hlt2⟩
 have hL:LL[j]?=some (bs (GD y)):=by rw[hLL,Xo,hy];rfl
 have htk:=Jw hL;have hpy:=hp y (Xl hy)
 have hlen:(LL.take j).length<=100000:=by rw[Xp];omega
 have e1:Xh.wrap ((j:Int)+1)=((j+1:Nat):Int):=AP (by omega) (by omega);refine Ae Ac ?_;simp -implicitDefEqProofs [SCl,hlt,hlt'];refine Ae Ac ?_;simp -implicitDefEqProofs;have ia:Bd 1 (.t t0) (.t (iv (j:Int)))=some (.t (.pt (sv y::AU Ak m.imps j))):=h0.iaddr hy .i64
 obtain⟨u,hu⟩:∃u,u=y.data.toList:=⟨_,rfl⟩
 have hyu:y=bs u:=by rw[hu]
 obtain⟨Z,hZ⟩:∃Z,Z=GD y:=⟨_,rfl⟩
 rw[<-hZ]at hL hpy htk
 have hZ2:Z=[105,109,112,111,114,116,32]++u:=by rw[hZ,hu];rfl
 have hZl:Z.length=7+u.length:=by rw[hZ2];simp only[Xa,Xb,Xc]
 have b1:∀(Φ:A7) (H:Ab) (nx:Nat),Ai Φ H nx (.bin false .add none) [.t (sv ⟨#[105,109,112,111,114,116,32]⟩),.t (sv (bs u))]=some (.t (sv (bs Z)),H,nx):=by
  rw[hZ2];exact Ce (a:=[105,109,112,111,114,116,32]) (b:=u) rfl rfl (by simp only[Xb,Xc];omega)
 rw[hyu]at ia;obtain⟨H2,ap,row2,_,_,_⟩:=L4 (e:=Ak) (ty:=CU) (by':=16) (nx:=nx) (bs Z) 1 rfl [.t (sv (bs Z))] rfl hrow hb (by omega) (by omega);rw[<-htk]at ap row2;refine Ar Ac ?_;simp -implicitDefEqProofs [ia,ldS,bsS,b1,ap,e1];exact Am.mk (j+1,nx+1,H2,nx+2) ⟨⟨by show j+1<=LL.length;omega,row2,λ_=>by show nx+1<nx+2;omega⟩,by show LL.length-(j+1)<LL.length-j;omega⟩ (sub_env (by simp -implicitDefEqProofs [SCl]))
theorem B1q {m:ML} {c:List T} (hm:Cn m c) (hz:FF m):A1 Xd (G q) 37 [.ag c,iv 10] (· = Aq Ak ((BX m 10).map bs)):=by
 obtain⟨LL,hLL⟩:∃LL,LL=(BX m 10).map bs:=⟨_,rfl⟩
 rw[<-hLL];have hcl:BX m 10=m.drps.map GJ:=rfl;rw[hcl,Xm]at hLL;obtain⟨t0,t1,t2,t3,t4,t5,t6,t7,t8,⟨rfl,h0,h1,h2,h3,h4,h5,h6,h7,h8⟩⟩:=hm;have hl:=hz.n8;have hp:=hz.p8
 have hLl:LL.length=m.drps.length:=by rw[hLL,Xf]
 have lE:AO (.t t8)=some (.t (iv (LL.length:Int))):=by rw[hLl];exact h8.len
 rw[<-hLl]at hl;have hc:Bj (.t (.ag [sv m.name,t0,t1,t2,t3,t4,t5,t6,t7,t8]))=some [.t (sv m.name),.t t0,.t t1,.t t2,.t t3,.t t4,.t t5,.t t6,.t t7,.t t8]:=rfl
 obtain⟨H0,hH0⟩:∃H0:Ab,H0=[(0,.cells 51 [.t (sv m.name),.t t0,.t t1,.t t2,.t t3,.t t4,.t t5,.t t6,.t t7,.t t8])]:=⟨_,rfl⟩
 have ld:∀j,Aj false 1 H0 (.ptr 0 j)=([.t (sv m.name),.t t0,.t t1,.t t2,.t t3,.t t4,.t t5,.t t6,.t t7,.t t8]:List PV)[j]?:=λj=>by rw[hH0];rfl
 refine CG (args:=[.ag [sv m.name,t0,t1,t2,t3,t4,t5,t6,t7,t8],iv 10]) ?_;refine IK.callX rfl ?_;(conv in HL=>cbv);refine Ae Ac ?_;simp -implicitDefEqProofs [hc];refine Bg (s':=⟨[(2,.ptr 0 0),(1,.t (iv 10))],H0,1,174⟩) (by rw[hH0];exact sub_env (by simp -implicitDefEqProofs)) rfl ?_;clear hH0 hc;refine Ae Ac ?_;simp -implicitDefEqProofs;refine Ae Ac ?_;simp -implicitDefEqProofs [ld];refine Ae Ac ?_;simp -implicitDefEqProofs;refine Bg (s':=⟨[(7,.t (sv ⟨#[114,117,108,101,32]⟩)),(6,.t t5),(5,.t Ah),(2,.ptr 0 0),(1,.t (iv 10))],H0,1,174⟩) (sub_env (by simp -implicitDefEqProofs)) rfl ?_;refine AE (α:=Empty) (λa=>nomatch a) (λa=>nomatch a) (λa=>nomatch a) ?_ (λa=>nomatch a);refine Ae Ac ?_;simp -implicitDefEqProofs;refine AG ?_;refine AE (α:=Empty) (λa=>nomatch a) (λa=>nomatch a) (λa=>nomatch a) ?_ (λa=>nomatch a);refine AG ?_;refine AE (α:=Empty) (λa=>nomatch a) (λa=>nomatch a) (λa=>nomatch a) ?_ (λa=>nomatch a);refine AG ?_;refine AE (α:=Empty) (λa=>nomatch a) (λa=>nomatch a) (λa=>nomatch a) ?_ (λa=>nomatch a);refine AG ?_;refine Ae Ac ?_;simp -implicitDefEqProofs;refine AE (α:=Empty) (λa=>nomatch a) (λa=>nomatch a) (λa=>nomatch a) ?_ (λa=>nomatch a);refine AE (α:=Nat×Ab×Nat) (λc=>⟨[(5,rowP Ak c.1 LL)],c.2.1,c.2.2,174⟩) (λc=>Ay Ak CU c.2.1 c.1 LL) (λ_=>rfl) ?_ ?_
 rotate_left
 .rintro⟨b,H,nx⟩ hrow;simp only at hrow;refine Bg (s':=⟨[(5,.t (Aq Ak LL))],B1 H [b],nx,174⟩) (EI [b] (by simp -implicitDefEqProofs [FM hrow (Xn.2 rfl)])) rfl ?_;refine Ar Ac ?_;simp -implicitDefEqProofs;exact A0 ⟨.t (Aq Ak LL),B1 H [b],nx⟩ ⟨rfl⟩ (by simp -implicitDefEqProofs)
 refine Ae Ac ?_;simp -implicitDefEqProofs [ld,lE];refine AG ?_;refine BV (SCl 137 138 139 t8 LL.length LL []) (λc=>LL.length-c.1) (ClI LL) (0,0,H0,1) (λ_=>rfl) ⟨Xe _,.inl rfl,λh=>absurd rfl h⟩ (sub_env (by simp -implicitDefEqProofs [SCl,rowP])) rfl ?_;rintro⟨j,b,H,nx⟩ hk;have hj:=hk.i;have hrow:=hk.r;have hb:=hk.b;simp only at hj hrow hb;by_cases hlt:j<LL.length
 rotate_left
 .have hlt':¬(j:Int)<(LL.length:Int):=by omega
  rw[Xi (by omega)]at hrow;have htk:LL.take j=LL:=Xi (by omega);refine Ae Ac ?_;simp -implicitDefEqProofs [SCl,hlt,hlt'];refine Ae Ac ?_;simp -implicitDefEqProofs;exact Am.mk (b,H,nx) hrow (sub_env (by simp -implicitDefEqProofs [htk]))
 have hlt':(j:Int)<(LL.length:Int):=by omega
 have hlt2:j<m.drps.length:=by omega
 obtain⟨y,hy⟩:∃y,m.drps[j]?=some y:=⟨_,Xk hlt2⟩
 have hL:LL[j]?=some (bs (GJ y)):=by rw[hLL,Xo,hy];rfl
 have htk:=Jw hL;have hpy:=hp y (Xl hy)
 have hlen:(LL.take j).length<=100000:=by rw[Xp];omega
 have e1:Xh.wrap ((j:Int)+1)=((j+1:Nat):Int):=AP (by omega) (by omega);refine Ae Ac ?_;simp -implicitDefEqProofs [SCl,hlt,hlt'];refine Ae Ac ?_;simp -implicitDefEqProofs;have ia:Bd 1 (.t t8) (.t (iv (j:Int)))=some (.t (.pt (sv y::AU Ak m.drps j))):=h8.iaddr hy .i64
 obtain⟨u,hu⟩:∃u,u=y.data.toList:=⟨_,rfl⟩
 have hyu:y=bs u:=by rw[hu]
 obtain⟨Z,hZ⟩:∃Z,Z=GJ y:=⟨_,rfl⟩
 rw[<-hZ]at hL hpy htk
 have hZ2:Z=[100,114,111,112,32]++u:=by rw[hZ,hu];rfl
 have hZl:Z.length=5+u.length:=by rw[hZ2];simp only[Xa,Xb,Xc]
 have b1:∀(Φ:A7) (H:Ab) (nx:Nat),Ai Φ H nx (.bin false .add none) [.t (sv ⟨#[100,114,111,112,32]⟩),.t (sv (bs u))]=some (.t (sv (bs Z)),H,nx):=by
  rw[hZ2];exact Ce (a:=[100,114,111,112,32]) (b:=u) rfl rfl (by simp only[Xb,Xc];omega)
 rw[hyu]at ia;obtain⟨H2,ap,row2,_,_,_⟩:=L4 (e:=Ak) (ty:=CU) (by':=16) (nx:=nx) (bs Z) 1 rfl [.t (sv (bs Z))] rfl hrow hb (by omega) (by omega);rw[<-htk]at ap row2;refine Ar Ac ?_;simp -implicitDefEqProofs [ia,ldS,bsS,b1,ap,e1];exact Am.mk (j+1,nx+1,H2,nx+2) ⟨⟨by show j+1<=LL.length;omega,row2,λ_=>by show nx+1<nx+2;omega⟩,by show LL.length-(j+1)<LL.length-j;omega⟩ (sub_env (by simp -implicitDefEqProofs [SCl]))
theorem B1r {m:ML} {c:List T} (hm:Cn m c) (hz:FF m):A1 Xd (G q) 37 [.ag c,iv 9] (· = Aq Ak ((BX m 9).map bs)):=by
 obtain⟨LL,hLL⟩:∃LL,LL=(BX m 9).map bs:=⟨_,rfl⟩
 rw[<-hLL];have hcl:BX m 9=m.chks.map GH:=rfl;rw[hcl,Xm]at hLL;obtain⟨t0,t1,t2,t3,t4,t5,t6,t7,t8,⟨rfl,h0,h1,h2,h3,h4,h5,h6,h7,h8⟩⟩:=hm;have hl:=hz.n7;have hp:=hz.p7
 have hLl:LL.length=m.chks.length:=by rw[hLL,Xf]
 have lE:AO (.t t7)=some (.t (iv (LL.length:Int))):=by rw[hLl];exact h7.len
 rw[<-hLl]at hl;have hc:Bj (.t (.ag [sv m.name,t0,t1,t2,t3,t4,t5,t6,t7,t8]))=some [.t (sv m.name),.t t0,.t t1,.t t2,.t t3,.t t4,.t t5,.t t6,.t t7,.t t8]:=rfl
 obtain⟨H0,hH0⟩:∃H0:Ab,H0=[(0,.cells 51 [.t (sv m.name),.t t0,.t t1,.t t2,.t t3,.t t4,.t t5,.t t6,.t t7,.t t8])]:=⟨_,rfl⟩
 have ld:∀j,Aj false 1 H0 (.ptr 0 j)=([.t (sv m.name),.t t0,.t t1,.t t2,.t t3,.t t4,.t t5,.t t6,.t t7,.t t8]:List PV)[j]?:=λj=>by rw[hH0];rfl
 refine CG (args:=[.ag [sv m.name,t0,t1,t2,t3,t4,t5,t6,t7,t8],iv 9]) ?_;refine IK.callX rfl ?_;(conv in HL=>cbv);refine Ae Ac ?_;simp -implicitDefEqProofs [hc];refine Bg (s':=⟨[(2,.ptr 0 0),(1,.t (iv 9))],H0,1,174⟩) (by rw[hH0];exact sub_env (by simp -implicitDefEqProofs)) rfl ?_;clear hH0 hc;refine Ae Ac ?_;simp -implicitDefEqProofs;refine Ae Ac ?_;simp -implicitDefEqProofs [ld];refine Ae Ac ?_;simp -implicitDefEqProofs;refine Bg (s':=⟨[(7,.t (sv ⟨#[114,117,108,101,32]⟩)),(6,.t t5),(5,.t Ah),(2,.ptr 0 0),(1,.t (iv 9))],H0,1,174⟩) (sub_env (by simp -implicitDefEqProofs)) rfl ?_;refine AE (α:=Empty) (λa=>nomatch a) (λa=>nomatch a) (λa=>nomatch a) ?_ (λa=>nomatch a);refine Ae Ac ?_;simp -implicitDefEqProofs;refine AG ?_;refine AE (α:=Empty) (λa=>nomatch a) (λa=>nomatch a) (λa=>nomatch a) ?_ (λa=>nomatch a);refine AG ?_;refine AE (α:=Empty) (λa=>nomatch a) (λa=>nomatch a) (λa=>nomatch a) ?_ (λa=>nomatch a);refine AG ?_;refine AE (α:=Empty) (λa=>nomatch a) (λa=>nomatch a) (λa=>nomatch a) ?_ (λa=>nomatch a);refine AG ?_;refine AE (α:=Empty) (λa=>nomatch a) (λa=>nomatch a) (λa=>nomatch a) ?_ (λa=>nomatch a);refine AG ?_;refine Ae Ac ?_;simp -implicitDefEqProofs;refine AE (α:=Empty) (λa=>nomatch a) (λa=>nomatch a) (λa=>nomatch a) ?_ (λa=>nomatch a);refine AE (α:=Nat×Ab×Nat) (λc=>⟨[(5,rowP Ak c.1 LL)],c.2.1,c.2.2,174⟩) (λc=>Ay Ak CU c.2.1 c.1 LL) (λ_=>rfl) ?_ ?_
 rotate_left
 .rintro⟨b,H,nx⟩ hrow;simp only at hrow;refine Bg (s':=⟨[(5,.t (Aq Ak LL))],B1 H [b],nx,174⟩) (EI [b] (by simp -implicitDefEqProofs [FM hrow (Xn.2 rfl)])) rfl ?_;refine Ar Ac ?_;simp -implicitDefEqProofs;exact A0 ⟨.t (Aq Ak LL),B1 H [b],nx⟩ ⟨rfl⟩ (by simp -implicitDefEqProofs)
 refine Ae Ac ?_;simp -implicitDefEqProofs [ld,lE];refine AG ?_;refine BV (SCl 122 123 124 t7 LL.length LL []) (λc=>LL.length-c.1) (ClI LL) (0,0,H0,1) (λ_=>rfl) ⟨Xe _,.inl rfl,λh=>absurd rfl h⟩ (sub_env (by simp -implicitDefEqProofs [SCl,rowP])) rfl ?_;rintro⟨j,b,H,nx⟩ hk;have hj:=hk.i;have hrow:=hk.r;have hb:=hk.b;simp only at hj hrow hb;by_cases hlt:j<LL.length
 rotate_left
 .have hlt':¬(j:Int)<(LL.length:Int):=by omega
  rw[Xi (by omega)]at hrow;have htk:LL.take j=LL:=Xi (by omega);refine Ae Ac ?_;simp -implicitDefEqProofs [SCl,hlt,hlt'];refine Ae Ac ?_;simp -implicitDefEqProofs;exact Am.mk (b,H,nx) hrow (sub_env (by simp -implicitDefEqProofs [htk]))
 have hlt':(j:Int)<(LL.length:Int):=by omega
 have hlt2:j<m.chks.length:=by omega
 obtain⟨y,hy⟩:∃y,m.chks[j]?=some y:=⟨_,Xk hlt2⟩
 have hL:LL[j]?=some (bs (GH y)):=by rw[hLL,Xo,hy];rfl
 have htk:=Jw hL;have hpy:=hp y (Xl hy)
 have hlen:(LL.take j).length<=100000:=by rw[Xp];omega
 have e1:Xh.wrap ((j:Int)+1)=((j+1:Nat):Int):=AP (by omega) (by omega);refine Ae Ac ?_;simp -implicitDefEqProofs [SCl,hlt,hlt'];refine Ae Ac ?_;simp -implicitDefEqProofs;obtain⟨cy,ry,ia,hcy,hcl⟩:=h7.iaddr hy;obtain⟨U,rfl,hU⟩:=hcy;have ia:Bd 1 (.t t7) (.t (iv (j:Int)))=some (.t (.pt (U::ry))):=ia
 obtain⟨Z,hZ⟩:∃Z,Z=GH y:=⟨_,rfl⟩
 have hZ2:Z=[99,104,101,99,107,32]++Cp [46] y:=by rw[hZ];rfl
 obtain⟨J,hJ⟩:∃J,J=Cp [46] y:=⟨_,rfl⟩
 obtain⟨hp1,hpy⟩:=hpy;have gj:(Cp [46] y).length<=1000000000->gJo [U,sv ⟨#[46]⟩]=some (sv (bs (Cp [46] y))):=Ve hU [46] hp1;rw[<-hJ]at hZ2 gj;rw[<-hZ]at hL hpy htk
 have htot:6+J.length<=1000000000:=by
  rw[hZ2]at hpy;simp only[Xa,Xb,Xc]at hpy;omega
 have gj:=gj (by omega)
 obtain⟨X1,hX1⟩:∃z,z=([99,104,101,99,107,32]:List UInt8)++J:=⟨_,rfl⟩
 have lX1:X1.length=6+J.length:=by rw[hX1];simp only[Xa,Xb,Xc]
 have b1:∀(Φ:A7) (H:Ab) (nx:Nat),Ai Φ H nx (.bin false .add none) [.t (sv ⟨#[99,104,101,99,107,32]⟩),.t (sv (bs J))]=some (.t (sv (bs X1)),H,nx):=by
  rw[hX1];exact Ce (a:=[99,104,101,99,107,32]) (b:=J) rfl rfl (by simp only[Xb,Xc];omega)
 have hZX:Z=X1:=by
  rw[hZ2,hX1]
 rw[hZX]at hL htk;obtain⟨H2,ap,row2,_,_,_⟩:=L4 (e:=Ak) (ty:=CU) (by':=16) (nx:=nx) (bs X1) 1 rfl [.t (sv (bs X1))] rfl hrow hb (by omega) (by omega);rw[<-htk]at ap row2;refine Ar LU ?_;simp -implicitDefEqProofs [ia,ldS,KI,gj,bsS,tsS,b1,ap,e1];exact Am.mk (j+1,nx+1,H2,nx+2) ⟨⟨by show j+1<=LL.length;omega,row2,λ_=>by show nx+1<nx+2;omega⟩,by show LL.length-(j+1)<LL.length-j;omega⟩ (sub_env (by simp -implicitDefEqProofs [SCl]))
theorem B1s {m:ML} {c:List T} (hm:Cn m c) (hz:FF m):A1 Xd (G q) 37 [.ag c,iv 3] (· = Aq Ak ((BX m 3).map bs)):=by
 obtain⟨LL,hLL⟩:∃LL,LL=(BX m 3).map bs:=⟨_,rfl⟩
 rw[<-hLL];have hcl:BX m 3=m.typs.map GE:=rfl;rw[hcl,Xm]at hLL;obtain⟨t0,t1,t2,t3,t4,t5,t6,t7,t8,⟨rfl,h0,h1,h2,h3,h4,h5,h6,h7,h8⟩⟩:=hm;have hl:=hz.n1;have hp:=hz.p1
 have hLl:LL.length=m.typs.length:=by rw[hLL,Xf]
 have lE:AO (.t t1)=some (.t (iv (LL.length:Int))):=by rw[hLl];exact h1.len
 rw[<-hLl]at hl;have hc:Bj (.t (.ag [sv m.name,t0,t1,t2,t3,t4,t5,t6,t7,t8]))=some [.t (sv m.name),.t t0,.t t1,.t t2,.t t3,.t t4,.t t5,.t t6,.t t7,.t t8]:=rfl
 obtain⟨H0,hH0⟩:∃H0:Ab,H0=[(0,.cells 51 [.t (sv m.name),.t t0,.t t1,.t t2,.t t3,.t t4,.t t5,.t t6,.t t7,.t t8])]:=⟨_,rfl⟩
 have ld:∀j,Aj false 1 H0 (.ptr 0 j)=([.t (sv m.name),.t t0,.t t1,.t t2,.t t3,.t t4,.t t5,.t t6,.t t7,.t t8]:List PV)[j]?:=λj=>by rw[hH0];rfl
 refine CG (args:=[.ag [sv m.name,t0,t1,t2,t3,t4,t5,t6,t7,t8],iv 3]) ?_;refine IK.callX rfl ?_;(conv in HL=>cbv);refine Ae Ac ?_;simp -implicitDefEqProofs [hc];refine Bg (s':=⟨[(2,.ptr 0 0),(1,.t (iv 3))],H0,1,174⟩) (by rw[hH0];exact sub_env (by simp -implicitDefEqProofs)) rfl ?_;clear hH0 hc;refine Ae Ac ?_;simp -implicitDefEqProofs;refine Ae Ac ?_;simp -implicitDefEqProofs [ld];refine Ae Ac ?_;simp -implicitDefEqProofs;refine Bg (s':=⟨[(7,.t (sv ⟨#[114,117,108,101,32]⟩)),(6,.t t5),(5,.t Ah),(2,.ptr 0 0),(1,.t (iv 3))],H0,1,174⟩) (sub_env (by simp -implicitDefEqProofs)) rfl ?_;refine AE (α:=Empty) (λa=>nomatch a) (λa=>nomatch a) (λa=>nomatch a) ?_ (λa=>nomatch a);refine Ae Ac ?_;simp -implicitDefEqProofs;refine AG ?_;refine AE (α:=Empty) (λa=>nomatch a) (λa=>nomatch a) (λa=>nomatch a) ?_ (λa=>nomatch a);refine AG ?_;refine AE (α:=Empty) (λa=>nomatch a) (λa=>nomatch a) (λa=>nomatch a) ?_ (λa=>nomatch a);refine AG ?_;refine AE (α:=Empty) (λa=>nomatch a) (λa=>nomatch a) (λa=>nomatch a) ?_ (λa=>nomatch a);refine AG ?_;refine AE (α:=Empty) (λa=>nomatch a) (λa=>nomatch a) (λa=>nomatch a) ?_ (λa=>nomatch a);refine AG ?_;refine AE (α:=Empty) (λa=>nomatch a) (λa=>nomatch a) (λa=>nomatch a) ?_ (λa=>nomatch a);refine AG ?_;refine AE (α:=Empty) (λa=>nomatch a) (λa=>nomatch a) (λa=>nomatch a) ?_ (λa=>nomatch a);refine AG ?_;refine AE (α:=Empty) (λa=>nomatch a) (λa=>nomatch a) (λa=>nomatch a) ?_ (λa=>nomatch a);refine AG ?_;refine Ae Ac ?_;simp -implicitDefEqProofs;refine AE (α:=Empty) (λa=>nomatch a) (λa=>nomatch a) (λa=>nomatch a) ?_ (λa=>nomatch a);refine AE (α:=Nat×Ab×Nat) (λc=>⟨[(5,rowP Ak c.1 LL)],c.2.1,c.2.2,174⟩) (λc=>Ay Ak CU c.2.1 c.1 LL) (λ_=>rfl) ?_ ?_
 rotate_left
 .rintro⟨b,H,nx⟩ hrow;simp only at hrow;refine Bg (s':=⟨[(5,.t (Aq Ak LL))],B1 H [b],nx,174⟩) (EI [b] (by simp -implicitDefEqProofs [FM hrow (Xn.2 rfl)])) rfl ?_;refine Ar Ac ?_;simp -implicitDefEqProofs;exact A0 ⟨.t (Aq Ak LL),B1 H [b],nx⟩ ⟨rfl⟩ (by simp -implicitDefEqProofs)
 refine Ae Ac ?_;simp -implicitDefEqProofs [ld,lE];refine AG ?_;refine BV (SCl 56 57 58 t1 LL.length LL []) (λc=>LL.length-c.1) (ClI LL) (0,0,H0,1) (λ_=>rfl) ⟨Xe _,.inl rfl,λh=>absurd rfl h⟩ (sub_env (by simp -implicitDefEqProofs [SCl,rowP])) rfl ?_;rintro⟨j,b,H,nx⟩ hk;have hj:=hk.i;have hrow:=hk.r;have hb:=hk.b;simp only at hj hrow hb;by_cases hlt:j<LL.length
 rotate_left
 .have hlt':¬(j:Int)<(LL.length:Int):=by omega
  rw[Xi (by omega)]at hrow;have htk:LL.take j=LL:=Xi (by omega);refine Ae Ac ?_;simp -implicitDefEqProofs [SCl,hlt,hlt'];refine Ae Ac ?_;simp -implicitDefEqProofs;exact Am.mk (b,H,nx) hrow (sub_env (by simp -implicitDefEqProofs [htk]))
 have hlt':(j:Int)<(LL.length:Int):=by omega
 have hlt2:j<m.typs.length:=by omega
 obtain⟨y,hy⟩:∃y,m.typs[j]?=some y:=⟨_,Xk hlt2⟩
 have hL:LL[j]?=some (bs (GE y)):=by rw[hLL,Xo,hy];rfl
 have htk:=Jw hL;have hpy:=hp y (Xl hy)
 have hlen:(LL.take j).length<=100000:=by rw[Xp];omega
 have e1:Xh.wrap ((j:Int)+1)=((j+1:Nat):Int):=AP (by omega) (by omega);refine Ae Ac ?_;simp -implicitDefEqProofs [SCl,hlt,hlt'];refine Ae Ac ?_;simp -implicitDefEqProofs;obtain⟨cy,ry,ia,hcy,hcl⟩:=h1.iaddr hy;obtain⟨U,E,rfl,hU,hE⟩:=hcy;obtain⟨hp1,hp2,hpy⟩:=hpy;have ia:Bd 3 (.t t1) (.t (iv (j:Int)))=some (.t (.pt (sv y.name::U::E::ry))):=ia;have la:Aj true 3 H (.t (.pt (sv y.name::U::E::ry)))=some (.t (.ag [sv y.name,U,E])):=rfl
 obtain⟨R0,hR0⟩:∃R0:Row,R0 = .cells 112 [.t (sv y.name),.t U,.t E]:=⟨_,rfl⟩
 have sn:AM 3 ((nx,.cells 112 [.t (sv ⟨#[]⟩),.t Ah,.t Ah])::H) (.ptr nx 0) (.t (.ag [sv y.name,U,E]))=some ((nx,R0)::H):=by rw[hR0];exact Dv (ty:=112) (zs:=[.t (sv ⟨#[]⟩),.t Ah,.t Ah]) (ds:=[sv y.name,U,E]) rfl rfl H
 have le:Aj true 3 ((nx,R0)::H) (.ptr nx 0)=some (.t (.ag [sv y.name,U,E])):=by simp only[Aj,Az,hR0];rfl
 obtain⟨Z,hZ⟩:∃Z,Z=GE y:=⟨_,rfl⟩
 have hZ2:Z=[116,121,112,101,32]++tyW y:=by rw[hZ];rfl
 obtain⟨V,hV⟩:∃V,V=tyW y:=⟨_,rfl⟩
 have gt:(tyW y).length<=1000000000->RL [.ag [sv y.name,U,E]]=some (sv (bs (tyW y))):=λh=>B1k ⟨U,E,rfl,hU,hE⟩ ⟨hp1,hp2,h⟩;rw[<-hV]at hZ2 gt;rw[<-hZ]at hL hpy htk
 have htot:5+V.length<=1000000000:=by
  rw[hZ2]at hpy;simp only[Xa,Xb,Xc]at hpy;omega
 have gt:=gt (by omega)
 obtain⟨X1,hX1⟩:∃z,z=([116,121,112,101,32]:List UInt8)++V:=⟨_,rfl⟩
 have lX1:X1.length=5+V.length:=by rw[hX1];simp only[Xa,Xb,Xc]
 have b1:∀(Φ:A7) (H:Ab) (nx:Nat),Ai Φ H nx (.bin false .add none) [.t (sv ⟨#[116,121,112,101,32]⟩),.t (sv (bs V))]=some (.t (sv (bs X1)),H,nx):=by
  rw[hX1];exact Ce (a:=[116,121,112,101,32]) (b:=V) rfl rfl (by simp only[Xb,Xc];omega)
 have hZX:Z=X1:=by
  rw[hZ2,hX1]
 rw[hZX]at hL htk;obtain⟨H2,ap,row2,_,_,_⟩:=L4 (e:=Ak) (ty:=CU) (by':=16) (nx:=nx+1) (bs X1) 1 rfl [.t (sv (bs X1))] rfl (Nz (r:=R0) hrow hb) (λh=>Xs (hb h)) (by omega) (by omega);rw[<-htk]at ap row2;refine Ar LU ?_;simp -implicitDefEqProofs [ia,la,sn,le,KI,gt,bsS,tsS,b1,ap,e1];exact Am.mk (j+1,nx+2,H2,nx+3) ⟨⟨by show j+1<=LL.length;omega,row2,λ_=>by show nx+2<nx+3;omega⟩,by show LL.length-(j+1)<LL.length-j;omega⟩ (sub_env (by simp -implicitDefEqProofs [SCl]))
theorem B1t {m:ML} {c:List T} (hm:Cn m c) (hz:FF m):A1 Xd (G q) 37 [.ag c,iv 5] (· = Aq Ak ((BX m 5).map bs)):=by
 obtain⟨LL,hLL⟩:∃LL,LL=(BX m 5).map bs:=⟨_,rfl⟩
 rw[<-hLL];have hcl:BX m 5=m.ents.map GF:=rfl;rw[hcl,Xm]at hLL;obtain⟨t0,t1,t2,t3,t4,t5,t6,t7,t8,⟨rfl,h0,h1,h2,h3,h4,h5,h6,h7,h8⟩⟩:=hm;have hl:=hz.n3;have hp:=hz.p3
 have hLl:LL.length=m.ents.length:=by rw[hLL,Xf]
 have lE:AO (.t t3)=some (.t (iv (LL.length:Int))):=by rw[hLl];exact h3.len
 rw[<-hLl]at hl;have hc:Bj (.t (.ag [sv m.name,t0,t1,t2,t3,t4,t5,t6,t7,t8]))=some [.t (sv m.name),.t t0,.t t1,.t t2,.t t3,.t t4,.t t5,.t t6,.t t7,.t t8]:=rfl
 obtain⟨H0,hH0⟩:∃H0:Ab,H0=[(0,.cells 51 [.t (sv m.name),.t t0,.t t1,.t t2,.t t3,.t t4,.t t5,.t t6,.t t7,.t t8])]:=⟨_,rfl⟩
 have ld:∀j,Aj false 1 H0 (.ptr 0 j)=([.t (sv m.name),.t t0,.t t1,.t t2,.t t3,.t t4,.t t5,.t t6,.t t7,.t t8]:List PV)[j]?:=λj=>by rw[hH0];rfl
 refine CG (args:=[.ag [sv m.name,t0,t1,t2,t3,t4,t5,t6,t7,t8],iv 5]) ?_;refine IK.callX rfl ?_;(conv in HL=>cbv);refine Ae Ac ?_;simp -implicitDefEqProofs [hc];refine Bg (s':=⟨[(2,.ptr 0 0),(1,.t (iv 5))],H0,1,174⟩) (by rw[hH0];exact sub_env (by simp -implicitDefEqProofs)) rfl ?_;clear hH0 hc;refine Ae Ac ?_;simp -implicitDefEqProofs;refine Ae Ac ?_;simp -implicitDefEqProofs [ld];refine Ae Ac ?_;simp -implicitDefEqProofs;refine Bg (s':=⟨[(7,.t (sv ⟨#[114,117,108,101,32]⟩)),(6,.t t5),(5,.t Ah),(2,.ptr 0 0),(1,.t (iv 5))],H0,1,174⟩) (sub_env (by simp -implicitDefEqProofs)) rfl ?_;refine AE (α:=Empty) (λa=>nomatch a) (λa=>nomatch a) (λa=>nomatch a) ?_ (λa=>nomatch a);refine Ae Ac ?_;simp -implicitDefEqProofs;refine AG ?_;refine AE (α:=Empty) (λa=>nomatch a) (λa=>nomatch a) (λa=>nomatch a) ?_ (λa=>nomatch a);refine AG ?_;refine AE (α:=Empty) (λa=>nomatch a) (λa=>nomatch a) (λa=>nomatch a) ?_ (λa=>nomatch a);refine AG ?_;refine AE (α:=Empty) (λa=>nomatch a) (λa=>nomatch a) (λa=>nomatch a) ?_ (λa=>nomatch a);refine AG ?_;refine AE (α:=Empty) (λa=>nomatch a) (λa=>nomatch a) (λa=>nomatch a) ?_ (λa=>nomatch a);refine AG ?_;refine AE (α:=Empty) (λa=>nomatch a) (λa=>nomatch a) (λa=>nomatch a) ?_ (λa=>nomatch a);refine AG ?_;refine AE (α:=Empty) (λa=>nomatch a) (λa=>nomatch a) (λa=>nomatch a) ?_ (λa=>nomatch a);refine AG ?_;refine Ae Ac ?_;simp -implicitDefEqProofs;refine AE (α:=Empty) (λa=>nomatch a) (λa=>nomatch a) (λa=>nomatch a) ?_ (λa=>nomatch a);refine AE (α:=Nat×Ab×Nat) (λc=>⟨[(5,rowP Ak c.1 LL)],c.2.1,c.2.2,174⟩) (λc=>Ay Ak CU c.2.1 c.1 LL) (λ_=>rfl) ?_ ?_
 rotate_left
 .rintro⟨b,H,nx⟩ hrow;simp only at hrow;refine Bg (s':=⟨[(5,.t (Aq Ak LL))],B1 H [b],nx,174⟩) (EI [b] (by simp -implicitDefEqProofs [FM hrow (Xn.2 rfl)])) rfl ?_;refine Ar Ac ?_;simp -implicitDefEqProofs;exact A0 ⟨.t (Aq Ak LL),B1 H [b],nx⟩ ⟨rfl⟩ (by simp -implicitDefEqProofs)
 refine Ae Ac ?_;simp -implicitDefEqProofs [ld,lE];refine AG ?_;refine BV (SCl 71 72 73 t3 LL.length LL []) (λc=>LL.length-c.1) (ClI LL) (0,0,H0,1) (λ_=>rfl) ⟨Xe _,.inl rfl,λh=>absurd rfl h⟩ (sub_env (by simp -implicitDefEqProofs [SCl,rowP])) rfl ?_;rintro⟨j,b,H,nx⟩ hk;have hj:=hk.i;have hrow:=hk.r;have hb:=hk.b;simp only at hj hrow hb;by_cases hlt:j<LL.length
 rotate_left
 .have hlt':¬(j:Int)<(LL.length:Int):=by omega
  rw[Xi (by omega)]at hrow;have htk:LL.take j=LL:=Xi (by omega);refine Ae Ac ?_;simp -implicitDefEqProofs [SCl,hlt,hlt'];refine Ae Ac ?_;simp -implicitDefEqProofs;exact Am.mk (b,H,nx) hrow (sub_env (by simp -implicitDefEqProofs [htk]))
 have hlt':(j:Int)<(LL.length:Int):=by omega
 have hlt2:j<m.ents.length:=by omega
 obtain⟨y,hy⟩:∃y,m.ents[j]?=some y:=⟨_,Xk hlt2⟩
 have hL:LL[j]?=some (bs (GF y)):=by rw[hLL,Xo,hy];rfl
 have htk:=Jw hL;have hpy:=hp y (Xl hy)
 have hlen:(LL.take j).length<=100000:=by rw[Xp];omega
 have e1:Xh.wrap ((j:Int)+1)=((j+1:Nat):Int):=AP (by omega) (by omega);refine Ae Ac ?_;simp -implicitDefEqProofs [SCl,hlt,hlt'];refine Ae Ac ?_;simp -implicitDefEqProofs;obtain⟨cy,ry,ia,hcy,hcl⟩:=h3.iaddr hy;obtain⟨U,cd,rfl,hU,hcd⟩:=hcy;obtain⟨a2,a3,a4,a5,a6,hd,_⟩:=hcd.six;subst hd;obtain⟨hp1,hp2,hpy⟩:=hpy
 obtain⟨nm,hnm⟩:∃nm,nm=y.2.name.data.toList:=⟨_,rfl⟩
 have hyn:y.2.name=bs nm:=by rw[hnm]
 have gd:=Pz hcd hp2;rw[hyn]at ia gd;have ia:Bd 7 (.t t3) (.t (iv (j:Int)))=some (.t (.pt (U::sv (bs nm)::a2::a3::a4::a5::a6::ry))):=ia;have la:Aj true 7 H (.t (.pt (U::sv (bs nm)::a2::a3::a4::a5::a6::ry)))=some (.t (.ag [U,sv (bs nm),a2,a3,a4,a5,a6])):=rfl
 obtain⟨R0,hR0⟩:∃R0:Row,R0 = .cells 61 [.t U,.t (sv (bs nm)),.t a2,.t a3,.t a4,.t a5,.t a6]:=⟨_,rfl⟩
 have sn:AM 7 ((nx,.cells 61 [.t Ah,.t (sv ⟨#[]⟩),.t (iv 0),.t (sv ⟨#[]⟩),.t Ah,.t Ah,.t Ah])::H) (.ptr nx 0) (.t (.ag [U,sv (bs nm),a2,a3,a4,a5,a6]))=some ((nx,R0)::H):=by rw[hR0];exact Dv (ty:=61) (zs:=[.t Ah,.t (sv ⟨#[]⟩),.t (iv 0),.t (sv ⟨#[]⟩),.t Ah,.t Ah,.t Ah]) (ds:=[U,sv (bs nm),a2,a3,a4,a5,a6]) rfl rfl H
 have l0:Aj false 1 ((nx,R0)::H) (.ptr nx 0)=some (.t U):=by simp only[Aj,Az,hR0];rfl
 have l1:Aj false 1 ((nx,R0)::H) (.ptr nx 1)=some (.t (sv (bs nm))):=by simp only[Aj,Az,hR0];rfl
 have l6:Aj true 6 ((nx,R0)::H) (.ptr nx 1)=some (.t (.ag [sv (bs nm),a2,a3,a4,a5,a6])):=by simp only[Aj,Az,hR0];rfl
 obtain⟨Z,hZ⟩:∃Z,Z=GF y:=⟨_,rfl⟩
 have hZ2:Z=[101,110,116,114,121,32]++(nm++([32,34]++(Cp [32] y.1++([34]++Cs y.2)))):=by rw[hZ,hnm];rfl
 obtain⟨J,hJ⟩:∃J,J=Cp [32] y.1:=⟨_,rfl⟩
 obtain⟨D,hD⟩:∃D,D=Cs y.2:=⟨_,rfl⟩
 have gj:(Cp [32] y.1).length<=1000000000->gJo [U,sv ⟨#[32]⟩]=some (sv (bs (Cp [32] y.1))):=Ve hU [32] hp1;rw[<-hJ,<-hD]at hZ2;rw[<-hJ]at gj;rw[<-hD]at gd;rw[<-hZ]at hL hpy htk
 have htot:6+nm.length+2+J.length+1+D.length<=1000000000:=by
  rw[hZ2]at hpy;simp only[Xa,Xb,Xc]at hpy;omega
 have gj:=gj (by omega)
 obtain⟨X1,hX1⟩:∃z,z=([101,110,116,114,121,32]:List UInt8)++nm:=⟨_,rfl⟩
 have lX1:X1.length=6+nm.length:=by rw[hX1];simp only[Xa,Xb,Xc]
 have b1:∀(Φ:A7) (H:Ab) (nx:Nat),Ai Φ H nx (.bin false .add none) [.t (sv ⟨#[101,110,116,114,121,32]⟩),.t (sv (bs nm))]=some (.t (sv (bs X1)),H,nx):=by
  rw[hX1];exact Ce (a:=[101,110,116,114,121,32]) (b:=nm) rfl rfl (by simp only[Xb,Xc];omega)
 obtain⟨X2,hX2⟩:∃z,z=X1++[32,34]:=⟨_,rfl⟩
 have lX2:X2.length=X1.length+2:=by rw[hX2];simp only[Xa,Xb,Xc]
 have b2:∀(Φ:A7) (H:Ab) (nx:Nat),Ai Φ H nx (.bin false .add none) [.t (sv (bs X1)),.t (sv ⟨#[32,34]⟩)]=some (.t (sv (bs X2)),H,nx):=by
  rw[hX2];exact Ce (a:=X1) (b:=[32,34]) rfl rfl (by simp only[Xb,Xc];omega)
 obtain⟨X3,hX3⟩:∃z,z=X2++J:=⟨_,rfl⟩
 have lX3:X3.length=X2.length+J.length:=by rw[hX3];simp only[Xa,Xb,Xc]
 have b3:∀(Φ:A7) (H:Ab) (nx:Nat),Ai Φ H nx (.bin false .add none) [.t (sv (bs X2)),.t (sv (bs J))]=some (.t (sv (bs X3)),H,nx):=by
  rw[hX3];exact Ce (a:=X2) (b:=J) rfl rfl (by omega)
 obtain⟨X4,hX4⟩:∃z,z=X3++[34]:=⟨_,rfl⟩
 have lX4:X4.length=X3.length+1:=by rw[hX4];simp only[Xa,Xb,Xc]
 have b4:∀(Φ:A7) (H:Ab) (nx:Nat),Ai Φ H nx (.bin false .add none) [.t (sv (bs X3)),.t (sv ⟨#[34]⟩)]=some (.t (sv (bs X4)),H,nx):=by
  rw[hX4];exact Ce (a:=X3) (b:=[34]) rfl rfl (by simp only[Xb,Xc];omega)
 obtain⟨X5,hX5⟩:∃z,z=X4++D:=⟨_,rfl⟩
 have lX5:X5.length=X4.length+D.length:=by rw[hX5];simp only[Xa,Xb,Xc]
 have b5:∀(Φ:A7) (H:Ab) (nx:Nat),Ai Φ H nx (.bin false .add none) [.t (sv (bs X4)),.t (sv (bs D))]=some (.t (sv (bs X5)),H,nx):=by
  rw[hX5];exact Ce (a:=X4) (b:=D) rfl rfl (by omega)
 have hZX:Z=X5:=by
  rw[hZ2,hX5,hX4,hX3,hX2,hX1];simp only[Xj]
 rw[hZX]at hL htk;obtain⟨H2,ap,row2,_,_,_⟩:=Nc (e:=Ak) (ty:=CU) (by':=16) (nx:=nx+1) (bs X5) 1 rfl [sv (bs X5)] rfl (Nz (r:=R0) hrow hb) (λh=>Xs (hb h)) (by omega) (by omega);rw[<-htk]at ap row2;refine Ar LU ?_;simp -implicitDefEqProofs [ia,la,sn,l0,l1,l6,KI,gj,gd,bsS,tsS,b1,b2,b3,b4,b5,ap,e1];exact Am.mk (j+1,nx+1,H2,nx+2) ⟨⟨by show j+1<=LL.length;omega,row2,λ_=>by show nx+1<nx+2;omega⟩,by show LL.length-(j+1)<LL.length-j;omega⟩ (sub_env (by simp -implicitDefEqProofs [SCl]))
theorem B1u {m:ML} {c:List T} (hm:Cn m c) (hz:FF m):A1 Xd (G q) 37 [.ag c,iv 6] (· = Aq Ak ((BX m 6).map bs)):=by
 obtain⟨LL,hLL⟩:∃LL,LL=(BX m 6).map bs:=⟨_,rfl⟩
 rw[<-hLL];have hcl:BX m 6=m.lexs.map GG:=rfl;rw[hcl,Xm]at hLL;obtain⟨t0,t1,t2,t3,t4,t5,t6,t7,t8,⟨rfl,h0,h1,h2,h3,h4,h5,h6,h7,h8⟩⟩:=hm;have hl:=hz.n4;have hp:=hz.p4
 have hLl:LL.length=m.lexs.length:=by rw[hLL,Xf]
 have lE:AO (.t t4)=some (.t (iv (LL.length:Int))):=by rw[hLl];exact h4.len
 rw[<-hLl]at hl;have hc:Bj (.t (.ag [sv m.name,t0,t1,t2,t3,t4,t5,t6,t7,t8]))=some [.t (sv m.name),.t t0,.t t1,.t t2,.t t3,.t t4,.t t5,.t t6,.t t7,.t t8]:=rfl
 obtain⟨H0,hH0⟩:∃H0:Ab,H0=[(0,.cells 51 [.t (sv m.name),.t t0,.t t1,.t t2,.t t3,.t t4,.t t5,.t t6,.t t7,.t t8])]:=⟨_,rfl⟩
 have ld:∀j,Aj false 1 H0 (.ptr 0 j)=([.t (sv m.name),.t t0,.t t1,.t t2,.t t3,.t t4,.t t5,.t t6,.t t7,.t t8]:List PV)[j]?:=λj=>by rw[hH0];rfl
 refine CG (args:=[.ag [sv m.name,t0,t1,t2,t3,t4,t5,t6,t7,t8],iv 6]) ?_;refine IK.callX rfl ?_;(conv in HL=>cbv);refine Ae Ac ?_;simp -implicitDefEqProofs [hc];refine Bg (s':=⟨[(2,.ptr 0 0),(1,.t (iv 6))],H0,1,174⟩) (by rw[hH0];exact sub_env (by simp -implicitDefEqProofs)) rfl ?_;clear hH0 hc;refine Ae Ac ?_;simp -implicitDefEqProofs;refine Ae Ac ?_;simp -implicitDefEqProofs [ld];refine Ae Ac ?_;simp -implicitDefEqProofs;refine Bg (s':=⟨[(7,.t (sv ⟨#[114,117,108,101,32]⟩)),(6,.t t5),(5,.t Ah),(2,.ptr 0 0),(1,.t (iv 6))],H0,1,174⟩) (sub_env (by simp -implicitDefEqProofs)) rfl ?_;refine AE (α:=Empty) (λa=>nomatch a) (λa=>nomatch a) (λa=>nomatch a) ?_ (λa=>nomatch a);refine Ae Ac ?_;simp -implicitDefEqProofs;refine AG ?_;refine AE (α:=Empty) (λa=>nomatch a) (λa=>nomatch a) (λa=>nomatch a) ?_ (λa=>nomatch a);refine AG ?_;refine AE (α:=Empty) (λa=>nomatch a) (λa=>nomatch a) (λa=>nomatch a) ?_ (λa=>nomatch a);refine AG ?_;refine AE (α:=Empty) (λa=>nomatch a) (λa=>nomatch a) (λa=>nomatch a) ?_ (λa=>nomatch a);refine AG ?_;refine AE (α:=Empty) (λa=>nomatch a) (λa=>nomatch a) (λa=>nomatch a) ?_ (λa=>nomatch a);refine AG ?_;refine AE (α:=Empty) (λa=>nomatch a) (λa=>nomatch a) (λa=>nomatch a) ?_ (λa=>nomatch a);refine AG ?_;refine Ae Ac ?_;simp -implicitDefEqProofs;refine AE (α:=Empty) (λa=>nomatch a) (λa=>nomatch a) (λa=>nomatch a) ?_ (λa=>nomatch a);refine AE (α:=Nat×Ab×Nat) (λc=>⟨[(5,rowP Ak c.1 LL)],c.2.1,c.2.2,174⟩) (λc=>Ay Ak CU c.2.1 c.1 LL) (λ_=>rfl) ?_ ?_
 rotate_left
 .rintro⟨b,H,nx⟩ hrow;simp only at hrow;refine Bg (s':=⟨[(5,.t (Aq Ak LL))],B1 H [b],nx,174⟩) (EI [b] (by simp -implicitDefEqProofs [FM hrow (Xn.2 rfl)])) rfl ?_;refine Ar Ac ?_;simp -implicitDefEqProofs;exact A0 ⟨.t (Aq Ak LL),B1 H [b],nx⟩ ⟨rfl⟩ (by simp -implicitDefEqProofs)
 refine Ae Ac ?_;simp -implicitDefEqProofs [ld,lE];refine AG ?_;refine BV (SCl 97 98 99 t4 LL.length LL []) (λc=>LL.length-c.1) (ClI LL) (0,0,H0,1) (λ_=>rfl) ⟨Xe _,.inl rfl,λh=>absurd rfl h⟩ (sub_env (by simp -implicitDefEqProofs [SCl,rowP])) rfl ?_;rintro⟨j,b,H,nx⟩ hk;have hj:=hk.i;have hrow:=hk.r;have hb:=hk.b;simp only at hj hrow hb;by_cases hlt:j<LL.length
 rotate_left
 .have hlt':¬(j:Int)<(LL.length:Int):=by omega
  rw[Xi (by omega)]at hrow;have htk:LL.take j=LL:=Xi (by omega);refine Ae Ac ?_;simp -implicitDefEqProofs [SCl,hlt,hlt'];refine Ae Ac ?_;simp -implicitDefEqProofs;exact Am.mk (b,H,nx) hrow (sub_env (by simp -implicitDefEqProofs [htk]))
 have hlt':(j:Int)<(LL.length:Int):=by omega
 have hlt2:j<m.lexs.length:=by omega
 obtain⟨y,hy⟩:∃y,m.lexs[j]?=some y:=⟨_,Xk hlt2⟩
 have hL:LL[j]?=some (bs (GG y)):=by rw[hLL,Xo,hy];rfl
 have htk:=Jw hL;have hpy:=hp y (Xl hy)
 have hlen:(LL.take j).length<=100000:=by rw[Xp];omega
 have e1:Xh.wrap ((j:Int)+1)=((j+1:Nat):Int):=AP (by omega) (by omega);refine Ae Ac ?_;simp -implicitDefEqProofs [SCl,hlt,hlt'];refine Ae Ac ?_;simp -implicitDefEqProofs;obtain⟨cy,ry,ia,hcy,hcl⟩:=h4.iaddr hy;obtain⟨ca,cd,rfl,⟨E,rfl,hE⟩,hcd⟩:=hcy;obtain⟨a2,a3,a4,a5,a6,hd,_⟩:=hcd.six;subst hd;obtain⟨hp1,hp2,hpy⟩:=hpy
 obtain⟨nm,hnm⟩:∃nm,nm=y.2.name.data.toList:=⟨_,rfl⟩
 have hyn:y.2.name=bs nm:=by rw[hnm]
 have gd:=Pz hcd hp2;rw[hyn]at ia gd;have ia:Bd 8 (.t t4) (.t (iv (j:Int)))=some (.t (.pt (iv y.1.kind::E::sv (bs nm)::a2::a3::a4::a5::a6::ry))):=ia;have la:Aj true 8 H (.t (.pt (iv y.1.kind::E::sv (bs nm)::a2::a3::a4::a5::a6::ry)))=some (.t (.ag [iv y.1.kind,E,sv (bs nm),a2,a3,a4,a5,a6])):=rfl
 obtain⟨R0,hR0⟩:∃R0:Row,R0 = .cells 118 [.t (iv y.1.kind),.t E,.t (sv (bs nm)),.t a2,.t a3,.t a4,.t a5,.t a6]:=⟨_,rfl⟩
 have sn:AM 8 ((nx,.cells 118 [.t (iv 0),.t Ah,.t (sv ⟨#[]⟩),.t (iv 0),.t (sv ⟨#[]⟩),.t Ah,.t Ah,.t Ah])::H) (.ptr nx 0) (.t (.ag [iv y.1.kind,E,sv (bs nm),a2,a3,a4,a5,a6]))=some ((nx,R0)::H):=by rw[hR0];exact Dv (ty:=118) (zs:=[.t (iv 0),.t Ah,.t (sv ⟨#[]⟩),.t (iv 0),.t (sv ⟨#[]⟩),.t Ah,.t Ah,.t Ah]) (ds:=[iv y.1.kind,E,sv (bs nm),a2,a3,a4,a5,a6]) rfl rfl H
 have l2:Aj true 2 ((nx,R0)::H) (.ptr nx 0)=some (.t (.ag [iv y.1.kind,E])):=by simp only[Aj,Az,hR0];rfl
 have l1:Aj false 1 ((nx,R0)::H) (.ptr nx 2)=some (.t (sv (bs nm))):=by simp only[Aj,Az,hR0];rfl
 have l6:Aj true 6 ((nx,R0)::H) (.ptr nx 2)=some (.t (.ag [sv (bs nm),a2,a3,a4,a5,a6])):=by simp only[Aj,Az,hR0];rfl
 obtain⟨Z,hZ⟩:∃Z,Z=GG y:=⟨_,rfl⟩
 have hZ2:Z=[108,101,120,114,117,108,101,32]++(nm++([32]++(afW y.1++Cs y.2))):=by rw[hZ,hnm];rfl
 obtain⟨J,hJ⟩:∃J,J=afW y.1:=⟨_,rfl⟩
 obtain⟨D,hD⟩:∃D,D=Cs y.2:=⟨_,rfl⟩
 have gj:(afW y.1).length<=1000000000->RM [.ag [iv y.1.kind,E]]=some (sv (bs (afW y.1))):=λh=>B1n ⟨E,rfl,hE⟩ ⟨hp1,h⟩;rw[<-hJ,<-hD]at hZ2;rw[<-hJ]at gj;rw[<-hD]at gd;rw[<-hZ]at hL hpy htk
 have htot:8+nm.length+1+J.length+D.length<=1000000000:=by
  rw[hZ2]at hpy;simp only[Xa,Xb,Xc]at hpy;omega
 have gj:=gj (by omega)
 obtain⟨X1,hX1⟩:∃z,z=([108,101,120,114,117,108,101,32]:List UInt8)++nm:=⟨_,rfl⟩
 have lX1:X1.length=8+nm.length:=by rw[hX1];simp only[Xa,Xb,Xc]
 have b1:∀(Φ:A7) (H:Ab) (nx:Nat),Ai Φ H nx (.bin false .add none) [.t (sv ⟨#[108,101,120,114,117,108,101,32]⟩),.t (sv (bs nm))]=some (.t (sv (bs X1)),H,nx):=by
  rw[hX1];exact Ce (a:=[108,101,120,114,117,108,101,32]) (b:=nm) rfl rfl (by simp only[Xb,Xc];omega)
 obtain⟨X2,hX2⟩:∃z,z=X1++[32]:=⟨_,rfl⟩
 have lX2:X2.length=X1.length+1:=by rw[hX2];simp only[Xa,Xb,Xc]
 have b2:∀(Φ:A7) (H:Ab) (nx:Nat),Ai Φ H nx (.bin false .add none) [.t (sv (bs X1)),.t (sv ⟨#[32]⟩)]=some (.t (sv (bs X2)),H,nx):=by
  rw[hX2];exact Ce (a:=X1) (b:=[32]) rfl rfl (by simp only[Xb,Xc];omega)
 obtain⟨X3,hX3⟩:∃z,z=X2++J:=⟨_,rfl⟩
 have lX3:X3.length=X2.length+J.length:=by rw[hX3];simp only[Xa,Xb,Xc]
 have b3:∀(Φ:A7) (H:Ab) (nx:Nat),Ai Φ H nx (.bin false .add none) [.t (sv (bs X2)),.t (sv (bs J))]=some (.t (sv (bs X3)),H,nx):=by
  rw[hX3];exact Ce (a:=X2) (b:=J) rfl rfl (by omega)
 obtain⟨X4,hX4⟩:∃z,z=X3++D:=⟨_,rfl⟩
 have lX4:X4.length=X3.length+D.length:=by rw[hX4];simp only[Xa,Xb,Xc]
 have b4:∀(Φ:A7) (H:Ab) (nx:Nat),Ai Φ H nx (.bin false .add none) [.t (sv (bs X3)),.t (sv (bs D))]=some (.t (sv (bs X4)),H,nx):=by
  rw[hX4];exact Ce (a:=X3) (b:=D) rfl rfl (by omega)
 have hZX:Z=X4:=by
  rw[hZ2,hX4,hX3,hX2,hX1];simp only[Xj]
 rw[hZX]at hL htk;obtain⟨H2,ap,row2,_,_,_⟩:=Nc (e:=Ak) (ty:=CU) (by':=16) (nx:=nx+1) (bs X4) 1 rfl [sv (bs X4)] rfl (Nz (r:=R0) hrow hb) (λh=>Xs (hb h)) (by omega) (by omega);rw[<-htk]at ap row2;refine Ar LU ?_;simp -implicitDefEqProofs [ia,la,sn,l2,l1,l6,KI,gj,gd,bsS,tsS,b1,b2,b3,b4,ap,e1];exact Am.mk (j+1,nx+1,H2,nx+2) ⟨⟨by show j+1<=LL.length;omega,row2,λ_=>by show nx+1<nx+2;omega⟩,by show LL.length-(j+1)<LL.length-j;omega⟩ (sub_env (by simp -implicitDefEqProofs [SCl]))
theorem B1v {m:ML} {c:List T} (hm:Cn m c) (hz:FF m):A1 Xd (G q) 37 [.ag c,iv 4] (· = Aq Ak ((BX m 4).map bs)):=by
 obtain⟨LL,hLL⟩:∃LL,LL=(BX m 4).map bs:=⟨_,rfl⟩
 rw[<-hLL];have hcl:BX m 4=m.tmps.map (dnW Jt):=rfl;rw[hcl,Xm]at hLL;obtain⟨t0,t1,t2,t3,t4,t5,t6,t7,t8,⟨rfl,h0,h1,h2,h3,h4,h5,h6,h7,h8⟩⟩:=hm;have hl:=hz.n2;have hp:=hz.p2
 have hLl:LL.length=m.tmps.length:=by rw[hLL,Xf]
 have lE:AO (.t t2)=some (.t (iv (LL.length:Int))):=by rw[hLl];exact h2.len
 rw[<-hLl]at hl;have hc:Bj (.t (.ag [sv m.name,t0,t1,t2,t3,t4,t5,t6,t7,t8]))=some [.t (sv m.name),.t t0,.t t1,.t t2,.t t3,.t t4,.t t5,.t t6,.t t7,.t t8]:=rfl
 obtain⟨H0,hH0⟩:∃H0:Ab,H0=[(0,.cells 51 [.t (sv m.name),.t t0,.t t1,.t t2,.t t3,.t t4,.t t5,.t t6,.t t7,.t t8])]:=⟨_,rfl⟩
 have ld:∀j,Aj false 1 H0 (.ptr 0 j)=([.t (sv m.name),.t t0,.t t1,.t t2,.t t3,.t t4,.t t5,.t t6,.t t7,.t t8]:List PV)[j]?:=λj=>by rw[hH0];rfl
 refine CG (args:=[.ag [sv m.name,t0,t1,t2,t3,t4,t5,t6,t7,t8],iv 4]) ?_;refine IK.callX rfl ?_;(conv in HL=>cbv);refine Ae Ac ?_;simp -implicitDefEqProofs [hc];refine Bg (s':=⟨[(2,.ptr 0 0),(1,.t (iv 4))],H0,1,174⟩) (by rw[hH0];exact sub_env (by simp -implicitDefEqProofs)) rfl ?_;clear hH0 hc;refine Ae Ac ?_;simp -implicitDefEqProofs;refine Ae Ac ?_;simp -implicitDefEqProofs [ld];refine Ae Ac ?_;simp -implicitDefEqProofs;refine Bg (s':=⟨[(7,.t (sv ⟨#[114,117,108,101,32]⟩)),(6,.t t5),(5,.t Ah),(2,.ptr 0 0),(1,.t (iv 4))],H0,1,174⟩) (sub_env (by simp -implicitDefEqProofs)) rfl ?_;refine AE (α:=Nat×Ab×Nat) (λc=>⟨[(5,rowP Ak c.1 LL)],c.2.1,c.2.2,174⟩) (λc=>Ay Ak CU c.2.1 c.1 LL) (λ_=>rfl) ?_ ?_
 rotate_left
 .rintro⟨b,H,nx⟩ hrow;simp only at hrow;refine Bg (s':=⟨[(5,.t (Aq Ak LL))],B1 H [b],nx,174⟩) (EI [b] (by simp -implicitDefEqProofs [FM hrow (Xn.2 rfl)])) rfl ?_;refine Ar Ac ?_;simp -implicitDefEqProofs;exact A0 ⟨.t (Aq Ak LL),B1 H [b],nx⟩ ⟨rfl⟩ (by simp -implicitDefEqProofs)
 refine Ae Ac ?_;simp -implicitDefEqProofs;refine AG ?_;refine Ae Ac ?_;simp -implicitDefEqProofs [ld];refine AE (α:=Nat×Ab×Nat) (λc=>⟨[(5,rowP Ak c.1 LL)],c.2.1,c.2.2,174⟩) (λc=>Ay Ak CU c.2.1 c.1 LL) (λ_=>rfl) ?_ ?_
 rotate_left
 .rintro⟨b,H,nx⟩ hrow;simp only at hrow;refine Ar Ac ?_;simp -implicitDefEqProofs;exact Am.mk (b,H,nx) hrow (sub_env (by simp -implicitDefEqProofs))
 refine Ae Ac ?_;simp -implicitDefEqProofs [ld,lE];refine AG ?_;refine BV (SCl 156 157 158 t2 LL.length LL [(7,.t (sv ⟨#[116,101,109,112,108,97,116,101,32]⟩))]) (λc=>LL.length-c.1) (ClI LL) (0,0,H0,1) (λ_=>rfl) ⟨Xe _,.inl rfl,λh=>absurd rfl h⟩ (sub_env (by simp -implicitDefEqProofs [SCl,rowP])) rfl ?_;rintro⟨j,b,H,nx⟩ hk;have hj:=hk.i;have hrow:=hk.r;have hb:=hk.b;simp only at hj hrow hb;by_cases hlt:j<LL.length
 rotate_left
 .have hlt':¬(j:Int)<(LL.length:Int):=by omega
  rw[Xi (by omega)]at hrow;have htk:LL.take j=LL:=Xi (by omega);refine Ae Ac ?_;simp -implicitDefEqProofs [SCl,hlt,hlt'];refine Ae Ac ?_;simp -implicitDefEqProofs;exact Am.mk (b,H,nx) hrow (sub_env (by simp -implicitDefEqProofs [htk]))
 have hlt':(j:Int)<(LL.length:Int):=by omega
 have hlt2:j<m.tmps.length:=by omega
 obtain⟨y,hy⟩:∃y,m.tmps[j]?=some y:=⟨_,Xk hlt2⟩
 have hL:LL[j]?=some (bs ((dnW Jt) y)):=by rw[hLL,Xo,hy];rfl
 have htk:=Jw hL;have hpy:=hp y (Xl hy)
 have hlen:(LL.take j).length<=100000:=by rw[Xp];omega
 have e1:Xh.wrap ((j:Int)+1)=((j+1:Nat):Int):=AP (by omega) (by omega);refine Ae Ac ?_;simp -implicitDefEqProofs [SCl,hlt,hlt'];refine Ae Ac ?_;simp -implicitDefEqProofs;obtain⟨cy,ry,ia,hcy,hcl⟩:=h2.iaddr hy;obtain⟨a2,a3,a4,a5,a6,hd,_⟩:=hcy.six;subst hd;obtain⟨hp2,hpy⟩:=hpy
 obtain⟨nm,hnm⟩:∃nm,nm=y.name.data.toList:=⟨_,rfl⟩
 have hyn:y.name=bs nm:=by rw[hnm]
 have gd:=Pz hcy hp2;rw[hyn]at ia gd;have ia:Bd 6 (.t t2) (.t (iv (j:Int)))=some (.t (.pt (sv (bs nm)::a2::a3::a4::a5::a6::ry))):=ia;have la:Aj true 6 H (.t (.pt (sv (bs nm)::a2::a3::a4::a5::a6::ry)))=some (.t (.ag [sv (bs nm),a2,a3,a4,a5,a6])):=rfl
 obtain⟨R0,hR0⟩:∃R0:Row,R0 = .cells 59 [.t (sv (bs nm)),.t a2,.t a3,.t a4,.t a5,.t a6]:=⟨_,rfl⟩
 have sn:AM 6 ((nx,.cells 59 [.t (sv ⟨#[]⟩),.t (iv 0),.t (sv ⟨#[]⟩),.t Ah,.t Ah,.t Ah])::H) (.ptr nx 0) (.t (.ag [sv (bs nm),a2,a3,a4,a5,a6]))=some ((nx,R0)::H):=by rw[hR0];exact Dv (ty:=59) (zs:=[.t (sv ⟨#[]⟩),.t (iv 0),.t (sv ⟨#[]⟩),.t Ah,.t Ah,.t Ah]) (ds:=[sv (bs nm),a2,a3,a4,a5,a6]) rfl rfl H
 have l1:Aj false 1 ((nx,R0)::H) (.ptr nx 0)=some (.t (sv (bs nm))):=by simp only[Aj,Az,hR0];rfl
 have l6:Aj true 6 ((nx,R0)::H) (.ptr nx 0)=some (.t (.ag [sv (bs nm),a2,a3,a4,a5,a6])):=by simp only[Aj,Az,hR0];rfl
 obtain⟨Z,hZ⟩:∃Z,Z=(dnW Jt) y:=⟨_,rfl⟩
 have hZ2:Z=[116,101,109,112,108,97,116,101,32]++(nm++Cs y):=by rw[hZ,hnm];rfl
 obtain⟨D,hD⟩:∃D,D=Cs y:=⟨_,rfl⟩
 rw[<-hD]at hZ2 gd;rw[<-hZ]at hL hpy htk
 have htot:9+nm.length+D.length<=1000000000:=by
  rw[hZ2]at hpy;simp only[Xa,Xb,Xc]at hpy;omega
 obtain⟨X1,hX1⟩:∃z,z=([116,101,109,112,108,97,116,101,32]:List UInt8)++nm:=⟨_,rfl⟩
 have lX1:X1.length=9+nm.length:=by rw[hX1];simp only[Xa,Xb,Xc]
 have b1:∀(Φ:A7) (H:Ab) (nx:Nat),Ai Φ H nx (.bin false .add none) [.t (sv ⟨#[116,101,109,112,108,97,116,101,32]⟩),.t (sv (bs nm))]=some (.t (sv (bs X1)),H,nx):=by
  rw[hX1];exact Ce (a:=[116,101,109,112,108,97,116,101,32]) (b:=nm) rfl rfl (by simp only[Xb,Xc];omega)
 obtain⟨X2,hX2⟩:∃z,z=X1++D:=⟨_,rfl⟩
 have lX2:X2.length=X1.length+D.length:=by rw[hX2];simp only[Xa,Xb,Xc]
 have b2:∀(Φ:A7) (H:Ab) (nx:Nat),Ai Φ H nx (.bin false .add none) [.t (sv (bs X1)),.t (sv (bs D))]=some (.t (sv (bs X2)),H,nx):=by
  rw[hX2];exact Ce (a:=X1) (b:=D) rfl rfl (by omega)
 have hZX:Z=X2:=by
  rw[hZ2,hX2,hX1];simp only[Xj]
 rw[hZX]at hL htk;obtain⟨H2,ap,row2,_,_,_⟩:=Nc (e:=Ak) (ty:=CU) (by':=16) (nx:=nx+1) (bs X2) 1 rfl [sv (bs X2)] rfl (Nz (r:=R0) hrow hb) (λh=>Xs (hb h)) (by omega) (by omega);rw[<-htk]at ap row2;refine Ar LU ?_;simp -implicitDefEqProofs [ia,la,sn,l1,l6,KI,gd,bsS,tsS,b1,b2,ap,e1];exact Am.mk (j+1,nx+1,H2,nx+2) ⟨⟨by show j+1<=LL.length;omega,row2,λ_=>by show nx+1<nx+2;omega⟩,by show LL.length-(j+1)<LL.length-j;omega⟩ (sub_env (by simp -implicitDefEqProofs [SCl]))
theorem B1w {m:ML} {c:List T} (hm:Cn m c) (hz:FF m):A1 Xd (G q) 37 [.ag c,iv 7] (· = Aq Ak ((BX m 7).map bs)):=by
 obtain⟨LL,hLL⟩:∃LL,LL=(BX m 7).map bs:=⟨_,rfl⟩
 rw[<-hLL];have hcl:BX m 7=m.ruls.map (dnW Ju):=rfl;rw[hcl,Xm]at hLL;obtain⟨t0,t1,t2,t3,t4,t5,t6,t7,t8,⟨rfl,h0,h1,h2,h3,h4,h5,h6,h7,h8⟩⟩:=hm;have hl:=hz.n5;have hp:=hz.p5
 have hLl:LL.length=m.ruls.length:=by rw[hLL,Xf]
 have lE:AO (.t t5)=some (.t (iv (LL.length:Int))):=by rw[hLl];exact h5.len
 rw[<-hLl]at hl;have hc:Bj (.t (.ag [sv m.name,t0,t1,t2,t3,t4,t5,t6,t7,t8]))=some [.t (sv m.name),.t t0,.t t1,.t t2,.t t3,.t t4,.t t5,.t t6,.t t7,.t t8]:=rfl
 obtain⟨H0,hH0⟩:∃H0:Ab,H0=[(0,.cells 51 [.t (sv m.name),.t t0,.t t1,.t t2,.t t3,.t t4,.t t5,.t t6,.t t7,.t t8])]:=⟨_,rfl⟩
 have ld:∀j,Aj false 1 H0 (.ptr 0 j)=([.t (sv m.name),.t t0,.t t1,.t t2,.t t3,.t t4,.t t5,.t t6,.t t7,.t t8]:List PV)[j]?:=λj=>by rw[hH0];rfl
 refine CG (args:=[.ag [sv m.name,t0,t1,t2,t3,t4,t5,t6,t7,t8],iv 7]) ?_;refine IK.callX rfl ?_;(conv in HL=>cbv);refine Ae Ac ?_;simp -implicitDefEqProofs [hc];refine Bg (s':=⟨[(2,.ptr 0 0),(1,.t (iv 7))],H0,1,174⟩) (by rw[hH0];exact sub_env (by simp -implicitDefEqProofs)) rfl ?_;clear hH0 hc;refine Ae Ac ?_;simp -implicitDefEqProofs;refine Ae Ac ?_;simp -implicitDefEqProofs [ld];refine Ae Ac ?_;simp -implicitDefEqProofs;refine Bg (s':=⟨[(7,.t (sv ⟨#[114,117,108,101,32]⟩)),(6,.t t5),(5,.t Ah),(2,.ptr 0 0),(1,.t (iv 7))],H0,1,174⟩) (sub_env (by simp -implicitDefEqProofs)) rfl ?_;refine AE (α:=Nat×Ab×Nat) (λc=>⟨[(5,rowP Ak c.1 LL)],c.2.1,c.2.2,174⟩) (λc=>Ay Ak CU c.2.1 c.1 LL) (λ_=>rfl) ?_ ?_
 rotate_left
 .rintro⟨b,H,nx⟩ hrow;simp only at hrow;refine Bg (s':=⟨[(5,.t (Aq Ak LL))],B1 H [b],nx,174⟩) (EI [b] (by simp -implicitDefEqProofs [FM hrow (Xn.2 rfl)])) rfl ?_;refine Ar Ac ?_;simp -implicitDefEqProofs;exact A0 ⟨.t (Aq Ak LL),B1 H [b],nx⟩ ⟨rfl⟩ (by simp -implicitDefEqProofs)
 refine Ae Ac ?_;simp -implicitDefEqProofs;refine AG ?_;refine Ae Ac ?_;simp -implicitDefEqProofs [ld];refine AE (α:=Nat×Ab×Nat) (λc=>⟨[(5,rowP Ak c.1 LL)],c.2.1,c.2.2,174⟩) (λc=>Ay Ak CU c.2.1 c.1 LL) (λ_=>rfl) ?_ ?_
 rotate_left
 .rintro⟨b,H,nx⟩ hrow;simp only at hrow;refine Ar Ac ?_;simp -implicitDefEqProofs;exact Am.mk (b,H,nx) hrow (sub_env (by simp -implicitDefEqProofs))
 refine Ae Ac ?_;simp -implicitDefEqProofs [ld,lE];refine AG ?_;refine BV (SCl 156 157 158 t5 LL.length LL [(7,.t (sv ⟨#[114,117,108,101,32]⟩))]) (λc=>LL.length-c.1) (ClI LL) (0,0,H0,1) (λ_=>rfl) ⟨Xe _,.inl rfl,λh=>absurd rfl h⟩ (sub_env (by simp -implicitDefEqProofs [SCl,rowP])) rfl ?_;rintro⟨j,b,H,nx⟩ hk;have hj:=hk.i;have hrow:=hk.r;have hb:=hk.b;simp only at hj hrow hb;by_cases hlt:j<LL.length
 rotate_left
 .have hlt':¬(j:Int)<(LL.length:Int):=by omega
  rw[Xi (by omega)]at hrow;have htk:LL.take j=LL:=Xi (by omega);refine Ae Ac ?_;simp -implicitDefEqProofs [SCl,hlt,hlt'];refine Ae Ac ?_;simp -implicitDefEqProofs;exact Am.mk (b,H,nx) hrow (sub_env (by simp -implicitDefEqProofs [htk]))
 have hlt':(j:Int)<(LL.length:Int):=by omega
 have hlt2:j<m.ruls.length:=by omega
 obtain⟨y,hy⟩:∃y,m.ruls[j]?=some y:=⟨_,Xk hlt2⟩
 have hL:LL[j]?=some (bs ((dnW Ju) y)):=by rw[hLL,Xo,hy];rfl
 have htk:=Jw hL;have hpy:=hp y (Xl hy)
 have hlen:(LL.take j).length<=100000:=by rw[Xp];omega
 have e1:Xh.wrap ((j:Int)+1)=((j+1:Nat):Int):=AP (by omega) (by omega);refine Ae Ac ?_;simp -implicitDefEqProofs [SCl,hlt,hlt'];refine Ae Ac ?_;simp -implicitDefEqProofs;obtain⟨cy,ry,ia,hcy,hcl⟩:=h5.iaddr hy;obtain⟨a2,a3,a4,a5,a6,hd,_⟩:=hcy.six;subst hd;obtain⟨hp2,hpy⟩:=hpy
 obtain⟨nm,hnm⟩:∃nm,nm=y.name.data.toList:=⟨_,rfl⟩
 have hyn:y.name=bs nm:=by rw[hnm]
 have gd:=Pz hcy hp2;rw[hyn]at ia gd;have ia:Bd 6 (.t t5) (.t (iv (j:Int)))=some (.t (.pt (sv (bs nm)::a2::a3::a4::a5::a6::ry))):=ia;have la:Aj true 6 H (.t (.pt (sv (bs nm)::a2::a3::a4::a5::a6::ry)))=some (.t (.ag [sv (bs nm),a2,a3,a4,a5,a6])):=rfl
 obtain⟨R0,hR0⟩:∃R0:Row,R0 = .cells 59 [.t (sv (bs nm)),.t a2,.t a3,.t a4,.t a5,.t a6]:=⟨_,rfl⟩
 have sn:AM 6 ((nx,.cells 59 [.t (sv ⟨#[]⟩),.t (iv 0),.t (sv ⟨#[]⟩),.t Ah,.t Ah,.t Ah])::H) (.ptr nx 0) (.t (.ag [sv (bs nm),a2,a3,a4,a5,a6]))=some ((nx,R0)::H):=by rw[hR0];exact Dv (ty:=59) (zs:=[.t (sv ⟨#[]⟩),.t (iv 0),.t (sv ⟨#[]⟩),.t Ah,.t Ah,.t Ah]) (ds:=[sv (bs nm),a2,a3,a4,a5,a6]) rfl rfl H
 have l1:Aj false 1 ((nx,R0)::H) (.ptr nx 0)=some (.t (sv (bs nm))):=by simp only[Aj,Az,hR0];rfl
 have l6:Aj true 6 ((nx,R0)::H) (.ptr nx 0)=some (.t (.ag [sv (bs nm),a2,a3,a4,a5,a6])):=by simp only[Aj,Az,hR0];rfl
 obtain⟨Z,hZ⟩:∃Z,Z=(dnW Ju) y:=⟨_,rfl⟩
 have hZ2:Z=[114,117,108,101,32]++(nm++Cs y):=by rw[hZ,hnm];rfl
 obtain⟨D,hD⟩:∃D,D=Cs y:=⟨_,rfl⟩
 rw[<-hD]at hZ2 gd;rw[<-hZ]at hL hpy htk
 have htot:5+nm.length+D.length<=1000000000:=by
  rw[hZ2]at hpy;simp only[Xa,Xb,Xc]at hpy;omega
 obtain⟨X1,hX1⟩:∃z,z=([114,117,108,101,32]:List UInt8)++nm:=⟨_,rfl⟩
 have lX1:X1.length=5+nm.length:=by rw[hX1];simp only[Xa,Xb,Xc]
 have b1:∀(Φ:A7) (H:Ab) (nx:Nat),Ai Φ H nx (.bin false .add none) [.t (sv ⟨#[114,117,108,101,32]⟩),.t (sv (bs nm))]=some (.t (sv (bs X1)),H,nx):=by
  rw[hX1];exact Ce (a:=[114,117,108,101,32]) (b:=nm) rfl rfl (by simp only[Xb,Xc];omega)
 obtain⟨X2,hX2⟩:∃z,z=X1++D:=⟨_,rfl⟩
 have lX2:X2.length=X1.length+D.length:=by rw[hX2];simp only[Xa,Xb,Xc]
 have b2:∀(Φ:A7) (H:Ab) (nx:Nat),Ai Φ H nx (.bin false .add none) [.t (sv (bs X1)),.t (sv (bs D))]=some (.t (sv (bs X2)),H,nx):=by
  rw[hX2];exact Ce (a:=X1) (b:=D) rfl rfl (by omega)
 have hZX:Z=X2:=by
  rw[hZ2,hX2,hX1];simp only[Xj]
 rw[hZX]at hL htk;obtain⟨H2,ap,row2,_,_,_⟩:=Nc (e:=Ak) (ty:=CU) (by':=16) (nx:=nx+1) (bs X2) 1 rfl [sv (bs X2)] rfl (Nz (r:=R0) hrow hb) (λh=>Xs (hb h)) (by omega) (by omega);rw[<-htk]at ap row2;refine Ar LU ?_;simp -implicitDefEqProofs [ia,la,sn,l1,l6,KI,gd,bsS,tsS,b1,b2,ap,e1];exact Am.mk (j+1,nx+1,H2,nx+2) ⟨⟨by show j+1<=LL.length;omega,row2,λ_=>by show nx+1<nx+2;omega⟩,by show LL.length-(j+1)<LL.length-j;omega⟩ (sub_env (by simp -implicitDefEqProofs [SCl]))
theorem B1x {m:ML} {c:List T} (hm:Cn m c) (hz:FF m):A1 Xd (G q) 37 [.ag c,iv 8] (· = Aq Ak ((BX m 8).map bs)):=by
 obtain⟨LL,hLL⟩:∃LL,LL=(BX m 8).map bs:=⟨_,rfl⟩
 rw[<-hLL];have hcl:BX m 8=m.roos.map (dnW Jv):=rfl;rw[hcl,Xm]at hLL;obtain⟨t0,t1,t2,t3,t4,t5,t6,t7,t8,⟨rfl,h0,h1,h2,h3,h4,h5,h6,h7,h8⟩⟩:=hm;have hl:=hz.n6;have hp:=hz.p6
 have hLl:LL.length=m.roos.length:=by rw[hLL,Xf]
 have lE:AO (.t t6)=some (.t (iv (LL.length:Int))):=by rw[hLl];exact h6.len
 rw[<-hLl]at hl;have hc:Bj (.t (.ag [sv m.name,t0,t1,t2,t3,t4,t5,t6,t7,t8]))=some [.t (sv m.name),.t t0,.t t1,.t t2,.t t3,.t t4,.t t5,.t t6,.t t7,.t t8]:=rfl
 obtain⟨H0,hH0⟩:∃H0:Ab,H0=[(0,.cells 51 [.t (sv m.name),.t t0,.t t1,.t t2,.t t3,.t t4,.t t5,.t t6,.t t7,.t t8])]:=⟨_,rfl⟩
 have ld:∀j,Aj false 1 H0 (.ptr 0 j)=([.t (sv m.name),.t t0,.t t1,.t t2,.t t3,.t t4,.t t5,.t t6,.t t7,.t t8]:List PV)[j]?:=λj=>by rw[hH0];rfl
 refine CG (args:=[.ag [sv m.name,t0,t1,t2,t3,t4,t5,t6,t7,t8],iv 8]) ?_;refine IK.callX rfl ?_;(conv in HL=>cbv);refine Ae Ac ?_;simp -implicitDefEqProofs [hc];refine Bg (s':=⟨[(2,.ptr 0 0),(1,.t (iv 8))],H0,1,174⟩) (by rw[hH0];exact sub_env (by simp -implicitDefEqProofs)) rfl ?_;clear hH0 hc;refine Ae Ac ?_;simp -implicitDefEqProofs;refine Ae Ac ?_;simp -implicitDefEqProofs [ld];refine Ae Ac ?_;simp -implicitDefEqProofs;refine Bg (s':=⟨[(7,.t (sv ⟨#[114,117,108,101,32]⟩)),(6,.t t5),(5,.t Ah),(2,.ptr 0 0),(1,.t (iv 8))],H0,1,174⟩) (sub_env (by simp -implicitDefEqProofs)) rfl ?_;refine AE (α:=Nat×Ab×Nat) (λc=>⟨[(5,rowP Ak c.1 LL)],c.2.1,c.2.2,174⟩) (λc=>Ay Ak CU c.2.1 c.1 LL) (λ_=>rfl) ?_ ?_
 rotate_left
 .rintro⟨b,H,nx⟩ hrow;simp only at hrow;refine Bg (s':=⟨[(5,.t (Aq Ak LL))],B1 H [b],nx,174⟩) (EI [b] (by simp -implicitDefEqProofs [FM hrow (Xn.2 rfl)])) rfl ?_;refine Ar Ac ?_;simp -implicitDefEqProofs;exact A0 ⟨.t (Aq Ak LL),B1 H [b],nx⟩ ⟨rfl⟩ (by simp -implicitDefEqProofs)
 refine Ae Ac ?_;simp -implicitDefEqProofs;refine AG ?_;refine Ae Ac ?_;simp -implicitDefEqProofs [ld];refine AE (α:=Nat×Ab×Nat) (λc=>⟨[(5,rowP Ak c.1 LL)],c.2.1,c.2.2,174⟩) (λc=>Ay Ak CU c.2.1 c.1 LL) (λ_=>rfl) ?_ ?_
 rotate_left
 .rintro⟨b,H,nx⟩ hrow;simp only at hrow;refine Ar Ac ?_;simp -implicitDefEqProofs;exact Am.mk (b,H,nx) hrow (sub_env (by simp -implicitDefEqProofs))
 refine Ae Ac ?_;simp -implicitDefEqProofs [ld,lE];refine AG ?_;refine BV (SCl 156 157 158 t6 LL.length LL [(7,.t (sv ⟨#[114,111,111,116,32]⟩))]) (λc=>LL.length-c.1) (ClI LL) (0,0,H0,1) (λ_=>rfl) ⟨Xe _,.inl rfl,λh=>absurd rfl h⟩ (sub_env (by simp -implicitDefEqProofs [SCl,rowP])) rfl ?_;rintro⟨j,b,H,nx⟩ hk;have hj:=hk.i;have hrow:=hk.r;have hb:=hk.b;simp only at hj hrow hb;by_cases hlt:j<LL.length
 rotate_left
 .have hlt':¬(j:Int)<(LL.length:Int):=by omega
  rw[Xi (by omega)]at hrow;have htk:LL.take j=LL:=Xi (by omega);refine Ae Ac ?_;simp -implicitDefEqProofs [SCl,hlt,hlt'];refine Ae Ac ?_;simp -implicitDefEqProofs;exact Am.mk (b,H,nx) hrow (sub_env (by simp -implicitDefEqProofs [htk]))
 have hlt':(j:Int)<(LL.length:Int):=by omega
 have hlt2:j<m.roos.length:=by omega
 obtain⟨y,hy⟩:∃y,m.roos[j]?=some y:=⟨_,Xk hlt2⟩
 have hL:LL[j]?=some (bs ((dnW Jv) y)):=by rw[hLL,Xo,hy];rfl
 have htk:=Jw hL;have hpy:=hp y (Xl hy)
 have hlen:(LL.take j).length<=100000:=by rw[Xp];omega
 have e1:Xh.wrap ((j:Int)+1)=((j+1:Nat):Int):=AP (by omega) (by omega);refine Ae Ac ?_;simp -implicitDefEqProofs [SCl,hlt,hlt'];refine Ae Ac ?_;simp -implicitDefEqProofs;obtain⟨cy,ry,ia,hcy,hcl⟩:=h6.iaddr hy;obtain⟨a2,a3,a4,a5,a6,hd,_⟩:=hcy.six;subst hd;obtain⟨hp2,hpy⟩:=hpy
 obtain⟨nm,hnm⟩:∃nm,nm=y.name.data.toList:=⟨_,rfl⟩
 have hyn:y.name=bs nm:=by rw[hnm]
 have gd:=Pz hcy hp2;rw[hyn]at ia gd;have ia:Bd 6 (.t t6) (.t (iv (j:Int)))=some (.t (.pt (sv (bs nm)::a2::a3::a4::a5::a6::ry))):=ia;have la:Aj true 6 H (.t (.pt (sv (bs nm)::a2::a3::a4::a5::a6::ry)))=some (.t (.ag [sv (bs nm),a2,a3,a4,a5,a6])):=rfl
 obtain⟨R0,hR0⟩:∃R0:Row,R0 = .cells 59 [.t (sv (bs nm)),.t a2,.t a3,.t a4,.t a5,.t a6]:=⟨_,rfl⟩
 have sn:AM 6 ((nx,.cells 59 [.t (sv ⟨#[]⟩),.t (iv 0),.t (sv ⟨#[]⟩),.t Ah,.t Ah,.t Ah])::H) (.ptr nx 0) (.t (.ag [sv (bs nm),a2,a3,a4,a5,a6]))=some ((nx,R0)::H):=by rw[hR0];exact Dv (ty:=59) (zs:=[.t (sv ⟨#[]⟩),.t (iv 0),.t (sv ⟨#[]⟩),.t Ah,.t Ah,.t Ah]) (ds:=[sv (bs nm),a2,a3,a4,a5,a6]) rfl rfl H
 have l1:Aj false 1 ((nx,R0)::H) (.ptr nx 0)=some (.t (sv (bs nm))):=by simp only[Aj,Az,hR0];rfl
 have l6:Aj true 6 ((nx,R0)::H) (.ptr nx 0)=some (.t (.ag [sv (bs nm),a2,a3,a4,a5,a6])):=by simp only[Aj,Az,hR0];rfl
 obtain⟨Z,hZ⟩:∃Z,Z=(dnW Jv) y:=⟨_,rfl⟩
 have hZ2:Z=[114,111,111,116,32]++(nm++Cs y):=by rw[hZ,hnm];rfl
 obtain⟨D,hD⟩:∃D,D=Cs y:=⟨_,rfl⟩
 rw[<-hD]at hZ2 gd;rw[<-hZ]at hL hpy htk
 have htot:5+nm.length+D.length<=1000000000:=by
  rw[hZ2]at hpy;simp only[Xa,Xb,Xc]at hpy;omega
 obtain⟨X1,hX1⟩:∃z,z=([114,111,111,116,32]:List UInt8)++nm:=⟨_,rfl⟩
 have lX1:X1.length=5+nm.length:=by rw[hX1];simp only[Xa,Xb,Xc]
 have b1:∀(Φ:A7) (H:Ab) (nx:Nat),Ai Φ H nx (.bin false .add none) [.t (sv ⟨#[114,111,111,116,32]⟩),.t (sv (bs nm))]=some (.t (sv (bs X1)),H,nx):=by
  rw[hX1];exact Ce (a:=[114,111,111,116,32]) (b:=nm) rfl rfl (by simp only[Xb,Xc];omega)
 obtain⟨X2,hX2⟩:∃z,z=X1++D:=⟨_,rfl⟩
 have lX2:X2.length=X1.length+D.length:=by rw[hX2];simp only[Xa,Xb,Xc]
 have b2:∀(Φ:A7) (H:Ab) (nx:Nat),Ai Φ H nx (.bin false .add none) [.t (sv (bs X1)),.t (sv (bs D))]=some (.t (sv (bs X2)),H,nx):=by
  rw[hX2];exact Ce (a:=X1) (b:=D) rfl rfl (by omega)
 have hZX:Z=X2:=by
  rw[hZ2,hX2,hX1];simp only[Xj]
 rw[hZX]at hL htk;obtain⟨H2,ap,row2,_,_,_⟩:=Nc (e:=Ak) (ty:=CU) (by':=16) (nx:=nx+1) (bs X2) 1 rfl [sv (bs X2)] rfl (Nz (r:=R0) hrow hb) (λh=>Xs (hb h)) (by omega) (by omega);rw[<-htk]at ap row2;refine Ar LU ?_;simp -implicitDefEqProofs [ia,la,sn,l1,l6,KI,gd,bsS,tsS,b1,b2,ap,e1];exact Am.mk (j+1,nx+1,H2,nx+2) ⟨⟨by show j+1<=LL.length;omega,row2,λ_=>by show nx+1<nx+2;omega⟩,by show LL.length-(j+1)<LL.length-j;omega⟩ (sub_env (by simp -implicitDefEqProofs [SCl]))
open Go Go.Abs Go.Shelf Go.RowKit
section
variable {P : Program} {ρ : Ren}
theorem B1y (L:Lays.n169 P ρ) (X:Builder.Extra P ρ) (b:Nat) (arr:Array Value) (w:World) (hb:w.heap[b]?=some (.cells arr (ρ.t 72) (0,0))) (ha1:arr[1]?=some (.slice none 0 0)) :
  Calls P (ρ.f 169) #[.pointer (some ⟨b,0,none⟩)] w λe w'=>e = .returned (.string ⟨#[]⟩)/\Below w.heap.size w w':=by
 have hUS:=Any.unsafeString_none L X
 have c1:w.drew.cell? ⟨b,1,none⟩=some (.slice none 0 0):=by
  have:w.drew.heap[b]?=some (.cells arr (ρ.t 72) (0,0)):=hb;rw[Lib.cell_of_heap this];exact ha1
 have hSD:(Builtin.unsafeSliceData_ #[(ρ.t 37)] (ρ.t 127) #[.slice none 0 0]).run P w.drew = .ok (.pointer none) w.drew:=rfl;have mixed:=L.mixed;have t72:=L.t72;have a72:=L.a72;have z72:=L.z72;have v72:=L.v72;have u72:=run_underlying L.t72;have t70:=L.t70;have a70:=L.a70;have z70:=L.z70;have v70:=L.v70;have u70:=run_underlying L.t70;have t37:=L.t37;have a37:=L.a37;have z37:=L.z37;have v37:=L.v37;have u37:=run_underlying L.t37;have t127:=L.t127;have a127:=L.a127;have z127:=L.z127;have v127:=L.v127;have u127:=run_underlying L.t127;have t3:=L.t3;have a3:=L.a3;have z3:=L.z3;have v3:=L.v3;have u3:=run_underlying L.t3;have t9:=L.t9;have a9:=L.a9;have z9:=L.z9;have v9:=L.v9;have u9:=run_underlying L.t9;have t5:=X.t5;have a5:=X.a5;have z5:=X.z5;have v5:=X.v5;have u5:=run_underlying X.t5
 go_enter L.f169,Body.n169_ntmps ρ
 go_wp2
 go_region_o
 all_goals (go_wp2;go_ret;exact⟨rfl,Below.drew (Below.refl w.heap.size w)⟩)
end
theorem B1z {H:Ab} {nx b g:Nat} {p:PV} (h:Aa H b=some (BB p g [])) :
  AH Xd (G q) 39 [.ptr b 0] H nx (.t (sv ⟨#[]⟩)) H nx:=by
 refine⟨⟨_,(Tryz.f39.body).get!,Tryz.func39,by kernel_rfl,by kernel_rfl⟩,λL w us hok hnx hargs=>?_⟩
 have hus:us = #[.pointer (some ⟨L.μ b,0,none⟩)]:=by
  simp only[A5,Af,Ao]at hargs;obtain⟨x,xs,e,⟨_,rfl⟩,rfl⟩:=hargs;exact Array.ext' e
 subst hus;obtain⟨arr,hb,hsz,hc⟩:=hok.rep b _ h;obtain⟨x0,ha0,_,_⟩:=hc 0 p rfl;obtain⟨v,ha1,_,hv⟩:=hc 1 (rowP eB g []) rfl
 have hv:v = .slice none 0 0:=by simpa only[rowP,Af,Ao]using hv
 subst hv;refine(B1y (ρ:=Tryz.lays169_ren) Tryz.lays169 Tryz.Builder_Extra_169 (L.μ b) arr w hb ha1).mono ?_;rintro e w' ⟨rfl,hB⟩
 have hs:BS w w':=λk hk arr ty fz he=>⟨arr,fz,by rw[<-hB.block k hk];exact he,rfl⟩
 have hm:Bh L w L w':=⟨λk hI=>⟨hI,hB.block k (hok.lt k hI)⟩,X0 _,λ_ _=>rfl,hB.size,hs⟩
 refine⟨_,L,rfl,by simp only[Af,Ao],⟨λk hI=>Nat.lt_of_lt_of_le (hok.lt k hI) hB.size,λk r hr=>(hok.rep k r hr).keep hm (hB.block _ (hok.rep k r hr).lt),hok.apart,hok.inj,hok.nx,FH hok hm.keeps⟩,hnx,hm,⟨hB.size,λk hk2 _=>hB.block k hk2,λ_ h=>h,λ_ h=>.inl h,λk hkm=>.inr hkm,hs,⟨hB.os,hB.tape,hB.output⟩⟩⟩
def ET (s:List UInt8):List UInt8:=s++[59,10]
def LV (m:ML):List UInt8:=[109,111,100,117,108,101,32]++(m.name.data.toList++[59,10])
def N1 (m:ML) (k:Nat):List UInt8:=(BX m k).flatMap ET
def Jx (m:ML):List UInt8:=LV m++kinds.flatMap (N1 m)
def Ev (L:List ML):List UInt8:=L.flatMap Jx
def LW (L:List ML):T:=if 256<L.length then .tu [sv ⟨#[]⟩,iv 7]else if AV FS L≠0 then .tu [sv ⟨#[]⟩,iv (AV FS L)]else if 65536<(Ev L).length then .tu [sv ⟨#[]⟩,iv 7]else .tu [sv (bs (Ev L)),iv 0]
abbrev GK:Nat:=51
structure Bl (H:Ab) (nx:Nat) (W:List UInt8):Prop where
 e:∃p g,Aa H 0=some (BB p g W)/\(p=DH\/p = .ptr 0 0)/\Ay eB tyU H g W
 n:0<nx
 f:∀k x,Aa H k=some x->k<nx
theorem Bl.cons {H:Ab} {nx:Nat} {W:List UInt8} (I:Bl H nx W) (R:Row):Bl ((nx,R)::H) (nx+1) W:=by
 obtain⟨p,g,h1,h2,h3⟩:=I.e;have hn:=I.n;refine⟨⟨p,g,by rw[Az,zz (by omega)];exact h1,h2,h3.imp id λh=>by rw[Az,zz (by have:=I.f g _ h;omega)];exact h⟩,by omega,Qd I.f⟩
theorem Bl.write {H:Ab} {nx:Nat} {W s:List UInt8} (I:Bl H nx W) (hs:s≠[]) (hl:W.length+s.length<=100000000000000):∃o H',o [.ptr 0 0,.t (sv (bs s))] H nx=some (.t (.tu [iv (s.length:Int),.v .nilIface]),H',nx+1)/\HOK Xd (G q) 36 o/\Bl H' (nx+1) (W++s)/\∀k cs,k≠0->Aa H k=some (.cells GK cs)->Aa H' k=some (.cells GK cs):=by
 obtain⟨p,g,h1,h2,h3⟩:=I.e;have hn:=I.n;have c:=UY (q:=q) (nx:=nx) (s:=s) h1 h2 h3 hs (by omega)
 have hg:W=[]\/(0:Nat)≠g:=by
  rcases h3 with h | h
  .exact .inl h
  .right;rintro rfl;rw[h1]at h;injection h with h;injection h with h _;exact absurd h (by decide)
 refine⟨_,wsH H 0 g nx W (W++s),DL _ _ _ _,E0 c (KH hn),⟨⟨_,_,Nv h1 (by omega) hg,.inr rfl,Nw⟩,by omega,KH hn I.f⟩,λk cs hk h=>?_⟩;rw[KG hk ?_ ?_]
 .exact h
 .rcases h3 with h' | h'
  .exact .inl h'
  .right;rintro rfl;rw[h]at h';injection h' with h';injection h' with h' _;exact absurd h' (by decide)
 .have:=I.f k _ h;omega
theorem Bl.len {H:Ab} {nx:Nat} {W:List UInt8} (I:Bl H nx W):∃o,o [.ptr 0 0] H nx=some (.t (iv (W.length:Int)),H,nx)/\HOK Xd (G q) 38 o:=by
 obtain⟨p,g,h1,h2,h3⟩:=I.e;exact⟨_,DL _ _ _ _,E0 (kU (q:=q) (nx:=nx) h1 h3) λh=>h⟩
theorem Bl.str {H:Ab} {nx:Nat} {W:List UInt8} (I:Bl H nx W) (hl:W.length<=100000000000000):∃o H',o [.ptr 0 0] H nx=some (.t (sv (bs W)),H',nx)/\HOK Xd (G q) 39 o:=by
 obtain⟨p,g,h1,h2,h3⟩:=I.e
 by_cases hW:W=[]
 .subst hW;exact⟨_,_,DL _ _ _ _,E0 (B1z (q:=q) (nx:=nx) h1) λh=>h⟩
 .exact⟨_,_,DL _ _ _ _,E0 (kT (q:=q) (nx:=nx) h1 h3 hW (by omega)) λh k x hk=>by
   rw[CJ]at hk;split at hk
   .cases hk
   .exact h k x hk⟩
abbrev PrC:=Nat×List UInt8×Ab×Nat
def SP1 (t:T) (n:Nat) (c:PrC):Ad:=⟨[(21,.t (iv (c.1:Int))),(20,.t (iv (n:Int))),(19,.t t),(5,.ptr 0 0)],c.2.2.1,c.2.2.2,52⟩
def SP2 (t:T) (n j mr:Nat) (c:PrC):Ad:=⟨[(8,.t (iv (c.1:Int))),(7,.ptr mr 0),(21,.t (iv (j:Int))),(20,.t (iv (n:Int))),(19,.t t),(5,.ptr 0 0)],c.2.2.1,c.2.2.2,52⟩
def SP3 (t:T) (n j mr k:Nat) (u:T) (len:Nat) (c:PrC):Ad:=⟨[(38,.t (iv (c.1:Int))),(37,.t (iv (len:Int))),(36,.t u),(8,.t (iv (k:Int))),(7,.ptr mr 0),(21,.t (iv (j:Int))),(20,.t (iv (n:Int))),(19,.t t),(5,.ptr 0 0)],c.2.2.1,c.2.2.2,52⟩
structure PI1 (R:List UInt8) (L:List ML) (c:PrC):Prop where
 i:c.1<=L.length
 b:Bl c.2.2.1 c.2.2.2 c.2.1
 e:R=c.2.1++(L.drop c.1).flatMap Jx
structure PI2 (R:List UInt8) (m:ML) (cs:List PV) (mr:Nat) (Y:List UInt8) (c:PrC):Prop where
 a:2<=c.1
 z:c.1<=11
 b:Bl c.2.2.1 c.2.2.2 c.2.1
 r:Aa c.2.2.1 mr=some (.cells GK cs)
 e:R=c.2.1++((kinds.drop (c.1-2)).flatMap (N1 m)++Y)
structure PI3 (R:List UInt8) (cl:List (List UInt8)) (cs:List PV) (mr:Nat) (Y:List UInt8) (c:PrC):Prop where
 i:c.1<=cl.length
 b:Bl c.2.2.1 c.2.2.2 c.2.1
 r:Aa c.2.2.1 mr=some (.cells GK cs)
 e:R=c.2.1++((cl.drop c.1).flatMap ET++Y)
theorem Vh {α:Type} {L:List α} {j:Nat} {x:α} (h:L[j]?=some x):L.drop j=x::L.drop (j+1):=by
 obtain⟨hlt,he⟩:=Xw.1 h;rw[Yd hlt,he]
theorem PI2.full {R:List UInt8} {m:ML} {cs:List PV} {mr:Nat} {Y W:List UInt8} {H:Ab} {nx:Nat} (h:PI2 R m cs mr Y (11,W,H,nx)):R=W++Y:=h.e
theorem B2a {k:Nat} (h1:2<=k) (h2:k<=10):kinds[k-2]?=some k:=by
 have:k=2\/k=3\/k=4\/k=5\/k=6\/k=7\/k=8\/k=9\/k=10:=by omega
 rcases this with rfl | rfl | rfl | rfl | rfl | rfl | rfl | rfl | rfl<;>rfl
theorem B2b {m:ML} {c:List T} (hm:Cn m c) (hz:FF m) {k:Nat} (h1:2<=k) (h2:k<=10):A1 Xd (G q) 37 [.ag c,iv (k:Int)] (· = Aq Ak ((BX m k).map bs)):=by
 have:k=2\/k=3\/k=4\/k=5\/k=6\/k=7\/k=8\/k=9\/k=10:=by omega
 rcases this with rfl | rfl | rfl | rfl | rfl | rfl | rfl | rfl | rfl
 .exact B1p hm hz
 .exact B1s hm hz
 .exact B1v hm hz
 .exact B1t hm hz
 .exact B1u hm hz
 .exact B1w hm hz
 .exact B1x hm hz
 .exact B1r hm hz
 .exact B1q hm hz
theorem B2c {m:ML} (hz:FF m) (k:Nat):(BX m k).length<=100000:=by
 obtain⟨_,n0,n1,n2,n3,n4,n5,n6,n7,n8,_,_,_,_,_,_,_,_,_⟩:=hz;unfold BX
 repeat' split
 all_goals rw[Xf];assumption
theorem B2d {m:ML} (hz:FF m) (k:Nat):∀y∈BX m k,y.length<=1000000000:=by
 obtain⟨_,_,_,_,_,_,_,_,_,_,p0,p1,p2,p3,p4,p5,p6,p7,p8⟩:=hz;intro y hy;unfold BX at hy
 repeat' split at hy
 all_goals obtain⟨x,hx,rfl⟩:=Xu.1 hy
 .exact p0 x hx
 .exact(p1 x hx).2.2
 .exact(p2 x hx).2
 .exact(p3 x hx).2.2
 .exact(p4 x hx).2.2
 .exact(p5 x hx).2
 .exact(p6 x hx).2
 .exact(p7 x hx).2
 .exact p8 x hx
theorem l9 {s:ByteArray} (h:Eb s=0):AD false s=true:=by
 unfold Eb at h;split at h
 .assumption
 .cases h
theorem lC {s:ByteArray} (h:E8 s=0):AD true s=true:=by
 unfold E8 at h;split at h
 .assumption
 .cases h
theorem B2e {s:ByteArray} (h:Ij s=0):Cx s=true:=by
 unfold Ij at h;split at h
 .assumption
 .cases h
theorem B2f {p:ByteArray×ByteArray} (h:FD p=0):AD true p.1=true/\AD false p.2=true:=by
 unfold FD at h;split at h
 .rename_i hc;simpa using hc
 .cases h
theorem B2g {p:ByteArray×ByteArray} (h:ES p=0):F0 p.1=true/\F0 p.2=true:=by
 unfold ES at h;split at h
 .rename_i hc;simpa using hc
 .cases h
structure P0 (x:TyD):Prop where
 n:AD false x.name=true
 ls:x.supers.length<=256
 lf:x.feats.length<=256
 s:∀s∈x.supers,AD false s=true
 f:∀p∈x.feats,AD true p.1=true/\AD false p.2=true
theorem B2h {x:TyD} (h:G9 x=0):P0 x:=by
 unfold G9 at h;split at h
 .cases h
 .rename_i h1;split at h
  .cases h
  .rename_i h2;split at h
   .cases h
   .rename_i h3;exact⟨by simpa using h1,by omega,by omega,λs hs=>l9 (LQ (Decidable.of_not_not h3) s hs),λp hp=>B2f (LQ h p hp)⟩
structure EU (d:Dfn):Prop where
 n:AD false d.name=true
 l:d.defaults.length<=256
 s:Bb d.strict 1=0
 d:∀k∈d.defaults,Bb k 1=0
theorem P1 {d:Dfn} (h:DF d=0):EU d:=by
 unfold DF at h;split at h
 .cases h
 .rename_i h1;split at h
  .cases h
  .rename_i h2;split at h
   .rename_i h3;exact absurd h h3
   .rename_i h3;exact⟨by simpa using h1,by omega,Decidable.of_not_not h3,λk hk=>LQ h k hk⟩
theorem B2i {p:List ByteArray×Dfn} (h:GC p=0):p.1≠[]/\(∀s∈p.1,Cx s=true)/\EU p.2:=by
 unfold GC at h;split at h
 .cases h
 .rename_i h1;split at h
  .cases h
  .rename_i h2;exact⟨h1,λs hs=>B2e (LQ (Decidable.of_not_not h2) s hs),P1 h⟩
structure Vi (p:Afx×Dfn):Prop where
 k:(p.1.kind=0/\p.1.pairs=[])\/((p.1.kind=1\/p.1.kind=2)/\p.1.pairs≠[])
 q:∀x∈p.1.pairs,F0 x.1=true/\F0 x.2=true
 d:EU p.2
theorem B2j {p:Afx×Dfn} (h:FR p=0):Vi p:=by
 unfold FR at h;split at h
 .cases h
 .rename_i h1;split at h
  .cases h
  .rename_i h2;split at h
   .cases h
   .rename_i h3;split at h
    .cases h
    .rename_i h4;refine⟨?_,λx hx=>B2g (LQ (Decidable.of_not_not h4) x hx),P1 h⟩;have h3:=Decidable.of_not_not h3
     by_cases hp:p.1.pairs=[]
     .left;refine⟨?_,hp⟩;rcases h3 with h3 | h3
      .exact h3
      .exact absurd ⟨h3,hp⟩ h2
     .right;refine⟨?_,hp⟩;rcases h3 with h3 | h3
      .exact absurd ⟨h3,hp⟩ h1
      .exact h3
theorem B2k {p:List ByteArray} (h:G8 p=0):p≠[]/\p.length<=64/\∀s∈p,AD true s=true:=by
 unfold G8 at h;split at h
 .cases h
 .rename_i h1;split at h
  .cases h
  .exact⟨h1,by omega,λs hs=>lC (LQ h s hs)⟩
theorem EU.sz {d:Dfn} (h:EU d):SzD d:=⟨by have:=KB h.n;unfold SzS;omega,(Nr _ 1 h.s).sized,by have:=h.l;omega,λk hk=>(Nr _ 1 (h.d k hk)).sized⟩
theorem lF {s:ByteArray} (h:Cx s=true):s.size<=32:=by
 unfold Cx at h;simp only[Bool.and_eq_true,decide_eq_true_eq]at h;exact h.1.2
theorem Ho {α:Type} (g:El->Option α) (j:Nat) (hg:∀x,(g x).isSome=decide (x.j=j)):∀els:List El,(els.filterMap g).length=Cz j els
 | []=>rfl
 | x::r=>by
  have ih:=Ho g j hg r;have h:=hg x;unfold Cz at ih ⊢;rw[List.filterMap_cons,List.filter_cons,<-h]
  cases g x with
  | none=>simpa using ih
  | some y=>simp[ih]
section
variable {m : Md} {B : Nat} (G : CY B m)
theorem Ip {α:Type} {g:El->Option α} {y:α} {f:α->El} (hg:∀x y,g x=some y->x=f y) (h:y∈m.els.filterMap g):f y∈m.els:=by
 obtain⟨x,hx,he⟩:=List.mem_filterMap.1 h;rw[<-hg x y he];exact hx
include G
theorem CY.i (s:ByteArray) (h:s∈m.ml.imps):AD false s=true:=
 l9 (G.e _ (Ip (f:=El.imp) (λx y e=>by cases x<;>first | (injection e with e;subst e;rfl) | cases e) h)).e
theorem CY.t (x:TyD) (h:x∈m.ml.typs):P0 x:=
 B2h (G.e _ (Ip (f:=El.typ) (λx y e=>by cases x<;>first | (injection e with e;subst e;rfl) | cases e) h)).e
theorem CY.tm (x:Dfn) (h:x∈m.ml.tmps):EU x/\dfZ B x:=by
 have:=G.e _ (Ip (f:=El.tmp) (λx y e=>by cases x<;>first | (injection e with e;subst e;rfl) | cases e) h);exact⟨P1 this.e,this.z⟩
theorem CY.en (x:List ByteArray×Dfn) (h:x∈m.ml.ents):(x.1≠[]/\(∀s∈x.1,Cx s=true)/\EU x.2)/\x.1.length<=B+1/\dfZ B x.2:=by
 have:=G.e _ (Ip (f:=λx:List ByteArray×Dfn=>El.ent x.1 x.2) (λx y e=>by cases x<;>first | (injection e with e;subst e;rfl) | cases e) h);exact⟨B2i this.e,this.z⟩
theorem CY.lx (x:Afx×Dfn) (h:x∈m.ml.lexs):Vi x/\(x.1.pairs.length<=B/\∀p∈x.1.pairs,p.1.size<=B/\p.2.size<=B)/\dfZ B x.2:=by
 have:=G.e _ (Ip (f:=λx:Afx×Dfn=>El.lex x.1 x.2) (λx y e=>by cases x<;>first | (injection e with e;subst e;rfl) | cases e) h);exact⟨B2j this.e,this.z⟩
theorem CY.ru (x:Dfn) (h:x∈m.ml.ruls):EU x/\dfZ B x:=by
 have:=G.e _ (Ip (f:=El.rul) (λx y e=>by cases x<;>first | (injection e with e;subst e;rfl) | cases e) h);exact⟨P1 this.e,this.z⟩
theorem CY.ro (x:Dfn) (h:x∈m.ml.roos):EU x/\dfZ B x:=by
 have:=G.e _ (Ip (f:=El.roo) (λx y e=>by cases x<;>first | (injection e with e;subst e;rfl) | cases e) h);exact⟨P1 this.e,this.z⟩
theorem CY.ck (x:List ByteArray) (h:x∈m.ml.chks):x≠[]/\x.length<=64/\∀s∈x,AD true s=true:=
 B2k (G.e _ (Ip (f:=El.chk) (λx y e=>by cases x<;>first | (injection e with e;subst e;rfl) | cases e) h)).e
theorem CY.dr (s:ByteArray) (h:s∈m.ml.drps):AD true s=true:=
 lC (G.e _ (Ip (f:=El.drp) (λx y e=>by cases x<;>first | (injection e with e;subst e;rfl) | cases e) h)).e
theorem CY.lens:m.ml.imps.length<=256/\m.ml.typs.length<=256/\m.ml.tmps.length<=256/\m.ml.ents.length<=256/\m.ml.lexs.length<=256/\m.ml.ruls.length<=256/\m.ml.roos.length<=256/\m.ml.chks.length<=256/\m.ml.drps.length<=256:=by
 refine⟨?_,?_,?_,?_,?_,?_,?_,?_,?_⟩
 .exact Xg (Xq (Ho El.i? 0 (λx=>by cases x<;>rfl) m.els)) (G.c 0)
 .exact Xg (Xq (Ho El.t? 1 (λx=>by cases x<;>rfl) m.els)) (G.c 1)
 .exact Xg (Xq (Ho El.m? 2 (λx=>by cases x<;>rfl) m.els)) (G.c 2)
 .exact Xg (Xq (Ho El.e? 3 (λx=>by cases x<;>rfl) m.els)) (G.c 3)
 .exact Xg (Xq (Ho El.l? 4 (λx=>by cases x<;>rfl) m.els)) (G.c 4)
 .exact Xg (Xq (Ho El.r? 5 (λx=>by cases x<;>rfl) m.els)) (G.c 5)
 .exact Xg (Xq (Ho El.o? 6 (λx=>by cases x<;>rfl) m.els)) (G.c 6)
 .exact Xg (Xq (Ho El.c? 7 (λx=>by cases x<;>rfl) m.els)) (G.c 7)
 .exact Xg (Xq (Ho El.d? 8 (λx=>by cases x<;>rfl) m.els)) (G.c 8)
theorem CY.sz (hB:B<=65536):Np m.ml:=by
 obtain⟨n0,n1,n2,n3,n4,n5,n6,n7,n8⟩:=G.lens
 have nm:∀{big:Bool} {s:ByteArray},AD big s=true->SzS s:=λh=>by have:=KB h;unfold SzS;omega
 refine⟨nm G.n,by omega,by omega,by omega,by omega,by omega,by omega,by omega,by omega,by omega,λs hs=>nm (G.i s hs),λd hd=>?_,λd hd=>(G.tm d hd).1.sz,λd hd=>?_,λd hd=>?_,λd hd=>(G.ru d hd).1.sz,λd hd=>(G.ro d hd).1.sz,λd hd=>?_,λs hs=>nm (G.dr s hs)⟩
 .have:=G.t d hd;have h1:=this.ls;have h2:=this.lf;exact⟨nm this.n,⟨by omega,λs hs=>nm (this.s s hs)⟩,⟨by omega,λp hp=>⟨nm (this.f p hp).1,nm (this.f p hp).2⟩⟩⟩
 .have:=G.en d hd;exact⟨by omega,λs hs=>by have:=lF (this.1.2.1 s hs);omega,this.1.2.2.sz⟩
 .have:=G.lx d hd;exact⟨by omega,λp hp=>by have:=this.2.1.2 p hp;unfold SzS;omega,this.1.d.sz⟩
 .have:=G.ck d hd;exact⟨by omega,λs hs=>nm (this.2.2 s hs)⟩
end
theorem B2l (ds:List T) (h:ds.length=10) (nx:Nat) (H:Ab):AM 10 ((nx,.cells 51 [.t (sv ⟨#[]⟩),.t Ah,.t Ah,.t Ah,.t Ah,.t Ah,.t Ah,.t Ah,.t Ah,.t Ah])::H) (.ptr nx 0) (.t (.ag ds))=some ((nx,.cells 51 (ds.map .t))::H):=Dv (ty:=51) rfl h H
theorem B2m {t:T} {L:List ML} (ht:DD t L) (hl:L.length<=100000) (hz:∀m∈L,Np m) (hp:∀m∈L,FF m) (hn:(Ev L).length<=100000000000000):A1 Xd (G q) 17 [t] (· = LW L):=by
 obtain⟨Z,hZ⟩:∃Z,Z=LW L:=⟨_,rfl⟩
 rw[<-hZ];unfold LW at hZ;have l1:=ht.len;obtain⟨oe,ee,ke⟩:=Ik (show A1 Xd (G q) 34 [t,fnT 35] (· = iv (AV FS L))from ht.use (C:=λv=>A1 Xd (G q) 34 [t,fnT 35] (· = iv v)) λL' hs hl' hp'=>A3z A9g hs (by omega) λp hpm=>A9f (hp' p hpm).1 (hz _ (hp' p hpm).2));have ee:=ee [] 0;refine CG (args:=[t]) ?_;refine sV.callX rfl ?_;(conv in YU=>cbv);refine Ae Ac ?_;simp -implicitDefEqProofs;by_cases h256:256<L.length
 .rw[zy h256]at hZ
  have d1:(256:Int)<(L.length:Int):=by omega
  refine Ae Ac ?_;simp -implicitDefEqProofs [l1,d1,h256];exact A0 ⟨.t (.tu [sv ⟨#[]⟩,iv 7]),[],0⟩ ⟨by rw[hZ]⟩ (by simp -implicitDefEqProofs)
 rw[zz h256]at hZ
 have d1:¬(256:Int)<(L.length:Int):=by omega
 refine Ae Ac ?_;simp -implicitDefEqProofs [l1,d1,h256];by_cases he:AV FS L=0
 rotate_left
 .rw[zy he]at hZ
  have hb:(AV FS L != 0)=true:=by rw[bne_iff_ne];exact he
  refine Ae (As.nil.ctxH (AF.cons ke .nil) mixed) ?_;simp -implicitDefEqProofs [ee,hb];exact A0 ⟨.t (.tu [sv ⟨#[]⟩,iv (AV FS L)]),[],0⟩ ⟨by rw[hZ]⟩ (by simp -implicitDefEqProofs)
 rw[zz (λh=>h he)]at hZ;rw[he]at ee;refine Ae (As.nil.ctxH (AF.cons ke .nil) mixed) ?_;simp -implicitDefEqProofs [ee];refine Ae Ac ?_;simp -implicitDefEqProofs
 obtain⟨R,hR⟩:∃R,R=Ev L:=⟨_,rfl⟩
 rw[<-hR]at hZ hn
 have I0:Bl [(0,BB DH 0 [])] 1 []:=⟨⟨DH,0,rfl,.inl rfl,.inl rfl⟩,by omega,λk x h=>by
  rw[Az]at h;split at h
  .omega
  .cases h⟩
 refine AE (α:=List UInt8×Ab×Nat) (λc=>⟨[(5,.ptr 0 0)],c.2.1,c.2.2,52⟩) (λc=>R=c.1/\Bl c.2.1 c.2.2 c.1) (λ_=>rfl) ?_ ?_
 rotate_left
 .rintro⟨W,H,nx⟩ ⟨hW,I⟩;simp only at hW I;subst hW;obtain⟨ol,el,kl⟩:=I.len (q:=q);by_cases hl6:65536<R.length
  .rw[zy hl6]at hZ
   have d2:(65536:Int)<(R.length:Int):=by omega
   refine Ae (As.nil.ctxH (AF.cons kl .nil) mixed) ?_;simp -implicitDefEqProofs [el,hl6,d2];exact A0 ⟨.t (.tu [sv ⟨#[]⟩,iv 7]),H,nx⟩ ⟨by rw[hZ]⟩ (by simp -implicitDefEqProofs)
  .rw[zz hl6]at hZ
   have d2:¬(65536:Int)<(R.length:Int):=by omega
   obtain⟨os,H',es,ks⟩:=I.str (q:=q) (by omega);refine Ae (As.nil.ctxH (AF.cons kl .nil) mixed) ?_;simp -implicitDefEqProofs [el,hl6,d2];refine Ar (As.nil.ctxH (AF.cons ks .nil) mixed) ?_;simp -implicitDefEqProofs [es];exact A0 ⟨.t (.tu [sv (bs R),iv 0]),H',nx⟩ ⟨by rw[hZ]⟩ (by simp -implicitDefEqProofs)
 refine Ae Ac ?_;simp -implicitDefEqProofs [l1];refine AG ?_;refine BV (SP1 t L.length) (λc=>L.length-c.1) (PI1 R L) (0,[],[(0,BB DH 0 [])],1) (λ_=>rfl) ⟨Xe _,I0,hR⟩ (sub_env (by simp -implicitDefEqProofs [SP1])) rfl ?_;rintro⟨j,W,H,nx⟩ hk;obtain⟨hj,I,hWe⟩:=hk;simp only at hj I hWe;by_cases hlt:j<L.length
 rotate_left
 .have hlt':¬(j:Int)<(L.length:Int):=by omega
  rw[Xx (by omega)]at hWe
  have hWe:R=W:=by rw[hWe];exact Xz W
  refine Ae Ac ?_;simp -implicitDefEqProofs [SP1,hlt,hlt'];refine Ae Ac ?_;simp -implicitDefEqProofs;exact Am.mk (W,H,nx) ⟨hWe,I⟩ (sub_env (by simp -implicitDefEqProofs))
 have hlt':(j:Int)<(L.length:Int):=by omega
 obtain⟨m,hm⟩:∃m,L[j]?=some m:=⟨_,Xk hlt⟩
 have hmL:=Xl hm;have hpm:=hp m hmL;obtain⟨c,r,ia,hc,hcl⟩:=ht.iaddr hm;have la:=lpn (r:=r) H hcl;have sn:=B2l c hcl nx H;rw[Vh hm]at hWe
 obtain⟨Y,hY⟩:∃Y,Y=(L.drop (j+1)).flatMap Jx:=⟨_,rfl⟩
 have hWe:R=W++((LV m++kinds.flatMap (N1 m))++Y):=by rw[hWe,hY];rfl
 obtain⟨nm,hnm⟩:∃nm,nm=m.name.data.toList:=⟨_,rfl⟩
 have hmn:m.name=bs nm:=by rw[hnm]
 have hnl:nm.length<=1000000:=by rw[hnm];exact hpm.n
 obtain⟨hd,hhd⟩:∃hd,hd=LV m:=⟨_,rfl⟩
 have hhd2:hd=([109,111,100,117,108,101,32]++nm)++[59,10]:=by rw[hhd,hnm,Xj];rfl
 rw[<-hhd]at hWe
 have hdl:hd≠[]:=by rw[hhd2];simp
 have hRl:=congrArg X8 hWe;simp only[Xa]at hRl
 have ln:Aj false 1 ((nx,.cells 51 (c.map .t))::H) (.ptr nx 0)=some (.t (sv (bs nm))):=by
  obtain⟨t0,t1,t2,t3,t4,t5,t6,t7,t8,hM⟩:=hc;rw[hM.c,<-hmn];simp[Aj,Az]
 have lm:∀H',Aa H' nx=some (.cells GK (c.map .t))->Aj true 10 H' (.ptr nx 0)=some (.t (.ag c)):=λH' h=>ldN h hcl;have I1:=I.cons (.cells 51 (c.map .t));obtain⟨ow,H2,ew,kw,I2,keep2⟩:=I1.write (q:=q) hdl (by omega);have hnx:=I.n;have r2:Aa H2 nx=some (.cells GK (c.map .t)):=keep2 nx _ (by omega) (by rw[Az,zy rfl]);generalize c.map PV.t=X at sn ln lm I1 ew kw keep2 r2;have b1:∀(Φ:A7) (H:Ab) (nx:Nat),Ai Φ H nx (.bin false .add none) [.t (sv ⟨#[109,111,100,117,108,101,32]⟩),.t (sv (bs nm))]=some (.t (sv (bs ([109,111,100,117,108,101,32]++nm))),H,nx):=Ce (a:=[109,111,100,117,108,101,32]) rfl rfl (by simp only[Xb,Xc];omega)
 obtain⟨h1,hh1⟩:∃h1,h1=[109,111,100,117,108,101,32]++nm:=⟨_,rfl⟩
 have hl1:h1.length=7+nm.length:=by rw[hh1];simp only[Xa,Xb,Xc]
 rw[<-hh1]at b1 hhd2
 have b2:∀(Φ:A7) (H:Ab) (nx:Nat),Ai Φ H nx (.bin false .add none) [.t (sv (bs h1)),.t (sv ⟨#[59,10]⟩)]=some (.t (sv (bs hd)),H,nx):=by
  rw[hhd2];exact Ce (b:=[59,10]) rfl rfl (by simp only[Xb,Xc];omega)
 have e1:Xh.wrap ((j:Int)+1)=((j+1:Nat):Int):=AP (by omega) (by omega);refine Ae Ac ?_;simp -implicitDefEqProofs [SP1,hlt,hlt'];refine Ae Ac ?_;simp -implicitDefEqProofs;refine AE (α:=List UInt8×Ab×Nat) (λc=>SP1 t L.length (j,c)) (λc=>R=c.1++Y/\Bl c.2.1 c.2.2 c.1) (λ_=>rfl) ?_ ?_
 rotate_left
 .rintro⟨V,H3,n3⟩ ⟨hV,I3⟩;simp only at hV I3;refine Ar Ac ?_;simp -implicitDefEqProofs [SP1,e1];exact Am.mk (j+1,V,H3,n3) ⟨⟨by show j+1<=L.length;omega,I3,by rw[hV,hY]⟩,by show L.length-(j+1)<L.length-j;omega⟩ (sub_env (by simp -implicitDefEqProofs [SP1]))
 refine AG ?_;refine Ae Ac ?_;simp -implicitDefEqProofs [ia,la,sn];refine Ae (As.nil.ctxH (AF.cons kw .nil) mixed) ?_;simp -implicitDefEqProofs [ln,b1,b2,ew];refine Ae Ac ?_;simp -implicitDefEqProofs;refine AG ?_;refine BV (SP2 t L.length j nx) (λc=>11-c.1) (PI2 R m X nx Y) (2,W++hd,H2,nx+1+1) (λ_=>rfl) ⟨by show 2<=2;omega,by show 2<=11;omega,I2,r2,by rw[hWe];simp only[Xj];rfl⟩ (sub_env (by simp -implicitDefEqProofs [SP2])) rfl ?_;rintro⟨k,V,H3,n3⟩ hk;obtain⟨ka,kz,I3,r3,hVe⟩:=id hk;simp only at ka kz I3 r3 hVe;by_cases hk10:k<=10
 rotate_left
 .have hk11:k=11:=by omega
  subst hk11;have hf:=hk.full;refine Ae Ac ?_;simp -implicitDefEqProofs [SP2];exact Am.mk (V,H3,n3) ⟨hf,I3⟩ (sub_env (by simp -implicitDefEqProofs [SP1]))
 have hk10':(k:Int)<=10:=by omega
 have e2:Xh.wrap ((k:Int)+1)=((k+1:Nat):Int):=AP (by omega) (by omega);rw[Vh (B2a ka hk10),show k-2+1=k+1-2 by omega]at hVe
 obtain⟨Y2,hY2⟩:∃Y2,Y2=(kinds.drop (k+1-2)).flatMap (N1 m)++Y:=⟨_,rfl⟩
 obtain⟨cl,hcl0⟩:∃cl,cl=BX m k:=⟨_,rfl⟩
 have hVe:R=V++(cl.flatMap ET++Y2):=by
  rw[hVe,hY2,hcl0];simp only[Xv,Xj];rfl
 have hce:∀y∈cl,y.length<=1000000000:=by rw[hcl0];exact B2d hpm k
 have hcll:cl.length<=100000:=by rw[hcl0];exact B2c hpm k
 have lm3:=lm H3 r3
 obtain⟨g,hg⟩:∃g,g=Jp [.ag c,iv (k:Int)] (Aq Ak ((BX m k).map bs)):=⟨_,rfl⟩
 have gc:g [.ag c,iv (k:Int)]=some (Aq Ak ((BX m k).map bs)):=by rw[hg];exact Po _ _
 have CC:Ctx Xd (G q) (orc [(37,g)]):=(As.cons (by rw[hg];exact Pp (B2b hc hpm ka hk10)) .nil).ctx mixed;rw[<-hcl0]at gc;have hu:=IsS.tree Ak (cl.map bs);generalize Aq Ak (cl.map bs)=u at gc hu
 have lu:AO (.t u)=some (.t (iv (cl.length:Int))):=by rw[hu.len,Xf]
 refine Ae Ac ?_;simp -implicitDefEqProofs [SP2,hk10,hk10'];refine AE (α:=List UInt8×Ab×Nat) (λc=>SP2 t L.length j nx (k,c)) (λc=>R=c.1++Y2/\Bl c.2.1 c.2.2 c.1/\Aa c.2.1 nx=some (.cells GK X)) (λ_=>rfl) ?_ ?_
 rotate_left
 .rintro⟨U,H4,n4⟩ ⟨hU,I4,r4⟩;simp only at hU I4 r4;refine Ar Ac ?_;simp -implicitDefEqProofs [SP2,e2];exact Am.mk (k+1,U,H4,n4) ⟨⟨by show 2<=k+1;omega,by show k+1<=11;omega,I4,r4,by rw[hU,hY2]⟩,by show 11-(k+1)<11-k;omega⟩ (sub_env (by simp -implicitDefEqProofs [SP2]))
 refine AG ?_;refine Ae CC ?_;simp -implicitDefEqProofs [lm3,gc,lu];refine AG ?_;refine BV (SP3 t L.length j nx k u cl.length) (λc=>cl.length-c.1) (PI3 R cl X nx Y2) (0,V,H3,n3) (λ_=>rfl) ⟨Xe _,I3,r3,hVe⟩ (sub_env (by simp -implicitDefEqProofs [SP3])) rfl ?_;rintro⟨i,U,H4,n4⟩ hk4;obtain⟨hi,I4,r4,hUe⟩:=hk4;simp only at hi I4 r4 hUe;by_cases hilt:i<cl.length
 rotate_left
 .have hilt':¬(i:Int)<(cl.length:Int):=by omega
  rw[Xx (by omega)]at hUe;have hUe:R=U++Y2:=hUe;refine Ae Ac ?_;simp -implicitDefEqProofs [SP3,hilt,hilt'];refine Ae Ac ?_;simp -implicitDefEqProofs;exact Am.mk (U,H4,n4) ⟨hUe,I4,r4⟩ (sub_env (by simp -implicitDefEqProofs [SP2]))
 have hilt':(i:Int)<(cl.length:Int):=by omega
 obtain⟨y,hy⟩:∃y,cl[i]?=some y:=⟨_,Xk hilt⟩
 have hy':(cl.map bs)[i]?=some (bs y):=by rw[Xo,hy];rfl
 have iu:Bd 1 (.t u) (.t (iv (i:Int)))=some (.t (.pt (sv (bs y)::AU Ak (cl.map bs) i))):=hu.iaddr hy' .i64;rw[Vh hy]at hUe
 obtain⟨yc,hyc⟩:∃yc,yc=ET y:=⟨_,rfl⟩
 have hUe:R=U++((yc++(cl.drop (i+1)).flatMap ET)++Y2):=by rw[hUe,hyc];rfl
 have hyc2:yc=y++[59,10]:=hyc
 have hycn:yc≠[]:=by rw[hyc2];simp
 have hRl2:=congrArg X8 hUe;simp only[Xa]at hRl2;have hyl:=hce y (Xl hy)
 have hycl:yc.length=y.length+2:=by rw[hyc2];simp only[Xa,Xb,Xc]
 have b3:∀(Φ:A7) (H:Ab) (nx:Nat),Ai Φ H nx (.bin false .add none) [.t (sv (bs y)),.t (sv ⟨#[59,10]⟩)]=some (.t (sv (bs yc)),H,nx):=by
  rw[hyc2];exact Ce (b:=[59,10]) rfl rfl (by simp only[Xb,Xc];omega)
 obtain⟨o5,H5,e5,k5,I5,keep5⟩:=I4.write (q:=q) hycn (by omega);have r5:=keep5 nx _ (by omega) r4
 obtain⟨U5,hU5⟩:∃U5,U5=U++yc:=⟨_,rfl⟩
 rw[<-hU5]at I5
 have hU5l:U5.length=U.length+yc.length:=by rw[hU5];exact Xa
 obtain⟨o6,e6,k6⟩:=I5.len (q:=q);have e3:Xh.wrap ((i:Int)+1)=((i+1:Nat):Int):=AP (by omega) (by omega);refine Ae Ac ?_;simp -implicitDefEqProofs [SP3,hilt,hilt'];refine Ae Ac ?_;simp -implicitDefEqProofs;have CW:Ctx Xd (G q) _:=As.nil.ctxH (AF.cons k5 (AF.cons k6 .nil)) mixed;by_cases hl6:65536<U5.length
 .have d2:(65536:Int)<(U5.length:Int):=by omega
  rw[zy (by omega)]at hZ;refine Ar CW ?_;simp -implicitDefEqProofs [iu,ldS,b3,e5,e6,hl6,d2];exact A0 ⟨.t (.tu [sv ⟨#[]⟩,iv 7]),H5,n4+1⟩ ⟨by rw[hZ]⟩ (by simp -implicitDefEqProofs)
 .have d2:¬(65536:Int)<(U5.length:Int):=by omega
  refine Ar CW ?_;simp -implicitDefEqProofs [iu,ldS,b3,e5,e6,hl6,d2,e3];exact Am.mk (i+1,U5,H5,n4+1) ⟨⟨by show i+1<=cl.length;omega,I5,r5,by rw[hUe,hU5];simp only[Xj]⟩,by show cl.length-(i+1)<cl.length-i;omega⟩ (sub_env (by simp -implicitDefEqProofs [SP3]))
structure Cur where
 name:ByteArray
 els:List El
 ks:Nat->Nat
def Gk (F:List Md) (c:Cur):List PV:=(F.flatMap Md.cs).map .t++Bx c.name c.ks c.els
theorem N2:∀F:List Md,(F.flatMap Md.cs).length=F.length*10
 | []=>rfl
 | m::r=>by
  rw[Xv,Xa,N2 r,Xb];show 10+_=_;omega
theorem lG (F:List Md) (c:Cur):(Gk F c).length=(F.length+1)*10:=by
 unfold Gk;rw[Xa,Xf,N2];show _+10=_;omega
section
variable {F : List Md} {c : Cur} {H : Ab} {ko nx : Nat}
theorem lH (h:Aa H ko=some (.cells B5 (Gk F c))):Aj true 10 H (.ptr ko (F.length*10))=some (Bi (Bx c.name c.ks c.els)):=by
 have hl:=lG F c;simp only[Aj,h,if_true];rw[zy (by rw[hl];omega)];unfold Gk;rw[List.drop_left' (by rw[Xf,N2])];rfl
theorem lI (F:List Md) (ko:Nat):Bd 10 (.row ko 0 (F.length+1) 10) (.t (iv (F.length:Int)))=some (.ptr ko (F.length*10)):=by
 have h1:(F.length:Int)<((F.length+1:Nat):Int):=by omega
 simp[Bd];omega
theorem B2n {ps:List PV} (h:Aa H ko=some (.cells B5 (Gk F c))) (hp:ps.length=10):AM 10 H (.ptr ko (F.length*10)) (Bi ps)=some (X6 H ko (.cells B5 ((F.flatMap Md.cs).map .t++ps))):=by
 have h1:=Fw (n:=10) (o:=F.length*10) (t:=Bi ps) (ns:=ps) h (L7 ps) hp (by rw[lG];omega);rw[h1];unfold Gk;rw[PI (by rw[Xa,Xf,N2,hp];show _<=_+10;omega),List.take_left' (by rw[Xf,N2]),Xx (by rw[Xa,Xf,N2,hp];show _+10<=_;omega),Xz]
def FU (els:List El) (ks:Nat->Nat):List Nat:=((List.range 9).filter λj=>decide (Cz j els≠0)).map ks
theorem lJ {j:Nat} {els:List El}:AW j els≠[] ↔ Cz j els≠0:=by
 rw[<-QC];constructor
 .intro h e;exact h (List.eq_nil_of_length_eq_zero e)
 .intro h e;rw[e]at h;exact h rfl
theorem B2o {els:List El} {ks:Nat->Nat} {j:Nat} (hj:j<9) (h:AW j els≠[]):ks j∈FU els ks:=by
 unfold FU;exact Xu.2 ⟨j,Yf.2 ⟨List.mem_range.2 hj,by simpa using lJ.1 h⟩,rfl⟩
theorem P2 {els:List El} {ks:Nat->Nat} {b:Nat} (h:Co els ks b):b∉FU els ks:=by
 unfold FU;intro hb;obtain⟨j,hj,e⟩:=Xu.1 hb;obtain⟨_,h2⟩:=Yf.1 hj;exact h j (lJ.2 (by simpa using h2)) e.symm
theorem Jy {els:List El} {ks:Nat->Nat} {j:Nat} (M:Du els ks H nx) (hj:j<9):BI H (FU els ks) (rowP (eRw j) (ks j) (AW j els)) = .t (Aq (eRw j) (AW j els)):=by
 by_cases h:AW j els=[]
 .rw[h];rfl
 .exact FM (M.row j) (B2o hj h)
theorem B2p {name:ByteArray} {els:List El} {ks:Nat->Nat} (M:Du els ks H nx):(Bx name ks els).map (BI H (FU els ks))=(Md.cs ⟨name,els⟩).map .t:=by
 unfold Bx Md.cs mdC;simp only[Xt,Yg];rw[Jy M (by omega),Jy M (by omega),Jy M (by omega),Jy M (by omega),Jy M (by omega),Jy M (by omega),Jy M (by omega),Jy M (by omega),Jy M (by omega)];rfl
theorem lK (h:Aa H ko=some (.cells B5 (Gk F c))) (M:Du c.els c.ks H nx) (hk:Co c.els c.ks ko) :
  Aa (B1 H (FU c.els c.ks)) ko=some (rowOf eMd B5 ((F++[(⟨c.name,c.els⟩:Md)]).map Md.rw)):=by
 rw[QA (P2 hk) h];unfold Gk rowOf;simp only[De,X9];congr 2;rw[B2p M,Yh,X9,Yi,Xm];congr 1
theorem lL (H:Ab):∀ts:List T,BQ H (ts.map .t)=some (ts,[])
 | []=>rfl
 | x::r=>by
  simp only[Xt,BQ,toT,lL H r];rfl
theorem B2q (H:Ab) (ps:List PV):toT H (Bi ps)=(BQ H ps).map λx=>(.ag x.1,x.2):=by
 unfold Bi;split
 .rename_i ts h;have:=GO h;subst this;rw[lL];rfl
 .rfl
theorem B2r {name:ByteArray} {els:List El} {ks:Nat->Nat} (M:Du els ks H nx):∃G,toT H (Bi (Bx name ks els))=some (.ag (Md.cs ⟨name,els⟩),G):=by
 rw[B2q];have r:∀j,toT H (rowP (eRw j) (ks j) (AW j els))=some (Aq (eRw j) (AW j els),GV (ks j) (AW j els)):=λj=>(M.row j).toT;unfold Bx Md.cs mdC;simp only[BQ,toT,r];exact⟨_,rfl⟩
theorem B2s {name:ByteArray} {els:List El} {kind:Nat} (h1:2<=kind) (h2:kind<=10):∃a,(Md.cs ⟨name,els⟩)[kind-1]?=some a/\AO (.t a)=some (.t (iv (Cz (kind-2) els:Int))):=by
 have key:∀j,AO (.t (Aq (eRw j) (AW j els)))=some (.t (iv (Cz j els:Int))):=λj=>by
  rw[(IsS.tree (eRw j) (AW j els)).len,QC]
 have hk:kind=2\/kind=3\/kind=4\/kind=5\/kind=6\/kind=7\/kind=8\/kind=9\/kind=10:=by omega
 rcases hk with rfl | rfl | rfl | rfl | rfl | rfl | rfl | rfl | rfl<;>exact⟨_,rfl,key _⟩
end
def Cur.md (c:Cur):Md:=⟨c.name,c.els⟩
structure PsC where
 H:Ab
 nx:Nat
 i:Nat
 F:List Md
 cur:Option Cur
 ko:Nat
 m:Nat
def E9 (F:List Md) (cur:Option Cur) (ko:Nat):PV:=match cur with
 | none=>.t Ah
 | some _=>.row ko 0 (F.length+1) 10
def SPs (t:T) (c:PsC):Ad:=⟨[(9,E9 c.F c.cur c.ko),(8,.ptr 0 0),(5,.t t)],c.H,c.nx,121⟩
def LX (F:List Md) (cur:Option Cur):Sta:=⟨F,cur.map Cur.md⟩
structure P5 (F:List Md) (cu:Cur) (ko:Nat) (H:Ab) (nx:Nat):Prop where
 out:Aa H ko=some (.cells B5 (Gk F cu))
 M:Du cu.els cu.ks H nx
 n0:Co cu.els cu.ks 0
 nk:Co cu.els cu.ks ko
 lt:ko<nx
 ne:ko≠0
structure PsI (ts:List Tok) (t:T) (Z:Except (Nat×Int) Sta) (c:PsC):Prop where
 z:Z=CR (ts.map kt) c.m c.i (LX c.F c.cur)
 rd:Aa c.H 0=some (rr t c.i)
 i:c.i<=ts.length
 m:ts.length<c.i+c.m
 cl:Cl c.H c.nx
 nx:0<c.nx
 emp:c.cur=none->c.F=[]
 out:∀cu,c.cur=some cu->P5 c.F cu c.ko c.H c.nx/\cu.els.length<=c.i
 fl:c.F.length<=c.i
structure AfP where
 H:Ab
 nx:Nat
 F:List Md
 cu:Cur
 ko:Nat
def P6 (t:T) (nt:Nat) (K:Nat) (c:AfP):Ad:=⟨[(11,.t (iv (K:Int))),(10,.ptr nt 0),(9,.row c.ko 0 (c.F.length+1) 10),(8,.ptr 0 0),(5,.t t)],c.H,c.nx,121⟩
structure AfI (t:T) (i nt K:Nat) (tok:Row) (F:List Md) (cur:Option Cur) (c:AfP):Prop where
 rd:Aa c.H 0=some (rr t (i+1))
 O:P5 c.F c.cu c.ko c.H c.nx
 tk:Aa c.H nt=some tok
 ntk:Co c.cu.els c.cu.ks nt
 lt:nt<c.nx
 nt0:nt≠0
 nk:nt≠c.ko
 cl:Cl c.H c.nx
 el:c.cu.els.length<=i+1
 fl:c.F.length<=i+1
 rel:(K=1/\c.F=(LX F cur).all/\c.cu.els=[])\/(K≠1/\c.F=F/\cur=some c.cu)
theorem B2t {H:Ab} {G:List Nat} {b o m z:Nat} (h:b∉G):BI H G (.row b o m z) = .row b o m z:=by
 unfold BI;simp only[toT];split
 .rename_i x G2 hx;split at hx
  .split at hx
   .obtain⟨y,_,e⟩:=Yj.1 hx;injection e with _ e;subst e;rw[zz];intro h2;exact h (by simpa using h2)
   .cases hx
  .cases hx
 .rfl
theorem ClR.mem {n ty:Nat} {cs:List PV} (h:ClR n (.cells ty cs)):∀p∈cs,ClP n p:=λp hp H2 F2 hF2=>by
 have h3:=h H2 F2 hF2;simp only[De]at h3;injection h3 with _ h3
 have h4:cs.map (BI H2 F2)=cs.map id:=by rw[h3,List.map_id]
 exact List.map_inj_left.1 h4 p hp
theorem B2u {l:List Tok} {t:T} {k0 nx:Nat} {H:Ab} {els:List El} {ks:Nat->Nat} {name:ByteArray} {fn:FuncId} {xs:List PV} {o:Res Fx} (h:∃f:Fin,StM l t k0 name ks els H nx o f/\AH Xd (G q) fn xs H nx f.r f.H f.nx) :
  ∃ps e i' H' nx' tb,ps.length=10/\(Cl H nx->ClR nx' (.cells B5 ps))/\Aa H' k0=some (rr t i')/\i'<=l.length/\((o = .error e/\e≠0)\/(∃a,o = .ok (a,i')/\e=0/\∃name' ks' els',ps=Bx name' ks' els'/\Du els' ks' H' nx'/\(∀c,c<nx->Co els ks c->Co els' ks' c) /\
   (match a with | .md n=>name'=n/\els'=els | .el y=>name'=name/\els'=els++[y]))) /\
   (∀c,c<nx->c≠k0->Co els ks c->Aa H' c=Aa H c)/\nx<=nx'/\(Cl H nx->Cl H' nx')/\tb xs H nx=some (BW (Bi ps) e,H',nx')/\HOK Xd (G q) fn tb:=by
 obtain⟨⟨fr,fH,fn'⟩,hS,hc⟩:=h;obtain⟨ps,e,i',hr,hl,h1,h2,h3,h4⟩:=hS.ex;have k:=hS.k;have n:=hS.n;have fr':=hS.fr;have cl:=hS.cl;simp only at hr hc h1 h2 h4 k n fr' cl;subst hr;obtain⟨tb,t1,t2⟩:=hAt hc fr';exact⟨ps,e,i',fH,fn',tb,hl,h1,h2,h3,h4,k,n,cl,t1,t2⟩
theorem B2v {F:List Md} {cur:Option Cur} {ko:Nat} (he:cur=none->F=[]):AO (E9 F cur ko)=some (.t (iv ((LX F cur).all.length:Int))):=by
 cases cur with
 | none=>rw[he rfl];rfl
 | some cu=>
  have:(LX F (some cu)).all.length=F.length+1:=by
   show(F++[_]).length=_;rw[Xa];rfl
  rw[this];rfl
def OkA (K:Nat) (cur:Option Cur):Prop:=K≠0/\(K≠1->cur≠none)
theorem lM {L:List KT} {p p':Nat} {a:Fx} (h:Bs L 1 p = .ok (a,p')):∃n,a = .md n:=by
 unfold Bs at h;rw[zy rfl]at h;split at h
 .cases h
 .injection h with h;injection h with h _;exact⟨_,h.symm⟩
theorem lN {L:List KT} {k p p':Nat} {a:Fx} (hk:k≠1) (h:Bs L k p = .ok (a,p')):∃y,a = .el y:=by
 unfold Bs at h;rw[zz hk]at h;split at h
 .cases h
 .injection h with h;injection h with h _;exact⟨_,h.symm⟩
theorem B2w {l:List Tok} {t:T} (ht:IsS Aw t l) (Φ:A7) (H:Ab) (nx:Nat):Ai Φ H nx (.build [(0,1),(1,1)] [.slice none 0 0,.int .i64 0] [0]) [.t t]=some (.t (.ag [t,iv 0]),H,nx):=by
 rcases ht with⟨rfl,_⟩ | rfl<;>rfl
theorem lQ (Φ:A7) (H:Ab) (nx:Nat):Ai Φ H nx (.build [(0,1),(1,1),(2,1),(3,1),(4,1),(5,1),(6,1),(7,1),(8,1),(9,1)] [.string ⟨#[]⟩,.slice none 0 0,.slice none 0 0,.slice none 0 0,.slice none 0 0,.slice none 0 0,.slice none 0 0,.slice none 0 0,.slice none 0 0,.slice none 0 0] []) []=some (.t (.ag zMd),H,nx):=rfl
theorem lR (n:Nat):EE 51 10 [.string ⟨#[]⟩,.slice none 0 0,.slice none 0 0,.slice none 0 0,.slice none 0 0,.slice none 0 0,.slice none 0 0,.slice none 0 0,.slice none 0 0,.slice none 0 0] 1 [(0,.t (.ag zMd))] n=some (.row n 0 1 10,.cells 51 (zMd.map .t)):=rfl
theorem lS (F:List Md) (ks:Nat->Nat):rowOf eMd B5 (F.map Md.rw++[(⟨zMd,rfl⟩:RwC 10)]) = .cells B5 (Gk F ⟨⟨#[]⟩,[],ks⟩):=by
 unfold rowOf Gk;rw[Yh,X9,Yi];rfl
noncomputable def RN:Tbl:=[(28,G6)]
theorem Vj:Ctx Xd (G q) (orc RN):=(As.cons A3h .nil).ctx mixed
theorem lT {t:Tok}:∀{ts:List Tok},t∈ts->t.t.length<=(ts.flatMap wrT).length
 | x::r,h=>by
  rw[Xv,Xa];rcases List.mem_cons.1 h with rfl | h
  .have:t.t.length<=(wrT t).length:=by
    unfold wrT wr;split
    .simp;omega
    .exact X0 _
   omega
  .have:=lT h;omega
theorem B2x {D:List UInt8} {ts:List Tok} (h:CZ D 1 = .ok ts):∀x∈ts,x.t.length<=D.length:=λx hx=>by
 have h1:=(OX _ _ _ _ h).2;have h2:=lT hx;rw[List.length_drop]at h1;omega
theorem B2y (s:ByteArray) (hs:s.size<=1000000):A1 Xd (G q) 14 [sv s] (· = HQ (Cd s.data.toList)):=by
 obtain⟨R,hR⟩:∃R,R=HQ (Cd s.data.toList):=⟨_,rfl⟩
 rw[<-hR];have gs:G6 [sv s]=some (FC s.data.toList):=zy hs
 obtain⟨D,hD⟩:∃D,D=s.data.toList:=⟨_,rfl⟩
 rw[<-hD]at gs hR;refine CG (args:=[sv s]) ?_;refine sU.callX rfl ?_;(conv in YT=>cbv);refine Ae Ac ?_;simp -implicitDefEqProofs;unfold Cd at hR;unfold FC at gs;by_cases hlen:65536<D.length
 .rw[zy hlen]at gs hR;refine Ae Vj ?_;simp -implicitDefEqProofs [RN,gs];refine Ae Ac ?_;simp -implicitDefEqProofs;exact A0 ⟨.t (.tu [Ah,iv 0,iv 7]),[],0⟩ ⟨by rw[hR];rfl⟩ (by simp -implicitDefEqProofs)
 rw[zz hlen]at gs hR
 cases hsc:CZ D 1 with
 | error x=>
  rw[hsc]at gs hR;simp only at gs hR;have he:=(Um hsc).2
  have hb:(x.2 != 0)=true:=by rw[bne_iff_ne];exact he
  refine Ae Vj ?_;simp -implicitDefEqProofs [RN,gs];refine Ae Ac ?_;simp -implicitDefEqProofs [hb];exact A0 ⟨.t (.tu [Ah,iv (x.1:Int),iv x.2]),[],0⟩ ⟨by rw[hR];rfl⟩ (by simp -implicitDefEqProofs)
 | ok ts=>
 rw[hsc]at gs hR;simp only at gs hR
 have hlim:ts.length<=1000000:=by have:=Rc hsc;omega
 have hsm:∀x∈ts,x.t.length<=100000:=λx hx=>by have:=B2x hsc x hx;omega
 have ht:=IsS.tree Aw ts
 obtain⟨t,htt⟩:∃t,t=Aq Aw ts:=⟨_,rfl⟩
 rw[<-htt]at ht gs;have hln:AO (.t t)=some (.t (iv (ts.length:Int))):=ht.len;refine Ae Vj ?_;simp -implicitDefEqProofs [RN,gs];refine Ae Ac ?_;simp -implicitDefEqProofs;refine Ae Ac ?_;simp -implicitDefEqProofs [B2w ht,-Bo];refine Ae Ac ?_;simp -implicitDefEqProofs
 obtain⟨Z,hZ⟩:∃Z,Z=CR (ts.map kt) (ts.length+1) 0 ⟨[],none⟩:=⟨_,rfl⟩
 rw[<-hZ]at hR
 obtain⟨H0,hH0⟩:∃H0:Ab,H0=[(0,rr t 0)]:=⟨_,rfl⟩
 have r0:Aa H0 0=some (rr t 0):=by rw[hH0];rfl
 have C0:Cl H0 1:=λc x hx=>by
  rw[hH0,Az]at hx;split at hx
  .injection hx with hx;subst hx;exact HZ 1 t 0
  .cases hx
 refine Bg (s':=SPs t ⟨H0,1,0,[],none,0,ts.length+1⟩) (by rw[hH0];exact sub_env (by simp -implicitDefEqProofs [SPs,E9])) rfl ?_;refine AE (SPs t) (λc=>Z = .ok (LX c.F c.cur)/\Cl c.H c.nx/\(c.cur=none->c.F=[])/\∀cu,c.cur=some cu->P5 c.F cu c.ko c.H c.nx) (λ_=>rfl) ?_ ?_
 rotate_left
 .rintro⟨H,nx,i,F,cur,ko,m⟩ ⟨hz,hC,hemp,hout⟩;simp only at hz hC hemp hout;rw[hz]at hR;simp only at hR
  cases cur with
  | none=>
   have hF:=hemp rfl;subst hF;refine Ar Ac ?_;simp -implicitDefEqProofs [SPs,E9];exact A0 ⟨.t (.tu [Ah,iv 0,iv 0]),H,nx⟩ ⟨by rw[hR];rfl⟩ (by simp -implicitDefEqProofs)
  | some cu=>
   have O:=hout cu rfl;have lk:=lK O.out O.M O.nk
   obtain⟨H2,hH2⟩:∃H2,H2=B1 H (FU cu.els cu.ks):=⟨_,rfl⟩
   rw[<-hH2]at lk
   obtain⟨l,hl⟩:∃l,l=(F++[(⟨cu.name,cu.els⟩:Md)]).map Md.rw:=⟨_,rfl⟩
   rw[<-hl]at lk
   have hlen2:l.length=F.length+1:=by rw[hl,Xf,Xa];rfl
   have hne:l≠[]:=λe=>by rw[e]at hlen2;simp at hlen2
   have hrow:Ay eMd B5 H2 ko l:=.inr lk
   have hrp:rowP eMd ko l = .row ko 0 (F.length+1) 10:=by rw[MM _ _ _ hne,hlen2];rfl
   have fz1:BI H (FU cu.els cu.ks) (.row ko 0 (F.length+1) 10) = .row ko 0 (F.length+1) 10:=by
    unfold BI;simp only[toT];split
    .rename_i x G hx;split at hx
     .split at hx
      .obtain⟨y,_,e⟩:=Yj.1 hx;injection e with _ e;subst e;rw[zz];intro h2;exact P2 O.nk (by simpa using h2)
      .cases hx
     .cases hx
    .rfl
   refine Bg (s':=⟨[(9,.row ko 0 (F.length+1) 10)],H2,nx,121⟩) (by rw[hH2];exact EI _ (by simp -implicitDefEqProofs [SPs,E9,fz1])) rfl ?_;rw[<-hrp];refine Bg (s':=⟨[(9,.t (Aq eMd l))],B1 H2 [ko],nx,121⟩) (EI [ko] (by simp -implicitDefEqProofs [FM hrow (Xn.2 rfl)])) rfl ?_;refine Ar Ac ?_;simp -implicitDefEqProofs;exact A0 ⟨.t (.tu [Aq eMd l,iv 0,iv 0]),B1 H2 [ko],nx⟩ ⟨by rw[hR,hl];rfl⟩ (by simp -implicitDefEqProofs)
 refine AG ?_;refine BV (SPs t) (λc=>c.m) (PsI ts t Z) ⟨H0,1,0,[],none,0,ts.length+1⟩ (λ_=>rfl) ⟨hZ,r0,Xe _,by show ts.length<0+(ts.length+1);omega,C0,Nat.zero_lt_one,λ_=>rfl,λcu h=>(by cases h),Xe _⟩ (Sub.refl _) rfl ?_;rintro⟨H,nx,i,F,cur,ko,m⟩ I;have hz:=I.z;have hi:=I.i;have hm:=I.m;have hnx:=I.nx;have rd:=I.rd;simp only at hz hi hm hnx rd;have L:=E6 rd
 obtain⟨m,rfl⟩:∃m',m=m'+1:=⟨m-1,by omega⟩
 rw[CR]at hz
 cases hx:ts[i]? with
 | none=>
  have hge:ts.length<=i:=by simpa using hx
  have d1:¬(i:Int)<(ts.length:Int):=by omega
  have d2:¬i<ts.length:=by omega
  rw[Gy,hx]at hz;simp only[Option.map_none]at hz;refine Ae Ac ?_;simp -implicitDefEqProofs [SPs,L.l1,hln,d1,d2];exact Am.mk ⟨H,nx,i,F,cur,ko,m⟩ ⟨hz,I.cl,I.emp,λcu h=>(I.out cu h).1⟩ (sub_env (by simp -implicitDefEqProofs [SPs]))
 | some x=>
 have hlt:i<ts.length:=(Xw.1 hx).1
 have d1:(i:Int)<(ts.length:Int):=by omega
 obtain⟨r,hr⟩:=IX ht hx;rw[Gy,hx]at hz;simp only[Yk]at hz
 obtain⟨K,hK⟩:∃K,K=D1 (kt x):=⟨_,rfl⟩
 have hK10:K<=10:=by rw[hK];exact kindT_le _
 obtain⟨S,hS⟩:∃S,S=LX F cur:=⟨_,rfl⟩
 rw[<-hS]at hz
 have hErr:∀e,MN (ts.map kt) S (kt x) i = .error e->R = .tu [Ah,iv (x.l:Int),iv e]:=λe he=>by
  rw[he]at hz;rw[hz]at hR;simp only[hx,Yk,Option.getD_some]at hR;exact hR
 have hMay:CQ S K≠0->R = .tu [Ah,iv (x.l:Int),iv (CQ S K)]:=λh=>hErr _ (by rw[GB,<-hK,zy h])
 obtain⟨tk,htk⟩:∃tk:Row,tk = .cells Kl [.t (iv x.k),.t (sv (bs x.t)),.t (iv (x.l:Int))]:=⟨_,rfl⟩
 have st:=fI H nx (.t (iv 0)) (.t (sv ⟨#[]⟩)) (.t (iv 0)) x.k x.l (bs x.t);rw[<-htk]at st
 obtain⟨H1,hH1⟩:∃H1:Ab,H1=(nx,tk)::H:=⟨_,rfl⟩
 rw[<-hH1]at st
 have r1:Aa H1 0=some (rr t i):=by rw[hH1,Az,zz (by omega)];exact rd
 have t1:Aa H1 nx=some tk:=by rw[hH1,Az,zy rfl]
 have C1:Cl H1 (nx+1):=by rw[hH1,htk];exact I.cl.cons (ClR.trees _ _ [_,_,_]) (X7 _)
 have ldt:∀Hx,Aa Hx nx=some tk->Aj false 1 Hx (.ptr nx 2)=some (.t (iv (x.l:Int)))/\Aj true 3 Hx (.ptr nx 0)=some (.t (.ag [iv x.k,sv (bs x.t),iv (x.l:Int)])):=λHx h=>by
  rw[htk]at h;exact⟨(Re h).2.2.1,(Re h).2.2.2⟩
 have tkC:∀n,ClR n tk:=λn=>by rw[htk];exact ClR.trees n Kl [_,_,_]
 have O1:∀cu,cur=some cu->P5 F cu ko H1 (nx+1)/\Co cu.els cu.ks nx:=λcu h=>by
  obtain⟨O,_⟩:=I.out cu h;have hlo:=O.lt;refine⟨⟨by rw[hH1,Az,zz (by show nx≠ko;have:=O.lt;simp only at this;omega)];exact O.out,O.M.keep (λj hj=>by have:=O.M.lt j hj;simp only at this;rw[hH1,Az,zz (by omega)]) (X7 _),O.n0,O.nk,Xs O.lt,O.ne⟩,λj hj=>by have:=O.M.lt j hj;simp only at this;omega⟩
 have cc:A1 Xd (G q) 29 [.ag [iv x.k,sv (bs x.t),iv (x.l:Int)]] (· = iv (K:Int)):=by
  have:=A9c (q:=q) x.k (bs x.t) (x.l:Int);rw[show D1 (x.k,(bs x.t).data.toList)=K from hK.symm]at this;exact this
 have CK:Ctx Xd (G q) (orc [(29,Jp [.ag [iv x.k,sv (bs x.t),iv (x.l:Int)]] (iv (K:Int)))]):=(As.cons (Pp cc) .nil).ctx mixed;have gk:=Po [.ag [iv x.k,sv (bs x.t),iv (x.l:Int)]] (iv (K:Int));obtain⟨lx,lt3⟩:=ldt H1 t1;refine Ae Ac ?_;simp -implicitDefEqProofs [SPs,L.l1,hln,d1,hlt];refine AG ?_;refine Ae Ac ?_;simp -implicitDefEqProofs [L.l1,hr,lp3,st];refine Ae CK ?_;simp -implicitDefEqProofs [lt3,gk]
 obtain⟨stA,hstA⟩:∃stA:Ad,stA=⟨[(11,.t (iv (K:Int))),(10,.ptr nx 0),(9,E9 F cur ko),(8,.ptr 0 0),(5,.t t)],H1,nx+1,121⟩:=⟨_,rfl⟩
 refine Bg (s':=stA) (by rw[hstA];exact sub_env (by simp -implicitDefEqProofs)) (by rw[hstA]) ?_;have hlr:AO (.row ko 0 (F.length+1) 10)=some (.t (iv ((F.length:Int)+1))):=rfl;have hnil:AO (.t Ah)=some (.t (iv 0)):=rfl;refine AE (α:=Unit) (λ_=>stA) (λ_=>OkA K cur) (λ_=>by rw[hstA]) ?_ ?_
 .rw[hstA];by_cases k0:K=0
  .have hb:((K:Int)==0)=true:=by rw[k0];rfl
   have e8:CQ S K=8:=by unfold CQ;rw[zy k0]
   have hR8:=hMay (by rw[e8];decide);rw[e8]at hR8;refine Ar Ac ?_;simp -implicitDefEqProofs [hb,lx];exact A0 ⟨.t (.tu [Ah,iv (x.l:Int),iv 8]),H1,nx+1⟩ ⟨by rw[hR8]⟩ (by simp -implicitDefEqProofs)
  have hb:((K:Int)==0)=false:=by rw[zu];omega
  by_cases k1:K=1
  .have hb1:((K:Int) != 1)=false:=by rw[k1];rfl
   refine Ar Ac ?_;simp -implicitDefEqProofs [hb,hb1];exact Am.mk () ⟨k0,λh=>absurd k1 h⟩ (sub_env (by simp -implicitDefEqProofs))
  have hb1:((K:Int) != 1)=true:=by rw[bne_iff_ne];omega
  cases hcur:cur with
  | none=>
   have e8:CQ S K=8:=by
    unfold CQ;rw[zz k0,zz k1,hS,hcur];rfl
   have hR8:=hMay (by rw[e8];decide);rw[e8]at hR8;refine Ar Ac ?_;simp -implicitDefEqProofs [hb,hb1,E9,hnil,lx];exact A0 ⟨.t (.tu [Ah,iv (x.l:Int),iv 8]),H1,nx+1⟩ ⟨by rw[hR8]⟩ (by simp -implicitDefEqProofs)
  | some cu=>
   have hl0:((F.length:Int)+1==0)=false:=by rw[zu];omega
   refine Ar Ac ?_;simp -implicitDefEqProofs [hb,hb1,E9,hlr,hl0];exact Am.mk () ⟨k0,λ_ h=>(by cases h)⟩ (sub_env (by simp -implicitDefEqProofs [E9]))
 rintro _ ⟨k0,kcur⟩
 have hb0:((K:Int)==0)=false:=by rw[zu];omega
 refine AE (α:=Unit) (λ_=>stA) (λ_=>CQ S K=0) (λ_=>by rw[hstA]) ?_ ?_
 .rw[hstA];by_cases k1:K=1
  .have hb1:((K:Int)==1)=true:=by rw[k1];rfl
   have hb2:((K:Int) != 1)=false:=by rw[k1];rfl
   have e1:CQ S K=if 256<=S.all.length then 7 else 0:=by unfold CQ;rw[zz k0,zy k1]
   obtain⟨nl,hnl⟩:∃nl:Nat,nl=S.all.length:=⟨_,rfl⟩
   have hlo:AO (E9 F cur ko)=some (.t (iv (nl:Int))):=by
    rw[hnl,hS];exact B2v I.emp
   rw[<-hnl]at e1
   obtain⟨W,hW⟩:∃W,W=E9 F cur ko:=⟨_,rfl⟩
   rw[<-hW]at hlo ⊢;by_cases h256:256<=nl
   .rw[zy h256]at e1;have hR7:=hMay (by rw[e1];decide);rw[e1]at hR7
    have d2:(256:Int)<=(nl:Int):=by omega
    refine Ar Ac ?_;simp -implicitDefEqProofs [hb1,hb2,hlo,d2,h256,lx];exact A0 ⟨.t (.tu [Ah,iv (x.l:Int),iv 7]),H1,nx+1⟩ ⟨by rw[hR7]⟩ (by simp -implicitDefEqProofs)
   .rw[zz h256]at e1
    have d2:¬(256:Int)<=(nl:Int):=by omega
    refine Ar Ac ?_;simp -implicitDefEqProofs [hb1,hb2,hlo,d2,h256];exact Am.mk () e1 (sub_env (by simp -implicitDefEqProofs))
  .have hb1:((K:Int)==1)=false:=by rw[zu];omega
   have hb2:((K:Int) != 1)=true:=by rw[bne_iff_ne];omega
   cases hcur:cur with
   | none=>exact absurd hcur (kcur k1)
   | some cu=>
    obtain⟨O,hN⟩:=O1 cu hcur
    have e1:CQ S K=if 256<=Cz (K-2) cu.els then 7 else 0:=by
     unfold CQ;rw[zz k0,zz k1,hS,hcur];rfl
    obtain⟨a,ha1,ha2⟩:=B2s (name:=cu.name) (els:=cu.els) (kind:=K) (by omega) hK10;obtain⟨G2,hG⟩:=B2r (name:=cu.name) O.M;have lc:=jC (q:=q) (cs:=Md.cs ⟨cu.name,cu.els⟩) rfl (by omega) hK10 ha1 ha2;have CL:Ctx Xd (G q) (orc [(30,Jp [.ag (Md.cs ⟨cu.name,cu.els⟩),iv (K:Int)] (iv (Cz (K-2) cu.els:Int)))]):=(As.cons (Pp lc) .nil).ctx mixed;have gl:=Po [.ag (Md.cs ⟨cu.name,cu.els⟩),iv (K:Int)] (iv (Cz (K-2) cu.els:Int))
    obtain⟨nl,hnl⟩:∃nl,nl=Cz (K-2) cu.els:=⟨_,rfl⟩
    rw[<-hnl]at CL gl e1;have ia:=lI F ko;have lO:=lH O.out
    obtain⟨P,hP⟩:∃P,P=Bi (Bx cu.name cu.ks cu.els):=⟨_,rfl⟩
    rw[<-hP]at lO hG
    obtain⟨MC,hMC⟩:∃MC,MC=Md.cs ⟨cu.name,cu.els⟩:=⟨_,rfl⟩
    rw[<-hMC]at hG CL gl
    have w1:Xh.wrap (F.length:Int)=(F.length:Int):=by
     have:=I.fl;simp only at this;exact AP rfl (by omega)
    by_cases h256:256<=nl
    .rw[zy h256]at e1;have hR7:=hMay (by rw[e1];decide);rw[e1]at hR7
     have d2:(256:Int)<=(nl:Int):=by omega
     refine Ar CL ?_;simp -implicitDefEqProofs [hb1,hb2,E9,hlr,w1,ia,lO,hG,gl,d2,h256,lx];exact A0 ⟨.t (.tu [Ah,iv (x.l:Int),iv 7]),H1,nx+1⟩ ⟨by rw[hR7]⟩ (by simp -implicitDefEqProofs)
    .rw[zz h256]at e1
     have d2:¬(256:Int)<=(nl:Int):=by omega
     refine Ar CL ?_;simp -implicitDefEqProofs [hb1,hb2,E9,hlr,w1,ia,lO,hG,gl,d2,h256];exact Am.mk () e1 (sub_env (by simp -implicitDefEqProofs [E9]))
 rintro _ hmay
 have hcl:MN (ts.map kt) S (kt x) i=clA (ts.map kt) (kt x) i:=by rw[GB,<-hK,hmay];rfl
 have hfl:=I.fl;simp only at hfl;have L1:=E6 r1;have s2:=Jh r1 i;have r2:=Km r1 (i+1);have C2:=C1.upd (k:=0) (HZ (nx+1) t (i+1))
 have k2:∀c,c≠0->Aa (X6 H1 0 (rr t (i+1))) c=Aa H1 c:=λc hc=>by rw[AN,zz hc]
 obtain⟨H2,hH2⟩:∃H2,H2=X6 H1 0 (rr t (i+1)):=⟨_,rfl⟩
 rw[<-hH2]at s2 r2 C2 k2
 have t2:Aa H2 nx=some tk:=by rw[k2 nx (by omega)];exact t1
 have O2:∀cu,cur=some cu->P5 F cu ko H2 (nx+1)/\Co cu.els cu.ks nx:=λcu h=>by
  obtain⟨O,hN⟩:=O1 cu h;exact⟨⟨by rw[k2 ko O.ne];exact O.out,O.M.keep (λj hj=>k2 _ (λe=>O.n0 j hj e.symm)) (X0 _),O.n0,O.nk,O.lt,O.ne⟩,hN⟩
 have w2:Xh.wrap ((i:Int)+1)=(i:Int)+1:=AP (n:=i+1) rfl (by omega);rw[hstA];refine Ae Ac ?_;simp -implicitDefEqProofs [L1.l1,w2,s2];refine Bg (s':=⟨[(11,.t (iv (K:Int))),(10,.ptr nx 0),(9,E9 F cur ko),(8,.ptr 0 0),(5,.t t)],H2,nx+1,121⟩) (sub_env (by simp -implicitDefEqProofs)) rfl ?_;refine AE (P6 t nx K) (AfI t i nx K tk F cur) (λ_=>rfl) ?_ ?_
 .by_cases k1:K=1
  .have hb1:((K:Int)==1)=true:=by rw[k1];rfl
   cases hcur:cur with
   | none=>
    have hF:=I.emp hcur;simp only at hF;obtain⟨H3,ap,row,kk,_,c3⟩:=L4 (e:=eMd) (ty:=B5) (H:=H2) (b:=0) (l:=([]:List (RwC 10))) (by':=232) (nx:=nx+1) (⟨zMd,rfl⟩:RwC 10) 10 rfl (zMd.map .t) rfl (.inl rfl) (λh=>absurd rfl h) (by simp) (by simp);have row:=row.resolve_left (by simp);have hn:=lS F (λ_=>0);rw[hF,Yg]at hn;rw[hn]at row;have hrp:rowP eMd (nx+1+1) (([]:List (RwC 10))++[(⟨zMd,rfl⟩:RwC 10)]) = .row (nx+2) 0 1 10:=rfl;rw[hrp]at ap;have ap:Cc B5 10 232 ((nx+1,.cells B5 (zMd.map .t))::H2) (nx+1+1) (.t Ah) (.row (nx+1) 0 1 10)=some (.row (nx+2) 0 1 10,H3,nx+1+2):=ap;have hb:=lR (nx+1)
    obtain⟨zr,hzr⟩:∃zr,zr=zMd.map PV.t:=⟨_,rfl⟩
    rw[<-hzr]at ap hb;refine Ar Ac ?_;simp -implicitDefEqProofs [hb1,E9,lQ,hb,ap,-Bo];refine Am.mk ⟨H3,nx+1+2,[],⟨⟨#[]⟩,[],λ_=>0⟩,nx+2⟩ ⟨by show Aa H3 0=_;rw[kk 0 (by omega) (λh=>absurd rfl h)];exact r2,⟨row,Du.nil _ _ _,Co.nil _ _,Co.nil _ _,by show nx+2<nx+1+2;omega,by show nx+2≠0;omega⟩,by show Aa H3 nx=_;rw[kk nx (by omega) (λh=>absurd rfl h)];exact t2,Co.nil _ _,by show nx<nx+1+2;omega,by omega,by show nx≠nx+2;omega,c3 C2,Xe _,Xe _,.inl ⟨k1,by rw[hF];rfl,rfl⟩⟩ (sub_env (by simp -implicitDefEqProofs [P6]))
   | some cu=>
    obtain⟨O,hN⟩:=O2 cu hcur;have lk:=lK O.out O.M O.nk;have r3:Aa (B1 H2 (FU cu.els cu.ks)) 0=some (rr t (i+1)):=Uo r2 (P2 O.n0)
    have t3:Aa (B1 H2 (FU cu.els cu.ks)) nx=some tk:=QX (P2 hN) t2 λy hy=>by
     injection hy with hy;subst hy;exact tkC 0 H2 _ λ_ _=>Xe _
    have C3:=C2.frz (FU cu.els cu.ks);have fz1:BI H2 (FU cu.els cu.ks) (.row ko 0 (F.length+1) 10) = .row ko 0 (F.length+1) 10:=B2t (P2 O.nk)
    obtain⟨H3,hH3⟩:∃H3,H3=B1 H2 (FU cu.els cu.ks):=⟨_,rfl⟩
    rw[<-hH3]at lk r3 t3 C3
    obtain⟨F1,hF1⟩:∃F1,F1=F++[(⟨cu.name,cu.els⟩:Md)]:=⟨_,rfl⟩
    rw[<-hF1]at lk
    have hF1l:F1.length=F.length+1:=by rw[hF1,Xa];rfl
    have hne:F1.map Md.rw≠[]:=λe=>by have:=congrArg X8 e;rw[Xf,hF1l]at this;simp at this
    obtain⟨H4,ap,row,kk,_,c4⟩:=L4 (e:=eMd) (ty:=B5) (H:=H3) (b:=ko) (l:=F1.map Md.rw) (by':=232) (nx:=nx+1) (⟨zMd,rfl⟩:RwC 10) 10 rfl (zMd.map .t) rfl (.inr lk) (λ_=>O.lt) (by rw[Xf,hF1l];omega) (by rw[Xf,hF1l];omega);have row:=row.resolve_left (by simp);rw[lS F1 (λ_=>0)]at row
    have hrp:rowP eMd ko (F1.map Md.rw) = .row ko 0 (F.length+1) 10:=by rw[MM _ _ _ hne,Xf,hF1l];rfl
    have hrp2:rowP eMd (nx+1+1) (F1.map Md.rw++[(⟨zMd,rfl⟩:RwC 10)]) = .row (nx+2) 0 (F1.length+1) 10:=by rw[MM _ _ _ (by simp),Xa,Xf];rfl
    rw[hrp,hrp2]at ap;have ap:Cc B5 10 232 ((nx+1,.cells B5 (zMd.map .t))::H3) (nx+1+1) (.row ko 0 (F.length+1) 10) (.row (nx+1) 0 1 10)=some (.row (nx+2) 0 (F1.length+1) 10,H4,nx+1+2):=ap;have hb:=lR (nx+1)
    obtain⟨zr,hzr⟩:∃zr,zr=zMd.map PV.t:=⟨_,rfl⟩
    rw[<-hzr]at ap hb;have hko:=O.ne
    have hnk:nx≠ko:=by
     have:=(I.out cu hcur).1.lt;simp only at this;omega
    refine Bg (s':=⟨[(11,.t (iv (K:Int))),(10,.ptr nx 0),(9,.row ko 0 (F.length+1) 10),(8,.ptr 0 0),(5,.t t)],H3,nx+1,121⟩) (by rw[hH3];exact EI _ (by simp -implicitDefEqProofs [E9,fz1,Lr,O8])) rfl ?_;refine Ar Ac ?_;simp -implicitDefEqProofs [hb1,lQ,hb,ap,-Bo];refine Am.mk ⟨H4,nx+1+2,F1,⟨⟨#[]⟩,[],λ_=>0⟩,nx+2⟩ ⟨by show Aa H4 0=_;rw[kk 0 (by omega) (λ_=>hko.symm)];exact r3,⟨row,Du.nil _ _ _,Co.nil _ _,Co.nil _ _,by show nx+2<nx+1+2;omega,by show nx+2≠0;omega⟩,by show Aa H4 nx=_;rw[kk nx (by omega) (λ_=>hnk)];exact t3,Co.nil _ _,by show nx<nx+1+2;omega,by omega,by show nx≠nx+2;omega,c4 C3,Xe _,by show F1.length<=i+1;omega,.inl ⟨k1,by rw[hF1];rfl,rfl⟩⟩ (sub_env (by simp -implicitDefEqProofs [P6]))
  .have hb1:((K:Int)==1)=false:=by rw[zu];omega
   cases hcur:cur with
   | none=>exact absurd hcur (kcur k1)
   | some cu=>
    obtain⟨O,hN⟩:=O2 cu hcur;obtain⟨_,hel⟩:=I.out cu hcur;simp only at hel
    have hnk:nx≠ko:=by
     have:=(I.out cu hcur).1.lt;simp only at this;omega
    refine Ar Ac ?_;simp -implicitDefEqProofs [hb1,E9];exact Am.mk ⟨H2,nx+1,F,cu,ko⟩ ⟨r2,O,t2,hN,by show nx<nx+1;omega,by omega,hnk,C2,by show cu.els.length<=i+1;omega,by show F.length<=i+1;omega,.inr ⟨k1,rfl,rfl⟩⟩ (sub_env (by simp -implicitDefEqProofs [P6]))
 rintro⟨H3,n3,F1,cu,kb⟩ J;obtain⟨jrd,jO,jtk,jntk,jlt,jnt0,jnk,jcl,jel,jfl,jrel⟩:=J;simp only at jrd jO jtk jntk jlt jnt0 jnk jcl jel jfl jrel;have olt:=jO.lt;have one:=jO.ne
 have K1:1<=K:=by omega
 obtain⟨ps,e,i4,H4,n4,tb,hl,hclr,r4,hi4,hdis,k4,n4',c4,a1,a2⟩:=B2u (A9b (q:=q) (name:=cu.name) ht hlim hsm jrd (by omega) (show i+1<=ts.length by omega) jcl jO.M jO.n0 (by omega) K1 hK10);have CC:Ctx Xd (G q) _:=As.nil.ctxH (AF.cons a2 .nil) mixed;have ia:=lI F1 kb;have lO:=lH jO.out;have hlr1:AO (.row kb 0 (F1.length+1) 10)=some (.t (iv ((F1.length:Int)+1))):=rfl;have w3:Xh.wrap (F1.length:Int)=(F1.length:Int):=AP rfl (by omega)
 obtain⟨P,hP⟩:∃P,P=Bi (Bx cu.name cu.ks cu.els):=⟨_,rfl⟩
 obtain⟨P4,hP4⟩:∃P4,P4=Bi ps:=⟨_,rfl⟩
 rw[<-hP]at lO a1;rw[<-hP4]at a1;obtain⟨x1,x2⟩:=RH P4 e
 obtain⟨zp,hzp⟩:∃zp:List PV,zp=[.t (sv ⟨#[]⟩),.t Ah,.t Ah,.t Ah,.t Ah,.t Ah,.t Ah,.t Ah,.t Ah,.t Ah]:=⟨_,rfl⟩
 have st5:AM 10 ((n4,.cells B5 [.t (sv ⟨#[]⟩),.t Ah,.t Ah,.t Ah,.t Ah,.t Ah,.t Ah,.t Ah,.t Ah,.t Ah])::H4) (.ptr n4 0) P4=some ((n4,.cells B5 ps)::H4):=by
  rw[hP4];exact A8n ps hl n4 B5 _ rfl H4
 obtain⟨H5,hH5⟩:∃H5:Ab,H5=(n4,.cells B5 ps)::H4:=⟨_,rfl⟩
 rw[<-hH5]at st5
 have k5:∀c,c<n4->Aa H5 c=Aa H4 c:=λc hc=>by rw[hH5,Az,zz (by omega)]
 have r5:Aa H5 0=some (rr t i4):=by rw[k5 0 (by omega)];exact r4
 have p5:Aa H5 n4=some (.cells B5 ps):=by rw[hH5,Az,zy rfl]
 have t5:Aa H5 nx=some tk:=by rw[k5 nx (by omega),k4 nx jlt jnt0 jntk];exact jtk
 have o5:Aa H5 kb=some (.cells B5 (Gk F1 cu)):=by rw[k5 kb (by omega),k4 kb olt one jO.nk];exact jO.out
 have C5:Cl H5 (n4+1):=by rw[hH5];exact(c4 jcl).cons ((hclr jcl).mono (X7 _)) (X7 _)
 obtain⟨lx5,_⟩:=ldt H5 t5;refine Ae CC ?_;simp -implicitDefEqProofs [P6,hlr1,w3,ia,lO,a1,x1,x2,st5,-BC];refine Bg (s':=⟨[(13,.t (iv e)),(12,.ptr n4 0),(10,.ptr nx 0),(9,.row kb 0 (F1.length+1) 10),(8,.ptr 0 0),(5,.t t)],H5,n4+1,121⟩) (sub_env (by simp -implicitDefEqProofs)) rfl ?_;rcases hdis with⟨ho,he⟩ | ⟨a,ho,rfl,name',ks',els',hps,hM,hN,hrel⟩
 .have hb1:(e==0)=false:=by rw[zu];exact he
  have hb2:(e != 0)=true:=by rw[bne_iff_ne];exact he
  have hRe:=hErr e (by rw[hcl];unfold clA;rw[<-hK,ho]);refine Ae Ac ?_;simp -implicitDefEqProofs [hb1];refine Ae Ac ?_;simp -implicitDefEqProofs [hb2,lx5];exact A0 ⟨.t (.tu [Ah,iv (x.l:Int),iv e]),H5,n4+1⟩ ⟨by rw[hRe]⟩ (by simp -implicitDefEqProofs)
 have hfa:=UL K _ _ _ ho;obtain⟨e2,i6,H6,n6,tc,r6,hi6,hd6,K6,b1,b2⟩:=fC (fJ (q:=q) (nx:=n4+1) ht hlim r5 hi4 ⟨#[59]⟩);rw[show(⟨#[59]⟩:ByteArray).data.toList=[59]from rfl]at hd6;have CS:Ctx Xd (G q) _:=As.nil.ctxH (AF.cons b2 .nil) mixed;have n6':=K6.n
 have t6:Aa H6 nx=some tk:=by rw[K6.k nx (by omega) jnt0];exact t5
 obtain⟨lx6,_⟩:=ldt H6 t6;refine Ae CS ?_;simp -implicitDefEqProofs [b1];rcases hd6 with⟨hsk,rfl⟩ | ⟨hsk,he⟩
 rotate_left
 .have hb2:(e2 != 0)=true:=by rw[bne_iff_ne];exact he
  have hRe:=hErr e2 (by rw[hcl];unfold clA;rw[<-hK,ho];simp only;rw[hsk]);refine Ae Ac ?_;simp -implicitDefEqProofs [hb2,lx6];exact A0 ⟨.t (.tu [Ah,iv (x.l:Int),iv e2]),H6,n6⟩ ⟨by rw[hRe]⟩ (by simp -implicitDefEqProofs)
 have hclk:clA (ts.map kt) (kt x) i = .ok (a,i6):=by
  unfold clA;rw[<-hK,ho];simp only;rw[hsk]
 have hs6:=HR hsk;rw[hcl,hclk]at hz;simp only at hz
 have p6:Aa H6 n4=some (.cells B5 ps):=by rw[K6.k n4 (by omega) (by omega)];exact p5
 have o6:Aa H6 kb=some (.cells B5 (Gk F1 cu)):=by rw[K6.k kb (by omega) one];exact o5
 have lP:=Pb p6 hl;have sP:=B2n o6 hl;rw[<-hP4]at lP sP
 obtain⟨H7,hH7⟩:∃H7,H7=X6 H6 kb (.cells B5 ((F1.flatMap Md.cs).map .t++ps)):=⟨_,rfl⟩
 rw[<-hH7]at sP;refine Ae Ac ?_;simp -implicitDefEqProofs;refine Ar Ac ?_;simp -implicitDefEqProofs [hlr1,w3,lP,ia,sP];have N0:=hN 0 (by omega) jO.n0;have Nk:=hN kb olt jO.nk
 have hadd:S.add a=LX F1 (some ⟨name',els',ks'⟩):=by
  rcases jrel with⟨k1,hF1,hel0⟩ | ⟨k1,hF1,hcur⟩
  .subst k1;obtain⟨n,rfl⟩:=lM ho;obtain⟨rfl,rfl⟩:=hrel;rw[hel0,hS,hF1];rfl
  .obtain⟨y,rfl⟩:=lN k1 ho;obtain⟨rfl,rfl⟩:=hrel;rw[hF1,hS,hcur];rfl
 have hel':els'.length<=i+2:=by
  rcases jrel with⟨k1,hF1,hel0⟩ | ⟨k1,hF1,hcur⟩
  .subst k1;obtain⟨n,rfl⟩:=lM ho;obtain⟨rfl,rfl⟩:=hrel;omega
  .obtain⟨y,rfl⟩:=lN k1 ho;obtain⟨rfl,rfl⟩:=hrel;rw[Xa,List.length_singleton];omega
 refine Am.mk ⟨H7,n6,i6,F1,some ⟨name',els',ks'⟩,kb,m⟩ ⟨⟨?_,?_,hi6,?_,?_,?_,λh=>(by cases h),λcu' h=>?_,?_⟩,Nat.lt_succ_self m⟩ (sub_env (by simp -implicitDefEqProofs [SPs,E9]))
 .show Z=CR (ts.map kt) m i6 _;rw[hz,hadd]
 .show Aa H7 0=_;rw[hH7,AN,zz (Ne.symm one)];exact r6
 .show ts.length<i6+m;omega
 .show Cl H7 n6;rw[hH7];refine(K6.cl C5).upd (ClR.cells λp hp=>?_);rcases List.mem_append.1 hp with hp | hp
  .obtain⟨y,_,rfl⟩:=Xu.1 hp;exact ClP.t _ _
  .exact(ClR.mem (hclr jcl) p hp).mono (by omega)
 .show 0<n6;omega
 .injection h with h;subst h;refine⟨⟨?_,hM.keep (λj hj=>?_) (by show n4<=n6;omega),N0,Nk,by show kb<n6;omega,one⟩,by show els'.length<=i6;omega⟩
  .show Aa H7 kb=some (.cells B5 ((F1.flatMap Md.cs).map .t++Bx name' ks' els'));rw[hH7,AN,zy rfl,o6,hps];rfl
  .have hlt:=hM.lt j hj;show Aa H7 _=_;rw[hH7,AN,zz (λh=>Nk j hj h.symm),K6.k _ (by omega) (λh=>N0 j hj h.symm)];exact k5 _ hlt
 .show F1.length<=i6;omega
def gPs (ts:List T):Option T:=match ts with
 | [.v (.string s)]=>if s.size<=1000000 then some (HQ (Cd s.data.toList))else none
 | _=>none
theorem hPs:GOK Xd (G q) 14 gPs:=λargs r h=>by
 unfold gPs at h;split at h
 .split at h
  .rename_i hs;injection h with h;subst h;exact B2y _ hs
  .cases h
 .cases h
theorem Hp {s:ByteArray} (hs:s.size<=1000000):gPs [sv s]=some (HQ (Cd s.data.toList)):=zy hs
def tLM:Ty (List ML):=⟨λt l=>DD t l,λ_ _ _ h h'=>IsL.uniq Cn.uniq h h'⟩
structure PrL (L:List ML):Prop where
 l:L.length<=100000
 s:∀m∈L,Np m
 p:∀m∈L,FF m
 n:(Ev L).length<=100000000000000
noncomputable def LY (ts:List T):Option T:=g1 tLM (λL=>open Classical in if PrL L then some (LW L)else none) ts
theorem lV {t:T} {L:List ML} (ht:DD t L) (h:PrL L):LY [t]=some (LW L):=by
 show g1 _ _ _=_;rw[D8 (τ:=tLM) (x:=L) ht,zy h]
theorem lW:GOK Xd (G q) 17 LY:=D6 λa x r ha hr=>by
 split at hr
 .rename_i hc;injection hr with hr;subst hr;exact B2m ha hc.l hc.s hc.p hc.n
 .cases hr
abbrev ex1:List UInt8:=[109,111,100,117,108,101,32,109,59,32,116,121,112,101,32,116,121,112,101,59,32,101,110,116,114,121,32,101,110,116,114,121,32,34,97,34,32,61,32,116,121,112,101,59]
abbrev ex2:List UInt8:=[109,111,100,117,108,101,32,109,59,10,116,121,112,101,32,97,32,60,32,98]
abbrev ex3:List UInt8:=[116,121,112,101,32,97,59]
abbrev ex4:List UInt8:=[109,111,100,117,108,101,32,109,59,32,101,110,116,114,121,32,97,32,34,84,104,101,34,32,61,32,116,59]
abbrev exP:List UInt8:=[109,111,100,117,108,101,32,109,59,10,116,121,112,101,32,116,121,112,101,59,10,101,110,116,114,121,32,101,110,116,114,121,32,34,97,34,32,61,32,116,121,112,101,59,10]
abbrev exT:ByteArray:=bs [116,121,112,101]
def exM:Md:=⟨bs [109],[.typ ⟨exT,[],[]⟩,.ent [bs [97]] ⟨bs [101,110,116,114,121],.mk 1 exT [] [],[]⟩]⟩
theorem lX:Cd ex1 = .ok [exM]:=by kernel_rfl
theorem B2z:Cd ex2 = .error (2,9):=by kernel_rfl
theorem B3a:Cd ex3 = .error (1,8):=by kernel_rfl
theorem B3b:Cd ex4 = .error (1,1):=by kernel_rfl
theorem B3c:LW [exM.ml] = .tu [sv (bs exP),iv 0]:=by kernel_rfl
theorem P7 {α:Type} {sep:List UInt8} {f:α->List UInt8} {K:Nat}:∀{L:List α} {hd:List UInt8},(∀x∈L,(f x).length<=K)->hd.length<=3->sep.length<=3->(gl hd sep f L).length<=L.length*(K+3)
 | [],_,_,_,_=>Xe _
 | x::r,hd,h,h1,h2=>by
  have h3:=h x Ya;have h4:=P7 (sep:=sep) (hd:=sep) (L:=r) (λy hy=>h y (Yb _ hy)) h2 h2;rw[gl,Xa,Xa,Xb,Yc];omega
theorem lY (d:Ds):(Eu d).length<=65536:=by
 unfold Eu;split
 .exact Xe _
 .split
  .exact Xe _
  .omega
theorem RO {d:Dfn} (h:d.defaults.length<=256):(Cs d).length<=20000000:=by
 unfold Cs LS;have h1:=lY d.strict;have h2:=P7 (sep:=[32,47,32]) (f:=Eu) (K:=65536) (L:=d.defaults) (hd:=[32,47,32]) (λx _=>lY x) (by decide) (by decide);have h3:d.defaults.length*(65536+3)<=256*(65536+3):=Xr _ h;rw[Xa,Xa];simp only[Xb,Xc];omega
theorem Vk {sep:List UInt8} (h2:sep.length<=3) {L:List ByteArray} (h:∀s∈L,s.size<=32):(Cp sep L).length<=L.length*35:=
 P7 (sep:=sep) (f:=λs:ByteArray=>s.data.toList) (K:=32) (hd:=[]) (λs hs=>h s hs) (by decide) h2
theorem EU.pr {d:Dfn} (h:EU d) {B:Nat} (hz:dfZ B d) (hB:B<=4000):PrD d:=by
 have w:∀k,Bb k 1=0->(wrD k).length<=16*B->D2 k/\(Bb k 1=0->Wr k):=λk hk hl=>by
  have hs:=Nr k 1 hk;have hn:=kG k 1 hk;exact⟨hs.sized,λ_=>hs.wr (by omega) hk⟩
 have h1:=w _ h.s hz.1;refine⟨h1.1,h1.2,by have:=h.l;omega,λk hk=>w k (h.d k hk) (hz.2 k hk),by have:=RO h.l;omega⟩
theorem lZ (s:ByteArray):s.data.toList.length=s.size:=rfl
theorem Jz {big:Bool} {s:ByteArray} (h:AD big s=true):s.data.toList.length<=32:=KB h
structure Sh (m:ML):Prop where
 p0:∀s∈m.imps,(GD s).length<=60000000
 p1:∀x∈m.typs,(GE x).length<=60000000
 p2:∀d∈m.tmps,(dnW Jt d).length<=60000000
 p3:∀p∈m.ents,(GF p).length<=60000000
 p4:∀p∈m.lexs,(GG p).length<=60000000
 p5:∀d∈m.ruls,(dnW Ju d).length<=60000000
 p6:∀d∈m.roos,(dnW Jv d).length<=60000000
 p7:∀p∈m.chks,(GH p).length<=60000000
 p8:∀s∈m.drps,(GJ s).length<=60000000
section
variable {m : Md} {B : Nat} (G : CY B m) (hB : B <= 4000)
include G hB
theorem CY.sh:Sh m.ml:=by
 have dn:∀(w:List UInt8) (d:Dfn),w.length<=9->EU d->(dnW w d).length<=60000000:=λw d hw hd=>by
  have h1:=RO hd.l;have h2:=Jz hd.n;unfold dnW;rw[Xa,Xa];omega
 refine⟨λs hs=>?_,λx hx=>?_,λd hd=>dn _ d (by decide) (G.tm d hd).1,λp hp=>?_,λp hp=>?_,λd hd=>dn _ d (by decide) (G.ru d hd).1,λd hd=>dn _ d (by decide) (G.ro d hd).1,λp hp=>?_,λs hs=>?_⟩
 .have:=Jz (G.i s hs);unfold GD;rw[Xa];simp only[Xb,Xc];omega
 .have h:=G.t x hx;have h1:=Jz h.n;have h2:=Vk (sep:=[44,32]) (by decide) λs hs=>KB (h.s s hs)
  have h3:=P7 (sep:=[44,32]) (f:=ftW) (K:=65) (L:=x.feats) (hd:=[32,58,32]) (λp hp=>by
   have h4:=Jz (h.f p hp).1;have h5:=Jz (h.f p hp).2;unfold ftW;rw[Xa,Xb]
   omega) (by decide) (by decide)
  have h6:x.supers.length*35<=256*35:=Xr _ h.ls;have h7:x.feats.length*(65+3)<=256*(65+3):=Xr _ h.lf
  have h8:(if x.supers=[]then []else [32,60,32]++Cp [44,32] x.supers:List UInt8).length<=3+(Cp [44,32] x.supers).length:=by
   split
   .exact Xe _
   .rw[Xa];exact X0 _
  unfold GE tyW;rw[Xa,Xa,Xa];simp only[Xb,Xc];omega
 .obtain⟨⟨_,hw,hd⟩,hl,_⟩:=G.en p hp;have h1:=Jz hd.n;have h2:=Vk (sep:=[32]) (by decide) λs hs=>lF (hw s hs);have h3:=RO hd.l;have h4:p.1.length*35<=4001*35:=Xr _ (by omega);unfold GF;simp only[Xa,Xb,Xc];omega
 .obtain⟨hx,⟨hl,hz⟩,_⟩:=G.lx p hp;have h1:=Jz hx.d.n;have h3:=RO hx.d.l
  have h4:(afW p.1).length<=7+4000*(8005+3):=by
   unfold afW;split
   .simp
   .have h5:=P7 (sep:=[44,32]) (f:=chW) (K:=8005) (L:=p.1.pairs) (hd:=[]) (λy hy=>by
     have h6:=hz y hy;have e1:=lZ y.1;have e2:=lZ y.2;unfold chW;simp only[Xa,Xb,Xc]
     omega) (by decide) (by decide)
    have h7:p.1.pairs.length*(8005+3)<=4000*(8005+3):=Xr _ (by omega);rw[Xa]
    have h8:(if p.1.kind=1 then [115,117,102,102,105,120,32]else [112,114,101,102,105,120,32]:List UInt8).length=7:=by split<;>rfl
    omega
  unfold GG;simp only[Xa,Xb,Xc];omega
 .obtain⟨_,hl,hn⟩:=G.ck p hp;have h2:=Vk (sep:=[46]) (by decide) λs hs=>KB (hn s hs);have h4:p.length*35<=64*35:=Xr _ hl;unfold GH;rw[Xa];simp only[Xb,Xc];omega
 .have:=Jz (G.dr s hs);unfold GJ;rw[Xa];simp only[Xb,Xc];omega
theorem CY.pr:FF m.ml:=by
 obtain⟨n0,n1,n2,n3,n4,n5,n6,n7,n8⟩:=G.lens;have H:=G.sh hB;refine⟨by have:=KB G.n;exact Xg this (by decide),by omega,by omega,by omega,by omega,by omega,by omega,by omega,by omega,by omega,λs hs=>Xg (H.p0 s hs) (by decide),λx hx=>?_,λd hd=>⟨(G.tm d hd).1.pr (G.tm d hd).2 hB,Xg (H.p2 d hd) (by decide)⟩,λp hp=>?_,λp hp=>?_,λd hd=>⟨(G.ru d hd).1.pr (G.ru d hd).2 hB,Xg (H.p5 d hd) (by decide)⟩,λd hd=>⟨(G.ro d hd).1.pr (G.ro d hd).2 hB,Xg (H.p6 d hd) (by decide)⟩,λp hp=>⟨by have:=(G.ck p hp).2.1;omega,Xg (H.p7 p hp) (by decide)⟩,λs hs=>Xg (H.p8 s hs) (by decide)⟩
 .have h:=G.t x hx;have h1:=h.ls;have h2:=h.lf;exact⟨by omega,by omega,Xg (H.p1 x hx) (by decide)⟩
 .obtain⟨⟨_,hw,hd⟩,hl,hz⟩:=G.en p hp;exact⟨by omega,hd.pr hz hB,Xg (H.p3 p hp) (by decide)⟩
 .obtain⟨hx,⟨hl,_⟩,hz⟩:=G.lx p hp;exact⟨by omega,hx.d.pr hz hB,Xg (H.p4 p hp) (by decide)⟩
theorem CY.mod_len:(Jx m.ml).length<=138300000000:=by
 obtain⟨n0,n1,n2,n3,n4,n5,n6,n7,n8⟩:=G.lens;have H:=G.sh hB
 have fl:∀{α:Type} (L:List α) (f:α->List UInt8),L.length<=256->(∀x∈L,(f x).length<=60000000)->((L.map f).flatMap ET).length<=256*60000002:=λL f hl hf=>by
  have:∀L':List _,(∀x∈L',x∈L)->((L'.map f).flatMap ET).length<=L'.length*60000002:=by
   intro L'
   induction L' with
   | nil=>intro _;exact Xe _
   | cons x r ih=>
    intro hm;have h1:=ih λy hy=>hm y (Yb _ hy);have h2:=hf x (hm x Ya)
    have e:(ET (f x)).length=(f x).length+2:=by unfold ET;rw[Xa];rfl
    rw[Xt,Xv,Xa,Xb,Yc,e];omega
  exact Xg (this L λ_ h=>h) (Xr _ hl)
 have h0:=Jz G.n;have k2:=fl m.ml.imps GD n0 H.p0;have k3:=fl m.ml.typs GE n1 H.p1;have k4:=fl m.ml.tmps (dnW Jt) n2 H.p2;have k5:=fl m.ml.ents GF n3 H.p3;have k6:=fl m.ml.lexs GG n4 H.p4;have k7:=fl m.ml.ruls (dnW Ju) n5 H.p5;have k8:=fl m.ml.roos (dnW Jv) n6 H.p6;have k9:=fl m.ml.chks GH n7 H.p7;have k10:=fl m.ml.drps GJ n8 H.p8
 have hh:(LV m.ml).length<=41:=by
  have:m.ml.name.data.toList.length<=32:=h0;unfold LV;simp only[Xa,Xb,Xc];omega
 have e:(kinds.flatMap (N1 m.ml)).length=((m.ml.imps.map GD).flatMap ET).length+(((m.ml.typs.map GE).flatMap ET).length+(((m.ml.tmps.map (dnW Jt)).flatMap ET).length+(((m.ml.ents.map GF).flatMap ET).length+(((m.ml.lexs.map GG).flatMap ET).length+(((m.ml.ruls.map (dnW Ju)).flatMap ET).length+(((m.ml.roos.map (dnW Jv)).flatMap ET).length+(((m.ml.chks.map GH).flatMap ET).length+((m.ml.drps.map GJ).flatMap ET).length))))))):=by
  simp only[kinds,Xv,List.flatMap_nil,Xa,Xc,Nat.add_zero];rfl
 unfold Jx;rw[Xa,e];omega
end
theorem B3d {L:List Md} {B:Nat} (h:∀m∈L,CY B m) (hB:B<=4000) (hl:L.length<=256):(Ev (L.map Md.ml)).length<=100000000000000:=by
 have:∀L':List Md,(∀m∈L',CY B m)->(Ev (L'.map Md.ml)).length<=L'.length*138300000000:=by
  intro L'
  induction L' with
  | nil=>intro _;exact Xe _
  | cons x r ih=>
   intro hm;have h1:=ih λy hy=>hm y (Yb _ hy);have h2:=(hm x Ya).mod_len hB;unfold Ev at h1 ⊢;rw[Xt,Xv,Xa,Xb,Yc];omega
 have h1:=this L h;have h2:L.length*138300000000<=256*138300000000:=Xr _ hl;omega
theorem mA {L:List Md} {B:Nat} (h:∀m∈L,CY B m) (hB:B<=4000) (hl:L.length<=256):PrL (L.map Md.ml):=by
 refine⟨by rw[Xf];omega,λm hm=>?_,λm hm=>?_,B3d h hB hl⟩
 .obtain⟨x,hx,rfl⟩:=Xu.1 hm;exact(h x hx).sz (by omega)
 .obtain⟨x,hx,rfl⟩:=Xu.1 hm;exact(h x hx).pr hB
theorem B3e (c:List T):AO (.t (.sl 1 c))=some (.t (iv 1)):=rfl
theorem B3f (a0 a1 a2 a3 a4 a5 a6 a7 a8 a9:T):Bd 10 (.t (.sl 1 [a0,a1,a2,a3,a4,a5,a6,a7,a8,a9])) (.t (iv 0))=some (.t (.pt [a0,a1,a2,a3,a4,a5,a6,a7,a8,a9])):=rfl
theorem B3g (a0 a1 a2 a3 a4 a5 a6:T):Bd 7 (.t (.sl 1 [a0,a1,a2,a3,a4,a5,a6])) (.t (iv 0))=some (.t (.pt [a0,a1,a2,a3,a4,a5,a6])):=rfl
theorem B3h:A1 Xd (G q) 9 [] (· = bv true):=by
 have C:Ctx Xd (G q) (orc [(14,gPs),(17,LY),(20,Kc)]):=(As.cons hPs (.cons lW (.cons OK .nil))).ctx mixed;have p1:=(Hp (s:=bs ex1) (by decide)).trans (congrArg some (congrArg HQ lX));have p2:=(Hp (s:=bs ex2) (by decide)).trans (congrArg some (congrArg HQ B2z));have p3:=(Hp (s:=bs ex3) (by decide)).trans (congrArg some (congrArg HQ B3a));have p4:=(Hp (s:=bs ex4) (by decide)).trans (congrArg some (congrArg HQ B3b));have hg:=LR lX (B:=4000) (by decide);have p5:LY [Cb [exM]]=some (.tu [sv (bs exP),iv 0]):=(lV (DD.mds [exM]) (mA (λm hm=>(hg.1 m hm).1) (by omega) hg.2)).trans (congrArg some B3c)
 obtain⟨a0,a1,a2,a3,a4,a5,a6,a7,b1,b2,b3,b4,b5,b6,hm⟩:∃a0 a1 a2 a3 a4 a5 a6 a7 b1 b2 b3 b4 b5 b6,Cb [exM] = .sl 1 [a0,a1,.sl 1 a2,a3,.sl 1 [.sl 1 [sv (bs [97])],b1,b2,b3,b4,b5,b6],a4,a5,a6,a7,Ah]:=⟨_,_,_,_,_,_,_,_,_,_,_,_,_,_,rfl⟩
 have p6:Kc [.sl 1 [sv (bs [97])],.sl 1 [sv (bs [97])]]=some (bv true):=Lw (l:=[bs [97]]) (.inr rfl) (.inr rfl) (by decide);have p1:gPs [sv ⟨#[109,111,100,117,108,101,32,109,59,32,116,121,112,101,32,116,121,112,101,59,32,101,110,116,114,121,32,101,110,116,114,121,32,34,97,34,32,61,32,116,121,112,101,59]⟩]=some (.tu [Cb [exM],iv 0,iv 0]):=p1;have p2:gPs [sv ⟨#[109,111,100,117,108,101,32,109,59,10,116,121,112,101,32,97,32,60,32,98]⟩]=some (.tu [Ah,iv 2,iv 9]):=p2;have p3:gPs [sv ⟨#[116,121,112,101,32,97,59]⟩]=some (.tu [Ah,iv 1,iv 8]):=p3;have p4:gPs [sv ⟨#[109,111,100,117,108,101,32,109,59,32,101,110,116,114,121,32,97,32,34,84,104,101,34,32,61,32,116,59]⟩]=some (.tu [Ah,iv 1,iv 1]):=p4;have p5:LY [Cb [exM]]=some (.tu [sv ⟨#[109,111,100,117,108,101,32,109,59,10,116,121,112,101,32,116,121,112,101,59,10,101,110,116,114,121,32,101,110,116,114,121,32,34,97,34,32,61,32,116,121,112,101,59,10]⟩,iv 0]):=p5;have p6:Kc [.sl 1 [sv ⟨#[97]⟩],.sl 1 [sv ⟨#[97]⟩]]=some (bv true):=p6;rw[hm]at p1 p5;have p1:gPs [sv ⟨#[109,111,100,117,108,101,32,109,59,32,116,121,112,101,32,116,121,112,101,59,32,101,110,116,114,121,32,101,110,116,114,121,32,34,97,34,32,61,32,116,121,112,101,59]⟩]=some (.tu [.sl 1 [a0,a1,.sl 1 a2,a3,.sl 1 [.sl 1 [sv ⟨#[97]⟩],b1,b2,b3,b4,b5,b6],a4,a5,a6,a7,Ah],iv 0,iv 0]):=p1;have p5:LY [.sl 1 [a0,a1,.sl 1 a2,a3,.sl 1 [.sl 1 [sv ⟨#[97]⟩],b1,b2,b3,b4,b5,b6],a4,a5,a6,a7,Ah]]=some (.tu [sv ⟨#[109,111,100,117,108,101,32,109,59,10,116,121,112,101,32,116,121,112,101,59,10,101,110,116,114,121,32,101,110,116,114,121,32,34,97,34,32,61,32,116,121,112,101,59,10]⟩,iv 0]):=p5;refine uI.call rfl ?_;refine Ap C ?_
 (conv in aC=>cbv);simp -implicitDefEqProofs [p1,p2,p3,p4,p5,p6,B3e,B3f,B3g,ldS,bsS]
def gEx:List T->Option T
 | []=>some (bv true)
 | _=>none
theorem hEx:GOK Xd (G q) 9 gEx:=λargs r hr=>by
 unfold gEx at hr;split at hr
 .injection hr with hr;subst hr;exact B3h
 .cases hr
theorem ge0:gEx []=some (bv true):=rfl
end Go.Proofs.YtobnacghaamfoaaGreatDoor
