/- Auxiliary facts. -/
import Derived.Test.YtobnacghaamfoaaGreatDoorVHQ14
set_option linter.unusedSimpArgs false
set_option maxRecDepth 100000
set_option maxHeartbeats 0
set_option linter.unusedVariables false
open Go.Proofs.Tryz renaming prog->Xa
open List renaming getElem?_eq_getElem->Xb,map_cons->Xd,length_map->Xe,mem_of_getElem?->Xf,cons->Xg,map_nil->Xi,mem_singleton->Xn,mem_map->Xo,getElem?_map->Xq,map_map->Xr,getElem?_eq_some_iff->Xu,length_cons->Xv,mem_cons_self->Xw,mem_cons_of_mem->Xx,getElem?_cons_zero->Xz
open Go.IntKind renaming i64->Xc
open Nat renaming le_succ->Xh,le_refl->Xk,le_trans->Xm,lt_succ_self->Xs
open Option renaming map_eq_some_iff->Xj,some->X0
open Go.Abs renaming rowP->Xl
open Int renaming eq_ofNat_of_zero_le->Xp
open Bool renaming false_eq_true->Xt,eq_iff_iff->Xy
namespace Go.Proofs.YtobnacghaamfoaaGreatDoor
open Go Go.Abs
def eR (z:Nat) (h:0<z):Enc (RwC z):=⟨z,Subtype.val,Subtype.property,h,λ_ _ h=>Subtype.ext h⟩
abbrev eR6:Enc (RwC 6):=eR 6 (by omega)
abbrev eR3:Enc (RwC 3):=eR 3 (by omega)
abbrev eR7:Enc (RwC 7):=eR 7 (by omega)
abbrev eR8:Enc (RwC 8):=eR 8 (by omega)
abbrev eR1:Enc (RwC 1):=eR 1 (by omega)
def rwD (d:Dfn):RwC 6:=⟨d.cs,d.len⟩
def rwT (x:TyD):RwC 3:=⟨x.cs,rfl⟩
def rwE (p:List ByteArray×Dfn):RwC 7:=⟨Am Aj p.1::p.2.cs,by rw[Xv,p.2.len]⟩
def rwL (p:Afx×Dfn):RwC 8:=⟨p.1.cs++p.2.cs,by rw[List.length_append,p.2.len];rfl⟩
def rwK (p:List ByteArray):RwC 1:=⟨[Am Aj p],rfl⟩
def rwS (s:ByteArray):RwC 1:=⟨[sv s],rfl⟩
theorem aQ {α β:Type} (e:Enc α) (e':Enc β) (f:α->β) (h:∀x,e'.enc (f x)=e.enc x) (l:List α):Am e' (l.map f)=Am e l:=by
 cases l with
 | nil=>rfl
 | cons x r=>
  simp only[Am,Xd,slT,Xv,Xe,List.flatMap_cons,List.flatMap_map,h]
def IsL {α:Type} (z:Nat) (h:0<z) (R:α->List T->Prop) (t:T) (l:List α):Prop:=∃L:List (α×RwC z),L.map (·.1)=l/\IsS (eR z h) t (L.map (·.2))/\∀p∈L,R p.1 p.2.1
section
variable {α : Type} {z : Nat} {h : 0 < z} {R : α -> List T -> Prop} {t : T} {l : List α}
theorem IsL.len (H:IsL z h R t l):Bd (.t t)=some (.t (iv (l.length:Int))):=by
 obtain⟨L,rfl,h1,_⟩:=H;rw[h1.len,Xe,Xe]
theorem IsL.iaddr (H:IsL z h R t l) {j:Nat} {x:α} (hx:l[j]?=some x):∃c r,Bm z (.t t) (.t (iv (j:Int)))=some (.t (.pt (c++r)))/\R x c/\c.length=z:=by
 obtain⟨L,rfl,h1,h2⟩:=H;rw[Xq]at hx;obtain⟨p,hp,rfl⟩:=Xj.1 hx
 have h3:(L.map (·.2))[j]?=some p.2:=by rw[Xq,hp];rfl
 exact⟨p.2.1,_,h1.iaddr h3 .i64,h2 p (Xf hp),p.2.2⟩
theorem IsL.one {x:α} {c:List T} (hc:c.length=z) (hr:R x c):IsL z h R (.sl 1 c) [x]:=
 ⟨[(x,⟨c,hc⟩)],rfl,.inr (by simp[slT,eR]),λp hp=>by rw[Xn]at hp;subst hp;exact hr⟩
theorem IsL.map (f:α->RwC z) (l:List α) (hf:∀x∈l,R x (f x).1):IsL z h R (Am (eR z h) (l.map f)) l:=by
 refine⟨l.map λx=>(x,f x),by rw[Xr];exact List.map_id' l,by rw[Xr];exact IsS.tree (eR z h) (l.map f),λp hp=>?_⟩;obtain⟨x,hx,rfl⟩:=Xo.1 hp;exact hf x hx
theorem IsL.nil:IsL z h R Ad ([]:List α):=⟨[],rfl,.inl ⟨rfl,rfl⟩,λ_ hp=>by cases hp⟩
theorem IsL.uniq (hu:∀a b c,R a c->R b c->a=b) {t:T} {l m:List α} (H:IsL z h R t l) (H':IsL z h R t m):l=m:=by
 obtain⟨L,rfl,h1,h2⟩:=H;obtain⟨L',rfl,h1',h2'⟩:=H';have he:=(tSl (eR z h)).uniq _ _ _ h1 h1';clear h1 h1'
 induction L generalizing L' with
 | nil=>
  cases L' with
  | nil=>rfl
  | cons _ _=>simp at he
 | cons p L ih=>
  cases L' with
  | nil=>simp at he
  | cons p' L'=>
   simp only[Xd,Xg.injEq]at he ⊢;refine⟨hu _ _ _ (h2 p Xw) (he.1▸h2' p' Xw),ih (λq hq=>h2 q (Xx _ hq)) L' (λq hq=>h2' q (Xx _ hq)) he.2⟩
end
def DT (d:Dfn) (c:List T):Prop:=∃cd tk,c=sv d.name::(cd++[tk])/\Cm d.strict cd/\IsK tk d.defaults
def Jz (x:TyD) (c:List T):Prop:=∃ts tf,c=[sv x.name,ts,tf]/\IsS Aj ts x.supers/\IsS eFt tf x.feats
def F3 (a:Afx) (c:List T):Prop:=∃t,c=[iv a.kind,t]/\IsS eFt t a.pairs
def J0 (p:List ByteArray×Dfn) (c:List T):Prop:=∃t cd,c=t::cd/\IsS Aj t p.1/\DT p.2 cd
def J1 (p:Afx×Dfn) (c:List T):Prop:=∃ca cd,c=ca++cd/\F3 p.1 ca/\DT p.2 cd
def J2 (p:List ByteArray) (c:List T):Prop:=∃t,c=[t]/\IsS Aj t p
theorem DT.six {d:Dfn} {c:List T} (h:DT d c):∃a1 a2 a3 a4 tk,c=[sv d.name,a1,a2,a3,a4,tk]/\Cm d.strict [a1,a2,a3,a4]/\IsK tk d.defaults:=by
 obtain⟨cd,tk,rfl,h1,h2⟩:=h;have hl:=h1.len
 match cd,hl with
 | [a1,a2,a3,a4],_=>exact⟨a1,a2,a3,a4,tk,rfl,h1,h2⟩
theorem DT.uniq (a b:Dfn) (c:List T) (h:DT a c) (h':DT b c):a=b:=by
 obtain⟨a1,a2,a3,a4,tk,rfl,h1,h2⟩:=h.six;obtain⟨b1,b2,b3,b4,tk',e,h1',h2'⟩:=h'.six;simp only[Xg.injEq,and_true]at e;obtain⟨e0,rfl,rfl,rfl,rfl,rfl⟩:=e;have e1:=Cm.uniq _ _ _ h1 h1';have e2:=tK.uniq _ _ _ h2 h2';injection e0 with e0;injection e0 with e0;obtain⟨an,a2,ad⟩:=a;obtain⟨bn,b2,bd⟩:=b;simp only at e0 e1 e2;rw[e0,e1,e2]
theorem Jz.uniq (a b:TyD) (c:List T) (h:Jz a c) (h':Jz b c):a=b:=by
 obtain⟨ts,tf,rfl,h1,h2⟩:=h;obtain⟨ts',tf',e,h1',h2'⟩:=h';simp only[Xg.injEq,and_true]at e;obtain⟨e0,rfl,rfl⟩:=e;have e1:=(tSl Aj).uniq _ _ _ h1 h1';have e2:=(tSl eFt).uniq _ _ _ h2 h2';injection e0 with e0;injection e0 with e0;obtain⟨an,a2,ad⟩:=a;obtain⟨bn,b2,bd⟩:=b;simp only at e0 e1 e2;rw[e0,e1,e2]
theorem F3.uniq (a b:Afx) (c:List T) (h:F3 a c) (h':F3 b c):a=b:=by
 obtain⟨t,rfl,h1⟩:=h;obtain⟨t',e,h1'⟩:=h';simp only[Xg.injEq,and_true]at e;obtain⟨e0,rfl⟩:=e;have e1:=(tSl eFt).uniq _ _ _ h1 h1';injection e0 with e0;injection e0 with _ e0;obtain⟨ak,ap⟩:=a;obtain⟨bk,bp⟩:=b;simp only at e0 e1;rw[e0,e1]
theorem J0.uniq (a b:List ByteArray×Dfn) (c:List T) (h:J0 a c) (h':J0 b c):a=b:=by
 obtain⟨t,cd,rfl,h1,h2⟩:=h;obtain⟨t',cd',e,h1',h2'⟩:=h';simp only[Xg.injEq]at e;obtain⟨rfl,rfl⟩:=e;exact Prod.ext ((tSl Aj).uniq _ _ _ h1 h1') (DT.uniq _ _ _ h2 h2')
theorem J1.uniq (a b:Afx×Dfn) (c:List T) (h:J1 a c) (h':J1 b c):a=b:=by
 obtain⟨ca,cd,rfl,h1,h2⟩:=h;obtain⟨ca',cd',e,h1',h2'⟩:=h'
 have hl:ca.length=ca'.length:=by
  obtain⟨_,rfl,_⟩:=h1;obtain⟨_,rfl,_⟩:=h1';rfl
 obtain⟨rfl,rfl⟩:=List.append_inj e hl;exact Prod.ext (F3.uniq _ _ _ h1 h1') (DT.uniq _ _ _ h2 h2')
theorem J2.uniq (a b:List ByteArray) (c:List T) (h:J2 a c) (h':J2 b c):a=b:=by
 obtain⟨t,rfl,h1⟩:=h;obtain⟨t',e,h1'⟩:=h';simp only[Xg.injEq,and_true]at e;subst e;exact(tSl Aj).uniq _ _ _ h1 h1'
theorem DT.cs (d:Dfn):DT d d.cs:=⟨_,_,rfl,Cm.enc d.strict,IsK.tree d.defaults⟩
theorem Jz.cs (x:TyD):Jz x x.cs:=⟨_,_,rfl,IsS.tree Aj x.supers,IsS.tree eFt x.feats⟩
theorem F3.cs (a:Afx):F3 a a.cs:=⟨_,rfl,IsS.tree eFt a.pairs⟩
theorem J0.cs (p:List ByteArray×Dfn):J0 p (rwE p).1:=⟨_,_,rfl,IsS.tree Aj p.1,DT.cs p.2⟩
theorem J1.cs (p:Afx×Dfn):J1 p (rwL p).1:=⟨_,_,rfl,F3.cs p.1,DT.cs p.2⟩
theorem J2.cs (p:List ByteArray):J2 p (rwK p).1:=⟨_,rfl,IsS.tree Aj p⟩
def tAf:Ty Afx:=⟨λt d=>∃c,t = .ag c/\F3 d c,λt a b ⟨c,e,h⟩ ⟨c',e',h'⟩=>by
 rw[e]at e';injection e' with e';subst e';exact F3.uniq a b c h h'⟩
abbrev Ir:=IsL 6 (by omega) DT
abbrev KB:=IsL 3 (by omega) Jz
abbrev vY:=IsL 7 (by omega) J0
abbrev vZ:=IsL 8 (by omega) J1
abbrev w5:=IsL 1 (by omega) J2
structure ML where
 name:ByteArray
 imps:List ByteArray
 typs:List TyD
 tmps:List Dfn
 ents:List (List ByteArray×Dfn)
 lexs:List (Afx×Dfn)
 ruls:List Dfn
 roos:List Dfn
 chks:List (List ByteArray)
 drps:List ByteArray
structure w6 (m:ML) (c:List T) (t0 t1 t2 t3 t4 t5 t6 t7 t8:T):Prop where
 c:c=[sv m.name,t0,t1,t2,t3,t4,t5,t6,t7,t8]
 h0:IsS Aj t0 m.imps
 h1:KB t1 m.typs
 h2:Ir t2 m.tmps
 h3:vY t3 m.ents
 h4:vZ t4 m.lexs
 h5:Ir t5 m.ruls
 h6:Ir t6 m.roos
 h7:w5 t7 m.chks
 h8:IsS Aj t8 m.drps
def DU (m:ML) (c:List T):Prop:=∃t0 t1 t2 t3 t4 t5 t6 t7 t8,w6 m c t0 t1 t2 t3 t4 t5 t6 t7 t8
theorem DU.uniq (a b:ML) (c:List T) (h:DU a c) (h':DU b c):a=b:=by
 obtain⟨t0,t1,t2,t3,t4,t5,t6,t7,t8,⟨rfl,k0,k1,k2,k3,k4,k5,k6,k7,k8⟩⟩:=h;obtain⟨s0,s1,s2,s3,s4,s5,s6,s7,s8,⟨e,j0,j1,j2,j3,j4,j5,j6,j7,j8⟩⟩:=h';simp only[Xg.injEq,and_true]at e;obtain⟨e,rfl,rfl,rfl,rfl,rfl,rfl,rfl,rfl,rfl⟩:=e;injection e with e;injection e with e;have e0:=(tSl Aj).uniq _ _ _ k0 j0;have e1:=IsL.uniq Jz.uniq k1 j1;have e2:=IsL.uniq DT.uniq k2 j2;have e3:=IsL.uniq J0.uniq k3 j3;have e4:=IsL.uniq J1.uniq k4 j4;have e5:=IsL.uniq DT.uniq k5 j5;have e6:=IsL.uniq DT.uniq k6 j6;have e7:=IsL.uniq J2.uniq k7 j7;have e8:=(tSl Aj).uniq _ _ _ k8 j8;obtain⟨n,a0,a1,a2,a3,a4,a5,a6,a7,a8⟩:=a;obtain⟨n',b0,b1,b2,b3,b4,b5,b6,b7,b8⟩:=b;simp only at e e0 e1 e2 e3 e4 e5 e6 e7 e8;rw[e,e0,e1,e2,e3,e4,e5,e6,e7,e8]
def tMl:Ty ML:=⟨λt d=>∃c,t = .ag c/\DU d c,λt a b ⟨c,e,h⟩ ⟨c',e',h'⟩=>by
 rw[e]at e';injection e' with e';subst e';exact DU.uniq a b c h h'⟩
abbrev Hl:=IsL 10 (by omega) DU
def El.i?:El->Option ByteArray | .imp s=>some s | _=>none
def El.t?:El->Option TyD | .typ s=>some s | _=>none
def El.m?:El->Option Dfn | .tmp s=>some s | _=>none
def El.e?:El->Option (List ByteArray×Dfn) | .ent w s=>some (w,s) | _=>none
def El.l?:El->Option (Afx×Dfn) | .lex w s=>some (w,s) | _=>none
def El.r?:El->Option Dfn | .rul s=>some s | _=>none
def El.o?:El->Option Dfn | .roo s=>some s | _=>none
def El.c?:El->Option (List ByteArray) | .chk s=>some s | _=>none
def El.d?:El->Option ByteArray | .drp s=>some s | _=>none
def Md.ml (m:Md):ML:=⟨m.name,m.els.filterMap El.i?,m.els.filterMap El.t?,m.els.filterMap El.m?,m.els.filterMap El.e?,m.els.filterMap El.l?,m.els.filterMap El.r?,m.els.filterMap El.o?,m.els.filterMap El.c?,m.els.filterMap El.d?⟩
theorem Is {α:Type} (j:Nat) (g:El->Option α) (f:α->RwC (zE j)) (hg:∀x,Pv j x=(g x).map f) (els:List El):AL j els=(els.filterMap g).map f:=by
 unfold AL;rw[List.map_filterMap];congr 1;funext x;exact hg x
def ML.cs (m:ML):List T:=[sv m.name,Am Aj m.imps,Am eR3 (m.typs.map rwT),Am eR6 (m.tmps.map rwD),Am eR7 (m.ents.map rwE),Am eR8 (m.lexs.map rwL),Am eR6 (m.ruls.map rwD),Am eR6 (m.roos.map rwD),Am eR1 (m.chks.map rwK),Am Aj m.drps]
theorem Md.cs_ml (m:Md):m.cs=m.ml.cs:=by
 have e0:Am (eRw 0) (AL 0 m.els)=Am Aj m.ml.imps:=by
  rw[Is 0 El.i? rwS (λx=>by cases x<;>rfl)];exact aQ Aj (eRw 0) rwS (λ_=>rfl) _
 have e1:Am (eRw 1) (AL 1 m.els)=Am eR3 (m.ml.typs.map rwT):=by
  rw[Is 1 El.t? rwT (λx=>by cases x<;>rfl)];rfl
 have e2:Am (eRw 2) (AL 2 m.els)=Am eR6 (m.ml.tmps.map rwD):=by
  rw[Is 2 El.m? rwD (λx=>by cases x<;>rfl)];rfl
 have e3:Am (eRw 3) (AL 3 m.els)=Am eR7 (m.ml.ents.map rwE):=by
  rw[Is 3 El.e? rwE (λx=>by cases x<;>rfl)];rfl
 have e4:Am (eRw 4) (AL 4 m.els)=Am eR8 (m.ml.lexs.map rwL):=by
  rw[Is 4 El.l? rwL (λx=>by cases x<;>rfl)];rfl
 have e5:Am (eRw 5) (AL 5 m.els)=Am eR6 (m.ml.ruls.map rwD):=by
  rw[Is 5 El.r? rwD (λx=>by cases x<;>rfl)];rfl
 have e6:Am (eRw 6) (AL 6 m.els)=Am eR6 (m.ml.roos.map rwD):=by
  rw[Is 6 El.o? rwD (λx=>by cases x<;>rfl)];rfl
 have e7:Am (eRw 7) (AL 7 m.els)=Am eR1 (m.ml.chks.map rwK):=by
  rw[Is 7 El.c? rwK (λx=>by cases x<;>rfl)];rfl
 have e8:Am (eRw 8) (AL 8 m.els)=Am Aj m.ml.drps:=by
  rw[Is 8 El.d? rwS (λx=>by cases x<;>rfl)];exact aQ Aj (eRw 8) rwS (λ_=>rfl) _
 unfold Md.cs mdC ML.cs;show [_,Am (eRw 0) (AL 0 m.els),Am (eRw 1) (AL 1 m.els),Am (eRw 2) (AL 2 m.els),Am (eRw 3) (AL 3 m.els),Am (eRw 4) (AL 4 m.els),Am (eRw 5) (AL 5 m.els),Am (eRw 6) (AL 6 m.els),Am (eRw 7) (AL 7 m.els),Am (eRw 8) (AL 8 m.els)]=_;rw[e0,e1,e2,e3,e4,e5,e6,e7,e8];rfl
theorem DU.cs (m:ML):DU m m.cs:=⟨_,_,_,_,_,_,_,_,_,⟨rfl,IsS.tree Aj _,IsL.map rwT _ λx _=>Jz.cs x,IsL.map rwD _ λx _=>DT.cs x,IsL.map rwE _ λx _=>J0.cs x,IsL.map rwL _ λx _=>J1.cs x,IsL.map rwD _ λx _=>DT.cs x,IsL.map rwD _ λx _=>DT.cs x,IsL.map rwK _ λx _=>J2.cs x,IsS.tree Aj _⟩⟩
theorem DU.md (m:Md):DU m.ml m.cs:=by rw[m.cs_ml];exact DU.cs m.ml
theorem Hl.mds (l:List Md):Hl (Hi l) (l.map Md.ml):=⟨l.map λm=>(m.ml,m.rw),by simp,by unfold Hi;rw[Xr];exact IsS.tree eMd (l.map Md.rw),λp hp=>by
 obtain⟨x,hx,rfl⟩:=Xo.1 hp
 exact DU.md x⟩
variable {q : Gl}
noncomputable def Sw (ts:List T):Option T:=g2 tD tD (λa b=>open Classical in if a=b/\Eu a then some (bv true)else none) ts
theorem wA {c c':List T} {d:Ds} (h:Cm d c) (h':Cm d c') (hf:Eu d):Sw [.ag c,.ag c']=some (bv true):=by
 show g2 _ _ _ _=_;rw[E2 (τ:=tD) (σ:=tD) ⟨c,rfl,h⟩ ⟨c',rfl,h'⟩,zy ⟨rfl,hf⟩]
theorem wB:GOK Xa (G q) 84 Sw:=DY λa b x y r ha hb hr=>by
 split at hr
 .rename_i hc;obtain⟨rfl,h1⟩:=hc;injection hr with hr;subst hr;obtain⟨c,rfl,hcx⟩:=ha;obtain⟨c',rfl,hcx'⟩:=hb;exact hSd x.depth _ _ (aN hcx hcx' h1 (Xk _))
 .cases hr
noncomputable def Sx (ts:List T):Option T:=g2 tK tK (λa b=>open Classical in if a=b/\a.length<=1000/\(∀k∈a,Eu k)then some (bv true)else none) ts
theorem wC {t u:T} {l:List Ds} (h:IsK t l) (h':IsK u l) (hl:l.length<=1000) (hf:∀k∈l,Eu k):Sx [t,u]=some (bv true):=by
 show g2 _ _ _ _=_;rw[E2 (τ:=tK) (σ:=tK) h h',zy ⟨rfl,hl,hf⟩]
theorem wD:GOK Xa (G q) 85 Sx:=DY λa b x y r ha hb hr=>by
 split at hr
 .rename_i hc;obtain⟨rfl,h1,h2⟩:=hc;injection hr with hr;subst hr;exact vX (Jf x) _ _ (aO ha hb h1 h2 (Xk _))
 .cases hr
structure OkD (d:Dfn):Prop where
 s:Eu d.strict
 n:d.defaults.length<=1000
 d:∀k∈d.defaults,Eu k
structure OkT (x:TyD):Prop where
 s:x.supers.length<=1000
 f:x.feats.length<=1000
noncomputable def PB:Tbl:=[(84,Sw),(85,Sx),(20,Jy)]
theorem wE:A5 Xa (G q) PB:=.cons wB (.cons wD (.cons NN .nil))
theorem aR:Ctx Xa (G q) (orc PB):=wE.ctx mixed
def SSf (n:Nat) (t u:T) (j:Nat):Ac:=⟨[(5,.t (iv (j:Int))),(1,.t u),(0,.t t)],[],0,n⟩
theorem lp4 (a1 a2 a3 a4:T) (r:List T):Ao true 4 [] (.t (.pt (a1::a2::a3::a4::r)))=some (.t (.ag [a1,a2,a3,a4])):=rfl
theorem wF {t u:T} {L:List Dfn} (ht:Ir t L) (hu:Ir u L) (hl:L.length<=100000) (hok:∀d∈L,OkD d):AA Xa (G q) 46 [t,u] (· = bv true):=by
 have l1:=ht.len;have l2:=hu.len;refine rF.call rfl ?_;(conv in XR=>cbv);refine Az BN ?_;simp -implicitDefEqProofs;refine Az BN ?_;simp -implicitDefEqProofs [l1,l2];refine BM (α:=Unit) (λ_=>⟨[(1,.t u),(0,.t t)],[],0,56⟩) (λ_=>True) (λ_=>rfl) ?_ ?_
 .refine Az BN ?_;simp -implicitDefEqProofs;refine BI ?_;refine GW (SSf 56 t u) L.length (λ_=>rfl) ?_ rfl ?_ ?_
  .refine AJ rfl rfl ?_ ?_<;>simp -implicitDefEqProofs [SSf]
  .intro j hj
   obtain⟨d,hd⟩:∃d,L[j]?=some d:=⟨_,Xb hj⟩
   obtain⟨k1,k2,k3⟩:=hok d (Xf hd);obtain⟨c,r,i1,hc,_⟩:=ht.iaddr hd;obtain⟨c',r',i2,hc',_⟩:=hu.iaddr hd;obtain⟨a1,a2,a3,a4,tk,rfl,d1,d2⟩:=hc.six;obtain⟨b1,b2,b3,b4,uk,rfl,e1,e2⟩:=hc'.six;have g1:=wA d1 e1 k1;have g2:=wC d2 e2 k2 k3;have i1:Bm 6 (.t t) (.t (iv (j:Int)))=some (.t (.pt (sv d.name::a1::a2::a3::a4::tk::r))):=i1;have i2:Bm 6 (.t u) (.t (iv (j:Int)))=some (.t (.pt (sv d.name::b1::b2::b3::b4::uk::r'))):=i2;have e1:Xc.wrap ((j:Int)+1)=((j+1:Nat):Int):=AH (by omega) (by omega);refine Aw aR ?_;simp -implicitDefEqProofs [SSf,l1,hj,i1,i2,BJ,lp4,PB,g1,g2,e1];refine AJ rfl rfl ?_ ?_<;>simp -implicitDefEqProofs
  .refine Aw BN ?_;simp -implicitDefEqProofs [SSf,l1];exact Aq.mk () trivial (AJ rfl rfl (by simp -implicitDefEqProofs) (by simp -implicitDefEqProofs))
 .rintro _ _;refine Aw BN ?_;simp -implicitDefEqProofs
def SSt (t u:T) (j k:Nat):Ac:=⟨[(6,.t (iv (k:Int))),(5,.t (iv (j:Int))),(1,.t u),(0,.t t)],[],0,85⟩
theorem lp2 (a b:T) (r:List T):Ao true 2 [] (.t (.pt (a::b::r)))=some (.t (.ag [a,b])):=rfl
theorem eq2 (a b:ByteArray):DW [.s,.s] [sv a,sv b] [sv a,sv b]=some true:=by
 simp[DW]
theorem wG {t u:T} {L:List TyD} (ht:KB t L) (hu:KB u L) (hl:L.length<=100000) (hok:∀d∈L,OkT d):AA Xa (G q) 45 [t,u] (· = bv true):=by
 have l1:=ht.len;have l1':=hu.len;refine rE.call rfl ?_;(conv in XQ=>cbv);refine Az BN ?_;simp -implicitDefEqProofs;refine Az BN ?_;simp -implicitDefEqProofs [l1,l1'];refine BM (α:=Unit) (λ_=>⟨[(1,.t u),(0,.t t)],[],0,85⟩) (λ_=>True) (λ_=>rfl) ?_ ?_
 .refine Az BN ?_;simp -implicitDefEqProofs;refine BI ?_;refine GW (SSf 85 t u) L.length (λ_=>rfl) ?_ rfl ?_ ?_
  .refine AJ rfl rfl ?_ ?_<;>simp -implicitDefEqProofs [SSf]
  .intro j hj
   obtain⟨d,hd⟩:∃d,L[j]?=some d:=⟨_,Xb hj⟩
   obtain⟨k1,k2⟩:=hok d (Xf hd);obtain⟨c,R,i1,⟨U,E,rfl,u1,f1⟩,_⟩:=ht.iaddr hd;obtain⟨c',R',i1',⟨U',E',rfl,u2,f2⟩,_⟩:=hu.iaddr hd;have i1:Bm 3 (.t t) (.t (iv (j:Int)))=some (.t (.pt (sv d.name::U::E::R))):=i1;have i1':Bm 3 (.t u) (.t (iv (j:Int)))=some (.t (.pt (sv d.name::U'::E'::R'))):=i1';have g1:=KA u1 u2 (by omega);have l2:Bd (.t E)=some (.t (iv (d.feats.length:Int))):=f1.len;have l2':Bd (.t E')=some (.t (iv (d.feats.length:Int))):=f2.len;have e1:Xc.wrap ((j:Int)+1)=((j+1:Nat):Int):=AH (by omega) (by omega);refine Az BN ?_;simp -implicitDefEqProofs [SSf,l1,hj];refine BM (α:=Unit) (λ_=>SSf 85 t u j) (λ_=>True) (λ_=>rfl) ?_ ?_
   .refine BI ?_;refine Az aR ?_;simp -implicitDefEqProofs [i1,i1',BJ,PB,g1,l2,l2'];refine Az BN ?_;simp -implicitDefEqProofs;refine BI ?_;refine GW (SSt t u j) d.feats.length (λ_=>rfl) ?_ rfl ?_ ?_
    .refine AJ rfl rfl ?_ ?_<;>simp -implicitDefEqProofs [SSt]
    .intro k hk
     obtain⟨y,hy⟩:∃y,d.feats[k]?=some y:=⟨_,Xb hk⟩
     have i2:Bm 2 (.t E) (.t (iv (k:Int)))=some (.t (.pt (sv y.1::sv y.2::AY eFt d.feats k))):=f1.iaddr hy .i64;have i2':Bm 2 (.t E') (.t (iv (k:Int)))=some (.t (.pt (sv y.1::sv y.2::AY eFt d.feats k))):=f2.iaddr hy .i64;have e2:Xc.wrap ((k:Int)+1)=((k+1:Nat):Int):=AH (by omega) (by omega);refine Aw BN ?_;simp -implicitDefEqProofs [SSt,i1,i1',BJ,l2,hk,i2,i2',lp2,eq2,e2];refine AJ rfl rfl ?_ ?_<;>simp -implicitDefEqProofs
    .refine Aw BN ?_;simp -implicitDefEqProofs [SSt,i1,BJ,l2];exact Aq.mk () trivial (AJ rfl rfl (by simp -implicitDefEqProofs [SSf]) (by simp -implicitDefEqProofs [SSf]))
   .rintro _ _;refine Aw BN ?_;simp -implicitDefEqProofs [SSf,e1];refine AJ rfl rfl ?_ ?_<;>simp -implicitDefEqProofs
  .refine Aw BN ?_;simp -implicitDefEqProofs [SSf,l1];exact Aq.mk () trivial (AJ rfl rfl (by simp -implicitDefEqProofs) (by simp -implicitDefEqProofs))
 .rintro _ _;refine Aw BN ?_;simp -implicitDefEqProofs
noncomputable def Mc (ts:List T):Option T:=open Classical in match ts with
 | [t,u]=>if ∃L:List Dfn,Ir t L/\Ir u L/\L.length<=100000/\∀d∈L,OkD d then some (bv true)else none
 | _=>none
theorem NO {t u:T} {L:List Dfn} (ht:Ir t L) (hu:Ir u L) (hl:L.length<=100000) (hok:∀d∈L,OkD d):Mc [t,u]=some (bv true):=by
 unfold Mc;simp only;rw[zy ⟨L,ht,hu,hl,hok⟩]
theorem aS:GOK Xa (G q) 46 Mc:=λargs r h=>by
 unfold Mc at h;split at h
 .split at h
  .rename_i hc;obtain⟨L,h1,h2,h3,h4⟩:=hc;injection h with h;subst h;exact wF h1 h2 h3 h4
  .cases h
 .cases h
noncomputable def NP (ts:List T):Option T:=open Classical in match ts with
 | [t,u]=>if ∃L:List TyD,KB t L/\KB u L/\L.length<=100000/\∀d∈L,OkT d then some (bv true)else none
 | _=>none
theorem wI {t u:T} {L:List TyD} (ht:KB t L) (hu:KB u L) (hl:L.length<=100000) (hok:∀d∈L,OkT d):NP [t,u]=some (bv true):=by
 unfold NP;simp only;rw[zy ⟨L,ht,hu,hl,hok⟩]
theorem wJ:GOK Xa (G q) 45 NP:=λargs r h=>by
 unfold NP at h;split at h
 .split at h
  .rename_i hc;obtain⟨L,h1,h2,h3,h4⟩:=hc;injection h with h;subst h;exact wG h1 h2 h3 h4
  .cases h
 .cases h
def SSa (H:Ab) (nx n j:Nat) (c:Nat):Ac:=⟨[(j,.t (iv (c:Int))),(3,.ptr 1 0),(2,.ptr 0 0)],H,nx,n⟩
theorem wK {a:Afx} {c c':List T} (hca:F3 a c) (hcb:F3 a c') (hl:a.pairs.length<=1000000):AA Xa (G q) 13 [.ag c,.ag c'] (· = bv true):=by
 obtain⟨E,rfl,hf⟩:=hca;obtain⟨E',rfl,hf'⟩:=hcb;have l2:Bd (.t E)=some (.t (iv (a.pairs.length:Int))):=hf.len;have l2':Bd (.t E')=some (.t (iv (a.pairs.length:Int))):=hf'.len;have hc:B7 (.t (.ag [iv a.kind,E]))=some [.t (iv a.kind),.t E]:=rfl;have hc':B7 (.t (.ag [iv a.kind,E']))=some [.t (iv a.kind),.t E']:=rfl
 obtain⟨H,hH⟩:∃H:Ab,H=[(1,.cells 29 [.t (iv a.kind),.t E']),(0,.cells 29 [.t (iv a.kind),.t E])]:=⟨_,rfl⟩
 have q0:Ao false 1 H (.ptr 0 0)=some (.t (iv a.kind)):=by rw[hH];rfl
 have q1:Ao false 1 H (.ptr 0 1)=some (.t E):=by rw[hH];rfl
 have q2:Ao false 1 H (.ptr 1 0)=some (.t (iv a.kind)):=by rw[hH];rfl
 have q3:Ao false 1 H (.ptr 1 1)=some (.t E'):=by rw[hH];rfl
 have ldp:∀(x y:T) (r:List T),Ao true 2 H (.t (.pt (x::y::r)))=some (.t (.ag [x,y])):=λx y r=>rfl;refine qW.call rfl ?_;(conv in XL=>cbv);refine Az BN ?_;simp -implicitDefEqProofs [hc,hc'];refine MC.sub (s':=⟨[(3,.ptr 1 0),(2,.ptr 0 0)],H,2,38⟩) (by rw[hH];exact sub_env (by simp -implicitDefEqProofs)) rfl ?_;refine Az BN ?_;simp -implicitDefEqProofs [q0,q1,q2,q3,l2,l2'];refine BM (α:=Unit) (λ_=>⟨[(3,.ptr 1 0),(2,.ptr 0 0)],H,2,38⟩) (λ_=>True) (λ_=>rfl) ?_ ?_
 .refine Az BN ?_;simp -implicitDefEqProofs;refine BI ?_;refine GW (SSa H 2 38 5) a.pairs.length (λ_=>rfl) ?_ rfl ?_ ?_
  .exact sub_env (by simp -implicitDefEqProofs [SSa])
  .intro k hk
   obtain⟨y,hy⟩:∃y,a.pairs[k]?=some y:=⟨_,Xb hk⟩
   have i2:Bm 2 (.t E) (.t (iv (k:Int)))=some (.t (.pt (sv y.1::sv y.2::AY eFt a.pairs k))):=hf.iaddr hy .i64;have i2':Bm 2 (.t E') (.t (iv (k:Int)))=some (.t (.pt (sv y.1::sv y.2::AY eFt a.pairs k))):=hf'.iaddr hy .i64;have e2:Xc.wrap ((k:Int)+1)=((k+1:Nat):Int):=AH (by omega) (by omega);refine Aw BN ?_;simp -implicitDefEqProofs [SSa,q1,q3,l2,hk,i2,i2',ldp,eq2,e2];exact sub_env (by simp -implicitDefEqProofs)
  .refine Aw BN ?_;simp -implicitDefEqProofs [SSa,q1,l2];exact Aq.mk () trivial (sub_env (by simp -implicitDefEqProofs))
 .rintro _ _;refine Aw BN ?_;simp -implicitDefEqProofs
noncomputable def Sy (ts:List T):Option T:=g2 tAf tAf (λa b=>open Classical in if a=b/\a.pairs.length<=1000000 then some (bv true)else none) ts
theorem wL {a:Afx} {c c':List T} (h:F3 a c) (h':F3 a c') (hl:a.pairs.length<=1000000):Sy [.ag c,.ag c']=some (bv true):=by
 show g2 _ _ _ _=_;rw[E2 (τ:=tAf) (σ:=tAf) ⟨c,rfl,h⟩ ⟨c',rfl,h'⟩,zy ⟨rfl,hl⟩]
theorem wN:GOK Xa (G q) 13 Sy:=DY λa b x y r ha hb hr=>by
 split at hr
 .rename_i hc;obtain⟨rfl,h1⟩:=hc;injection hr with hr;subst hr;obtain⟨c,rfl,hcx⟩:=ha;obtain⟨c',rfl,hcx'⟩:=hb;exact wK hcx hcx' h1
 .cases hr
structure Hm (m:ML):Prop where
 n0:m.imps.length<=100000
 n1:m.typs.length<=100000
 n2:m.tmps.length<=100000
 n3:m.ents.length<=100000
 n4:m.lexs.length<=100000
 n5:m.ruls.length<=100000
 n6:m.roos.length<=100000
 n7:m.chks.length<=100000
 n8:m.drps.length<=100000
 p1:∀d∈m.typs,OkT d
 p2:∀d∈m.tmps,OkD d
 p3:∀d∈m.ents,d.1.length<=100000/\OkD d.2
 p4:∀d∈m.lexs,d.1.pairs.length<=1000000/\OkD d.2
 p5:∀d∈m.ruls,OkD d
 p6:∀d∈m.roos,OkD d
 p7:∀d∈m.chks,d.length<=100000
noncomputable def PC:Tbl:=[(20,Jy),(46,Mc),(13,Sy)]
theorem Sz:Ctx Xa (G q) (orc PC):=(A5.cons NN (.cons aS (.cons wN .nil))).ctx mixed
theorem aT (a1 a2 a3 a4 a5 a6:T):IW 59 6 [.string ⟨#[]⟩,.int .i64 0,.string ⟨#[]⟩,.slice none 0 0,.slice none 0 0,.slice none 0 0] 1 [(0,.t (.ag [a1,a2,a3,a4,a5,a6]))]=some (.t (.sl 1 [a1,a2,a3,a4,a5,a6])):=rfl
section
variable (H : Ab)
theorem lhB (a b:T) (r:List T):Ao true 2 H (.t (.pt (a::b::r)))=some (.t (.ag [a,b])):=rfl
theorem lhF (a1 a2 a3 a4 a5 a6:T) (r:List T):Ao true 6 H (.t (.pt (a1::a2::a3::a4::a5::a6::r)))=some (.t (.ag [a1,a2,a3,a4,a5,a6])):=rfl
theorem lhA (a:T) (r:List T):Ao false 1 H (.t (.pt (a::r)))=some (.t a):=rfl
end
theorem wO {m:ML} {c c':List T} (hm:DU m c) (hm':DU m c') (h:Hm m):AA Xa (G q) 47 [.ag c,.ag c'] (· = bv true):=by
 obtain⟨x0,x1,x2,T3,T4,x5,x6,T7,x8,⟨rfl,_,_,_,t3,t4,_,_,t7,_⟩⟩:=hm;obtain⟨y0,y1,y2,U3,U4,y5,y6,U7,y8,⟨rfl,_,_,_,u3,u4,_,_,u7,_⟩⟩:=hm';have l3:=t3.len;have l4:=t4.len;have l7:=t7.len;have m3:=u3.len;have m4:=u4.len;have m7:=u7.len;have p3:=h.p3;have p4:=h.p4;have p7:=h.p7;have n3:=h.n3;have n4:=h.n4;have n7:=h.n7;generalize m.ents=D3 at *;generalize m.lexs=D4 at *;generalize m.chks=D7 at *;generalize m.name=nm at *;have hc:B7 (.t (.ag [sv nm,x0,x1,x2,T3,T4,x5,x6,T7,x8]))=some [.t (sv nm),.t x0,.t x1,.t x2,.t T3,.t T4,.t x5,.t x6,.t T7,.t x8]:=rfl;have hc':B7 (.t (.ag [sv nm,y0,y1,y2,U3,U4,y5,y6,U7,y8]))=some [.t (sv nm),.t y0,.t y1,.t y2,.t U3,.t U4,.t y5,.t y6,.t U7,.t y8]:=rfl
 obtain⟨H,hH⟩:∃H:Ab,H=[(1,.cells 51 [.t (sv nm),.t y0,.t y1,.t y2,.t U3,.t U4,.t y5,.t y6,.t U7,.t y8]),(0,.cells 51 [.t (sv nm),.t x0,.t x1,.t x2,.t T3,.t T4,.t x5,.t x6,.t T7,.t x8])]:=⟨_,rfl⟩
 have q3:Ao false 1 H (.ptr 0 4)=some (.t T3):=by rw[hH];rfl
 have r3:Ao false 1 H (.ptr 1 4)=some (.t U3):=by rw[hH];rfl
 have q4:Ao false 1 H (.ptr 0 5)=some (.t T4):=by rw[hH];rfl
 have r4:Ao false 1 H (.ptr 1 5)=some (.t U4):=by rw[hH];rfl
 have q7:Ao false 1 H (.ptr 0 8)=some (.t T7):=by rw[hH];rfl
 have r7:Ao false 1 H (.ptr 1 8)=some (.t U7):=by rw[hH];rfl
 refine rG.call rfl ?_;(conv in XS=>cbv);refine Az BN ?_;simp -implicitDefEqProofs [hc,hc'];refine MC.sub (s':=⟨[(3,.ptr 1 0),(2,.ptr 0 0)],H,2,130⟩) (by rw[hH];exact sub_env (by simp -implicitDefEqProofs)) rfl ?_;clear hH;refine Az BN ?_;simp -implicitDefEqProofs [q3,r3,q4,r4,q7,r7,l3,l4,l7,m3,m4,m7];refine BM (α:=Unit) (λ_=>⟨[(3,.ptr 1 0),(2,.ptr 0 0)],H,2,130⟩) (λ_=>True) (λ_=>rfl) ?_ ?_
 .refine Az BN ?_;simp -implicitDefEqProofs;refine BI ?_;refine GW (SSa H 2 130 5) D3.length (λ_=>rfl) ?_ rfl ?_ ?_
  .exact sub_env (by simp -implicitDefEqProofs [SSa])
  .intro k hk
   obtain⟨y,hy⟩:∃y,D3[k]?=some y:=⟨_,Xb hk⟩
   obtain⟨k1,k2⟩:=p3 y (Xf hy);obtain⟨c,r,i1,⟨U,cd,rfl,s1,s2⟩,_⟩:=t3.iaddr hy;obtain⟨c',r',i2,⟨U',cd',rfl,s1',s2'⟩,_⟩:=u3.iaddr hy;have g1:=KA s1 s1' (by omega)
   have ok1:∀d∈[y.2],OkD d:=λd hd=>by rw[Xn]at hd;subst hd;exact k2
   obtain⟨a2,a3,a4,a5,a6,hd,_⟩:=s2.six;obtain⟨b2,b3,b4,b5,b6,hd',_⟩:=s2'.six;have g2:=NO (IsL.one (h:=by omega) (by rw[hd];rfl) s2) (IsL.one (h:=by omega) (by rw[hd'];rfl) s2') (by simp) ok1;rw[hd,hd']at g2;rw[hd]at i1;rw[hd']at i2
   obtain⟨a1,ha1⟩:∃a1,a1=sv y.2.name:=⟨_,rfl⟩
   rw[<-ha1]at i1 i2 g2;have i1:Bm 7 (.t T3) (.t (iv (k:Int)))=some (.t (.pt (U::a1::a2::a3::a4::a5::a6::r))):=i1;have i2:Bm 7 (.t U3) (.t (iv (k:Int)))=some (.t (.pt (U'::a1::b2::b3::b4::b5::b6::r'))):=i2;have e2:Xc.wrap ((k:Int)+1)=((k+1:Nat):Int):=AH (by omega) (by omega);refine Aw Sz ?_;simp -implicitDefEqProofs [SSa,q3,r3,l3,hk,i1,i2,lhA,lhF,aT,PC,g1,g2,e2];exact sub_env (by simp -implicitDefEqProofs)
  .refine Aw BN ?_;simp -implicitDefEqProofs [SSa,q3,l3];exact Aq.mk () trivial (sub_env (by simp -implicitDefEqProofs))
 rintro _ _;refine BM (α:=Unit) (λ_=>⟨[(3,.ptr 1 0),(2,.ptr 0 0)],H,2,130⟩) (λ_=>True) (λ_=>rfl) ?_ ?_
 .refine Az BN ?_;simp -implicitDefEqProofs;refine BI ?_;refine GW (SSa H 2 130 6) D4.length (λ_=>rfl) ?_ rfl ?_ ?_
  .exact sub_env (by simp -implicitDefEqProofs [SSa])
  .intro k hk
   obtain⟨y,hy⟩:∃y,D4[k]?=some y:=⟨_,Xb hk⟩
   obtain⟨k1,k2⟩:=p4 y (Xf hy);obtain⟨c,r,i1,⟨ca,cd,rfl,s1,s2⟩,_⟩:=t4.iaddr hy;obtain⟨c',r',i2,⟨ca',cd',rfl,s1',s2'⟩,_⟩:=u4.iaddr hy;have g1:=wL s1 s1' k1
   have ok1:∀d∈[y.2],OkD d:=λd hd=>by rw[Xn]at hd;subst hd;exact k2
   obtain⟨a2,a3,a4,a5,a6,hd,_⟩:=s2.six;obtain⟨b2,b3,b4,b5,b6,hd',_⟩:=s2'.six;obtain⟨f,rfl,_⟩:=s1;obtain⟨f',rfl,_⟩:=s1';have g2:=NO (IsL.one (h:=by omega) (by rw[hd];rfl) s2) (IsL.one (h:=by omega) (by rw[hd'];rfl) s2') (by simp) ok1;rw[hd,hd']at g2;rw[hd]at i1;rw[hd']at i2
   obtain⟨a1,ha1⟩:∃a1,a1=sv y.2.name:=⟨_,rfl⟩
   obtain⟨b1,hb1⟩:∃b1,b1=iv y.1.kind:=⟨_,rfl⟩
   rw[<-ha1]at i1 i2 g2;rw[<-hb1]at i1 i2 g1;have i1:Bm 8 (.t T4) (.t (iv (k:Int)))=some (.t (.pt (b1::f::a1::a2::a3::a4::a5::a6::r))):=i1;have i2:Bm 8 (.t U4) (.t (iv (k:Int)))=some (.t (.pt (b1::f'::a1::b2::b3::b4::b5::b6::r'))):=i2;have e2:Xc.wrap ((k:Int)+1)=((k+1:Nat):Int):=AH (by omega) (by omega);refine Aw Sz ?_;simp -implicitDefEqProofs [SSa,q4,r4,l4,hk,i1,i2,lhA,lhB,lhF,aT,PC,g1,g2,e2];exact sub_env (by simp -implicitDefEqProofs)
  .refine Aw BN ?_;simp -implicitDefEqProofs [SSa,q4,l4];exact Aq.mk () trivial (sub_env (by simp -implicitDefEqProofs))
 rintro _ _;refine BM (α:=Unit) (λ_=>⟨[(3,.ptr 1 0),(2,.ptr 0 0)],H,2,130⟩) (λ_=>True) (λ_=>rfl) ?_ ?_
 .refine Az BN ?_;simp -implicitDefEqProofs;refine BI ?_;refine GW (SSa H 2 130 7) D7.length (λ_=>rfl) ?_ rfl ?_ ?_
  .exact sub_env (by simp -implicitDefEqProofs [SSa])
  .intro k hk
   obtain⟨y,hy⟩:∃y,D7[k]?=some y:=⟨_,Xb hk⟩
   have k1:=p7 y (Xf hy);obtain⟨c,r,i1,⟨U,rfl,s1⟩,_⟩:=t7.iaddr hy;obtain⟨c',r',i2,⟨U',rfl,s1'⟩,_⟩:=u7.iaddr hy;have g1:=KA s1 s1' (by omega);have i1:Bm 1 (.t T7) (.t (iv (k:Int)))=some (.t (.pt (U::r))):=i1;have i2:Bm 1 (.t U7) (.t (iv (k:Int)))=some (.t (.pt (U'::r'))):=i2;have e2:Xc.wrap ((k:Int)+1)=((k+1:Nat):Int):=AH (by omega) (by omega);refine Aw Sz ?_;simp -implicitDefEqProofs [SSa,q7,r7,l7,hk,i1,i2,lhA,PC,g1,e2];exact sub_env (by simp -implicitDefEqProofs)
  .refine Aw BN ?_;simp -implicitDefEqProofs [SSa,q7,l7];exact Aq.mk () trivial (sub_env (by simp -implicitDefEqProofs))
 rintro _ _;refine Aw BN ?_;simp -implicitDefEqProofs
noncomputable def S0 (ts:List T):Option T:=g2 tMl tMl (λa b=>open Classical in if a=b/\Hm a then some (bv true)else none) ts
theorem wP {m:ML} {c c':List T} (hm:DU m c) (hm':DU m c') (h:Hm m):S0 [.ag c,.ag c']=some (bv true):=by
 show g2 _ _ _ _=_;rw[E2 (τ:=tMl) (σ:=tMl) ⟨c,rfl,hm⟩ ⟨c',rfl,hm'⟩,zy ⟨rfl,h⟩]
theorem wQ:GOK Xa (G q) 47 S0:=DY λa b x y r ha hb hr=>by
 split at hr
 .rename_i hc;obtain⟨rfl,h1⟩:=hc;injection hr with hr;subst hr;obtain⟨c,rfl,hcx⟩:=ha;obtain⟨c',rfl,hcx'⟩:=hb;exact wO hcx hcx' h1
 .cases hr
noncomputable def aU:Tbl:=[(20,Jy),(46,Mc),(45,NP),(47,S0)]
theorem wR:Ctx Xa (G q) (orc aU):=(A5.cons NN (.cons aS (.cons wJ (.cons wQ .nil)))).ctx mixed
theorem wS {m:ML} {c c':List T} (hm:DU m c) (hm':DU m c') (h:Hm m):AA Xa (G q) 19 [.ag c,.ag c'] (· = bv true):=by
 have gl:=wP hm hm' h;obtain⟨T0,T1,T2,T3,T4,T5,T6,T7,T8,⟨rfl,t0,t1,t2,t3,t4,t5,t6,t7,t8⟩⟩:=hm;obtain⟨U0,U1,U2,U3,U4,U5,U6,U7,U8,⟨rfl,u0,u1,u2,u3,u4,u5,u6,u7,u8⟩⟩:=hm';obtain⟨n0,n1,n2,n3,n4,n5,n6,n7,n8,p1,p2,p3,p4,p5,p6,p7⟩:=h;have g0:=KA t0 u0 (by omega);have g1:=wI t1 u1 n1 p1;have g2:=NO t2 u2 n2 p2;have g5:=NO t5 u5 n5 p5;have g6:=NO t6 u6 n6 p6;have g8:=KA t8 u8 (by omega);generalize m.name=nm at gl ⊢;have hc:B7 (.t (.ag [sv nm,T0,T1,T2,T3,T4,T5,T6,T7,T8]))=some [.t (sv nm),.t T0,.t T1,.t T2,.t T3,.t T4,.t T5,.t T6,.t T7,.t T8]:=rfl;have hc':B7 (.t (.ag [sv nm,U0,U1,U2,U3,U4,U5,U6,U7,U8]))=some [.t (sv nm),.t U0,.t U1,.t U2,.t U3,.t U4,.t U5,.t U6,.t U7,.t U8]:=rfl
 obtain⟨H,hH⟩:∃H:Ab,H=[(1,.cells 51 [.t (sv nm),.t U0,.t U1,.t U2,.t U3,.t U4,.t U5,.t U6,.t U7,.t U8]),(0,.cells 51 [.t (sv nm),.t T0,.t T1,.t T2,.t T3,.t T4,.t T5,.t T6,.t T7,.t T8])]:=⟨_,rfl⟩
 have ld:∀j,Ao false 1 H (.ptr 0 j)=([.t (sv nm),.t T0,.t T1,.t T2,.t T3,.t T4,.t T5,.t T6,.t T7,.t T8]:List PV)[j]?:=λj=>by rw[hH];rfl
 have ld1:∀j,Ao false 1 H (.ptr 1 j)=([.t (sv nm),.t U0,.t U1,.t U2,.t U3,.t U4,.t U5,.t U6,.t U7,.t U8]:List PV)[j]?:=λj=>by rw[hH];rfl
 have la:Ao true 10 H (.ptr 0 0)=some (.t (.ag [sv nm,T0,T1,T2,T3,T4,T5,T6,T7,T8])):=by rw[hH];rfl
 have la1:Ao true 10 H (.ptr 1 0)=some (.t (.ag [sv nm,U0,U1,U2,U3,U4,U5,U6,U7,U8])):=by rw[hH];rfl
 refine qZ.call rfl ?_;(conv in XO=>cbv);refine Az BN ?_;simp -implicitDefEqProofs [hc,hc'];refine MC.sub (s':=⟨[(3,.ptr 1 0),(2,.ptr 0 0)],H,2,57⟩) (by rw[hH];exact sub_env (by simp -implicitDefEqProofs)) rfl ?_;refine Aw wR ?_;simp -implicitDefEqProofs [ld,ld1,la,la1,aU,g0,g1,g2,g5,g6,g8,gl]
noncomputable def S1 (ts:List T):Option T:=g2 tMl tMl (λa b=>open Classical in if a=b/\Hm a then some (bv true)else none) ts
theorem wT {m:ML} {c c':List T} (hm:DU m c) (hm':DU m c') (h:Hm m):S1 [.ag c,.ag c']=some (bv true):=by
 show g2 _ _ _ _=_;rw[E2 (τ:=tMl) (σ:=tMl) ⟨c,rfl,hm⟩ ⟨c',rfl,hm'⟩,zy ⟨rfl,h⟩]
theorem wU:GOK Xa (G q) 19 S1:=DY λa b x y r ha hb hr=>by
 split at hr
 .rename_i hc;obtain⟨rfl,h1⟩:=hc;injection hr with hr;subst hr;obtain⟨c,rfl,hcx⟩:=ha;obtain⟨c',rfl,hcx'⟩:=hb;exact wS hcx hcx' h1
 .cases hr
theorem ten (c:List T) (h:c.length=10):∃a0 a1 a2 a3 a4 a5 a6 a7 a8 a9,c=[a0,a1,a2,a3,a4,a5,a6,a7,a8,a9]:=by
 match c,h with
 | [a0,a1,a2,a3,a4,a5,a6,a7,a8,a9],_=>exact⟨_,_,_,_,_,_,_,_,_,_,rfl⟩
theorem wV (a0 a1 a2 a3 a4 a5 a6 a7 a8 a9:T) (r:List T):Ao true 10 [] (.t (.pt (a0::a1::a2::a3::a4::a5::a6::a7::a8::a9::r)))=some (.t (.ag [a0,a1,a2,a3,a4,a5,a6,a7,a8,a9])):=rfl
def PD (n:Nat) (t u:T) (j:Nat):Ac:=⟨[(5,.t (iv (j:Int))),(1,.t u),(0,.t t)],[],0,n⟩
theorem wW {t u:T} {L:List ML} (ht:Hl t L) (hu:Hl u L) (hl:L.length<=100000) (hok:∀m∈L,Hm m):AA Xa (G q) 16 [t,u] (· = bv true):=by
 have l1:=ht.len;have l2:=hu.len;have C:Ctx Xa (G q) (orc [(19,S1)]):=(A5.cons wU .nil).ctx mixed;refine qY.call rfl ?_;(conv in XN=>cbv);refine Az BN ?_;simp -implicitDefEqProofs;refine Az BN ?_;simp -implicitDefEqProofs [l1,l2];refine BM (α:=Unit) (λ_=>⟨[(1,.t u),(0,.t t)],[],0,27⟩) (λ_=>True) (λ_=>rfl) ?_ ?_
 .refine Az BN ?_;simp -implicitDefEqProofs;refine BI ?_;refine GW (PD 27 t u) L.length (λ_=>rfl) ?_ rfl ?_ ?_
  .refine AJ rfl rfl ?_ ?_<;>simp -implicitDefEqProofs [PD]
  .intro j hj
   obtain⟨m,hm⟩:∃m,L[j]?=some m:=⟨_,Xb hj⟩
   obtain⟨c,r,i1,hc,hcl⟩:=ht.iaddr hm;obtain⟨c',r',i2,hc',hcl'⟩:=hu.iaddr hm;have g:=wT hc hc' (hok m (Xf hm));obtain⟨a0,a1,a2,a3,a4,a5,a6,a7,a8,a9,rfl⟩:=ten c hcl;obtain⟨b0,b1,b2,b3,b4,b5,b6,b7,b8,b9,rfl⟩:=ten c' hcl';have i1:Bm 10 (.t t) (.t (iv (j:Int)))=some (.t (.pt (a0::a1::a2::a3::a4::a5::a6::a7::a8::a9::r))):=i1;have i2:Bm 10 (.t u) (.t (iv (j:Int)))=some (.t (.pt (b0::b1::b2::b3::b4::b5::b6::b7::b8::b9::r'))):=i2;have e1:Xc.wrap ((j:Int)+1)=((j+1:Nat):Int):=AH (by omega) (by omega);refine Aw C ?_;simp -implicitDefEqProofs [PD,l1,hj,i1,i2,wV,g,e1];refine AJ rfl rfl ?_ ?_<;>simp -implicitDefEqProofs
  .refine Aw BN ?_;simp -implicitDefEqProofs [PD,l1];exact Aq.mk () trivial (AJ rfl rfl (by simp -implicitDefEqProofs) (by simp -implicitDefEqProofs))
 .rintro _ _;refine Aw BN ?_;simp -implicitDefEqProofs
noncomputable def KD (ts:List T):Option T:=open Classical in match ts with
 | [t,u]=>if ∃L:List ML,Hl t L/\Hl u L/\L.length<=100000/\∀m∈L,Hm m then some (bv true)else none
 | _=>none
theorem aV {t u:T} {L:List ML} (ht:Hl t L) (hu:Hl u L) (hl:L.length<=100000) (hok:∀m∈L,Hm m):KD [t,u]=some (bv true):=by
 unfold KD;simp only;rw[zy ⟨L,ht,hu,hl,hok⟩]
theorem wX:GOK Xa (G q) 16 KD:=λargs r h=>by
 unfold KD at h;split at h
 .split at h
  .rename_i hc;obtain⟨L,h1,h2,h3,h4⟩:=hc;injection h with h;subst h;exact wW h1 h2 h3 h4
  .cases h
 .cases h
end Go.Proofs.YtobnacghaamfoaaGreatDoor
namespace Go.Abs
open Go
section
variable {P : Program} {G : Ay} {B N : Nat} {Φ : AC} {s : Ac}
def MCX (P:Program) (G:Ay) (B N:Nat) (M:Ak) (R:(Exit->Ac->Prop)->Prop) (s:Ac):Prop:=∃Q,R Q/\MC P G B N M Q s
def PX (R:(Exit->Ac->Prop)->Prop) (e:Exit) (s:Ac):Prop:=∃Q,R Q/\Q e s
def aW (P:Program) (G:Ay) (B:Nat) (S:Ac):Exit->Ac->Prop
 | .normal,s=>Sub P G B s S
 | _,_=>False
def RWh (P:Program) (G:Ay) (B:Nat) {α:Type} (S:α->Ac) (Ok:α->Prop) (R:(Exit->Ac->Prop)->Prop) (Q':Exit->Ac->Prop):Prop:=
 (∃a,Ok a/\Q'=aW P G B (S a))\/∃Q,R Q/\Q'=Jb Q
def RBl (id:Nat) (R:(Exit->Ac->Prop)->Prop) (Q':Exit->Ac->Prop):Prop:=∃Q,R Q/\Q'=F8 id Q
structure Fin where
 r:PV
 H:Ab
 nx:Nat
def aX (P:Program) (G:Ay) (B:Nat) (vs:List RV) (BO:Fin->Prop) (Q:Exit->Ac->Prop):Prop:=∃f,BO f/\Q=EA P G B vs λr0 H0 nx0=>r0=f.r/\H0=f.H/\nx0=f.nx
section
variable {α : Type} {S : α -> Ac} {Ok : α -> Prop} {R : (Exit -> Ac -> Prop) -> Prop} {i j : Nat} {vs : List RV} {BO : Fin -> Prop}
@[simp] theorem C0a:PX (RWh P G B S Ok R) .normal s=Aq P G B S Ok s:=by
 apply propext;constructor
 .rintro⟨Q,⟨a,ha,rfl⟩ | ⟨Q1,_,rfl⟩,h⟩
  .exact⟨a,ha,h⟩
  .exact h.elim
 .rintro⟨a,ha,h⟩;exact⟨_,.inl ⟨a,ha,rfl⟩,h⟩
theorem aY {e:Exit} (he:e ≠ .normal):PX (RWh P G B S Ok R) e s=PX R e s:=by
 apply propext;constructor
 .rintro⟨Q,⟨a,ha,rfl⟩ | ⟨Q1,h1,rfl⟩,h⟩
  .cases e<;>first | exact absurd rfl he | exact h.elim
  .cases e<;>first | exact absurd rfl he | exact⟨Q1,h1,h⟩
 .rintro⟨Q,h1,h⟩;refine⟨Jb Q,.inr ⟨Q,h1,rfl⟩,?_⟩
  cases e<;>first | exact absurd rfl he | exact h
@[simp] theorem C0b:PX (RWh P G B S Ok R) .ret s=PX R .ret s:=aY (by simp)
@[simp] theorem C0c:PX (RWh P G B S Ok R) (.exit i) s=PX R (.exit i) s:=aY (by simp)
@[simp] theorem C0d:PX (RBl j R) .normal s=PX R .normal s:=by
 apply propext;constructor
 .rintro⟨_,⟨Q,h1,rfl⟩,h⟩;exact⟨Q,h1,h⟩
 .rintro⟨Q,h1,h⟩;exact⟨_,⟨Q,h1,rfl⟩,h⟩
@[simp] theorem C0e:PX (RBl j R) .ret s=PX R .ret s:=by
 apply propext;constructor
 .rintro⟨_,⟨Q,h1,rfl⟩,h⟩;exact⟨Q,h1,h⟩
 .rintro⟨Q,h1,h⟩;exact⟨_,⟨Q,h1,rfl⟩,h⟩
@[simp] theorem C0f:PX (RBl j R) (.exit i) s=if i=j then PX R .normal s else PX R (.exit i) s:=by
 apply propext;by_cases hij:i=j
 .rw[zy hij];constructor
  .rintro⟨_,⟨Q,h1,rfl⟩,h⟩;simp only[Kd,zy hij]at h;exact⟨Q,h1,h⟩
  .rintro⟨Q,h1,h⟩;exact⟨_,⟨Q,h1,rfl⟩,by simp only[Kd,zy hij];exact h⟩
 .rw[zz hij];constructor
  .rintro⟨_,⟨Q,h1,rfl⟩,h⟩;simp only[Kd,zz hij]at h;exact⟨Q,h1,h⟩
  .rintro⟨Q,h1,h⟩;exact⟨_,⟨Q,h1,rfl⟩,by simp only[Kd,zz hij];exact h⟩
theorem A6 (f:Fin) (hp:BO f) (h:BP (CH s vs) λps=>CF ps=f.r/\s.H=f.H/\s.nx=f.nx):PX (aX P G B vs BO) .ret s:=⟨_,⟨f,hp,rfl⟩,ZP h⟩
theorem A7 (hΦ:Ctx P G Φ) {M:Ak} (h:Ca Φ M s (PX R)):MCX P G B N M R s:=by
 obtain⟨e,s',h1,Q,h2,h3⟩:=Fq M h;exact⟨Q,h2,Eh hΦ M h1 h3⟩
theorem Ai (hΦ:Ctx P G Φ) {a b:Ak} (h:Ca Φ a s (Gb (λs1=>MCX P G B N b R s1) (PX R))):MCX P G B N (.seq a b) R s:=by
 obtain⟨e,s',h1,h2⟩:=Fq a h;cases e
 case normal=>
  obtain⟨Q,h3,h4⟩:=h2;refine⟨Q,h3,λc hc hn=>JY ?_ c hc hn⟩;refine Eh hΦ a h1 ?_;exact⟨(Ey a h1).trans hn,h4⟩
 all_goals
  obtain⟨Q,h3,h4⟩:=h2;refine⟨Q,h3,λc hc hn=>JY ?_ c hc hn⟩;exact Eh hΦ a h1 h4
theorem CQ {id:Nat} {x:Ak} (h:MCX P G B N x (RBl id R) s):MCX P G B N (.block id x) R s:=by
 obtain⟨_,⟨Q,h1,rfl⟩,h2⟩:=h;exact⟨Q,h1,BI h2⟩
theorem PE {k:Opd} {x y:Ak} {t:Bool} (hk:k.ev s.env = .t (.v (.bool t))) (h:MCX P G B N (if t then x else y) R s):MCX P G B N (.cond k x y) R s:=by
 obtain⟨Q,h1,h2⟩:=h;exact⟨Q,h1,JZ hk h2⟩
theorem B9 {s':Ac} {M:Ak} (hs:Sub P G B s s') (hn:s'.n=s.n) (h:MCX P G B N M R s'):MCX P G B N M R s:=by
 obtain⟨Q,h1,h2⟩:=h;exact⟨Q,h1,MC.sub hs hn h2⟩
theorem D5 {x y:Ak} (S:α->Ac) (Ok:α->Prop) (hN:∀a,(S a).n=N) (h1:MCX P G B N x (RWh P G B S Ok R) s) (h2:∀a,Ok a->MCX P G B N y R (S a)):MCX P G B N (.seq x y) R s:=by
 obtain⟨_,⟨a,ha,rfl⟩ | ⟨Q,hQ,rfl⟩,hx⟩:=h1
 .obtain⟨Q,hQ,hy⟩:=h2 a ha;refine⟨Q,hQ,BM (α:=Unit) (λ_=>S a) (λ_=>True) (λ_=>hN a) (hx.mono λe s1 q=>?_) λ_ _=>hy⟩;cases e
  case normal=>exact⟨(),trivial,q⟩
  all_goals exact q.elim
 .refine⟨Q,hQ,BM (α:=α) S (λ_=>False) hN (hx.mono λe s1 q=>?_) λ_ h=>h.elim⟩;cases e
  case normal=>exact q.elim
  all_goals exact q
def Me (P:Program) (G:Ay) (B N:Nat) (x:Ak) (Q:Exit->Ac->Prop):Nat->Ac->Prop
 | 0,s=>s.n=N/\MC P G B N x (Jb Q) s
 | n+1,s=>s.n=N/\∃s',MC P G B N x (aW P G B s') s/\Me P G B N x Q n s'
theorem Me.n {x:Ak} {Q:Exit->Ac->Prop}:∀{n:Nat} {s:Ac},Me P G B N x Q n s->s.n=N
 | 0,_,h=>h.1
 | _+1,_,h=>h.1
theorem wY {x:Ak} {Q:Exit->Ac->Prop} {n:Nat} (h:Me P G B N x Q n s):MC P G B N (.loop x) Q s:=by
 refine OP (λn s=>Me P G B N x Q n s) n h (λn s h=>h.n) λn s h=>?_
 cases n with
 | zero=>
  refine h.2.mono λe s1 q=>?_;cases e
  case normal=>exact q.elim
  all_goals exact q
 | succ n=>
  obtain⟨_,s',h1,h2⟩:=h;refine h1.mono λe s1 q=>?_;cases e
  case normal=>exact⟨n,by omega,s',q,h2⟩
  all_goals exact q.elim
theorem FN {x:Ak} (S:α->Ac) (μ:α->Nat) (Ok:α->Prop) (a0:α) (hN:∀a,(S a).n=N) (hok:Ok a0) (h0:Sub P G B s (S a0)) (hs:s.n=N)
  (round:∀a,Ok a->MCX P G B N x (RWh P G B S (λa'=>Ok a'/\μ a'<μ a) R) (S a)):MCX P G B N (.loop x) R s:=by
 have key:∀(k:Nat) (a:α),μ a<=k->Ok a->∃Q,R Q/\∃n,Me P G B N x Q n (S a):=by
  intro k
  induction k with
  | zero=>
   intro a hk ha;obtain⟨_,⟨a',⟨_,h2⟩,rfl⟩ | ⟨Q,hQ,rfl⟩,hx⟩:=round a ha
   .omega
   .exact⟨Q,hQ,0,hN a,hx⟩
  | succ k ih=>
   intro a hk ha;obtain⟨_,⟨a',⟨h1,h2⟩,rfl⟩ | ⟨Q,hQ,rfl⟩,hx⟩:=round a ha
   .obtain⟨Q,hQ,n,hn⟩:=ih a' (by omega) h1;exact⟨Q,hQ,n+1,hN a,S a',hx,hn⟩
   .exact⟨Q,hQ,0,hN a,hx⟩
 obtain⟨Q,hQ,n,hn⟩:=key (μ a0) a0 (Xk _) hok;exact⟨Q,hQ,MC.sub h0 ((hN a0).trans hs.symm) (wY hn)⟩
theorem A0.callX {f:FuncId} {k:Nat} {M:Ak} {vs:List RV} (h:A0 P G f k N M vs) {ps:List PV} {H:Ab} {nx:Nat} {BO:Fin->Prop} (hk:ps.length=k)
  (hm:MCX P G nx N M (aX P G nx vs BO) ⟨FD 0 ps,H,nx,N⟩):∃f':Fin,BO f'/\AB P G f ps H nx f'.r f'.H f'.nx:=by
 obtain⟨_,⟨f',hp,rfl⟩,h2⟩:=hm;exact⟨f',hp,h.callP hk h2⟩
end
end
def ClP (n:Nat) (p:PV):Prop:=∀H F,(∀b∈F,n<=b)->B5 H F p=p
def ClR (n:Nat) (x:Row):Prop:=∀H F,(∀b∈F,n<=b)->Cy H F x=x
def Cl (H:Ab) (nx:Nat):Prop:=∀c x,Aa H c=some x->ClR nx x
theorem ClP.t (n:Nat) (x:T):ClP n (.t x):=λ_ _ _=>rfl
theorem ClP.ptr (n b o:Nat):ClP n (.ptr b o):=λ_ _ _=>rfl
theorem ClP.row {n b o m z:Nat} (h:b<n):ClP n (.row b o m z):=λH F hF=>by
 unfold B5;simp only[toT];split
 .rename_i x F' hx;split at hx
  .split at hx
   .obtain⟨ts,_,e⟩:=Xj.1 hx;injection e with _ e;subst e;rw[zz];intro h2
    have h3:b∈F:=by simpa using h2
    have:=hF b h3;omega
   .cases hx
  .cases hx
 .rfl
theorem ClP.rowP {α:Type} {e:Enc α} {n b:Nat} {l:List α} (h:l≠[]->b<n):ClP n (Xl e b l):=by
 cases l with
 | nil=>exact ClP.t n _
 | cons x r=>exact ClP.row (h (by simp))
theorem ClP.mono {n m:Nat} {p:PV} (h:ClP n p) (hm:n<=m):ClP m p:=λH F hF=>h H F λb hb=>Xm hm (hF b hb)
theorem ClR.mono {n m:Nat} {x:Row} (h:ClR n x) (hm:n<=m):ClR m x:=λH F hF=>h H F λb hb=>Xm hm (hF b hb)
theorem ClR.cells {n ty:Nat} {cs:List PV} (h:∀p∈cs,ClP n p):ClR n (.cells ty cs):=λH F hF=>by
 simp only[Cy];congr 1
 conv=>rhs;rw[<-List.map_id cs]
 exact List.map_congr_left λp hp=>h p hp H F hF
theorem ClR.trees (n ty:Nat) (cs:List T):ClR n (.cells ty (cs.map .t)):=ClR.cells λp hp=>by
 obtain⟨t,_,rfl⟩:=Xo.1 hp;exact ClP.t n t
theorem ClR.rowOf {α:Type} (n:Nat) (e:Enc α) (ty:Nat) (l:List α):ClR n (Abs.rowOf e ty l):=ClR.trees n ty _
theorem wZ (H:Ab) (F:List Nat) (p:PV):(∃x,B5 H F p = .t x)\/B5 H F p=p:=by
 unfold B5;split
 .split
  .exact .inl ⟨_,rfl⟩
  .exact .inr rfl
 .exact .inr rfl
theorem ClR.frz {n:Nat} {x:Row} (h:ClR n x) (H:Ab) (F:List Nat):ClR n (Cy H F x):=by
 cases x with
 | cells ty cs=>
  refine ClR.cells λp hp=>?_;obtain⟨p0,hp0,rfl⟩:=Xo.1 hp;rcases wZ H F p0 with⟨y,hy⟩ | hy
  .rw[hy];exact ClP.t n y
  .rw[hy];intro H2 F2 hF2;have h2:=h H2 F2 hF2;simp only[Cy]at h2;injection h2 with _ h2
   have h3:cs.map (B5 H2 F2)=cs.map id:=by rw[h2,List.map_id]
   exact List.map_inj_left.1 h3 p0 hp0
 | _=>exact h
theorem Cl.cons {H:Ab} {nx k m:Nat} {r:Row} (h:Cl H nx) (hr:ClR m r) (hm:nx<=m):Cl ((k,r)::H) m:=λc x hx=>by
 rw[A1]at hx;split at hx
 .injection hx with hx;subst hx;exact hr
 .exact(h c x hx).mono hm
theorem Cl.upd {H:Ab} {nx k:Nat} {r:Row} (h:Cl H nx) (hr:ClR nx r):Cl (Abs.upd H k r) nx:=λc x hx=>by
 rw[A9]at hx;split at hx
 .obtain⟨y,_,rfl⟩:=Xj.1 hx;exact hr
 .exact h c x hx
theorem Cl.rem {H:Ab} {nx k:Nat} (h:Cl H nx):Cl (Abs.rem H k) nx:=λc x hx=>by
 rw[Cr]at hx;split at hx
 .cases hx
 .exact h c x hx
theorem Cl.mono {H:Ab} {nx m:Nat} (h:Cl H nx) (hm:nx<=m):Cl H m:=λc x hx=>(h c x hx).mono hm
theorem S2 (H:Ab) (F:List Nat) (c:Nat):Aa (B8 H F) c=(Aa (Dl H F) c).map (Cy H F):=by
 unfold B8;rw[Fo]
theorem Cl.frz {H:Ab} {nx:Nat} (h:Cl H nx) (F:List Nat):Cl (B8 H F) nx:=λc x hx=>by
 rw[S2]at hx;obtain⟨y,hy,rfl⟩:=Xj.1 hx;exact(h c y (Ef F H c y hy).1).frz H F
theorem Frs.frzH {H:Ab} {nx:Nat} (h:Frs H nx) (F:List Nat):Frs (B8 H F) nx:=λb x hb=>by
 rw[S2]at hb;obtain⟨y,hy,_⟩:=Xj.1 hb;exact h b y (Ef F H b y hy).1
theorem PF {H:Ab} {F:List Nat} {c:Nat} {o:Option Row} (hc:c∉F) (h:Aa H c=o) (hr:∀x,o=some x->Cy H F x=x):Aa (B8 H F) c=o:=by
 rw[S2,Sa F H c hc,h]
 cases o with
 | none=>rfl
 | some x=>rw[Option.map_some,hr x rfl]
section
variable {α : Type} {e : Enc α} {ty b : Nat} {H : Ab} {l : List α}
theorem Cl.appH {nx:Nat} {m:List α} (h:Cl H nx):Cl (Abs.appH e ty H nx b l m) (nx+1):=by
 unfold Abs.appH;split
 .exact h.mono (Xh _)
 .split
  .exact h.cons (ClR.rowOf _ e ty _) (Xh _)
  .exact h.rem.cons (ClR.rowOf _ e ty _) (Xh _)
theorem PH {by' nx:Nat} (x:α) (z:Nat) (hz:e.z=z) (cs:List PV) (hcs:cs=(e.enc x).map .t) (h:Ar e ty H b l) (hb:b<nx)
  (hl:(l.length+1)*by'<=140737488355328) (hl2:l.length<=1000000000000) :
  ∃H',B1 ty z by' ((nx,.cells ty cs)::H) (nx+1) (Xl e b l) (.row nx 0 1 z)=some (Xl e (nx+1) (l++[x]),H',nx+2)/\Ar e ty H' (nx+1) (l++[x]) /\
   (∀c,c<nx->c≠b->Aa H' c=Aa H c)/\(Frs H nx->Frs H' (nx+2))/\(Cl H nx->Cl H' (nx+2)):=by
 subst hz;subst hcs;have hs:=Gc (e:=e) (H:=(nx,.cells ty ((e.enc x).map .t))::H) (b:=nx) (ty:=ty) x (by rw[A1,zy rfl]);have ap:=Nj (nx:=nx+1) (by':=by') (m:=[x]) (h.cons (k:=nx) (r:=.cells ty ((e.enc x).map .t)) (by omega)) hs (by simpa using hl) (by simp;omega)
 have hn:Ej (nx+1) l [x]=nx+2:=by unfold Ej;simp
 rw[hn]at ap
 exact⟨_,ap,Ar.app,λc h1 h2=>by rw[Rk (by omega) h2,A1,zz (by omega)],λh=>(h.cons (Xs _) (Xh _)).appH,
  λh=>(h.cons (ClR.trees _ ty _) (Xh _)).appH⟩
theorem aZ {by' nx:Nat} (x:α) (z:Nat) (hz:e.z=z) (cs:List T) (hcs:cs=e.enc x) (h:Ar e ty H b l) (hb:b<nx)
  (hl:(l.length+1)*by'<=140737488355328) (hl2:l.length<=1000000000000) :
  ∃H',B1 ty z by' H nx (Xl e b l) (.t (.sl 1 cs))=some (Xl e nx (l++[x]),H',nx+1)/\Ar e ty H' nx (l++[x])/\(∀c,c<nx->c≠b->Aa H' c=Aa H c)/\(Frs H nx->Frs H' (nx+1))/\(Cl H nx->Cl H' (nx+1)):=by
 subst hz;subst hcs
 have hs:DB H e.z (.t (.sl 1 (e.enc x)))=some ([x].length,([x].flatMap e.enc).map .t):=by
  have:T.sl 1 (e.enc x)=slT e [x]:=by simp[slT]
  rw[this];exact OV (.inr rfl)
 have ap:=Nj (nx:=nx) (by':=by') (m:=[x]) h hs (by simpa using hl) (by simp;omega)
 have hn:Ej nx l [x]=nx+1:=by unfold Ej;simp
 rw[hn]at ap;exact⟨_,ap,Ar.app,λc h1 h2=>Rk (by omega) h2,λh=>h.appH,λh=>h.appH⟩
end
structure IsF (r:PV) (H:Ab) (nx:Nat) (f:Fin):Prop where
 r:f.r=r
 h:f.H=H
 n:f.nx=nx
theorem S4 {P:Program} {G:Ay} {fn:FuncId} {xs:List PV} {H H':Ab} {nx nx':Nat} {r:PV} (h:∃f:Fin,IsF r H' nx' f/\AB P G fn xs H nx f.r f.H f.nx):AB P G fn xs H nx r H' nx':=by
 obtain⟨⟨fr,fH,fn'⟩,⟨rfl,rfl,rfl⟩,hc⟩:=h;exact hc
theorem bA {P:Program} {L:Loc} {w:World}:∀{args:List T} {us:List Value},Ba L.I w args us->A3 P L w (args.map .t) us
 | [],us,h=>by simp only[Ba]at h;simp only[Xi,A3];exact h
 | a::r,us,h=>by
  simp only[Ba]at h;obtain⟨x,xs,e,h1,h2⟩:=h;simp only[Xd,A3];exact⟨x,xs,e,by simp only[Ae];exact h1,bA h2⟩
theorem AB.callT {P:Program} {G:Ay} {f:FuncId} {args:List T} {r:T} {H':Ab} {nx':Nat} (h:AB P G f (args.map .t) [] 0 (.t r) H' nx'):AA P G f args (· = r):=by
 refine⟨h.1,λI w us hI hG hr=>?_⟩;refine(h.2 ⟨I,λ_=>0,0⟩ w us ⟨hI,λb x hb=>(by cases hb),λb x hb=>(by cases hb),λb b' x y hb=>(by cases hb),λb x hb=>(by cases hb),hG⟩ rfl (bA hr)).mono ?_;rintro e w' ⟨v,L',rfl,hv,hok,_,hm,hext⟩
 have nm:∀g,¬Fl ⟨I,λ_=>0,0⟩ ([]:Ab) g:=λg ⟨b,x,hb,_⟩=>by cases hb
 refine⟨v,r,L'.I,rfl,rfl,by simpa only[Ae]using hv,hext.outer,hext.size,λg hg=>hext.same g hg (nm g),hext.more,λg hg=>?_,hok.lt⟩;rcases hext.new g hg with h | h | h
 .exact .inl h
 .exact .inr h
 .exact absurd h (nm g)
structure IsT (r:T) (f:Fin):Prop where
 r:f.r = .t r
theorem Hn {P:Program} {G:Ay} {fn:FuncId} {args:List T} {r:T} (h:∃f:Fin,IsT r f/\AB P G fn (args.map .t) [] 0 f.r f.H f.nx):AA P G fn args (· = r):=by
 obtain⟨⟨fr,fH,fn'⟩,⟨hr⟩,hc⟩:=h;simp only at hr hc;subst hr;exact AB.callT hc
structure Kr (k0:Nat) (H:Ab) (nx:Nat) (H':Ab) (nx':Nat):Prop where
 k:∀c,c<nx->c≠k0->Aa H' c=Aa H c
 n:nx<=nx'
 fr:Frs H nx->Frs H' nx'
 cl:Cl H nx->Cl H' nx'
section
variable {k0 nx nx' nx'' : Nat} {H H' H'' : Ab}
theorem Kr.refl:Kr k0 H nx H nx:=⟨λ_ _ _=>rfl,Xk _,λh=>h,λh=>h⟩
theorem Kr.trans (a:Kr k0 H nx H' nx') (b:Kr k0 H' nx' H'' nx''):Kr k0 H nx H'' nx'':=
 ⟨λc h1 h2=>(b.k c (Nat.lt_of_lt_of_le h1 a.n) h2).trans (a.k c h1 h2),Xm a.n b.n,λh=>b.fr (a.fr h),λh=>b.cl (a.cl h)⟩
theorem Kr.cons (a:Kr k0 H nx H' nx') {x:Row} (hx:ClR (nx'+1) x):Kr k0 H nx ((nx',x)::H') (nx'+1):=
 ⟨λc h1 h2=>by have:=a.n;rw[A1,zz (by omega)];exact a.k c h1 h2,Nat.le_succ_of_le a.n,λh=>(a.fr h).cons (Xs _) (Xh _),λh=>(a.cl h).cons hx (Xh _)⟩
theorem Kr.upd (a:Kr k0 H nx H' nx') {b:Nat} (hb:b=k0\/nx<=b) {x:Row} (hx:ClR nx' x):Kr k0 H nx (Abs.upd H' b x) nx':=
 ⟨λc h1 h2=>by rw[A9,zz (by omega)];exact a.k c h1 h2,a.n,λh=>(a.fr h).upd,λh=>(a.cl h).upd hx⟩
theorem Kr.mono (a:Kr k0 H nx H' nx') (h:nx'<=nx''):Kr k0 H nx H' nx'':=⟨a.k,Xm a.n h,λh1=>(a.fr h1).mono h,λh1=>(a.cl h1).mono h⟩
theorem Kr.app (a:Kr k0 H nx H' nx') {b:Nat} (hb:nx<=b) (hk:∀c,c<nx'->c≠b->Aa H'' c=Aa H' c) (hn:nx'<=nx'') (hf:Frs H' nx'->Frs H'' nx'') (hc:Cl H' nx'->Cl H'' nx''):Kr k0 H nx H'' nx'':=
 ⟨λc h1 h2=>by have:=a.n;rw[hk c (by omega) (by omega)];exact a.k c h1 h2,Xm a.n hn,λh=>hf (a.fr h),λh=>hc (a.cl h)⟩
theorem Kr.frz (a:Kr k0 H nx H' nx') (hC:Cl H nx) {F:List Nat} (hF:∀b∈F,nx<=b):Kr k0 H nx (B8 H' F) nx':=
 ⟨λc h1 h2=>by
  refine PF (λh=>by have:=hF c h;omega) (a.k c h1 h2) λx hx=>?_
  exact hC c x hx H' F hF,a.n,λh=>(a.fr h).frzH F,λh=>(a.cl h).frz F⟩
end
end Go.Abs
namespace Go.Proofs.YtobnacghaamfoaaGreatDoor
open Go Go.Abs
variable {q : Gl} {t : T} {l : List Tok} {i : Nat}
noncomputable def ctB (l:List Tok) (t:T) (n:Nat):Ez:=[(192,hP t (Hj l)),(176,hP t (Ci l)),(206,hP t (F0 l)),(156,hP t (Dj l n))]
noncomputable def ceB (l:List Tok) (t:T) (n:Nat):GB:=[(192,eP t (Hj l)),(176,eP t (Ci l)),(206,eP t (F0 l)),(156,eP t (Dj l n))]
theorem xA (ht:IsS Ap t l) {n:Nat} (hD:Es q t l n):Ctx Xa (G q) (orh [] (ctB l t n)):=
 A5.nil.ctxH (.cons (BR (P0 ht)).hok (.cons (BR (Jv ht)).hok (.cons (BR (P1 ht)).hok (.cons (BR hD).hok .nil)))) mixed
theorem xB (ht:IsS Ap t l) {n:Nat} (hD:Es q t l n):POK Xa (G q) (orE (ceB l t n)):=
 E3.ok (.cons (BR (P0 ht)).eok (.cons (BR (Jv ht)).eok (.cons (BR (P1 ht)).eok (.cons (BR hD).eok .nil))))
def Gm (rec:Nat->Res Ds):Res (List ByteArray)->Res Ds
 | .error e=>.error e
 | .ok (path,p2)=>match rec p2 with
  | .error e=>.error e
  | .ok (d,p3)=>.ok (.mk 5 ⟨#[]⟩ path [d],p3)
theorem bB {L:List KT} {rec:Nat->Res Ds} {p p1:Nat} {s:ByteArray} (h:AE L p 2 = .ok (s,p1)):DG L rec p=Gm rec (EZ L (L.length+1) p1 [s]):=by
 unfold DG;rw[h];simp only;cases EZ L (L.length+1) p1 [s]<;>rfl
structure Br where
 f:Nat
 p:Nat
 parts:List Ds
def SBr (t:T) (v:Int) (a:Br):Ac:=⟨[(2,.t (iv v)),(1,rowP eD 2 a.parts),(0,.ptr 0 0)],[(0,pr t a.p)]++Ax eD 57 2 a.parts,3,38⟩
structure xC (L:List KT) (n:Nat) (R:Res (List Ds)) (a:Br):Prop where
 le:a.p<=L.length
 fu:L.length-a.p<a.f
 pl:a.parts.length<=255
 eq:brS L (As L n) a.f a.p a.parts=R
structure Pa where
 f:Nat
 p:Nat
 path:List ByteArray
def SPa (t:T) (v:Int) (parts:List Ds) (a:Pa):Ac:=
 ⟨[(7,rowP Aj 3 a.path),(2,.t (iv v)),(1,rowP eD 2 parts),(0,.ptr 0 0)],[(0,pr t a.p)]++(Ax eD 57 2 parts++Ax Aj 9 3 a.path),4,38⟩
structure xD (L:List KT) (R:Res (List ByteArray)) (a:Pa):Prop where
 le:a.p<=L.length
 fu:L.length-a.p<a.f
 pl:a.path.length<=64
 ne:a.path≠[]
 eq:EZ L a.f a.p a.path=R
theorem xE (ht:IsS Ap t l) (hlim:l.length<=1000000) {n:Nat} (hD:Es q t l n) (hF:Fwd (l.map kt) (As (l.map kt) n)) (hn:n<=64) (hi:i<=l.length) {parts:List Ds} (hpl:parts.length<=255) :
  KM q t 193 i parts (64-(n:Int)) (brS (l.map kt) (As (l.map kt) n) ((l.map kt).length+1) i parts):=by
 have C:=xA ht hD;have E:=xB ht hD
 obtain⟨L,hL⟩:∃L,L=l.map kt:=⟨_,rfl⟩
 have hLl:L.length=l.length:=by rw[hL,Xe]
 rw[<-hL]at hF ⊢
 obtain⟨R,hR⟩:∃R,R=brS L (As L n) (L.length+1) i parts:=⟨_,rfl⟩
 rw[<-hR]
 have ev:Xc.wrap (64-(n:Int)+1)=65-(n:Int):=by
  rw[Fs (by omega) (by omega)];omega
 refine pH.callO rfl ?_;(conv in VV=>cbv);refine Co C E rfl ?_;simp -implicitDefEqProofs;refine BI ?_;refine CV (SBr t (64-(n:Int))) (λa=>a.f) (xC L n R) ⟨L.length+1,i,parts⟩ (λ_=>rfl) ⟨by show i<=_;omega,by show L.length-i<L.length+1;omega,hpl,hR.symm⟩ ?_ rfl ?_
 .exact Dv (k:=1) ((Ar.head' eD 57 1 parts).cons (by omega)) (by omega) (by omega) (by simp -implicitDefEqProofs [BG,AX,ren,BU,Bl,under]) (by simp -implicitDefEqProofs [Cs,Ct,ren,under])
 rintro⟨f,p,parts⟩ ⟨hp,hfu,hpl,heq⟩;simp only at hp hfu hpl heq;rw[hLl]at hp hfu
 obtain⟨f',rfl⟩:∃f',f=f'+1:=⟨f-1,by omega⟩
 rw[brS]at heq;refine BI ?_
 cases htk:AE L p 2 with
 | error e=>
  have e1:DG L (As L n) p = .error e:=by unfold DG;rw[htk]
  rw[e1]at heq;simp only at heq;have m1:=P8 (t:=t) (nx:=3) (H:=(0,pr t p)::Ax eD 57 2 parts) hL hlim rfl (by omega) hp htk;refine Co C E rfl ?_;rw[<-heq];simp -implicitDefEqProofs [SBr,ctB,ceB,m1,Et]
 | ok x=>
  obtain⟨s,p1⟩:=x;have hf1:=D1 htk;rw[hLl]at hf1
  obtain⟨Rp,hRp⟩:∃Rp,Rp=EZ L (L.length+1) p1 [s]:=⟨_,rfl⟩
  have e1:DG L (As L n) p=Gm (As L n) Rp:=by rw[bB htk,hRp]
  have hRe:∀e,Rp = .error e->R = .error e:=λe h=>by rw[e1,h]at heq;exact heq.symm
  have m1:=P5 (t:=t) (nx:=3) (H:=(0,pr t p)::Ax eD 57 2 parts) hL hlim rfl (by omega) hp htk;have m2:=P7 (t:=t) (nx:=3) (H:=(0,pr t p)::Ax eD 57 2 parts) hL hlim rfl hp htk;refine Co C E rfl ?_;simp -implicitDefEqProofs [SBr,ctB,ceB,m1,m2,bsS];refine BM (α:=Pa) (SPa t (64-(n:Int)) parts) (λa=>Rp = .ok (a.path,a.p)/\a.path≠[]/\a.p<=l.length) (λ_=>rfl) ?_ ?_
  .refine BI ?_;refine CV (SPa t (64-(n:Int)) parts) (λa=>a.f) (xD L Rp) ⟨L.length+1,p1,[s]⟩ (λ_=>rfl) ⟨by show p1<=_;omega,by show L.length-p1<L.length+1;omega,by simp,by simp,hRp.symm⟩ ?_ rfl ?_
   .exact sub_rowR2 (k:=3) (c:=2) (.inr rfl) (((Ar.head' eD 57 2 parts).cons (by omega)).cons (by omega)) (by omega) (by omega) (by omega) (by omega) (by omega) (by simp -implicitDefEqProofs [BG,AX,ren,BU,Bl,under]) (by simp -implicitDefEqProofs [Cs,Ct,ren,under,show rowP Aj 3 [s] = .row 3 0 1 1 from rfl])
   .rintro⟨f2,p2,path⟩ ⟨hp2,hfu2,hpl2,hne2,heq2⟩;simp only at hp2 hfu2 hpl2 hne2 heq2;rw[hLl]at hp2 hfu2
    obtain⟨f3,rfl⟩:∃f3,f2=f3+1:=⟨f2-1,by omega⟩
    rw[EZ]at heq2;have hlen:Bd (rowP Aj 3 path)=some (.t (iv (path.length:Int))):=ED Aj 3 path
    cases hs:Au L p2 [46]with
    | false=>
     rw[hs]at heq2;simp only[Xt,if_false]at heq2;have m3:=Sp (t:=t) (nx:=4) (H:=(0,pr t p2)::(Ax eD 57 2 parts++Ax Aj 9 3 path)) (s:=⟨#[46]⟩) (n:=(path.length:Int)) (m:=64) hL hlim rfl (by omega) hp2 hs;have m4:=Sq (t:=t) (nx:=4) (H:=(0,pr t p2)::(Ax eD 57 2 parts++Ax Aj 9 3 path)) (s:=⟨#[46]⟩) (n:=(path.length:Int)) (m:=64) hL hlim rfl hp2 hs;refine BB C E rfl ?_;simp -implicitDefEqProofs [SPa,ctB,ceB,hlen,m3,m4];refine Aq.mk ⟨f3,p2,path⟩ ⟨heq2.symm,hne2,hp2⟩ ?_;exact sub_env (by simp -implicitDefEqProofs)
    | true=>
     rw[hs]at heq2;simp only[if_true]at heq2
     have hpl3:p2<l.length:=by have:=Bo hs;omega
     by_cases hbig:64<=path.length
     .rw[zy hbig]at heq2;rw[hRe _ heq2.symm];have m3:=St (t:=t) (nx:=4) (H:=(0,pr t p2)::(Ax eD 57 2 parts++Ax Aj 9 3 path)) (s:=⟨#[46]⟩) (n:=(path.length:Int)) (m:=64) hL hlim rfl (by omega) hp2 hs (by omega);refine BB C E rfl ?_;simp -implicitDefEqProofs [SPa,ctB,ceB,hlen,m3,Et]
     .rw[zz hbig]at heq2;have m3:=Sr (t:=t) (nx:=4) (H:=(0,pr t p2)::(Ax eD 57 2 parts++Ax Aj 9 3 path)) (s:=⟨#[46]⟩) (n:=(path.length:Int)) (m:=64) hL hlim rfl (by omega) hp2 hs (by omega);have m4:=Ss (t:=t) (nx:=4) (H:=(0,pr t p2)::(Ax eD 57 2 parts++Ax Aj 9 3 path)) (s:=⟨#[46]⟩) (n:=(path.length:Int)) (m:=64) hL hlim rfl hp2 hs (by omega)
      cases htk2:AE L (p2+1) 2 with
      | error e=>
       rw[htk2]at heq2;simp only at heq2;rw[hRe _ heq2.symm];have m5:=P8 (t:=t) (nx:=4) (H:=(0,pr t (p2+1))::(Ax eD 57 2 parts++Ax Aj 9 3 path)) hL hlim rfl (by omega) (by omega) htk2;refine BB C E rfl ?_;simp -implicitDefEqProofs [SPa,ctB,ceB,hlen,m3,m4,m5,Et]
      | ok x=>
       obtain⟨s2,p3⟩:=x;rw[htk2]at heq2;simp only at heq2;have hf2:=D1 htk2;rw[hLl]at hf2;have m5:=P5 (t:=t) (nx:=4) (H:=(0,pr t (p2+1))::(Ax eD 57 2 parts++Ax Aj 9 3 path)) hL hlim rfl (by omega) (by omega) htk2;have m6:=P7 (t:=t) (nx:=4) (H:=(0,pr t (p2+1))::(Ax eD 57 2 parts++Ax Aj 9 3 path)) hL hlim rfl (by omega) htk2
       have r0:Ar Aj 9 ((4,.cells 9 [.t (sv s2)])::(0,pr t p3)::(Ax eD 57 2 parts++Ax Aj 9 3 path)) 3 path:=
        ((Ar.right (Ar.head' Aj 9 3 path) (rowH_ne (by omega))).cons (k:=0) (by omega)).cons (k:=4) (by omega)
       have r1:Ar eD 57 ((4,.cells 9 [.t (sv s2)])::(0,pr t p3)::(Ax eD 57 2 parts++Ax Aj 9 3 path)) 2 parts:=
        ((Ar.head eD 57 _ 2 parts).cons (k:=0) (by omega)).cons (k:=4) (by omega)
       obtain⟨b2,H2,n2,ap2,r2,ne2,hle2,hold,hb2⟩:=Gd (e:=Aj) (ty:=9) (by':=16) (nx:=5) (m:=[s2]) r0 (Gc (e:=Aj) (b:=4) (ty:=9) s2 rfl) (by simp;omega) (by simp;omega);have ap2':B1 9 1 16 ((4,.cells 9 [.t (sv s2)])::(0,pr t p3)::(Ax eD 57 2 parts++Ax Aj 9 3 path)) 5 (rowP Aj 3 path) (.row 4 0 1 1)=some (rowP Aj b2 (path++[s2]),H2,n2):=ap2;have hl2:Aa H2 0=some (pr t p3):=(hold 0 (by omega) (by omega)).trans rfl
       have r1':Ar eD 57 H2 2 parts:=r1.imp id λh=>by rw[hold 2 (by omega) (by omega)];exact h
       refine BB C E rfl ?_;simp -implicitDefEqProofs [SPa,ctB,ceB,hlen,m3,m4,m5,m6,bsS,ap2'];refine Aq.mk ⟨f3,p3,path++[s2]⟩ ⟨⟨by show p3<=_;omega,by show L.length-p3<f3;omega,by simp;omega,by simp,heq2⟩,by show f3<f3+1;omega⟩ ?_;exact sub_rowR2 (k:=b2) (c:=2) r2 r1' (by omega) (by omega) (by omega) (by omega) (by omega) (by simp -implicitDefEqProofs [BG,AX,ren,BU,Bl,under,hl2];omega) (by simp -implicitDefEqProofs [Cs,Ct,ren,under])
  .rintro⟨f2,p2,path⟩ ⟨hRp2,hne2,hp2⟩;simp only at hRp2 hne2 hp2;rw[e1,hRp2]at heq;have hpf:=Sd _ _ _ _ _ (hRp.symm.trans hRp2) (by simp)
   cases hd:As L n p2 with
   | error e=>
    have e2:Gm (As L n) (.ok (path,p2)) = .error e:=by simp only[Gm,hd]
    rw[e2]at heq;simp only at heq;rw[<-heq];have m3:=vR (t:=t) (nx:=4) (H:=(0,pr t p2)::(Ax eD 57 2 parts++Ax Aj 9 3 path)) hL rfl (by omega) hp2 hd;refine Co C E rfl ?_;simp -implicitDefEqProofs [SPa,ctB,ceB,ev,m3,Et]
   | ok y=>
    obtain⟨d,p3⟩:=y
    have e2:Gm (As L n) (.ok (path,p2)) = .ok (.mk 5 ⟨#[]⟩ path [d],p3):=by simp only[Gm,hd]
    rw[e2]at heq;simp only at heq;have hf2:=hF _ _ _ hd;rw[hLl]at hf2;have m3:=vP (t:=t) (nx:=4) (H:=(0,pr t p2)::(Ax eD 57 2 parts++Ax Aj 9 3 path)) hL rfl (by omega) hp2 hd;have m4:=vQ (t:=t) (nx:=4) (H:=(0,pr t p2)::(Ax eD 57 2 parts++Ax Aj 9 3 path)) hL rfl hp2 hd
    obtain⟨H5,hH5⟩:∃H5:Ab,H5=(5,.cells 57 [.t (iv 5),.t (sv ⟨#[]⟩),rowP Aj 3 path,.row 4 0 1 4])::(4,.cells 57 ((A4 d).map .t))::(0,pr t p3)::(Ax eD 57 2 parts++Ax Aj 9 3 path):=⟨_,rfl⟩
    have r1:Ar eD 57 H5 2 parts:=by
     rw[hH5];exact(((Ar.head eD 57 _ 2 parts).cons (k:=0) (by omega)).cons (k:=4) (by omega)).cons (k:=5) (by omega)
    have r3:Ar Aj 9 H5 3 path:=by
     rw[hH5];exact(((Ar.right (Ar.head' Aj 9 3 path) (rowH_ne (by omega))).cons (k:=0) (by omega)).cons (k:=4) (by omega)).cons (k:=5) (by omega)
    obtain⟨H6,ap,hn6,hold⟩:=app_cells (e:=eD) (ty:=57) (by':=72) (nx:=6) (k:=5) r1 (by rw[hH5];rfl) rfl (by omega) (by omega);have ap':B1 57 4 72 H5 6 (rowP eD 2 parts) (.row 5 0 1 4)=some (.row 6 0 (parts.length+1) 4,H6,7):=ap;rw[hH5]at ap';refine Co C E rfl ?_;simp -implicitDefEqProofs [SPa,ctB,ceB,ev,m3,m4,bsD,-AF,bdP _ hne2,bsA,ap']
    have w3:Ar Aj 9 H6 3 path:=r3.imp id λh=>by rw[hold 3 (by omega) (by omega)];exact h
    have w4:Aa H6 4=some (rowOf eD 57 [d]):=by rw[hold 4 (by omega) (by omega),hH5];simp[Aa,rowOf,eD]
    have w0:Aa H6 0=some (pr t p3):=by rw[hold 0 (by omega) (by omega),hH5];rfl
    obtain⟨parts2,hp2e⟩:∃parts2,parts2=parts++[.mk 5 ⟨#[]⟩ path [d]]:=⟨_,rfl⟩
    have hlen2:parts2.length=parts.length+1:=by rw[hp2e];simp
    refine MC.sub (vL (v:=64-(n:Int)) (kn:=6) (kd:=4) (by omega) hn6 w3 w4 w0 (by omega) (by omega) (by omega) rfl rfl rfl) rfl ?_;rw[<-hp2e]at heq ⊢;have hlen:Bd (rowP eD 2 parts2)=some (.t (iv (parts2.length:Int))):=ED eD 2 parts2
    cases hs:Au L p3 [44]with
    | false=>
     rw[hs]at heq;simp only[Xt,if_false]at heq;have m5:=Sp (t:=t) (nx:=3) (H:=(0,pr t p3)::Ax eD 57 2 parts2) (s:=⟨#[44]⟩) (n:=(parts2.length:Int)) (m:=256) hL hlim rfl (by omega) hf2.2 hs;have m6:=Sq (t:=t) (nx:=3) (H:=(0,pr t p3)::Ax eD 57 2 parts2) (s:=⟨#[44]⟩) (n:=(parts2.length:Int)) (m:=256) hL hlim rfl hf2.2 hs
     cases hsk:Bk L p3 [93]with
     | error e=>
      rw[hsk]at heq;simp only at heq;rw[<-heq];have m7:=vO (t:=t) (nx:=3) (H:=(0,pr t p3)::Ax eD 57 2 parts2) (s:=⟨#[93]⟩) hL hlim rfl (by omega) hf2.2 hsk;refine BB C E rfl ?_;simp -implicitDefEqProofs [ctB,ceB,hlen,m5,m6,m7,Et]
     | ok p4=>
      rw[hsk]at heq;simp only at heq;rw[<-heq];have m7:=vM (t:=t) (nx:=3) (H:=(0,pr t p3)::Ax eD 57 2 parts2) (s:=⟨#[93]⟩) hL hlim rfl (by omega) hf2.2 hsk;have m8:=vN (t:=t) (nx:=3) (H:=(0,pr t p3)::Ax eD 57 2 parts2) (s:=⟨#[93]⟩) hL hlim rfl hf2.2 hsk;refine BB C E rfl ?_;simp -implicitDefEqProofs [ctB,ceB,hlen,m5,m6,m7,m8,Et];exact ZO ⟨.inr rfl,_,_,Sub.refl _,rfl,rfl,rfl,rfl⟩
    | true=>
     rw[hs]at heq;simp only[if_true]at heq
     have hpl3:p3<l.length:=by have:=Bo hs;omega
     by_cases hbig:256<=parts.length+1
     .rw[zy hbig]at heq;rw[<-heq];have m5:=St (t:=t) (nx:=3) (H:=(0,pr t p3)::Ax eD 57 2 parts2) (s:=⟨#[44]⟩) (n:=(parts2.length:Int)) (m:=256) hL hlim rfl (by omega) hf2.2 hs (by omega);refine BB C E rfl ?_;simp -implicitDefEqProofs [ctB,ceB,hlen,m5,Et]
     .rw[zz hbig]at heq;have m5:=Sr (t:=t) (nx:=3) (H:=(0,pr t p3)::Ax eD 57 2 parts2) (s:=⟨#[44]⟩) (n:=(parts2.length:Int)) (m:=256) hL hlim rfl (by omega) hf2.2 hs (by omega);have m6:=Ss (t:=t) (nx:=3) (H:=(0,pr t p3)::Ax eD 57 2 parts2) (s:=⟨#[44]⟩) (n:=(parts2.length:Int)) (m:=256) hL hlim rfl hf2.2 hs (by omega);refine BB C E rfl ?_;simp -implicitDefEqProofs [ctB,ceB,hlen,m5,m6];refine Aq.mk ⟨f',p3+1,parts2⟩ ⟨⟨by show p3+1<=_;omega,by show L.length-(p3+1)<f';omega,by show parts2.length<=255;omega,heq⟩,by show f'<f'+1;omega⟩ ?_;exact sub_env (by simp -implicitDefEqProofs)
variable {q : Gl} {t : T} {l : List Tok} {i : Nat}
noncomputable def J3 (l:List Tok) (n:Nat):PG:=λi ts=>match ts with
 | [.v (.int .i64 v)]=>if v=64-(n:Int)/\i<=l.length then some (Cw dT (DH (l.map kt) (As (l.map kt) n) i))else none
 | _=>none
noncomputable def J4 (l:List Tok) (n:Nat):PG:=λi ts=>match ts with
 | [.v (.int .i64 v)]=>if v=64-(n:Int)/\i<=l.length then some (Cw dT (DI (l.map kt) (As (l.map kt) n) i))else none
 | _=>none
section
variable {n : Nat} (ht : IsS Ap t l) (hlim : l.length <= 1000000) (hD : Es q t l n) (hF : Fwd (l.map kt) (As (l.map kt) n)) (hn : n <= 64)
include ht hlim hD hF hn
theorem bC:∀i ts o,J3 l n i ts=some o->PM Xa (G q) t 194 i ts o:=λi ts o h=>by
 unfold J3 at h;split at h
 .split at h
  .rename_i hc;obtain⟨rfl,hi⟩:=hc;injection h with h;subst h;exact vI ht hlim hD hF hn hi
  .cases h
 .cases h
theorem bD:∀i ts o,J4 l n i ts=some o->PM Xa (G q) t 195 i ts o:=λi ts o h=>by
 unfold J4 at h;split at h
 .split at h
  .rename_i hc;obtain⟨rfl,hi⟩:=hc;injection h with h;subst h;exact vD ht hlim hD hF hn hi
  .cases h
 .cases h
end
noncomputable def ctT (l:List Tok) (t:T) (n:Nat):Ez:=[(174,hP t (Bs l)),(192,hP t (Hj l)),(194,hP t (J3 l n)),(195,hP t (J4 l n))]
noncomputable def ceT (l:List Tok) (t:T) (n:Nat):GB:=[(174,eP t (Bs l)),(192,eP t (Hj l)),(194,eP t (J3 l n)),(195,eP t (J4 l n))]
section
variable {n : Nat} (ht : IsS Ap t l) (hlim : l.length <= 1000000) (hD : Es q t l n) (hF : Fwd (l.map kt) (As (l.map kt) n)) (hn : n <= 64)
include ht hlim hD hF hn
theorem xF:B6 Xa (G q) (ctT l t n):=
 .cons (BR (Js ht)).hok (.cons (BR (P0 ht)).hok (.cons (BR (bC ht hlim hD hF hn)).hok (.cons (BR (bD ht hlim hD hF hn)).hok .nil)))
theorem xG:E3 Xa (G q) (ceT l t n):=
 .cons (BR (Js ht)).eok (.cons (BR (P0 ht)).eok (.cons (BR (bC ht hlim hD hF hn)).eok (.cons (BR (bD ht hlim hD hF hn)).eok .nil)))
end
section
variable (X : Row) (R : Ab) (i j : Nat) (t : T) (k v : Int) (s : List UInt8)
theorem gl1:Ao false 1 ((2,X)::(0,pr t i)::R) (.ptr 0 1)=some (.t (iv (i:Int))):=rfl
theorem gw1:A8 1 ((2,X)::(0,pr t i)::R) (.ptr 0 1) (.t (iv (j:Int)))=some ((2,X)::(0,pr t j)::R):=rfl
theorem gw2:A8 1 ((2,X)::(0,pr t i)::R) (.ptr 0 1) (.t (iv ((i:Int)+1)))=some ((2,X)::(0,pr t (i+1))::R):=rfl
theorem gk0:Ao false 1 ((2,.cells 42 [.t (iv k),.t (sv (bs s)),.t (iv v)])::R) (.ptr 2 0)=some (.t (iv k)):=rfl
theorem gk1:Ao false 1 ((2,.cells 42 [.t (iv k),.t (sv (bs s)),.t (iv v)])::R) (.ptr 2 1)=some (.t (sv (bs s))):=rfl
theorem gst (y0 y1 y2:PV):A8 3 ((2,.cells 42 [y0,y1,y2])::R) (.ptr 2 0) (.t (.ag [iv k,sv (bs s),iv v]))=some ((2,.cells 42 [.t (iv k),.t (sv (bs s)),.t (iv v)])::R):=rfl
theorem bdN {Φ:AC} {H:Ab} {nx:Nat} (n:ByteArray):Ah Φ H nx (.build [(0,1),(1,1),(2,1),(3,1)] [.int .i64 0,.string ⟨#[]⟩,.slice none 0 0,.slice none 0 0] [0,1]) [.t (iv k),.t (sv n)]=some (.t (dT (.mk k n [] [])),H,nx):=by
 rw[dT,FG];rfl
end
theorem xH (ht:IsS Ap t l) (hlim:l.length<=1000000) {n:Nat} (hD:Es q t l n) (hF:Fwd (l.map kt) (As (l.map kt) n)) (hn:n<=64) (hi:i<=l.length) {parts:List Ds} (hpl:parts.length<=255) :
  KM q t 175 i parts (64-(n:Int)) (Di (l.map kt) (As (l.map kt) n) i parts):=by
 have HC:=xF ht hlim hD hF hn;have HE:=xG ht hlim hD hF hn;have C:Ctx Xa (G q) (orh [] (ctT l t n)):=A5.nil.ctxH HC mixed;have E:POK Xa (G q) (orE (ceT l t n)):=HE.ok
 obtain⟨L,hL⟩:∃L,L=l.map kt:=⟨_,rfl⟩
 have hLl:L.length=l.length:=by rw[hL,Xe]
 have hbr:=λ{i:Nat} (hi:i<=l.length)=>xE ht hlim hD hF hn hi hpl;rw[<-hL]at hF hbr ⊢;refine pG.callO rfl ?_
 obtain⟨R,hR⟩:∃R,R=Di L (As L n) i parts:=⟨_,rfl⟩
 rw[<-hR]
 cases hx:l[i]? with
 | none=>
  have e1:R = .error 9:=by rw[hR];unfold Di;rw[hL,E5,hx];rfl
  rw[e1];have h1:eP t (Bs l) [.ptr 0 0] ((0,pr t i)::Ax eD 57 1 parts) 2=some (Cv 9):=Dy (ts:=[]) rfl (by omega) (by simp[Bs,hx]);refine BB C E rfl ?_
  (conv in Nm=>cbv);simp -implicitDefEqProofs [ctT,ceT,h1,Et]
 | some x=>
  have hlt:i<l.length:=(Xu.1 hx).1;have h1:hP t (Bs l) [.ptr 0 0] ((0,pr t i)::Ax eD 57 1 parts) 2=some (.t (.ag (Ap.enc x)),(0,pr t i)::Ax eD 57 1 parts,2):=CO (ts:=[]) rfl (by omega) (by simp[Bs,hx]);have h2:eP t (Bs l) [.ptr 0 0] ((0,pr t i)::Ax eD 57 1 parts) 2=none:=CZ (ts:=[]) (x:=(.ag (Ap.enc x),i)) rfl (by simp[Bs,hx])
  have e0:R=if x.k=1 then .ok (parts++[.mk 1 (bs x.t) [] []],i+1)
    else if x.k≠5 then .error 8
    else if x.t=[64]then DJ parts (Fx 2 (AE L (i+1) 1))
    else if x.t=[35]then DJ parts (Fx 3 (AE L (i+1) 1))
    else if x.t=[91]then brS L (As L n) (L.length+1) (i+1) parts
    else if x.t=[60]then DJ parts (DH L (As L n) (i+1))
    else if x.t=[60,33]then DJ parts (DI L (As L n) (i+1))
    else .error 8:=by rw[hR];unfold Di;rw[show L[i]?=some (kt x)by rw[hL,E5,hx];rfl]
  have ew:Xc.wrap ((i:Int)+1)=((i+1:Nat):Int):=AH (by omega) (by omega)
  obtain⟨tk,htk⟩:∃tk:Row,tk = .cells 42 [.t (iv x.k),.t (sv (bs x.t)),.t (iv x.l)]:=⟨_,rfl⟩
  have fin:∀(d:Ds) (p:Nat) (env:List (Nat×PV)) (hE:R = .ok (parts++[d],p)),∃b4 H4 n4,B1 57 4 72 ((3,.cells 57 ((A4 d).map .t))::(2,tk)::(0,pr t p)::Ax eD 57 1 parts) 4 (rowP eD 1 parts) (.row 3 0 1 4)=some (rowP eD b4 (parts++[d]),H4,n4) /\
    (∀env,Aa env 6=some (rowP eD b4 (parts++[d]))->LR Xa (G q) 2 [RV.tmp 6] (Et t R) .ret ⟨env,H4,n4,78⟩):=by
   intro d p env hE
   obtain⟨b4,H4,n4,ap,r4,ne4,hle4,hold,hb4⟩:=Gd (e:=eD) (ty:=57) (by':=72) (nx:=4) (m:=[d]) (H:=(3,.cells 57 ((A4 d).map .t))::(2,tk)::(0,pr t p)::Ax eD 57 1 parts) (b:=1) (l:=parts)
    ((((Ar.head' eD 57 1 parts).cons (by omega)).cons (by omega)).cons (by omega)) (Gc (e:=eD) (b:=3) (ty:=57) d rfl) (by simp;omega) (by simp;omega)
   refine⟨b4,H4,n4,ap,λenv henv=>?_⟩;rw[hE];refine NA (rs:=[rowP eD 2 (parts++[d])]) (s2:=⟨[(6,rowP eD 2 (parts++[d]))],[(0,pr t p)]++Ax eD 57 2 (parts++[d]),3,78⟩) (.inr rfl) ?_ rfl rfl rfl rfl;exact Dv (k:=b4) r4 (by omega) (by omega) (by simp -implicitDefEqProofs [BG,AX,ren,BU,Bl,under,show Aa H4 0=some (pr t p)from(hold 0 (by omega) (by omega)).trans rfl];omega) (by simp -implicitDefEqProofs [Cs,Ct,henv])
  by_cases k1:x.k=1
  .rw[zy k1]at e0;obtain⟨b4,H4,n4,ap,he⟩:=fin _ _ [] e0
   have kb:(x.k==1)=true:=by rw[k1];rfl
   rw[htk]at ap;refine BB C E rfl ?_
   (conv in Nm=>cbv);simp -implicitDefEqProofs [ctT,ceT,h1,h2,Ap,gst,gk0,gk1,gl1,gw2,kb,ew,-AF,bdN,bsD,ap]
   exact he _ rfl
  rw[zz k1]at e0
  have kb:(x.k==1)=false:=by simpa using k1
  by_cases k5:x.k=5
  case neg=>
   rw[zy k5]at e0;rw[e0]
   have kc:(x.k != 5)=true:=by simpa using k5
   refine BB C E rfl ?_
   (conv in Nm=>cbv);simp -implicitDefEqProofs [ctT,ceT,h1,h2,Ap,gst,gk0,kb,kc,Et]
  rw[zz (λh=>h k5)]at e0
  have kc:(x.k != 5)=false:=by simpa using k5
  (conv in Nm=>cbv);refine Co C E rfl ?_;simp -implicitDefEqProofs;refine Co C E rfl ?_;simp -implicitDefEqProofs [ctT,ceT,h1,h2,Ap,gst,gk0];refine Co C E rfl ?_;simp -implicitDefEqProofs [ctT,ceT,h1,h2,Ap,gst,gk0,kb];refine Co C E rfl ?_;simp -implicitDefEqProofs [gk0,kc];refine Co C E rfl ?_;simp -implicitDefEqProofs [gl1,gw2,ew];rw[<-htk]
  obtain⟨H2,hH2⟩:∃H2:Ab,H2=(2,tk)::(0,pr t (i+1))::Ax eD 57 1 parts:=⟨_,rfl⟩
  have l20:Aa H2 0=some (pr t (i+1)):=by rw[hH2];rfl
  have lt1:Ao false 1 H2 (.ptr 2 1)=some (.t (sv (bs x.t))):=by rw[hH2,htk];rfl
  have hu2:∀p,upd H2 0 (pr t p)=(2,tk)::(0,pr t p)::Ax eD 57 1 parts:=λp=>by rw[hH2];simp[upd]
  rw[<-hH2]
  have bq:∀(s:List UInt8) (b:Bool),decide (x.t=s)=b->(x.t==s)=b:=λs b h=>by rw[<-h];exact Xy.2 (by simp)
  have hi1:i+1<=l.length:=hlt
  have named:∀op:Int,R=DJ parts (Fx op (AE L (i+1) 1))->(∃e,AE L (i+1) 1 = .error e/\R = .error e)\/(∃s p,AE L (i+1) 1 = .ok (s,p)/\p<=l.length/\R = .ok (parts++[.mk op s [] []],p)):=λop h=>by
   cases hk:AE L (i+1) 1 with
   | error e=>rw[hk]at h;exact .inl ⟨e,rfl,h⟩
   | ok y=>
    obtain⟨s,p⟩:=y;rw[hk]at h;have:=D1 hk;exact .inr ⟨s,p,rfl,by omega,h⟩
  by_cases s64:x.t=[64]
  .rw[zy s64]at e0;have b64:=bq [64] true (by simp[s64]);rcases named 2 e0 with⟨e,hk,hE⟩ | ⟨s,p,hk,hp,hE⟩
   .rw[hE];have m1:=P8 (t:=t) (nx:=3) (H:=H2) hL hlim l20 (by omega) hi1 hk;refine BB C E rfl ?_;simp -implicitDefEqProofs [ctT,ceT,lt1,b64,m1,Et]
   .have m1:=P5 (t:=t) (nx:=3) (H:=H2) hL hlim l20 (by omega) hi1 hk;have m2:=P7 (t:=t) (nx:=3) (H:=H2) hL hlim l20 hi1 hk;obtain⟨b4,H4,n4,ap,he⟩:=fin _ _ [] hE;rw[hu2]at m1;refine BB C E rfl ?_;simp -implicitDefEqProofs [ctT,ceT,lt1,b64,m1,m2,-AF,bdN,bsD,ap];exact he _ rfl
  rw[zz s64]at e0;have b64:=bq [64] false (by simp[s64])
  by_cases s35:x.t=[35]
  .rw[zy s35]at e0;have b35:=bq [35] true (by simp[s35]);rcases named 3 e0 with⟨e,hk,hE⟩ | ⟨s,p,hk,hp,hE⟩
   .rw[hE];have m1:=P8 (t:=t) (nx:=3) (H:=H2) hL hlim l20 (by omega) hi1 hk;refine BB C E rfl ?_;simp -implicitDefEqProofs [ctT,ceT,lt1,b64,b35,m1,Et]
   .have m1:=P5 (t:=t) (nx:=3) (H:=H2) hL hlim l20 (by omega) hi1 hk;have m2:=P7 (t:=t) (nx:=3) (H:=H2) hL hlim l20 hi1 hk;obtain⟨b4,H4,n4,ap,he⟩:=fin _ _ [] hE;rw[hu2]at m1;refine BB C E rfl ?_;simp -implicitDefEqProofs [ctT,ceT,lt1,b64,b35,m1,m2,-AF,bdN,bsD,ap];exact he _ rfl
  rw[zz s35]at e0;have b35:=bq [35] false (by simp[s35])
  by_cases s91:x.t=[91]
  .rw[zy s91]at e0;have b91:=bq [91] true (by simp[s91])
   obtain⟨Rb,hRb⟩:∃Rb,Rb=brS L (As L n) (L.length+1) (i+1) parts:=⟨_,rfl⟩
   rw[<-hRb]at e0;have hb:=hbr hi1;rw[<-hRb]at hb
   have hbne:∀parts' p,Rb = .ok (parts',p)->parts'≠[]:=λparts' p h=>by
    have:=(NF hF _ _ _ _ _ (hRb.symm.trans h)).2.2.1;intro e;rw[e]at this;simp at this
   have hl:=KM.lift hb (H:=H2) (b:=1) (NX:=3) l20 (by rw[hH2];exact((Ar.head' eD 57 1 parts).cons (by omega)).cons (by omega)) (by omega) (by omega) hbne;have C':=A5.nil.ctxH (.cons (Si hl (Sn (by omega))) HC) mixed;have E':=(E3.cons (Sj hl) HE).ok
   cases hRb':Rb with
   | error e=>
    rw[hRb']at e0 C' E';rw[e0];have m1:=Sg [.ptr 0 0,rowP eD 1 parts,.t (iv (64-(n:Int)))] H2 3 (Cv e);refine BB C' E' rfl ?_;simp -implicitDefEqProofs [lt1,b64,b35,b91,Ip,hO,eO,m1,Et]
   | ok y=>
    obtain⟨parts',p⟩:=y;have hne:=hbne _ _ hRb';rw[hRb']at e0 C' E';rw[e0];have m1:=EF [.ptr 0 0,rowP eD 1 parts,.t (iv (64-(n:Int)))] H2 3 (rowP eD 3 parts',Fe t H2 1 3 parts parts' p,4);refine BB C' E' rfl ?_;simp -implicitDefEqProofs [lt1,b64,b35,b91,Ip,hO,eO,m1,Et];refine NA (rs:=[rowP eD 2 parts']) (s2:=⟨[(6,rowP eD 2 parts')],[(0,pr t p)]++Ax eD 57 2 parts',3,78⟩) (.inr rfl) ?_ rfl rfl rfl rfl;exact Dv (k:=3) Sl (by omega) (by omega) (by simp -implicitDefEqProofs [BG,AX,ren,BU,Bl,under,Sm l20]) (by simp -implicitDefEqProofs [Cs,Ct])
  rw[zz s91]at e0;have b91:=bq [91] false (by simp[s91])
  by_cases s60:x.t=[60]
  .rw[zy s60]at e0;have b60:=bq [60] true (by simp[s60])
   have gl:J3 l n (i+1) [iv (64-(n:Int))]=some (Cw dT (DH L (As L n) (i+1))):=by rw[hL];exact zy ⟨rfl,hi1⟩
   cases hk:DH L (As L n) (i+1)with
   | error e=>
    rw[hk]at e0 gl;have e0:R = .error e:=e0;rw[e0];have m1:=Dy (t:=t) (g:=J3 l n) (b:=0) (nx:=3) (H:=H2) l20 (by omega) (gl.trans rfl:_=some (.error e));simp only[Xd,Xi]at m1;refine BB C E rfl ?_;simp -implicitDefEqProofs [ctT,ceT,lt1,b64,b35,b91,b60,m1,Et]
   | ok y=>
    obtain⟨d,p⟩:=y;rw[hk]at e0 gl;have hE:R = .ok (parts++[d],p):=e0;have m1:=CO (t:=t) (g:=J3 l n) (b:=0) (nx:=3) (H:=H2) l20 (by omega) (gl.trans rfl:_=some (.ok (dT d,p)));have m2:=CZ (t:=t) (g:=J3 l n) (b:=0) (nx:=3) (H:=H2) l20 (gl.trans rfl:_=some (.ok (dT d,p)));obtain⟨b4,H4,n4,ap,he⟩:=fin _ _ [] hE;rw[hu2]at m1;simp only[Xd,Xi]at m1 m2;refine BB C E rfl ?_;simp -implicitDefEqProofs [ctT,ceT,lt1,b64,b35,b91,b60,m1,m2,bsD,ap];exact he _ rfl
  rw[zz s60]at e0;have b60:=bq [60] false (by simp[s60])
  by_cases s33:x.t=[60,33]
  .rw[zy s33]at e0;have b33:=bq [60,33] true (by simp[s33])
   have gl:J4 l n (i+1) [iv (64-(n:Int))]=some (Cw dT (DI L (As L n) (i+1))):=by rw[hL];exact zy ⟨rfl,hi1⟩
   cases hk:DI L (As L n) (i+1)with
   | error e=>
    rw[hk]at e0 gl;have e0:R = .error e:=e0;rw[e0];have m1:=Dy (t:=t) (g:=J4 l n) (b:=0) (nx:=3) (H:=H2) l20 (by omega) (gl.trans rfl:_=some (.error e));simp only[Xd,Xi]at m1;refine BB C E rfl ?_;simp -implicitDefEqProofs [ctT,ceT,lt1,b64,b35,b91,b60,b33,m1,Et]
   | ok y=>
    obtain⟨d,p⟩:=y;rw[hk]at e0 gl;have hE:R = .ok (parts++[d],p):=e0;have m1:=CO (t:=t) (g:=J4 l n) (b:=0) (nx:=3) (H:=H2) l20 (by omega) (gl.trans rfl:_=some (.ok (dT d,p)));have m2:=CZ (t:=t) (g:=J4 l n) (b:=0) (nx:=3) (H:=H2) l20 (gl.trans rfl:_=some (.ok (dT d,p)));obtain⟨b4,H4,n4,ap,he⟩:=fin _ _ [] hE;rw[hu2]at m1;simp only[Xd,Xi]at m1 m2;refine BB C E rfl ?_;simp -implicitDefEqProofs [ctT,ceT,lt1,b64,b35,b91,b60,b33,m1,m2,bsD,ap];exact he _ rfl
  rw[zz s33]at e0;have b33:=bq [60,33] false (by simp[s33]);rw[e0];refine BB C E rfl ?_;simp -implicitDefEqProofs [ctT,ceT,lt1,b64,b35,b91,b60,b33,Et]
variable {q : Gl} {t : T} {l : List Tok} {i : Nat}
theorem GC {H:Ab} {b ty:Nat} {d:Ds} (h:Aa H b=some (.cells ty ((A4 d).map .t))):Ao true 4 H (.ptr b 0)=some (.t (dT d)):=by
 cases d;rw[A4]at h;rw[dT,A4];simp only[Ao,h];rfl
theorem Iu {H:Ab} {b ty:Nat} {d:Ds} {x0 x1 x2 x3:PV} (h:Aa H b=some (.cells ty [x0,x1,x2,x3])):A8 4 H (.ptr b 0) (.t (dT d))=some (upd H b (.cells ty ((A4 d).map .t))):=by
 cases d;rw[dT,A4];simp only[A8,B7,h];rfl
theorem xI {H:Ab} {b ty:Nat} {k:Int} {parts:List Ds} {x0 x1 x2 x3:PV} (h:Aa H b=some (.cells ty [x0,x1,x2,x3])) (h2:2<=parts.length) :
  A8 4 H (.ptr b 0) (.ag [.t (iv k),.t (sv ⟨#[]⟩),.t Ad,rowP eD 2 parts])=some (upd H b (.cells ty [.t (iv k),.t (sv ⟨#[]⟩),.t Ad,rowP eD 2 parts])):=by
 simp only[A8,B7,h];rfl
theorem bdK {Φ:AC} {H:Ab} {nx:Nat} {k:Int} {parts:List Ds} (h:2<=parts.length):Ah Φ H nx (.build [(0,1),(1,1),(2,1),(3,1)] [.int .i64 0,.string ⟨#[]⟩,.slice none 0 0,.slice none 0 0] [0,3]) [.t (iv k),rowP eD 2 parts] =
  some (.ag [.t (iv k),.t (sv ⟨#[]⟩),.t Ad,rowP eD 2 parts],H,nx):=by
 cases parts with
 | nil=>simp at h
 | cons x r=>rfl
def outD (t:T):Res Ds->Out
 | .error e=>.pan (Cv e)
 | .ok (d,p)=>.ret (.t (dT d)) [(1,.cells 57 ((A4 d).map .t)),(0,pr t p)] 2
theorem PM.outD {P:Program} {G:Ay} {f:FuncId} {ts:List T} {R:Res Ds} (h:GA P G f (.ptr 0 0::ts.map .t) [(0,pr t i)] 1 (outD t R)):PM P G t f i ts (Cw dT R):=by
 cases R with
 | error e=>exact h
 | ok x=>exact PM.ret h rfl
theorem bE {P:Program} {G:Ay} {B nx n p:Nat} {env:List (Nat×PV)} {H:Ab} {d:Ds} (hB:B<=2) (h1:Aa H 1=some (.cells 57 ((A4 d).map .t))) (h0:Aa H 0=some (pr t p)) (e4:Aa env 4=some (.ptr 1 0)) :
  Sub P G B ⟨env,H,nx,n⟩ ⟨[(4,.ptr 1 0)],[(1,.cells 57 ((A4 d).map .t)),(0,pr t p)],2,n⟩:=by
 refine Kc (λx=>x) rfl hB (λ_ _=>rfl) (λx hx=>?_) (λx hx=>?_) (λ_ _ _ _ e=>e)
 .simp only[Xn]at hx;subst hx;exact⟨e4,rfl⟩
 .simp only[List.mem_cons,List.not_mem_nil,or_false]at hx;rcases hx with rfl | rfl
  .refine⟨?_,by show 1<2;omega,NB _ _⟩;rw[h1,BG,RZ]
  .exact⟨h0,by show 0<2;omega,rfl⟩
theorem xJ {P:Program} {G:Ay} {B nx n p:Nat} {env:List (Nat×PV)} {H:Ab} {k:Int} {parts:List Ds} (hB:B<=2) (h2:Ar eD 57 H 2 parts) (h1:Aa H 1=some (.cells 57 [.t (iv k),.t (sv ⟨#[]⟩),.t Ad,rowP eD 2 parts])) (h0:Aa H 0=some (pr t p)) (e4:Aa env 4=some (.ptr 1 0)) :
  Sub P G B ⟨env,H,nx,n⟩ ⟨[(4,.ptr 1 0)],[(1,.cells 57 ((A4 (.mk k ⟨#[]⟩ [] parts)).map .t)),(0,pr t p)],2,n⟩:=by
 have hs:Sub P G B ⟨env,H,nx,n⟩ (Ac.frz ⟨env,H,nx,n⟩ [2]):=LF [2];refine hs.trans (bE (t:=t) hB ?_ ?_ ?_)
 .refine(NL h1 (by simp)).trans ?_;have f1:B5 H [2] (rowP eD 2 parts) = .t (Am eD parts):=Mb h2 (by simp);rw[FG];simp only[Cy,Xd,Xi,f1,LS];rfl
 .exact(NL h0 (by simp)).trans rfl
 .simp only[Fo,e4];rfl
noncomputable def ctD (l:List Tok) (t:T):Ez:=[(174,hP t (Bs l)),(176,hP t (Ci l))]
noncomputable def ceD (l:List Tok) (t:T):GB:=[(174,eP t (Bs l)),(176,eP t (Ci l))]
theorem bF (ht:IsS Ap t l):B6 Xa (G q) (ctD l t):=.cons (BR (Js ht)).hok (.cons (BR (Jv ht)).hok .nil)
theorem bG (ht:IsS Ap t l):E3 Xa (G q) (ceD l t):=.cons (BR (Js ht)).eok (.cons (BR (Jv ht)).eok .nil)
def SDe (t:T) (v:Int) (a:Br):Ac:=⟨[(5,rowP eD 2 a.parts),(1,.t (iv v)),(4,.ptr 1 0),(0,.ptr 0 0)],[(1,zD),(0,pr t a.p)]++Ax eD 57 2 a.parts,3,30⟩
structure xK (L:List KT) (n:Nat) (R:Res (List Ds)) (a:Br):Prop where
 le:a.p<=L.length
 fu:L.length-a.p<a.f
 pl:a.parts.length<=256
 ne:a.parts≠[]
 eq:Fa L (As L n) a.f a.p a.parts=R
theorem xL (ht:IsS Ap t l):Es q t l 0:=λi ts o h=>by
 have C:Ctx Xa (G q) (orh [] (ctD l t)):=A5.nil.ctxH (bF ht) mixed;have E:POK Xa (G q) (orE (ceD l t)):=(bG ht).ok;unfold Dj at h;split at h
 .split at h
  .rename_i v hc;obtain⟨rfl,hi⟩:=hc;injection h with h;subst h;unfold As;refine VY.callO rfl ?_
   cases hx:l[i]? with
   | none=>
    have hge:l.length<=i:=by simpa using hx
    rw[zy (by simpa using hge)];have h1:eP t (Bs l) [.ptr 0 0] [(1,zD),(0,pr t i)] 2=some (Cv 9):=Dy (ts:=[]) rfl (by omega) (by simp[Bs,hx]);refine BB C E rfl ?_
    (conv in Np=>cbv);simp -implicitDefEqProofs [ctD,ceD,h1,Cw,FI]
   | some x=>
    have hlt:i<l.length:=(Xu.1 hx).1;rw[zz (by simpa using hlt)];have h1:hP t (Bs l) [.ptr 0 0] [(1,zD),(0,pr t i)] 2=some (.t (.ag (Ap.enc x)),[(1,zD),(0,pr t i)],2):=CO (ts:=[]) rfl (by omega) (by simp[Bs,hx]);have h2:eP t (Bs l) [.ptr 0 0] [(1,zD),(0,pr t i)] 2=none:=CZ (ts:=[]) (x:=(.ag (Ap.enc x),i)) rfl (by simp[Bs,hx]);(conv in Np=>cbv);refine Co C E rfl ?_;simp -implicitDefEqProofs;refine BB C E rfl ?_;simp -implicitDefEqProofs [ctD,ceD,h1,h2,Cw,FI]
  .cases h
 .cases h
theorem xM (ht:IsS Ap t l) (hlim:l.length<=1000000) {n:Nat} (hD:Es q t l n) (hn:n<=64) (hi:i<=l.length) :
  PM Xa (G q) t 156 i [iv (64-(n:Int))] (Cw dT (As (l.map kt) (n+1) i)):=by
 have HC:=bF (q:=q) ht;have HE:=bG (q:=q) ht;have C:Ctx Xa (G q) (orh [] (ctD l t)):=A5.nil.ctxH HC mixed;have E:POK Xa (G q) (orE (ceD l t)):=HE.ok;have hF:=D2 (l:=l.map kt) n
 obtain⟨L,hL⟩:∃L,L=l.map kt:=⟨_,rfl⟩
 have hLl:L.length=l.length:=by rw[hL,Xe]
 have htm:=λ{i:Nat} (hi:i<=l.length) {parts:List Ds} (hpl:parts.length<=255)=>xH ht hlim hD hF hn hi hpl;rw[<-hL]at hF htm ⊢;refine PM.outD (VY.callO rfl ?_)
 obtain⟨R,hR⟩:∃R,R=As L (n+1) i:=⟨_,rfl⟩
 rw[<-hR];unfold As at hR
 cases hx:l[i]? with
 | none=>
  have hge:l.length<=i:=by simpa using hx
  rw[zy (by omega)]at hR;rw[hR];have h1:eP t (Bs l) [.ptr 0 0] [(1,zD),(0,pr t i)] 2=some (Cv 9):=Dy (ts:=[]) rfl (by omega) (by simp[Bs,hx]);(conv in Np=>cbv);refine Co C E rfl ?_;simp -implicitDefEqProofs;refine Co C E rfl ?_;simp -implicitDefEqProofs [ctD,ceD,h1,outD]
 | some x=>
  have hlt:i<l.length:=(Xu.1 hx).1;rw[zz (by omega)]at hR;have h1:hP t (Bs l) [.ptr 0 0] [(1,zD),(0,pr t i)] 2=some (.t (.ag (Ap.enc x)),[(1,zD),(0,pr t i)],2):=CO (ts:=[]) rfl (by omega) (by simp[Bs,hx]);have h2:eP t (Bs l) [.ptr 0 0] [(1,zD),(0,pr t i)] 2=none:=CZ (ts:=[]) (x:=(.ag (Ap.enc x),i)) rfl (by simp[Bs,hx])
  have hlv:¬((64:Int)<64-(n:Int)):=by omega
  (conv in Np=>cbv);refine Co C E rfl ?_;simp -implicitDefEqProofs;refine Co C E rfl ?_;simp -implicitDefEqProofs [ctD,ceD,h1,h2];refine Co C E rfl ?_;simp -implicitDefEqProofs [hlv]
  have tfw:∀{p:Nat} {parts parts':List Ds} {p':Nat},Di L (As L n) p parts = .ok (parts',p')->parts.length<=255->p<p'/\p'<=l.length/\parts'≠[]/\parts'.length<=256:=λh hp=>by
   have:=Im hF h;rw[hLl]at this;refine⟨this.1,this.2.1,λe=>?_,this.2.2.2 hp⟩;rw[e]at this;simp at this
  obtain⟨Rt,hRt⟩:∃Rt,Rt=Di L (As L n) i []:=⟨_,rfl⟩
  have hl:=KM.lift (htm hi (parts:=[]) (by simp)) (H:=[(1,zD),(0,pr t i)]) (b:=1) (NX:=2) rfl (.inl rfl) (by omega) (by omega) (λparts' p h=>(tfw h (by simp)).2.2.1);rw[<-hRt]at hR hl;have hl:GA Xa (G q) 175 [.ptr 0 0,.t (.v (.slice none 0 0)),.t (iv (64-(n:Int)))] [(1,zD),(0,pr t i)] 2 (Ip t [(1,zD),(0,pr t i)] 1 2 [] Rt):=hl;have C':=A5.nil.ctxH (.cons (Si hl (Sn (by omega))) HC) mixed;have E':=(E3.cons (Sj hl) HE).ok
  cases hRt':Rt with
  | error e=>
   rw[hRt']at hR C' E';simp only at hR;rw[hR];have m1:=Sg [.ptr 0 0,.t (.v (.slice none 0 0)),.t (iv (64-(n:Int)))] [(1,zD),(0,pr t i)] 2 (Cv e);refine Co C' E' rfl ?_;simp -implicitDefEqProofs [ctD,ceD,Ip,hO,eO,m1,outD]
  | ok y=>
   obtain⟨parts0,p0⟩:=y;have hf0:=tfw (hRt.symm.trans hRt') (by simp);rw[hRt']at hR C' E';simp only at hR
   obtain⟨R2,hR2⟩:∃R2,R2=Fa L (As L n) (L.length+1) p0 parts0:=⟨_,rfl⟩
   rw[<-hR2]at hR;have m1:=EF [.ptr 0 0,.t (.v (.slice none 0 0)),.t (iv (64-(n:Int)))] [(1,zD),(0,pr t i)] 2 (rowP eD 2 parts0,Fe t [(1,zD),(0,pr t i)] 1 2 [] parts0 p0,3);refine Co C' E' rfl ?_;simp -implicitDefEqProofs [ctD,ceD,Ip,hO,eO,m1];refine BM (α:=Br) (SDe t (64-(n:Int))) (λa=>R2 = .ok (a.parts,a.p)/\a.parts≠[]) (λ_=>rfl) ?_ ?_
   .refine BI ?_;refine CV (SDe t (64-(n:Int))) (λa=>a.f) (xK L n R2) ⟨L.length+1,p0,parts0⟩ (λ_=>rfl) ⟨by show p0<=_;omega,by show L.length-p0<L.length+1;omega,hf0.2.2.2,hf0.2.2.1,hR2.symm⟩ ?_ rfl ?_
    .exact Dv (k:=2) Sl (by omega) (by omega) (by
      have r0:=Sm (t:=t) (H:=[(1,zD),(0,pr t i)]) (b:=1) (NX:=2) (p:=p0) (parts:=[]) (parts':=parts0) rfl (by omega) (by omega);have r1:Aa (Fe t [(1,zD),(0,pr t i)] 1 2 [] parts0 p0) 1=some zD:=aK (by omega) (.inr rfl) (by omega)
      simp -implicitDefEqProofs [BG,AX,ren,BU,Bl,under,r0,r1]) (by simp -implicitDefEqProofs [Cs,Ct,ren,under])
    .rintro⟨f,p,parts⟩ ⟨hp,hfu,hpl,hne,heq⟩;simp only at hp hfu hpl hne heq;rw[hLl]at hp hfu
     obtain⟨f',rfl⟩:∃f',f=f'+1:=⟨f-1,by omega⟩
     rw[Fa]at heq;have hlen:Bd (rowP eD 2 parts)=some (.t (iv (parts.length:Int))):=ED eD 2 parts
     cases hs:Au L p [38]with
     | false=>
      rw[hs]at heq;simp only[Xt,if_false]at heq;have m3:=Sp (t:=t) (nx:=3) (H:=(1,zD)::(0,pr t p)::Ax eD 57 2 parts) (s:=⟨#[38]⟩) (n:=(parts.length:Int)) (m:=256) hL hlim rfl (by omega) hp hs;have m4:=Sq (t:=t) (nx:=3) (H:=(1,zD)::(0,pr t p)::Ax eD 57 2 parts) (s:=⟨#[38]⟩) (n:=(parts.length:Int)) (m:=256) hL hlim rfl hp hs;refine BB C E rfl ?_;simp -implicitDefEqProofs [SDe,ctD,ceD,hlen,m3,m4];refine Aq.mk ⟨f',p,parts⟩ ⟨heq.symm,hne⟩ ?_;exact sub_env (by simp -implicitDefEqProofs)
     | true=>
      rw[hs]at heq;simp only[if_true]at heq
      have hpl3:p<l.length:=by have:=Bo hs;omega
      by_cases hbig:256<=parts.length
      .rw[zy hbig]at heq;rw[<-heq]at hR;simp only at hR;rw[hR];have m3:=St (t:=t) (nx:=3) (H:=(1,zD)::(0,pr t p)::Ax eD 57 2 parts) (s:=⟨#[38]⟩) (n:=(parts.length:Int)) (m:=256) hL hlim rfl (by omega) hp hs (by omega);refine BB C E rfl ?_;simp -implicitDefEqProofs [SDe,ctD,ceD,hlen,m3,outD]
      .rw[zz hbig]at heq;have m3:=Sr (t:=t) (nx:=3) (H:=(1,zD)::(0,pr t p)::Ax eD 57 2 parts) (s:=⟨#[38]⟩) (n:=(parts.length:Int)) (m:=256) hL hlim rfl (by omega) hp hs (by omega);have m4:=Ss (t:=t) (nx:=3) (H:=(1,zD)::(0,pr t p)::Ax eD 57 2 parts) (s:=⟨#[38]⟩) (n:=(parts.length:Int)) (m:=256) hL hlim rfl hp hs (by omega)
       obtain⟨H2,hH2⟩:∃H2:Ab,H2=(1,zD)::(0,pr t (p+1))::Ax eD 57 2 parts:=⟨_,rfl⟩
       have hu:upd ((1,zD)::(0,pr t p)::Ax eD 57 2 parts) 0 (pr t (p+1))=H2:=by rw[hH2];simp[upd]
       rw[hu]at m3
       have l20:Aa H2 0=some (pr t (p+1)):=by rw[hH2];rfl
       have l21:Aa H2 1=some zD:=by rw[hH2];rfl
       obtain⟨Rn,hRn⟩:∃Rn,Rn=Di L (As L n) (p+1) parts:=⟨_,rfl⟩
       have hl:=KM.lift (htm (i:=p+1) (by omega) (parts:=parts) (by omega)) (H:=H2) (b:=2) (NX:=3) l20 (by rw[hH2];exact((Ar.head' eD 57 2 parts).cons (by omega)).cons (by omega)) (by omega) (by omega) (λparts' p h=>(tfw h (by omega)).2.2.1);rw[<-hRn]at heq hl;have C':=A5.nil.ctxH (.cons (Si hl (Sn (by omega))) HC) mixed;have E':=(E3.cons (Sj hl) HE).ok
       cases hRn':Rn with
       | error e=>
        rw[hRn']at heq C' E';simp only at heq;rw[<-heq]at hR;simp only at hR;rw[hR];have m5:=Sg [.ptr 0 0,rowP eD 2 parts,.t (iv (64-(n:Int)))] H2 3 (Cv e);refine BB C' E' rfl ?_;simp -implicitDefEqProofs [SDe,ctD,ceD,hlen,Ip,hO,eO,m3,m4,m5,outD]
       | ok y=>
        obtain⟨parts2,p2⟩:=y;have hf2:=tfw (hRn.symm.trans hRn') (by omega);rw[hRn']at heq C' E';simp only at heq;have m5:=EF [.ptr 0 0,rowP eD 2 parts,.t (iv (64-(n:Int)))] H2 3 (rowP eD 3 parts2,Fe t H2 2 3 parts parts2 p2,4);refine BB C' E' rfl ?_;simp -implicitDefEqProofs [SDe,ctD,ceD,hlen,Ip,hO,eO,m3,m4,m5];refine Aq.mk ⟨f',p2,parts2⟩ ⟨⟨by show p2<=_;omega,by show L.length-p2<f';omega,hf2.2.2.2,hf2.2.2.1,heq⟩,by show f'<f'+1;omega⟩ ?_
        exact Dv (k:=3) Sl (by omega) (by omega) (by
         have r0:=Sm (t:=t) (H:=H2) (b:=2) (NX:=3) (p:=p2) (parts:=parts) (parts':=parts2) l20 (by omega) (by omega);have r1:Aa (Fe t H2 2 3 parts parts2 p2) 1=some zD:=(aK (by omega) (.inl (by omega)) (by omega)).trans l21
         simp -implicitDefEqProofs [BG,AX,ren,BU,Bl,under,r0,r1]) (by simp -implicitDefEqProofs [Cs,Ct,ren,under])
   .rintro⟨f,p,parts⟩ ⟨hRp,hne⟩;simp only at hRp hne;rw[hRp]at hR;simp only at hR;rw[hR];have hlen:Bd (rowP eD 2 parts)=some (.t (iv (parts.length:Int))):=ED eD 2 parts
    have fin:∀d (s:Ac),d=Kn parts->Sub Xa (G q) 1 s ⟨[(4,.ptr 1 0)],[(1,.cells 57 ((A4 d).map .t)),(0,pr t p)],2,30⟩->LR Xa (G q) 1 [RV.cell 4 true 4] (outD t (.ok (Kn parts,p))) .ret s:=by
     intro d s hd hs;rw[<-hd];refine NA (rs:=[.t (dT d)]) (.inr rfl) hs ?_ rfl rfl rfl;cases d;rw[dT,A4];rfl
    rcases parts with _ | ⟨d,_ | ⟨d2,r⟩⟩
    .exact absurd rfl hne
    .obtain⟨H3,hH3⟩:∃H3:Ab,H3=(1,zD)::(0,pr t p)::Ax eD 57 2 [d]:=⟨_,rfl⟩
     have ia:Bm 4 (rowP eD 2 [d]) (.t (.v (.int .i64 0)))=some (.ptr 2 0):=rfl;have ld:Ao true 4 H3 (.ptr 2 0)=some (.t (dT d)):=GC (ty:=57) (by rw[hH3];simp[Ax,Aa,eD])
     have l31:Aa H3 1=some zD:=by rw[hH3];rfl
     have l30:Aa H3 0=some (pr t p):=by rw[hH3];rfl
     have st:=Iu (d:=d) l31;refine BB C E rfl ?_;simp -implicitDefEqProofs [SDe,hlen,ia];rw[<-hH3,ld,FE,st,FE];refine fin d _ rfl (bE (t:=t) (by omega) ?_ ?_ rfl)
     .rw[A9,zy rfl,l31];rfl
     .rw[A9,zz (by omega),l30]
    .obtain⟨ps,hps⟩:∃ps,ps=d::d2::r:=⟨_,rfl⟩
     have hpl:2<=ps.length:=by rw[hps];simp
     rw[<-hps]at hlen fin ⊢
     have hne1:¬ps.length=1:=by omega
     have hne2:((ps.length:Int)==1)=false:=by simpa using (by omega:¬(ps.length:Int)=1)
     obtain⟨H3,hH3⟩:∃H3:Ab,H3=(1,zD)::(0,pr t p)::Ax eD 57 2 ps:=⟨_,rfl⟩
     have l31:Aa H3 1=some zD:=by rw[hH3];rfl
     have l30:Aa H3 0=some (pr t p):=by rw[hH3];rfl
     have r32:Ar eD 57 H3 2 ps:=by rw[hH3];exact((Ar.head' eD 57 2 ps).cons (by omega)).cons (by omega)
     have st:=xI (k:=4) l31 hpl;refine BB C E rfl ?_;simp -implicitDefEqProofs [SDe,hlen,hne1,hne2,-AF,bdK hpl];rw[<-hH3,st,FE];refine fin (.mk 4 ⟨#[]⟩ [] ps) _ ?_ (xJ (t:=t) (by omega) ?_ ?_ ?_ rfl)
     .rw[hps];rfl
     .exact r32.imp id λh=>by rw[A9,zz (by omega)];exact h
     .rw[A9,zy rfl,l31];rfl
     .rw[A9,zz (by omega),l30]
theorem bH (ht:IsS Ap t l) (hlim:l.length<=1000000):∀n,n<=64->Es q t l n
 | 0,_=>xL ht
 | n+1,hn=>λi ts o h=>by
  have hD:=bH ht hlim n (by omega);unfold Dj at h;split at h
  .split at h
   .rename_i v hc;obtain⟨rfl,hi⟩:=hc;injection h with h;subst h;have:=xM (q:=q) ht hlim hD (by omega) hi
    have e:(65:Int)-((n+1:Nat):Int)=64-(n:Int):=by omega
    rw[e];exact this
   .cases h
  .cases h
variable {q : Gl} {t : T} {l : List Tok} {i : Nat}
def Cq (L:List KT) (p:Nat) (k:Int):Bool:=match L[p]? with
 | some t=>decide (t.1=k)
 | none=>false
def Bi (L:List KT) (p:Nat):Int:=if L.length<=p then 9 else 8
theorem PI {x:Tok} (hx:l[i]?=some x) (k:Int):Cq (l.map kt) i k=decide (x.k=k):=by
 unfold Cq;rw[Xq,hx];rfl
theorem PJ (hi:l.length<=i) (k:Int):Cq (l.map kt) i k=false:=by
 unfold Cq;rw[List.getElem?_eq_none (by simpa using hi)]
theorem c0:Ctx Xa (G q) (orh [] []):=A5.nil.ctxH .nil mixed
theorem xN (ht:IsS Ap t l) (s:ByteArray):AA Xa (G q) 178 [t,iv (i:Int),sv s] (· = bv (Au (l.map kt) i s.data.toList)):=by
 have hlen:Bd (.t t)=some (.t (iv (l.length:Int))):=ht.len;refine pK.runs c0 rfl ?_;by_cases hi:l.length<=i
 .rw[ND hi]
  have hi1:¬((i:Int)<(l.length:Int)):=by omega
  have hi2:¬i<l.length:=by omega
  (conv in Pd=>cbv);simp -implicitDefEqProofs [hlen,hi1,hi2]
 .obtain⟨x,hx⟩:∃x,l[i]?=some x:=⟨_,Xb (by omega)⟩
  rw[Pw hx];obtain⟨r,hr⟩:=EH ht hx
  have hi1:((i:Int)<(l.length:Int)):=by omega
  have hi2:i<l.length:=by omega
  have hts:(x.t==s.toList)=decide (x.t=s.data.toList):=by rw[Ft];exact Xy.2 (by simp)
  by_cases h5:x.k=5
  .have hb:(x.k==5)=true:=by rw[h5];rfl
   have hd:decide (x.k=5)=true:=by rw[h5];rfl
   (conv in Pd=>cbv);simp -implicitDefEqProofs [BJ,hlen,hi1,hi2,hr,hb,hd,hts]
  .have hb:(x.k==5)=false:=by simpa using h5
   have hd:decide (x.k=5)=false:=by simpa using h5
   (conv in Pd=>cbv);simp -implicitDefEqProofs [BJ,hlen,hi1,hi2,hr,hb,hd]
theorem xO (ht:IsS Ap t l) (k:Int):AA Xa (G q) 197 [t,iv (i:Int),iv k] (· = bv (Cq (l.map kt) i k)):=by
 have hlen:Bd (.t t)=some (.t (iv (l.length:Int))):=ht.len;refine pL.runs c0 rfl ?_;by_cases hi:l.length<=i
 .rw[PJ hi]
  have hi1:¬((i:Int)<(l.length:Int)):=by omega
  have hi2:¬i<l.length:=by omega
  (conv in R7=>cbv);simp -implicitDefEqProofs [hlen,hi1,hi2]
 .obtain⟨x,hx⟩:∃x,l[i]?=some x:=⟨_,Xb (by omega)⟩
  rw[PI hx];obtain⟨r,hr⟩:=EH ht hx
  have hi1:((i:Int)<(l.length:Int)):=by omega
  have hi2:i<l.length:=by omega
  have hb:(x.k==k)=decide (x.k=k):=rfl
  (conv in R7=>cbv);simp -implicitDefEqProofs [BJ,hlen,hi1,hi2,hr,hb]
theorem xP (ht:IsS Ap t l):AA Xa (G q) 198 [t,iv (i:Int)] (· = iv (Bi (l.map kt) i)):=by
 have hlen:Bd (.t t)=some (.t (iv (l.length:Int))):=ht.len;refine pM.runs c0 rfl ?_;unfold Bi;rw[Xe];by_cases hi:l.length<=i
 .have hi1:((l.length:Int)<=(i:Int)):=by omega
  (conv in R8=>cbv);simp -implicitDefEqProofs [hlen,hi1,hi]
 .have hi1:¬((l.length:Int)<=(i:Int)):=by omega
  (conv in R8=>cbv);simp -implicitDefEqProofs [hlen,hi1,hi]
def KE (n:Nat):Int:=if 256<=n then 7 else 0
theorem xQ {x:T} {n:Nat} (h:Bd (.t x)=some (.t (iv (n:Int)))):AA Xa (G q) 179 [x] (· = iv (KE n)):=by
 refine pN.runs c0 rfl ?_;unfold KE;by_cases hi:256<=n
 .have hi1:((256:Int)<=(n:Int)):=by omega
  (conv in R9=>cbv);simp -implicitDefEqProofs [h,hi1,hi]
 .have hi1:¬((256:Int)<=(n:Int)):=by omega
  (conv in R9=>cbv);simp -implicitDefEqProofs [h,hi1,hi]
noncomputable def Cj (l:List Tok) (t:T) (ts:List T):Option T:=open Classical in match ts with
 | [t',.v (.int .i64 i),.v (.string s)]=>if t'=t/\0<=i then some (bv (Au (l.map kt) i.toNat s.data.toList))else none
 | _=>none
noncomputable def CT (l:List Tok) (t:T) (ts:List T):Option T:=open Classical in match ts with
 | [t',.v (.int .i64 i),.v (.int .i64 k)]=>if t'=t/\0<=i then some (bv (Cq (l.map kt) i.toNat k))else none
 | _=>none
noncomputable def Ck (l:List Tok) (t:T) (ts:List T):Option T:=open Classical in match ts with
 | [t',.v (.int .i64 i)]=>if t'=t/\0<=i then some (iv (Bi (l.map kt) i.toNat))else none
 | _=>none
def KG (ts:List T):Option T:=match ts with
 | [x]=>match Bd (.t x)with
  | some (.t (.v (.int .i64 n)))=>if 0<=n then some (iv (KE n.toNat))else none
  | _=>none
 | _=>none
theorem KH (ht:IsS Ap t l):GOK Xa (G q) 178 (Cj l t):=λargs r h=>by
 unfold Cj at h;split at h
 .split at h
  .rename_i hc;obtain⟨rfl,h0⟩:=hc;injection h with h;subst h;obtain⟨n,rfl⟩:=Xp h0;exact xN ht _
  .cases h
 .cases h
theorem S5 (ht:IsS Ap t l):GOK Xa (G q) 197 (CT l t):=λargs r h=>by
 unfold CT at h;split at h
 .split at h
  .rename_i hc;obtain⟨rfl,h0⟩:=hc;injection h with h;subst h;obtain⟨n,rfl⟩:=Xp h0;exact xO ht _
  .cases h
 .cases h
theorem PK (ht:IsS Ap t l):GOK Xa (G q) 198 (Ck l t):=λargs r h=>by
 unfold Ck at h;split at h
 .split at h
  .rename_i hc;obtain⟨rfl,h0⟩:=hc;injection h with h;subst h;obtain⟨n,rfl⟩:=Xp h0;exact xP ht
  .cases h
 .cases h
theorem NQ:GOK Xa (G q) 179 KG:=λargs r h=>by
 unfold KG at h;split at h
 .split at h
  .rename_i hl;split at h
   .rename_i h0;injection h with h;subst h;obtain⟨n,rfl⟩:=Xp h0;exact xQ hl
   .cases h
  .cases h
 .cases h
theorem EM (s:ByteArray):Cj l t [t,iv (i:Int),sv s]=some (bv (Au (l.map kt) i s.data.toList)):=by
 unfold Cj;simp
theorem E6 (k:Int):CT l t [t,iv (i:Int),iv k]=some (bv (Cq (l.map kt) i k)):=by
 unfold CT;simp
theorem DK:Ck l t [t,iv (i:Int)]=some (iv (Bi (l.map kt) i)):=by
 unfold Ck;simp
theorem S6 (parts:List Ds):KG [Am eD parts]=some (iv (KE parts.length)):=by
 have h:=(IsK.tree parts).len;unfold KG;simp only[h];rw[zy (by omega),Int.toNat_natCast]
variable {q : Gl} {t : T} {l : List Tok} {i : Nat}
structure Left (I:Nat->Prop) (w:World) (g:Nat) (I':Nat->Prop) (w':World):Prop where
 out:BL w w'
 size:w.heap.size<=w'.heap.size
 same:∀h,h<w.heap.size->h≠g->w'.heap[h]?=w.heap[h]?
 more:∀b,I b->I' b
 new:∀b,I' b->I b\/w.heap.size<=b\/b=g
 lt:∀b,I' b->b<w'.heap.size
def xR (g:Nat) (I':Nat->Prop) (w':World) (e:Ending):Res Ds->Prop
 | .ok (d,p)=>∃v arr,e = .returned v/\An I' w' (dT d) v/\w'.heap[g]?=some (.cells arr 198 (0,0))/\arr[1]?=some (.int .i64 (p:Int))/\¬I' g
 | .error er=>e = .panicked (Cv er)
theorem xS (ht:IsS Ap t l) (hlim:l.length<=1000000) {I:Nat->Prop} {w:World} {g:Nat} {x:Value} (hlt:∀b,I b->b<w.heap.size) (hglob:∀g' cs,Aa (G q) g'=some cs->I g'/\Ev I w cs g')
  (hrep:An I w t x) (h1:x.oneCell'=true) (hi:i<=l.length) (hg:w.heap[g]?=some (.cells #[x,.int .i64 (i:Int)] 198 (0,0))) (hI:¬I g) :
  Calls Xa 156 #[.pointer (some ⟨g,0,none⟩),.int .i64 1] w λe w'=>∃I',xR g I' w' e (As (l.map kt) 64 i)/\Left I w g I' w':=by
 have h:=bH (q:=q) ht hlim 64 (Xk _) i [iv 1] _ (P2 (n:=64) hi)
 have one:∀b r,Aa [(0,pr t i)] b=some r->b=0/\r=pr t i:=by
  intro b r hb;simp only[Aa]at hb;split at hb
  .rename_i e;injection hb with hb;exact⟨e.symm,hb.symm⟩
  .cases hb
 have hok:Bx Xa (G q) ⟨I,λ_=>g,1⟩ [(0,pr t i)] w:=by
  refine⟨hlt,λb r hb=>?_,λb r hb=>hI,λb b' r r' hb hb' _=>by rw[(one b r hb).1,(one b' r' hb').1],λb r hb=>by rw[(one b r hb).1];exact Xs _,hglob⟩;obtain⟨rfl,rfl⟩:=one b r hb;refine⟨_,hg,by simp,λj c hj=>?_⟩;rcases j with _ | _ | j
  .simp only[Xz,X0.injEq]at hj;subst hj;exact⟨x,rfl,h1,by simp only[Ae];exact hrep⟩
  .simp only[List.getElem?_cons_succ,Xz,X0.injEq]at hj;subst hj;exact⟨.int .i64 (i:Int),rfl,rfl,by simp only[Ae,An]⟩
  .simp at hj
 have hargs:A3 Xa ⟨I,λ_=>g,1⟩ w (.ptr 0 0::[iv 1].map .t) (#[Value.pointer (some ⟨g,0,none⟩),.int .i64 1]:Array Value).toList:=by
  simp only[Xd,Xi,A3,Ae,An];exact⟨_,_,rfl,⟨by omega,rfl⟩,_,_,rfl,rfl,rfl⟩
 have hmine:∀k,Fl ⟨I,λ_=>g,1⟩ [(0,pr t i)] k->k=g:=λk ⟨_,_,_,e⟩=>e.symm
 cases hd:As (l.map kt) 64 i with
 | error er=>
  rw[hd]at h;refine((show Ea _ _ _ _ _ _ _ _ from h).2 ⟨I,λ_=>g,1⟩ w _ hok rfl hargs).mono ?_;rintro e w' ⟨L',rfl,hok',_,hm,hx⟩;refine⟨L'.I,rfl,hx.outer,hx.size,λk hk hne=>hx.same k hk λhh=>hne (hmine k hh),hx.more,λb hb=>?_,hok'.lt⟩;rcases hx.new b hb with h2 | h2 | h2
  .exact .inl h2
  .exact .inr (.inl h2)
  .exact .inr (.inr (hmine b h2))
 | ok y=>
  obtain⟨d,p⟩:=y;rw[hd]at h;refine((show AB _ _ _ _ _ _ _ _ _ from h).2 ⟨I,λ_=>g,1⟩ w _ hok rfl hargs).mono ?_;rintro e w' ⟨v,L',rfl,hv,hok',_,hm,hx⟩;have hμ:L'.μ 0=g:=hm.μ 0 (by show 0<1;omega);obtain⟨arr,ha,hl,hc⟩:=hok'.rep 0 _ rfl;rw[hμ]at ha;obtain⟨x1,hx1,_,hr1⟩:=hc 1 _ rfl;simp only[Ae,An]at hr1 hv;subst hr1
  have hna:¬L'.I g:=by have:=hok'.apart 0 _ rfl;rwa[hμ]at this
  refine⟨L'.I,⟨v,arr,rfl,by simp only[An];exact hv,ha,hx1,hna⟩,hx.outer,hx.size,λk hk hne=>hx.same k hk λhh=>hne (hmine k hh),hx.more,λb hb=>?_,hok'.lt⟩;rcases hx.new b hb with h2 | h2 | h2
  .exact .inl h2
  .exact .inr (.inl h2)
  .exact .inr (.inr (hmine b h2))
end Go.Proofs.YtobnacghaamfoaaGreatDoor
