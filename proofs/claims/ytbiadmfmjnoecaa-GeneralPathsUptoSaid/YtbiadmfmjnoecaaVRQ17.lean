/-
 Auxiliary facts. No statement of the program stands here.
-/
import Derived.Test.YtbiadmfmjnoecaaVRQ14
import Derived.Test.YtbiadmfmjnoecaaVRQ15
import Derived.Test.YtbiadmfmjnoecaaVRQ16
namespace Go.Proofs.Ytbiadmfmjnoecaa
set_option linter.unusedSimpArgs false
set_option linter.unusedVariables false
open Go Go.Abs
structure Arc where
 feat:Int
 to:Int
def eArc:Enc Arc:=⟨2,fun x=>[iv x.feat,iv x.to],fun _=>rfl,by omega,fun a b h=>by
 obtain⟨a1,a2⟩:=a
 obtain⟨b1,b2⟩:=b
 simp at h
 simp[h]⟩
structure Nd where
 type:Int
 tree:T
 arcs:List Arc
 ok:IsS eArc tree arcs
def eNd:Enc Nd:=⟨2,fun x=>[iv x.type,x.tree],fun _=>rfl,by omega,fun a b h=>by
 obtain⟨a1,a2,a3,a4⟩:=a
 obtain⟨b1,b2,b3,b4⟩:=b
 simp at h
 obtain⟨rfl,rfl⟩:=h
 have:=(tSl eArc).uniq _ _ _ a4 b4
 subst this
 rfl⟩
theorem A7k {t:T} {l:List Arc} (h:IsS eArc t l) {i:Nat} {x:Arc} (hx:l[i]?=some x):A1q 2 (.t t) (.t (iv (i:Int)))=some (.t (.pt (iv x.feat::iv x.to::rest eArc l i))):=h.iaddr hx .i64
theorem B6m {t:T} {l:List Nd} (h:IsS eNd t l) {i:Nat} {x:Nd} (hx:l[i]?=some x):A1q 2 (.t t) (.t (iv (i:Int)))=some (.t (.pt (iv x.type::x.tree::rest eNd l i))):=h.iaddr hx .i64
def fst (g:Nat->Int):Nat->Int
 | 0=>0
 | n+1=>if fst g n=0 then g n else fst g n
theorem A5c {g:Nat->Int}:∀{n:Nat},fst g n=0->∀i,i<n->g i=0
 | 0,_,i,hi=>by omega
 | n+1,h,i,hi=>by
  unfold fst at h
  split at h
  ·rename_i h0
   by_cases e:i=n
   ·rw[e];exact h
   ·exact A5c h0 i (by omega)
  ·rename_i h0
   exact absurd h h0
theorem D4s {g:Nat->Int}:∀{n:Nat},(∀i,i<n->g i=0)->fst g n=0
 | 0,_=>rfl
 | n+1,h=>by
  unfold fst
  rw[if_pos (D4s fun i hi=>h i (by omega))]
  exact h n (by omega)
theorem G5t {g:Nat->Int} {k:Nat} (h:∀i,i<k->g i=0) (hk:g k≠0):∀{n:Nat},k<n->fst g n=g k
 | 0,hn=>by omega
 | n+1,hn=>by
  unfold fst
  by_cases e:k=n
  ·subst e
   rw[if_pos (D4s h)]
  ·have:=G5t h hk (n:=n) (by omega)
   rw[this,if_neg hk]
theorem A7l (g:Nat->Int) (n:Nat):∃k,k<=n/\(∀i,i<k->g i=0)/\((k=n/\fst g n=0)\/(k<n/\g k≠0/\fst g n=g k)):=by
 rcases first_bad (fun i=>decide (g i=0)) n with h | ⟨k,hk,h1,h2⟩
 ·have h':∀i,i<n->g i=0:=fun i hi=>by simpa using h i hi
  exact⟨n,by omega,h',.inl ⟨rfl,D4s h'⟩⟩
 ·have h':∀i,i<k->g i=0:=fun i hi=>by simpa using h1 i hi
  have h2:g k≠0:=by simpa using h2
  exact⟨k,by omega,h',.inr ⟨hk,h2,G5t h' h2 hk⟩⟩
def D2k (l:List Nd) (i:Nat):Int:=match l[i]? with
 | some x=>if 12<x.arcs.length then 1 else 0
 | none=>0
def A8f (l:List Nd):Bool:=if 12<l.length then false else decide (fst (D2k l) l.length=0)
theorem C7g {l:List Nd} (h:A8f l=true):l.length<=12/\∀x∈l,x.arcs.length<=12:=by
 unfold A8f at h
 split at h
 ·cases h
 ·refine⟨by omega,fun x hx=>?_⟩
  obtain⟨i,hi,e⟩:=List.getElem_of_mem hx
  have:=A5c (by simpa using h) i hi
  unfold D2k at this
  rw[List.getElem?_eq_getElem hi,e]at this
  simp only at this
  split at this
  ·cases this
  ·omega
def S47 (t:T) (j:Nat):A0b:=⟨[(3,.t (iv (j:Int))),(1,.ptr 0 0)],[(0,.cells 25 [.t t])],1,23⟩
theorem F0v {t:T} {l:List Nd} (ht:IsS eNd t l):A0y Try.prog G 47 [.ag [t]] (· = bv (A8f l)):=by
 have cp:A0w (.t (.ag [t]))=some [.t t]:=rfl
 refine C6v.call rfl ?_
 unfold B8b
 refine A0a ctx0 ?_
 simp -implicitDefEqProofs [cp]
 by_cases hb:12<l.length
 ·have hb':(12:Int)<(l.length:Int):=by omega
  have hres:A8f l=false:=by unfold A8f;rw[if_pos hb]
  refine A0d ctx0 ?_
  simp -implicitDefEqProofs [A0f,ht.len,hb,hb',hres]
 ·have hb':¬(12:Int)<(l.length:Int):=by omega
  refine A0a ctx0 ?_
  simp -implicitDefEqProofs [A0f,ht.len,hb,hb']
  obtain⟨n,hle,h0,hn⟩:=A7l (D2k l) l.length
  have hres:A8f l=decide (fst (D2k l) l.length=0):=by unfold A8f;rw[if_neg hb]
  refine A0s (fun _:Unit=>S47 t l.length) (fun _=>n=l.length) (fun _=>rfl) ?_ ?_
  ·refine A0a ctx0 ?_
   simp -implicitDefEqProofs
   refine A0h ?_
   refine A1b (S47 t) n (fun _=>rfl) ?_ rfl ?_ ?_
   ·refine A0c rfl rfl ?_ ?_<;>simp -implicitDefEqProofs [S47]
   ·intro j hj
    refine A0d ctx0 ?_
    have hjl:j<l.length:=by omega
    obtain⟨x,hx⟩:∃x,l[j]?=some x:=⟨_,List.getElem?_eq_getElem hjl⟩
    have e1:IntKind.i64.wrap ((j:Int)+1)=((j+1:Nat):Int):=A0l (by omega) (by omega)
    have ia:=B6m ht hx
    have hp:¬12<x.arcs.length:=fun h=>by
     have:=h0 j hj
     simp[D2k,hx,h]at this
    have hp':¬(12:Int)<(x.arcs.length:Int):=by omega
    simp -implicitDefEqProofs [S47,hjl,ht.len,ia,A0f,x.ok.len,e1,hp,hp']
    refine A0c rfl rfl ?_ ?_<;>simp -implicitDefEqProofs
   ·refine A0d ctx0 ?_
    rcases hn with⟨e,_⟩ | ⟨hjl,hk,he⟩
    ·have hnl:¬n<l.length:=by omega
     simp -implicitDefEqProofs [S47,ht.len,hnl,A0f]
     exact Next.mk () e (A0c rfl rfl (by simp -implicitDefEqProofs [e]) (by simp -implicitDefEqProofs))
    ·obtain⟨x,hx⟩:∃x,l[n]?=some x:=⟨_,List.getElem?_eq_getElem hjl⟩
     have ia:=B6m ht hx
     have hp:12<x.arcs.length:=Classical.byContradiction fun h=>hk (by simp[D2k,hx,h])
     have hp':(12:Int)<(x.arcs.length:Int):=by omega
     have hr:A8f l=false:=by rw[hres,he];simp[hk]
     simp -implicitDefEqProofs [S47,hjl,ht.len,ia,A0f,x.ok.len,hp,hp',hr]
  ·rintro _ e
   refine A0d ctx0 ?_
   have hr:A8f l=true:=by
    rcases hn with⟨_,he⟩ | ⟨h,_⟩
    ·rw[hres,he];rfl
    ·omega
   simp -implicitDefEqProofs [S47,hr]
def dupA (l:List Arc) (i:Nat) (f:Int):Nat->Int:=fun k=>match l[k]? with
 | some y=>if y.feat=f then 4 else 0
 | none=>0
def arcE (l:List Arc) (n:Int) (i:Nat):Int:=match l[i]? with
 | some x=>if x.feat<0\/x.to<0\/n<=x.to then 2 else fst (dupA l i x.feat) i
 | none=>0
def D4t (l:List Arc) (n:Int):Int:=fst (arcE l n) l.length
def S134 (t:T) (n:Int) (j:Nat):A0b:=⟨[(5,.t (iv (j:Int))),(1,.t (iv n)),(0,.t t)],[],0,52⟩
def D8q (t:T) (n:Int) (j k:Nat):A0b:=⟨[(6,.t (iv (k:Int))),(5,.t (iv (j:Int))),(1,.t (iv n)),(0,.t t)],[],0,52⟩
theorem F5l {t:T} {l:List Arc} (ht:IsS eArc t l) (hl:l.length<=1000000) (m:Int):A0y Try.prog G 134 [t,iv m] (· = iv (D4t l m)):=by
 refine D2j.call rfl ?_
 unfold C2k
 refine A0a ctx0 ?_
 simp -implicitDefEqProofs
 obtain⟨n,hle,h0,hn⟩:=A7l (arcE l m) l.length
 refine A0s (fun _:Unit=>S134 t m l.length) (fun _=>n=l.length) (fun _=>rfl) ?_ ?_
 ·refine A0a ctx0 ?_
  simp -implicitDefEqProofs
  refine A0h ?_
  refine A1b (S134 t m) n (fun _=>rfl) ?_ rfl ?_ ?_
  ·refine A0c rfl rfl ?_ ?_<;>simp -implicitDefEqProofs [S134]
  ·intro j hj
   have hjl:j<l.length:=by omega
   obtain⟨x,hx⟩:∃x,l[j]?=some x:=⟨_,List.getElem?_eq_getElem hjl⟩
   have e1:IntKind.i64.wrap ((j:Int)+1)=((j+1:Nat):Int):=A0l (by omega) (by omega)
   have ia:=A7k ht hx
   have hz:=h0 j hj
   simp only[arcE,hx]at hz
   have hc:¬(x.feat<0\/x.to<0\/m<=x.to):=fun h=>by rw[if_pos h]at hz;cases hz
   rw[if_neg hc]at hz
   have c1:¬x.feat<0:=fun h=>hc (.inl h)
   have c2:¬x.to<0:=fun h=>hc (.inr (.inl h))
   have c3:¬m<=x.to:=fun h=>hc (.inr (.inr h))
   refine A0a ctx0 ?_
   simp -implicitDefEqProofs [S134,hjl,ht.len]
   refine A0s (fun _:Unit=>S134 t m j) (fun _=>True) (fun _=>rfl) ?_ ?_
   ·refine A0h ?_
    refine A0a ctx0 ?_
    simp -implicitDefEqProofs [ia,A0f,c1,c2,c3]
    refine A0a ctx0 ?_
    simp -implicitDefEqProofs
    refine A0h ?_
    refine A1b (D8q t m j) j (fun _=>rfl) ?_ rfl ?_ ?_
    ·refine A0c rfl rfl ?_ ?_<;>simp -implicitDefEqProofs [D8q]
    ·intro k hk
     obtain⟨y,hy⟩:∃y,l[k]?=some y:=⟨_,List.getElem?_eq_getElem (by omega:k<l.length)⟩
     have ib:=A7k ht hy
     have e2:IntKind.i64.wrap ((k:Int)+1)=((k+1:Nat):Int):=A0l (by omega) (by omega)
     have hd:=A5c hz k hk
     simp only[dupA,hy]at hd
     have hd:¬y.feat=x.feat:=fun h=>by rw[if_pos h]at hd;cases hd
     refine A0d ctx0 ?_
     simp -implicitDefEqProofs [D8q,hk,ia,ib,A0f,hd,e2]
     refine A0c rfl rfl ?_ ?_<;>simp -implicitDefEqProofs
    ·refine A0d ctx0 ?_
     simp -implicitDefEqProofs [D8q]
     exact Next.mk () trivial (A0c rfl rfl (by simp -implicitDefEqProofs [S134]) (by simp -implicitDefEqProofs [S134]))
   ·rintro _ -
    refine A0d ctx0 ?_
    simp -implicitDefEqProofs [S134,e1]
    refine A0c rfl rfl ?_ ?_<;>simp -implicitDefEqProofs
  ·rcases hn with⟨e,_⟩ | ⟨hjl,hk,he⟩
   ·refine A0d ctx0 ?_
    have hnl:¬n<l.length:=by omega
    simp -implicitDefEqProofs [S134,ht.len,hnl]
    exact Next.mk () e (A0c rfl rfl (by simp -implicitDefEqProofs [e]) (by simp -implicitDefEqProofs))
   ·obtain⟨x,hx⟩:∃x,l[n]?=some x:=⟨_,List.getElem?_eq_getElem hjl⟩
    have ia:=A7k ht hx
    have hres:D4t l m=arcE l m n:=he
    refine A0a ctx0 ?_
    simp -implicitDefEqProofs [S134,hjl,ht.len]
    by_cases hc:x.feat<0\/x.to<0\/m<=x.to
    ·have hr:D4t l m=2:=by rw[hres];simp only[arcE,hx];rw[if_pos hc]
     refine A0s (fun _:Unit=>S134 t m n) (fun _=>False) (fun _=>rfl) ?_ (fun _ h=>h.elim)
     refine A0h ?_
     refine A0a ctx0 ?_
     by_cases c1:x.feat<0
     ·simp -implicitDefEqProofs [ia,A0f,c1,hr]
     ·by_cases c2:x.to<0
      ·simp -implicitDefEqProofs [ia,A0f,c1,c2,hr]
      ·have c3:m<=x.to:=by rcases hc with h | h | h<;>omega
       simp -implicitDefEqProofs [ia,A0f,c1,c2,c3,hr]
    ·have c1:¬x.feat<0:=fun h=>hc (.inl h)
     have c2:¬x.to<0:=fun h=>hc (.inr (.inl h))
     have c3:¬m<=x.to:=fun h=>hc (.inr (.inr h))
     have hr:arcE l m n=fst (dupA l n x.feat) n:=by simp only[arcE,hx];rw[if_neg hc]
     rw[hr]at hk hres
     obtain⟨k,hkl,hk0,hkn⟩:=A7l (dupA l n x.feat) n
     have hkn:k<n/\dupA l n x.feat k≠0/\fst (dupA l n x.feat) n=dupA l n x.feat k:=by
      rcases hkn with⟨_,h⟩ | h
      ·exact absurd h hk
      ·exact h
     obtain⟨hkn,hd,hv⟩:=hkn
     obtain⟨y,hy⟩:∃y,l[k]?=some y:=⟨_,List.getElem?_eq_getElem (by omega:k<l.length)⟩
     have hyf:y.feat=x.feat:=Classical.byContradiction fun h=>hd (by simp[dupA,hy,h])
     have hr:D4t l m=4:=by rw[hres,hv];simp[dupA,hy,hyf]
     refine A0s (fun _:Unit=>S134 t m n) (fun _=>False) (fun _=>rfl) ?_ (fun _ h=>h.elim)
     refine A0h ?_
     refine A0a ctx0 ?_
     simp -implicitDefEqProofs [ia,A0f,c1,c2,c3]
     refine A0a ctx0 ?_
     simp -implicitDefEqProofs
     refine A0h ?_
     refine A1b (D8q t m n) k (fun _=>rfl) ?_ rfl ?_ ?_
     ·refine A0c rfl rfl ?_ ?_<;>simp -implicitDefEqProofs [D8q]
     ·intro j hj
      obtain⟨z,hz⟩:∃z,l[j]?=some z:=⟨_,List.getElem?_eq_getElem (by omega:j<l.length)⟩
      have ib:=A7k ht hz
      have e2:IntKind.i64.wrap ((j:Int)+1)=((j+1:Nat):Int):=A0l (by omega) (by omega)
      have hjn:j<n:=by omega
      have hd:=hk0 j hj
      simp only[dupA,hz]at hd
      have hd:¬z.feat=x.feat:=fun h=>by rw[if_pos h]at hd;cases hd
      refine A0d ctx0 ?_
      simp -implicitDefEqProofs [D8q,hjn,ia,ib,A0f,hd,e2]
      refine A0c rfl rfl ?_ ?_<;>simp -implicitDefEqProofs
     ·have ib:=A7k ht hy
      refine A0d ctx0 ?_
      simp -implicitDefEqProofs [D8q,hkn,ia,ib,A0f,hyf,hr]
 ·rintro _ e
  refine A0d ctx0 ?_
  have hr:D4t l m=0:=by
   rcases hn with⟨_,he⟩ | ⟨h,_⟩
   ·exact he
   ·omega
  simp -implicitDefEqProofs [S134,hr]
noncomputable def G7g:List T->Option T:=g2 (tSl eArc) tInt fun l n=>if l.length<=1000000 then some (iv (D4t l n))else none
theorem G2d:GOK Try.prog G 134 G7g:=A6w fun a b x y r ha hb hr=>by
 obtain rfl:b=iv y:=hb
 split at hr
 ·rename_i h;injection hr with hr;subst hr;exact F5l ha h y
 ·cases hr
theorem E6q {t:T} {l:List Arc} (ht:IsS eArc t l) (hl:l.length<=1000000) (n:Int):G7g [t,iv n]=some (iv (D4t l n)):=
 (A5y (τ:=tSl eArc) (σ:=tInt) ht rfl).trans (if_pos hl)
noncomputable def tw1:Tbl:=[(134,G7g)]
theorem ctw1:Ctx Try.prog G (orc tw1):=(A1t.cons G2d .nil).ctx A1u
def F0w (l:List Nd) (i:Nat):Int:=match l[i]? with
 | some x=>if x.type<0 then 2 else D4t x.arcs (l.length:Int)
 | none=>0
def A9k (l:List Nd):Int:=if l.length=0 then 1 else if 4096<l.length then 7 else fst (F0w l) l.length
def S110 (t:T) (j:Nat):A0b:=⟨[(3,.t (iv (j:Int))),(1,.ptr 0 0)],[(0,.cells 25 [.t t])],1,40⟩
theorem F5m {t:T} {l:List Nd} (ht:IsS eNd t l) (ha:∀x∈l,x.arcs.length<=1000000):A0y Try.prog G 110 [.ag [t]] (· = iv (A9k l)):=by
 have cp:A0w (.t (.ag [t]))=some [.t t]:=rfl
 refine D2i.call rfl ?_
 unfold C2j
 refine A0a ctw1 ?_
 simp -implicitDefEqProofs [cp]
 by_cases hz:l.length=0
 ·have hz':((l.length:Int)==0)=true:=by simp[hz]
  have hres:A9k l=1:=by unfold A9k;rw[if_pos hz]
  refine A0d ctw1 ?_
  simp -implicitDefEqProofs [A0f,ht.len,hz,hz',hres]
 ·have hz':((l.length:Int)==0)=false:=by rw[beq_eq_false_iff_ne];omega
  refine A0a ctw1 ?_
  simp -implicitDefEqProofs [A0f,ht.len,hz,hz']
  by_cases hb:4096<l.length
  ·have hb':(4096:Int)<(l.length:Int):=by omega
   have hres:A9k l=7:=by unfold A9k;rw[if_neg hz,if_pos hb]
   refine A0d ctw1 ?_
   simp -implicitDefEqProofs [A0f,ht.len,hb,hb',hres]
  ·have hb':¬(4096:Int)<(l.length:Int):=by omega
   refine A0a ctw1 ?_
   simp -implicitDefEqProofs [A0f,ht.len,hb,hb']
   obtain⟨n,hle,h0,hn⟩:=A7l (F0w l) l.length
   have hres:A9k l=fst (F0w l) l.length:=by unfold A9k;rw[if_neg hz,if_neg hb]
   refine A0s (fun _:Unit=>S110 t l.length) (fun _=>n=l.length) (fun _=>rfl) ?_ ?_
   ·refine A0a ctw1 ?_
    simp -implicitDefEqProofs
    refine A0h ?_
    refine A1b (S110 t) n (fun _=>rfl) ?_ rfl ?_ ?_
    ·refine A0c rfl rfl ?_ ?_<;>simp -implicitDefEqProofs [S110]
    ·intro j hj
     refine A0d ctw1 ?_
     have hjl:j<l.length:=by omega
     obtain⟨x,hx⟩:∃x,l[j]?=some x:=⟨_,List.getElem?_eq_getElem hjl⟩
     have e1:IntKind.i64.wrap ((j:Int)+1)=((j+1:Nat):Int):=A0l (by omega) (by omega)
     have ia:=B6m ht hx
     have hz:=h0 j hj
     simp only[F0w,hx]at hz
     have hp:¬x.type<0:=fun h=>by rw[if_pos h]at hz;cases hz
     rw[if_neg hp]at hz
     have ga:=E6q x.ok (ha x (List.mem_of_getElem? hx)) (l.length:Int)
     rw[hz]at ga
     simp -implicitDefEqProofs [S110,hjl,ht.len,ia,A0f,e1,hp,tw1,ga]
     refine A0c rfl rfl ?_ ?_<;>simp -implicitDefEqProofs
    ·refine A0d ctw1 ?_
     rcases hn with⟨e,_⟩ | ⟨hjl,hk,he⟩
     ·have hnl:¬n<l.length:=by omega
      simp -implicitDefEqProofs [S110,ht.len,hnl,A0f]
      exact Next.mk () e (A0c rfl rfl (by simp -implicitDefEqProofs [e]) (by simp -implicitDefEqProofs))
     ·obtain⟨x,hx⟩:∃x,l[n]?=some x:=⟨_,List.getElem?_eq_getElem hjl⟩
      have ia:=B6m ht hx
      rw[<-hres]at he
      simp only[F0w,hx]at hk he
      by_cases hp:x.type<0
      ·rw[if_pos hp]at he
       simp -implicitDefEqProofs [S110,hjl,ht.len,ia,A0f,hp,he]
      ·rw[if_neg hp]at he hk
       have ga:=E6q x.ok (ha x (List.mem_of_getElem? hx)) (l.length:Int)
       have hk':(D4t x.arcs (l.length:Int)==0)=false:=by rw[beq_eq_false_iff_ne];exact hk
       simp -implicitDefEqProofs [S110,hjl,ht.len,ia,A0f,hp,he,tw1,ga,hk,hk']
   ·rintro _ e
    refine A0d ctw1 ?_
    have hr:A9k l=0:=by
     rcases hn with⟨_,he⟩ | ⟨h,_⟩
     ·rw[hres,he]
     ·omega
    simp -implicitDefEqProofs [S110,hr]
structure Form (l:List Nd):Prop where
 pos:0<l.length
 le:l.length<=4096
 type:∀x∈l,0<=x.type
 feat:∀x∈l,∀a∈x.arcs,0<=a.feat
 to:∀x∈l,∀a∈x.arcs,0<=a.to/\a.to<(l.length:Int)
 apart:∀x∈l,∀(i j:Nat) a b,i<j->x.arcs[i]?=some a->x.arcs[j]?=some b->a.feat≠b.feat
theorem C7h {l:List Nd} (h:A9k l=0):Form l:=by
 unfold A9k at h
 split at h
 ·cases h
 ·split at h
  ·cases h
  ·have key:∀x∈l,0<=x.type/\∀(j:Nat) b,x.arcs[j]?=some b->0<=b.feat/\0<=b.to/\b.to<(l.length:Int)/\∀(i:Nat) a,i<j->x.arcs[i]?=some a->a.feat≠b.feat:=by
    intro x hx
    obtain⟨i,hi,e⟩:=List.getElem_of_mem hx
    have h1:=A5c h i hi
    simp only[F0w,List.getElem?_eq_getElem hi,e]at h1
    split at h1
    ·cases h1
    ·refine⟨by omega,fun j b hb=>?_⟩
     have hj:j<x.arcs.length:=(List.getElem?_eq_some_iff.1 hb).1
     have h2:=A5c h1 j hj
     simp only[arcE,hb]at h2
     split at h2
     ·cases h2
     ·refine⟨by omega,by omega,by omega,fun k a hk ha' he=>?_⟩
      have h3:=A5c h2 k hk
      simp[dupA,ha',he]at h3
   refine⟨by omega,by omega,fun x hx=>(key x hx).1,fun x hx a ha=>?_,fun x hx a ha=>?_,fun x hx i j a b hij ha hb=>?_⟩
   ·obtain⟨j,hj,e⟩:=List.getElem_of_mem ha
    exact((key x hx).2 j a (by rw[List.getElem?_eq_getElem hj,e])).1
   ·obtain⟨j,hj,e⟩:=List.getElem_of_mem ha
    have:=(key x hx).2 j a (by rw[List.getElem?_eq_getElem hj,e])
    exact⟨this.2.1,this.2.2.1⟩
   ·exact((key x hx).2 j b hb).2.2.2 i a hij ha
noncomputable def F5n:List T->Option T:=fun ts=>match ts with
 | [.ag [t]]=>((tSl eNd).dec t).bind fun l=>open Classical in if ∀x∈l,x.arcs.length<=1000000 then some (iv (A9k l))else none
 | _=>none
theorem G2e:GOK Try.prog G 110 F5n:=by
 intro args r h
 unfold F5n at h
 split at h
 ·obtain⟨l,hl,h⟩:=Option.bind_eq_some_iff.1 h
  split at h
  ·rename_i ha
   injection h with h
   subst h
   exact F5m (Ty.is_dec hl) ha
  ·cases h
 ·cases h
theorem G2f {t:T} {l:List Nd} (ht:IsS eNd t l) (ha:∀x∈l,x.arcs.length<=1000000):F5n [.ag [t]]=some (iv (A9k l)):=by
 have:(tSl eNd).dec t=some l:=Ty.dec_is ht
 simp only[F5n,this,Option.bind_some]
 rw[if_pos ha]
def posA (l:List Arc) (f:Int):Nat->Nat
 | 0=>0
 | k+1=>match l[k]? with
  | some y=>if f<y.feat then posA l f k else k+1
  | none=>k+1
theorem D4u (l:List Arc) (f:Int):∀k,posA l f k<=k
 | 0=>Nat.le_refl _
 | k+1=>by
  have:=D4u l f k
  unfold posA
  split
  ·split<;>omega
  ·omega
def insA (x:Arc) (l:List Arc):List Arc:=l.take (posA l x.feat l.length)++[x]++l.drop (posA l x.feat l.length)
def A4g (l:List Arc):Nat->List Arc
 | 0=>[]
 | i+1=>match l[i]? with
  | some x=>insA x (A4g l i)
  | none=>A4g l i
def A3s (l:List Arc):List Arc:=A4g l l.length
theorem G2g (x:Arc) (l:List Arc):(insA x l).length=l.length+1:=by
 have:=D4u l x.feat l.length
 simp only[insA,List.length_append,List.length_take,List.length_cons,List.length_nil,List.length_drop]
 omega
theorem G2h {x y:Arc} {l:List Arc}:y∈insA x l ↔ y=x\/y∈l:=by
 unfold insA
 have h:y∈l ↔ y∈l.take (posA l x.feat l.length)\/y∈l.drop (posA l x.feat l.length):=by
  rw[<-List.mem_append,List.take_append_drop]
 rw[h]
 simp only[List.mem_append,List.mem_singleton]
 constructor
 ·rintro((h | h) | h)
  ·exact .inr (.inl h)
  ·exact .inl h
  ·exact .inr (.inr h)
 ·rintro(h | h | h)
  ·exact .inl (.inr h)
  ·exact .inl (.inl h)
  ·exact .inr h
theorem C2m (l:List Arc):∀{i},i<=l.length->(A4g l i).length=i
 | 0,_=>rfl
 | i+1,h=>by
  have hx:l[i]?=some l[i]:=List.getElem?_eq_getElem (by omega)
  simp only[A4g,hx,G2g,C2m l (Nat.le_of_succ_le h)]
theorem C7i (l:List Arc):(A3s l).length=l.length:=C2m l (Nat.le_refl _)
theorem D2l {l:List Arc} {y:Arc}:∀{i},i<=l.length->(y∈A4g l i ↔ y∈l.take i)
 | 0,_=>by simp[A4g]
 | i+1,h=>by
  have hx:l[i]?=some l[i]:=List.getElem?_eq_getElem (by omega)
  simp only[A4g,hx,G2h,D2l (Nat.le_of_succ_le h),List.take_add_one,List.mem_append,Option.toList_some,List.mem_singleton]
  exact or_comm
theorem B3z {l:List Arc} {y:Arc}:y∈A3s l ↔ y∈l:=by
 unfold A3s
 rw[D2l (Nat.le_refl _),List.take_length]
def S92 (t:T) (l:List Arc) (i:Nat):A0b:=⟨[(4,.t (iv (i:Int))),(3,rowP eArc 0 (A4g l i)),(0,.t t)],rowH eArc 81 0 (A4g l i),1,52⟩
def S92e (t:T) (l:List Arc) (i:Nat):A0b:=⟨[(4,.t (iv (i:Int))),(3,rowP eArc 0 (A4g l (i+1))),(0,.t t)],rowH eArc 81 0 (A4g l (i+1)),1,52⟩
def S92i (t:T) (l:List Arc) (i k:Nat):A0b:=⟨[(5,.t (iv (k:Int))),(4,.t (iv (i:Int))),(3,rowP eArc 0 (A4g l i)),(0,.t t)],rowH eArc 81 0 (A4g l i),1,52⟩
theorem D8r {t:T} {l:List Arc} (ht:IsS eArc t l) (hl:l.length<=1000000):A5s Try.prog G 92 [.t t] [] 0 (rowP eArc 0 (A3s l)) (rowH eArc 81 0 (A3s l)) 1:=by
 have hz:eArc.z=2:=rfl
 refine C4a.callP rfl ?_
 unfold B3x
 refine A0a ctx0 ?_
 simp -implicitDefEqProofs
 refine A0a ctx0 ?_
 simp -implicitDefEqProofs
 refine A0s (fun _:Unit=>S92 t l l.length) (fun _=>True) (fun _=>rfl) ?_ ?_
 ·refine A0a ctx0 ?_
  simp -implicitDefEqProofs
  refine A0h ?_
  refine A1b (S92 t l) l.length (fun _=>rfl) ?_ rfl ?_ ?_
  ·exact A0i (k:=0) (A0j.nil _ _ _ _) (by omega) (by omega) (by simp -implicitDefEqProofs [A4g,rowP,ren,under])
  ·intro i hi
   obtain⟨x,hx⟩:∃x,l[i]?=some x:=⟨_,List.getElem?_eq_getElem hi⟩
   have e1:IntKind.i64.wrap ((i:Int)+1)=((i+1:Nat):Int):=A0l (by omega) (by omega)
   have ia:=A7k ht hx
   have hnext:A4g l (i+1)=insA x (A4g l i):=by simp only[A4g,hx]
   obtain⟨out,hout⟩:∃out,out=A4g l i:=⟨_,rfl⟩
   have hol:out.length=i:=by rw[hout];exact C2m l (Nat.le_of_lt hi)
   obtain⟨H0,hH0⟩:∃H0,H0=rowH eArc 81 0 out:=⟨_,rfl⟩
   have a0:A0j eArc 81 H0 0 out:=by rw[hH0];exact A0j.head' _ _ _ _
   have lp:∀c cs,A0f false 1 H0 (.t (.pt (c::cs)))=some (.t c):=fun _ _=>rfl
   refine A0a ctx0 ?_
   simp -implicitDefEqProofs [S92,hi,ht.len,<-hout,<-hH0]
   refine A0s (fun _:Unit=>S92e t l i) (fun _=>True) (fun _=>rfl) ?_ ?_
   ·refine A0h ?_
    refine A0a ctx0 ?_
    simp -implicitDefEqProofs [A2f]
    refine A0s (fun k:Nat=>S92i t l i k) (fun k=>k=posA out x.feat out.length) (fun _=>rfl) ?_ ?_
    ·refine A0h ?_
     refine A2o (S92i t l i) id (fun k=>k<=out.length/\posA out x.feat k=posA out x.feat out.length) out.length (fun _=>rfl) ⟨Nat.le_refl _,rfl⟩ ?_ rfl ?_
     ·unfold S92i
      rw[<-hout]
      exact A0i (k:=0) a0 (by omega) (by omega) (by simp -implicitDefEqProofs [A0g,A0e,ren,under])
     ·rintro k ⟨hkl,hki⟩
      refine A0d ctx0 ?_
      by_cases hk0:k=0
      ·subst hk0
       simp -implicitDefEqProofs [S92i,<-hout,<-hH0]
       refine Next.mk 0 (by rw[<-hki];rfl) ?_
       rw[hH0]
       exact A0i (k:=0) (A0j.head' _ _ _ _) (by omega) (by omega) (by simp -implicitDefEqProofs [A0g,A0e,ren,under])
      ·obtain⟨k',hk'⟩:∃k',k'+1=k:=⟨k-1,by omega⟩
       obtain⟨y,hy⟩:∃y,out[k']?=some y:=⟨_,List.getElem?_eq_getElem (by omega)⟩
       have h0:0<k:=by omega
       have h0':(0:Int)<(k:Int):=by omega
       have iy:=A1r (e:=eArc) (b:=0) hy .i64
       have ly:=a0.load (off:=0) (c:=iv y.feat) hy rfl
       rw[hz]at iy ly
       rw[Nat.add_zero]at ly
       have w1:IntKind.i64.wrap ((k:Int)-1)=(k':Int):=by rw[A8h (by omega) (by omega)];omega
       have is:posA out x.feat k=if x.feat<y.feat then posA out x.feat k' else k:=by rw[<-hk'];simp only[posA,hy]
       by_cases hc:x.feat<y.feat
       ·rw[if_pos hc]at is
        simp -implicitDefEqProofs [S92i,<-hout,<-hH0,h0,h0',w1,iy,ly,ia,lp,hc]
        refine Next.mk k' ⟨⟨by omega,by rw[<-is];exact hki⟩,by show k'<k;omega⟩ ?_
        unfold S92i
        rw[<-hout]
        exact A0i (k:=0) a0 (by omega) (by omega) (by simp -implicitDefEqProofs [A0g,A0e,ren,under])
       ·rw[if_neg hc]at is
        simp -implicitDefEqProofs [S92i,<-hout,<-hH0,h0,h0',w1,iy,ly,ia,lp,hc]
        refine Next.mk k (by rw[<-hki];exact is.symm) ?_
        rw[hH0]
        exact A0i (k:=0) (A0j.head' _ _ _ _) (by omega) (by omega) (by simp -implicitDefEqProofs [A0g,A0e,ren,under])
    ·rintro k hk
     have hkl:k<=out.length:=by rw[hk];exact D4u _ _ _
     obtain⟨p1,s1,hp1⟩:=C4c (e:=eArc) 0 out hkl .i64
     obtain⟨p2,s2,hp2⟩:=B6z (e:=eArc) 0 out hkl .i64
     have lt1:(out.take k).length=k:=by rw[List.length_take];omega
     have lt2:(out.drop k).length=out.length-k:=by simp
     obtain⟨b1,H1,n1,ap1,r1,ne1,le1,lk1,ge1⟩:=A1k (e:=eArc) (ty:=81) (by':=16) (nx:=1) (b:=7) (l:=[]) (m:=out.take k) (A0j.nil _ _ H0 _) (hp1 _ _ a0) (by rw[lt1];simp;omega) (by rw[lt1];simp;omega)
     rw[List.nil_append]at ap1 r1
     have la:∀cs,A0f true 2 H1 (.t (.pt (iv x.feat::iv x.to::cs)))=some (.t (.ag [iv x.feat,iv x.to])):=fun cs=>by simp[A0f]
     obtain⟨b2,H2,n2,ap2,r2,ne2,le2,lk2,ge2⟩:=A1k (e:=eArc) (ty:=81) (by':=16) (nx:=n1+1) (m:=[x]) (r1.cons (r:=.cells 81 ((eArc.enc x).map .t)) (Ne.symm ne1)) (A3r (b:=n1) (ty:=81) x (by simp)) (by rw[lt1];simp;omega) (by rw[lt1];simp;omega)
     have a0':A0j eArc 81 H2 0 out:=a0.imp id fun h=>by
      rw[lk2 0 (by omega) (by omega),look_cons,if_neg (by omega),lk1 0 (by omega) (by omega)]
      exact h
     obtain⟨b3,H3,n3,ap3,r3,ne3,le3,lk3,ge3⟩:=A1k (e:=eArc) (ty:=81) (by':=16) (nx:=n2) (m:=out.drop k) r2 (hp2 _ _ a0') (by simp;omega) (by simp;omega)
     have hins:out.take k++[x]++out.drop k=insA x out:=by unfold insA;rw[<-hk]
     rw[hins]at ap3 r3
     rw[hz]at ap1 ap2 ap3 s1 s2
     have ap1:appM 81 2 16 H0 1 (.t nilS) p1=some (rowP eArc b1 (out.take k),H1,n1):=ap1
     have bs:A1p 81 2 [.int .i64 0,.int .i64 0] 1 [(0,.t (.ag [iv x.feat,iv x.to]))] n1=some (.row n1 0 1 2,.cells 81 ((eArc.enc x).map .t)):=rfl
     refine A0d ctx0 ?_
     simp -implicitDefEqProofs [S92i,<-hout,<-hH0,s1,s2,ap1,ia,la,bs,ap2,ap3]
     refine Next.mk () trivial ?_
     unfold S92e
     rw[hnext,<-hout]
     exact A0i (k:=b3) r3 (by omega) (by omega) (by simp -implicitDefEqProofs [A0g,A0e,ren,under])
   ·rintro _ -
    refine A0d ctx0 ?_
    simp -implicitDefEqProofs [S92e,e1]
    exact A0i (k:=0) (A0j.head' _ _ _ _) (by omega) (by omega) (by simp -implicitDefEqProofs [A0g,A0e,ren,under])
  ·refine A0d ctx0 ?_
   simp -implicitDefEqProofs [S92,ht.len]
   exact Next.mk () trivial (A0i (k:=0) (A0j.head' _ _ _ _) (by omega) (by omega) (by simp -implicitDefEqProofs [A0g,A0e,ren,under]))
 ·rintro _ -
  refine A0d ctx0 ?_
  simp -implicitDefEqProofs [S92]
  exact⟨.inr rfl,_,[rowP eArc 0 (A3s l)],Sub.refl _,rfl,rfl,rfl,rfl⟩
theorem F0x (e:Enc Arc) (n:Nat) (l:List Arc):∀q∈rowH e 81 0 l,q.1<1/\A0z 1 q.2=true:=by
 intro q hq
 obtain⟨_,rfl⟩:=A1j hq
 exact⟨by omega,A0t _ _ _ _⟩
theorem E2r {t:T} {l:List Arc} (ht:IsS eArc t l) (hl:l.length<=1000000) (H:Heap) (nx:Nat):A5s Try.prog G 92 [.t t] H nx (rowP eArc nx (A3s l)) (rowH eArc 81 nx (A3s l)++H) (nx+1):=by
 have h:=(D8r ht hl).lift id nx H (rowH eArc 81 nx (A3s l)++H) (fun b hb=>by omega) (fun b c hb _ _=>by omega) (by omega) (fun q hq=>by simp at hq) rfl (A0e _ _ _ _ (by omega)) (F0x eArc 1 _) ?_
 ·rw[A0g]at h
  have e:A4s id 0 nx 0=nx:=by simp[A4s]
  rw[e]at h
  exact h
 ·intro b x hb
  cases hs:A3s l with
  | nil=>
   rw[hs]at hb
   right
   exact⟨hb,fun b0 x0 h0=>by simp[Abs.look]at h0⟩
  | cons y r=>
   rw[hs]at hb
   simp only[rowH,List.cons_append,List.nil_append,look_cons]at hb
   by_cases e:nx=b
   ·rw[if_pos e]at hb
    injection hb with hb
    subst hb
    left
    refine⟨0,A1g eArc 81 (y::r),by simp[rowH,A1g],by simp[A4s,e],?_⟩
    rw[A1l]
    rfl
   ·rw[if_neg e]at hb
    right
    exact⟨hb,fun b0 x0 h0=>by simp[Abs.look]at h0⟩
noncomputable def C2n (ps:List PV) (H:Heap) (nx:Nat):Option (PV×Heap×Nat):=match ps with
 | [.t t]=>((tSl eArc).dec t).bind fun l=>if l.length<=1000000 then some (rowP eArc nx (A3s l),rowH eArc 81 nx (A3s l)++H,nx+1)else none
 | _=>none
theorem F0y:HOK Try.prog G 92 C2n where
 call:=fun ps H nx r H' nx' h=>by
  unfold C2n at h
  split at h
  ·obtain⟨l,hl,h⟩:=Option.bind_eq_some_iff.1 h
   split at h
   ·rename_i hn
    injection h with h
    injection h with h1 h2
    injection h2 with h2 h3
    subst h1;subst h2;subst h3
    exact E2r (Ty.is_dec hl) hn H nx
   ·cases h
  ·cases h
 fresh:=fun ps H nx r H' nx' h hf b x hb=>by
  unfold C2n at h
  split at h
  ·obtain⟨l,hl,h⟩:=Option.bind_eq_some_iff.1 h
   split at h
   ·injection h with h
    injection h with h1 h2
    injection h2 with h2 h3
    subst h1;subst h2;subst h3
    cases hs:A3s l with
    | nil=>
     rw[hs]at hb
     have:=hf b x hb
     omega
    | cons y r=>
     rw[hs]at hb
     simp only[rowH,List.cons_append,List.nil_append,look_cons]at hb
     by_cases e:nx=b
     ·omega
     ·rw[if_neg e]at hb
      have:=hf b x hb
      omega
   ·cases h
  ·cases h
theorem D2m {t:T} {l:List Arc} (ht:IsS eArc t l) (hl:l.length<=1000000) (H:Heap) (nx:Nat):C2n [.t t] H nx=some (rowP eArc nx (A3s l),rowH eArc 81 nx (A3s l)++H,nx+1):=by
 have:(tSl eArc).dec t=some l:=Ty.dec_is ht
 simp only[C2n,this,Option.bind_some]
 rw[if_pos hl]
theorem B0y {α:Type} {e:Enc α} {ty b:Nat} {H:Heap} {l:List α} (h:Abs.look H b=some (A1g e ty l)) {i off:Nat} {x y:α} {c:T} (hx:l[i]?=some x) (ho:off<e.z) (hy:(e.enc x).set off c=e.enc y) (hc:A0w (.t c)=some [.t c]) :
  A1e 1 H (.ptr b (i*e.z+off)) (.t c)=some (upd H b (A1g e ty (l.set i y))):=by
 have hi:i<l.length:=(List.getElem?_eq_some_iff.1 hx).1
 have hlen:i*e.z+off+1<=l.length*e.z:=by
  have:(i+1)*e.z<=l.length*e.z:=Nat.mul_le_mul_right _ hi
  rw[Nat.succ_mul]at this
  omega
 have key:∀(l:List α) (i:Nat),l[i]?=some x->(l.flatMap e.enc).set (i*e.z+off) c=(l.set i y).flatMap e.enc:=by
  intro l
  induction l with
  | nil=>intro i h;simp at h
  | cons a r ih=>
   intro i h
   cases i with
   | zero=>
    simp at h
    subst h
    rw[Nat.zero_mul,Nat.zero_add,List.flatMap_cons,List.set_append_left _ _ (by rw[e.len];exact ho),hy]
    simp
   | succ i=>
    rw[List.flatMap_cons,List.set_append_right _ _ (by rw[e.len,Nat.succ_mul];omega),e.len]
    have e1:(i+1)*e.z+off-e.z=i*e.z+off:=by rw[Nat.succ_mul];omega
    rw[e1,ih i (by simpa using h)]
    simp
 simp only[A1e,hc,h,A1g,List.length_cons,List.length_nil,List.length_map,A2e,Nat.zero_add,true_and]
 rw[if_pos (by omega)]
 simp only[A1y,<-key l i hx,List.map_set]
theorem B0z {α:Type} (e:Enc α) (b:Nat) (l:List α):A0w (rowP e b l)=some [rowP e b l]:=by cases l<;>rfl
noncomputable def hOne (ps0:List PV) (H0:Heap) (nx0:Nat) (out:PV×Heap×Nat) (ps:List PV) (H:Heap) (nx:Nat):Option (PV×Heap×Nat):=
 open Classical in if ps = ps0 /\ H = H0 /\ nx = nx0 then some out else none
theorem hOne_eq (ps:List PV) (H:Heap) (nx:Nat) (out:PV×Heap×Nat):hOne ps H nx out ps H nx=some out:=by
 unfold hOne
 rw[if_pos ⟨rfl,rfl,rfl⟩]
theorem hOne_ok {P:Program} {f:FuncId} {ps:List PV} {H:Heap} {nx:Nat} {r:PV} {H':Heap} {nx':Nat} (h:A5s P G f ps H nx r H' nx') (hf:(∀b x,Abs.look H b=some x->b<nx)->∀b x,Abs.look H' b=some x->b<nx'):HOK P G f (hOne ps H nx (r,H',nx')) where
 call:=fun ps1 H1 nx1 r1 H1' nx1' h1=>by
  unfold hOne at h1
  split at h1
  ·rename_i hc
   obtain⟨rfl,rfl,rfl⟩:=hc
   injection h1 with h1
   injection h1 with h1 h2
   injection h2 with h2 h3
   subst h1;subst h2;subst h3
   exact h
  ·cases h1
 fresh:=fun ps1 H1 nx1 r1 H1' nx1' h1=>by
  unfold hOne at h1
  split at h1
  ·rename_i hc
   obtain⟨rfl,rfl,rfl⟩:=hc
   injection h1 with h1
   injection h1 with h1 h2
   injection h2 with h2 h3
   subst h1;subst h2;subst h3
   exact hf
  ·cases h1
def A6a (t:T) (b c:Nat) (num ord:List Int):Row:=.cells 138 [.t t,rowP eInt b num,rowP eInt c ord]
def B0f (t:T) (a b c:Nat) (num ord:List Int) (R:Heap):Heap:=(a,A6a t b c num ord)::(rowH eInt 3 b num++(rowH eInt 3 c ord++R))
structure Walk (t:T) (a b c:Nat) (num ord:List Int) (H:Heap):Prop where
 walk:Abs.look H a=some (A6a t b c num ord)
 num:A0j eInt 3 H b num
 ord:A0j eInt 3 H c ord
 ab:a≠b
 ac:a≠c
 bc:b≠c
theorem Walk.mk' (t:T) {a b c:Nat} (num ord:List Int) (R:Heap) (ab:a≠b) (ac:a≠c) (bc:b≠c):Walk t a b c num ord (B0f t a b c num ord R):=
 ⟨by simp[B0f],(A0j.head _ _ _ _ _).cons ab,((A0j.head _ _ _ _ _).left (Ne.symm bc)).cons ac,ab,ac,bc⟩
theorem A7m {t:T} {a b c:Nat} {num ord:List Int} {R:Heap} {q:Nat×Row} (h:q∈B0f t a b c num ord R):q=(a,A6a t b c num ord)\/(num≠[]/\q=(b,A1g eInt 3 num))\/(ord≠[]/\q=(c,A1g eInt 3 ord))\/q∈R:=by
 unfold B0f at h
 rcases List.mem_cons.1 h with h | h
 ·exact .inl h
 ·rcases List.mem_append.1 h with h | h
  ·exact .inr (.inl (A1j h))
  ·rcases List.mem_append.1 h with h | h
   ·exact .inr (.inr (.inl (A1j h)))
   ·exact .inr (.inr (.inr h))
theorem A9p (σ:Nat->Nat) (t:T) (b c:Nat) (num ord:List Int):A2d σ (A6a t b c num ord)=A6a t (σ b) (σ c) num ord:=by
 simp only[A6a,A2d,renL,ren,A0g]
theorem A7g {n:Nat} (t:T) {b c:Nat} (num ord:List Int) (hb:b<n) (hc:c<n):A0z n (A6a t b c num ord)=true:=by
 simp only[A6a,A0z,A1z,under,A0e _ _ _ _ hb,A0e _ _ _ _ hc,Bool.and_self]
theorem D4v {P:Program} {B:Nat} {t:T} {a b c k nx nx' n:Nat} {num ord:List Int} {env env':List (Nat×PV)} {H R:Heap} (w:Walk t a b k num ord H) (ac:a≠c) (bc:b≠c) (hc:c<nx') (ha:a<nx') (hb:b<nx') (hB:B<=c)
  (hR:∀q∈R,Abs.look H q.1=some (A2d (fun x=>if x=c then k else x) q.2)/\q.1<nx'/\q.1≠c/\q.1≠k/\A0z nx' q.2=true)
  (he:∀q∈env',Abs.look env q.1=some (ren (fun x=>if x=c then k else x) q.2)/\under nx' q.2=true) :
  Sub P G B ⟨env,H,nx,n⟩ ⟨env',B0f t a b c num ord R,nx',n⟩:=by
 have sa:(fun x=>if x=c then k else x) a=a:=if_neg ac
 have sb:(fun x=>if x=c then k else x) b=b:=if_neg bc
 have sc:(fun x=>if x=c then k else x) c=k:=if_pos rfl
 refine B1t (fun x=>if x=c then k else x) rfl (by show B<=nx';omega) (fun x hx=>by show(if x=c then k else x)=x;rw[if_neg (by omega)]) he (fun q hq=>?_) (fun q hq q' hq' e=>?_)
 ·rcases A7m hq with rfl | ⟨hn,rfl⟩ | ⟨hn,rfl⟩ | hq
  ·simp only[A9p,sb,sc]
   rw[if_neg ac]
   exact⟨w.walk,ha,A7g _ _ _ hb hc⟩
  ·simp only[A1l,A0t]
   rw[if_neg bc]
   rcases w.num with h | h
   ·exact absurd h hn
   ·exact⟨h,hb,trivial⟩
  ·simp only[A1l,A0t,if_true]
   rcases w.ord with h | h
   ·exact absurd h hn
   ·exact⟨h,hc,trivial⟩
  ·obtain⟨h1,h2,h3,h4,h5⟩:=hR q hq
   refine⟨?_,h2,h5⟩
   show Abs.look H (if q.1=c then k else q.1)=_
   rw[if_neg h3]
   exact h1
 ·have key:∀q∈B0f t a b c num ord R,(q.1=c/\(fun x=>if x=c then k else x) q.1=k)\/(q.1≠c/\q.1≠k/\(fun x=>if x=c then k else x) q.1=q.1):=by
   intro q hq
   rcases A7m hq with rfl | ⟨_,rfl⟩ | ⟨_,rfl⟩ | hq
   ·exact .inr ⟨ac,w.ac,sa⟩
   ·exact .inr ⟨bc,w.bc,sb⟩
   ·exact .inl ⟨rfl,sc⟩
   ·obtain⟨h1,h2,h3,h4,h5⟩:=hR q hq
    exact .inr ⟨h3,h4,if_neg h3⟩
  rcases key q hq with⟨h1,h2⟩ | ⟨h1,h2,h3⟩<;>rcases key q' hq' with⟨h1',h2'⟩ | ⟨h1',h2',h3'⟩
  ·rw[h1,h1']
  ·rw[if_pos h1,if_neg h1']at e;exact absurd e.symm h2'
  ·rw[if_neg h1,if_pos h1']at e;exact absurd e h2
  ·rw[if_neg h1,if_neg h1']at e;exact e
theorem D8s {P:Program} {f:FuncId} {t:T} {num ord num' ord':List Int} {u:T} {r:T} (h:A5s P G f [.ptr 0 0,.t u] (B0f t 0 1 2 num ord []) 3 (.t r) (B0f t 0 1 3 num' ord' []) 4)
  {a b c NX:Nat} {Hb:Heap} (w:Walk t a b c num ord Hb) (ha:a<NX) (hb:b<NX) (hc:c<NX) :
  A5s P G f [.ptr a 0,.t u] Hb NX (.t r) (B0f t a b NX num' ord' (rem (rem (rem Hb a) b) c)) (NX+1):=by
 let σ:Nat->Nat:=fun x=>if x=0 then a else if x=1 then b else c
 have s0:σ 0=a:=rfl
 have s1:σ 1=b:=rfl
 have s2:σ 2=c:=rfl
 have l0:A4s σ 3 NX 0=a:=rfl
 have l1:A4s σ 3 NX 1=b:=rfl
 have l3:A4s σ 3 NX 3=NX:=rfl
 have cs:∀x,x<3->x=0\/x=1\/x=2:=fun x hx=>by omega
 have ab:=w.ab
 have ac:=w.ac
 have bc:=w.bc
 have:=h.lift σ NX Hb (B0f t a b NX num' ord' (rem (rem (rem Hb a) b) c)) ?_ ?_ (by omega) ?_ rfl rfl ?_ ?_
 ·simpa[renL,ren,s0]using this
 ·intro x hx
  rcases cs x hx with rfl | rfl | rfl
  ·exact ha
  ·exact hb
  ·exact hc
 ·intro x y hx hy e
  rcases cs x hx with rfl | rfl | rfl<;>rcases cs y hy with rfl | rfl | rfl<;>simp only[s0,s1,s2]at e<;>first | rfl | omega
 ·intro q hq
  rcases A7m hq with rfl | ⟨hn,rfl⟩ | ⟨hn,rfl⟩ | hq
  ·simp only[A9p,s0,s1,s2]
   exact⟨w.walk,by omega,A7g _ _ _ (by omega) (by omega)⟩
  ·simp only[A1l,A0t,s1]
   exact⟨w.num.resolve_left hn,by omega,trivial⟩
  ·simp only[A1l,A0t,s2]
   exact⟨w.ord.resolve_left hn,by omega,trivial⟩
  ·cases hq
 ·intro q hq
  rcases A7m hq with rfl | ⟨hn,rfl⟩ | ⟨hn,rfl⟩ | hq
  ·exact⟨by omega,A7g _ _ _ (by omega) (by omega)⟩
  ·exact⟨by omega,A0t _ _ _ _⟩
  ·exact⟨by omega,A0t _ _ _ _⟩
  ·cases hq
 ·intro x y hx
  have w':=Walk.mk' (a:=0) (b:=1) (c:=3) t num' ord' [] (by omega) (by omega) (by omega)
  have hrem:Abs.look (rem (rem (rem Hb a) b) c) x=some y->Abs.look Hb x=some y/\x≠a/\x≠b/\x≠c:=by
   intro h
   rw[A1m]at h
   split at h
   ·cases h
   ·rw[A1m]at h
    split at h
    ·cases h
    ·rw[A1m]at h
     split at h
     ·cases h
     ·exact⟨h,by assumption,by assumption,by assumption⟩
  have hother:Abs.look (rem (rem (rem Hb a) b) c) x=some y->Abs.look Hb x=some y/\∀b0 x0,Abs.look (B0f t 0 1 2 num ord []) b0=some x0->σ b0≠x:=by
   intro h
   obtain⟨h1,h2,h3,h4⟩:=hrem h
   refine⟨h1,fun b0 x0 h0 e=>?_⟩
   rcases A7m (A0p h0)with e' | ⟨_,e'⟩ | ⟨_,e'⟩ | hq
   ·injection e' with e1 _
    rw[e1,s0]at e
    exact h2 e.symm
   ·injection e' with e1 _
    rw[e1,s1]at e
    exact h3 e.symm
   ·injection e' with e1 _
    rw[e1,s2]at e
    exact h4 e.symm
   ·cases hq
  unfold B0f at hx
  rw[look_cons]at hx
  by_cases xa:a=x
  ·rw[if_pos xa]at hx
   injection hx with hx
   subst hx
   exact .inl ⟨0,_,w'.walk,xa.symm.trans l0.symm,by rw[A9p,l1,l3]⟩
  ·rw[if_neg xa]at hx
   have hnum:Abs.look (rowH eInt 3 b num'++(rowH eInt 3 NX ord'++rem (rem (rem Hb a) b) c)) x=some y->(num'≠[]/\x=b/\y=A1g eInt 3 num')\/Abs.look (rowH eInt 3 NX ord'++rem (rem (rem Hb a) b) c) x=some y:=by
    intro h
    cases num' with
    | nil=>exact .inr h
    | cons z r=>
     simp only[rowH,List.cons_append,List.nil_append,look_cons]at h
     by_cases e:b=x
     ·rw[if_pos e]at h
      injection h with h
      exact .inl ⟨by simp,e.symm,h.symm⟩
     ·rw[if_neg e]at h
      exact .inr h
   have hord:Abs.look (rowH eInt 3 NX ord'++rem (rem (rem Hb a) b) c) x=some y->(ord'≠[]/\x=NX/\y=A1g eInt 3 ord')\/Abs.look (rem (rem (rem Hb a) b) c) x=some y:=by
    intro h
    cases ord' with
    | nil=>exact .inr h
    | cons z r=>
     simp only[rowH,List.cons_append,List.nil_append,look_cons]at h
     by_cases e:NX=x
     ·rw[if_pos e]at h
      injection h with h
      exact .inl ⟨by simp,e.symm,h.symm⟩
     ·rw[if_neg e]at h
      exact .inr h
   rcases hnum hx with⟨hn,e1,e2⟩ | hx
   ·exact .inl ⟨1,_,w'.num.resolve_left hn,e1.trans l1.symm,by rw[A1l,e2]⟩
   ·rcases hord hx with⟨hn,e1,e2⟩ | hx
    ·exact .inl ⟨3,_,w'.ord.resolve_left hn,e1.trans l3.symm,by rw[A1l,e2]⟩
    ·exact .inr (hother hx)
end Go.Proofs.Ytbiadmfmjnoecaa
