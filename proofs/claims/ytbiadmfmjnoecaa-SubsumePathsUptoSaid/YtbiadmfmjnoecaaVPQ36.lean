/-
 Auxiliary facts. No statement of the program stands here.
-/
import Derived.Test.YtbiadmfmjnoecaaVPQ32
import Derived.Test.YtbiadmfmjnoecaaVPQ01
import Derived.Test.YtbiadmfmjnoecaaVPQ14
import Derived.Test.YtbiadmfmjnoecaaVPQ12
import Derived.Test.YtbiadmfmjnoecaaVPQ16
import Derived.Test.YtbiadmfmjnoecaaVPQ35
import Derived.Test.YtbiadmfmjnoecaaVPQ29
import Derived.Test.YtbiadmfmjnoecaaVPQ17
namespace Go.Proofs.Ytbiadmfmjnoecaa
set_option linter.unusedSimpArgs false
set_option linter.unusedVariables false
open Go Go.Abs
theorem C6v.symm {h:List Typ×List Ft} {a b:List Nd} (hm:C6v h a b):C6v h b a:=⟨hm.1,⟨hm.2.1.2,hm.2.1.1⟩,hm.2.2.2,hm.2.2.1⟩
section
variable {nt nf : Nat} {ty : List Typ} {a b c : List Nd}
theorem D2q {l:List Nd} {k:Int} (h0:0<=k) (h:k<(l.length:Int)):l[k.toNat]?=some (ndAt l k):=by
 have:k.toNat<l.length:=by omega
 simp[ndAt,List.getElem?_eq_getElem this]
theorem G0b {x:Nd} (hx:∀(i j:Nat) p q,i<j->x.arcs[i]?=some p->x.arcs[j]?=some q->p.feat≠q.feat) {d:Arc} (hd:d∈x.arcs):tgt x d.feat=d.to:=by
 obtain⟨n,h1,h2,h3⟩:=C6p x d.feat
 obtain⟨j,hj,e⟩:=List.getElem_of_mem hd
 have hj':x.arcs[j]?=some d:=by rw[List.getElem?_eq_getElem hj,e]
 rcases h3 with⟨h4,h5,h6⟩ | ⟨q,h4,h5,h6,_⟩
 ·exact absurd rfl (h2 j d (by omega) hj')
 ·rw[h6]
  rcases Nat.lt_trichotomy j n with hlt | heq | hgt
  ·exact absurd rfl (h2 j d hlt hj')
  ·subst heq
   rw[h4]at hj'
   injection hj' with hj'
   rw[hj']
  ·exact absurd h5 (hx n j q d hgt h4 hj')
theorem F6q:morB ty a b=true ↔ ∃m,Mor ty a b m:=by
 unfold morB
 exact @decide_eq_true_iff _ (_)
end
section
variable {K : Type} [DecidableEq K]
def Closed (succ:K->List (Int×K)) (U:List K):Prop:=∀x∈U,∀c∈succ x,c.2∈U
variable {succ : K -> List (Int × K)} {U : List K}
end
section
variable {K K' : Type} [DecidableEq K] [DecidableEq K'] {succ : K -> List (Int × K)} {succ' : K' -> List (Int × K')} {φ : K -> K'} {S : K -> Prop}
end
def A3x (l:List Nd) (i:Nat):List Arc:=(ndAt l (i:Int)).arcs
section
variable {nf : Nat} {ty : List Typ} {jn : Int -> Int -> Int} {a b c : List Nd}
theorem A2j.nd (ha:A2j ty.length nf a) {i:Nat} (hi:i<a.length):ndAt a (i:Int)∈a/\a[i]?=some (ndAt a (i:Int)):=by
 have h:a[i]?=some (ndAt a (i:Int)):=by
  have:=D2q (l:=a) (k:=(i:Int)) (by omega) (by omega)
  rwa[Int.toNat_natCast]at this
 exact⟨List.mem_of_getElem? h,h⟩
theorem A2j.tyr (ha:A2j ty.length nf a) {i:Nat} (hi:i<a.length):0<=(ndAt a (i:Int)).type/\(ndAt a (i:Int)).type<(ty.length:Int):=
 ⟨ha.form.type _ (ha.nd hi).1,ha.type _ (ha.nd hi).1⟩
theorem A2j.tor (ha:A2j ty.length nf a) {i:Nat} (hi:i<a.length) {s:Arc} (hs:s∈A3x a i):0<=s.to/\s.to.toNat<a.length:=by
 have:=ha.form.to _ (ha.nd hi).1 s hs
 omega
theorem G0c {K:Type} {f:K->Nat} {L:List K} {i:Nat} {p:K} (h:L[i]?=some p):nAt (L.map fun q=>(f q:Int)) i=(f p:Int):=F1m (by rw[List.getElem?_map,h];rfl)
end
theorem E3c {α:Type} {C:List α->Prop} (h0:C []) (hs:∀p x,C p->C (p++[x])) (p:List α):C p:=by
 rw[<-List.reverse_reverse p]
 generalize p.reverse=q
 induction q with
 | nil=>exact h0
 | cons x q ih=>
  rw[List.reverse_cons]
  exact hs _ _ ih
def B7k (a:List Nd) (n:Nat) (f:Int):Option Nat:=if 0<=tgt (ndAt a (n:Int)) f then some (tgt (ndAt a (n:Int)) f).toNat else none
def atL (a:List Nd) (p:List Int):Option Nat:=p.foldl (fun o f=>o.bind fun n=>B7k a n f) (some 0)
theorem B4n (a:List Nd) (p:List Int) (f:Int):atL a (p++[f])=(atL a p).bind fun n=>B7k a n f:=by
 unfold atL
 rw[List.foldl_append]
 rfl
def typN (a:List Nd) (n:Nat):Int:=(ndAt a (n:Int)).type
structure C7a (a:List Nd) (F:List (List Int)):Prop where
 len:F.length=a.length
 root:F[0]?=some []
 at_:∀(n:Nat) p,F[n]?=some p->atL a p=some n
def eqsN (F:List (List Int)) (n:Nat) (c:Arc):Option (List Int×List Int):=if F.getD n []++[c.feat]=F.getD c.to.toNat []then none else some (F.getD c.to.toNat [],F.getD n []++[c.feat])
def A5n (a:List Nd) (F:List (List Int)):List (List Int×List Int):=(List.range a.length).flatMap fun n=>(A3x a n).filterMap (eqsN F n)
def okN (ty:List Typ) (a b:List Nd) (F:List (List Int)) (n:Nat):Bool:=match atL b (F.getD n [])with
 | some m=>hsub ty (typN a n) (typN b m)
 | none=>false
def okS (b:List Nd) (x:List Int×List Int):Bool:=match atL b x.1,atL b x.2 with
 | some m,some n=>decide (m=n)
 | _,_=>false
def B7l (ty:List Typ) (a b:List Nd) (F:List (List Int)):Bool:=(List.range a.length).all (okN ty a b F)&&(A5n a F).all (okS b)
section
variable {nf : Nat} {ty : List Typ} {jn : Int -> Int -> Int} {a b c : List Nd}
theorem C1e {F:List (List Int)} {x:List Int×List Int}:x∈A5n a F ↔ ∃n,n<a.length/\∃c∈A3x a n,F.getD n []++[c.feat]≠F.getD c.to.toNat []/\x=(F.getD c.to.toNat [],F.getD n []++[c.feat]):=by
 unfold A5n
 simp only[List.mem_flatMap,List.mem_range,List.mem_filterMap]
 constructor
 ·rintro⟨n,hn,c,hc,h⟩
  unfold eqsN at h
  split at h
  ·cases h
  ·rename_i hne
   injection h with h
   exact⟨n,hn,c,hc,hne,h.symm⟩
 ·rintro⟨n,hn,c,hc,hne,rfl⟩
  refine⟨n,hn,c,hc,?_⟩
  unfold eqsN
  rw[if_neg hne]
theorem C7a.get {F:List (List Int)} (h:C7a a F) {n:Nat} (hn:n<a.length):atL a (F.getD n [])=some n:=by
 have hl:n<F.length:=by rw[h.len];exact hn
 rw[List.getD_eq_getElem?_getD,List.getElem?_eq_getElem hl]
 exact h.at_ n _ (List.getElem?_eq_getElem hl)
theorem A2j.stp (ha:A2j ty.length nf a) {n m:Nat} {f:Int} (hn:n<a.length) (h:B7k a n f=some m):m<a.length/\∃s∈A3x a n,s.feat=f/\s.to=(m:Int):=by
 unfold B7k at h
 split at h
 ·rename_i h0
  injection h with h
  obtain⟨k,_,_,hk⟩:=C6p (ndAt a (n:Int)) f
  rcases hk with⟨_,h1,_⟩ | ⟨q,h1,h2,h3,_⟩
  ·omega
  ·have hq:q∈A3x a n:=List.mem_of_getElem? h1
   have:=ha.tor hn hq
   refine⟨by omega,q,hq,h2,by omega⟩
 ·cases h
theorem A2j.stp' (ha:A2j ty.length nf a) {n:Nat} (hn:n<a.length) {s:Arc} (hs:s∈A3x a n):B7k a n s.feat=some s.to.toNat:=by
 have h1:=G0b (ha.form.apart _ (ha.nd hn).1) hs
 have:=ha.tor hn hs
 unfold B7k
 rw[h1,if_pos this.1]
theorem A2j.at_lt (ha:A2j ty.length nf a):∀(p:List Int) {n:Nat},atL a p=some n->n<a.length:=by
 refine E3c (fun h=>?_) fun p f ih n h=>?_
 ·injection h with h
  rw[<-h]
  exact ha.form.pos
 ·rw[B4n]at h
  obtain⟨m,h1,h2⟩:=Option.bind_eq_some_iff.1 h
  exact(ha.stp (ih h1) h2).1
theorem F2t {m:List Int} (ha:A2j ty.length nf a) (hm:Mor ty a b m):∀(p:List Int) {n:Nat},atL a p=some n->atL b p=some (nAt m n).toNat:=by
 refine E3c (fun h=>?_) fun p f ih n h=>?_
 ·injection h with h
  rw[<-h,hm.root]
  rfl
 ·rw[B4n]at h ⊢
  obtain⟨k,h1,h2⟩:=Option.bind_eq_some_iff.1 h
  have hk:=ha.at_lt p h1
  rw[ih h1,Option.bind_some]
  obtain⟨hn,s,hs,e1,e2⟩:=ha.stp hk h2
  have h3:=hm.arc k _ (ha.nd hk).2 s hs
  have r1:=hm.rng k hk
  have r2:=hm.rng n hn
  have e3:(((nAt m k).toNat:Nat):Int)=nAt m k:=by omega
  have e4:s.to.toNat=n:=by omega
  unfold B7k
  rw[e3,<-e1,h3,e4,if_pos r2.1]
theorem E6w {F:List (List Int)} (ha:A2j ty.length nf a) (hb:A2j ty.length nf b) (hF:C7a a F):B7l ty a b F=morB ty a b:=by
 rw[Bool.eq_iff_iff,F6q]
 constructor
 ·intro h
  unfold B7l at h
  rw[Bool.and_eq_true,List.all_eq_true,List.all_eq_true]at h
  obtain⟨h1,h2⟩:=h
  have hk:∀n,n<a.length->∃k,atL b (F.getD n [])=some k/\hsub ty (typN a n) (typN b k)=true:=fun n hn=>by
   have:=h1 n (List.mem_range.2 hn)
   unfold okN at this
   split at this
   ·rename_i m e
    exact⟨m,e,this⟩
   ·cases this
  obtain⟨q,hq⟩:∃q:Nat->Nat,q=fun n=>(atL b (F.getD n [])).getD 0:=⟨_,rfl⟩
  have hq1:∀n,n<a.length->atL b (F.getD n [])=some (q n):=fun n hn=>by
   obtain⟨k,e,_⟩:=hk n hn
   simp only[hq,e,Option.getD_some]
  have hq2:∀n,n<a.length->nAt ((List.range a.length).map fun n=>(q n:Int)) n=(q n:Int):=fun n hn=>G0c (f:=q) (List.getElem?_range hn)
  refine⟨(List.range a.length).map fun n=>(q n:Int),by simp,?_,fun n hn=>?_,fun n x hx=>?_,fun n x hx s hs=>?_⟩
  ·rw[hq2 0 ha.form.pos]
   have h0:=hq1 0 ha.form.pos
   rw[List.getD_eq_getElem?_getD,hF.root]at h0
   injection h0 with h0
   rw[<-h0]
   rfl
  ·rw[hq2 n hn]
   have:=hb.at_lt _ (hq1 n hn)
   omega
  ·have hn:=(List.getElem?_eq_some_iff.1 hx).1
   obtain⟨k,e,ht⟩:=hk n hn
   rw[hq1 n hn]at e
   injection e with e
   rw[hq2 n hn]
   have hx':ndAt a (n:Int)=x:=B3l hx
   unfold typN at ht
   rw[hx',<-e]at ht
   exact ht
  ·have hn:=(List.getElem?_eq_some_iff.1 hx).1
   have hs':s∈A3x a n:=by unfold A3x;rw[B3l hx];exact hs
   have ht:=(ha.tor hn hs').2
   have hb1:=hb.at_lt _ (hq1 n hn)
   rw[hq2 n hn,hq2 _ ht]
   have key:atL b (F.getD n []++[s.feat])=some (q s.to.toNat):=by
    by_cases e:F.getD n []++[s.feat]=F.getD s.to.toNat []
    ·rw[e]
     exact hq1 _ ht
    ·have:=h2 _ (C1e.2 ⟨n,hn,s,hs',e,rfl⟩)
     unfold okS at this
     simp only[hq1 _ ht]at this
     split at this
     ·rename_i m k e1 e2
      injection e1 with e1
      rw[decide_eq_true_eq]at this
      rw[e2,<-this,e1]
     ·cases this
   rw[B4n,hq1 n hn,Option.bind_some]at key
   unfold B7k at key
   split at key
   ·injection key with key
    omega
   ·cases key
 ·rintro⟨m,hm⟩
  unfold B7l
  rw[Bool.and_eq_true,List.all_eq_true,List.all_eq_true]
  refine⟨fun n hn=>?_,fun x hx=>?_⟩
  ·have hn:=List.mem_range.1 hn
   unfold okN
   rw[F2t ha hm _ (hF.get hn)]
   have h1:=hm.type n _ (ha.nd hn).2
   have:=hm.rng n hn
   have e:(((nAt m n).toNat:Nat):Int)=nAt m n:=by omega
   rw[<-e]at h1
   exact h1
  ·obtain⟨n,hn,s,hs,_,rfl⟩:=C1e.1 hx
   have ht:=(ha.tor hn hs).2
   have h1:=F2t ha hm _ (hF.get ht)
   have h2:atL a (F.getD n []++[s.feat])=some s.to.toNat:=by
    rw[B4n,hF.get hn,Option.bind_some]
    exact ha.stp' hn hs
   unfold okS
   rw[h1,F2t ha hm _ h2]
   simp
end
end Go.Proofs.Ytbiadmfmjnoecaa
namespace Go.Abs
set_option linter.unusedSimpArgs false
set_option linter.unusedVariables false
open Go
section
variable {P : Program} {G : A1c}
end
noncomputable def hOne (ps0:List PV) (H0:Heap) (nx0:Nat) (out:PV×Heap×Nat) (ps:List PV) (H:Heap) (nx:Nat):Option (PV×Heap×Nat):=
 open Classical in if ps = ps0 /\ H = H0 /\ nx = nx0 then some out else none
theorem hOne_eq (ps:List PV) (H:Heap) (nx:Nat) (out:PV×Heap×Nat):hOne ps H nx out ps H nx=some out:=by
 unfold hOne
 rw[if_pos ⟨rfl,rfl,rfl⟩]
theorem hOne_ok {P:Program} {G:A1c} {f:FuncId} {ps:List PV} {H:Heap} {nx:Nat} {r:PV} {H':Heap} {nx':Nat} (h:A7h P G f ps H nx r H' nx') (hf:(∀b x,look H b=some x->b<nx)->∀b x,look H' b=some x->b<nx'):HOK P G f (hOne ps H nx (r,H',nx')) where
 call:=fun ps1 H1 nx1 r1 H1' nx1' h1=>by
  unfold hOne at h1
  split at h1
  ·rename_i hc
   obtain⟨rfl,rfl,rfl⟩:=hc
   injection h1 with h1
   injection h1 with h1 h2
   injection h2 with h2 h3
   subst h1;subst h2;subst h3
   exact h
  ·cases h1
 fresh:=fun ps1 H1 nx1 r1 H1' nx1' h1=>by
  unfold hOne at h1
  split at h1
  ·rename_i hc
   obtain⟨rfl,rfl,rfl⟩:=hc
   injection h1 with h1
   injection h1 with h1 h2
   injection h2 with h2 h3
   subst h1;subst h2;subst h3
   exact hf
  ·cases h1
section
variable {α : Type} {P : Program} {G : A1c} {B : Nat}
theorem sub_rowR {e:Enc α} {ty b k nx nx' n:Nat} {l:List α} {env env':List (Nat×PV)} {H R:Heap} (h:A0j e ty H k l) (hb:b<nx') (hB:B<=b)
  (hR:∀q∈R,look H q.1=some (A2k (fun x=>if x=b then k else x) q.2)/\q.1<nx'/\q.1≠b/\q.1≠k/\A1b nx' q.2=true)
  (he:∀q∈env',look env q.1=some (ren (fun x=>if x=b then k else x) q.2)/\under nx' q.2=true) :
  Sub P G B ⟨env,H,nx,n⟩ ⟨env',R++rowH e ty b l,nx',n⟩:=by
 refine B6c (fun x=>if x=b then k else x) rfl (by show B<=nx';omega) (fun x hx=>by show(if x=b then k else x)=x;rw[if_neg (by omega)]) he (fun q hq=>?_) (fun q hq q' hq' eqn=>?_)
 ·rcases List.mem_append.1 hq with hq | hq
  ·obtain⟨h1,h2,h3,h4,h5⟩:=hR q hq
   refine⟨?_,h2,h5⟩
   show look H (if q.1=b then k else q.1)=_
   rw[if_neg h3]
   exact h1
  ·obtain⟨hn,rfl⟩:=A1i hq
   simp only[if_true,A1s,A0x]
   exact⟨h.resolve_left hn,hb,trivial⟩
 ·have key:∀q∈R++rowH e ty b l,q.1=b\/(q.1≠b/\q.1≠k):=by
   intro q hq
   rcases List.mem_append.1 hq with hq | hq
   ·obtain⟨h1,h2,h3,h4,h5⟩:=hR q hq
    exact .inr ⟨h3,h4⟩
   ·obtain⟨hn,rfl⟩:=A1i hq
    exact .inl rfl
  have e:(if q.1=b then k else q.1)=(if q'.1=b then k else q'.1):=eqn
  rcases key q hq with h1 | ⟨h1,h2⟩<;>rcases key q' hq' with h1' | ⟨h1',h2'⟩
  ·rw[h1,h1']
  ·rw[if_pos h1,if_neg h1']at e;exact absurd e.symm h2'
  ·rw[if_neg h1,if_pos h1']at e;exact absurd e h2
  ·rw[if_neg h1,if_neg h1']at e;exact e
end
end Go.Abs
namespace Go.Proofs.Ytbiadmfmjnoecaa
set_option linter.unusedSimpArgs false
set_option linter.unusedVariables false
open Go Go.Abs
def S85 (x:Nd) (f:Int) (j:Nat):A0b:=⟨[(17,.t (iv (j:Int))),(16,.t (iv (x.arcs.length:Int))),(15,.t x.tree),(2,.t (iv f))],[],1,28⟩
theorem E6x {t:T} {l:List Nd} (ht:IsS eNd t l) {n:Nat} {x:Nd} (hn:l[n]?=some x) (hx:x.arcs.length<=1000000) (f:Int):A0y Try.prog G 85 [.ag [t],iv (n:Int),iv f] (· = B3m x f):=by
 have cp:A0s (.t (.ag [t]))=some [.t t]:=rfl
 have ix:=A9o ht hn
 refine D9y.call rfl ?_
 unfold C6z
 refine A0a ctx0 ?_
 simp -implicitDefEqProofs [cp]
 clear hn
 obtain⟨n,hle,h0,hn⟩:=C6p x f
 refine A0q (fun _:Unit=>S85 x f x.arcs.length) (fun _=>B3m x f = .tu [iv 0,bv false]) (fun _=>rfl) ?_ ?_
 ·refine A0a ctx0 ?_
  simp -implicitDefEqProofs [A0h,ix,x.ok.len]
  refine A0g ?_
  refine A1a (S85 x f) n (fun _=>rfl) ?_ rfl ?_ ?_
  ·refine C6j (by omega) (fun q hq=>by cases hq) (by simp -implicitDefEqProofs [S85,under])
  ·intro j hj
   have hjl:j<x.arcs.length:=by omega
   obtain⟨a,ha⟩:∃a,x.arcs[j]?=some a:=⟨_,List.getElem?_eq_getElem hjl⟩
   have ia:=A4d x.ok ha
   have ca:A0s (.t (.ag [iv a.feat,iv a.to]))=some [.t (iv a.feat),.t (iv a.to)]:=rfl
   have e1:IntKind.i64.wrap ((j:Int)+1)=((j+1:Nat):Int):=A0k (by omega) (by omega)
   have hf:=h0 j a hj ha
   refine A0c ctx0 ?_
   simp -implicitDefEqProofs [S85,hjl,ia,A0h,A1e,ca,A1t,hf,e1]
   exact C6j (by omega) (fun q hq=>by cases hq) (by simp -implicitDefEqProofs [under])
  ·refine A0c ctx0 ?_
   rcases hn with⟨e,_,h1⟩ | ⟨a,ha,hf,_,h1⟩
   ·have hnl:¬n<x.arcs.length:=by omega
    simp -implicitDefEqProofs [S85,hnl]
    exact Next.mk () (by simp only[B3m,h1]) (A0d rfl rfl (by simp -implicitDefEqProofs [e]) (by simp -implicitDefEqProofs))
   ·have hjl:n<x.arcs.length:=(List.getElem?_eq_some_iff.1 ha).1
    have ia:=A4d x.ok ha
    rw[hf]at ia
    have ca:A0s (.t (.ag [iv f,iv a.to]))=some [.t (iv f),.t (iv a.to)]:=rfl
    have hr:B3m x f = .tu [iv a.to,bv true]:=by simp only[B3m,h1]
    simp -implicitDefEqProofs [S85,hjl,ia,A0h,A1e,ca,A1t,hr]
 ·rintro _ hr
  refine A0c ctx0 ?_
  simp -implicitDefEqProofs [S85,hr]
theorem F6r:GOK Try.prog G 85 F1q:=D4e fun a b c l n f r ha hb hc hr=>by
 obtain⟨u,rfl,hu⟩:=ha
 obtain rfl:b=iv n:=hb
 obtain rfl:c=iv f:=hc
 split at hr
 ·rename_i x hx
  split at hr
  ·rename_i h
   injection hr with hr
   subst hr
   have e:n=(n.toNat:Int):=by omega
   have:=E6x hu hx h.2 f
   rw[<-e]at this
   exact this
  ·cases hr
 ·cases hr
def A3p (a:List Nd):Prop:=A3a a/\∃(ty:List Typ) (nf:Nat),A2j ty.length nf a
def atT (a:List Nd) (p:List Int):T:=match atL a p with
 | some n=>.tu [iv (n:Int),bv true]
 | none=>.tu [iv 0,bv false]
def C1f (a:List Nd) (p:List Int):T:=match atL a p with
 | some n=>.tu [iv (typN a n),bv true]
 | none=>.tu [iv 0,bv false]
theorem F6s {a:List Nd} {p:List Int} {i:Nat} (h:atL a (p.take i)=none):atL a p=none:=by
 have:∀q:List Int,q.foldl (fun o f=>o.bind fun n=>B7k a n f) none=none:=by
  intro q
  induction q with
  | nil=>rfl
  | cons x q ih=>exact ih
 rw[<-List.take_append_drop i p]
 unfold atL at h ⊢
 rw[List.foldl_append,h]
 exact this _
theorem F6t {a:List Nd} {p:List Int} {i:Nat} {f:Int} (h:p[i]?=some f):atL a (p.take (i+1))=(atL a (p.take i)).bind fun n=>B7k a n f:=by
 rw[List.take_add_one,h]
 exact B4n a _ f
theorem A3p.stp {a:List Nd} (h:A3p a) {n:Nat} (hn:n<a.length) (f:Int):(B7k a n f=none/\B3m (ndAt a (n:Int)) f = .tu [iv 0,bv false])\/∃m,B7k a n f=some m/\m<a.length/\B3m (ndAt a (n:Int)) f = .tu [iv (m:Int),bv true]:=by
 obtain⟨_,ty,nf,hv⟩:=h
 rcases D6c hv (hv.nd hn).1 f with⟨h1,h2⟩ | ⟨h1,h2⟩
 ·exact .inl ⟨by unfold B7k;rw[if_neg (by omega)],h2⟩
 ·have e:B7k a n f=some (tgt (ndAt a (n:Int)) f).toNat:=by unfold B7k;rw[if_pos h1]
  refine .inr ⟨_,e,(hv.stp hn e).1,?_⟩
  rw[h2,Int.toNat_of_nonneg h1]
theorem A3p.nd {a:List Nd} (h:A3p a) {n:Nat} (hn:n<a.length):a[n]?=some (ndAt a (n:Int))/\(ndAt a (n:Int)).arcs.length<=1000000:=by
 obtain⟨hs,ty,nf,hv⟩:=h
 exact⟨(hv.nd hn).2,hs.arcs _ (hv.nd hn).1⟩
theorem A3p.at_lt {a:List Nd} (h:A3p a) {p:List Int} {n:Nat} (e:atL a p=some n):n<a.length:=by
 obtain⟨hs,ty,nf,hv⟩:=h
 exact hv.at_lt p e
noncomputable def tx26:Tbl:=[(85,F1q)]
theorem cx26:Ctx Try.prog G (orc tx26):=(A1q.cons F6r .nil).ctx A1w
def S59 (t tp:T) (p:List Int) (q:Nat×Nat):A0b:=⟨[(13,.t (iv (q.1:Int))),(12,.t (iv (p.length:Int))),(11,.t tp),(6,.t (iv (q.2:Int))),(2,.ptr 0 0)],[(0,.cells 25 [.t t])],1,29⟩
theorem F6u {t tp:T} {a:List Nd} {p:List Int} (ht:IsS eNd t a) (hp:IsS eInt tp p) (h:A3p a) (hl:p.length<=1000000):A0y Try.prog G 59 [.ag [t],tp] (· = atT a p):=by
 have cp:A0s (.t (.ag [t]))=some [.t t]:=rfl
 have ag:agOf [.t t] = .t (.ag [t]):=rfl
 have hpos:0<a.length:=by obtain⟨_,ty,nf,hv⟩:=h;exact hv.form.pos
 refine F2s.call rfl ?_
 unfold D6q
 refine A0a cx26 ?_
 simp -implicitDefEqProofs [cp]
 refine A0a cx26 ?_
 simp -implicitDefEqProofs
 refine A0q (fun n:Nat=>S59 t tp p (p.length,n)) (fun n=>atL a p=some n) (fun _=>rfl) ?_ ?_
 ·refine A0a cx26 ?_
  simp -implicitDefEqProofs [hp.len]
  refine A0g ?_
  refine A1r (S59 t tp p) (fun q=>p.length-q.1) (fun q=>q.1<=p.length/\atL a (p.take q.1)=some q.2) (0,0) (fun _=>rfl) ⟨by simp,rfl⟩ ?_ rfl ?_
  ·refine A0d rfl rfl ?_ ?_<;>simp -implicitDefEqProofs [S59]
  rintro⟨i,n⟩ ⟨hi,hn⟩
  simp only at hi hn
  have hnl:=h.at_lt hn
  by_cases hil:i<p.length
  ·obtain⟨f,hf⟩:∃f,p[i]?=some f:=⟨_,List.getElem?_eq_getElem hil⟩
   have ix:=hp.iaddr hf .i64
   have ix:A1k 1 (.t tp) (.t (iv (i:Int)))=some (.t (.pt (iv f::rest eInt p i))):=ix
   obtain⟨hx1,hx2⟩:=h.nd hnl
   have gs:=E2o ht hx1 hx2 f
   have e1:IntKind.i64.wrap ((i:Int)+1)=((i+1:Nat):Int):=A0k (by omega) (by omega)
   have e2:=F6t (a:=a) hf
   rw[hn,Option.bind_some]at e2
   rcases h.stp hnl f with⟨e3,e4⟩ | ⟨m,e3,e5,e4⟩
   ·rw[e3]at e2
    rw[e4]at gs
    have hr:atT a p = .tu [iv 0,bv false]:=by unfold atT;rw[F6s e2]
    refine A0c cx26 ?_
    simp -implicitDefEqProofs [S59,hil,ix,A0h,ag,tx26,gs,extractV,hr]
   ·rw[e3]at e2
    rw[e4]at gs
    refine A0c cx26 ?_
    simp -implicitDefEqProofs [S59,hil,ix,A0h,ag,tx26,gs,extractV,e1]
    exact Next.mk (i+1,m) ⟨⟨hil,e2⟩,by simp only;omega⟩ (A0d rfl rfl (by simp -implicitDefEqProofs [S59]) (by simp -implicitDefEqProofs [S59]))
  ·have e:i=p.length:=by omega
   subst e
   rw[List.take_length]at hn
   refine A0c cx26 ?_
   simp -implicitDefEqProofs [S59]
   exact Next.mk n hn (A0d rfl rfl (by simp -implicitDefEqProofs [S59]) (by simp -implicitDefEqProofs [S59]))
 ·rintro n hn
  have hr:atT a p = .tu [iv (n:Int),bv true]:=by unfold atT;rw[hn]
  refine A0c cx26 ?_
  simp -implicitDefEqProofs [S59,hr]
noncomputable def gPAt:List T->Option T:=g2 tFS (tSl eInt) fun a p=>open Classical in if A3p a/\p.length<=1000000 then some (atT a p)else none
theorem F2u:GOK Try.prog G 59 gPAt:=A5x fun a b x y r ha hb hr=>by
 obtain⟨u,rfl,hu⟩:=ha
 split at hr
 ·rename_i h;injection hr with hr;subst hr;exact F6u hu hb h.1 h.2
 ·cases hr
theorem C7b {t tp:T} {a:List Nd} {p:List Int} (ht:IsS eNd t a) (hp:IsS eInt tp p) (h:A3p a) (hl:p.length<=1000000):gPAt [.ag [t],tp]=some (atT a p):=
 (A4z (τ:=tFS) (σ:=tSl eInt) ⟨t,rfl,ht⟩ hp).trans (if_pos ⟨h,hl⟩)
noncomputable def G0d:Tbl:=[(59,gPAt)]
theorem cx26b:Ctx Try.prog G (orc G0d):=(A1q.cons F2u .nil).ctx A1w
theorem E6y {t tp:T} {a:List Nd} {p:List Int} (ht:IsS eNd t a) (hp:IsS eInt tp p) (h:A3p a) (hl:p.length<=1000000):A0y Try.prog G 42 [.ag [t],tp] (· = C1f a p):=by
 have cp:A0s (.t (.ag [t]))=some [.t t]:=rfl
 have ag:agOf [.t t] = .t (.ag [t]):=rfl
 have ga:=C7b ht hp h hl
 refine D9x.runs cx26b rfl ?_
 unfold C6y
 cases hn:atL a p with
 | none=>
  have e1:atT a p = .tu [iv 0,bv false]:=by unfold atT;rw[hn]
  have e2:C1f a p = .tu [iv 0,bv false]:=by unfold C1f;rw[hn]
  rw[e1]at ga
  simp -implicitDefEqProofs [cp,A0h,ag,G0d,ga,extractV,e2]
 | some n=>
  have e1:atT a p = .tu [iv (n:Int),bv true]:=by unfold atT;rw[hn]
  have e2:C1f a p = .tu [iv (typN a n),bv true]:=by unfold C1f;rw[hn]
  rw[e1]at ga
  have ix:=A9o ht (h.nd (h.at_lt hn)).1
  have e3:(ndAt a (n:Int)).type=typN a n:=rfl
  simp -implicitDefEqProofs [cp,A0h,ag,G0d,ga,extractV,ix,e2,e3]
noncomputable def F2v:List T->Option T:=g2 tFS (tSl eInt) fun a p=>open Classical in if A3p a/\p.length<=1000000 then some (C1f a p)else none
theorem F2w:GOK Try.prog G 42 F2v:=A5x fun a b x y r ha hb hr=>by
 obtain⟨u,rfl,hu⟩:=ha
 split at hr
 ·rename_i h;injection hr with hr;subst hr;exact E6y hu hb h.1 h.2
 ·cases hr
theorem D6s {t tp:T} {a:List Nd} {p:List Int} (ht:IsS eNd t a) (hp:IsS eInt tp p) (h:A3p a) (hl:p.length<=1000000):F2v [.ag [t],tp]=some (C1f a p):=
 (A4z (τ:=tFS) (σ:=tSl eInt) ⟨t,rfl,ht⟩ hp).trans (if_pos ⟨h,hl⟩)
def S74 (tp tq:T) (n i:Nat):A0b:=⟨[(13,.t (iv (i:Int))),(12,.t (iv (n:Int))),(1,.t tq),(0,.t tp)],[],0,26⟩
def B3s (p q:List Int):Bool:=decide (p=q)
theorem D9z {tp tq:T} {p q:List Int} (hp:IsS eInt tp p) (hq:IsS eInt tq q) (hl:p.length<=1000000):A0y Try.prog G 74 [tp,tq] (· = bv (B3s p q)):=by
 refine C8c.call rfl ?_
 unfold B5v
 refine A0a ctx0 ?_
 simp -implicitDefEqProofs
 by_cases hlen:p.length=q.length
 ·have hlz:¬((p.length:Int)≠(q.length:Int)):=by omega
  have hb:((p.length:Int) !=(q.length:Int))=false:=by simp[hlen]
  refine A0a ctx0 ?_
  simp -implicitDefEqProofs [hp.len,hq.len,hb]
  have hcase:=first_bad (fun i=>decide (p[i]?=q[i]?)) p.length
  obtain⟨n,hle,h0,hn⟩:∃n,n<=p.length/\(∀i,i<n->p[i]?=q[i]?)/\((n=p.length/\p=q)\/(n<p.length/\p[n]?≠q[n]?)):=by
   rcases hcase with h | ⟨k,hk,h1,h2⟩
   ·refine⟨p.length,by omega,fun i hi=>by simpa using h i hi,.inl ⟨rfl,List.ext_getElem? fun i=>?_⟩⟩
    by_cases hi:i<p.length
    ·simpa using h i hi
    ·rw[List.getElem?_eq_none (by omega),List.getElem?_eq_none (by omega)]
   ·exact⟨k,by omega,fun i hi=>by simpa using h1 i hi,.inr ⟨hk,by simpa using h2⟩⟩
  refine A0q (fun _:Unit=>S74 tp tq p.length p.length) (fun _=>p=q) (fun _=>rfl) ?_ ?_
  ·refine A0a ctx0 ?_
   simp -implicitDefEqProofs [hp.len]
   refine A0g ?_
   refine A1a (S74 tp tq p.length) n (fun _=>rfl) ?_ rfl ?_ ?_
   ·refine A0d rfl rfl ?_ ?_<;>simp -implicitDefEqProofs [S74]
   ·intro j hj
    have hjl:j<p.length:=by omega
    obtain⟨f,hf⟩:∃f,p[j]?=some f:=⟨_,List.getElem?_eq_getElem hjl⟩
    have hf':q[j]?=some f:=(h0 j hj)▸hf
    have ix:A1k 1 (.t tp) (.t (iv (j:Int)))=some (.t (.pt (iv f::rest eInt p j))):=hp.iaddr hf .i64
    have iy:A1k 1 (.t tq) (.t (iv (j:Int)))=some (.t (.pt (iv f::rest eInt q j))):=hq.iaddr hf' .i64
    have e1:IntKind.i64.wrap ((j:Int)+1)=((j+1:Nat):Int):=A0k (by omega) (by omega)
    refine A0c ctx0 ?_
    simp -implicitDefEqProofs [S74,hjl,ix,iy,A0h,e1]
    refine A0d rfl rfl ?_ ?_<;>simp -implicitDefEqProofs
   ·refine A0c ctx0 ?_
    rcases hn with⟨e,h1⟩ | ⟨hjl,hne⟩
    ·have hnl:¬n<p.length:=by omega
     simp -implicitDefEqProofs [S74,hnl]
     exact Next.mk () h1 (A0d rfl rfl (by simp -implicitDefEqProofs [e]) (by simp -implicitDefEqProofs))
    ·obtain⟨f,hf⟩:∃f,p[n]?=some f:=⟨_,List.getElem?_eq_getElem hjl⟩
     obtain⟨g,hg⟩:∃g,q[n]?=some g:=⟨_,List.getElem?_eq_getElem (by omega)⟩
     have hfg:(f != g)=true:=by
      rw[bne_iff_ne]
      intro e
      exact hne (by rw[hf,hg,e])
     have ix:A1k 1 (.t tp) (.t (iv (n:Int)))=some (.t (.pt (iv f::rest eInt p n))):=hp.iaddr hf .i64
     have iy:A1k 1 (.t tq) (.t (iv (n:Int)))=some (.t (.pt (iv g::rest eInt q n))):=hq.iaddr hg .i64
     have hr:B3s p q=false:=by
      unfold B3s
      rw[decide_eq_false_iff_not]
      intro e
      exact hne (by rw[e])
     simp -implicitDefEqProofs [S74,hjl,ix,iy,A0h,hfg,hr]
  ·rintro _ e
   have hr:B3s p q=true:=by unfold B3s;rw[decide_eq_true e]
   refine A0c ctx0 ?_
   simp -implicitDefEqProofs [S74,hr]
 ·have hb:((p.length:Int) !=(q.length:Int))=true:=by
   rw[bne_iff_ne]
   omega
  have hr:B3s p q=false:=by
   unfold B3s
   rw[decide_eq_false_iff_not]
   intro e
   exact hlen (by rw[e])
  refine A0a ctx0 ?_
  simp -implicitDefEqProofs [hp.len,hq.len,hb,hr]
noncomputable def gEqI:List T->Option T:=g2 (tSl eInt) (tSl eInt) fun p q=>if p.length<=1000000 then some (bv (B3s p q))else none
theorem G0e:GOK Try.prog G 74 gEqI:=A5x fun a b x y r ha hb hr=>by
 split at hr
 ·rename_i h;injection hr with hr;subst hr;exact D9z ha hb h
 ·cases hr
theorem G0f {tp tq:T} {p q:List Int} (hp:IsS eInt tp p) (hq:IsS eInt tq q) (hl:p.length<=1000000):gEqI [tp,tq]=some (bv (B3s p q)):=
 (A4z (τ:=tSl eInt) (σ:=tSl eInt) hp hq).trans (if_pos hl)
theorem E0a {tp:T} {p:List Int} (hp:IsS eInt tp p) (hl:p.length<=1000000) (hnil:p=[]->tp=nilS):A7h Try.prog G 73 [.t tp] [] 0 (rowP eInt 0 p) (rowH eInt 3 0 p) 1:=by
 refine C8b.callP rfl ?_
 unfold B5u
 cases p with
 | nil=>
  obtain rfl:=hnil rfl
  refine A0c ctx0 ?_
  simp -implicitDefEqProofs
  exact⟨.inr rfl,⟨[(2,.t nilS)],[],1,8⟩,[.t nilS],B8f (by omega) (by simp -implicitDefEqProofs [under]),rfl,rfl,rfl,rfl⟩
 | cons y r=>
  rcases hp with⟨rfl,e⟩ | rfl
  ·cases e
  have hs:srcP [(0,.cells 3 [])] 1 (.t (slT eInt (y::r)))=some ((y::r).length,((y::r).flatMap eInt.enc).map .t):=A5a (IsS.mk (e:=eInt) (y::r))
  have ap:appM 3 1 8 [(0,.cells 3 [])] 1 (.row 0 0 0 1) (.t (slT eInt (y::r)))=some (rowP eInt 1 (y::r),rowH eInt 3 1 (y::r),2):=by
   have h1:(y::r).length*8<=140737488355328/\(y::r).length<=9223372036854775807:=by constructor<;>omega
   simp only[appM,hs,look_cons,if_true,List.length_nil,Nat.zero_mul,true_and,Nat.zero_add,if_pos h1,List.nil_append,rem]
   rfl
  have hsl:slT eInt (y::r) = .sl (y::r).length ((y::r).flatMap eInt.enc):=rfl
  rw[hsl]at ap ⊢
  generalize (y::r).length=n at *
  generalize (y::r).flatMap eInt.enc=cs at *
  have bs:A1l 3 1 [.int .i64 0] 0 [] 0=some (.row 0 0 0 1,.cells 3 []):=rfl
  refine A0a ctx0 ?_
  simp -implicitDefEqProofs
  refine A0a ctx0 ?_
  simp -implicitDefEqProofs
  refine A0c ctx0 ?_
  simp -implicitDefEqProofs [bs,ap]
  exact⟨.inr rfl,⟨[(2,rowP eInt 0 (y::r))],rowH eInt 3 0 (y::r),1,8⟩,[rowP eInt 0 (y::r)],A0i (k:=1) (A0j.head' _ _ _ _) (by omega) (by omega) (by simp -implicitDefEqProofs [A0f,A0e,ren,under]),rfl,rfl,rfl,rfl⟩
theorem E0b {α:Type} (e:Enc α) (ty:Nat) (l:List α):∀q∈rowH e ty 0 l,q.1<1/\A1b 1 q.2=true:=by
 intro q hq
 obtain⟨_,rfl⟩:=A1i hq
 exact⟨by omega,A0x _ _ _ _⟩
theorem E6z {tp:T} {p:List Int} (hp:IsS eInt tp p) (hl:p.length<=1000000) (hnil:p=[]->tp=nilS) (H:Heap) (nx:Nat):A7h Try.prog G 73 [.t tp] H nx (rowP eInt nx p) (rowH eInt 3 nx p++H) (nx+1):=by
 have h:=(E0a hp hl hnil).lift id nx H (rowH eInt 3 nx p++H) (fun b hb=>by omega) (fun b c hb _ _=>by omega) (by omega) (fun q hq=>by simp at hq) rfl (A0e _ _ _ _ (by omega)) (E0b eInt _ _) ?_
 ·rw[A0f]at h
  have e:A5q id 0 nx 0=nx:=by simp[A5q]
  rw[e]at h
  exact h
 ·intro b x hb
  cases hs:p with
  | nil=>
   rw[hs]at hb
   right
   exact⟨hb,fun b0 x0 h0=>by simp[Abs.look]at h0⟩
  | cons y r=>
   rw[hs]at hb
   simp only[rowH,List.cons_append,List.nil_append,look_cons]at hb
   by_cases e:nx=b
   ·rw[if_pos e]at hb
    injection hb with hb
    subst hb
    left
    refine⟨0,A1m eInt 3 (y::r),by simp[rowH,A1m],by simp[A5q,e],?_⟩
    rw[A1s]
    rfl
   ·rw[if_neg e]at hb
    right
    exact⟨hb,fun b0 x0 h0=>by simp[Abs.look]at h0⟩
noncomputable def D6t (ps:List PV) (H:Heap) (nx:Nat):Option (PV×Heap×Nat):=match ps with
 | [.t t]=>((tSl eInt).dec t).bind fun p=>open Classical in if p.length<=1000000/\(p=[]->t=nilS)then some (rowP eInt nx p,rowH eInt 3 nx p++H,nx+1)else none
 | _=>none
theorem D6u:HOK Try.prog G 73 D6t where
 call:=fun ps H nx r H' nx' h=>by
  unfold D6t at h
  split at h
  ·obtain⟨l,hl,h⟩:=Option.bind_eq_some_iff.1 h
   split at h
   ·rename_i hn
    injection h with h
    injection h with h1 h2
    injection h2 with h2 h3
    subst h1;subst h2;subst h3
    exact E6z (Ty.is_dec hl) hn.1 hn.2 H nx
   ·cases h
  ·cases h
 fresh:=fun ps H nx r H' nx' h hf b x hb=>by
  unfold D6t at h
  split at h
  ·obtain⟨l,hl,h⟩:=Option.bind_eq_some_iff.1 h
   split at h
   ·injection h with h
    injection h with h1 h2
    injection h2 with h2 h3
    subst h1;subst h2;subst h3
    cases hs:l with
    | nil=>
     rw[hs]at hb
     have:=hf b x hb
     omega
    | cons y r=>
     rw[hs]at hb
     simp only[rowH,List.cons_append,List.nil_append,look_cons]at hb
     by_cases e:nx=b
     ·omega
     ·rw[if_neg e]at hb
      have:=hf b x hb
      omega
   ·cases h
  ·cases h
theorem D6v {t:T} {p:List Int} (ht:IsS eInt t p) (hl:p.length<=1000000) (hnil:p=[]->t=nilS) (H:Heap) (nx:Nat):D6t [.t t] H nx=some (rowP eInt nx p,rowH eInt 3 nx p++H,nx+1):=by
 show((tSl eInt).dec t).bind _=_
 rw[Ty.dec_is (τ:=tSl eInt) ht,Option.bind_some,if_pos ⟨hl,hnil⟩]
abbrev PSt:=List Nat×List (List Int)
def arcP (p:List Int) (st:PSt) (c:Arc):PSt:=if c.to.toNat∈st.1 then st else(st.1++[c.to.toNat],st.2++[p++[c.feat]])
def midP (p:List Int) (st:PSt) (l:List Arc):PSt:=l.foldl (arcP p) st
def B9k (st:PSt) (i:Nat):Nat:=st.1.getD i 0
def C7c (st:PSt) (i:Nat):List Int:=st.2.getD i []
def bfsP (a:List Nd):Nat->PSt
 | 0=>([0],[[]])
 | i+1=>if i<(bfsP a i).1.length then midP (C7c (bfsP a i) i) (bfsP a i) (A3x a (B9k (bfsP a i) i))else bfsP a i
def outP (a:List Nd):Nat->List (List Int)
 | 0=>List.replicate a.length []
 | i+1=>if i<(bfsP a i).1.length then(outP a i).set (B9k (bfsP a i) i) (C7c (bfsP a i) i)else outP a i
def A1d (a:List Nd):List (List Int):=outP a a.length
structure PInv (a:List Nd) (st:PSt):Prop where
 len:st.2.length=st.1.length
 nodup:st.1.Nodup
 lt:∀n∈st.1,n<a.length
 root:st.1[0]?=some 0/\st.2[0]?=some []
 at_:∀(k:Nat) p n,st.2[k]?=some p->st.1[k]?=some n->atL a p=some n
 short:∀(k:Nat) p,st.2[k]?=some p->p.length<=k
theorem E3d:∀(n:Nat) (l:List Nat),l.Nodup->(∀x∈l,x<n)->l.length<=n
 | 0,l,_,h=>by
  cases l with
  | nil=>simp
  | cons x l=>have:=h x List.mem_cons_self;omega
 | n+1,l,hn,h=>by
  have h1:=E3d n (l.erase n) (hn.erase n) (fun x hx=>by
   obtain⟨h2,h3⟩:=hn.mem_erase_iff.1 hx
   have:=h x h3
   omega)
  have h2:l.length<=(l.erase n).length+1:=by
   rw[List.length_erase]
   split<;>omega
  omega
theorem D0p {α:Type} {l r:List α} {i:Nat} {x:α} (h:l[i]?=some x):(l++r)[i]?=some x:=by
 rw[List.getElem?_append_left (List.getElem?_eq_some_iff.1 h).1]
 exact h
section
variable {nf : Nat} {ty : List Typ} {a : List Nd} {st : PSt} {i n : Nat} {p : List Int}
theorem PInv.le (h:PInv a st):st.1.length<=a.length:=E3d _ _ h.nodup h.lt
theorem PInv.get (h:PInv a st) (hi:i<st.1.length):st.1[i]?=some (B9k st i)/\st.2[i]?=some (C7c st i):=by
 have h2:i<st.2.length:=by rw[h.len];exact hi
 refine⟨?_,?_⟩
 ·unfold B9k
  rw[List.getD_eq_getElem?_getD,List.getElem?_eq_getElem hi]
  rfl
 ·unfold C7c
  rw[List.getD_eq_getElem?_getD,List.getElem?_eq_getElem h2]
  rfl
structure PExt (st st':PSt):Prop where
 fst:∃r,st'.1=st.1++r
 snd:∃r,st'.2=st.2++r
theorem PExt.refl (st:PSt):PExt st st:=⟨⟨[],by simp⟩,⟨[],by simp⟩⟩
theorem PExt.trans {st st' st'':PSt} (h:PExt st st') (h':PExt st' st''):PExt st st'':=by
 obtain⟨⟨r,e⟩,⟨q,f⟩⟩:=h
 obtain⟨⟨r',e'⟩,⟨q',f'⟩⟩:=h'
 exact⟨⟨r++r',by rw[e',e,List.append_assoc]⟩,⟨q++q',by rw[f',f,List.append_assoc]⟩⟩
theorem PExt.mem {st st':PSt} (h:PExt st st') {x:Nat} (hx:x∈st.1):x∈st'.1:=by
 obtain⟨⟨r,e⟩,_⟩:=h
 rw[e]
 exact List.mem_append_left _ hx
theorem PInv.arc (ha:A2j ty.length nf a) (h:PInv a st) (hn:st.1[i]?=some n) (hp:st.2[i]?=some p) {c:Arc} (hc:c∈A3x a n):PInv a (arcP p st c)/\PExt st (arcP p st c)/\c.to.toNat∈(arcP p st c).1:=by
 have hnl:=h.lt n (List.mem_of_getElem? hn)
 unfold arcP
 split
 ·rename_i hin
  exact⟨h,PExt.refl st,hin⟩
 ·rename_i hin
  have ht:=ha.tor hnl hc
  have hi:=(List.getElem?_eq_some_iff.1 hn).1
  refine⟨⟨by simp[h.len],?_,fun x hx=>?_,⟨D0p h.root.1,D0p h.root.2⟩,fun k q m hq hm=>?_,fun k q hq=>?_⟩,⟨⟨_,rfl⟩,⟨_,rfl⟩⟩,by simp⟩
  ·rw[List.nodup_append]
   refine⟨h.nodup,by simp,fun x hx y hy=>?_⟩
   rw[List.mem_singleton]at hy
   rw[hy]
   exact fun e=>hin (e▸hx)
  ·rcases List.mem_append.1 hx with hx | hx
   ·exact h.lt x hx
   ·rw[List.mem_singleton]at hx
    rw[hx]
    exact ht.2
  ·simp only at hq hm
   rw[List.getElem?_append]at hq hm
   rw[h.len]at hq
   split at hm
   ·rename_i hk
    rw[if_pos hk]at hq
    exact h.at_ k q m hq hm
   ·rename_i hk
    rw[if_neg hk]at hq
    have hk0:k-st.1.length=0:=by
     have:=(List.getElem?_eq_some_iff.1 hm).1
     simp only[List.length_singleton]at this
     omega
    rw[hk0]at hq hm
    simp only[List.getElem?_cons_zero,Option.some.injEq]at hq hm
    rw[<-hq,<-hm,B4n,h.at_ i p n hp hn,Option.bind_some]
    exact ha.stp' hnl hc
  ·simp only at hq
   rw[List.getElem?_append]at hq
   split at hq
   ·exact h.short k q hq
   ·rename_i hk
    have hk0:k-st.2.length=0:=by
     have:=(List.getElem?_eq_some_iff.1 hq).1
     simp only[List.length_singleton]at this
     omega
    rw[hk0]at hq
    simp only[List.getElem?_cons_zero,Option.some.injEq]at hq
    have:=h.short i p hp
    rw[<-hq,List.length_append,List.length_singleton]
    have h2:=h.len
    omega
theorem PInv.mid (ha:A2j ty.length nf a):∀(l:List Arc) {st:PSt},PInv a st->st.1[i]?=some n->st.2[i]?=some p->(∀c∈l,c∈A3x a n)->PInv a (midP p st l)/\PExt st (midP p st l)/\∀c∈l,c.to.toNat∈(midP p st l).1
 | [],st,h,_,_,_=>⟨h,PExt.refl st,fun c hc=>by cases hc⟩
 | c::l,st,h,hn,hp,hl=>by
  obtain⟨h1,h2,h3⟩:=h.arc ha hn hp (hl c List.mem_cons_self)
  obtain⟨⟨r,e⟩,⟨q,f⟩⟩:=h2
  obtain⟨h4,h5,h6⟩:=PInv.mid ha l h1 (by rw[e];exact D0p hn) (by rw[f];exact D0p hp) (fun d hd=>hl d (List.mem_cons_of_mem _ hd))
  refine⟨h4,PExt.trans ⟨⟨r,e⟩,⟨q,f⟩⟩ h5,fun d hd=>?_⟩
  rcases List.mem_cons.1 hd with rfl | hd
  ·exact h5.mem h3
  ·exact h6 d hd
theorem F2x {l:List Arc} {j:Nat} {c:Arc} (h:l[j]?=some c):midP p st (l.take (j+1))=arcP p (midP p st (l.take j)) c:=by
 unfold midP
 rw[List.take_add_one,h,List.foldl_append]
 rfl
theorem B4o (ha:A2j ty.length nf a):∀i,PInv a (bfsP a i)/\∀k n,k<i->(bfsP a i).1[k]?=some n->∀c∈A3x a n,c.to.toNat∈(bfsP a i).1
 | 0=>by
  refine⟨⟨rfl,by simp[bfsP],fun n hn=>?_,⟨rfl,rfl⟩,fun k p n hp hn=>?_,fun k p hp=>?_⟩,fun k n hk=>by omega⟩
  ·simp only[bfsP,List.mem_singleton]at hn
   rw[hn]
   exact ha.form.pos
  ·cases k with
   | zero=>injection hp with hp;injection hn with hn;rw[<-hp,<-hn];rfl
   | succ k=>simp[bfsP]at hp
  ·cases k with
   | zero=>injection hp with hp;rw[<-hp];simp
   | succ k=>simp[bfsP]at hp
 | i+1=>by
  obtain⟨h,hc⟩:=B4o ha i
  unfold bfsP
  split
  ·rename_i hi
   obtain⟨h1,h2⟩:=h.get hi
   obtain⟨h3,h4,h5⟩:=PInv.mid ha (A3x a (B9k (bfsP a i) i)) h h1 h2 (fun c hc=>hc)
   refine⟨h3,fun k n hk hn c hcc=>?_⟩
   have h4':=h4
   obtain⟨⟨r,e⟩,_⟩:=h4
   by_cases hki:k=i
   ·subst hki
    have:n=B9k (bfsP a k) k:=by
     have:=D0p (r:=r) h1
     rw[<-e,hn]at this
     injection this
    rw[this]at hcc
    exact h5 c hcc
   ·have hkl:k<(bfsP a i).1.length:=by omega
    have hn':(bfsP a i).1[k]?=some n:=by
     rw[e,List.getElem?_append_left hkl]at hn
     exact hn
    exact PExt.mem h4' (hc k n (by omega) hn' c hcc)
  ·rename_i hi
   refine⟨h,fun k n hk hn c hcc=>hc k n ?_ hn c hcc⟩
   have:=(List.getElem?_eq_some_iff.1 hn).1
   omega
theorem D6w (h:(bfsP a i).1.length<=i):∀j,bfsP a (i+j)=bfsP a i/\outP a (i+j)=outP a i
 | 0=>⟨rfl,rfl⟩
 | j+1=>by
  obtain⟨h1,h2⟩:=D6w h j
  have hj:¬i+j<(bfsP a (i+j)).1.length:=by rw[h1];omega
  refine⟨?_,?_⟩
  ·show(if i+j<(bfsP a (i+j)).1.length then midP (C7c (bfsP a (i+j)) (i+j)) (bfsP a (i+j)) (A3x a (B9k (bfsP a (i+j)) (i+j)))else bfsP a (i+j))=_
   rw[if_neg hj]
   exact h1
  ·show(if i+j<(bfsP a (i+j)).1.length then(outP a (i+j)).set (B9k (bfsP a (i+j)) (i+j)) (C7c (bfsP a (i+j)) (i+j))else outP a (i+j))=_
   rw[if_neg hj]
   exact h2
theorem E3e (ha:A2j ty.length nf a) (i:Nat):PExt (bfsP a i) (bfsP a (i+1)):=by
 obtain⟨h,_⟩:=B4o ha i
 show PExt (bfsP a i) (if i<(bfsP a i).1.length then midP (C7c (bfsP a i) i) (bfsP a i) (A3x a (B9k (bfsP a i) i))else bfsP a i)
 split
 ·rename_i hi
  obtain⟨h1,h2⟩:=h.get hi
  exact(PInv.mid ha _ h h1 h2 (fun c hc=>hc)).2.1
 ·exact PExt.refl _
theorem B4p (a:List Nd):∀i,(outP a i).length=a.length
 | 0=>by simp[outP]
 | i+1=>by
  unfold outP
  split
  ·rw[List.length_set];exact B4p a i
  ·exact B4p a i
theorem D2r (ha:A2j ty.length nf a):∀(i k n:Nat) (p:List Int),k<i->(bfsP a i).1[k]?=some n->(bfsP a i).2[k]?=some p->(outP a i)[n]?=some p
 | 0,k,n,p,hk,_,_=>by omega
 | i+1,k,n,p,hk,hn,hp=>by
  obtain⟨h,_⟩:=B4o ha i
  obtain⟨⟨r,e⟩,⟨q,f⟩⟩:=E3e ha i
  by_cases hi:i<(bfsP a i).1.length
  ·have ho:outP a (i+1)=(outP a i).set (B9k (bfsP a i) i) (C7c (bfsP a i) i):=by
    show(if _ then _ else _)=_
    rw[if_pos hi]
   rw[ho]
   have hkl:k<(bfsP a i).1.length:=by omega
   rw[e,List.getElem?_append_left hkl]at hn
   rw[f,List.getElem?_append_left (by rw[h.len];exact hkl)]at hp
   obtain⟨g1,g2⟩:=h.get hi
   by_cases hki:k=i
   ·subst hki
    rw[g1]at hn
    rw[g2]at hp
    injection hn with hn
    injection hp with hp
    rw[hn,hp,List.getElem?_set_self (by rw[B4p];exact h.lt n (hn▸List.mem_of_getElem? g1))]
   ·have hne:B9k (bfsP a i) i≠n:=fun e=>hki (((List.getElem?_inj hkl h.nodup).1 (hn.trans (e▸g1.symm))))
    rw[List.getElem?_set_ne hne]
    exact D2r ha i k n p (by omega) hn hp
  ·have hb:bfsP a (i+1)=bfsP a i:=by
    show(if _ then _ else _)=_
    rw[if_neg hi]
   have ho:outP a (i+1)=outP a i:=by
    show(if _ then _ else _)=_
    rw[if_neg hi]
   rw[hb]at hn hp
   rw[ho]
   have:=(List.getElem?_eq_some_iff.1 hn).1
   exact D2r ha i k n p (by omega) hn hp
theorem C1g (ha:A2j ty.length nf a):∀(i:Nat) p,p∈outP a i->p.length<=a.length
 | 0,p,h=>by
  unfold outP at h
  rw[List.eq_of_mem_replicate h]
  simp
 | i+1,p,h=>by
  unfold outP at h
  split at h
  ·rename_i hi
   rcases List.mem_or_eq_of_mem_set h with h | h
   ·exact C1g ha i p h
   ·obtain⟨hv,_⟩:=B4o ha i
    have:=hv.short i _ (hv.get hi).2
    have h2:=hv.le
    rw[h]
    omega
  ·exact C1g ha i p h
theorem E0c (ha:A2j ty.length nf a) {p:List Int} (h:p∈A1d a):p.length<=a.length:=C1g ha _ p h
theorem E3f (ha:A2j ty.length nf a):C7a a (A1d a):=by
 obtain⟨h,hc⟩:=B4o ha a.length
 have hall:∀j,j<a.length->j∈(bfsP a a.length).1:=by
  intro j
  induction j using Nat.strongRecOn with
  | ind j ih=>
   intro hj
   by_cases h0:j=0
   ·rw[h0]
    exact List.mem_of_getElem? h.root.1
   ·obtain⟨i,z,c,h1,h2,h3,h4⟩:=ha.par (by omega:0<j) hj
    have hi:=(List.getElem?_eq_some_iff.1 h2).1
    obtain⟨k,hk,e⟩:=List.getElem_of_mem (ih i h1 hi)
    have:=hc k i (by have:=h.le;omega) (by rw[List.getElem?_eq_getElem hk,e]) c (by unfold A3x;rw[B3l h2];exact h3)
    have e2:c.to.toNat=j:=by omega
    rwa[e2]at this
 have key:∀n,n<a.length->∃k p,(bfsP a a.length).1[k]?=some n/\(bfsP a a.length).2[k]?=some p/\(A1d a)[n]?=some p:=fun n hn=>by
  obtain⟨k,hk,e⟩:=List.getElem_of_mem (hall n hn)
  obtain⟨g1,g2⟩:=h.get hk
  have hn':(bfsP a a.length).1[k]?=some n:=by rw[List.getElem?_eq_getElem hk,e]
  exact⟨k,_,hn',g2,D2r ha a.length k n _ (by have:=h.le;omega) hn' g2⟩
 refine⟨B4p a _,?_,fun n p hp=>?_⟩
 ·exact D2r ha a.length 0 0 [] ha.form.pos h.root.1 h.root.2
 ·have hn:n<a.length:=by have:=(List.getElem?_eq_some_iff.1 hp).1;unfold A1d at this;rwa[B4p]at this
  obtain⟨k,q,h1,h2,h3⟩:=key n hn
  rw[hp]at h3
  injection h3 with h3
  rw[h3]
  exact h.at_ k q n h2 h1
end
end Go.Proofs.Ytbiadmfmjnoecaa
