/- Auxiliary facts. -/
import Derived.Test.YtmplckgbeaifkaaGreatDoorVDQ14
import Derived.Lib.ItoaLen
import Derived.Test.YtmplckgbeaifkaaGreatDoorVDQ18
set_option linter.unusedSimpArgs false
set_option maxRecDepth 100000
set_option maxHeartbeats 0
set_option linter.unusedVariables false
namespace Go.Proofs.YtmplckgbeaifkaaGreatDoor
open Go Go.Abs
mutual
def sizD:Dv->Nat->Nat
 | .mk _ n _ _ ks,most=>if 100<n.size\/most<ks.length then most+1 else sizK ks most 1
def sizK:List Dv->Nat->Nat->Nat
 | [],_,n=>n
 | d::r,most,n=>if n<=most then sizK r most (n+sizD d (most-n))else n
end
mutual
def nodD:Dv->Nat
 | .mk _ _ _ _ ks=>nodK ks+1
def nodK:List Dv->Nat
 | []=>0
 | d::r=>nodD d+nodK r
end
mutual
def A8k:Dv->Prop
 | .mk _ n _ _ ks=>n.size<=2000000/\A6f ks
def A6f:List Dv->Prop
 | []=>True
 | d::r=>A8k d/\A6f r
end
mutual
theorem E1r:∀(d:Dv) (m:Nat),sizD d m<=m+1
 | .mk _ n _ _ ks,m=>by
  rw[sizD];split
  ·exact Nat.le_refl _
  ·exact E1s ks m 1 (by omega)
theorem E1s:∀(l:List Dv) (m n:Nat),n<=m+1->sizK l m n<=m+1
 | [],m,n,h=>by rw[sizK];exact h
 | d::r,m,n,h=>by
  rw[sizK];split
  ·have:=E1r d (m-n);exact E1s r m _ (by omega)
  ·exact h
end
mutual
def IntD:Dv->Prop
 | .mk k _ f t ks=>(-9223372036854775808<=k/\k<=9223372036854775807)/\(-9223372036854775808<=f/\f<=9223372036854775807)/\(-9223372036854775808<=t/\t<=9223372036854775807)/\IntK ks
def IntK:List Dv->Prop
 | []=>True
 | d::r=>IntD d/\IntK r
end
mutual
theorem D4e:∀d:Dv,A8k d->IntD d->(prtD d).length+1<=2000051*nodD d
 | .mk k n f t ks,h,hi=>by
  rw[A8k]at h;rw[IntD]at hi;have h1:=D4f ks h.2 hi.2.2.2;have h2:=Lib.itoa_length_le f hi.2.1.1 hi.2.1.2;have h3:=Lib.itoa_length_le t hi.2.2.1.1 hi.2.2.1.2;have h4:(lbs n).length=n.size:=rfl
  have h5:(if k=1 then [43]else []:List UInt8).length<=1:=by split<;>simp
  rw[prtD,nodD];simp only[List.length_cons,List.length_append,List.length_nil];omega
theorem D4f:∀l:List Dv,A6f l->IntK l->(prtK l).length<=2000051*nodK l
 | [],_,_=>by simp[prtK]
 | d::r,h,hi=>by
  rw[A6f]at h;rw[IntK]at hi;have h1:=D4e d h.1 hi.1;have h2:=D4f r h.2 hi.2
  have h3:1<=nodD d:=by cases d;rw[nodD];omega
  rw[prtK,nodK];simp only[List.length_cons,List.length_append];omega
end
end Go.Proofs.YtmplckgbeaifkaaGreatDoor
namespace Go.Abs
open Go
section
variable {P : Program} {G : A0q}
theorem A0e {B nx n:Nat} {env env':List (Nat×PV)} {H:Heap} (he:∀q∈env',Abs.look env q.1=some q.2):Sub P G B ⟨env,H,nx,n⟩ ⟨env',H,nx,n⟩:=by
 intro L a w hi;refine⟨L,⟨hi.heap,hi.nx,hi.base,hi.size,hi.defers,fun k p h=>hi.env k p (he _ (A0k h))⟩,?_,fun _ _=>rfl⟩;exact⟨Nat.le_refl _,fun _ _ _=>rfl,fun _ h=>h,fun _ h=>.inl h,fun g ⟨b,r,h,e⟩=>.inr ⟨b,r,h,e⟩,A1z.refl w,A1t.refl w⟩
end
theorem E1t:∀p:PV,ren (fun x=>x) p=p:=by
 intro p
 exact PV.rec (motive_1:=fun p=>ren (fun x=>x) p=p) (motive_2:=fun ps=>renL (fun x=>x) ps=ps) (fun x=>rfl) (fun b o n z=>rfl) (fun b o=>rfl) (fun cs ih=>by simp only[ren,ih]) (fun cs ih=>by simp only[ren,ih])
  (fun f a c ih1 ih2=>by simp only[ren,ih1,ih2]) (fun t x ih=>by simp only[ren,ih]) (fun b=>rfl) rfl rfl (fun p ps h1 h2=>by simp only[renL,h1,h2]) p
theorem E1u:∀ps:List PV,renL (fun x=>x) ps=ps
 | []=>rfl
 | p::ps=>by simp only[renL,E1t p,E1u ps]
theorem E1v (r:Row):A2u (fun x=>x) r=r:=by
 cases r with
 | cells ty cs=>simp only[A2u,E1u]
 | iter t pos=>rfl
 | map kk es=>rfl
 | lp l x k p=>simp only[A2u,E1t]
theorem B6c {P:Program} {G:A0q} {B nx nx' n:Nat} {env env':List (Nat×PV)} {H R:Heap} (hB:B<=nx') (hR:∀q∈R,Abs.look H q.1=some q.2/\q.1<nx'/\A2a nx' q.2=true)
  (he:∀q∈env',Abs.look env q.1=some q.2/\under nx' q.2=true):Sub P G B ⟨env,H,nx,n⟩ ⟨env',R,nx',n⟩:=by
 refine B3a (fun x=>x) rfl hB (fun _ _=>rfl) (fun q hq=>?_) (fun q hq=>?_) (fun q _ q' _ e=>e)
 ·rw[E1t];exact he q hq
 ·rw[E1v];exact hR q hq
theorem C8n {α:Type} (e:Enc α) (b:Nat) (l:List α) (x:α):rowP e b (l++[x]) = .row b 0 (l.length+1) e.z:=by
 cases l with
 | nil=>rfl
 | cons y l=>simp[rowP]
theorem D4g (a b:ByteArray):(!(Op.bytesLess a.toList b.toList||a.toList==b.toList))=A9f b a:=by
 rw[E6d,A2w];by_cases e:a=b
 ·subst e;simp[B9e]
 ·rw[decide_eq_false e,Bool.or_false]
  cases h:A9f a b with
  | true=>rw[D6v h];rfl
  | false=>rw[D6u h e];rfl
@[simp] theorem evalK_sgtr {Φ:A0o} {H:Heap} {nx:Nat} (isB:Bool) (nk:Option NK) (a b:ByteArray):A0d Φ H nx (.bin isB .gtr nk) [.t (.v (.string a)),.t (.v (.string b))]=some (.t (.v (.bool (A9f b a))),H,nx):=by
 rw[<-D4g];rfl
@[simp] theorem evalK_sgeq {Φ:A0o} {H:Heap} {nx:Nat} (isB:Bool) (nk:Option NK) (a b:ByteArray):A0d Φ H nx (.bin isB .geq nk) [.t (.v (.string a)),.t (.v (.string b))]=some (.t (.v (.bool (!A9f a b))),H,nx):=rfl
@[simp] theorem evalK_sleq {Φ:A0o} {H:Heap} {nx:Nat} (isB:Bool) (nk:Option NK) (a b:ByteArray):A0d Φ H nx (.bin isB .leq nk) [.t (.v (.string a)),.t (.v (.string b))]=some (.t (.v (.bool (!A9f b a))),H,nx):=by
 rw[<-D4g,Bool.not_not];rfl
end Go.Abs
namespace Go.Proofs.YtmplckgbeaifkaaGreatDoor
open Go Go.Abs
variable {q : Gl}
theorem B7l:∀l m:List UInt8,Op.bytesLess l m=decide (l<m)
 | [],[]=>by simp[Op.bytesLess]
 | [],_::_=>by simp[Op.bytesLess]
 | _::_,[]=>by simp[Op.bytesLess]
 | a::l,b::m=>by
  have ih:=B7l l m;simp only[Op.bytesLess,ih,List.cons_lt_cons_iff];by_cases h:a<b<;>by_cases k:a=b<;>simp[h,k]
theorem B1s (a b:ByteArray):A9f a b=decide (lbs a<lbs b):=by
 unfold A9f;rw[B7l,A6p,A6p]
theorem A1b:Ctx Tryz.prog (G q) (orc []):=A0x.nil.ctx mixed
theorem D7q (a b:Int):A0z Tryz.prog (G q) 65 [iv a,iv b] (· = iv (cmpI a b)):=by
 refine D7m.runs A1b rfl ?_;by_cases h:a<b
 ·(conv in B1r=>cbv);simp -implicitDefEqProofs [cmpI,h]
 ·by_cases k:b<a
  ·(conv in B1r=>cbv);simp -implicitDefEqProofs [cmpI,h,k]
  ·(conv in B1r=>cbv);simp -implicitDefEqProofs [cmpI,h,k]
noncomputable def F4e (ts:List T):Option T:=g2 tInt tInt (fun a b=>some (iv (cmpI a b))) ts
theorem hInts:GOK Tryz.prog (G q) 65 F4e:=A7t fun a b x y r ha hb hr=>by
 obtain rfl:a=iv x:=ha;obtain rfl:b=iv y:=hb;injection hr with hr;subst hr;exact D7q x y
theorem E6u (a b:Int):F4e [iv a,iv b]=some (iv (cmpI a b)):=A7c (τ:=tInt) (σ:=tInt) rfl rfl
theorem E6v (a:Int):A0z Tryz.prog (G q) 181 [iv a] (· = bv false):=by
 refine D1f.runs A1b rfl ?_
 (conv in B9z=>cbv);simp -implicitDefEqProofs []
theorem E1w (a:ByteArray):A0z Tryz.prog (G q) 182 [sv a] (· = bv false):=by
 refine C5f.runs A1b rfl ?_
 (conv in B5a=>cbv);simp -implicitDefEqProofs []
noncomputable def gNan (ts:List T):Option T:=g1 tInt (fun _=>some (bv false)) ts
theorem hNan:GOK Tryz.prog (G q) 181 gNan:=A7r fun a x r ha hr=>by
 obtain rfl:a=iv x:=ha;injection hr with hr;subst hr;exact E6v x
noncomputable def F4f (ts:List T):Option T:=g1 tStr (fun _=>some (bv false)) ts
theorem hNan2:GOK Tryz.prog (G q) 182 F4f:=A7r fun a x r ha hr=>by
 obtain rfl:a=sv x:=ha;injection hr with hr;subst hr;exact E1w x
theorem E1x (a b:Int):A0z Tryz.prog (G q) 149 [iv a,iv b] (· = iv (cmpI a b)):=by
 refine C5e.runs ((A0x.cons (hNan (q:=q)) .nil).ctx mixed) rfl ?_;have e:∀x,gNan [iv x]=some (bv false):=fun x=>A7s (τ:=tInt) rfl;by_cases h:a<b
 ·(conv in A6l=>cbv);simp -implicitDefEqProofs [cmpI,h,e]
 ·by_cases k:b<a
  ·(conv in A6l=>cbv);simp -implicitDefEqProofs [cmpI,h,k,e]
  ·(conv in A6l=>cbv);simp -implicitDefEqProofs [cmpI,h,k,e]
theorem E1y (a b:ByteArray):A0z Tryz.prog (G q) 150 [sv a,sv b] (· = iv (cmpS a b)):=by
 refine B9y.runs ((A0x.cons (hNan2 (q:=q)) .nil).ctx mixed) rfl ?_;have e:∀x,F4f [sv x]=some (bv false):=fun x=>A7s (τ:=tStr) rfl;by_cases h:lbs a<lbs b
 ·(conv in A5b=>cbv);simp -implicitDefEqProofs [cmpS,h,e,B1s]
 ·by_cases k:lbs b<lbs a
  ·(conv in A5b=>cbv);simp -implicitDefEqProofs [cmpS,h,k,e,B1s]
  ·(conv in A5b=>cbv);simp -implicitDefEqProofs [cmpS,h,k,e,B1s]
noncomputable def F1k (ts:List T):Option T:=g2 tInt tInt (fun a b=>some (iv (cmpI a b))) ts
theorem hCmpI:GOK Tryz.prog (G q) 149 F1k:=A7t fun a b x y r ha hb hr=>by
 obtain rfl:a=iv x:=ha;obtain rfl:b=iv y:=hb;injection hr with hr;subst hr;exact E1x x y
theorem E6w (a b:Int):F1k [iv a,iv b]=some (iv (cmpI a b)):=A7c (τ:=tInt) (σ:=tInt) rfl rfl
noncomputable def F1l (ts:List T):Option T:=g2 tStr tStr (fun a b=>some (iv (cmpS a b))) ts
theorem hCmpS:GOK Tryz.prog (G q) 150 F1l:=A7t fun a b x y r ha hb hr=>by
 obtain rfl:a=sv x:=ha;obtain rfl:b=sv y:=hb;injection hr with hr;subst hr;exact E1y x y
theorem E6x (a b:ByteArray):F1l [sv a,sv b]=some (iv (cmpS a b)):=A7c (τ:=tStr) (σ:=tStr) rfl rfl
def orI:List Int->Int
 | []=>0
 | x::r=>if x=0 then orI r else x
def SOr (t:T) (n:Nat) (j:Nat):A0b:=⟨[(8,.t (iv (j:Int))),(7,.t (iv (n:Int))),(6,.t t),(3,.t (iv 0))],[],0,18⟩
theorem F1m {t:T} {l:List Int} (ht:IsS eInt t l) (hl:l.length<=1000000):A0z Tryz.prog (G q) 148 [t] (· = iv (orI l)):=by
 have hlen:=ht.len;refine E6t.call rfl ?_;(conv in D4d=>cbv)
 obtain⟨R,hR⟩:∃R,R=orI l:=⟨_,rfl⟩
 rw[<-hR];refine A0a A1b ?_;simp -implicitDefEqProofs;refine A0a A1b ?_;simp -implicitDefEqProofs;refine A1f (α:=Unit) (fun _=>⟨[(3,.t (iv 0))],[],0,18⟩) (fun _=>R=0) (fun _=>rfl) ?_ ?_
 ·refine A0a A1b ?_;simp -implicitDefEqProofs [hlen];refine A0n ?_;refine A1a (SOr t l.length) (fun j=>l.length-j) (fun j=>j<=l.length/\orI (l.drop j)=R) 0 (fun _=>rfl) ⟨Nat.zero_le _,hR.symm⟩ ?_ rfl ?_
  ·exact A0s rfl rfl (by simp -implicitDefEqProofs [SOr]) (by simp -implicitDefEqProofs [SOr])
  rintro j ⟨hj,heq⟩;by_cases hlt:j<l.length
  ·obtain⟨x,hx⟩:∃x,l[j]?=some x:=⟨_,List.getElem?_eq_getElem hlt⟩
   have i1:A1c 1 (.t t) (.t (iv (j:Int)))=some (.t (.pt (eInt.enc x++rest eInt l j))):=ht.iaddr hx .i64;have ld:∀H,A0f false 1 H (.t (.pt (eInt.enc x++rest eInt l j)))=some (.t (iv x)):=fun _=>rfl;have e1:IntKind.i64.wrap ((j:Int)+1)=((j+1:Nat):Int):=A0p (by omega) (by omega)
   have hd:l.drop j=x::l.drop (j+1):=by
    rw[List.drop_eq_getElem_cons hlt,(List.getElem?_eq_some_iff.1 hx).2]
   rw[hd,orI]at heq;by_cases h0:x=0
   ·rw[if_pos h0]at heq
    have hb:(x != 0)=false:=by simpa using h0
    refine A0c A1b ?_;simp -implicitDefEqProofs [SOr,hlt,i1,ld,e1,hb];exact Abs.Next.mk (j+1) ⟨⟨by omega,heq⟩,by omega⟩ (A0s rfl rfl (by simp -implicitDefEqProofs [SOr]) (by simp -implicitDefEqProofs [SOr]))
   ·rw[if_neg h0]at heq
    have hb:(x != 0)=true:=by simpa using h0
    rw[<-heq];refine A0c A1b ?_;simp -implicitDefEqProofs [SOr,hlt,i1,ld,e1,hb]
  ·have e:j=l.length:=by omega
   subst e;rw[List.drop_length,orI]at heq;refine A0c A1b ?_;simp -implicitDefEqProofs [SOr];exact Abs.Next.mk () heq.symm (A0s rfl rfl (by simp -implicitDefEqProofs) (by simp -implicitDefEqProofs))
 ·rintro _ h0;refine A0c A1b ?_;simp -implicitDefEqProofs [h0]
noncomputable def gOr (ts:List T):Option T:=g1 (tSl eInt) (fun l=>if l.length<=1000000 then some (iv (orI l))else none) ts
theorem hOr:GOK Tryz.prog (G q) 148 gOr:=A7r fun a l r ha hr=>by
 split at hr
 ·rename_i h;injection hr with hr;subst hr;exact F1m ha h
 ·cases hr
theorem F4g {t:T} {l:List Int} (ht:IsS eInt t l) (hl:l.length<=1000000):gOr [t]=some (iv (orI l)):=by
 show g1 _ _ _=_;rw[A7s (τ:=tSl eInt) ht,if_pos hl]
def dRow (k:Int) (n:ByteArray) (f t:Int) (tk:T):Row:=.cells 26 [.t (iv k),.t (sv n),.t (iv f),.t (iv t),.t tk]
theorem A9o (k:Int) (n:ByteArray) (f t:Int) (tk:T):A0y (.t (.ag [iv k,sv n,iv f,iv t,tk]))=some [.t (iv k),.t (sv n),.t (iv f),.t (iv t),.t tk]:=rfl
theorem C3a {tk:T} {kids:List Dv} (h:IsK tk kids) {i:Nat} {x:Dv} (hx:kids[i]?=some x):∃p c,A1c 5 (.t tk) (.t (iv (i:Int)))=some (.t (.pt p))/\(∀H,A0f true 5 H (.t (.pt p))=some (.t (.ag c)))/\Abs.IsD x c:=by
 obtain⟨ci,r,h1,h2⟩:=h.iaddr hx .i64;refine⟨_,ci,h1,fun H=>?_,h2⟩;have:=h2.len;simp only[A0f,List.length_append,this,if_true];rw[if_pos (by omega),show(5:Nat)=ci.length by omega,List.take_left]
theorem B3o:∀{l:List Dv} {x:Dv},x∈l->nodD x<=nodK l
 | [],x,h=>by cases h
 | d::r,x,h=>by
  rw[nodK];rcases List.mem_cons.1 h with e | e
  ·rw[e];omega
  ·have:=B3o e;omega
theorem B5b:∀l:List Dv,l.length<=nodK l
 | []=>Nat.zero_le _
 | d::r=>by
  have:=B5b r
  have h1:1<=nodD d:=by cases d;rw[nodD];omega
  rw[nodK,List.length_cons];omega
theorem B8e:∀{l m:List Dv} {j:Nat},j<=l.length->j<=m.length->(j=l.length\/j=m.length)->cmpK (l.drop j) (m.drop j)=cmpI l.length m.length
 | l,m,j,h1,h2,h=>by
  rcases h with rfl | rfl
  ·rw[List.drop_length]
   cases hd:m.drop l.length with
   | nil=>
    have:m.length=l.length:=by
     have:=congrArg List.length hd;rw[List.length_drop,List.length_nil]at this;omega
    rw[cmpK,this,A3n.2 rfl]
   | cons x r=>
    have:l.length<m.length:=by
     have:=congrArg List.length hd;rw[List.length_drop,List.length_cons]at this;omega
    rw[cmpK,cmpI,if_pos (by omega)]
  ·rw[List.drop_length]
   cases hd:l.drop m.length with
   | nil=>
    have:l.length=m.length:=by
     have:=congrArg List.length hd;rw[List.length_drop,List.length_nil]at this;omega
    rw[cmpK,this,A3n.2 rfl]
   | cons x r=>
    have:m.length<l.length:=by
     have:=congrArg List.length hd;rw[List.length_drop,List.length_cons]at this;omega
    rw[cmpK,cmpI,if_neg (by omega),if_pos (by omega)]
noncomputable def gCmp (n:Nat) (ts:List T):Option T:=g2 tD tD (fun a b=>if nodD a<n/\nodD a<=1000000/\nodD b<=1000000 then some (iv (cmpD a b))else none) ts
theorem D1h {n:Nat} {c c':List T} {a b:Dv} (h:Abs.IsD a c) (h':Abs.IsD b c') (hn:nodD a<n) (ha:nodD a<=1000000) (hb:nodD b<=1000000):gCmp n [.ag c,.ag c']=some (iv (cmpD a b)):=by
 show g2 _ _ _ _=_;rw[A7c (τ:=tD) (σ:=tD) ⟨c,rfl,h⟩ ⟨c',rfl,h'⟩,if_pos ⟨hn,ha,hb⟩]
def SRc (A B:Row) (j:Nat):A0b:=⟨[(5,.t (iv (j:Int))),(3,.ptr 1 0),(2,.ptr 0 0)],[(1,B),(0,A)],2,82⟩
theorem E1z {n:Nat} (hrec:GOK Tryz.prog (G q) 31 (gCmp n)) {c c':List T} {a b:Dv} (h:Abs.IsD a c) (h':Abs.IsD b c') (hn:nodD a<=n) (ha:nodD a<=1000000) (hb:nodD b<=1000000) :
  A0z Tryz.prog (G q) 31 [.ag c,.ag c'] (· = iv (cmpD a b)):=by
 cases a with
 | mk k nm f t ks=>
 cases b with
 | mk k' nm' f' t' ks'=>
 obtain⟨tk,rfl,hk⟩:=h.parts;obtain⟨tk',rfl,hk'⟩:=h'.parts;have C:Ctx Tryz.prog (G q) _:=(A0x.cons hrec (.cons (hInts (q:=q)) .nil)).ctx mixed;have cd:=A9o k nm f t tk;have cd':=A9o k' nm' f' t' tk';have eI:=E6u;refine C5c.call rfl ?_;(conv in B4w=>cbv)
 obtain⟨R,hR⟩:∃R,R=cmpD (.mk k nm f t ks) (.mk k' nm' f' t' ks'):=⟨_,rfl⟩
 rw[<-hR];rw[cmpD]at hR;rw[nodD]at hn ha hb;refine A0a C ?_;simp -implicitDefEqProofs [cd,cd'];by_cases h1:f=f'
 ·have b1:(f != f')=false:=by simpa using h1
  rw[A7u,if_pos (A3n.2 h1)]at hR;refine A0a C ?_;simp -implicitDefEqProofs [A0f,b1];by_cases h2:t=t'
  ·have b2:(t != t')=false:=by simpa using h2
   rw[A7u,if_pos (A3n.2 h2)]at hR;refine A0a C ?_;simp -implicitDefEqProofs [A0f,b2];by_cases h3:k=k'
   ·have b3:(k != k')=false:=by simpa using h3
    rw[A7u,if_pos (A3n.2 h3)]at hR;refine A0a C ?_;simp -implicitDefEqProofs [A0f,b3];by_cases h4:nm=nm'
    ·rw[A7u,if_pos (B0l.2 h4)]at hR;subst h4;refine A0a C ?_;simp -implicitDefEqProofs [A0f,A2w];refine A1f (α:=Unit) (fun _=>⟨[(3,.ptr 1 0),(2,.ptr 0 0)],[(1,dRow k' nm f' t' tk'),(0,dRow k nm f t tk)],2,82⟩) (fun _=>R=cmpI ks.length ks'.length) (fun _=>rfl) ?_ ?_
     ·refine A0a C ?_;simp -implicitDefEqProofs;refine A0n ?_;refine A1a (SRc (dRow k nm f t tk) (dRow k' nm f' t' tk')) (fun j=>ks.length-j) (fun j=>j<=ks.length/\j<=ks'.length/\cmpK (ks.drop j) (ks'.drop j)=R) 0 (fun _=>rfl) ⟨Nat.zero_le _,Nat.zero_le _,hR.symm⟩ ?_ rfl ?_
      ·refine A0e ?_;simp -implicitDefEqProofs [SRc]
      rintro j ⟨hj,hj',heq⟩;have l1:=hk.len;have l2:=hk'.len;have lk:=B5b ks;refine A0c C ?_;by_cases hlt:j<ks.length
      ·by_cases hlt':j<ks'.length
       ·obtain⟨x,hx⟩:∃x,ks[j]?=some x:=⟨_,List.getElem?_eq_getElem hlt⟩
        obtain⟨y,hy⟩:∃y,ks'[j]?=some y:=⟨_,List.getElem?_eq_getElem hlt'⟩
        obtain⟨p,cx,i1,ld1,hcx⟩:=C3a hk hx;obtain⟨p',cy,i2,ld2,hcy⟩:=C3a hk' hy;have nx:=B3o (List.mem_of_getElem? hx);have ny:=B3o (List.mem_of_getElem? hy);have hg:=D1h (n:=n) hcx hcy (by omega) (by omega) (by omega);have e1:IntKind.i64.wrap ((j:Int)+1)=((j+1:Nat):Int):=A0p (by omega) (by omega);rw[List.drop_eq_getElem_cons hlt,List.drop_eq_getElem_cons hlt',(List.getElem?_eq_some_iff.1 hx).2,(List.getElem?_eq_some_iff.1 hy).2,cmpK,A7u]at heq;by_cases h0:cmpD x y=0
        ·rw[if_pos h0]at heq
         have hb:(cmpD x y != 0)=false:=by simpa using h0
         have lo1:∀H:Heap,A0f false 1 ((1,dRow k' nm f' t' tk')::H) (.ptr 1 4)=some (.t tk'):=fun _=>rfl;have lo0:A0f false 1 [(1,dRow k' nm f' t' tk'),(0,dRow k nm f t tk)] (.ptr 0 4)=some (.t tk):=rfl;simp -implicitDefEqProofs [SRc,lo0,lo1,l1,l2,hlt,hlt',i1,ld1,i2,ld2,hg,hb,e1];exact Abs.Next.mk (j+1) ⟨⟨by omega,by omega,heq⟩,by omega⟩ (A0e (by simp -implicitDefEqProofs [SRc]))
        ·rw[if_neg h0]at heq
         have hb:(cmpD x y != 0)=true:=by simpa using h0
         have lo1:∀H:Heap,A0f false 1 ((1,dRow k' nm f' t' tk')::H) (.ptr 1 4)=some (.t tk'):=fun _=>rfl;have lo0:A0f false 1 [(1,dRow k' nm f' t' tk'),(0,dRow k nm f t tk)] (.ptr 0 4)=some (.t tk):=rfl;simp -implicitDefEqProofs [SRc,lo0,lo1,l1,l2,hlt,hlt',i1,ld1,i2,ld2,hg,hb,<-heq]
       ·have lo1:∀H:Heap,A0f false 1 ((1,dRow k' nm f' t' tk')::H) (.ptr 1 4)=some (.t tk'):=fun _=>rfl;have lo0:A0f false 1 [(1,dRow k' nm f' t' tk'),(0,dRow k nm f t tk)] (.ptr 0 4)=some (.t tk):=rfl;simp -implicitDefEqProofs [SRc,lo0,lo1,l1,l2,hlt,hlt'];refine Abs.Next.mk () ?_ (A0e (by simp -implicitDefEqProofs));rw[<-heq,B8e hj hj' (.inr (by omega))]
      ·have lo0:A0f false 1 [(1,dRow k' nm f' t' tk'),(0,dRow k nm f t tk)] (.ptr 0 4)=some (.t tk):=rfl;simp -implicitDefEqProofs [SRc,lo0,l1,hlt];refine Abs.Next.mk () ?_ (A0e (by simp -implicitDefEqProofs));rw[<-heq,B8e hj hj' (.inl (by omega))]
     ·rintro _ h0;have l1:=hk.len;have l2:=hk'.len;have lo1:∀H:Heap,A0f false 1 ((1,dRow k' nm f' t' tk')::H) (.ptr 1 4)=some (.t tk'):=fun _=>rfl;have lo0:A0f false 1 [(1,dRow k' nm f' t' tk'),(0,dRow k nm f t tk)] (.ptr 0 4)=some (.t tk):=rfl;refine A0c C ?_;simp -implicitDefEqProofs [lo0,lo1,l1,l2,eI,h0]
    ·rw[A7u,if_neg (fun e=>h4 (B0l.1 e))]at hR;refine A0a C ?_;have hn:¬lbs nm=lbs nm':=fun e=>h4 (B5y e);by_cases h5:lbs nm<lbs nm'
     ·rw[cmpS,if_pos h5]at hR;simp -implicitDefEqProofs [A0f,A2w,h4,B1s,h5,hR]
     ·have h6:lbs nm'<lbs nm:=by
       rcases Classical.em (lbs nm'<lbs nm)with h | h
       ·exact h
       ·exact absurd (List.le_antisymm (List.not_lt.1 h) (List.not_lt.1 h5)) hn
      rw[cmpS,if_neg h5,if_pos h6]at hR;simp -implicitDefEqProofs [A0f,A2w,h4,B1s,h5,hR]
   ·have b3:(k != k')=true:=by simpa using h3
    rw[A7u,if_neg (fun e=>h3 (A3n.1 e))]at hR;refine A0a C ?_;simp -implicitDefEqProofs [A0f,b3,eI,hR]
  ·have b2:(t != t')=true:=by simpa using h2
   rw[A7u,if_neg (fun e=>h2 (A3n.1 e))]at hR;refine A0a C ?_;simp -implicitDefEqProofs [A0f,b2,eI,hR]
 ·have b1:(f != f')=true:=by simpa using h1
  rw[A7u,if_neg (fun e=>h1 (A3n.1 e))]at hR;refine A0a C ?_;simp -implicitDefEqProofs [A0f,b1,eI,hR]
theorem E2a:∀n,GOK Tryz.prog (G q) 31 (gCmp n)
 | 0=>A7t fun a b x y r ha hb hr=>by
  split at hr
  ·rename_i h;omega
  ·cases hr
 | n+1=>A7t fun a b x y r ha hb hr=>by
  split at hr
  ·rename_i h;injection hr with hr;subst hr;obtain⟨c,rfl,hc⟩:=ha;obtain⟨c',rfl,hc'⟩:=hb;exact E1z (E2a n) hc hc' (by omega) h.2.1 h.2.2
  ·cases hr
noncomputable def gCD (ts:List T):Option T:=gCmp 1000001 ts
theorem hRCmp:GOK Tryz.prog (G q) 31 gCD:=E2a _
theorem E2b {c c':List T} {a b:Dv} (h:Abs.IsD a c) (h':Abs.IsD b c') (ha:nodD a<=1000000) (hb:nodD b<=1000000):gCD [.ag c,.ag c']=some (iv (cmpD a b)):=D1h h h' (by omega) ha hb
theorem C3b (H:Heap):∀ts:List T,toTs H (ts.map .t)=some (ts,[])
 | []=>rfl
 | t::ts=>by simp only[List.map_cons,toTs,toT,C3b H ts,Option.map_some,List.append_nil]
theorem C3c (g:List T->Option T) (ts:List T) (H:Heap) (nx:Nat):hOfT g (ts.map .t) H nx=(g ts).map fun r=>(.t r,H,nx):=by
 unfold hOfT;rw[C3b];simp only[Option.bind_some]
 cases g ts with
 | none=>rfl
 | some r=>simp only[Option.map_some,remAll,List.foldl_nil,ite_self]
theorem E9p {g:List T->Option T} {a b r:T} (h:g [a,b]=some r) (H:Heap) (nx:Nat):hOfT g [.t a,.t b] H nx=some (.t r,H,nx):=by
 have:=C3c g [a,b] H nx;rw[h]at this;exact this
theorem E9q {g:List T->Option T} {a b c r:T} (h:g [a,b,c]=some r) (H:Heap) (nx:Nat):hOfT g [.t a,.t b,.t c] H nx=some (.t r,H,nx):=by
 have:=C3c g [a,b,c] H nx;rw[h]at this;exact this
abbrev zD5 (b:Nat):Nat×Row:=(b,.cells 26 [.t (iv 0),.t (sv ⟨#[]⟩),.t (iv 0),.t (iv 0),.t nilS])
theorem C0b (b:Nat) (R:Heap) (x:Dv) {c:List T} (h:Abs.IsD x c):A0r 5 (zD5 b::R) (.ptr b 0) (.t (.ag c))=some ((b,.cells 26 (c.map .t))::R):=by
 cases x with
 | mk k n f t ks=>
  obtain⟨tk,rfl,_⟩:=h.parts;simp[A0r,A0y,Abs.look,A3h,upd]
theorem C5g (b:Nat) (R:Heap) (x:Dv) {c:List T} (h:Abs.IsD x c):A0f true 5 ((b,.cells 26 (c.map .t))::R) (.ptr b 0)=some (.t (.ag c)):=by
 cases x with
 | mk k n f t ks=>
  obtain⟨tk,rfl,_⟩:=h.parts;simp[A0f,Abs.look,agOf,allT]
def SCf (tk tk':T) (F n:Nat) (j:Nat):A0b:=⟨[(13,.t (iv (j:Int))),(12,.t (iv (n:Int))),(11,.t tk),(2,.t (fv F)),(1,.t tk'),(0,.t tk)],[],0,39⟩
theorem E2c {n:Nat} (hrec:GOK Tryz.prog (G q) 99 (gCmp n)) {tk tk':T} {l m:List Dv} (h:IsK tk l) (h':IsK tk' m) (hn:nodK l<n) (ha:nodK l<=1000000) (hb:nodK m<=1000000) :
  A0z Tryz.prog (G q) 151 [tk,tk',fv 99] (· = iv (cmpK l m)):=by
 have C:Ctx Tryz.prog (G q) (orh [] [(99,hOfT (gCmp n))]):=A0x.nil.ctxH (.cons hrec.hok .nil) mixed;have l1:=h.len;have l2:=h'.len;have lk:=B5b l;have lm:=B5b m;refine B2b.call rfl ?_;(conv in A6e=>cbv)
 obtain⟨R,hR⟩:∃R,R=cmpK l m:=⟨_,rfl⟩
 rw[<-hR];refine A0a C ?_;simp -implicitDefEqProofs;refine A1f (α:=Unit) (fun _=>⟨[(1,.t tk'),(0,.t tk)],[],0,39⟩) (fun _=>m.length≥l.length/\R=cmpI l.length m.length) (fun _=>rfl) ?_ ?_
 ·refine A0a C ?_;simp -implicitDefEqProofs [l1];refine A0n ?_;refine A1a (SCf tk tk' 99 l.length) (fun j=>l.length-j) (fun j=>j<=l.length/\j<=m.length/\cmpK (l.drop j) (m.drop j)=R) 0 (fun _=>rfl) ⟨Nat.zero_le _,Nat.zero_le _,hR.symm⟩ ?_ rfl ?_
  ·exact B1o (by omega) (by simp -implicitDefEqProofs [SCf,under])
  rintro j ⟨hj,hj',heq⟩;refine A0c C ?_;by_cases hlt:j<l.length
  ·obtain⟨x,hx⟩:∃x,l[j]?=some x:=⟨_,List.getElem?_eq_getElem hlt⟩
   obtain⟨p,cx,i1,ld1,hcx⟩:=C3a h hx;have s1:=fun R=>C0b 0 R x hcx;by_cases hlt':j<m.length
   ·obtain⟨y,hy⟩:∃y,m[j]?=some y:=⟨_,List.getElem?_eq_getElem hlt'⟩
    obtain⟨p',cy,i2,ld2,hcy⟩:=C3a h' hy;have s2:=fun R=>C0b 1 R y hcy;have nx:=B3o (List.mem_of_getElem? hx);have ny:=B3o (List.mem_of_getElem? hy);have hg:=D1h (n:=n) hcx hcy (by omega) (by omega) (by omega);have hg2:=fun H nx=>E9p hg H nx;have la:A0f true 5 [(1,.cells 26 (cy.map .t)),(0,.cells 26 (cx.map .t))] (.ptr 1 0)=some (.t (.ag cy)):=C5g 1 _ y hcy
    have lb:A0f true 5 [(1,.cells 26 (cy.map .t)),(0,.cells 26 (cx.map .t))] (.ptr 0 0)=some (.t (.ag cx)):=by
     have:=C5g 0 [] x hcx;simp only[A0f,look_cons]at this ⊢;exact this
    have e1:IntKind.i64.wrap ((j:Int)+1)=((j+1:Nat):Int):=A0p (by omega) (by omega)
    have hge:¬(m.length<=j):=by omega
    rw[List.drop_eq_getElem_cons hlt,List.drop_eq_getElem_cons hlt',(List.getElem?_eq_some_iff.1 hx).2,(List.getElem?_eq_some_iff.1 hy).2,cmpK,A7u]at heq;generalize cmpD x y=v at heq hg hg2;by_cases h0:v=0
    ·rw[if_pos h0]at heq
     have hb:(v != 0)=false:=by simpa using h0
     simp -implicitDefEqProofs [SCf,l1,l2,hlt,hge,i1,ld1,i2,ld2,s1,s2,la,lb,hg2,hb,e1];exact Abs.Next.mk (j+1) ⟨⟨by omega,by omega,heq⟩,by omega⟩ (B1o (by omega) (by simp -implicitDefEqProofs [SCf,under]))
    ·rw[if_neg h0]at heq
     have hb:(v != 0)=true:=by simpa using h0
     subst heq;simp -implicitDefEqProofs [SCf,l1,l2,hlt,hge,i1,ld1,i2,ld2,s1,s2,la,lb,hg2,hb]
   ·have hge:m.length<=j:=by omega
    have e:j=m.length:=by omega
    have h9:=B8e hj hj' (.inr e)
    have h8:cmpI (l.length:Int) (m.length:Int)=1:=by rw[cmpI,if_neg (by omega),if_pos (by omega)]
    rw[h9,h8]at heq;simp -implicitDefEqProofs [SCf,l1,l2,hlt,hge,i1,ld1,s1,<-heq]
  ·have h9:=B8e hj hj' (.inl (by omega));rw[h9]at heq;simp -implicitDefEqProofs [SCf,hlt];exact Abs.Next.mk () ⟨by omega,heq.symm⟩ (B1o (by omega) (by simp -implicitDefEqProofs [under]))
 ·rintro _ ⟨hle,h0⟩;refine A0c C ?_;rw[h0];by_cases hlt:l.length<m.length
  ·have h8:cmpI (l.length:Int) (m.length:Int) = -1:=by rw[cmpI,if_pos (by omega)]
   simp -implicitDefEqProofs [l1,l2,hlt,h8]
  ·have h8:cmpI (l.length:Int) (m.length:Int)=0:=by rw[cmpI,if_neg (by omega),if_neg (by omega)]
   simp -implicitDefEqProofs [l1,l2,hlt,h8]
noncomputable def gCf (n:Nat):List T->Option T
 | [a,b,.v (.func (.func F) ⟨[]⟩ ⟨[]⟩)]=>if F=99 then g2 tK tK (fun l m=>if nodK l<n/\nodK l<=1000000/\nodK m<=1000000 then some (iv (cmpK l m))else none) [a,b]else none
 | _=>none
theorem F4h {n:Nat} (hrec:GOK Tryz.prog (G q) 99 (gCmp n)):GOK Tryz.prog (G q) 151 (gCf n):=fun args r hr=>by
 unfold gCf at hr;split at hr
 ·split at hr
  ·rename_i a b F e;subst e;simp only[g2]at hr;obtain⟨l,hl,hr⟩:=Option.bind_eq_some_iff.1 hr;obtain⟨m,hm,hr⟩:=Option.bind_eq_some_iff.1 hr;split at hr
   ·rename_i hc;injection hr with hr;subst hr;exact E2c hrec (Ty.is_dec hl) (Ty.is_dec hm) hc.1 hc.2.1 hc.2.2
   ·cases hr
  ·cases hr
 ·cases hr
theorem F4i {n:Nat} {tk tk':T} {l m:List Dv} (h:IsK tk l) (h':IsK tk' m) (hn:nodK l<n) (ha:nodK l<=1000000) (hb:nodK m<=1000000):gCf n [tk,tk',fv 99]=some (iv (cmpK l m)):=by
 have e:gCf n [tk,tk',fv 99]=g2 tK tK (fun l m=>if nodK l<n/\nodK l<=1000000/\nodK m<=1000000 then some (iv (cmpK l m))else none) [tk,tk']:=by
  unfold gCf;simp
 rw[e,A7c (τ:=tK) (σ:=tK) h h',if_pos ⟨hn,ha,hb⟩]
theorem E2d {n:Nat} (hrec:GOK Tryz.prog (G q) 99 (gCmp n)) {c c':List T} {a b:Dv} (h:Abs.IsD a c) (h':Abs.IsD b c') (hn:nodD a<=n) (ha:nodD a<=1000000) (hb:nodD b<=1000000) :
  A0z Tryz.prog (G q) 99 [.ag c,.ag c'] (· = iv (cmpD a b)):=by
 cases a with
 | mk k nm f t ks=>
 cases b with
 | mk k' nm' f' t' ks'=>
 obtain⟨tk,rfl,hk⟩:=h.parts;obtain⟨tk',rfl,hk'⟩:=h'.parts;rw[nodD]at hn ha hb
 have C:Ctx Tryz.prog (G q) (orh [(149,F1k),(150,F1l),(148,gOr)] [(151,hOfT (gCf n))]):=
  (A0x.cons hCmpI (.cons hCmpS (.cons hOr .nil))).ctxH (.cons (F4h hrec).hok .nil) mixed
 have cd:=A9o k nm f t tk;have cd':=A9o k' nm' f' t' tk';have e1:=E6w;have e2:=E6x;have e3:=E9q (F4i hk hk' (show nodK ks<n by omega) (by omega) (by omega));refine B9x.call rfl ?_;(conv in B0r=>cbv)
 obtain⟨R,hR⟩:∃R,R=cmpD (.mk k nm f t ks) (.mk k' nm' f' t' ks'):=⟨_,rfl⟩
 rw[<-hR];rw[cmpD]at hR
 obtain⟨v,hv⟩:∃v,v=orI [cmpI f f',cmpI t t',cmpI k k',cmpS nm nm']:=⟨_,rfl⟩
 have hRv:R=if v=0 then cmpK ks ks' else v:=by
  rw[hR,hv];simp only[A7u,orI];by_cases z1:cmpI f f'=0<;>by_cases z2:cmpI t t'=0<;>by_cases z3:cmpI k k'=0<;>by_cases z4:cmpS nm nm'=0<;>simp[z1,z2,z3,z4]
 have e4:gOr [.sl 4 [iv (cmpI f f'),iv (cmpI t t'),iv (cmpI k k'),iv (cmpS nm nm')]]=some (iv v):=by
  rw[hv];exact F4g (l:=[cmpI f f',cmpI t t',cmpI k k',cmpS nm nm']) (.inr rfl) (by simp)
 have ts:∀a b c d:Int,A9b 3 1 [.int .i64 0] 4 [(0,.t (iv a)),(1,.t (iv b)),(2,.t (iv c)),(3,.t (iv d))]=some (.t (.sl 4 [iv a,iv b,iv c,iv d])):=fun _ _ _ _=>rfl;refine A0a C ?_;simp -implicitDefEqProofs [cd,cd'];by_cases h0:v=0
 ·rw[if_pos h0]at hRv
  have hb:(v != 0)=false:=by simpa using h0
  refine A0a C ?_;simp -implicitDefEqProofs [A0f,e1,e2,ts,e4,hb];refine A0c C ?_;simp -implicitDefEqProofs [A0f,e3,hRv]
 ·rw[if_neg h0]at hRv
  have hb:(v != 0)=true:=by simpa using h0
  refine A0a C ?_;simp -implicitDefEqProofs [A0f,e1,e2,ts,e4,hb,hRv]
theorem E2e:∀n,GOK Tryz.prog (G q) 99 (gCmp n)
 | 0=>A7t fun a b x y r ha hb hr=>by
  split at hr
  ·rename_i h;omega
  ·cases hr
 | n+1=>A7t fun a b x y r ha hb hr=>by
  split at hr
  ·rename_i h;injection hr with hr;subst hr;obtain⟨c,rfl,hc⟩:=ha;obtain⟨c',rfl,hc'⟩:=hb;exact E2d (E2e n) hc hc' (by omega) h.2.1 h.2.2
  ·cases hr
theorem F4j:GOK Tryz.prog (G q) 99 gCD:=E2e _
noncomputable def gStr (f:ByteArray->T) (n:Nat):List T->Option T:=g1 tStr fun s=>if s.size<=n then some (f s)else none
theorem A9p {F:Nat} {f:ByteArray->T} {n:Nat} (h:∀s:ByteArray,s.size<=n->A0z Tryz.prog (G q) F [sv s] (· = f s)):GOK Tryz.prog (G q) F (gStr f n):=
 A7r fun a s r ha hr=>by
  have e1:a=sv s:=ha;subst e1;split at hr
  ·rename_i hs;injection hr with hr;subst hr;exact h s hs
  ·cases hr
theorem B3p {f:ByteArray->T} {n:Nat} {s:ByteArray} (h:s.size<=n):gStr f n [.v (.string s)]=some (f s):=by
 rw[gStr,A7s (τ:=tStr) (x:=s) rfl,if_pos h]
noncomputable def gNm:List T->Option T:=gStr (fun s=>bv (A0v false s)) lim
theorem hNm:GOK Tryz.prog (G q) 58 gNm:=A9p E0u
theorem hRNm:GOK Tryz.prog (G q) 60 gNm:=A9p D7e
theorem C3d {s:ByteArray} (h:s.size<=lim):gNm [sv s]=some (bv (A0v false s)):=B3p h
noncomputable def gWd:List T->Option T:=gStr (fun s=>bv (A4q s)) lim
theorem hWd:GOK Tryz.prog (G q) 164 gWd:=A9p E0w
theorem F4k {s:ByteArray} (h:s.size<=lim):gWd [sv s]=some (bv (A4q s)):=B3p h
noncomputable def gNu:List T->Option T:=gStr (fun s=>numT s.data.toList) 281474976710656
theorem hNu:GOK Tryz.prog (G q) 210 gNu:=A9p D0y
theorem hRNu:GOK Tryz.prog (G q) 180 gNu:=A9p C7w
theorem C8o {s:ByteArray} (h:s.size<=281474976710656):gNu [sv s]=some (numT s.data.toList):=B3p h
noncomputable def gDe:List T->Option T:=g1 tInt fun n=>if -9223372036854775808<=n/\n<=9223372036854775807 then some (sv (bs (Lib.itoa n)))else none
theorem hDe:GOK Tryz.prog (G q) 82 gDe:=A7r fun a x r ha hr=>by
 obtain rfl:a=iv x:=ha;split at hr
 ·rename_i h;injection hr with hr;subst hr;exact C7x x h
 ·cases hr
theorem D4h {n:Int} (h:-9223372036854775808<=n/\n<=9223372036854775807):gDe [iv n]=some (sv (bs (Lib.itoa n))):=by
 show g1 _ _ _=_;rw[A7s (τ:=tInt) (x:=n) rfl,if_pos h]
theorem cat2 {Φ:A0o} {a b c:List UInt8} (h:c=a++b) (hl:c.length<=9223372036854775807):∀(isB:Bool) (nk:Option NK) (H:Heap) (nx:Nat),A0d Φ H nx (.bin isB .add nk) [.t (.v (.string ⟨a.toArray⟩)),.t (.v (.string ⟨b.toArray⟩))]=some (.t (sv (bs c)),H,nx):=by
 subst h;exact cat (by rw[List.length_append]at hl;exact hl)
def Wd (d:Dv):Prop:=A8k d/\IntD d/\nodD d<=1000000
theorem A6f.kid:∀{l:List Dv} {x:Dv},A6f l->x∈l->A8k x
 | d::r,x,h,hx=>by
  rw[A6f]at h;rcases List.mem_cons.1 hx with e | e
  ·rw[e];exact h.1
  ·exact A6f.kid h.2 e
theorem IntK.kid:∀{l:List Dv} {x:Dv},IntK l->x∈l->IntD x
 | d::r,x,h,hx=>by
  rw[IntK]at h;rcases List.mem_cons.1 hx with e | e
  ·rw[e];exact h.1
  ·exact IntK.kid h.2 e
theorem Wd.kid {k f t:Int} {n:ByteArray} {ks:List Dv} (h:Wd (.mk k n f t ks)) {x:Dv} (hx:x∈ks):Wd x:=by
 obtain⟨h1,h2,h3⟩:=h;rw[A8k]at h1;rw[IntD]at h2;rw[nodD]at h3;have:=B3o hx;exact⟨h1.2.kid hx,h2.2.2.2.kid hx,by omega⟩
theorem Wd.len {d:Dv} (h:Wd d):(prtD d).length<=2100000000000:=by
 have:=D4e d h.1 h.2.1;have:=h.2.2;omega
theorem E2f {l:List Dv} {j:Nat} {x:Dv} (h:l[j]?=some x):prtK (l.drop j)=32::(prtD x++prtK (l.drop (j+1))):=by
 obtain⟨hlt,he⟩:=List.getElem?_eq_some_iff.1 h;rw[List.drop_eq_getElem_cons hlt,he,prtK]
def rTak (c:UInt8) (s:List UInt8):List UInt8×Int:=match takB c s with
 | .ok r=>(r,0)
 | .error e=>(s,e)
def rNam (s:List UInt8):List UInt8×List UInt8×Int:=
 if(A4s 0 s=0/\s=[])\/(0<A4s 0 s/\A4s 0 s=s.length)then([],s,9)
 else if A4s 0 s=0 then([],s,8)else(s.take (A4s 0 s),s.drop (A4s 0 s),0)
def B2c (s:List UInt8):Nat:=(sgn s).1.length+((sgn s).2.takeWhile A0w).length
def rNum (s:List UInt8):Int×List UInt8×Int:=
 if B2c s=s.length/\(s=[]\/s=[45])then(0,s,9)
 else if(numS (s.take (B2c s))).2≠0 then(0,s,8)
 else if B2c s=s.length then(0,s,9)else((numS (s.take (B2c s))).1,s.drop (B2c s),0)
def B5c (s:List UInt8):Hd×List UInt8×Int:=
 let a:=plus s
 let n:=rNam a.2
 if n.2.2≠0 then(⟨a.1,[],0,0⟩,n.2.1,n.2.2)else
 let b:=rTak 32 n.2.1
 if b.2≠0 then(⟨a.1,n.1,0,0⟩,b.1,b.2)else
 let f:=rNum b.1
 if f.2.2≠0 then(⟨a.1,n.1,0,0⟩,f.2.1,f.2.2)else
 let c:=rTak 32 f.2.1
 if c.2≠0 then(⟨a.1,n.1,f.1,0⟩,c.1,c.2)else
 let t:=rNum c.1
 if t.2.2≠0 then(⟨a.1,n.1,f.1,0⟩,t.2.1,t.2.2)else(⟨a.1,n.1,f.1,t.1⟩,t.2.1,0)
def C8p (rr:List UInt8->Dv×List UInt8×Int):Nat->Bool->List Dv->List UInt8->List Dv×List UInt8×Int
 | n+1,lex,acc,32::r=>if lex && !acc.isEmpty then(acc,32::r,0)else
  if(rr r).2.2≠0 then(acc++[(rr r).1],(rr r).2.1,(rr r).2.2)else C8p rr n lex (acc++[(rr r).1]) (rr r).2.1
 | _,_,acc,s=>(acc,s,0)
def E2g:Nat->List UInt8->Dv×List UInt8×Int
 | _,[]=>(A1y,[],9)
 | 0,c::s=>if c=40 then(A1y,c::s,7)else(A1y,c::s,8)
 | k+1,c::s=>if c=40 then
   let h:=B5c s
   let l:=if h.2.2≠0 then([],h.2.1,h.2.2)else C8p (E2g k) h.2.1.length h.1.lex [] h.2.1
   if l.2.2≠0 then(A1y,l.2.1,l.2.2)else
   match l.2.1 with
   | []=>(A1y,[],9)
   | x::r=>if x≠41\/(h.1.lex=true/\l.1.length≠1)then(A1y,x::r,8)else(.mk (A2h h.1.lex l.1) (bs h.1.name) h.1.frm h.1.to l.1,r,0)
  else(A1y,c::s,8)
def RelE (x:Except Int (Dv×List UInt8)) (y:Dv×List UInt8×Int):Prop:=match x with
 | .ok (d,r)=>y=(d,r,0)
 | .error e=>y.1=A1y/\y.2.2=e/\e≠0
theorem E2h (s:List UInt8):eosE s≠0:=by cases s<;>simp[eosE]
theorem F1n {c:UInt8} {s:List UInt8} {e:Int} (h:takB c s = .error e):e≠0:=by
 cases s with
 | nil=>cases h;decide
 | cons x r=>
  rw[takB]at h;split at h
  ·cases h
  ·cases h;decide
theorem B8f:∀(s:List UInt8) (i:Nat),A4s i s<=s.length
 | [],i=>Nat.le_refl _
 | c::r,i=>by rw[A4s];have:=B8f r (i+1);split<;>simp[this]
theorem E2i (c:UInt8) (r:List UInt8):eosE (c::r)=8:=rfl
theorem E6y (s:List UInt8):(match A7g s with
  | .ok (n,r)=>(r≠[]->rNam s=(n,r,0))/\(r=[]->(rNam s).2.2=9)
  | .error e=>(rNam s).2.2=e/\e≠0):=by
 unfold A7g rNam;by_cases h0:A4s 0 s=0
 ·rw[if_pos h0];simp only
  cases s with
  | nil=>rw[if_pos (.inl ⟨h0,rfl⟩)];exact⟨rfl,by decide⟩
  | cons c r=>
   rw[if_neg (by simp[h0]),if_pos h0];exact⟨rfl,E2h _⟩
 ·rw[if_neg h0];simp only;have hle:=B8f s 0;by_cases hl:A4s 0 s=s.length
  ·rw[if_pos (.inr ⟨by omega,hl⟩)];refine⟨fun h=>?_,fun _=>rfl⟩;rw[hl,List.drop_length]at h;exact absurd rfl h
  ·rw[if_neg (by omega),if_neg h0];refine⟨fun _=>rfl,fun h=>?_⟩;have:=congrArg List.length h;simp at this;omega
theorem E6z (s:List UInt8):s.take (B2c s)=(sgn s).1++(sgn s).2.takeWhile A0w/\s.drop (B2c s)=(sgn s).2.dropWhile A0w:=by
 have h1:=B9l s;have h2:=List.takeWhile_append_dropWhile (p:=A0w) (l:=(sgn s).2)
 obtain⟨n,hn⟩:∃n,n=B2c s:=⟨_,rfl⟩
 have hl:n=((sgn s).1++(sgn s).2.takeWhile A0w).length:=by rw[hn,B2c,List.length_append]
 have e:s=((sgn s).1++(sgn s).2.takeWhile A0w)++(sgn s).2.dropWhile A0w:=by rw[List.append_assoc,h2,h1]
 rw[<-hn];generalize (sgn s).1++(sgn s).2.takeWhile A0w=a at *;generalize (sgn s).2.dropWhile A0w=b at *;subst e;exact⟨List.take_left' hl.symm,List.drop_left' hl.symm⟩
theorem D1i (s:List UInt8):(sgn s).1=[]\/(sgn s).1=[45]:=by
 unfold sgn;split
 ·exact .inr rfl
 ·exact .inl rfl
theorem E2j {l:List UInt8} (h:l=[]\/l=[45]):(numS l).2=8:=by
 rcases h with rfl | rfl<;>rfl
theorem D4i (s:List UInt8):(match A6k s with
  | .ok (n,r)=>(r≠[]->rNum s=(n,r,0))/\(r=[]->(rNum s).2.2=9)
  | .error e=>(rNum s).2.2=e/\e≠0):=by
 obtain⟨ht,hd⟩:=E6z s
 have hlen:B2c s=s.length ↔ (sgn s).2.dropWhile A0w=[]:=by
  rw[<-hd,List.drop_eq_nil_iff]
  have:B2c s<=s.length:=by
   have h1:=congrArg List.length (B9l s);have h2:=congrArg List.length (List.takeWhile_append_dropWhile (p:=A0w) (l:=(sgn s).2));rw[List.length_append]at h1 h2;unfold B2c;omega
  omega
 unfold A6k rNum;rw[ht,hd];simp only
 by_cases hz:(sgn s).2.takeWhile A0w=[]
 ·rw[if_pos hz];simp only
  have e2:(sgn s).2.dropWhile A0w=(sgn s).2:=by
   have:=List.takeWhile_append_dropWhile (p:=A0w) (l:=(sgn s).2);rw[hz]at this;exact this
  have e1:(numS ((sgn s).1++(sgn s).2.takeWhile A0w)).2=8:=by rw[hz,List.append_nil];exact E2j (D1i s)
  rw[e1]
  cases hr:(sgn s).2 with
  | nil=>
   have hs:s=[]\/s=[45]:=by
    have:=B9l s;rw[hr,List.append_nil]at this;rw[<-this];exact D1i s
   rw[if_pos ⟨hlen.2 (by rw[e2,hr]),hs⟩];rw[hr]at e2;exact⟨rfl,by decide⟩
  | cons c r=>
   rw[hr]at e2
   have hne:¬B2c s=s.length:=fun e=>by
    have:=hlen.1 e;rw[hr,e2]at this;cases this
   rw[if_neg (fun e=>hne e.1),if_pos (by decide),e2];exact⟨rfl,by rw[E2i];decide⟩
 ·rw[if_neg hz]
  have hn:¬(B2c s=s.length/\(s=[]\/s=[45])):=by
   rintro⟨_,rfl | rfl⟩<;>exact hz rfl
  rw[if_neg hn];by_cases he:(numS ((sgn s).1++(sgn s).2.takeWhile A0w)).2=0
  ·rw[if_pos he,if_neg (by simp[he])];simp only;refine⟨fun h=>?_,fun h=>?_⟩
   ·rw[if_neg (fun e=>h (hlen.1 e))]
   ·rw[if_pos (hlen.2 h)]
  ·rw[if_neg he,if_pos he];exact⟨rfl,by decide⟩
theorem D4j (c:UInt8) (s:List UInt8):(match takB c s with
  | .ok r=>rTak c s=(r,0)
  | .error e=>rTak c s=(s,e)/\e≠0):=by
 unfold rTak
 cases h:takB c s with
 | error e=>exact⟨rfl,F1n h⟩
 | ok r=>rfl
theorem E2k (s:List UInt8):(match B2i s with
  | .ok (h,r)=>(r≠[]->B5c s=(h,r,0))/\(r=[]->(B5c s).2.2=9)
  | .error e=>(B5c s).2.2=e/\e≠0):=by
 unfold B2i B5c;simp only[bind,Except.bind,pure,Except.pure];have a1:=E6y (plus s).2
 cases h1:A7g (plus s).2 with
 | error e=>
  rw[h1]at a1;simp only at a1 ⊢;rw[if_pos (by rw[a1.1];exact a1.2)];exact a1
 | ok q=>
  obtain⟨n,s1⟩:=q;rw[h1]at a1;simp only at a1 ⊢;have b1:=D4j 32 s1
  cases hs1:s1 with
  | nil=>
   rw[if_pos (by rw[a1.2 hs1];decide)];exact⟨a1.2 hs1,by decide⟩
  | cons c r=>
   have e1:=a1.1 (by rw[hs1];simp);rw[hs1]at e1 b1;rw[if_neg (by rw[e1];simp),e1];simp only
   cases h2:takB 32 (c::r)with
   | error e=>
    rw[h2]at b1;simp only at b1 ⊢;rw[b1.1,if_pos b1.2];exact⟨rfl,b1.2⟩
   | ok s2=>
    rw[h2]at b1;simp only at b1 ⊢;rw[b1,if_neg (by simp)];simp only;have a2:=D4i s2
    cases h3:A6k s2 with
    | error e=>
     rw[h3]at a2;simp only at a2 ⊢;rw[if_pos (by rw[a2.1];exact a2.2)];exact a2
    | ok q=>
     obtain⟨f,s3⟩:=q;rw[h3]at a2;simp only at a2 ⊢;have b2:=D4j 32 s3
     cases hs3:s3 with
     | nil=>
      rw[if_pos (by rw[a2.2 hs3];decide)];exact⟨a2.2 hs3,by decide⟩
     | cons c r=>
      have e2:=a2.1 (by rw[hs3];simp);rw[hs3]at e2 b2;rw[if_neg (by rw[e2];simp),e2];simp only
      cases h4:takB 32 (c::r)with
      | error e=>
       rw[h4]at b2;simp only at b2 ⊢;rw[b2.1,if_pos b2.2];exact⟨rfl,b2.2⟩
      | ok s4=>
       rw[h4]at b2;simp only at b2 ⊢;rw[b2,if_neg (by simp)];simp only;have a3:=D4i s4
       cases h5:A6k s4 with
       | error e=>
        rw[h5]at a3;simp only at a3 ⊢;rw[if_pos (by rw[a3.1];exact a3.2)];exact a3
       | ok q=>
        obtain⟨t,s5⟩:=q;rw[h5]at a3;simp only at a3 ⊢;refine⟨fun h=>?_,fun h=>?_⟩
        ·rw[a3.1 h,if_neg (by simp)]
        ·rw[if_pos (by rw[a3.2 h];decide)];exact a3.2 h
theorem C8q {rd:List UInt8->Except Int (Dv×List UInt8)} {rr:List UInt8->Dv×List UInt8×Int} (hrd:∀s,RelE (rd s) (rr s)):∀(n:Nat) (lex:Bool) (acc:List Dv) (s:List UInt8),(match A2d rd n lex acc s with
  | .ok (ks,r)=>C8p rr n lex acc s=(ks,r,0)
  | .error e=>(C8p rr n lex acc s).2.2=e/\e≠0)
 | 0,lex,acc,s=>by
  rw[A2d,C8p]<;>(try rfl)<;>(intros;omega)
 | n+1,lex,acc,s=>by
  by_cases hs:∃t,s=32::t
  ·obtain⟨t,rfl⟩:=hs;rw[A2d,C8p];by_cases hl:(lex && !acc.isEmpty)=true
   ·rw[if_pos hl,if_pos hl]
   ·rw[if_neg hl,if_neg hl];have h1:=hrd t
    cases hd:rd t with
    | error e=>
     rw[hd]at h1;obtain⟨_,h2,h3⟩:=h1;simp only;rw[if_pos (by rw[h2];exact h3)];exact⟨h2,h3⟩
    | ok q=>
     obtain⟨d,r⟩:=q;rw[hd]at h1;have h1:rr t=(d,r,0):=h1;rw[h1];simp only;rw[if_neg (by simp)];exact C8q hrd n lex _ _
  ·have e1:A2d rd (n+1) lex acc s = .ok (acc,s):=by
    rw[A2d];intro n' t _ e;exact hs ⟨t,e⟩
   have e2:C8p rr (n+1) lex acc s=(acc,s,0):=by
    rw[C8p];intro n' t _ e;exact hs ⟨t,e⟩
   rw[e1,e2]
theorem C3e {rd:List UInt8->Except Int (Dv×List UInt8)}:∀(n:Nat) (acc:List Dv) (s:List UInt8) (ks:List Dv) (r:List UInt8),acc.length<=1->A2d rd n true acc s = .ok (ks,r)->ks.length<=1
 | 0,acc,s,ks,r,ha,h=>by
  rw[A2d]at h
  ·cases h;exact ha
  ·intros;omega
 | n+1,acc,s,ks,r,ha,h=>by
  by_cases hs:∃t,s=32::t
  ·obtain⟨t,rfl⟩:=hs;rw[A2d]at h;split at h
   ·cases h;exact ha
   ·rename_i hl;split at h
    ·cases h
    ·refine C3e n _ _ _ _ ?_ h
     have:acc=[]:=by simpa using hl
     rw[this];simp
  ·rw[A2d]at h
   ·cases h;exact ha
   ·intro n' t _ e;exact hs ⟨t,e⟩
theorem C8r:∀(k:Nat) (s:List UInt8),RelE (A2i k s) (E2g k s)
 | k,[]=>by
  have e1:A2i k [] = .error 9:=by cases k<;>rfl
  have e2:E2g k []=(A1y,[],9):=by cases k<;>rfl
  rw[e1,e2];exact⟨rfl,rfl,by decide⟩
 | 0,c::s=>by
  rw[A2i,E2g];by_cases hc:c=40
  ·rw[if_pos hc,if_pos hc];exact⟨rfl,rfl,by decide⟩
  ·rw[if_neg hc,if_neg hc];exact⟨rfl,rfl,by decide⟩
 | k+1,c::s=>by
  rw[A2i,E2g];by_cases hc:c=40
  ·rw[if_pos hc,if_pos hc];simp only[bind,Except.bind,pure,Except.pure];have a:=E2k s
   cases h1:B2i s with
   | error e=>
    rw[h1]at a;simp only at a ⊢
    have:(B5c s).2.2≠0:=by rw[a.1];exact a.2
    rw[if_pos this];simp only;rw[if_pos this];exact⟨rfl,a⟩
   | ok q=>
    obtain⟨h,s1⟩:=q;rw[h1]at a;simp only at a ⊢
    cases hs1:s1 with
    | nil=>
     have e9:=a.2 hs1
     have:(B5c s).2.2≠0:=by rw[e9];decide
     rw[if_pos this];simp only;rw[if_pos this,e9]
     have ek:A2d (A2i k) ([]:List UInt8).length h.lex [] [] = .ok ([],[]):=by
      rw[A2d];intros;contradiction
     rw[ek];simp only;split
     ·exact⟨rfl,rfl,by decide⟩
     ·exact⟨rfl,rfl,by decide⟩
    | cons x r=>
     have e1:=a.1 (by rw[hs1];simp);rw[hs1]at e1;rw[e1];simp only;rw[if_neg (show ¬(0:Int)≠0 by simp)];have b:=C8q (fun s=>C8r k s) (x::r).length h.lex [] (x::r)
     cases h2:A2d (A2i k) (x::r).length h.lex [] (x::r)with
     | error e=>
      rw[h2]at b;simp only at b ⊢;rw[if_pos (by rw[b.1];exact b.2)];exact⟨rfl,b⟩
     | ok q=>
      obtain⟨ks,s2⟩:=q;rw[h2]at b;simp only at b ⊢;rw[b];simp only;rw[if_neg (show ¬(0:Int)≠0 by simp)]
      cases s2 with
      | nil=>
       simp only;split
       ·exact⟨rfl,rfl,by decide⟩
       ·exact⟨rfl,rfl,by decide⟩
      | cons y t=>
       simp only;by_cases hl:(h.lex&&ks.isEmpty)=true
       ·rw[if_pos hl];rw[Bool.and_eq_true]at hl
        have:ks=[]:=by simpa using hl.2
        rw[if_pos (.inr ⟨hl.1,by rw[this];decide⟩)];exact⟨rfl,rfl,E2h _⟩
       ·rw[if_neg hl]
        have hlen:¬(h.lex=true/\ks.length≠1):=by
         rintro⟨k1,k2⟩;have h3:=k1▸h2;have:=C3e _ _ _ _ _ (by simp) h3
         have h4:ks≠[]:=by
          intro e;rw[k1,e]at hl;exact hl rfl
         have:=List.length_pos_iff.2 h4;omega
        rw[takB];by_cases hy:y=41
        ·rw[if_pos hy,if_neg (by rintro(e | e);exact e hy;exact hlen e)];rfl
        ·rw[if_neg hy,if_pos (.inl hy)];exact⟨rfl,rfl,by decide⟩
  ·rw[if_neg hc,if_neg hc];exact⟨rfl,rfl,by decide⟩
theorem A0l (l:List UInt8):(⟨l.toArray⟩:ByteArray).size=l.length:=by show l.toArray.size=_;simp
theorem A6w (l:List UInt8):(⟨l.toArray⟩:ByteArray).data.toList=l:=by simp
theorem F1o (l:List UInt8) {j:Nat} (h:j<=l.length):A3k (.t (.v (.string ⟨l.toArray⟩))) none (some (.t (iv (j:Int))))=some (.t (sv (bs (l.take j)))):=by
 have:=E6m (bs l) j (by rw[A0l];exact h);rw[this,<-A6q ((bs l).extract 0 j),Lib.extract_data,A6w];simp
theorem C5h (l:List UInt8) {j:Nat} (h:j<=l.length):A3k (.t (.v (.string ⟨l.toArray⟩))) (some (.t (iv (j:Int)))) none=some (.t (sv (bs (l.drop j)))):=by
 have:=D7i (bs l) j (by rw[A0l];exact h);rw[this,<-A6q ((bs l).extract j (bs l).size),Lib.extract_data,A6w,A0l];rw[List.take_of_length_le (by simp)]
theorem D4k (l:List UInt8) {i j:Nat} (h1:i<=j) (h:j<=l.length):A3k (.t (.v (.string ⟨l.toArray⟩))) (some (.t (iv (i:Int)))) (some (.t (iv (j:Int))))=some (.t (sv (bs ((l.drop i).take (j-i))))):=by
 have:=E1b (bs l) i j h1 (by rw[A0l];exact h);rw[this,<-A6q ((bs l).extract i j),Lib.extract_data,A6w]
theorem D7r (l:List UInt8) {j:Nat} {c:UInt8} (h:l[j]?=some c):B6x (.t (.v (.string ⟨l.toArray⟩))) (.t (iv (j:Int)))=some (.t (cv c)):=
 A4c (bs l) j c (by rw[A6w];exact h)
theorem D4l (l:List UInt8) {c:UInt8} (h:l[0]?=some c):B6x (.t (.v (.string ⟨l.toArray⟩))) (.t (iv 0))=some (.t (cv c)):=D7r l (j:=0) h
theorem D1j (x c:UInt8):((x.toNat:Int) !=(c.toNat:Int)) = !decide (x=c):=by
 by_cases h:x=c
 ·subst h;simp
 ·have:¬x.toNat=c.toNat:=fun e=>h (UInt8.toNat_inj.1 e);rw[decide_eq_false h,Bool.not_false,bne_iff_ne];omega
theorem E2l (x:UInt8) (c:Nat) (hc:c<256):((x.toNat:Int)==(c:Int))=decide (x=UInt8.ofNat c):=by
 by_cases h:x=UInt8.ofNat c
 ·subst h
  have:(UInt8.ofNat c).toNat=c:=by rw[UInt8.toNat_ofNat'];omega
  rw[this];simp
 ·rw[decide_eq_false h,beq_eq_false_iff_ne];intro e;refine h (UInt8.toNat_inj.1 ?_);rw[UInt8.toNat_ofNat'];omega
def takT (c:UInt8) (l:List UInt8):T:=.tu [sv (bs (rTak c l).1),iv (rTak c l).2]
def STk (l:List UInt8) (c:UInt8) (j:Nat):A0b:=⟨[(6,.t (iv (j:Int))),(1,.t (sv (bs [c]))),(0,.t (sv (bs l)))],[],0,30⟩
theorem D7s (l:List UInt8) (c:UInt8) (hl:l.length<=2100000000000):A0z Tryz.prog (G q) 236 [sv (bs l),sv (bs [c])] (· = takT c l):=by
 refine D1g.call rfl ?_;(conv in C0a=>cbv)
 obtain⟨R,hR⟩:∃R,R=takT c l:=⟨_,rfl⟩
 rw[<-hR];refine A0a A1b ?_;simp -implicitDefEqProofs;refine A1f (α:=Unit) (fun _=>⟨[(1,.t (sv (bs [c]))),(0,.t (sv (bs l)))],[],0,30⟩) (fun _=>∃r,l=c::r) (fun _=>rfl) ?_ ?_
 ·refine A0a A1b ?_;simp -implicitDefEqProofs;refine A0n ?_;refine A1a (STk l c) (fun j=>1-j) (fun j=>j=0\/(j=1/\∃r,l=c::r)) 0 (fun _=>rfl) (.inl rfl) ?_ rfl ?_
  ·exact A0e (by simp -implicitDefEqProofs [STk])
  rintro j hj;refine A0c A1b ?_;rcases hj with rfl | ⟨rfl,hr⟩
  ·have i2:=D4l [c] (c:=c) rfl
   cases hx:l[0]? with
   | none=>
    have h0:l=[]:=by
     cases l with
     | nil=>rfl
     | cons _ _=>cases hx
    subst h0;have e:R = .tu [sv (bs []),iv 9]:=hR;simp -implicitDefEqProofs [STk,A0l,e]
   | some x=>
    have hpos:0<l.length:=(List.getElem?_eq_some_iff.1 hx).1
    obtain⟨r,hr⟩:∃r,l=x::r:=by
     cases l with
     | nil=>simp at hx
     | cons y r=>simp at hx;subst hx;exact⟨r,rfl⟩
    have i1:=D4l l hx
    have b1:((0:Int)==(l.length:Int))=false:=by rw[beq_eq_false_iff_ne];omega
    by_cases hc:x=c
    ·have b2:=D1j x c;rw[decide_eq_true hc,Bool.not_true]at b2;have w1:IntKind.i64.wrap 1=1:=rfl;simp -implicitDefEqProofs [STk,A0l,b1,i1,i2,b2,w1];exact Abs.Next.mk 1 ⟨.inr ⟨rfl,r,by rw[hr,hc]⟩,by omega⟩ (A0e (by simp -implicitDefEqProofs [STk]))
    ·have b2:=D1j x c;rw[decide_eq_false hc,Bool.not_false]at b2
     have e:R = .tu [sv (bs l),iv 8]:=by
      rw[hR,takT,rTak,hr,takB,if_neg hc]
     simp -implicitDefEqProofs [STk,A0l,b1,i1,i2,b2,e]
  ·simp -implicitDefEqProofs [STk,A0l];exact Abs.Next.mk () hr (A0e (by simp -implicitDefEqProofs))
 ·rintro _ ⟨r,hr⟩
  have e:R = .tu [sv (bs r),iv 0]:=by rw[hR,takT,rTak,hr,takB,if_pos rfl]
  have s1:=C5h l (j:=1) (by rw[hr];simp)
  have s2:l.drop 1=r:=by rw[hr];rfl
  rw[s2]at s1;have s1:A3k (.t (.v (.string ⟨l.toArray⟩))) (some (.t (iv 1))) none=some (.t (sv (bs r))):=s1;refine A0c A1b ?_;simp -implicitDefEqProofs [A0l,s1,e]
theorem C3f {l:List UInt8} {j:Nat} {c:UInt8} (hc:l[j]?=some c) (h:∀(i:Nat) x,i<j->l[i]?=some x->okAt false i x=true) (hj:j<=32):A0v false (bs (l.take (j+1)))=(decide (j<32)&&okAt false j c):=by
 have hlt:j<l.length:=(List.getElem?_eq_some_iff.1 hc).1
 have hsz:(bs (l.take (j+1))).size=j+1:=by rw[A0l,List.length_take];omega
 rw[Bool.eq_iff_iff,A8g,hsz,A6w,Bool.and_eq_true,decide_eq_true_iff];constructor
 ·rintro⟨_,h2,h3⟩;refine⟨by omega,h3 j c ?_⟩;rw[List.getElem?_take,if_pos (by omega)];exact hc
 ·rintro⟨h1,h2⟩;refine⟨by omega,by omega,fun i x hx=>?_⟩;rw[List.getElem?_take]at hx;split at hx
  ·by_cases e:i=j
   ·subst e;rw[hc]at hx;injection hx with hx;subst hx;exact h2
   ·exact h i x (by omega) hx
  ·cases hx
def namT (l:List UInt8):T:=.tu [sv (bs (rNam l).1),sv (bs (rNam l).2.1),iv (rNam l).2.2]
def SRn (l:List UInt8) (j:Nat):A0b:=⟨[(5,.t (iv (j:Int))),(0,.t (sv (bs l)))],[],0,49⟩
structure OkRn (l:List UInt8) (j:Nat):Prop where
 le:j<=l.length
 big:j<=32
 eq:j+A4s j (l.drop j)=A4s 0 l
 all:∀(i:Nat) x,i<j->l[i]?=some x->okAt false i x=true
theorem B6d {α:Type} {l:List α} {j:Nat} {c:α} (h:l[j]?=some c):l.drop j=c::l.drop (j+1):=by
 obtain⟨hlt,e⟩:=List.getElem?_eq_some_iff.1 h;rw[List.drop_eq_getElem_cons hlt,e]
theorem C8s (l:List UInt8) (hl:l.length<=2100000000000):A0z Tryz.prog (G q) 237 [sv (bs l)] (· = namT l):=by
 have C:Ctx Tryz.prog (G q) (orc [(60,gNm)]):=(A0x.cons (hRNm (q:=q)) .nil).ctx mixed;refine D7p.call rfl ?_;(conv in C2z=>cbv)
 obtain⟨R,hR⟩:∃R,R=namT l:=⟨_,rfl⟩
 rw[<-hR]
 obtain⟨n,hn⟩:∃n,n=A4s 0 l:=⟨_,rfl⟩
 have hnle:n<=l.length:=by rw[hn];exact B8f l 0
 refine A0a C ?_;simp -implicitDefEqProofs;refine A0a C ?_;simp -implicitDefEqProofs;refine A1f (α:=Unit) (fun _=>SRn l n) (fun _=>True) (fun _=>rfl) ?_ ?_
 ·refine A0n ?_;refine A1a (SRn l) (fun j=>l.length-j) (OkRn l) 0 (fun _=>rfl) ⟨Nat.zero_le _,Nat.zero_le _,by simp,fun i x h=>by omega⟩ ?_ rfl ?_
  ·exact A0e (by simp -implicitDefEqProofs [SRn])
  rintro j ⟨hj,hb,heq,hall⟩;refine A0c C ?_
  have hb':(j:Int)<=32:=by omega
  by_cases hlt:j<l.length
  ·obtain⟨c,hc⟩:∃c,l[j]?=some c:=⟨_,List.getElem?_eq_getElem hlt⟩
   have e1:IntKind.i64.wrap ((j:Int)+1)=((j+1:Nat):Int):=A0p (by omega) (by omega);have s1:=F1o l (j:=j+1) (by omega);have g1:=C3d (s:=bs (l.take (j+1))) (by rw[A0l,List.length_take];unfold lim;omega);rw[C3f hc hall hb]at g1;rw[B6d hc,A4s]at heq
   obtain⟨j1,hj1⟩:∃j1,j1=j+1:=⟨_,rfl⟩
   rw[<-hj1]at e1 s1 g1 heq
   cases ht:decide (j<32)&&okAt false j c with
   | true=>
    rw[ht]at g1;rw[ht,if_pos rfl]at heq;rw[Bool.and_eq_true,decide_eq_true_iff]at ht;simp -implicitDefEqProofs [SRn,A0l,hlt,hb,hb',e1,s1,g1];refine Abs.Next.mk j1 ⟨⟨by omega,by omega,by omega,fun i x hi hx=>?_⟩,by omega⟩ (A0e (by simp -implicitDefEqProofs [SRn]));by_cases e:i=j
    ·subst e;rw[hc]at hx;injection hx with hx;subst hx;exact ht.2
    ·exact hall i x (by omega) hx
   | false=>
    rw[ht]at g1;rw[ht,if_neg (by simp)]at heq
    have e:j=n:=by omega
    subst e;simp -implicitDefEqProofs [SRn,A0l,hlt,hb,hb',e1,s1,g1];exact Abs.Next.mk () trivial (A0e (by simp -implicitDefEqProofs))
  ·rw[List.drop_of_length_le (by omega),A4s]at heq
   have e:j=n:=by omega
   subst e;simp -implicitDefEqProofs [SRn,A0l,hlt];exact Abs.Next.mk () trivial (A0e (by simp -implicitDefEqProofs))
 rintro _ -;have eR:R = .tu [sv (bs (rNam l).1),sv (bs (rNam l).2.1),iv (rNam l).2.2]:=hR;unfold rNam at eR;rw[<-hn]at eR;by_cases h0:n=0
 ·have b0:((n:Int)==0)=true:=by rw[h0];rfl
  cases hnil:l.isEmpty with
  | true=>
   have hl0:l=[]:=by simpa using hnil
   rw[if_pos (.inl ⟨h0,hl0⟩)]at eR;refine A0a C ?_;simp -implicitDefEqProofs [SRn,A0l,b0,A4d,A5a,hnil,eR]
  | false=>
   have hl0:l≠[]:=by intro e;rw[e]at hnil;cases hnil
   rw[if_neg (by simp[h0,hl0]),if_pos h0]at eR
   have b1:¬0<n:=by omega
   refine A0a C ?_;simp -implicitDefEqProofs [SRn,A0l,b0,A4d,A5a,hnil,b1];refine A0a C ?_;simp -implicitDefEqProofs [b0,eR]
 ·have b0:((n:Int)==0)=false:=by rw[beq_eq_false_iff_ne];omega
  have b1:0<n:=by omega
  by_cases he:n=l.length
  ·have b2:((n:Int)==(l.length:Int))=true:=by rw[beq_iff_eq];omega
   rw[if_pos (.inr ⟨b1,he⟩)]at eR;refine A0a C ?_;simp -implicitDefEqProofs [SRn,A0l,b0,b1,b2,eR]
  ·have b2:((n:Int)==(l.length:Int))=false:=by rw[beq_eq_false_iff_ne];omega
   rw[if_neg (by omega),if_neg h0]at eR;have s1:=F1o l hnle;have s2:=C5h l hnle;refine A0a C ?_;simp -implicitDefEqProofs [SRn,A0l,b0,b1,b2];refine A0a C ?_;simp -implicitDefEqProofs [b0];refine A0c C ?_;simp -implicitDefEqProofs [s1,s2,eR]
theorem F1p {α:Type} (p:α->Bool):∀(d:List α) (k:Nat),k<(d.takeWhile p).length->∃c,d[k]?=some c/\p c=true
 | [],k,h=>by simp at h
 | a::d,k,h=>by
  rw[List.takeWhile_cons]at h;split at h
  ·rename_i ha
   cases k with
   | zero=>exact⟨a,rfl,ha⟩
   | succ k=>simpa using F1p p d k (by simpa using h)
  ·simp at h
theorem E2m {α:Type} (p:α->Bool):∀(d:List α) (c:α),d[(d.takeWhile p).length]?=some c->p c=false
 | [],c,h=>by simp at h
 | a::d,c,h=>by
  rw[List.takeWhile_cons]at h;split at h
  ·exact E2m p d c (by simpa using h)
  ·rename_i ha;simp at h;subst h;simpa using ha
theorem tw_le {α:Type} (p:α->Bool) (d:List α):(d.takeWhile p).length<=d.length:=by
 have:=congrArg List.length (List.takeWhile_append_dropWhile (p:=p) (l:=d));rw[List.length_append]at this;omega
def nmbT (l:List UInt8):T:=.tu [iv (rNum l).1,sv (bs (rNum l).2.1),iv (rNum l).2.2]
def SRm (l:List UInt8) (j:Nat):A0b:=⟨[(5,.t (iv (j:Int))),(0,.t (sv (bs l)))],[],0,66⟩
theorem F1q (l:List UInt8):(sgn l).1.length+(sgn l).2.length=l.length:=by
 have:=congrArg List.length (B9l l);rwa[List.length_append]at this
theorem F1r (l:List UInt8) (k:Nat):l[(sgn l).1.length+k]?=(sgn l).2[k]?:=by
 have:=congrArg (fun x:List UInt8=>x[(sgn l).1.length+k]?) (B9l l);simp only[List.getElem?_append_right (Nat.le_add_right _ _),Nat.add_sub_cancel_left]at this;exact this.symm
theorem C1o (l:List UInt8) (hl:l.length<=2100000000000):A0z Tryz.prog (G q) 238 [sv (bs l)] (· = nmbT l):=by
 have C:Ctx Tryz.prog (G q) (orc [(180,gNu)]):=(A0x.cons (hRNu (q:=q)) .nil).ctx mixed;refine C8m.call rfl ?_;(conv in B7k=>cbv)
 obtain⟨R,hR⟩:∃R,R=nmbT l:=⟨_,rfl⟩
 rw[<-hR]
 obtain⟨n,hn⟩:∃n,n=B2c l:=⟨_,rfl⟩
 obtain⟨d,hd⟩:∃d,d=(sgn l).2:=⟨_,rfl⟩
 obtain⟨sg,hsg⟩:∃sg,sg=(sgn l).1.length:=⟨_,rfl⟩
 have hlen:sg+d.length=l.length:=by rw[hsg,hd];exact F1q l
 have hn2:n=sg+(d.takeWhile A0w).length:=by rw[hn,B2c,hsg,hd]
 have htl:=tw_le A0w d
 have hget:∀k,l[sg+k]?=d[k]?:=fun k=>by rw[hsg,hd];exact F1r l k
 refine A0a C ?_;simp -implicitDefEqProofs;refine A0a C ?_;simp -implicitDefEqProofs;refine A1f (α:=Unit) (fun _=>SRm l sg) (fun _=>True) (fun _=>rfl) ?_ ?_
 ·refine A0c C ?_
  cases hx:l[0]? with
  | none=>
   have h0:l=[]:=by
    cases l with
    | nil=>rfl
    | cons _ _=>cases hx
   subst h0;have:sg=0:=hsg;subst this;simp -implicitDefEqProofs [A0l];exact Abs.Next.mk () trivial (A0e (by simp -implicitDefEqProofs [SRm]))
  | some x=>
   have hpos:0<l.length:=(List.getElem?_eq_some_iff.1 hx).1
   obtain⟨r,hr⟩:∃r,l=x::r:=by
    cases l with
    | nil=>simp at hx
    | cons y r=>simp at hx;subst hx;exact⟨r,rfl⟩
   have i1:=D4l l hx;have b1:=E2l x 45 (by omega);by_cases hc:x=45
   ·have:sg=1:=by rw[hsg,hr,hc];rfl
    subst this;rw[decide_eq_true (show x=UInt8.ofNat 45 from hc)]at b1;have b1:((x.toNat:Int)==45)=true:=b1;simp -implicitDefEqProofs [A0l,hpos,i1,b1];exact Abs.Next.mk () trivial (A0e (by simp -implicitDefEqProofs [SRm]))
   ·have:sg=0:=by
     rw[hsg,hr];unfold sgn;split
     ·rename_i e;injection e with e _;exact absurd e hc
     ·rfl
    subst this;rw[decide_eq_false (show ¬x=UInt8.ofNat 45 from hc)]at b1;have b1:((x.toNat:Int)==45)=false:=b1;simp -implicitDefEqProofs [A0l,hpos,i1,b1];exact Abs.Next.mk () trivial (A0e (by simp -implicitDefEqProofs [SRm]))
 rintro _ -;refine A1f (α:=Unit) (fun _=>SRm l n) (fun _=>True) (fun _=>rfl) ?_ ?_
 ·refine A0n ?_;refine A1a (SRm l) (fun j=>l.length-j) (fun j=>sg<=j/\j<=n) sg (fun _=>rfl) ⟨Nat.le_refl _,by omega⟩ (Sub.refl _) rfl ?_;rintro j ⟨hj,hjn⟩;refine A0c C ?_
  obtain⟨k,rfl⟩:∃k,j=sg+k:=⟨j-sg,by omega⟩
  obtain⟨j,hjj⟩:∃j,j=sg+k:=⟨_,rfl⟩
  have hgk:=hget k;rw[<-hjj]at hgk hjn hj ⊢;by_cases hlt:k<(d.takeWhile A0w).length
  ·obtain⟨c,hc,hdg⟩:=F1p A0w d k hlt
   have hlj:j<l.length:=by omega
   have i1:=D7r l (hgk.trans hc);unfold A0w at hdg;rw[Bool.and_eq_true,decide_eq_true_iff,decide_eq_true_iff]at hdg;have e1:IntKind.i64.wrap ((j:Int)+1)=((j+1:Nat):Int):=A0p (by omega) (by omega)
   have b1:(48:Int)<=(c.toNat:Int):=by omega
   have b2:(c.toNat:Int)<=57:=by omega
   simp -implicitDefEqProofs [SRm,A0l,hlj,i1,b1,b2,e1];exact Abs.Next.mk (j+1) ⟨⟨by omega,by omega⟩,by omega⟩ (A0e (by simp -implicitDefEqProofs [SRm]))
  ·have ejn:j=n:=by omega
   have hkk:k=(d.takeWhile A0w).length:=by omega
   subst ejn
   cases hc:l[j]? with
   | none=>
    have hlj:¬j<l.length:=by
     have:=List.getElem?_eq_none_iff.1 hc;omega
    simp -implicitDefEqProofs [SRm,A0l,hlj];exact Abs.Next.mk () trivial (A0e (by simp -implicitDefEqProofs))
   | some c=>
    have hlj:j<l.length:=(List.getElem?_eq_some_iff.1 hc).1;have i1:=D7r l hc;have hdg:=E2m A0w d c (by rw[<-hkk,<-hgk,hc]);unfold A0w at hdg;by_cases b1:48<=c.toNat
    ·have b2:¬c.toNat<=57:=fun e=>by simp[b1,e]at hdg
     have b1':(48:Int)<=(c.toNat:Int):=by omega
     have b2':¬(c.toNat:Int)<=57:=by omega
     simp -implicitDefEqProofs [SRm,A0l,hlj,i1,b1',b2'];exact Abs.Next.mk () trivial (A0e (by simp -implicitDefEqProofs))
    ·have b1':¬(48:Int)<=(c.toNat:Int):=by omega
     simp -implicitDefEqProofs [SRm,A0l,hlj,i1,b1'];exact Abs.Next.mk () trivial (A0e (by simp -implicitDefEqProofs))
 rintro _ -;have eR:R = .tu [iv (rNum l).1,sv (bs (rNum l).2.1),iv (rNum l).2.2]:=hR;unfold rNum at eR;rw[<-hn]at eR
 have hnle:n<=l.length:=by omega
 have s1:=F1o l hnle;have s2:=C5h l hnle;have g1:=C8o (s:=bs (l.take n)) (by rw[A0l,List.length_take];omega);rw[A6w]at g1;have g1:gNu [sv (bs (l.take n))]=some (.tu [iv (numS (l.take n)).1,iv (numS (l.take n)).2]):=g1
 have e45:(l==[45])=decide (l=[45]):=by by_cases h:l=[45]<;>simp[h]
 by_cases he:n=l.length
 ·have b2:((n:Int)==(l.length:Int))=true:=by rw[beq_iff_eq];omega
  by_cases hs:l=[]\/l=[45]
  ·rw[if_pos ⟨he,hs⟩]at eR;refine A0a C ?_
   cases hnil:l.isEmpty with
   | true=>simp -implicitDefEqProofs [SRm,A0l,b2,A4d,A5a,hnil,eR]
   | false=>
    have h45:l=[45]:=hs.resolve_left (by intro e;rw[e]at hnil;cases hnil);rw[decide_eq_true h45]at e45;simp -implicitDefEqProofs [SRm,A0l,b2,A4d,A5a,hnil,e45,eR]
  ·have hnil:l.isEmpty=false:=by
    cases h:l.isEmpty with
    | false=>rfl
    | true=>exact absurd (.inl (by simpa using h)) hs
   rw[decide_eq_false (fun e=>hs (.inr e))]at e45;rw[if_neg (fun e=>hs e.2)]at eR;refine A0a C ?_;simp -implicitDefEqProofs [SRm,A0l,b2,A4d,A5a,hnil,e45];refine A0a C ?_;simp -implicitDefEqProofs [s1,g1];by_cases h0:(numS (l.take n)).2=0
   ·have b0:((numS (l.take n)).2 != 0)=false:=by simpa using h0
    rw[if_neg (by simp[h0]),if_pos he]at eR;refine A0a C ?_;simp -implicitDefEqProofs [b0];refine A0a C ?_;simp -implicitDefEqProofs [A0l,b2,eR]
   ·have b0:((numS (l.take n)).2 != 0)=true:=by simpa using h0
    rw[if_pos h0]at eR;refine A0a C ?_;simp -implicitDefEqProofs [b0,eR]
 ·have b2:((n:Int)==(l.length:Int))=false:=by rw[beq_eq_false_iff_ne];omega
  rw[if_neg (fun e=>he e.1)]at eR;refine A0a C ?_;simp -implicitDefEqProofs [SRm,A0l,b2];refine A0a C ?_;simp -implicitDefEqProofs [s1,g1];by_cases h0:(numS (l.take n)).2=0
  ·have b0:((numS (l.take n)).2 != 0)=false:=by simpa using h0
   rw[if_neg (by simp[h0]),if_neg he]at eR;refine A0a C ?_;simp -implicitDefEqProofs [b0];refine A0a C ?_;simp -implicitDefEqProofs [A0l,b2];refine A0c C ?_;simp -implicitDefEqProofs [s2,eR]
  ·have b0:((numS (l.take n)).2 != 0)=true:=by simpa using h0
   rw[if_pos h0]at eR;refine A0a C ?_;simp -implicitDefEqProofs [b0,eR]
theorem D4m (c:UInt8) (s:List UInt8):(rTak c s).1.length<=s.length:=by
 unfold rTak
 cases s with
 | nil=>exact Nat.le_refl _
 | cons x r=>
  rw[takB];split
  ·rename_i e;split at e
   ·injection e with e;subst e;simp
   ·cases e
  ·exact Nat.le_refl _
theorem E7a (s:List UInt8):(rNam s).2.1.length<=s.length:=by
 unfold rNam;split
 ·exact Nat.le_refl _
 ·split
  ·exact Nat.le_refl _
  ·simp
theorem E7b (s:List UInt8):(rNum s).2.1.length<=s.length:=by
 unfold rNum;split
 ·exact Nat.le_refl _
 ·split
  ·exact Nat.le_refl _
  ·split
   ·exact Nat.le_refl _
   ·simp
theorem E7c (s:List UInt8):(plus s).2.length<=s.length:=by
 unfold plus;split<;>simp
noncomputable def gTk:List T->Option T
 | [.v (.string s),.v (.string ⟨⟨[c]⟩⟩)]=>if s.size<=2100000000000 then some (takT c s.data.toList)else none
 | _=>none
theorem hTk:GOK Tryz.prog (G q) 236 gTk:=fun args r hr=>by
 unfold gTk at hr;split at hr
 ·rename_i s c;split at hr
  ·rename_i h;injection hr with hr;subst hr;have:=D7s (q:=q) s.data.toList c h;rwa[A6q]at this
  ·cases hr
 ·cases hr
theorem E2n {l:List UInt8} (c:UInt8) (h:l.length<=2100000000000):gTk [sv (bs l),sv (bs [c])]=some (takT c l):=by
 show(if(bs l).size<=_ then some (takT c (bs l).data.toList)else none)=_;rw[A0l,if_pos h,A6w]
noncomputable def gN28:List T->Option T:=gStr (fun s=>namT s.data.toList) 2100000000000
theorem hN28:GOK Tryz.prog (G q) 237 gN28:=A9p fun s h=>by
 have:=C8s (q:=q) s.data.toList h;rwa[A6q]at this
theorem F1s {l:List UInt8} (h:l.length<=2100000000000):gN28 [sv (bs l)]=some (namT l):=by
 have:=B3p (f:=fun s=>namT s.data.toList) (s:=bs l) (n:=2100000000000) (by rw[A0l];exact h);rwa[A6w]at this
noncomputable def gM28:List T->Option T:=gStr (fun s=>nmbT s.data.toList) 2100000000000
theorem hM28:GOK Tryz.prog (G q) 238 gM28:=A9p fun s h=>by
 have:=C1o (q:=q) s.data.toList h;rwa[A6q]at this
theorem E2o {l:List UInt8} (h:l.length<=2100000000000):gM28 [sv (bs l)]=some (nmbT l):=by
 have:=B3p (f:=fun s=>nmbT s.data.toList) (s:=bs l) (n:=2100000000000) (by rw[A0l];exact h);rwa[A6w]at this
abbrev lexI (b:Bool):Int:=if b then 1 else 0
def hdT (h:Hd):T:=.ag [iv (lexI h.lex),sv (bs h.name),iv h.frm,iv h.to,nilS]
def F1t (s:List UInt8):T:=.tu [hdT (B5c s).1,sv (bs (B5c s).2.1),iv (B5c s).2.2]
abbrev zRow:Row:=dRow 0 ⟨#[]⟩ 0 0 nilS
section
variable (k k' f t : Int) (n n' : ByteArray)
theorem hst0:A0r 1 [(1,dRow k n f t nilS),(0,zRow)] (.ptr 1 0) (.t (iv k'))=some [(1,dRow k' n f t nilS),(0,zRow)]:=rfl
theorem hst1:A0r 1 [(1,dRow k n f t nilS),(0,zRow)] (.ptr 1 1) (.t (sv n'))=some [(1,dRow k n' f t nilS),(0,zRow)]:=rfl
theorem hst2:A0r 1 [(1,dRow k n f t nilS),(0,zRow)] (.ptr 1 2) (.t (iv k'))=some [(1,dRow k n k' t nilS),(0,zRow)]:=rfl
theorem hst3:A0r 1 [(1,dRow k n f t nilS),(0,zRow)] (.ptr 1 3) (.t (iv k'))=some [(1,dRow k n f k' nilS),(0,zRow)]:=rfl
theorem hld:A0f true 5 [(1,dRow k n f t nilS),(0,zRow)] (.ptr 1 0)=some (.t (.ag [iv k,sv n,iv f,iv t,nilS])):=rfl
theorem hsto (X:Row):A0r 5 [(1,X),(0,zRow)] (.ptr 0 0) (.t (.ag [iv k,sv n,iv f,iv t,nilS]))=some [(1,X),(0,dRow k n f t nilS)]:=rfl
theorem hldr (X:Row):A0f true 5 [(1,X),(0,dRow k n f t nilS)] (.ptr 0 0)=some (.t (.ag [iv k,sv n,iv f,iv t,nilS])):=rfl
theorem hst5:A0r 5 [(1,zRow),(0,zRow)] (.ptr 1 0) (.t (.ag [iv k,sv n,iv f,iv t,nilS]))=some [(1,dRow k n f t nilS),(0,zRow)]:=rfl
end
theorem B0u (k f t:Int) (n:ByteArray) (tk:T):Row.cells 26 [.t (iv k),.t (sv n),.t (iv f),.t (iv t),.t tk]=dRow k n f t tk:=rfl
theorem bld5:A8w (fun k=>[(0,1),(1,1),(2,1),(3,1),(4,1)][k]?) [.t (iv 0),.t (sv ⟨#[]⟩),.t (iv 0),.t (iv 0),.t nilS] []=some [.t (iv 0),.t (sv ⟨#[]⟩),.t (iv 0),.t (iv 0),.t nilS]:=rfl
theorem ag5 (k f t:Int) (n:ByteArray) (tk:T):agOf [.t (iv k),.t (sv n),.t (iv f),.t (iv t),.t tk] = .t (.ag [iv k,sv n,iv f,iv t,tk]):=rfl
theorem D7t (s:List UInt8) (hl:s.length<2100000000000):A0z Tryz.prog (G q) 212 [sv (bs (40::s))] (· = F1t s):=by
 have C:Ctx Tryz.prog (G q) (orc [(236,gTk),(237,gN28),(238,gM28)]):=(A0x.cons hTk (.cons hN28 (.cons hM28 .nil))).ctx mixed;refine D7o.call rfl ?_;(conv in C2y=>cbv)
 obtain⟨R,hR⟩:∃R,R=F1t s:=⟨_,rfl⟩
 rw[<-hR];have g0:gTk [sv (bs (40::s)),sv (bs [40])]=some (.tu [sv (bs s),iv 0]):=E2n (l:=40::s) 40 (by simp;omega);refine A0a C ?_;simp -implicitDefEqProofs [B0u];refine A0a C ?_;simp -implicitDefEqProofs [B0u,bld5,ag5,hst5];refine A0a C ?_;simp -implicitDefEqProofs [g0];refine A0a C ?_;simp -implicitDefEqProofs
 obtain⟨a,ha⟩:∃a,a=(plus s).2:=⟨_,rfl⟩
 obtain⟨lx,hlx⟩:∃lx,lx=(plus s).1:=⟨_,rfl⟩
 have hal:a.length<2100000000000:=by have:=E7c s;rw[ha];omega
 refine A1f (α:=Unit) (fun _=>⟨[(0,.t (sv (bs a))),(5,.ptr 1 0),(2,.ptr 0 0)],[(1,dRow (lexI lx) ⟨#[]⟩ 0 0 nilS),(0,zRow)],2,93⟩) (fun _=>True) (fun _=>rfl) ?_ ?_
 ·refine A0c C ?_
  cases hx:s[0]? with
  | none=>
   have h0:s=[]:=by
    cases s with
    | nil=>rfl
    | cons _ _=>cases hx
   subst h0;have e1:a=[]:=ha;have e2:lx=false:=hlx;subst e1;subst e2;simp -implicitDefEqProofs [A0l];exact Abs.Next.mk () trivial (A0e (by simp -implicitDefEqProofs))
  | some x=>
   have hpos:0<s.length:=(List.getElem?_eq_some_iff.1 hx).1
   obtain⟨r,hr⟩:∃r,s=x::r:=by
    cases s with
    | nil=>simp at hx
    | cons y r=>simp at hx;subst hx;exact⟨r,rfl⟩
   have i1:=D4l s hx;have b1:=E2l x 43 (by omega);by_cases hc:x=43
   ·have e1:a=r:=by rw[ha,hr,hc];rfl
    have e2:lx=true:=by rw[hlx,hr,hc];rfl
    rw[decide_eq_true (show x=UInt8.ofNat 43 from hc)]at b1;have b1:((x.toNat:Int)==43)=true:=b1;have s1:=C5h s (j:=1) (by omega)
    have s2:s.drop 1=r:=by rw[hr];rfl
    rw[s2]at s1;have s1:A3k (.t (.v (.string ⟨s.toArray⟩))) (some (.t (iv 1))) none=some (.t (sv (bs r))):=s1;subst e2;simp -implicitDefEqProofs [A0l,hpos,i1,b1,hst0,s1];refine Abs.Next.mk () trivial ?_;rw[e1];exact A0e (by simp -implicitDefEqProofs)
   ·have e1:a=s/\lx=false:=by
     rw[ha,hlx,hr];unfold plus;split
     ·rename_i e;injection e with e _;exact absurd e hc
     ·exact⟨rfl,rfl⟩
    rw[decide_eq_false (show ¬x=UInt8.ofNat 43 from hc)]at b1;have b1:((x.toNat:Int)==43)=false:=b1;simp -implicitDefEqProofs [A0l,hpos,i1,b1];refine Abs.Next.mk () trivial ?_;rw[e1.1,e1.2];exact A0e (by simp -implicitDefEqProofs)
 rintro _ -;have eR:R = .tu [hdT (B5c s).1,sv (bs (B5c s).2.1),iv (B5c s).2.2]:=hR;unfold B5c at eR;simp only at eR;rw[<-ha,<-hlx]at eR;have g1:gN28 [sv (bs a)]=some (.tu [sv (bs (rNam a).1),sv (bs (rNam a).2.1),iv (rNam a).2.2]):=F1s (by omega);have n1:=E7a a;generalize rNam a=n at g1 n1 eR;obtain⟨n,s1,e1⟩:=n;simp only at g1 n1 eR;refine A0a C ?_;simp -implicitDefEqProofs [g1];by_cases h1:e1=0
 ·have b1:(e1 != 0)=false:=by simpa using h1
  rw[if_neg (by simp[h1])]at eR;refine A0a C ?_;simp -implicitDefEqProofs [b1];refine A0a C ?_;simp -implicitDefEqProofs [hst1];have g2:gTk [sv (bs s1),sv (bs [32])]=some (.tu [sv (bs (rTak 32 s1).1),iv (rTak 32 s1).2]):=E2n 32 (by omega);have n2:=D4m 32 s1;generalize rTak 32 s1=b at g2 n2 eR;obtain⟨s2,e2⟩:=b;simp only at g2 n2 eR;refine A0a C ?_;simp -implicitDefEqProofs [g2];by_cases h2:e2=0
  ·have b2:(e2 != 0)=false:=by simpa using h2
   rw[if_neg (by simp[h2])]at eR;refine A0a C ?_;simp -implicitDefEqProofs [b2];have g3:gM28 [sv (bs s2)]=some (.tu [iv (rNum s2).1,sv (bs (rNum s2).2.1),iv (rNum s2).2.2]):=E2o (by omega);have n3:=E7b s2;generalize rNum s2=m at g3 n3 eR;obtain⟨v3,s3,e3⟩:=m;simp only at g3 n3 eR;refine A0a C ?_;simp -implicitDefEqProofs [g3];by_cases h3:e3=0
   ·have b3:(e3 != 0)=false:=by simpa using h3
    rw[if_neg (by simp[h3])]at eR;refine A0a C ?_;simp -implicitDefEqProofs [b3];refine A0a C ?_;simp -implicitDefEqProofs [hst2];have g4:gTk [sv (bs s3),sv (bs [32])]=some (.tu [sv (bs (rTak 32 s3).1),iv (rTak 32 s3).2]):=E2n 32 (by omega);have n4:=D4m 32 s3;generalize rTak 32 s3=b at g4 n4 eR;obtain⟨s4,e4⟩:=b;simp only at g4 n4 eR;refine A0a C ?_;simp -implicitDefEqProofs [g4];by_cases h4:e4=0
    ·have b4:(e4 != 0)=false:=by simpa using h4
     rw[if_neg (by simp[h4])]at eR;refine A0a C ?_;simp -implicitDefEqProofs [b4];have g5:gM28 [sv (bs s4)]=some (.tu [iv (rNum s4).1,sv (bs (rNum s4).2.1),iv (rNum s4).2.2]):=E2o (by omega);generalize rNum s4=m at g5 eR;obtain⟨v5,s5,e5⟩:=m;simp only at g5 eR;refine A0a C ?_;simp -implicitDefEqProofs [g5];by_cases h5:e5=0
     ·have b5:(e5 != 0)=false:=by simpa using h5
      rw[if_neg (by simp[h5])]at eR;refine A0a C ?_;simp -implicitDefEqProofs [b5];refine A0a C ?_;simp -implicitDefEqProofs [hst3];refine A0c C ?_;simp -implicitDefEqProofs [hld,hsto,hldr,eR,hdT]
     ·have b5:(e5 != 0)=true:=by simpa using h5
      rw[if_pos h5]at eR;refine A0a C ?_;simp -implicitDefEqProofs [b5,hld,hsto,hldr,eR,hdT]
    ·have b4:(e4 != 0)=true:=by simpa using h4
     rw[if_pos h4]at eR;refine A0a C ?_;simp -implicitDefEqProofs [b4,hld,hsto,hldr,eR,hdT]
   ·have b3:(e3 != 0)=true:=by simpa using h3
    rw[if_pos h3]at eR;refine A0a C ?_;simp -implicitDefEqProofs [b3,hld,hsto,hldr,eR,hdT]
  ·have b2:(e2 != 0)=true:=by simpa using h2
   rw[if_pos h2]at eR;refine A0a C ?_;simp -implicitDefEqProofs [b2,hld,hsto,hldr,eR,hdT]
 ·have b1:(e1 != 0)=true:=by simpa using h1
  rw[if_pos h1]at eR;refine A0a C ?_;simp -implicitDefEqProofs [b1,hld,hsto,hldr,eR,hdT]
noncomputable def gHd:List T->Option T
 | [.v (.string ⟨⟨c::s⟩⟩)]=>if c=40/\s.length<2100000000000 then some (F1t s)else none
 | _=>none
theorem hHd:GOK Tryz.prog (G q) 212 gHd:=fun args r hr=>by
 unfold gHd at hr;split at hr
 ·split at hr
  ·rename_i h;injection hr with hr;subst hr;obtain⟨rfl,h⟩:=h;exact D7t _ h
  ·cases hr
 ·cases hr
theorem C8t (lex:Bool) (ks:List Dv):(A2h lex ks != 1) = !lex:=by
 unfold A2h;cases lex
 ·cases ks<;>rfl
 ·rfl
theorem D1k (lex:Bool) (ks:List Dv) (x:Dv):A2h lex (ks++[x])=if(A2h lex ks==0)=true then 2 else A2h lex ks:=by
 unfold A2h;cases lex
 ·cases ks<;>rfl
 ·rfl
def kRow (k:Int) (n:ByteArray) (f t:Int) (p:PV):Row:=.cells 26 [.t (iv k),.t (sv n),.t (iv f),.t (iv t),p]
section
variable (k : Int) (n : ByteArray) (f t : Int) (p p' : PV)
theorem kl4 (R:Heap):A0f false 1 ((1,kRow k n f t p)::R) (.ptr 1 4)=some p:=rfl
end
theorem encZ:encD A1y=[iv 0,sv ⟨#[]⟩,iv 0,iv 0,nilS]:=rfl
def parT (l:List UInt8):T:=match parD l with
 | .ok d=>.tu [.ag (encD d),iv 0]
 | .error e=>.tu [.ag (encD A1y),iv e]
theorem E7d {l:List UInt8} (h:65536<l.length):parT l = .tu [.ag (encD A1y),iv 7]:=by
 unfold parT parD;rw[if_pos h]
end Go.Proofs.YtmplckgbeaifkaaGreatDoor
namespace Go.Abs
open Go
def D7u (f:A0b->Option (Exit×A0b)):Nat->A0b->Option (Exit×A0b)
 | 0,_=>none
 | k+1,s=>match f s with
  | some (.normal,s')=>D7u f k s'
  | r=>r
def C5i:List (Nat×PV)->List Nat->List (Nat×PV)
 | [],_=>[]
 | (k,p)::r,seen=>if seen.contains k then C5i r seen else(k,p)::C5i r (k::seen)
theorem C0c:∀(l:List (Nat×PV)) (seen:List Nat) q,q∈C5i l seen->look l q.1=some q.2/\q.1∉seen
 | [],seen,q,h=>by simp[C5i]at h
 | (k,p)::r,seen,q,h=>by
  simp only[C5i]at h;split at h
  ·rename_i hk;obtain⟨h1,h2⟩:=C0c r seen q h;have:k≠q.1:=fun e=>h2 (by rw[<-e];simpa using hk);simp[this,h1,h2]
  ·rename_i hk;rcases List.mem_cons.1 h with rfl | h
   ·simpa using hk
   ·obtain⟨h1,h2⟩:=C0c r (k::seen) q h;simp only[List.mem_cons,not_or]at h2;have:k≠q.1:=fun e=>h2.1 e.symm;simp[this,h1,h2.2]
def E9r:PV->List Nat
 | .row b _ _ _=>[b]
 | _=>[]
def F1u (H:Heap):List Nat:=H.flatMap fun q=>match q.2 with
 | .cells _ cs=>cs.flatMap E9r
 | _=>[]
def F4l:MK->Bool
 | .call _=>true
 | _=>false
def F4m:List Nat:=[]
def given (m:Mini) (s:A0b):List Nat:=match m.k with
 | .call f=>if F4m.contains f then m.xs.flatMap (fun x=>E9r (x.ev s.env))else []
 | _=>[]
def preZ (m:Mini) (s:A0b):A0b:=if F4l m.k then(match F1u s.H++given m s with | []=>s | F=>s.frz F)else s
def runZ (Φ:A0o):List Mini->A0b->Option A0b
 | [],s=>some s
 | m::r,s=>match C1i Φ (preZ m s) m with
  | some s'=>runZ Φ r s'
  | none=>none
def eqV:Value->Value->Bool
 | .int k a,.int k' b=>decide (k=k')&&(a==b)
 | .bool a,.bool b=>a==b
 | .string a,.string b=>a.data.toList==b.data.toList
 | .slice none 0 0,.slice none 0 0=>true
 | _,_=>false
theorem F4n {a b:Value} (h:eqV a b=true):a=b:=by
 unfold eqV at h;split at h
 ·simp only[Bool.and_eq_true,decide_eq_true_eq,beq_iff_eq]at h;rw[h.1,h.2]
 ·simp at h;rw[h]
 ·rename_i a b;simp only[beq_iff_eq]at h
  have:a=b:=by
   cases a;cases b;congr;exact Array.toList_inj.1 h
  rw[this]
 ·rfl
 ·cases h
mutual
def eqT:T->T->Bool
 | .v a,.v b=>eqV a b
 | .sl n l,.sl m r=>(n==m)&&eqTs l r
 | .ag l,.ag r=>eqTs l r
 | .tu l,.tu r=>eqTs l r
 | _,_=>false
def eqTs:List T->List T->Bool
 | [],[]=>true
 | a::l,b::r=>eqT a b&&eqTs l r
 | _,_=>false
end
mutual
theorem E9s:∀(a b:T),eqT a b=true->a=b
 | .v a,.v b,h=>by simp only[eqT]at h;rw[F4n h]
 | .sl n l,.sl m r,h=>by
  simp only[eqT,Bool.and_eq_true,beq_iff_eq]at h;rw[h.1,C0d l r h.2]
 | .ag l,.ag r,h=>by simp only[eqT]at h;rw[C0d l r h]
 | .tu l,.tu r,h=>by simp only[eqT]at h;rw[C0d l r h]
 | .v _,.sl _ _,h=>by simp[eqT]at h
 | .v _,.ag _,h=>by simp[eqT]at h
 | .v _,.tu _,h=>by simp[eqT]at h
 | .v _,.pt _,h=>by simp[eqT]at h
 | .sl _ _,.v _,h=>by simp[eqT]at h
 | .sl _ _,.ag _,h=>by simp[eqT]at h
 | .sl _ _,.tu _,h=>by simp[eqT]at h
 | .sl _ _,.pt _,h=>by simp[eqT]at h
 | .ag _,.v _,h=>by simp[eqT]at h
 | .ag _,.sl _ _,h=>by simp[eqT]at h
 | .ag _,.tu _,h=>by simp[eqT]at h
 | .ag _,.pt _,h=>by simp[eqT]at h
 | .tu _,.v _,h=>by simp[eqT]at h
 | .tu _,.sl _ _,h=>by simp[eqT]at h
 | .tu _,.ag _,h=>by simp[eqT]at h
 | .tu _,.pt _,h=>by simp[eqT]at h
 | .pt _,_,h=>by simp[eqT]at h
theorem C0d:∀(a b:List T),eqTs a b=true->a=b
 | [],[],_=>rfl
 | a::l,b::r,h=>by
  simp only[eqTs,Bool.and_eq_true]at h;rw[E9s a b h.1,C0d l r h.2]
 | [],_::_,h=>by simp[eqTs]at h
 | _::_,[],h=>by simp[eqTs]at h
end
def eqP:PV->PV->Bool
 | .t x,.t y=>eqT x y
 | .row b o n z,.row b' o' n' z'=>b==b'&&o==o'&&n==n'&&z==z'
 | .ptr b o,.ptr b' o'=>b==b'&&o==o'
 | _,_=>false
theorem F4o (x y:PV) (h:eqP x y=true):x=y:=by
 unfold eqP at h;split at h
 ·rw[E9s _ _ h]
 ·simp at h;obtain⟨⟨⟨rfl,rfl⟩,rfl⟩,rfl⟩:=h;rfl
 ·simp at h;obtain⟨rfl,rfl⟩:=h;rfl
 ·cases h
def agnB (Φ:A0o) (pd:Pend) (H:Heap) (nx:Nat) (ks:List Nat):Bool:=ks.all fun i=>match look pd i with
 | some x=>(match A1x Φ H nx x.1 x.2.1 with
  | some v=>eqP v x.2.2
  | none=>false)
 | none=>false
theorem D7v {Φ:A0o} {pd:Pend} {H:Heap} {nx:Nat} {ks:List Nat} (h:agnB Φ pd H nx ks=true):agnP Φ pd H nx ks:=by
 intro i hi;have:=List.all_eq_true.1 h i hi;split at this
 ·rename_i x hx;split at this
  ·rename_i v hv;exact⟨x,hx,by rw[hv,F4o _ _ this]⟩
  ·cases this
 ·cases this
def runB (Φ:A0o) (k:Nat):Nat->Nat->Pend->List GI->A0b->Option A0b
 | _,_,_,[],s=>some s
 | n,b,pd,.o m kp ag::r,s=>match valD Φ s m with
  | some (v,H',nx')=>if agnB Φ pd H' nx' ag then runB Φ k (n+1) b (B2w kp n m s v pd) r (({ s with H:=H',nx:=nx' }:A0b).put m.dst v)else none
  | none=>none
 | n,b,pd,.g j m::r,s=>match A0d Φ s.H ((if j=0 then s.nx else b)+k+j) m.k (m.xs.map (·.ev s.env))with
  | some (v,H',_)=>runB Φ k (n+1) (if j=0 then s.nx else b) pd r (({ s with H:=H',nx:=(if j=0 then s.nx else b)+2*k }:A0b).put m.dst v)
  | none=>none
theorem B1t {Φ:A0o} {k:Nat}:∀(l:List GI) {n b:Nat} {pd:Pend} {s s':A0b},runB Φ k n b pd l s=some s'->runG Φ k n b pd l s=some s'
 | [],n,b,pd,s,s',h=>h
 | .o m kp ag::r,n,b,pd,s,s',h=>by
  simp only[runB]at h;simp only[runG];split at h
  ·rename_i hv;split at h
   ·rename_i ha;simp only[hv,if_pos (D7v ha)];exact B1t r h
   ·cases h
  ·cases h
 | .g j m::r,n,b,pd,s,s',h=>by
  simp only[runB]at h;simp only[runG];split at h
  ·rename_i hv;simp only[hv];exact B1t r h
  ·cases h
def runF (Φ:A0o) (k:Nat):A0j->A0b->Option (Exit×A0b)
 | .skip,s=>some (.normal,s)
 | .ops l,s=>match runZ Φ l s with
  | some s1=>some (.normal,s1)
  | none=>none
 | .draw l,s=>match runD Φ l s with
  | some s1=>some (.normal,s1)
  | none=>none
 | .drawG k l,s=>match runB Φ k 0 0 [] l s with
  | some s1=>some (.normal,s1)
  | none=>none
 | .seq a b,s=>match runF Φ k a s with
  | some (.normal,s1)=>runF Φ k b s1
  | r=>r
 | .cond c a b,s=>match c.ev s.env with
  | .t (.v (.bool t))=>bif t then runF Φ k a s else runF Φ k b s
  | _=>none
 | .block id b,s=>match runF Φ k b s with
  | some (.exit i,s1)=>if i=id then some (.normal,s1)else some (.exit i,s1)
  | r=>r
 | .loop b,s=>D7u (fun s=>match runF Φ k b { s with env:=C5i s.env [] }with
  | r=>r) k s
 | .exit id,s=>some (.exit id,s)
 | .ret,s=>some (.ret,s)
 | .scope b,s=>match runF Φ k b s with
  | some (.goto _,_)=>none
  | r=>r
section
variable {P : Program} {G : A0q} {B N : Nat} {Φ : A0o}
theorem E9t (m:Mini) (s:A0b):(preZ m s).n=s.n:=by
 unfold preZ;split
 ·split<;>rfl
 ·rfl
theorem E7e (m:Mini) (s:A0b):Sub P G B s (preZ m s):=by
 unfold preZ;split
 ·split
  ·exact Sub.refl s
  ·exact C4l _
 ·exact Sub.refl s
theorem E9u:∀{l:List Mini} {s s':A0b},runZ Φ l s=some s'->s'.n=s.n
 | [],s,s',h=>by simp only[runZ,Option.some.injEq]at h;rw[h]
 | m::r,s,s',h=>by
  simp only[runZ]at h;split at h
  ·rename_i s1 h1;rw[E9u h,E0f h1,E9t]
  ·cases h
theorem D1l {ops:Array Oper} {Q Q':Exit->Act->World->Prop} (hq:∀e a w,Q e a w->Q' e a w):∀(l:List Oper) (a:Act) (w:World),wpList P ops Q l a w->wpList P ops Q' l a w:=by
 intro l
 induction l with
 | nil=>intro a w2 h;exact hq _ _ _ h
 | cons o r ih=>
  intro a w2 h;unfold wpList at h ⊢;split
  ·rename_i hw;rw[if_pos hw]at h;rcases h with h | ⟨h1,a0,w0,h2⟩
   ·exact .inl (A1q ih hq h)
   ·exact .inr ⟨h1,a0,w0,hq _ _ _ h2⟩
  ·rename_i hw;rw[if_neg hw]at h;exact ih _ _ h
theorem AOps.sub {ops:Array Oper} {l:List Oper} {Q:A0b->Prop} {s s':A0b} (h:Sub P G B s s') (hc:AOps P G B ops l Q s'):AOps P G B ops l Q s:=fun L a w hi=>by
 obtain⟨L',hi',hx,hb⟩:=h L a w hi;exact D1l (fun _ _ _ hp=>Post.later hx hb hp) _ _ _ (hc L' a w hi')
theorem B6e (hΦ:Φ.Sound P G) {d:Bool} {ops:Array Oper} {Q:A0b->Prop}:∀(os:List Oper) {l:List Mini} {s s':A0b},A9c P G N d ops os l->s.n=N->runZ Φ l s=some s'->Q s'->AOps P G B ops os Q s
 | [],l,s,s',ha,hn,h,hq=>by
  simp only[A9c]at ha;subst ha;simp only[runZ,Option.some.injEq]at h;subst h;exact D2k hq
 | o::rest,l,s,s',ha,hn,h,hq=>by
  simp only[A9c]at ha;obtain⟨m,l',rfl,hm,hr⟩:=ha;obtain⟨hc,hdst,hd,hw⟩:=A4y hm;simp only[runZ]at h;refine AOps.sub (E7e m s) ?_;have hn:(preZ m s).n=N:=(E9t m s).trans hn;generalize preZ m s=s at h hn;split at h
  ·rename_i s1 h1;unfold C1i at h1;rw[<-hw s]at h1
   have hd':∀k,o.dst=some k->k<s.n:=fun k hk=>by rw[hn];exact hd k hk
   rw[hdst]at h1;split at h1
   ·rename_i hww;split at h1
    ·rename_i r H' nx' hv;injection h1 with h1;subst h1;exact C6g hww hd' (B0e hΦ hc hv) (B6e hΦ rest hr (by rw[B2t];exact hn) h hq)
    ·cases h1
   ·rename_i hww;injection h1 with h1;subst h1;exact C6h hww hd' (B6e hΦ rest hr (by rw[B2t];exact hn) h hq)
   ·cases h1
  ·cases h
theorem A7k (k:Nat):∀(M:A0j) {s:A0b} {e:Exit} {s':A0b},runF Φ k M s=some (e,s')->s'.n=s.n
 | .skip,s,e,s',h=>by simp only[runF,Option.some.injEq,Prod.mk.injEq]at h;rw[h.2]
 | .ops l,s,e,s',h=>by
  simp only[runF]at h;split at h
  ·rename_i s1 h1;simp only[Option.some.injEq,Prod.mk.injEq]at h;rw[<-h.2,E9u h1]
  ·cases h
 | .draw l,s,e,s',h=>by
  simp only[runF]at h;split at h
  ·rename_i s1 h1;simp only[Option.some.injEq,Prod.mk.injEq]at h;rw[<-h.2,E0g h1]
  ·cases h
 | .drawG k l,s,e,s',h=>by
  simp only[runF]at h;split at h
  ·rename_i s1 h1;simp only[Option.some.injEq,Prod.mk.injEq]at h;rw[<-h.2,D3e l (B1t l h1)]
  ·cases h
 | .seq a b,s,e,s',h=>by
  simp only[runF]at h;split at h
  ·rename_i s1 h1;rw[A7k k b h,A7k k a h1]
  ·exact A7k k a h
 | .cond c a b,s,e,s',h=>by
  simp only[runF]at h;split at h
  ·rename_i t ht;cases t
   ·exact A7k k b h
   ·exact A7k k a h
  ·cases h
 | .block id b,s,e,s',h=>by
  simp only[runF]at h;split at h
  ·rename_i i s1 h1;split at h
   ·simp only[Option.some.injEq,Prod.mk.injEq]at h;rw[<-h.2,A7k k b h1]
   ·simp only[Option.some.injEq,Prod.mk.injEq]at h;rw[<-h.2,A7k k b h1]
  ·exact A7k k b h
 | .loop b,s,e,s',h=>by
  simp only[runF]at h
  have:∀(m:Nat) (s:A0b),D7u (fun s=>runF Φ k b { s with env:=C5i s.env [] }) m s=some (e,s')->s'.n=s.n:=by
   intro m
   induction m with
   | zero=>intro s h;cases h
   | succ m ih=>
    intro s h;simp only[D7u]at h;split at h
    ·rename_i s1 h1;have:=A7k k b h1;rw[ih s1 h,this]
    ·have:=A7k k b h;exact this
  exact this k s h
 | .exit id,s,e,s',h=>by simp only[runF,Option.some.injEq,Prod.mk.injEq]at h;rw[h.2]
 | .ret,s,e,s',h=>by simp only[runF,Option.some.injEq,Prod.mk.injEq]at h;rw[h.2]
 | .scope b,s,e,s',h=>by
  simp only[runF]at h;split at h
  ·cases h
  ·exact A7k k b h
theorem E2p {s:A0b} (hu:True):Sub P G B s { s with env:=C5i s.env [] }:=by
 intro L a w hi;exact⟨L,⟨hi.heap,hi.nx,hi.base,hi.size,hi.defers,fun k p h=>hi.env k p (C0c _ _ _ (A0k h)).1⟩,Ext.refl _ _ _,fun _ _=>rfl⟩
theorem A3p (hΦ:Ctx P G Φ) (k:Nat):∀(M:A0j) {Q:Exit->A0b->Prop} {s:A0b} {e:Exit} {s':A0b},runF Φ k M s=some (e,s')->Q e s'->MC P G B N M Q s
 | .skip,Q,s,e,s',h,hq=>A5t hΦ .skip h hq
 | .ops l,Q,s,e,s',h,hq=>by
  simp only[runF]at h;split at h
  ·rename_i s1 h1;simp only[Option.some.injEq,Prod.mk.injEq]at h;obtain⟨rfl,rfl⟩:=h;intro c hc hn;obtain⟨id,ops,rfl,hl⟩:=A1o hc;exact B6t (B6e hΦ.sound _ (A3y hl) hn h1 hq)
  ·cases h
 | .draw l,Q,s,e,s',h,hq=>A5t hΦ (.draw l) h hq
 | .drawG k l,Q,s,e,s',h,hq=>by
  simp only[runF]at h;split at h
  ·rename_i s1 h1;exact A5t hΦ (.drawG k l) (by simp only[runM,B1t l h1];exact h) hq
  ·cases h
 | .seq a b,Q,s,e,s',h,hq=>by
  intro c hc hn;refine A3m ?_ c hc hn;simp only[runF]at h;split at h
  ·rename_i s1 h1;exact A3p hΦ k a h1 ⟨(A7k k a h1).trans hn,A3p hΦ k b h hq⟩
  ·rename_i hne;refine A3p hΦ k a h ?_;cases e
   case normal=>exact absurd h (hne s')
   all_goals exact hq
 | .cond c a b,Q,s,e,s',h,hq=>by
  simp only[runF]at h;split at h
  ·rename_i t ht;refine C4j ht ?_;cases t
   ·exact A3p hΦ k b h hq
   ·exact A3p hΦ k a h hq
  ·cases h
 | .block id b,Q,s,e,s',h,hq=>by
  refine A0n ?_;simp only[runF]at h;split at h
  ·rename_i i s1 h1;refine A3p hΦ k b h1 ?_;simp only[inBlock_exit];split at h
   ·rename_i hid;rw[if_pos hid];simp only[Option.some.injEq,Prod.mk.injEq]at h;obtain⟨rfl,rfl⟩:=h;exact hq
   ·rename_i hid;rw[if_neg hid];simp only[Option.some.injEq,Prod.mk.injEq]at h;obtain⟨rfl,rfl⟩:=h;exact hq
  ·rename_i hne;refine A3p hΦ k b h ?_;cases e
   case exit i=>exact absurd h (hne i s')
   all_goals exact hq
 | .loop b,Q,s,e,s',h,hq=>by
  simp only[runF]at h;intro c hc hn;refine D0n (fun m s=>s.n=N/\D7u (fun s=>runF Φ k b { s with env:=C5i s.env [] }) m s=some (e,s')) k ⟨hn,h⟩ (fun _ _ h=>h.1) ?_ c hc hn;rintro m s ⟨hsn,hm⟩
  cases m with
  | zero=>cases hm
  | succ m=>
   refine MC.sub (E2p trivial) rfl ?_;simp only[D7u]at hm;split at hm
   ·rename_i s1 h1;exact A3p hΦ k b h1 ⟨m,by omega,s1,Sub.refl s1,(A7k k b h1).trans hsn,hm⟩
   ·rename_i hne;refine A3p hΦ k b hm ?_;cases e
    case normal=>exact absurd hm (hne s')
    all_goals exact hq
 | .exit id,Q,s,e,s',h,hq=>A5t hΦ (.exit id) h hq
 | .ret,Q,s,e,s',h,hq=>A5t hΦ .ret h hq
 | .scope b,Q,s,e,s',h,hq=>by
  refine C4k ?_;simp only[runF]at h;split at h
  ·cases h
  ·rename_i hne;refine A3p hΦ k b h ?_;cases e
   case goto l=>exact absurd h (hne l s')
   all_goals exact hq
structure FnM where
 k:Nat
 N:Nat
 M:A0j
 vs:List RV
def endZ (s:A0b):A0b:=match F1u s.H with | []=>s | F=>s.frz F
def resT (vs:List RV) (s:A0b):Option T:=match resM s vs with
 | some ps=>match toT s.H (oneOf ps)with
  | some (r,_)=>some r
  | none=>none
 | none=>none
def callNT (tab:List (Nat×FnM)) (rounds:Nat) (Φ:A0o) (f:FuncId) (args:List T):Option T:=
 match look tab f with
 | some fm=>if args.length=fm.k then
   (match runF Φ rounds fm.M (startM fm.N args)with
   | some (.ret,s)=>resT fm.vs (endZ s)
   | _=>none)
  else none
 | none=>none
def C5j (nx:Nat) (H:Heap):Bool:=H.all fun q=>decide (q.1<nx)
def E2q (tab:List (Nat×FnM)) (rounds:Nat) (Φ:A0o) (f:FuncId) (ps:List PV) (H:Heap) (nx:Nat):Option (PV×Heap×Nat):=
 match look tab f with
 | some fm=>if ps.length=fm.k then
   (match runF Φ rounds fm.M ⟨startsP 0 ps,H,nx,fm.N⟩with
   | some (.normal,s)=>match resM s fm.vs with
    | some rs=>if C5j s.nx s.H then some (oneOf rs,s.H,s.nx)else none
    | none=>none
   | some (.ret,s)=>match resM s fm.vs with
    | some rs=>if C5j s.nx s.H then some (oneOf rs,s.H,s.nx)else none
    | none=>none
   | _=>none)
  else none
 | none=>none
def F1v (P:Program) (G:A0q) (tab:List (Nat×FnM)):Prop:=∀q∈tab,FnOK P G q.1 q.2.k q.2.N q.2.M q.2.vs
theorem D4n {nx:Nat} {H:Heap} (h:C5j nx H=true) (b:Nat) (x:Row) (hb:look H b=some x):b<nx:=by
 have:=List.all_eq_true.1 h _ (A0k hb);simpa using this
theorem B7m (hm:P.follows .mixedOrders=true) {tab:List (Nat×FnM)} (ht:F1v P G tab) (rounds:Nat) (hΦ:Φ.Sound P G) (f:FuncId) (ps:List PV) (H:Heap) (nx:Nat) (r:PV) (H':Heap) (nx':Nat)
  (h:E2q tab rounds Φ f ps H nx=some (r,H',nx')):A1n P G f ps H nx r H' nx'/\∀b x,look H' b=some x->b<nx':=by
 unfold E2q at h;split at h
 ·rename_i fm hf;split at h
  ·rename_i hk;split at h
   ·rename_i s hr;split at h
    ·rename_i rs hps;split at h
     ·rename_i ha;injection h with h;injection h with h1 h2;injection h2 with h2 h3;subst h1;subst h2;subst h3;exact⟨(ht _ (A0k hf)).callP hk (A3p ⟨hm,hΦ⟩ rounds fm.M hr ⟨.inl rfl,s,rs,Sub.refl s,hps,rfl,rfl,rfl⟩),D4n ha⟩
     ·cases h
    ·cases h
   ·rename_i s hr;split at h
    ·rename_i rs hps;split at h
     ·rename_i ha;injection h with h;injection h with h1 h2;injection h2 with h2 h3;subst h1;subst h2;subst h3;exact⟨(ht _ (A0k hf)).callP hk (A3p ⟨hm,hΦ⟩ rounds fm.M hr ⟨.inr rfl,s,rs,Sub.refl s,hps,rfl,rfl,rfl⟩),D4n ha⟩
     ·cases h
    ·cases h
   ·cases h
  ·cases h
 ·cases h
end
abbrev Memo:=List (Nat×List T×T)
def Memo.get (m:Memo) (f:Nat) (args:List T):Option T:=match m with
 | []=>none
 | (g,as',r)::rest=>if g=f then(if eqTs as' args then some r else Memo.get rest f args)else Memo.get rest f args
def B5d (P:Program) (G:A0q) (m:Memo):Prop:=∀q∈m,A0z P G q.1 q.2.1 (· = q.2.2)
theorem B5d.nil {P:Program} {G:A0q}:B5d P G []:=fun _ h=>by cases h
theorem B5d.cons {P:Program} {G:A0q} {m:Memo} {f:Nat} {as':List T} {r:T} (h:A0z P G f as' (· = r)) (hm:B5d P G m):B5d P G ((f,as',r)::m):=fun q hq=>by
 rcases List.mem_cons.1 hq with rfl | hq
 ·exact h
 ·exact hm q hq
theorem Memo.get_sound {P:Program} {G:A0q}:∀{m:Memo} {f:Nat} {args:List T} {r:T},B5d P G m->m.get f args=some r->A0z P G f args (· = r)
 | [],f,args,r,_,h=>by cases h
 | (g,as',r0)::rest,f,args,r,hm,h=>by
  have hr:B5d P G rest:=fun q hq=>hm q (List.mem_cons_of_mem _ hq);simp only[Memo.get]at h;split at h
  ·rename_i hg;split at h
   ·rename_i ha;injection h with h;subst h;subst hg;rw[<-C0d _ _ ha];exact hm (g,as',r0) List.mem_cons_self
   ·exact Memo.get_sound hr h
  ·exact Memo.get_sound hr h
abbrev A2q:=List PanicEntry
def B6f (P:Program) (G:A0q) (f:FuncId) (ps:List PV) (H:Heap) (nx:Nat) (ch:A2q) (H':Heap):Prop:=
 IsFn P f/\∀(L:Loc) (w:World) (us:Array Value),A1i P G L H w->L.nx=nx->A0m P L w ps us.toList ->
  Calls P f us w fun e w'=>∃L',e = .panicked ch/\A1i P G L' H' w'/\L'.nx=nx/\Mono L w L' w'/\Ext L H w L' H' w'
inductive Out where
 | ret (r:PV) (H:Heap) (nx:Nat)
 | pan (ch:A2q)
def E7f (P:Program) (G:A0q) (f:FuncId) (ps:List PV) (H:Heap) (nx:Nat):Out->Prop
 | .ret r H' nx'=>A1n P G f ps H nx r H' nx'
 | .pan ch=>B6f P G f ps H nx ch []
abbrev Pans:=FuncId->List PV->Heap->Nat->Option A2q
def POK (P:Program) (G:A0q) (E:Pans):Prop:=∀f ps H nx ch,E f ps H nx=some ch->B6f P G f ps H nx ch []
def B3q:List PV->Option A2q
 | [.t (.ic t (.v x))]=>some [{ v:=.iface t x,recovered:=false }]
 | [.t (.ic t (.ag [.v x]))]=>some [{ v:=.iface t (.agg #[x]),recovered:=false }]
 | _=>none
def panK (E:Pans) (H:Heap) (nx:Nat) (k:MK) (ps:List PV):Option A2q:=
 match k with
 | .hcall f=>E f ps H nx
 | .hx .pan=>B3q ps
 | _=>none
def D1m (x:Option A2q) (X:A2q->Prop) (C:Prop):Prop:=
 match x with
 | some ch=>X ch
 | none=>C
@[simp] theorem onPan_some (ch:A2q) (X:A2q->Prop) (C:Prop):D1m (some ch) X C=X ch:=rfl
@[simp] theorem onPan_none (X:A2q->Prop) (C:Prop):D1m none X C=C:=rfl
def A2n (Φ:A0o) (E:Pans):List Mini->A0b->(A0b->Prop)->(A2q->Prop)->Prop
 | [],s,K,_=>K s
 | m::r,s,K,X=>B8y (m.wants s.env)
   (D1m (panK E s.H s.nx m.k (m.xs.map (·.ev s.env))) X (A1r (A0d Φ s.H s.nx m.k (m.xs.map (·.ev s.env))) fun q=>A2n Φ E r (s.set m.dst q) K X))
   (A2n Φ E r (s.set m.dst (.t (.v undef),s.H,s.nx)) K X)
def anyP (Q:Exit->A0b->Prop) (ch:A2q):Prop:=∀s,Q (.panic ch) s
def A5c (Φ:A0o) (E:Pans):A0j->A0b->(Exit->A0b->Prop)->Prop
 | .skip,s,Q=>Q .normal s
 | .ops l,s,Q=>A2n Φ E l s (Q .normal) (anyP Q)
 | .draw l,s,Q=>A4z Φ l s (Q .normal)
 | .drawG k l,s,Q=>A7q Φ k 0 0 [] l s (Q .normal)
 | .seq a b,s,Q=>A5c Φ E a s (A5q (fun s1=>A5c Φ E b s1 Q) Q)
 | .cond c a b,s,Q=>C2m (c.ev s.env) (A5c Φ E a s Q) (A5c Φ E b s Q)
 | .block id b,s,Q=>A5c Φ E b s (A5y id Q)
 | .loop _,_,_=>False
 | .exit id,s,Q=>Q (.exit id) s
 | .ret,s,Q=>Q .ret s
 | .scope b,s,Q=>A5c Φ E b s (B4k Q)
section
variable {P : Program} {G : A0q} {B N : Nat} {Φ : A0o} {E : Pans} {Q : Exit -> A0b -> Prop} {s : A0b}
def APan (P:Program) (G:A0q) (B:Nat) (o:Oper) (s:A0b) (ch:A2q):Prop:=
 ∀L a w,Interp P G B L s a w->o.wp P a w (fun _ _=>False) (fun e a' w'=>e = .panic ch/\a'=a/\∃L',A1i P G L' [] w'/\L'.nx=s.nx/\Mono L w L' w'/\Ext L s.H w L' [] w')
theorem B0v {L:Loc} {H:Heap} {w:World} (h:A1i P G L H w):A1i P G L [] w/\Ext L H w L [] w:=
 ⟨⟨h.lt,fun _ _ hb=>(by cases hb),fun _ _ hb=>(by cases hb),fun _ _ _ _ hb=>(by cases hb),fun _ _ hb=>(by cases hb),h.glob⟩,
  ⟨Nat.le_refl _,fun _ _ _=>rfl,fun _ h=>h,fun _ h=>.inl h,fun _ ⟨_,_,hb,_⟩=>(by cases hb),A1z.refl w,A1t.refl w⟩⟩
theorem E2r {o:Oper} {f:FuncId} {args:Array Operand} {ts:Array TypeId} {ch:A2q} (ho:o.op = .call ⟨.value (.func f),args,ts⟩) (hc:B6f P G f (args.toList.map (s.ev G)) s.H s.nx ch []):APan P G B o s ch:=fun L a w hi=>by
 unfold Oper.wp
 have hr:(execOp a.eval o).run P w = .ok (.enter f (args.map a.eval)) w:=by simp[execOp,ho,resolve,Act.eval,Deferred.ofValue,invoke,hc.1.run]
 rw[hr,Oper.upon_enter];refine(hc.2 L w _ hi.heap hi.nx (B7y hi args)).mono ?_;rintro e w' ⟨L',rfl,h1,h2,h3,h4⟩;exact⟨rfl,rfl,L',h1,h2,h3,h4⟩
theorem E7g {o:Oper} {x:Operand} {ch:A2q} (ho:o.op = .panic x) (hc:B3q [s.ev G x]=some ch):APan P G B o s ch:=fun L a w hi=>by
 have h:=hi.ev x;generalize s.ev G x=p at h hc;unfold B3q at hc;split at hc
 ·rename_i t v e;injection e with e e2;subst e;injection hc with hc;subst hc;simp only[RepV,RepT]at h;obtain⟨y,hy,rfl⟩:=h;unfold Oper.wp
  have hr:(execOp a.eval o).run P w = .halt (.panic (.iface t y)) w:=by
   simp[execOp,ho,hy,Instr.panic,goPanic]
  rw[hr];exact⟨rfl,rfl,L,(B0v hi.heap).1,hi.nx,Mono.refl L w,(B0v hi.heap).2⟩
 ·rename_i t v e;injection e with e e2;subst e;injection hc with hc;subst hc;simp only[RepV,RepT,RepL]at h;obtain⟨y,hy,us,rfl,_,x,xs,e1,rfl,rfl⟩:=h;have e3:us = #[x]:=Array.ext' e1;subst e3;unfold Oper.wp
  have hr:(execOp a.eval o).run P w = .halt (.panic (.iface t (.agg #[x]))) w:=by
   simp[execOp,ho,hy,Instr.panic,goPanic]
  rw[hr];exact⟨rfl,rfl,L,(B0v hi.heap).1,hi.nx,Mono.refl L w,(B0v hi.heap).2⟩
 ·cases hc
def D1n (P:Program) (G:A0q) (B:Nat) (ops:Array Oper) (l:List Oper) (Q:Exit->A0b->Prop) (s:A0b):Prop:=
 ∀L a w,Interp P G B L s a w->wpList P ops (Post P G B Q L s.H w) l a w
theorem C8u {ops:Array Oper} {L L':Loc} {H H':Heap} {w w':World} (hq:∀e a w2,Post P G B Q L' H' w' e a w2->Post P G B Q L H w e a w2):∀(l:List Oper) (a:Act) (w2:World),wpList P ops (Post P G B Q L' H' w') l a w2->wpList P ops (Post P G B Q L H w) l a w2:=by
 intro l
 induction l with
 | nil=>intro a w2 h;exact hq _ _ _ h
 | cons o l ih=>
  intro a w2 h;unfold wpList at h ⊢;split
  ·rename_i hw;rw[if_pos hw]at h;rcases h with h | ⟨h1,a0,w0,h2⟩
   ·exact .inl (A1q ih hq h)
   ·exact .inr ⟨h1,a0,w0,hq _ _ _ h2⟩
  ·rename_i hw;rw[if_neg hw]at h;exact ih _ _ h
theorem D7w {ops:Array Oper} {o:Oper} {rest:List Oper} {r:PV} {H':Heap} {nx':Nat} (hw:s.wants ops o=some true) (hd:∀k,o.dst=some k->k<s.n)
  (ho:AOp P G B o s r H' nx') (h:D1n P G B ops rest Q (({ s with H:=H',nx:=nx' }:A0b).put o.dst r)):D1n P G B ops (o::rest) Q s:=fun L a w hi=>by
 unfold wpList;rw[if_pos (hi.wants hw)];refine .inl (A1q ?_ (fun _ _ _ h=>h.elim) (ho L a w hi));rintro a' w' ⟨v,L',rfl,hr,hok,rfl,hm,hx⟩;have hp:=h L' _ w' (B1h hi hd hr hok hm);rw[B0a]at hp;refine C8u ?_ _ _ _ hp;rintro e a w2 ⟨s2,L2,q,hi2,hx2,hb2⟩;exact⟨s2,L2,q,hi2,hx.trans hx2,fun b hb=>(hb2 b hb).trans (hm.μ b (Nat.lt_of_lt_of_le hb hi.base))⟩
theorem D7x {ops:Array Oper} {o:Oper} {rest:List Oper} (hw:s.wants ops o=some false) (hd:∀k,o.dst=some k->k<s.n)
  (h:D1n P G B ops rest Q (s.put o.dst (.t (.v undef)))):D1n P G B ops (o::rest) Q s:=fun L a w hi=>by
 unfold wpList;rw[if_neg (by rw[hi.wants hw];simp)];have hi':=B1h hi (r:=.t (.v undef)) (v:=undef) hd (by simp only[RepV,RepT]) hi.heap (Mono.refl L w)
 have e:({ s with H:=s.H,nx:=L.nx }:A0b)=s:=by rw[hi.nx]
 rw[e]at hi';have:=h L _ w hi';rw[B0a]at this;exact this
theorem E7h {L L':Loc} {a:Act} {w w':World} {ch:A2q} (hi:Interp P G B L s a w) (h1:A1i P G L' [] w') (h2:L'.nx=s.nx) (h3:Mono L w L' w') (h4:Ext L s.H w L' [] w') (hx:anyP Q ch):Post P G B Q L s.H w (.panic ch) a w':=
 ⟨⟨[],[],L'.nx,s.n⟩,L',hx _,⟨h1,rfl,by rw[h2,<-hi.nx];exact hi.base,hi.size,hi.defers,fun k p hl=>by cases hl⟩,h4,fun b hb=>h3.μ b (Nat.lt_of_lt_of_le hb hi.base)⟩
theorem E2s {ops:Array Oper} {o:Oper} {rest:List Oper} {ch:A2q} (hw:s.wants ops o=some true) (ho:APan P G B o s ch) (hx:anyP Q ch):D1n P G B ops (o::rest) Q s:=fun L a w hi=>by
 unfold wpList;rw[if_pos (hi.wants hw)];refine .inl (A1q (fun _ _ h=>h.elim) ?_ (ho L a w hi));rintro e a' w' ⟨rfl,rfl,L',h1,h2,h3,h4⟩;exact E7h hi h1 h2 h3 h4 hx
theorem C5k {id:Nat} {ops:Array Oper} (h:D1n P G B ops ops.toList Q s):A5f P G B (.region id ops false) Q s:=fun L a w hi=>
 wp_region_list (h L a w hi)
theorem F1w {d:Bool} {o:Op} {k:MK} {xs:List Opd} (hc:opK P G d o=(k,xs)) {H:Heap} {nx:Nat} {ps:List PV} {ch:A2q} (hp:panK E H nx k ps=some ch) :
  (∃f args ts,o = .call ⟨.value (.func f),args,ts⟩/\k = .hcall f/\xs=args.toList.map (A0g G))\/(∃x,o = .panic x/\k = .hx .pan/\xs=[A0g G x]):=by
 unfold opK at hc;split at hc
 ·rename_i q hq;subst hc;unfold extK at hq;split at hq
  all_goals (first
   | (injection hq with hq;injection hq with e1 e2;subst e1;subst e2;exact .inr ⟨_,rfl,rfl,rfl⟩)
   | (obtain⟨ks,_,e⟩:=Option.map_eq_some_iff.1 hq;injection e with e1 e2;subst e1;cases hp;done)
   | (split at hq<;>(first | (cases hq;done) | (obtain⟨ks,_,e⟩:=Option.map_eq_some_iff.1 hq;injection e with e1 e2;subst e1;cases hp;done) | (injection hq with hq;injection hq with e1 e2;subst e1;cases hp;done) | (split at hq<;>(first | (cases hq;done) | (injection hq with hq;injection hq with e1 e2;subst e1;cases hp;done))));done)
   | (injection hq with hq;injection hq with e1 e2;subst e1;cases hp;done)
   | (cases hq;done))
 ·split at hc
  ·split at hc
   ·injection hc with e1 e2;subst e1;cases hp
   ·injection hc with e1 e2;subst e1;cases hp
  ·split at hc
   ·rename_i q hq;subst hc;unfold D3a at hq;split at hq
    all_goals (first
     | (
       split at hq
       ·injection hq with hq;injection hq with e1 e2;subst e1;subst e2;exact .inl ⟨_,_,_,rfl,rfl,rfl⟩
       ·injection hq with hq;injection hq with e1 e2;subst e1;cases hp)
     | (injection hq with hq;injection hq with e1 e2;subst e1;cases hp;done)
     | (obtain⟨ks,_,e⟩:=Option.map_eq_some_iff.1 hq;injection e with e1 e2;subst e1;cases hp;done)
     | (cases hq;done)
     | skip)
    all_goals repeat' (first
     | (cases hq;done)
     | (injection hq with hq;injection hq with e1 e2;subst e1;cases hp;done)
     | (obtain⟨ks,_,e⟩:=Option.map_eq_some_iff.1 hq;injection e with e1 e2;subst e1;cases hp;done)
     | split at hq)
   ·injection hc with e1 e2;subst e1;cases hp
theorem D4o (hE:POK P G E) {d:Bool} {o:Oper} {k:MK} {xs:List Opd} {ch:A2q} (hc:opK P G d o.op=(k,xs)) (hp:panK E s.H s.nx k (xs.map (·.ev s.env))=some ch):APan P G B o s ch:=by
 rcases F1w hc hp with⟨f,args,ts,ho,rfl,rfl⟩ | ⟨x,ho,rfl,rfl⟩
 ·refine E2r ho (hE _ _ _ _ _ ?_)
  have:(args.toList.map (A0g G)).map (·.ev s.env)=args.toList.map (s.ev G):=by
   rw[List.map_map];exact List.map_congr_left fun x _=>A5l G s x
  rw[this]at hp;exact hp
 ·refine E7g ho ?_;simp only[List.map_cons,List.map_nil,A5l]at hp;exact hp
theorem B0w (hΦ:Φ.Sound P G) (hE:POK P G E) {ops:Array Oper}:∀(os:List Oper) {l:List Mini} {s:A0b},A9c P G N false ops os l->s.n=N->A2n Φ E l s (Q .normal) (anyP Q)->D1n P G B ops os Q s
 | [],l,s,ha,hn,h=>by
  simp only[A9c]at ha;subst ha;exact fun L a w hi=>A7z hi h
 | o::rest,l,s,ha,hn,h=>by
  simp only[A9c]at ha;obtain⟨m,l',rfl,hm,hr⟩:=ha;obtain⟨hc,hdst,hd,hw⟩:=A4y hm
  have hd':∀k,o.dst=some k->k<s.n:=fun k hk=>by rw[hn];exact hd k hk
  simp only[A2n]at h;rw[<-hw s,hdst]at h
  cases hww:s.wants ops o with
  | none=>rw[hww]at h;exact h.elim
  | some b=>
   rw[hww]at h
   cases b with
   | false=>
    simp only[onWants_false,B0i]at h;exact D7x hww hd' (B0w hΦ hE rest hr (by rw[B2t];exact hn) h)
   | true=>
    simp only[onWants_true]at h
    cases hp:panK E s.H s.nx m.k (m.xs.map (·.ev s.env))with
    | some ch=>
     rw[hp]at h;exact E2s hww (D4o hE hc hp) h
    | none=>
     rw[hp,onPan_none]at h;obtain⟨⟨r,H',nx'⟩,hv,hk⟩:=A2g h;rw[B0i]at hk;exact D7w hww hd' (B0e hΦ hc hv) (B0w hΦ hE rest hr (by rw[B2t];exact hn) hk)
def F1x (n:Nat) (e:Exit) (s:A0b):Prop:=(∀ch,e ≠ .panic ch)->s.n=n
theorem D4p:∀{l:List Mini} {s:A0b} {K:A0b->Prop} {X:A2q->Prop},A2n Φ E l s K X->A2n Φ E l s (fun s'=>K s'/\s'.n=s.n) X
 | [],s,K,X,h=>⟨h,rfl⟩
 | m::r,s,K,X,h=>by
  have key:∀q:PV×Heap×Nat,A2n Φ E r (s.set m.dst q) K X->A2n Φ E r (s.set m.dst q) (fun s'=>K s'/\s'.n=s.n) X:=by
   intro q hq;have:=D4p hq
   have e:(s.set m.dst q).n=s.n:=by unfold A0b.set;cases m.dst<;>rfl
   rw[e]at this;exact this
  simp only[A2n]at h ⊢
  cases hw:m.wants s.env with
  | none=>rw[hw]at h;exact h.elim
  | some b=>
   rw[hw]at h
   cases b with
   | false=>exact key _ h
   | true=>
    simp only[onWants_true]at h ⊢
    cases hp:panK E s.H s.nx m.k (m.xs.map (·.ev s.env))with
    | some ch=>rw[hp]at h;exact h
    | none=>
     rw[hp,onPan_none]at h;rw[onPan_none];obtain⟨q,hv,hk⟩:=A2g h;rw[hv];exact key _ hk
theorem A7l (hΦ:Ctx P G Φ) (hE:POK P G E):∀(M:A0j) {Q:Exit->A0b->Prop} {s:A0b},A5c Φ E M s Q->s.n=N->MC P G B N M (fun e s'=>Q e s'/\F1x N e s') s
 | .skip,Q,s,h,hn=>fun c hc _=>by
  rcases A1o hc with rfl | ⟨l,rfl⟩
  ·exact C1u ⟨h,fun _=>hn⟩
  ·exact B8j ⟨h,fun _=>hn⟩
 | .ops l,Q,s,h,hn=>fun c hc _=>by
  obtain⟨id,ops,rfl,ho⟩:=A1o hc;refine C5k (B0w hΦ.sound hE _ (A3y ho) hn ?_);have h2:=D4p h
  have e1:(fun s':A0b=>Q .normal s'/\F1x N .normal s')=fun s'=>Q .normal s'/\s'.n=s.n:=by
   funext s';refine propext ⟨fun h=>⟨h.1,by rw[hn];exact h.2 (fun _ h=>by cases h)⟩,fun h=>⟨h.1,fun _=>by rw[<-hn];exact h.2⟩⟩
  have e2:anyP (fun e s'=>Q e s'/\F1x N e s')=anyP Q:=by
   funext ch;refine propext ⟨fun h s=>(h s).1,fun h s=>⟨h s,fun hh=>absurd rfl (hh ch)⟩⟩
  rw[e1,e2];exact h2
 | .draw l,Q,s,h,hn=>by
  obtain⟨e,s',h1,h2⟩:=A4b (Φ:=Φ) (.draw l) (Q:=Q) h;exact A5t hΦ _ h1 ⟨h2,fun _=>(A8d _ h1).trans hn⟩
 | .drawG k l,Q,s,h,hn=>by
  obtain⟨e,s',h1,h2⟩:=A4b (Φ:=Φ) (.drawG k l) (Q:=Q) h;exact A5t hΦ _ h1 ⟨h2,fun _=>(A8d _ h1).trans hn⟩
 | .seq a b,Q,s,h,hn=>by
  refine A3m ((A7l hΦ hE a h hn).mono fun e s1 q=>?_);cases e
  case normal=>
   have hs:s1.n=N:=q.2 fun _ h=>by cases h
   exact⟨hs,A7l hΦ hE b q.1 hs⟩
  all_goals exact q
 | .cond c a b,Q,s,h,hn=>by
  simp only[A5c]at h;unfold C2m at h;split at h
  ·rename_i hc;exact C4j (t:=true) hc (A7l hΦ hE a h hn)
  ·rename_i hc;exact C4j (t:=false) hc (A7l hΦ hE b h hn)
  ·exact h.elim
 | .block id b,Q,s,h,hn=>by
  refine A0n ((A7l hΦ hE b h hn).mono fun e s1 q=>?_);cases e
  case exit i=>
   have hs:s1.n=N:=q.2 fun _ h=>by cases h
   have q1:=q.1;simp only[inBlock_exit]at q1 ⊢;split at q1
   ·rename_i hi;rw[if_pos hi];exact⟨q1,fun _=>hs⟩
   ·rename_i hi;rw[if_neg hi];exact⟨q1,fun _=>hs⟩
  all_goals exact q
 | .loop _,Q,s,h,_=>h.elim
 | .exit id,Q,s,h,hn=>fun c hc _=>by
  have:=A1o hc;simp only at this;subst this;exact C1v ⟨h,fun _=>hn⟩
 | .ret,Q,s,h,hn=>fun c hc _=>by
  have:=A1o hc;simp only at this;subst this;exact C6f ⟨h,fun _=>hn⟩
 | .scope b,Q,s,h,hn=>by
  refine C4k ((A7l hΦ hE b h hn).mono fun e s1 q=>?_);cases e
  case goto l=>exact q.1
  all_goals exact q
def F4p (P:Program) (G:A0q) (B:Nat) (vs:List RV) (o:Out) (e:Exit) (s:A0b):Prop:=
 match o with
 | .ret r H nx=>C7e P G B vs (fun r0 H0 nx0=>r0=r/\H0=H/\nx0=nx) e s
 | .pan ch=>e = .panic ch
theorem F4q {f:FuncId} {fn:Func} {c:Code} {M:A0j} {ps:List PV} {H:Heap} {nx:Nat} {ch:A2q} (hf:P.funcs[f]?=some fn) (hb:fn.body=some c) (hname:(fn.name == "runtime.NumGoroutine")=false)
  (hc:comp P G N c=some M) (hN:ps.length+(fn.ntmps-ps.length)=N)
  (h:MC P G nx N M (fun e _=>e = .panic ch) ⟨startsP 0 ps,H,nx,N⟩):B6f P G f ps H nx ch []:=by
 refine⟨⟨fn,c,hf,hb,hname⟩,fun L w us hok hnx hargs=>calls_of_wp hf hb ?_⟩
 have hlen:us.size=ps.length:=by simpa using hargs.length
 have hi:Interp P G nx L ⟨startsP 0 ps,H,nx,N⟩ { tmps:=us++Array.replicate (fn.ntmps-us.size) undef,defers:=[] } w:=by
  refine⟨hok,hnx,by rw[hnx];exact Nat.le_refl _,by simp[hlen,hN],rfl,fun k p hl=>?_⟩;simp only[B5v]at hl;obtain⟨_,hk⟩:=A8y _ k 0 p hl;simp only[Nat.sub_zero]at hk;obtain⟨x,hx,hr⟩:=hargs.at_ k hk
  have hx':us[k]?=some x:=by simpa using hx
  have hk':k<us.size:=(Array.getElem?_eq_some_iff.1 hx').1;rw[Array.getD_eq_getD_getElem?,Array.getElem?_append_left hk',hx'];exact hr
 refine wp_mono (h c hc rfl L _ w hi) fun e a' w' ⟨s1,L1,q,hi1,hx,hμ⟩=>?_;subst q
 have hb1:L.nx<=L1.nx:=by rw[hnx];exact hi1.base
 have hkp:B3w L.I L1.I w w':=Ext.keeps hok hx
 have hm:Mono L w { L1 with nx:=L.nx } w':=⟨hkp,Nat.le_refl _,fun b hb=>hμ b (by omega),hx.size,hx.shape⟩
 refine⟨hi1.defers,{ L1 with nx:=L.nx },rfl,⟨hi1.heap.lt,fun _ _ hb=>(by cases hb),fun _ _ hb=>(by cases hb),fun _ _ _ _ hb=>(by cases hb),fun _ _ hb=>(by cases hb),hi1.heap.glob⟩,hnx,hm,?_⟩;exact⟨hx.size,hx.same,hx.more,hx.new,fun g ⟨b,r,hb,_⟩=>(by cases hb),hx.shape,hx.outer⟩
theorem FnOK.callO {f:FuncId} {k:Nat} {M:A0j} {vs:List RV} (h:FnOK P G f k N M vs) {ps:List PV} {H:Heap} {nx:Nat} {o:Out} (hk:ps.length=k)
  (hm:MC P G nx N M (F4p P G nx vs o) ⟨startsP 0 ps,H,nx,N⟩):E7f P G f ps H nx o:=by
 cases o with
 | ret r H' nx'=>exact h.callP hk hm
 | pan ch=>
  obtain⟨fn,hf,hn,hb,hr,hN⟩:=h
  cases hbody:fn.body with
  | none=>rw[hbody]at hb;cases hb
  | some c=>
   rw[hbody]at hb;exact F4q hf hbody hn hb (by rw[hk];exact hN) hm
theorem B6f.lift1 {f:FuncId} {ty:TypeId} {cs args:List T} {ch:A2q} (h:B6f P G f (.ptr 0 0::args.map .t) [(0,.cells ty (cs.map .t))] 1 ch [])
  {b NX:Nat} {Hb:Heap} (hb:look Hb b=some (.cells ty (cs.map .t))) (hlt:b<NX):B6f P G f (.ptr b 0::args.map .t) Hb NX ch (rem Hb b):=by
 refine⟨h.1,fun L w us hok hnx hargs=>?_⟩
 have one:∀k r,look [(0,Row.cells ty (cs.map .t))] k=some r->k=0/\r = .cells ty (cs.map .t):=by
  intro k r hk;simp only[look]at hk;split at hk
  ·rename_i e;injection hk with hk;exact⟨e.symm,hk.symm⟩
  ·cases hk
 have hrow:=hok.rep b _ hb
 have hok0:A1i P G ⟨L.I,fun _=>L.μ b,1⟩ [(0,.cells ty (cs.map .t))] w:=by
  refine⟨hok.lt,fun k r hk=>?_,fun k r hk=>?_,fun k k' r r' hk hk' _=>by rw[(one k r hk).1,(one k' r' hk').1],fun k r hk=>by rw[(one k r hk).1];exact Nat.lt_succ_self _,hok.glob⟩
  ·obtain⟨rfl,rfl⟩:=one k r hk;obtain⟨arr,ha,hl,hc⟩:=hrow;refine⟨arr,ha,hl,fun j c hj=>?_⟩;obtain⟨v,hv,h1,hr⟩:=hc j c hj;refine⟨v,hv,h1,?_⟩;rw[List.getElem?_map]at hj;obtain⟨c0,_,rfl⟩:=A0i hj;simp only[RepV]at hr ⊢;exact hr
  ·exact hok.apart b _ hb
 have hargs0:A0m P ⟨L.I,fun _=>L.μ b,1⟩ w (.ptr 0 0::args.map .t) us.toList:=by
  simp only[A0m,RepV]at hargs ⊢;obtain⟨u,r,e,⟨_,h2⟩,h3⟩:=hargs;refine⟨u,r,e,⟨by omega,h2⟩,?_⟩;clear e
  have:∀(args:List T) (r:List Value),A0m P L w (args.map .t) r->A0m P ⟨L.I,fun _=>L.μ b,1⟩ w (args.map .t) r:=by
   intro args
   induction args with
   | nil=>intro r h;simpa only[List.map_nil,A0m]using h
   | cons a args ih=>
    intro r h;simp only[List.map_cons,A0m,RepV]at h ⊢;obtain⟨x,xs,e,hx,hxs⟩:=h;exact⟨x,xs,e,hx,ih xs hxs⟩
  exact this _ _ h3
 refine(h.2 _ w us hok0 rfl hargs0).mono ?_;rintro e w' ⟨L1,rfl,hok1,hnx1,hm,hx⟩;have mine0:∀g,Mine ⟨L.I,fun _=>L.μ b,1⟩ [(0,Row.cells ty (cs.map .t))] g->g=L.μ b:=fun g ⟨_,_,_,e⟩=>e.symm
 have hm':Mono L w ⟨L1.I,L.μ,NX⟩ w':=⟨hm.keeps,by rw[hnx];exact Nat.le_refl _,fun _ _=>rfl,hm.size,hm.shape⟩
 have hsame:∀k r,look (rem Hb b) k=some r->look Hb k=some r/\L.μ k≠L.μ b:=by
  intro k r hk;rw[A2f]at hk;split at hk
  ·cases hk
  ·rename_i hne;exact⟨hk,fun e=>hne (hok.inj k b r _ hk hb e)⟩
 refine⟨⟨L1.I,L.μ,NX⟩,rfl,⟨hok1.lt,fun k r hk=>?_,fun k r hk hI=>?_,fun k k' r r' hk hk' e=>hok.inj k k' r r' (hsame k r hk).1 (hsame k' r' hk').1 e,fun k r hk=>by rw[<-hnx];exact hok.nx k r (hsame k r hk).1,hok1.glob⟩,rfl,hm',?_⟩
 ·obtain⟨hk1,hk2⟩:=hsame k r hk;have hr:=hok.rep k r hk1;exact hr.keep hm' (hx.same _ hr.lt fun hmn=>hk2 (mine0 _ hmn))
 ·obtain⟨hk1,hk2⟩:=hsame k r hk;have hr:=(hok.rep k r hk1).lt;rcases hx.new _ hI with h1 | h1 | h1
  ·exact hok.apart k r hk1 h1
  ·exact absurd hr (by have h':w.heap.size<=L.μ k:=h1;omega)
  ·exact hk2 (mine0 _ h1)
 ·refine⟨hx.size,fun g hg hmn=>hx.same g hg fun h0=>hmn ⟨b,_,hb,(mine0 g h0).symm⟩,hx.more,fun g hg=>?_,fun g ⟨k,r,hk,e⟩=>.inr ⟨k,r,(hsame k r hk).1,e⟩,hx.shape,hx.outer⟩;rcases hx.new g hg with h1 | h1 | h1
  ·exact .inl h1
  ·exact .inr (.inl h1)
  ·exact .inr (.inr ⟨b,_,hb,(mine0 g h1).symm⟩)
end
section
variable {P : Program} {G : A0q} {B N : Nat} {Φ : A0o} {E : Pans} {ops : Array Oper} {l : List Mini} {π : List Nat} {pa : Nat} {R : List (Nat × Nat)}
structure F4r (Φ:A0o) (ms:List Mini) (R:List (Nat×Nat)) (s:A0b) (pe:Nat) (st:Nat->A0b) (vals:Nat->PV):Prop where
 start:st 0=s
 norm:∀(p:Nat) m,p<pe->ms[p]?=some m->Did Φ (st p) m (vals p) (st (p+1))
 again:∀(p p':Nat) m,p<pe->p'<pe->(p,p')∈R->ms[p]?=some m->A1x Φ (st (p'+1)).H (st (p'+1)).nx m.k (m.xs.map (·.ev (st p).env))=some (vals p)
structure InvP (P:Program) (G:A0q) (B:Nat) (q:List (Nat×Mini)) (pe i0:Nat) (st:Nat->A0b) (vals:Nat->PV) (s:A0b) (L0:Loc) (w0:World) (S:Array Bool) (p0:Nat) (L:Loc) (a:Act) (w:World):Prop where
 le:p0<=pe
 notyet:S.getD i0 false=false
 bound:∀(p:Nat) x,q[p]?=some x->S.getD x.1 false=true->p<pe
 done:∀(p:Nat) x,q[p]?=some x->A0h x.2.k=false->(S.getD x.1 false=true ↔ p<p0)
 heap:A1i P G L (st p0).H w
 nx:L.nx=(st p0).nx
 base:B<=L.nx
 size:a.tmps.size=s.n
 defers:a.defers=[]
 vals:∀(p:Nat) x,q[p]?=some x->S.getD x.1 false=true->∀k,x.2.dst=some k->RepV P L w (vals p) (a.tmps.getD k undef)
 old:∀k u,(∀(p:Nat) x,q[p]?=some x->S.getD x.1 false=true->x.2.dst≠some k)->look s.env k=some u->RepV P L w u (a.tmps.getD k undef)
 ext:Ext L0 s.H w0 L (st p0).H w
 μ:∀b,b<B->L.μ b=L0.μ b
theorem C1p (hmix:P.follows .mixedOrders=true) (hΦ:Φ.Sound P G) {Q:Exit->A0b->Prop} {s:A0b} {st:Nat->A0b} {vals:Nat->PV} {id pe:Nat} {x0:Nat×Mini} {ch:A2q}
  (ha0:ops.toList.mapM (A3c P G N true ops)=some l) (hd0:C4g ops l π pa 0 R=true) (hn:s.n=N)
  (hx0:(A1u l π)[pe]?=some x0) (hlate:∀(p:Nat) y,pe<p->(A1u l π)[p]?=some y->((ancs ops.toList []).getD y.1 0).testBit x0.1=true) (hk0:A0h x0.2.k=false)
  (hrun:F4r Φ ((A1u l π).map Prod.snd) R s pe st vals) (hw0:x0.2.wants (st pe).env=some true)
  (hpan:∀(o:Oper) (s':A0b),opK P G true o.op=(x0.2.k,x0.2.xs)->s'.H=(st pe).H->s'.nx=(st pe).nx->x0.2.xs.map (·.ev s'.env)=x0.2.xs.map (·.ev (st pe).env)->APan P G B o s' ch)
  (hq:anyP Q ch):A5f P G B (.region id ops true) Q s:=by
 intro L0 a0 w0 hi0;have ha:=A3y ha0
 have hlen:ops.size=l.length:=by have:=(ha.at_ 0).2;simpa using this
 obtain⟨hd,hql,hnodup⟩:=C2h hlen hd0;have h0:=hrun.start;generalize hq':A1u l π=q at *
 have hmem:∀(p:Nat) x,q[p]?=some x->l[x.1]?=some x.2:=by intro p x hx;rw[<-hq']at hx;exact B6y l π p x hx
 have hms:∀(p:Nat) x,q[p]?=some x->(q.map Prod.snd)[p]?=some x.2:=by intro p x hx;simp[hx]
 have hpe:pe<q.length:=(List.getElem?_eq_some_iff.1 hx0).1;have step:∀(p:Nat) x,p<pe->q[p]?=some x->Did Φ (st p) x.2 (vals p) (st (p+1)):=fun p x hp hx=>hrun.norm p x.2 hp (hms p x hx)
 have uniq:∀(p p':Nat) x y,q[p]?=some x->q[p']?=some y->x.1=y.1->p=p':=by
  intro p p' x y hx hy e
  have h1:(q.map Prod.fst)[p]?=some x.1:=by simp[hx]
  have h2:(q.map Prod.fst)[p']?=some x.1:=by simp[hy,e]
  have hp:=(List.getElem?_eq_some_iff.1 h1).1;exact(List.getElem?_inj hp hnodup).1 (h1.trans h2.symm)
 have fresh:∀p,p<=pe->C7b (st p):=by
  intro p
  induction p with
  | zero=>intro _;rw[h0];exact fun b r hb=>by have:=hi0.heap.nx b r hb;rw[hi0.nx]at this;exact this
  | succ p ih=>
   intro hp;have hx:q[p]?=some q[p]:=List.getElem?_eq_getElem (by omega);exact(B4i hΦ (step p _ (by omega) hx) (ih (by omega))).1
 have flat:∀(a b:Nat),a<=b->b<=pe->(∀(p:Nat) x,a<=p->p<b->q[p]?=some x->A0h x.2.k=true)->(st b).H=(st a).H/\(st b).nx=(st a).nx:=by
  intro a b hab
  induction b with
  | zero=>
   intro _ _
   have:a=0:=by omega
   subst this;exact⟨rfl,rfl⟩
  | succ b ih=>
   intro hb hno;by_cases e:a=b+1
   ·subst e;exact⟨rfl,rfl⟩
   ·have hx:q[b]?=some q[b]:=List.getElem?_eq_getElem (by omega);have h1:=B4h (step b _ (by omega) hx) (hno b _ (by omega) (by omega) hx);have h2:=ih (by omega) (by omega) (fun p x h1 h2 h3=>hno p x h1 (by omega) h3);exact⟨h1.1.trans h2.1,h1.2.trans h2.2⟩
 have nconst:∀p,p<=pe->(st p).n=s.n:=by
  intro p
  induction p with
  | zero=>intro _;rw[h0]
  | succ p ih=>
   intro hp;have hx:q[p]?=some q[p]:=List.getElem?_eq_getElem (by omega);rw[(C4h (step p _ (by omega) hx)).2,ih (by omega)]
 have trace:∀(p:Nat),p<=pe->∀k u,look (st p).env k=some u->(∃(j:Nat) (y:Nat×Mini),j<p/\q[j]?=some y/\y.2.dst=some k/\u=vals j)\/((∀(j:Nat) y,j<p->q[j]?=some y->y.2.dst≠some k)/\look s.env k=some u):=by
  intro p
  induction p with
  | zero=>intro _ k u hl;rw[h0]at hl;exact .inr ⟨fun j y h=>by omega,hl⟩
  | succ p ih=>
   intro hp k u hl;have hx:q[p]?=some q[p]:=List.getElem?_eq_getElem (by omega);rw[(C4h (step p _ (by omega) hx)).1]at hl;rcases C4a hl with⟨e,rfl⟩ | ⟨e,hl'⟩
   ·exact .inl ⟨p,_,by omega,hx,e,rfl⟩
   ·rcases ih (by omega) k u hl' with⟨j,y,hj,hy,hd,rfl⟩ | ⟨hno,hs⟩
    ·exact .inl ⟨j,y,by omega,hy,hd,rfl⟩
    ·refine .inr ⟨fun j y hj hy=>?_,hs⟩;by_cases ej:j=p
     ·subst ej;rw[hx]at hy;injection hy with hy;subst hy;exact e
     ·exact hno j y (by omega) hy
 refine wp_region_any hmix ?_
 have main:∀(fuel:Nat) (S:Array Bool) (p0:Nat) (L:Loc) (a:Act) (w:World),S.size=ops.size->C2b ops S->ops.size<=cnt S+fuel ->
   InvP P G B q pe x0.1 st vals s L0 w0 S p0 L a w->wpAny P .any ops (Post P G B Q L0 s.H w0) fuel S a w:=by
  have i0lt:x0.1<ops.size:=by have:=(List.getElem?_eq_some_iff.1 (hmem pe x0 hx0)).1;omega
  intro fuel
  induction fuel with
  | zero=>
   intro S p0 L a w hs hS hc inv;have hall':=D3c (S:=S) (by omega);have:=hall' x0.1 (by omega);rw[inv.notyet]at this;cases this
  | succ fuel ih=>
   intro S p0 L a w hs hS hc inv;refine⟨fun hr=>?_,fun i hi=>?_⟩
   ·exfalso
    have all:∀i,i<ops.size->S.getD i false=true:=by
     intro i
     induction i using Nat.strongRecOn with
     | _ i ihi=>
      intro hi
      cases hS':S.getD i false with
      | true=>rfl
      | false=>
       exfalso
       have:i∈Region.ready .any ops S:=D3b (o:=ops[i]) (Array.getElem?_eq_getElem hi) (by rw[B0h (by omega)];exact hS')
        (fun e he hb=>by
         have:=hd.back i _ (Array.getElem?_eq_getElem hi) e he hb
         exact ihi _ this (by omega))
       rw[hr]at this;cases this
    have:=all x0.1 i0lt;rw[inv.notyet]at this;cases this
   ·obtain⟨hi1,hun,o,ho,hp⟩:=B5s hi;rw[B0h (by omega)]at hun;obtain⟨p,mi,hx⟩:=hd.all i hi1;have hpl:p<q.length:=(List.getElem?_eq_some_iff.1 hx).1;obtain⟨mi',hmi',hcomp⟩:=(ha.at_ i).1 o (by simpa using ho)
    have emi:mi'=mi:=by have:=hmem p _ hx;simp only at this;rw[this]at hmi';injection hmi' with h;exact h.symm
    subst emi;obtain⟨hcop,hdst,hdlt,hwants⟩:=A4y hcomp;have bef:∀j,((ancs ops.toList []).getD i 0).testBit j=true->S.getD j false=true:=fun j hb=>A6j hS ho hb hp
    have aft:∀j,j<ops.size->((ancs ops.toList []).getD j 0).testBit i=true->S.getD j false=false:=by
     intro j hj hb
     cases hSj:S.getD j false with
     | false=>rfl
     | true=>
      have hjo:ops[j]?=some ops[j]:=Array.getElem?_eq_getElem hj;have:=A6j hS hjo hb (hS j _ hjo hSj);rw[this]at hun;cases hun
    have idx:∀(p':Nat) y,q[p']?=some y->y.1<ops.size:=fun p' y hy=>by have:=(List.getElem?_eq_some_iff.1 (hmem p' y hy)).1;omega
    have idx:∀(p':Nat) y,q[p']?=some y->y.1<ops.size:=fun p' y hy=>by have:=(List.getElem?_eq_some_iff.1 (hmem p' y hy)).1;omega
    have hple:p<=pe:=by
     rcases Nat.lt_or_ge pe p with h | h
     ·have:=bef x0.1 (hlate p _ h hx);rw[inv.notyet]at this;cases this
     ·exact h
    have hbefore':∀(p':Nat) y,p'<p->q[p']?=some y->A0h y.2.k=false->p'<p0:=by
     intro p' y hlt hy hyk;refine(inv.done p' y hy hyk).1 (bef _ ?_);have hok:=hd.pair p' p _ _ hlt hy hx;unfold A4h at hok;simp only[Bool.and_eq_true]at hok;have h1:=hok.1.1.1;rw[hyk]at h1;simp only[Bool.false_and,Bool.false_or,Bool.or_eq_true,Bool.and_eq_true,decide_eq_true_eq]at h1;rcases h1 with h1 | h1
     ·exact h1
     ·omega
    have eye:∀k u,k∈mi'.eyes->look (st p).env k=some u->RepV P L w u (a.tmps.getD k undef):=by
     intro k' u hke hl;rcases trace p hple k' u hl with⟨j,y,hj,hy,hdj,rfl⟩ | ⟨hno,hs'⟩
     ·have hok:=hd.pair j p _ _ hj hy hx;unfold A4h at hok;simp only[Bool.and_eq_true]at hok;have h2:=hok.1.1.2;rw[hdj]at h2;simp only[Bool.or_eq_true,Bool.not_eq_true',Bool.and_eq_true]at h2;rcases h2 with h2 | ⟨h2,h3⟩
      ·exact absurd hke (by simpa using h2)
      ·exact inv.vals j _ hy (bef _ h2) k' hdj
     ·refine inv.old k' u (fun p' y hy hSy hdy=>?_) hs';rcases Nat.lt_trichotomy p' p with hlt | heq | hgt
      ·exact hno p' y hlt hy hdy
      ·subst heq;rw[hx]at hy;injection hy with hy;subst hy;simp only at hSy;rw[hSy]at hun;cases hun
      ·have hok:=hd.pair p p' _ _ hgt hx hy;unfold A4h at hok;simp only[Bool.and_eq_true]at hok;have h3:=hok.1.2;rw[hdy]at h3;simp only[Bool.or_eq_true,Bool.not_eq_true']at h3;rcases h3 with h3 | h3
       ·exact absurd hke (by simpa using h3)
       ·have:=aft y.1 (idx p' y hy) h3;rw[this]at hSy;cases hSy
    have hi':Interp P G B L ({ ((st p).only mi'.eyes)with H:=(st p0).H,nx:=(st p0).nx }:A0b) a w:=by
     refine⟨inv.heap,inv.nx,inv.base,by show a.tmps.size=(st p).n;rw[nconst p hple];exact inv.size,inv.defers,fun k u hl=>?_⟩;have hl':look ((st p).only mi'.eyes).env k=some u:=hl;rw[B0f]at hl';split at hl'
     ·rename_i hke;exact eye k u hke hl'
     ·cases hl'
    have hww:({ ((st p).only mi'.eyes)with H:=(st p0).H,nx:=(st p0).nx }:A0b).wants ops o=mi'.wants (st p).env:=by
     rw[hwants];exact C2e (st p) mi' mi'.eyes (fun _ h=>h)
    have hev:mi'.xs.map (·.ev ({ ((st p).only mi'.eyes)with H:=(st p0).H,nx:=(st p0).nx }:A0b).env)=mi'.xs.map (·.ev (st p).env):=D9x (st p) mi' mi'.eyes (fun _ h=>h);unfold wpOp;rw[ho];simp only;by_cases hpp:p=pe
    ·
     subst hpp;rw[hx]at hx0;injection hx0 with hx0;subst hx0
     have hf:=flat p0 p (by
      rcases Nat.lt_or_ge p p0 with h | h
      ·have:=inv.le;omega
      ·exact h) (Nat.le_refl _) (fun p' y h1 h2 h3=>by
      cases hyk:A0h y.2.k with
      | true=>rfl
      | false=>have:=hbefore' p' y h2 h3 hyk;omega)
     rw[if_pos (hi'.wants (hww.trans hw0))];have hap:=hpan o ({ ((st p).only mi'.eyes)with H:=(st p0).H,nx:=(st p0).nx }:A0b) hcop hf.1.symm hf.2.symm hev L a w hi';refine .inl (A1q (fun _ _ h=>h.elim) ?_ hap);rintro e a' w' ⟨rfl,rfl,L',h1,h2,h3,h4⟩;refine⟨⟨[],[],L'.nx,s.n⟩,L',hq _,⟨h1,rfl,Nat.le_trans inv.base (by rw[h2];exact Nat.le_of_eq inv.nx),inv.size,inv.defers,fun k p hl=>by cases hl⟩,inv.ext.trans h4,fun b hb=>(h3.μ b (Nat.lt_of_lt_of_le hb inv.base)).trans (inv.μ b hb)⟩
    have hplt:p<pe:=by omega
    have hS':C2b ops (S.setIfInBounds i true):=by
     intro j oj hoj hj e he hb;rw[A2r S i _ (by omega)]at hj ⊢;split
     ·rfl
     ·split at hj
      ·rename_i e1;subst e1;rw[ho]at hoj;injection hoj with hoj;subst hoj;exact hp e he hb
      ·exact hS j oj hoj hj e he hb
    have hc':ops.size<=cnt (S.setIfInBounds i true)+fuel:=by rw[E0a (by omega) hun];omega
    have dsts:∀(p':Nat) y k',q[p']?=some y->i≠y.1->y.2.dst=some k'->o.dst≠some k':=by
     intro p' y k' hy e hk;rw[<-hdst];intro hcon
     have epn:p≠p':=fun ep=>by subst ep;rw[hx]at hy;injection hy with hy;subst hy;exact e rfl
     rcases Nat.lt_or_gt_of_ne epn with hlt | hgt
     ·have hok:=hd.pair p p' _ _ hlt hx hy;unfold A4h at hok;simp only[Bool.and_eq_true]at hok;have h4:=hok.2;rw[hcon]at h4;simp only[bne_iff_ne]at h4;exact h4 hk
     ·have hok:=hd.pair p' p _ _ hgt hy hx;unfold A4h at hok;simp only[Bool.and_eq_true]at hok;have h4:=hok.2;rw[hk]at h4;simp only[bne_iff_ne]at h4;exact h4 hcon
    have ine:i≠x0.1:=fun e=>hpp (uniq p pe _ _ hx hx0 e)
    have next:∀(p1:Nat) (L':Loc) (w':World) (u:Value),p1<=pe ->
      (∀(p':Nat) y,q[p']?=some y->A0h y.2.k=false->((S.setIfInBounds i true).getD y.1 false=true ↔ p'<p1)) ->
      RepV P L' w' (vals p) u->A1i P G L' (st p1).H w'->L'.nx=(st p1).nx->Mono L w L' w'->Ext L (st p0).H w L' (st p1).H w' ->
      wpAny P .any ops (Post P G B Q L0 s.H w0) fuel (S.setIfInBounds i true) (a.put o.dst u) w':=by
     intro p1 L' w' u hp1 hdone hru hok' hnx' hm' hx';refine ih _ p1 L' _ w' (by simpa using hs) hS' hc' ⟨hp1,?_,fun p' y hy hSy=>?_,hdone,hok',hnx',Nat.le_trans inv.base hm'.nx,?_,?_,?_,?_,inv.ext.trans hx',fun b hb=>(hm'.μ b (Nat.lt_of_lt_of_le hb inv.base)).trans (inv.μ b hb)⟩
     ·rw[A2r S i _ (by omega),if_neg ine];exact inv.notyet
     ·rw[A2r S i _ (by omega)]at hSy;split at hSy
      ·rename_i e;have ep:=uniq p p' _ _ hx hy e;omega
      ·exact inv.bound p' y hy hSy
     ·rw[<-inv.size];cases o.dst<;>simp[Act.put]
     ·cases o.dst<;>simp[Act.put,inv.defers]
     ·intro p' y hy hSy k' hk;rw[A6g];by_cases e:i=y.1
      ·have ep:=uniq p p' _ _ hx hy e;subst ep;rw[hx]at hy;injection hy with hy;subst hy;rw[if_pos ⟨by rw[<-hdst];exact hk,by rw[inv.size,hn];exact hdlt k' (by rw[<-hdst];exact hk)⟩];exact hru
      ·rw[A2r S i _ (by omega),if_neg e]at hSy;rw[if_neg (fun h=>dsts p' y k' hy e hk h.1)];exact RepV.keep hm' _ (inv.vals p' y hy hSy k' hk)
     ·intro k' u' hno h0';rw[A6g];have hk:=hno p _ hx (by rw[A2r S i _ (by omega),if_pos rfl]);rw[if_neg (fun h=>hk (by rw[hdst];exact h.1))];refine RepV.keep hm' u' (inv.old k' u' (fun p' y hy hSy=>hno p' y hy ?_) h0');rw[A2r S i _ (by omega)];split
      ·rfl
      ·exact hSy
    have keepdone:A0h mi'.k=true->∀(p':Nat) y,q[p']?=some y->A0h y.2.k=false->((S.setIfInBounds i true).getD y.1 false=true ↔ p'<p0):=by
     intro hquiet p' y hy hyk;rw[A2r S i _ (by omega)];by_cases e:i=y.1
     ·have ep:=uniq p p' _ _ hx hy e;subst ep;rw[hx]at hy;injection hy with hy;subst hy;rw[hquiet]at hyk;cases hyk
     ·rw[if_neg e];exact inv.done p' y hy hyk
    have hdid:=step p _ hplt hx;simp only at hdid;rcases hdid with⟨hquiet,hval,hst⟩ | ⟨hheavy,hwf,hv,hst⟩ | ⟨hheavy,hwt,H',nx',hek,hst⟩
    ·unfold valQ at hval;split at hval
     ·rename_i hwt;rw[if_pos (hi'.wants (hww.trans hwt))]
      have hval0:A1x Φ (st p0).H (st p0).nx mi'.k (mi'.xs.map (·.ev (st p).env))=some (vals p):=by
       by_cases hpp:p0<=p
       ·have hf:=flat p0 p hpp hple (fun p' y h1 h2 h3=>by
         cases hyk:A0h y.2.k with
         | true=>rfl
         | false=>have:=hbefore' p' y h2 h3 hyk;omega)
        rw[<-hf.1,<-hf.2];exact hval
       ·have walk:∀p1,p<=p1->p1<=p0->A1x Φ (st p1).H (st p1).nx mi'.k (mi'.xs.map (·.ev (st p).env))=some (vals p):=by
         intro p1
         induction p1 with
         | zero=>
          intro h _
          have:p=0:=by omega
          subst this;exact hval
         | succ p1 ihp=>
          intro h1 h2;by_cases e:p=p1+1
          ·subst e;exact hval
          ·have hv1:=ihp (by omega) (by omega);have hle:=inv.le;have hy:q[p1]?=some q[p1]:=List.getElem?_eq_getElem (by omega);have hdy:=step p1 _ (by omega) hy
           cases hyk:A0h (q[p1]).2.k with
           | true=>
            have:=B4h hdy hyk;rw[this.1,this.2];exact hv1
           | false=>
            by_cases hind:B4f mi'.k=true
            ·exact B2x hind hv1
            ·have hlt:p<p1:=by
              rcases Nat.lt_or_ge p p1 with h | h
              ·exact h
              ·have:p1=p:=by omega
               subst this;rw[hx]at hy;injection hy with hy;rw[<-hy]at hyk;simp only at hyk;rw[hquiet]at hyk;cases hyk
             have hSy:=(inv.done p1 _ hy hyk).2 (by omega);have hok:=hd.pair p p1 _ _ hlt hx hy;unfold A4h at hok;simp only[Bool.and_eq_true]at hok;have h1':=hok.1.1.1;simp only[hquiet,hyk,Bool.true_and,Bool.false_or,Bool.or_eq_true,Bool.and_eq_true,decide_eq_true_eq]at h1';rcases h1' with(((h | h) | h) | h) | h
             ·exact absurd h hind
             ·exact B1l ((B4i hΦ hdy (fresh p1 (by omega))).2 (.inl h)) hv1
             ·exact hrun.again p p1 mi' hplt (by omega) (by simpa using h) (hms p _ hx)
             ·have:=aft _ (idx p1 _ hy) h;rw[this]at hSy;cases hSy
             ·omega
        exact walk p0 (by omega) (Nat.le_refl _)
      have hek':A0d Φ ({ ((st p).only mi'.eyes)with H:=(st p0).H,nx:=(st p0).nx }:A0b).H ({ ((st p).only mi'.eyes)with H:=(st p0).H,nx:=(st p0).nx }:A0b).nx mi'.k (mi'.xs.map (·.ev ({ ((st p).only mi'.eyes)with H:=(st p0).H,nx:=(st p0).nx }:A0b).env))=some (vals p,(st p0).H,(st p0).nx):=by
       rw[hev];exact B8v hval0
      have haop:=B0e (B:=B) hΦ hcop hek' L a w hi';refine .inl (A1q ?_ (fun _ _ _ h=>h.elim) haop);rintro a' w' ⟨u,L',rfl,hru,hok',hnx',hm',hx'⟩
      exact next p0 L' w' u inv.le (keepdone hquiet) hru hok' hnx' hm' hx'
     ·rename_i hwf;rw[if_neg (by rw[hi'.wants (hww.trans hwf)];simp)];injection hval with hval
      exact next p0 L w undef inv.le (keepdone hquiet) (by rw[<-hval];simp only[RepV,RepT]) inv.heap inv.nx (Mono.refl _ _) (Ext.refl _ _ _)
     ·cases hval
    all_goals
     have hp0p:p0<=p:=by
      rcases Nat.lt_or_ge p p0 with h | h
      ·have:=(inv.done p _ hx hheavy).2 h;simp only at this;rw[this]at hun;cases hun
      ·exact h
     have hf:=flat p0 p hp0p hple (fun p' y h1 h2 h3=>by
      cases hyk:A0h y.2.k with
      | true=>rfl
      | false=>have:=hbefore' p' y h2 h3 hyk;omega)
     have hdone':∀(p':Nat) y,q[p']?=some y->A0h y.2.k=false->((S.setIfInBounds i true).getD y.1 false=true ↔ p'<p+1):=by
      intro p' y hy hyk;rw[A2r S i _ (by omega)];by_cases e:i=y.1
      ·have ep:=uniq p p' _ _ hx hy e;subst ep;simp[e]
      ·rw[if_neg e,inv.done p' y hy hyk];constructor
       ·intro h;omega
       ·intro h
        have:p'≠p:=fun ep=>by subst ep;rw[hx]at hy;injection hy with hy;subst hy;exact e rfl
        exact hbefore' p' y (by omega) hy hyk
    ·rw[if_neg (by rw[hi'.wants (hww.trans hwf)];simp)]
     have e1:(st (p+1)).H=(st p0).H:=by rw[hst,B0a,hf.1]
     have e2:(st (p+1)).nx=(st p0).nx:=by rw[hst,A9t,hf.2]
     exact next (p+1) L w undef (by omega) hdone' (by rw[hv];simp only[RepV,RepT]) (by rw[e1];exact inv.heap) (by rw[e2];exact inv.nx) (Mono.refl _ _) (by rw[e1];exact Ext.refl _ _ _)
    ·rw[if_pos (hi'.wants (hww.trans hwt))]
     have hek':A0d Φ ({ ((st p).only mi'.eyes)with H:=(st p0).H,nx:=(st p0).nx }:A0b).H ({ ((st p).only mi'.eyes)with H:=(st p0).H,nx:=(st p0).nx }:A0b).nx mi'.k (mi'.xs.map (·.ev ({ ((st p).only mi'.eyes)with H:=(st p0).H,nx:=(st p0).nx }:A0b).env))=some (vals p,H',nx'):=by
      rw[hev];show A0d Φ (st p0).H (st p0).nx mi'.k _=_;rw[<-hf.1,<-hf.2];exact hek
     have haop:=B0e (B:=B) hΦ hcop hek' L a w hi';refine .inl (A1q ?_ (fun _ _ _ h=>h.elim) haop);rintro a' w' ⟨u,L',rfl,hru,hok',hnx',hm',hx'⟩
     have e1:(st (p+1)).H=H':=by rw[hst,B0a]
     have e2:(st (p+1)).nx=nx':=by rw[hst,A9t]
     exact next (p+1) L' w' u (by omega) hdone' hru (by rw[e1];exact hok') (by rw[e2];exact hnx') hm' (by rw[e1];exact hx')
 obtain⟨hok,hm,hx⟩:=hi0.heap.of_heap (w':={ w0 with drawn:=w0.drawn+1 }) ⟨rfl,rfl,rfl⟩ rfl
 have hfalse:∀i,(Array.replicate ops.size false).getD i false=false:=by
  intro i;simp only[Array.getD_eq_getD_getElem?,Array.getElem?_replicate];split<;>rfl
 refine main ops.size _ 0 L0 a0 _ (by simp) ?_ (by omega) ⟨Nat.zero_le _,hfalse _,fun p x _ h=>(by rw[hfalse]at h;cases h),?_,by rw[h0];exact hok,by rw[h0];exact hi0.nx,hi0.base,hi0.size,hi0.defers,?_,?_,by rw[h0];exact hx,fun _ _=>rfl⟩
 ·intro i o _ h;rw[hfalse]at h;cases h
 ·intro p x _ _;rw[hfalse];simp
 ·intro p x _ h;rw[hfalse]at h;cases h
 ·intro k u _ hu;exact RepV.keep hm u (hi0.env k u hu)
end
section
variable {P : Program} {G : A0q} {B N : Nat} {Φ : A0o} {E : Pans} {Q : Exit -> A0b -> Prop} {s : A0b}
def panM (E:Pans) (s:A0b) (m:Mini):Option A2q:=
 match m.k with
 | .hcall f=>match m.wants s.env with
  | some true=>E f (m.xs.map (·.ev s.env)) s.H s.nx
  | _=>none
 | _=>none
def A4e (Φ:A0o) (E:Pans):Nat->Pend->List GI->A0b->(A0b->Prop)->(A2q->Prop)->Prop
 | _,_,[],s,K,_=>K s
 | n,pd,.o m kp ag::r,s,K,X=>D1m (panM E s m) X (A1r (valD Φ s m) fun q=>A6c Φ pd q.2.1 q.2.2 ag (A4e Φ E (n+1) (B2w kp n m s q.1 pd) r (s.set m.dst q) K X))
 | _,_,.g _ _::_,_,_,_=>False
theorem B7n:∀(l:List GI) {n:Nat} {pd:Pend} {s:A0b} {K:A0b->Prop} {X:A2q->Prop},A4e Φ E n pd l s K X ->
  A7q Φ 0 n 0 pd l s K\/∃(pe:Nat) (m:Mini) (kp:Bool) (ag:List Nat) (ch:A2q),l[pe]?=some (.o m kp ag)/\A7q Φ 0 n 0 pd (l.take pe) s (fun s1=>panM E s1 m=some ch)/\X ch
 | [],n,pd,s,K,X,h=>.inl h
 | .g _ _::_,n,pd,s,K,X,h=>h.elim
 | .o m kp ag::r,n,pd,s,K,X,h=>by
  simp only[A4e]at h
  cases hp:panM E s m with
  | some ch=>
   rw[hp]at h;exact .inr ⟨0,m,kp,ag,ch,rfl,hp,h⟩
  | none=>
   rw[hp,onPan_none]at h;obtain⟨q,hv,hk⟩:=A2g h;obtain⟨h1,h2⟩:=B5w hk
   have back:∀C:Prop,C->A6c Φ pd q.2.1 q.2.2 ag C:=by
    intro C hC
    have:∀ks:List Nat,agnP Φ pd q.2.1 q.2.2 ks->A6c Φ pd q.2.1 q.2.2 ks C:=by
     intro ks
     induction ks with
     | nil=>intro _;exact hC
     | cons i r ih=>
      intro hh;obtain⟨x,hx,he⟩:=hh i (by simp);show A1r (look pd i) _;rw[hx];exact⟨he,ih fun j hj=>hh j (by simp[hj])⟩
    exact this ag h1
   rcases B7n r h2 with h3 | ⟨pe,m',kp',ag',ch,h3,h4,h5⟩
   ·left;show A1r (valD Φ s m) _;rw[hv];exact back _ h3
   ·right;refine⟨pe+1,m',kp',ag',ch,by simpa using h3,?_,h5⟩;rw[List.take_succ_cons];show A1r (valD Φ s m) _;rw[hv];exact back _ h4
theorem E2t (hΦ:Ctx P G Φ) (hE:POK P G E) {l:List GI} (h:A4e Φ E 0 [] l s (Q .normal) (anyP Q)):MC P G B N (.drawG 0 l) Q s:=by
 rcases B7n l h with h1 | ⟨pe,m,kp,ag,ch,h3,h4,h5⟩
 ·exact A0c hΦ h1
 ·intro c hc hn;obtain⟨id,ops,lt,π,pa,R,rfl,hl,hd,hsh,he,hlate⟩:=A1o hc;obtain⟨s1,hr,hp⟩:=B4n _ h4;unfold panM at hp;split at hp
  ·rename_i f hk;split at hp
   ·rename_i hw;have hple:pe<l.length:=(List.getElem?_eq_some_iff.1 h3).1
    have hshp:B8w pa 0 (R.filter fun r=>decide (r.2<pe)) (l.take pe)=true:=by
     unfold B8w at hsh ⊢;rw[Bool.and_eq_true]at hsh ⊢;refine⟨List.all_eq_true.2 fun x hx=>?_,List.all_eq_true.2 fun r hr=>?_⟩
     ·obtain⟨y,i⟩:=x;rw[List.mem_zipIdx_iff_getElem?]at hx
      have hx':l[i]?=some y:=by
       rw[List.getElem?_take]at hx;split at hx
       ·exact hx
       ·cases hx
      exact List.all_eq_true.1 hsh.1 (y,i) (by rw[List.mem_zipIdx_iff_getElem?];exact hx')
     ·obtain⟨h1,h2⟩:=List.mem_filter.1 hr;have:=List.all_eq_true.1 hsh.2 r h1;rw[List.getElem?_take,if_pos (of_decide_eq_true h2)];exact this
    obtain⟨st,vals,tr⟩:=C2k hr hshp
    have hlen:((l.take pe).map GI.mini).length=pe:=by rw[List.length_map,List.length_take];omega
    have hpre:∀(p:Nat) m',p<pe->((A1u lt π).map Prod.snd)[p]?=some m'->((l.take pe).map GI.mini)[p]?=some m':=by
     intro p m' hp hm;rw[List.map_take,List.getElem?_take,if_pos hp,he];exact hm
    have hstop:=tr.stop;rw[hlen]at hstop
    have hm0:((A1u lt π).map Prod.snd)[pe]?=some m:=by rw[<-he,List.getElem?_map,h3];rfl
    rw[List.getElem?_map]at hm0;obtain⟨x0,hx0,e0⟩:=A0i hm0;subst e0
    refine C1p (st:=st) (vals:=vals) (pe:=pe) (x0:=x0) hΦ.mix hΦ.sound hl hd hn hx0 (D6o hlate hx0 hk) (by rw[hk];rfl)
     ⟨tr.start,fun p m' hp hm=>tr.norm p m' (hpre p m' hp hm) (by omega),fun p p' m' hp hp' hR hm=>tr.again p p' m' (List.mem_filter.2 ⟨hR,decide_eq_true hp'⟩) (hpre p m' hp hm)⟩ (by rw[hstop];exact hw) ?_ h5
    intro o s' hop hH hnx hxs;refine D4o hE hop ?_;rw[hH,hnx,hxs,hstop,hk];exact hp
   ·cases hp
  ·cases hp
theorem B5e (hΦ:Ctx P G Φ) (hE:POK P G E) {l:List GI} {b:A0j} (hn:s.n=N) (h:A4e Φ E 0 [] l s (fun s1=>s1.n=N->MC P G B N b Q s1) (anyP Q)):MC P G B N (.seq (.drawG 0 l) b) Q s:=by
 refine A3m ?_
 have:A4e Φ E 0 [] l s ((A8c P G B N b Q) .normal) (anyP (A8c P G B N b Q)):=by
  have go:∀(l:List GI) (n:Nat) (pd:Pend) (s:A0b),s.n=N->A4e Φ E n pd l s (fun s1=>s1.n=N->MC P G B N b Q s1) (anyP Q)->A4e Φ E n pd l s ((A8c P G B N b Q) .normal) (anyP (A8c P G B N b Q)):=by
   intro l
   induction l with
   | nil=>intro n pd s hs h;exact⟨hs,h hs⟩
   | cons x r ih=>
    intro n pd s hs h
    cases x with
    | g j m=>exact h.elim
    | o m kp ag=>
     simp only[A4e]at h ⊢
     cases hp:panM E s m with
     | some ch=>rw[hp]at h;exact fun s1=>h s1
     | none=>
      rw[hp,onPan_none]at h;rw[onPan_none];obtain⟨q,hv,hk⟩:=A2g h;rw[hv]
      have e:(s.set m.dst q).n=N:=by rw[<-hs];unfold A0b.set;cases m.dst<;>rfl
      have:∀ks:List Nat,A6c Φ pd q.2.1 q.2.2 ks (A4e Φ E (n+1) (B2w kp n m s q.1 pd) r (s.set m.dst q) (fun s1=>s1.n=N->MC P G B N b Q s1) (anyP Q)) ->
        A6c Φ pd q.2.1 q.2.2 ks (A4e Φ E (n+1) (B2w kp n m s q.1 pd) r (s.set m.dst q) ((A8c P G B N b Q) .normal) (anyP (A8c P G B N b Q))):=by
       intro ks
       induction ks with
       | nil=>intro h;exact ih _ _ _ e h
       | cons i t iht=>
        intro h;obtain⟨x,hx,h1,h2⟩:=A2g h;show A1r (look pd i) _;rw[hx];exact⟨h1,iht h2⟩
      exact this ag hk
  exact go l 0 [] s hn h
 exact E2t hΦ hE this
theorem A0u (hΦ:Ctx P G Φ) (hE:POK P G E) {a b:A0j} (hn:s.n=N) (h:A5c Φ E a s (A5q (fun s1=>MC P G B N b Q s1) Q)):MC P G B N (.seq a b) Q s:=by
 refine A3m ((A7l hΦ hE a h hn).mono fun e s1 q=>?_);cases e
 case normal=>exact⟨q.2 (fun _ h=>(by cases h)),q.1⟩
 all_goals exact q.1
theorem A6x (hΦ:Ctx P G Φ) (hE:POK P G E) {a:A0j} (hn:s.n=N) (h:A5c Φ E a s Q):MC P G B N a Q s:=(A7l hΦ hE a h hn).mono fun _ _ q=>q.1
abbrev ETbl:=List (Nat×(List PV->Heap->Nat->Option A2q))
def orE (tbl:ETbl):Pans:=fun f ps H nx=>match look tbl f with
 | some g=>g ps H nx
 | none=>none
@[simp] theorem orE_cons (k f:Nat) (g:List PV->Heap->Nat->Option A2q) (r:ETbl) (ps:List PV) (H:Heap) (nx:Nat):orE ((k,g)::r) f ps H nx=if k=f then g ps H nx else orE r f ps H nx:=by
 unfold orE;rw[look_cons];by_cases h:k=f
 ·rw[if_pos h,if_pos h]
 ·rw[if_neg h,if_neg h]
@[simp] theorem orE_nil (f:Nat) (ps:List PV) (H:Heap) (nx:Nat):orE [] f ps H nx=none:=rfl
def EOK (P:Program) (G:A0q) (f:FuncId) (e:List PV->Heap->Nat->Option A2q):Prop:=∀ps H nx ch,e ps H nx=some ch->B6f P G f ps H nx ch []
def A9u (P:Program) (G:A0q) (tbl:ETbl):Prop:=∀q∈tbl,EOK P G q.1 q.2
theorem A9u.nil:A9u P G []:=fun _ h=>by cases h
theorem A9u.cons {f:Nat} {e:List PV->Heap->Nat->Option A2q} {r:ETbl} (h:EOK P G f e) (hr:A9u P G r):A9u P G ((f,e)::r):=fun q hq=>by
 rcases List.mem_cons.1 hq with rfl | hq
 ·exact h
 ·exact hr q hq
theorem A9u.ok {tbl:ETbl} (h:A9u P G tbl):POK P G (orE tbl):=fun f ps H nx ch hr=>by
 unfold orE at hr;split at hr
 ·rename_i g hg;exact h _ (A0k hg) ps H nx ch hr
 ·cases hr
abbrev Spec:=List T->List T->Option (Except A2q (T×List T))
def E2u (sp:Spec) (cs ts:List T):Option (T×List T):=match sp cs ts with
 | some (.ok x)=>some x
 | _=>none
def outOf (ty:TypeId):Except A2q (T×List T)->Out
 | .ok (r,cs')=>.ret (.t r) [(0,.cells ty (cs'.map .t))] 1
 | .error ch=>.pan ch
def eObj (ty:TypeId) (sp:Spec) (ps:List PV) (H:Heap) (nx:Nat):Option A2q:=
 match ps with
 | .ptr b 0::args=>match look H b,allT args with
  | some (.cells ty' cs),some ts=>match allT cs with
   | some cs'=>if ty'=ty/\b<nx then(match sp cs' ts with
    | some (.error ch)=>some ch
    | _=>none)else none
   | none=>none
  | _,_=>none
 | _=>none
def C8v (P:Program) (G:A0q) (f:FuncId) (ty:TypeId) (sp:Spec):Prop:=∀cs ts o,sp cs ts=some o->E7f P G f (.ptr 0 0::ts.map .t) [(0,.cells ty (cs.map .t))] 1 (outOf ty o)
theorem C8v.hok {f:FuncId} {ty:TypeId} {sp:Spec} (h:C8v P G f ty sp):HOK P G f (hObj ty (E2u sp)):=E0m fun cs ts r cs' hr=>by
 unfold E2u at hr;split at hr
 ·rename_i x hx;injection hr with hr;subst hr;exact h cs ts _ hx
 ·cases hr
theorem B6f.weak {f:FuncId} {ps:List PV} {H H':Heap} {nx:Nat} {ch:A2q} (h:B6f P G f ps H nx ch H'):B6f P G f ps H nx ch []:=
 ⟨h.1,fun L w us h1 h2 h3=>(h.2 L w us h1 h2 h3).mono fun e w' ⟨L',e1,e2,e3,e4,e5⟩=>
  ⟨L',e1,(B0v e2).1,e3,e4,⟨e5.size,e5.same,e5.more,e5.new,fun _ ⟨_,_,hb,_⟩=>(by cases hb),e5.shape,e5.outer⟩⟩⟩
theorem C8v.eok {f:FuncId} {ty:TypeId} {sp:Spec} (h:C8v P G f ty sp):EOK P G f (eObj ty sp):=fun ps H nx ch hr=>by
 unfold eObj at hr;split at hr
 ·rename_i b args;split at hr
  ·rename_i ty' cs ts hl ha;split at hr
   ·rename_i cs' hc;split at hr
    ·rename_i hcond;obtain⟨rfl,hb⟩:=hcond;split at hr
     ·rename_i ch' hsp;injection hr with hr;subst hr
      have:=(h cs' ts _ hsp)
      have h1:B6f P G f (.ptr 0 0::ts.map .t) [(0,.cells ty' (cs'.map .t))] 1 ch' []:=this;have h2:=h1.lift1 (b:=b) (NX:=nx) (Hb:=H) (by rw[hl,A5o hc]) hb;rw[<-A5o ha]at h2;exact h2.weak
     ·cases hr
    ·cases hr
   ·cases hr
  ·cases hr
 ·cases hr
theorem E7i {ty:TypeId} {sp:Spec} {b nx:Nat} {H:Heap} {cs ts:List T} {r:T} {cs':List T} (hl:look H b=some (.cells ty (cs.map .t))) (hb:b<nx) (ho:sp cs ts=some (.ok (r,cs'))) :
  hObj ty (E2u sp) (.ptr b 0::ts.map .t) H nx=some (.t r,upd H b (.cells ty (cs'.map .t)),nx):=E0n (o:=(r,cs')) hl hb (by unfold E2u;rw[ho])
theorem E7j {ty:TypeId} {sp:Spec} {b nx:Nat} {H:Heap} {cs ts:List T} {x:T×List T} (hl:look H b=some (.cells ty (cs.map .t))) (ho:sp cs ts=some (.ok x)) :
  eObj ty sp (.ptr b 0::ts.map .t) H nx=none:=by
 simp only[eObj,hl,allT_map_t,ho];split<;>rfl
theorem E7k {ty:TypeId} {sp:Spec} {b nx:Nat} {H:Heap} {cs ts:List T} {ch:A2q} (hl:look H b=some (.cells ty (cs.map .t))) (hb:b<nx) (ho:sp cs ts=some (.error ch)) :
  eObj ty sp (.ptr b 0::ts.map .t) H nx=some ch:=by
 simp only[eObj,hl,allT_map_t,hb,and_self,if_true,ho]
end
section
variable {P : Program} {G : A0q} {B : Nat} {Φ : A0o} {E : Pans} {env : List (Nat × PV)} {H : Heap} {nx n : Nat} {K : A0b -> Prop} {X : A2q -> Prop} {Q : Exit -> A0b -> Prop} {d : Option Nat} {k : MK} {xs : List Opd} {r : List Mini}
@[simp] theorem panK_hcall (f:Nat) (ps:List PV):panK E H nx (.hcall f) ps=E f ps H nx:=rfl
@[simp] theorem panK_pan (ps:List PV):panK E H nx (.hx .pan) ps=B3q ps:=rfl
@[simp] theorem chainOf_v (t:Nat) (x:Value):B3q [.t (.ic t (.v x))]=some [{ v:=.iface t x,recovered:=false }]:=rfl
@[simp] theorem chainOf_a (t:Nat) (x:Value):B3q [.t (.ic t (.ag [.v x]))]=some [{ v:=.iface t (.agg #[x]),recovered:=false }]:=rfl
@[simp] theorem exM_mki_t (t:Nat) (x:T):exM (.mki t) [.t x]=some (.t (.ic t x)):=rfl
def A3q:MK->Bool
 | .hcall _=>false
 | .hx .pan=>false
 | _=>true
@[simp] theorem calmK_mv:A3q (.mv)=true:=rfl
@[simp] theorem calmK_pick:A3q (.pick)=true:=rfl
@[simp] theorem calmK_bin (isB:Bool) (op:BinOp) (nk:Option NK):A3q (.bin isB op nk)=true:=rfl
@[simp] theorem calmK_un (op:UnOp):A3q (.un op)=true:=rfl
@[simp] theorem calmK_conv (k:Option IntKind):A3q (.conv k)=true:=rfl
@[simp] theorem calmK_load (agg:Bool) (n:Nat):A3q (.load agg n)=true:=rfl
@[simp] theorem calmK_faddr (off:Nat):A3q (.faddr off)=true:=rfl
@[simp] theorem calmK_field (off:Nat) (agg:Bool) (n:Nat):A3q (.field off agg n)=true:=rfl
@[simp] theorem calmK_iaddr (z:Nat):A3q (.iaddr z)=true:=rfl
@[simp] theorem calmK_aaddr (len:Nat) (z:Nat):A3q (.aaddr len z)=true:=rfl
@[simp] theorem calmK_index:A3q (.index)=true:=rfl
@[simp] theorem calmK_slstr (lo:Bool) (hi:Bool):A3q (.slstr lo hi)=true:=rfl
@[simp] theorem calmK_slice (z:Nat) (lo:Bool) (hi:Bool):A3q (.slice z lo hi)=true:=rfl
@[simp] theorem calmK_ext (i:Nat):A3q (.ext i)=true:=rfl
@[simp] theorem calmK_chk:A3q (.chk)=true:=rfl
@[simp] theorem calmK_lenstr:A3q (.lenstr)=true:=rfl
@[simp] theorem calmK_lensl:A3q (.lensl)=true:=rfl
@[simp] theorem calmK_min:A3q (.min)=true:=rfl
@[simp] theorem calmK_max:A3q (.max)=true:=rfl
@[simp] theorem calmK_store (n:Nat):A3q (.store n)=true:=rfl
@[simp] theorem calmK_make (e:Nat) (n:Nat) (b:Nat) (zc:List Value):A3q (.make e n b zc)=true:=rfl
@[simp] theorem calmK_bslice (e:Nat) (n:Nat) (zc:List Value) (len:Nat) (idx:List Nat):A3q (.bslice e n zc len idx)=true:=rfl
@[simp] theorem calmK_build (pl:List (Nat×Nat)) (zc:List Value) (idx:List Nat):A3q (.build pl zc idx)=true:=rfl
@[simp] theorem calmK_barr (n:Nat) (zc:List Value) (idx:List Nat):A3q (.barr n zc idx)=true:=rfl
@[simp] theorem calmK_box (t:Nat):A3q (.box t)=true:=rfl
@[simp] theorem calmK_alloc (t:Nat) (zc:List Value):A3q (.alloc t zc)=true:=rfl
@[simp] theorem calmK_app (e:Nat) (n:Nat) (b:Nat):A3q (.app e n b)=true:=rfl
@[simp] theorem calmK_call (f:Nat):A3q (.call f)=true:=rfl
@[simp] theorem calmK_callv:A3q (.callv)=true:=rfl
@[simp] theorem calmK_tslice (e:Nat) (n:Nat) (zc:List Value) (len:Nat) (idx:List Nat):A3q (.tslice e n zc len idx)=true:=rfl
@[simp] theorem calmK_bad:A3q (.bad)=true:=rfl
@[simp] theorem calmK_ex (e:EK):A3q (.ex e)=true:=rfl
theorem C8w {ps:List PV} (h:A3q k=true):panK E H nx k ps=none:=by
 cases k
 case hx h2=>cases h2<;>first | (cases h;done) | rfl
 all_goals first | (cases h;done) | rfl
@[simp] theorem runsLE_nil {s:A0b}:A2n Φ E [] s K X=K s:=rfl
@[simp] theorem runsLE_calm (hk:A3q k=true):A2n Φ E (⟨d,k,xs,none⟩::r) ⟨env,H,nx,n⟩ K X=A1r (A0d Φ H nx k (xs.map (·.ev env))) fun q=>A2n Φ E r (A0b.set ⟨env,H,nx,n⟩ d q) K X:=by
 simp only[A2n,Mini.wants,onWants_true,C8w hk,onPan_none]
@[simp] theorem runsLE_hcall {f:Nat}:A2n Φ E (⟨d,.hcall f,xs,none⟩::r) ⟨env,H,nx,n⟩ K X=D1m (E f (xs.map (·.ev env)) H nx) X (A1r (A0d Φ H nx (.hcall f) (xs.map (·.ev env))) fun q=>A2n Φ E r (A0b.set ⟨env,H,nx,n⟩ d q) K X):=rfl
@[simp] theorem runsLE_pan:A2n Φ E (⟨d,.hx .pan,xs,none⟩::r) ⟨env,H,nx,n⟩ K X=D1m (B3q (xs.map (·.ev env))) X (A1r (A0d Φ H nx (.hx .pan) (xs.map (·.ev env))) fun q=>A2n Φ E r (A0b.set ⟨env,H,nx,n⟩ d q) K X):=rfl
@[simp] theorem runsLE_yes {g:Nat} {want:Bool} (h:look env g=some (.t (.v (.bool want)))) (hk:A3q k=true) :
  A2n Φ E (⟨d,k,xs,some (g,want)⟩::r) ⟨env,H,nx,n⟩ K X=A1r (A0d Φ H nx k (xs.map (·.ev env))) fun q=>A2n Φ E r (A0b.set ⟨env,H,nx,n⟩ d q) K X:=by
 simp only[A2n,Mini.wants,h,beq_self_eq_true,onWants_true,C8w hk,onPan_none]
theorem C8x {g:Nat} {want b:Bool} (h:look env g=some (.t (.v (.bool b)))) (hb:(b==want)=false) :
  A2n Φ E (⟨d,k,xs,some (g,want)⟩::r) ⟨env,H,nx,n⟩ K X=A2n Φ E r (A0b.set ⟨env,H,nx,n⟩ d (.t (.v undef),H,nx)) K X:=by
 simp only[A2n,Mini.wants,h,hb,onWants_false]
@[simp] theorem runsLE_no_t {g:Nat} (h:look env g=some (.t (.v (.bool false)))) :
  A2n Φ E (⟨d,k,xs,some (g,true)⟩::r) ⟨env,H,nx,n⟩ K X=A2n Φ E r (A0b.set ⟨env,H,nx,n⟩ d (.t (.v undef),H,nx)) K X:=C8x h rfl
@[simp] theorem runsLE_no_f {g:Nat} (h:look env g=some (.t (.v (.bool true)))) :
  A2n Φ E (⟨d,k,xs,some (g,false)⟩::r) ⟨env,H,nx,n⟩ K X=A2n Φ E r (A0b.set ⟨env,H,nx,n⟩ d (.t (.v undef),H,nx)) K X:=C8x h rfl
@[simp] theorem runsLE_no_u {g:Nat} {want:Bool} (h:look env g=some (.t (.v undef))) :
  A2n Φ E (⟨d,k,xs,some (g,want)⟩::r) ⟨env,H,nx,n⟩ K X=A2n Φ E r (A0b.set ⟨env,H,nx,n⟩ d (.t (.v undef),H,nx)) K X:=by
 simp only[A2n,Mini.wants,h,undef,onWants_false]
@[simp] theorem runsE_skip {s:A0b}:A5c Φ E .skip s Q=Q .normal s:=rfl
@[simp] theorem runsE_ops {l:List Mini}:A5c Φ E (.ops l) ⟨env,H,nx,n⟩ Q=A2n Φ E l ⟨env,H,nx,n⟩ (Q .normal) (anyP Q):=rfl
@[simp] theorem runsE_draw {l:List Mini}:A5c Φ E (.draw l) ⟨env,H,nx,n⟩ Q=A4z Φ l ⟨env,H,nx,n⟩ (Q .normal):=rfl
@[simp] theorem runsE_drawG {κ:Nat} {l:List GI}:A5c Φ E (.drawG κ l) ⟨env,H,nx,n⟩ Q=A7q Φ κ 0 0 [] l ⟨env,H,nx,n⟩ (Q .normal):=rfl
@[simp] theorem runsE_seq {a b:A0j}:A5c Φ E (.seq a b) ⟨env,H,nx,n⟩ Q=A5c Φ E a ⟨env,H,nx,n⟩ (A5q (fun s1=>A5c Φ E b s1 Q) Q):=rfl
@[simp] theorem runsE_true {c:Opd} {a b:A0j} (h:c.ev env = .t (.v (.bool true))):A5c Φ E (.cond c a b) ⟨env,H,nx,n⟩ Q=A5c Φ E a ⟨env,H,nx,n⟩ Q:=by simp only[A5c,h,onBool_true]
@[simp] theorem runsE_false {c:Opd} {a b:A0j} (h:c.ev env = .t (.v (.bool false))):A5c Φ E (.cond c a b) ⟨env,H,nx,n⟩ Q=A5c Φ E b ⟨env,H,nx,n⟩ Q:=by simp only[A5c,h,onBool_false]
@[simp] theorem runsE_block {i:Nat} {a:A0j}:A5c Φ E (.block i a) ⟨env,H,nx,n⟩ Q=A5c Φ E a ⟨env,H,nx,n⟩ (A5y i Q):=rfl
@[simp] theorem runsE_exit {i:Nat} {s:A0b}:A5c Φ E (.exit i) s Q=Q (.exit i) s:=rfl
@[simp] theorem runsE_scope {a:A0j}:A5c Φ E (.scope a) ⟨env,H,nx,n⟩ Q=A5c Φ E a ⟨env,H,nx,n⟩ (B4k Q):=rfl
@[simp] theorem runsE_ret {s:A0b}:A5c Φ E .ret s Q=Q .ret s:=rfl
@[simp] theorem anyP_normal (K:A0b->Prop) (ch:A2q):anyP (A5q K Q) ch=anyP Q ch:=rfl
@[simp] theorem anyP_block (i:Nat) (ch:A2q):anyP (A5y i Q) ch=anyP Q ch:=rfl
@[simp] theorem anyP_scope (ch:A2q):anyP (B4k Q) ch=anyP Q ch:=rfl
@[simp] theorem anyP_while {α:Type} (S:α->A0b) (Ok:α->Prop) (ch:A2q):anyP (B5x P G B S Ok Q) ch=anyP Q ch:=rfl
@[simp] theorem anyP_round (S:A0b) (ch:A2q):anyP (B8z P G B S Q) ch=anyP Q ch:=rfl
@[simp] theorem anyP_last (ch:A2q):anyP (C7h Q) ch=anyP Q ch:=rfl
@[simp] theorem anyP_ends (vs:List RV) (o:Out) (ch:A2q):anyP (F4p P G B vs o) ch=(o = .pan ch):=by
 refine propext ⟨fun h=>?_,fun h s=>?_⟩
 ·have:=h ⟨[],[],0,0⟩
  cases o with
  | ret r H nx=>
   obtain⟨he,_⟩:=(show C7e P G B vs (fun r0 H0 nx0=>r0=r/\H0=H/\nx0=nx) (.panic ch) ⟨[],[],0,0⟩from this)
   rcases he with he | he<;>cases he
  | pan c=>
   have e:Exit.panic ch=Exit.panic c:=this;injection e with e;rw[e]
 ·subst h;exact rfl
end
def isHc:MK->Bool
 | .hcall _=>true
 | _=>false
@[simp] theorem isHc_mv:isHc .mv=false:=rfl
@[simp] theorem isHc_faddr (n:Nat):isHc (.faddr n)=false:=rfl
@[simp] theorem isHc_load (b:Bool) (n:Nat):isHc (.load b n)=false:=rfl
@[simp] theorem isHc_bin (b:Bool) (op:BinOp) (nk:Option NK):isHc (.bin b op nk)=false:=rfl
@[simp] theorem isHc_tslice (e n:Nat) (zc:List Value) (len:Nat) (idx:List Nat):isHc (.tslice e n zc len idx)=false:=rfl
@[simp] theorem isHc_app (e n b:Nat):isHc (.app e n b)=false:=rfl
@[simp] theorem isHc_store (n:Nat):isHc (.store n)=false:=rfl
section
variable {α : Type} {P : Program} {G : A0q} {B : Nat}
theorem E2v (H:Heap) (F:List Nat) (x:T):frzP H F (.t x) = .t x:=rfl
theorem C3g (σ:Nat->Nat):∀cs:List T,renL σ (cs.map .t)=cs.map .t
 | []=>rfl
 | c::cs=>by simp only[List.map_cons,renL,C3g σ cs,ren]
theorem A2b (n:Nat):∀cs:List T,A1g n (cs.map .t)=true
 | []=>rfl
 | c::cs=>by simp only[List.map_cons,A1g,A2b n cs,under,Bool.and_self]
end
section
variable {Φ : A0o} {E : Pans} {env : List (Nat × PV)} {H : Heap} {nx n j : Nat} {K : A0b -> Prop} {X : A2q -> Prop} {d : Option Nat} {k : MK} {xs : List Opd} {gr : List GI} {pd : Pend} {kp : Bool} {ag : List Nat}
@[simp] theorem runsGE_nil {s:A0b}:A4e Φ E j pd [] s K X=K s:=rfl
@[simp] theorem runsGE_quiet (hk:A0h k=true) (hc:isHc k=false):A4e Φ E j pd (.o ⟨d,k,xs,none⟩ kp ag::gr) ⟨env,H,nx,n⟩ K X =
  A1r (A1x Φ H nx k (xs.map (·.ev env))) fun v=>A6c Φ pd H nx ag (A4e Φ E (j+1) (B2w kp j ⟨d,k,xs,none⟩ ⟨env,H,nx,n⟩ v pd) gr (A0b.set ⟨env,H,nx,n⟩ d (v,H,nx)) K X):=by
 have hp:panM E ⟨env,H,nx,n⟩ ⟨d,k,xs,none⟩=none:=by
  unfold panM;split
  ·rename_i f e;simp only at e;subst e;cases hc
  ·rfl
 simp only[A4e,hp,onPan_none,valD,hk,if_true,valQ,Mini.wants,ifSome_map]
@[simp] theorem runsGE_heavy (hk:A0h k=false) (hc:isHc k=false):A4e Φ E j pd (.o ⟨d,k,xs,none⟩ kp ag::gr) ⟨env,H,nx,n⟩ K X =
  A1r (A0d Φ H nx k (xs.map (·.ev env))) fun q=>A6c Φ pd q.2.1 q.2.2 ag (A4e Φ E (j+1) (B2w kp j ⟨d,k,xs,none⟩ ⟨env,H,nx,n⟩ q.1 pd) gr (A0b.set ⟨env,H,nx,n⟩ d q) K X):=by
 have hp:panM E ⟨env,H,nx,n⟩ ⟨d,k,xs,none⟩=none:=by
  unfold panM;split
  ·rename_i f e;simp only at e;subst e;cases hc
  ·rfl
 simp only[A4e,hp,onPan_none,valD,hk,Bool.false_eq_true,if_false,Mini.wants]
@[simp] theorem runsGE_hcall {f:Nat}:A4e Φ E j pd (.o ⟨d,.hcall f,xs,none⟩ kp ag::gr) ⟨env,H,nx,n⟩ K X =
  D1m (E f (xs.map (·.ev env)) H nx) X (A1r (A0d Φ H nx (.hcall f) (xs.map (·.ev env))) fun q=>A6c Φ pd q.2.1 q.2.2 ag (A4e Φ E (j+1) (B2w kp j ⟨d,.hcall f,xs,none⟩ ⟨env,H,nx,n⟩ q.1 pd) gr (A0b.set ⟨env,H,nx,n⟩ d q) K X)):=by
 have hq:A0h (.hcall f)=false:=rfl;simp only[A4e,panM,valD,hq,Bool.false_eq_true,if_false,Mini.wants]
end
section
variable {P : Program} {G : A0q}
noncomputable def hO (ps0:List PV) (H0:Heap) (nx0:Nat):Out->List PV->Heap->Nat->Option (PV×Heap×Nat)
 | .ret r H' nx'=>hOne ps0 H0 nx0 (r,H',nx')
 | .pan _=>fun _ _ _=>none
end
end Go.Abs
namespace Go.Proofs.YtmplckgbeaifkaaGreatDoor
open Go Go.Abs
variable {q : Gl}
abbrev pc (l:List UInt8) (i:Nat):List T:=[sv (bs l),iv (i:Int)]
abbrev pr (l:List UInt8) (i:Nat):Row:=.cells 212 [.t (sv (bs l)),.t (iv (i:Int))]
abbrev errC (e:Int):A2q:=[{ v:=.iface 208 (.agg #[.int .i64 e]),recovered:=false }]
section
variable (l : List UInt8) (i j : Nat) (x y : Row)
theorem pl0 (R:Heap):A0f false 1 ((0,pr l i)::R) (.ptr 0 0)=some (.t (sv (bs l))):=rfl
theorem pl1 (R:Heap):A0f false 1 ((0,pr l i)::R) (.ptr 0 1)=some (.t (iv (i:Int))):=rfl
theorem pw1 (R:Heap):A0r 1 ((0,pr l i)::R) (.ptr 0 1) (.t (iv (j:Int)))=some ((0,pr l j)::R):=rfl
end
def outP (l:List UInt8):Except Int (T×Nat)->Out
 | .ok (r,i)=>.ret (.t r) [(0,pr l i)] 1
 | .error e=>.pan (errC e)
def PM (P:Program) (G:A0q) (l:List UInt8) (f:FuncId) (i:Nat) (ts:List T) (o:Except Int (T×Nat)):Prop:=
 E7f P G f (.ptr 0 0::ts.map .t) [(0,pr l i)] 1 (outP l o)
theorem PM.ret {P:Program} {G:A0q} {l:List UInt8} {f:FuncId} {i:Nat} {ts:List T} {r:T} {i':Nat} {H':Heap} {nx':Nat} (h:A1n P G f (.ptr 0 0::ts.map .t) [(0,pr l i)] 1 (.t r) H' nx') (hl:Abs.look H' 0=some (pr l i')) :
  PM P G l f i ts (.ok (r,i')):=A1n.keep1 (cs:=pc l i') h hl
variable {l : List UInt8} {i : Nat}
def F4s (l:List UInt8):Except Int (T×Nat)->Except A2q (T×List T)
 | .ok (r,i)=>.ok (r,pc l i)
 | .error e=>.error (errC e)
abbrev PG:=Nat->List T->Option (Except Int (T×Nat))
noncomputable def pSp (l:List UInt8) (g:PG):Abs.Spec:=open Classical in fun cs ts=>match cs with
 | [t',.v (.int .i64 i)]=>if t'=sv (bs l)/\0<=i then(g i.toNat ts).map (F4s l)else none
 | _=>none
theorem E2w (g:PG) (ts:List T):pSp l g (pc l i) ts=(g i ts).map (F4s l):=by
 simp[pSp]
theorem A4r {P:Program} {G:A0q} {f:FuncId} {g:PG} (h:∀i ts o,g i ts=some o->PM P G l f i ts o):C8v P G f 212 (pSp l g):=fun cs ts o ho=>by
 unfold pSp at ho;split at ho
 ·rename_i t' i;split at ho
  ·rename_i hc;obtain⟨rfl,h0⟩:=hc;obtain⟨o',ho',rfl⟩:=Option.map_eq_some_iff.1 ho;have:=h _ _ _ ho';obtain⟨n,rfl⟩:=Int.eq_ofNat_of_zero_le h0
   cases o' with
   | ok x=>exact this
   | error e=>exact this
  ·cases ho
 ·cases ho
noncomputable abbrev hP (l:List UInt8) (g:PG):=hObj 212 (E2u (pSp l g))
noncomputable abbrev eP (l:List UInt8) (g:PG):=eObj 212 (pSp l g)
theorem C3h {g:PG} {b nx:Nat} {H:Heap} {ts:List T} {r:T} {i':Nat} (hl:Abs.look H b=some (pr l i)) (hb:b<nx) (ho:g i ts=some (.ok (r,i'))) :
  hP l g (.ptr b 0::ts.map .t) H nx=some (.t r,upd H b (pr l i'),nx):=E7i (cs:=pc l i) (cs':=pc l i') hl hb (by rw[E2w,ho];rfl)
theorem C3i {g:PG} {b nx:Nat} {H:Heap} {ts:List T} {x:T×Nat} (hl:Abs.look H b=some (pr l i)) (ho:g i ts=some (.ok x)) :
  eP l g (.ptr b 0::ts.map .t) H nx=none:=E7j (cs:=pc l i) (x:=(x.1,pc l x.2)) hl (by rw[E2w,ho];rfl)
theorem C8y {g:PG} {b nx:Nat} {H:Heap} {ts:List T} {e:Int} (hl:Abs.look H b=some (pr l i)) (hb:b<nx) (ho:g i ts=some (.error e)) :
  eP l g (.ptr b 0::ts.map .t) H nx=some (errC e):=E7k (cs:=pc l i) hl hb (by rw[E2w,ho];rfl)
def isNx (l:List UInt8) (i:Nat) (c:UInt8):Bool:=decide (l[i]?=some c)
theorem F1y (c:UInt8):PM Tryz.prog (G q) l 219 i [cv c] (.ok (bv (isNx l i c),i)):=by
 refine PM.ret (H':=[(0,pr l i)]) (nx':=1) ?_ rfl;refine B3m.callP rfl ?_;have C:Ctx Tryz.prog (G q) (orh [] []):=A0x.nil.ctxH .nil mixed;unfold isNx;by_cases hi:i<l.length
 ·obtain⟨x,hx⟩:∃x,l[i]?=some x:=⟨_,List.getElem?_eq_getElem hi⟩
  have ix:=D7r l hx
  have be:((x.toNat:Int)==(c.toNat:Int))=decide (some x=some c):=by
   have:=D1j x c;rw[Bool.eq_iff_iff];rw[Bool.eq_iff_iff]at this;simp only[bne_iff_ne,ne_eq,Bool.not_eq_true',decide_eq_false_iff_not]at this;simp only[beq_iff_eq,decide_eq_true_iff,Option.some.injEq];by_cases h:x=c
   ·subst h;simp
   ·simp[h,this.2 h]
  rw[hx,<-be];refine A0c C ?_
  (conv in A4l=>cbv);simp -implicitDefEqProofs [pl0,pl1,A0l,hi,ix]
  exact⟨.inr rfl,_,_,Sub.refl _,rfl,rfl,rfl,rfl⟩
 ·rw[List.getElem?_eq_none (by omega)];refine A0c C ?_
  (conv in A4l=>cbv);simp -implicitDefEqProofs [pl0,pl1,A0l,hi]
  exact⟨.inr rfl,_,_,Sub.refl _,rfl,rfl,rfl,rfl⟩
theorem bld1 (e:Int):A8w (fun k=>[(0,1)][k]?) [.t (iv 0)] [(0,.t (iv e))]=some [.t (iv e)]:=rfl
theorem ag1 (e:Int):agOf [.t (iv e)] = .t (.ag [iv e]):=rfl
theorem E2x:PM Tryz.prog (G q) l 200 i [] (.error (eosE (l.drop i))):=by
 refine B3l.callO rfl ?_;have C:Ctx Tryz.prog (G q) (orh [] []):=A0x.nil.ctxH .nil mixed;by_cases hi:l.length<=i
 ·have e:eosE (l.drop i)=9:=by rw[List.drop_of_length_le hi];rfl
  have hi':(l.length:Int)<=(i:Int):=by omega
  rw[e];refine A6x C (A9u.ok .nil) rfl ?_
  (conv in A4k=>cbv);simp -implicitDefEqProofs [pl0,pl1,A0l,hi,hi',bld1,ag1,outP]
 ·have e:eosE (l.drop i)=8:=by
   obtain⟨c,hc⟩:∃c,l[i]?=some c:=⟨_,List.getElem?_eq_getElem (by omega)⟩
   rw[B6d hc];rfl
  have hi':¬(l.length:Int)<=(i:Int):=by omega
  rw[e];refine A6x C (A9u.ok .nil) rfl ?_
  (conv in A4k=>cbv);simp -implicitDefEqProofs [pl0,pl1,A0l,hi,hi',bld1,ag1,outP]
noncomputable def gNx (l:List UInt8):PG:=fun i ts=>match ts with
 | [.v (.int .u8 n)]=>if 0<=n/\n<256 then some (.ok (bv (isNx l i (UInt8.ofNat n.toNat)),i))else none
 | _=>none
theorem C3j (c:UInt8):gNx l i [cv c]=some (.ok (bv (isNx l i c),i)):=by
 have h:=c.toNat_lt;simp only[gNx];rw[if_pos ⟨by omega,by omega⟩,Int.toNat_natCast,UInt8.ofNat_toNat]
theorem C3k:∀i ts o,gNx l i ts=some o->PM Tryz.prog (G q) l 219 i ts o:=fun i ts o h=>by
 unfold gNx at h;split at h
 ·rename_i n;split at h
  ·rename_i hc;injection h with h;subst h;have:=F1y (q:=q) (l:=l) (i:=i) (UInt8.ofNat n.toNat)
   have e:cv (UInt8.ofNat n.toNat) = .v (.int .u8 n):=by
    have:((UInt8.ofNat n.toNat).toNat:Int)=n:=by rw[UInt8.toNat_ofNat'];omega
    show T.v (.int .u8 ((UInt8.ofNat n.toNat).toNat:Int))=_;rw[this]
   rw[e]at this;exact this
  ·cases h
 ·cases h
noncomputable def gFl (l:List UInt8):PG:=fun i ts=>match ts with
 | []=>some (.error (eosE (l.drop i)))
 | _=>none
theorem D4q:∀i ts o,gFl l i ts=some o->PM Tryz.prog (G q) l 200 i ts o:=fun i ts o h=>by
 unfold gFl at h;split at h
 ·injection h with h;subst h;exact E2x
 ·cases h
noncomputable def ctA (l:List UInt8):HTbl:=[(219,hP l (gNx l)),(200,hP l (gFl l))]
noncomputable def ceA (l:List UInt8):ETbl:=[(219,eP l (gNx l)),(200,eP l (gFl l))]
theorem ctxA (tbl:Tbl) (h:A0x Tryz.prog (G q) tbl):Ctx Tryz.prog (G q) (orh tbl (ctA l)):=h.ctxH (.cons (A4r C3k).hok (.cons (A4r D4q).hok .nil)) mixed
theorem panA:POK Tryz.prog (G q) (orE (ceA l)):=A9u.ok (.cons (A4r C3k).eok (.cons (A4r D4q).eok .nil))
section
variable (l i)
theorem E9v (R:Heap) (nx:Nat) (h:0<nx) (c:UInt8):hP l (gNx l) [.ptr 0 0,.t (cv c)] ((0,pr l i)::R) nx=some (.t (bv (isNx l i c)),(0,pr l i)::R,nx):=C3h (ts:=[cv c]) rfl h (C3j c)
theorem F1z (R:Heap) (nx:Nat) (c:UInt8):eP l (gNx l) [.ptr 0 0,.t (cv c)] ((0,pr l i)::R) nx=none:=C3i (ts:=[cv c]) (x:=(bv (isNx l i c),i)) rfl (C3j c)
theorem E2y (R:Heap) (nx:Nat) (h:0<nx):eP l (gFl l) [.ptr 0 0] ((0,pr l i)::R) nx=some (errC (eosE (l.drop i))):=C8y (ts:=[]) rfl h rfl
end
def resX {α:Type} (l:List UInt8) (f:α->T):Except Int (α×List UInt8)->Except Int (T×Nat)
 | .ok (x,r)=>.ok (f x,l.length-r.length)
 | .error e=>.error e
def takX (l:List UInt8) (i:Nat) (c:UInt8):Except Int (T×Nat):=match takB c (l.drop i)with
 | .ok _=>.ok (.tu [],i+1)
 | .error e=>.error e
theorem D4r {c:UInt8} (h:l[i]?=some c):takX l i c = .ok (.tu [],i+1):=by
 unfold takX;rw[B6d h,takB,if_pos rfl]
theorem D1o {c:UInt8} (h:l[i]?≠some c):takX l i c = .error (eosE (l.drop i)):=by
 unfold takX
 cases hx:l[i]? with
 | none=>rw[List.drop_of_length_le (by simpa using hx)];rfl
 | some x=>
  rw[B6d hx,takB,if_neg (fun e=>h (by rw[hx,e]))];rfl
theorem F2a (c:UInt8) (hi:i<4611686018427387904):PM Tryz.prog (G q) l 220 i [cv c] (takX l i c):=by
 have C:=ctxA (q:=q) (l:=l) [] .nil;have n1:=E9v l i [] 1 (by omega) c;have n2:=F1z l i [] 1 c;have f1:=E2y l i [] 1 (by omega);by_cases h:l[i]?=some c
 ·rw[D4r h];have hb:isNx l i c=true:=decide_eq_true h;rw[hb]at n1;have e1:IntKind.i64.wrap ((i:Int)+1)=((i+1:Nat):Int):=A0p (by omega) (by omega);refine PM.ret (H':=[(0,pr l (i+1))]) (nx':=1) ?_ rfl;refine A6u.callP rfl ?_;refine A0c C ?_
  (conv in A4m=>cbv);simp -implicitDefEqProofs [ctA,n1,pl1,e1,pw1]
  exact⟨.inl rfl,_,_,Sub.refl _,rfl,rfl,rfl,rfl⟩
 ·rw[D1o h];have hb:isNx l i c=false:=decide_eq_false h;rw[hb]at n1;refine A6u.callO rfl ?_;refine A6x C (panA (l:=l)) rfl ?_
  (conv in A4m=>cbv);simp -implicitDefEqProofs [ctA,ceA,n1,n2,f1,outP]
noncomputable def gTa (l:List UInt8):PG:=fun i ts=>match ts with
 | [.v (.int .u8 n)]=>if 0<=n/\n<256/\i<4611686018427387904 then some (takX l i (UInt8.ofNat n.toNat))else none
 | _=>none
theorem C3l (c:UInt8) (hi:i<4611686018427387904):gTa l i [cv c]=some (takX l i c):=by
 have h:=c.toNat_lt;simp only[gTa];rw[if_pos ⟨by omega,by omega,hi⟩,Int.toNat_natCast,UInt8.ofNat_toNat]
theorem D4s:∀i ts o,gTa l i ts=some o->PM Tryz.prog (G q) l 220 i ts o:=fun i ts o h=>by
 unfold gTa at h;split at h
 ·rename_i n;split at h
  ·rename_i hc;injection h with h;subst h;have:=F2a (q:=q) (l:=l) (UInt8.ofNat n.toNat) hc.2.2
   have e:cv (UInt8.ofNat n.toNat) = .v (.int .u8 n):=by
    have:((UInt8.ofNat n.toNat).toNat:Int)=n:=by rw[UInt8.toNat_ofNat'];omega
    show T.v (.int .u8 ((UInt8.ofNat n.toNat).toNat:Int))=_;rw[this]
   rw[e]at this;exact this
  ·cases h
 ·cases h
variable {q : Gl} {l : List UInt8} {i : Nat}
theorem C5l (l:List UInt8) (i k:Nat):(l.drop i)[k]?=l[i+k]?:=List.getElem?_drop ..
theorem D4t (l:List UInt8) (r:T) (i:Nat):outP l (.ok (r,i)) = .ret (.t r) [(0,pr l i)] 1:=rfl
def SPn (l:List UInt8) (i j:Nat):A0b:=⟨[(3,.t (iv (i:Int))),(0,.ptr 0 0)],[(0,pr l j)],1,57⟩
structure OkPn (s:List UInt8) (i j:Nat):Prop where
 ge:i<=j
 le:j-i<=s.length
 big:j-i<=32
 eq:(j-i)+A4s (j-i) (s.drop (j-i))=A4s 0 s
 all:∀(k:Nat) x,k<j-i->s[k]?=some x->okAt false k x=true
theorem E7l (hl:l.length<=2100000000000) (hi:i<=l.length):PM Tryz.prog (G q) l 221 i [] (resX l (fun n=>sv (bs n)) (A7g (l.drop i))):=by
 obtain⟨s,hs⟩:∃s,s=l.drop i:=⟨_,rfl⟩
 have hsl:i+s.length=l.length:=by rw[hs,List.length_drop];omega
 obtain⟨n,hn⟩:∃n,n=A4s 0 s:=⟨_,rfl⟩
 have hnle:n<=s.length:=by rw[hn];exact B8f s 0
 have C:=ctxA (q:=q) (l:=l) [(58,gNm)] (.cons hNm .nil);have E:=panA (q:=q) (l:=l);rw[<-hs]
 obtain⟨O,hO⟩:∃O,O=resX l (fun n=>sv (bs n)) (A7g s):=⟨_,rfl⟩
 rw[<-hO];unfold A7g at hO;rw[<-hn]at hO;refine B3n.callO rfl ?_;(conv in A6v=>cbv);refine A0a C ?_;simp -implicitDefEqProofs;refine A0a C ?_;simp -implicitDefEqProofs [pl1];refine A1f (α:=Unit) (fun _=>SPn l i (i+n)) (fun _=>True) (fun _=>rfl) ?_ ?_
 ·refine A0n ?_;refine A1a (SPn l i) (fun j=>l.length-j) (OkPn s i) i (fun _=>rfl) ⟨Nat.le_refl _,by omega,by omega,by simp,fun k x h=>by omega⟩ ?_ rfl ?_
  ·exact A0e (by simp -implicitDefEqProofs [SPn])
  rintro j ⟨hge,hj,hb,heq,hall⟩
  obtain⟨k,rfl⟩:∃k,j=i+k:=⟨j-i,by omega⟩
  rw[Nat.add_sub_cancel_left]at hj hb heq hall
  obtain⟨j,hjj⟩:∃j,j=i+k:=⟨_,rfl⟩
  rw[<-hjj];refine A0c C ?_;by_cases hlt:k<s.length
  ·obtain⟨c,hc⟩:∃c,s[k]?=some c:=⟨_,List.getElem?_eq_getElem hlt⟩
   have hlj:j<l.length:=by omega
   obtain⟨j1,hj1⟩:∃j1,j1=j+1:=⟨_,rfl⟩
   have e1:IntKind.i64.wrap ((j:Int)+1)=(j1:Int):=A0p (by omega) (by omega);have s1:=D4k l (i:=i) (j:=j1) (by omega) (by omega);rw[<-hs,show j1-i=k+1 by omega]at s1;have g1:=C3d (s:=bs (s.take (k+1))) (by rw[A0l,List.length_take];unfold lim;omega);rw[C3f hc hall hb]at g1;rw[B6d hc,A4s]at heq
   cases ht:decide (k<32)&&okAt false k c with
   | true=>
    rw[ht]at g1;rw[ht,if_pos rfl]at heq;rw[Bool.and_eq_true,decide_eq_true_iff]at ht;simp -implicitDefEqProofs [SPn,pl0,pl1,A0l,hlj,e1,s1,g1,pw1];refine Abs.Next.mk j1 ⟨⟨by omega,by omega,by omega,?_,?_⟩,by omega⟩ (A0e (by simp -implicitDefEqProofs [SPn]))
    ·rw[show j1-i=k+1 by omega];omega
    ·rw[show j1-i=k+1 by omega];intro x y hx hy;by_cases e:x=k
     ·subst e;rw[hc]at hy;injection hy with hy;subst hy;exact ht.2
     ·exact hall x y (by omega) hy
   | false=>
    rw[ht]at g1;rw[ht,if_neg (by simp)]at heq
    have e:j=i+n:=by omega
    simp -implicitDefEqProofs [SPn,pl0,pl1,A0l,hlj,e1,s1,g1];rw[<-e];exact Abs.Next.mk () trivial (A0e (by simp -implicitDefEqProofs))
  ·rw[List.drop_of_length_le (by omega),A4s]at heq
   have e:j=i+n:=by omega
   have hlj:¬j<l.length:=by omega
   simp -implicitDefEqProofs [SPn,pl0,pl1,A0l,hlj];rw[<-e];exact Abs.Next.mk () trivial (A0e (by simp -implicitDefEqProofs))
 rintro _ -
 obtain⟨j,hj⟩:∃j,j=i+n:=⟨_,rfl⟩
 rw[<-hj];by_cases h0:n=0
 ·rw[if_pos h0]at hO
  have b0:((j:Int)==(i:Int))=true:=by rw[beq_iff_eq];omega
  have f1:=E2y l j [] 1 (by omega);rw[show l.drop j=s by rw[hj,h0,hs];rfl]at f1;have hO:O = .error (eosE s):=hO;rw[hO];refine A0u C E rfl ?_;simp -implicitDefEqProofs [SPn,pl1,b0,ctA,ceA,f1,outP]
 ·rw[if_neg h0]at hO
  have b0:((j:Int)==(i:Int))=false:=by rw[beq_eq_false_iff_ne];omega
  have hO:O = .ok (sv (bs (s.take n)),j):=by
   rw[hO];show Except.ok (_,_)=_;rw[List.length_drop];congr 2;omega
  have s1:=D4k l (i:=i) (j:=j) (by omega) (by omega);rw[<-hs,show j-i=n by omega]at s1;rw[hO,D4t];refine A0a C ?_;simp -implicitDefEqProofs [SPn,pl1,b0];refine A0c C ?_;simp -implicitDefEqProofs [pl0,pl1,s1];exact⟨.inr rfl,_,_,Sub.refl _,rfl,rfl,rfl,rfl⟩
noncomputable def gNa (l:List UInt8):PG:=fun i ts=>match ts with
 | []=>if i<=l.length then some (resX l (fun n=>sv (bs n)) (A7g (l.drop i)))else none
 | _=>none
theorem E9w (hl:l.length<=2100000000000):∀i ts o,gNa l i ts=some o->PM Tryz.prog (G q) l 221 i ts o:=fun i ts o h=>by
 unfold gNa at h;split at h
 ·split at h
  ·injection h with h;subst h;exact E7l hl (by assumption)
  ·cases h
 ·cases h
theorem F4t (hi:i<=l.length):gNa l i []=some (resX l (fun n=>sv (bs n)) (A7g (l.drop i))):=if_pos hi
variable {q : Gl} {l : List UInt8} {i : Nat}
theorem E2z {a d:List UInt8} (ha:a=[]\/a=[45]) (hd:∀c∈d,A0w c=true):dOf (a++d)=d/\((a++d).head?==some 45)=(a==[45]):=by
 rcases ha with rfl | rfl
 ·cases d with
  | nil=>exact⟨rfl,rfl⟩
  | cons c r=>
   have h:=D3r (hd c (by simp))
   have e:((c::r).head?==some 45)=false:=by
    show(some c==some 45)=false;rw[beq_eq_false_iff_ne];intro e;injection e with e;exact h e
   refine⟨?_,e⟩;unfold dOf;rw[List.nil_append,e];rfl
 ·exact⟨rfl,rfl⟩
theorem D7y {a d:List UInt8} (ha:a=[]\/a=[45]) (hd:∀c∈d,A0w c=true) (h:(numS (a++d)).2=0) {k:Nat} (hk:1<=k) (hkl:k<=d.length):(numS (a++d.take k)).2=0:=by
 have hd':∀c∈d.take k,A0w c=true:=fun c hc=>hd c (List.mem_of_mem_take hc);obtain⟨e1,e2⟩:=E2z ha hd;obtain⟨f1,f2⟩:=E2z ha hd'
 have hne:(d.take k).isEmpty=false:=by
  cases h9:d.take k with
  | nil=>
   have:=congrArg List.length h9;rw[List.length_take,List.length_nil]at this;omega
  | cons _ _=>rfl
 have hall:(d.take k).all A0w=true:=List.all_eq_true.2 hd'
 have hhead:(d.take k).head?=d.head?:=by
  cases d with
  | nil=>rw[List.take_nil]
  | cons c r=>cases k with
   | zero=>omega
   | succ k=>rfl
 have hv:=B7g d k;rw[A7v,e1,e2]at h;rw[A7v,f1,f2,hne,hall,hhead];split at h
 ·simp at h
 rename_i hc;rw[Bool.or_eq_true,not_or]at hc
 have h48:(d.head?==some 48&&(a++d.take k) != [48])=false:=by
  cases h9:(d.head?==some 48)with
  | false=>rfl
  | true=>
   have:=hc.2;rw[h9,Bool.true_and]at this
   have hl:a++d=[48]:=by simpa using this
   rcases ha with rfl | rfl
   ·rw[List.nil_append]at hl;subst hl
    have:k=1:=by simp at hkl;omega
    subst this;rfl
   ·cases hl
 rw[h48];simp only[Bool.not_true,Bool.or_self,Bool.false_eq_true,if_false];split at h
 ·rw[if_pos (by assumption)];split at h
  ·rw[if_pos (by omega)]
  ·simp at h
 ·rw[if_neg (by assumption)];split at h
  ·rw[if_pos (by omega)]
  ·simp at h
theorem E7m {s:List UInt8} (h:s[0]?≠some 45):(sgn s).1=[]:=by
 cases s with
 | nil=>rfl
 | cons c r=>
  unfold sgn;split
  ·rename_i e;injection e with e _;subst e;exact absurd rfl h
  ·rfl
def SPm (l:List UInt8) (i j first:Nat):A0b:=⟨[(4,.t (iv (first:Int))),(3,.t (iv (i:Int))),(0,.ptr 0 0)],[(0,pr l j)],1,108⟩
theorem D7z (hl:l.length<=2100000000000) (hi:i<=l.length):PM Tryz.prog (G q) l 222 i [] (resX l iv (A6k (l.drop i))):=by
 obtain⟨s,hs⟩:∃s,s=l.drop i:=⟨_,rfl⟩
 have hsl:i+s.length=l.length:=by rw[hs,List.length_drop];omega
 have C:=ctxA (q:=q) (l:=l) [(210,gNu)] (.cons hNu .nil);have E:=panA (q:=q) (l:=l);rw[<-hs]
 obtain⟨O,hO⟩:∃O,O=resX l iv (A6k s):=⟨_,rfl⟩
 rw[<-hO]
 obtain⟨a,ha⟩:∃a,a=(sgn s).1:=⟨_,rfl⟩
 obtain⟨d,hd⟩:∃d,d=(sgn s).2:=⟨_,rfl⟩
 obtain⟨w,hw⟩:∃w,w=d.takeWhile A0w:=⟨_,rfl⟩
 have ha1:a=[]\/a=[45]:=by rw[ha];exact D1i s
 have had:a++d=s:=by rw[ha,hd];exact B9l s
 have hlen:a.length+d.length=s.length:=by rw[<-had,List.length_append]
 have hwd:w++d.dropWhile A0w=d:=by rw[hw];exact List.takeWhile_append_dropWhile
 have hwl:w.length<=d.length:=by rw[<-hwd,List.length_append];omega
 have hwdig:∀c∈w,A0w c=true:=fun c hc=>by rw[hw]at hc;exact List.all_eq_true.1 List.all_takeWhile c hc
 have htk:∀k,k<=w.length->s.take (a.length+k)=a++w.take k:=fun k hk=>by
  rw[<-had,List.take_length_add_append,<-hwd,List.take_append_of_le_length hk]
 unfold A6k at hO;simp only at hO;rw[<-ha,<-hd,<-hw]at hO
 obtain⟨first,hfirst⟩:∃f,f=i+a.length:=⟨_,rfl⟩
 refine B0t.callO rfl ?_;(conv in A5w=>cbv);refine A0a C ?_;simp -implicitDefEqProofs;refine A0a C ?_;simp -implicitDefEqProofs [pl1];have n1:=E9v l i [] 1 (by omega) 45;have n1:hP l (gNx l) [.ptr 0 0,.t (.v (.int .u8 45))] [(0,pr l i)] 1=some (.t (bv (isNx l i 45)),[(0,pr l i)],1):=n1;refine A1f (α:=Unit) (fun _=>⟨[(3,.t (iv (i:Int))),(0,.ptr 0 0)],[(0,pr l first)],1,108⟩) (fun _=>True) (fun _=>rfl) ?_ ?_
 ·refine A0c C ?_;by_cases h45:l[i]?=some 45
  ·have e:a=[45]:=by rw[ha,hs,B6d h45];rfl
   have hb:isNx l i 45=true:=decide_eq_true h45;rw[hb]at n1
   have ef:first=i+1:=by rw[hfirst,e];rfl
   have e1:IntKind.i64.wrap ((i:Int)+1)=(first:Int):=by rw[ef];exact A0p (by omega) (by omega)
   simp -implicitDefEqProofs [ctA,n1,pl1,e1,pw1];exact Abs.Next.mk () trivial (A0e (by simp -implicitDefEqProofs))
  ·have e:a=[]:=by
    rw[ha];refine E7m fun h=>h45 ?_;rw[hs,C5l,Nat.add_zero]at h;exact h
   have hb:isNx l i 45=false:=decide_eq_false h45;rw[hb]at n1
   have ef:first=i:=by rw[hfirst,e];rfl
   simp -implicitDefEqProofs [ctA,n1];rw[ef];exact Abs.Next.mk () trivial (A0e (by simp -implicitDefEqProofs))
 rintro _ -;refine A0a C ?_;simp -implicitDefEqProofs [pl1]
 have hget:∀k,l[first+k]?=d[k]?:=fun k=>by
  have:s[a.length+k]?=d[k]?:=by rw[<-had,List.getElem?_append_right (by omega),Nat.add_sub_cancel_left]
  rw[<-this,hs,C5l,hfirst];congr 1;omega
 refine A1f (α:=Unit) (fun _=>SPm l i (first+w.length) first) (fun _=>w≠[]->(numS (a++w)).2=0) (fun _=>rfl) ?_ ?_
 ·refine A0n ?_
  refine A1a (fun j=>SPm l i j first) (fun j=>l.length-j) (fun j=>first<=j/\j<=first+w.length/\(first<j->(numS (a++w.take (j-first))).2=0)) first (fun _=>rfl) ⟨Nat.le_refl _,by omega,fun h=>by omega⟩ ?_ rfl ?_
  ·exact A0e (by simp -implicitDefEqProofs [SPm])
  rintro j ⟨hge,hle,hok⟩
  obtain⟨k,hk⟩:∃k,j=first+k:=⟨j-first,by omega⟩
  have hgk:=hget k;rw[<-hk]at hgk;by_cases hlt:k<w.length
  ·obtain⟨c,hc,hdg⟩:=F1p A0w d k (by rw[<-hw];exact hlt)
   have hlj:j<l.length:=by omega
   have i1:=D7r l (hgk.trans hc);unfold A0w at hdg;rw[Bool.and_eq_true,decide_eq_true_iff,decide_eq_true_iff]at hdg
   have b1:(48:Int)<=(c.toNat:Int):=by omega
   have b2:(c.toNat:Int)<=57:=by omega
   obtain⟨j1,hj1⟩:∃j1,j1=j+1:=⟨_,rfl⟩
   have e1:IntKind.i64.wrap ((j:Int)+1)=(j1:Int):=A0p (by omega) (by omega);have s1:=D4k l (i:=i) (j:=j1) (by omega) (by omega);rw[<-hs,show j1-i=a.length+(k+1)by omega,htk (k+1) (by omega)]at s1;have g1:=C8o (s:=bs (a++w.take (k+1))) (by rw[A0l,List.length_append,List.length_take];omega);rw[A6w]at g1;have g1:gNu [sv (bs (a++w.take (k+1)))]=some (.tu [iv (numS (a++w.take (k+1))).1,iv (numS (a++w.take (k+1))).2]):=g1;refine A6x C E rfl ?_;by_cases h0:(numS (a++w.take (k+1))).2=0
   ·have b0:((numS (a++w.take (k+1))).2 != 0)=false:=by simpa using h0
    simp -implicitDefEqProofs [SPm,pl0,pl1,A0l,hlj,i1,b1,b2,e1,pw1,s1,g1,b0];exact Abs.Next.mk j1 ⟨⟨by omega,by omega,fun _=>by rw[show j1-first=k+1 by omega];exact h0⟩,by omega⟩ (A0e (by simp -implicitDefEqProofs [SPm]))
   ·have b0:((numS (a++w.take (k+1))).2 != 0)=true:=by simpa using h0
    have hwn:w≠[]:=by intro e;rw[e]at hlt;simp at hlt
    have hbad:(numS (a++w)).2≠0:=fun h=>h0 (D7y ha1 hwdig h (by omega) (by omega));rw[if_neg hwn,if_neg hbad]at hO;have hO:O = .error 8:=hO;rw[hO];simp -implicitDefEqProofs [SPm,pl0,pl1,A0l,hlj,i1,b1,b2,e1,pw1,s1,g1,b0,bld1,ag1,outP]
  ·have ejn:j=first+w.length:=by omega
   have hkk:k=(d.takeWhile A0w).length:=by rw[<-hw];omega
   have hfin:w≠[]->(numS (a++w)).2=0:=fun hwn=>by
    have h1:0<w.length:=List.length_pos_iff.2 hwn;have:=hok (by omega);rwa[show j-first=w.length by omega,List.take_length]at this
   refine A0c C ?_
   cases hc:l[j]? with
   | none=>
    have hlj:¬j<l.length:=by
     have:=List.getElem?_eq_none_iff.1 hc;omega
    simp -implicitDefEqProofs [SPm,pl0,pl1,A0l,hlj];rw[ejn];exact Abs.Next.mk () hfin (A0e (by simp -implicitDefEqProofs))
   | some c=>
    have hlj:j<l.length:=(List.getElem?_eq_some_iff.1 hc).1;have i1:=D7r l hc;have hdg:=E2m A0w d c (by rw[<-hkk,<-hgk,hc]);unfold A0w at hdg;by_cases b1:48<=c.toNat
    ·have b2:¬c.toNat<=57:=fun e=>by simp[b1,e]at hdg
     have b1':(48:Int)<=(c.toNat:Int):=by omega
     have b2':¬(c.toNat:Int)<=57:=by omega
     simp -implicitDefEqProofs [SPm,pl0,pl1,A0l,hlj,i1,b1',b2'];rw[ejn];exact Abs.Next.mk () hfin (A0e (by simp -implicitDefEqProofs))
    ·have b1':¬(48:Int)<=(c.toNat:Int):=by omega
     simp -implicitDefEqProofs [SPm,pl0,pl1,A0l,hlj,i1,b1'];rw[ejn];exact Abs.Next.mk () hfin (A0e (by simp -implicitDefEqProofs))
 rintro _ hfin
 obtain⟨j,hj⟩:∃j,j=first+w.length:=⟨_,rfl⟩
 rw[<-hj]
 have hrest:d.dropWhile A0w=l.drop j:=by
  have:l.drop j=(s.drop a.length).drop w.length:=by rw[hs,List.drop_drop,List.drop_drop];congr 1;omega
  rw[this,<-had,List.drop_left,<-hwd,List.drop_left,hwd]
 by_cases h0:w=[]
 ·rw[if_pos h0]at hO
  have b0:((j:Int)==(first:Int))=true:=by
   rw[beq_iff_eq]
   have:w.length=0:=by rw[h0];rfl
   omega
  have f1:=E2y l j [] 1 (by omega);rw[hrest]at hO;have hO:O = .error (eosE (l.drop j)):=hO;rw[hO];refine A0u C E rfl ?_;simp -implicitDefEqProofs [SPm,pl1,b0,ctA,ceA,f1,outP]
 ·have hpos:0<w.length:=List.length_pos_iff.2 h0;rw[if_neg h0,if_pos (hfin h0)]at hO
  have b0:((j:Int)==(first:Int))=false:=by rw[beq_eq_false_iff_ne];omega
  have hO:O = .ok (iv (numS (a++w)).1,j):=by
   rw[hO,hrest];show Except.ok (_,_)=_;rw[List.length_drop];congr 2;omega
  have s1:=D4k l (i:=i) (j:=j) (by omega) (by omega);rw[<-hs,show j-i=a.length+w.length by omega,htk w.length (Nat.le_refl _),List.take_length]at s1;have g1:=C8o (s:=bs (a++w)) (by rw[A0l,List.length_append];omega);rw[A6w]at g1;have g1:gNu [sv (bs (a++w))]=some (.tu [iv (numS (a++w)).1,iv (numS (a++w)).2]):=g1;rw[hO,D4t];refine A0a C ?_;simp -implicitDefEqProofs [SPm,pl1,b0];refine A0a C ?_;simp -implicitDefEqProofs [pl0,pl1,s1,g1];refine A0c C ?_;simp -implicitDefEqProofs;exact⟨.inr rfl,_,_,Sub.refl _,rfl,rfl,rfl,rfl⟩
noncomputable def gNb (l:List UInt8):PG:=fun i ts=>match ts with
 | []=>if i<=l.length then some (resX l iv (A6k (l.drop i)))else none
 | _=>none
theorem E9x (hl:l.length<=2100000000000):∀i ts o,gNb l i ts=some o->PM Tryz.prog (G q) l 222 i ts o:=fun i ts o h=>by
 unfold gNb at h;split at h
 ·split at h
  ·injection h with h;subst h;exact D7z hl (by assumption)
  ·cases h
 ·cases h
theorem E3a (hi:i<=l.length):gNb l i []=some (resX l iv (A6k (l.drop i))):=if_pos hi
variable {q : Gl} {l : List UInt8} {i : Nat}
structure At (l:List UInt8) (j:Nat) (s:List UInt8):Prop where
 le:j<=l.length
 eq:l.drop j=s
theorem At.len {j:Nat} {s:List UInt8} (h:At l j s):j=l.length-s.length:=by
 have:=congrArg List.length h.eq;rw[List.length_drop]at this;have:=h.le;omega
theorem At.suf {j:Nat} {x r:List UInt8} (h:At l j (x++r)):At l (l.length-r.length) r/\l.length-r.length=j+x.length:=by
 have h1:=h.len;have h2:=h.le;rw[List.length_append]at h1;have h3:=congrArg List.length h.eq;rw[List.length_drop,List.length_append]at h3
 have e:l.length-r.length=j+x.length:=by omega
 refine⟨⟨by omega,?_⟩,e⟩;rw[e,<-List.drop_drop,h.eq,List.drop_left]
theorem At.tail {j:Nat} {c:UInt8} {r:List UInt8} (h:At l j (c::r)):At l (j+1) r:=by
 have h1:=(h.suf (x:=[c]) (r:=r))
 have e:l.length-r.length=j+1:=h1.2;rw[<-e];exact h1.1
theorem At.head {j:Nat} {c:UInt8} {r:List UInt8} (h:At l j (c::r)):l[j]?=some c:=by
 have:(l.drop j)[0]?=some c:=by rw[h.eq];rfl
 rwa[C5l,Nat.add_zero]at this
theorem At.takX {j:Nat} {c:UInt8} {s:List UInt8} (h:At l j s):takX l j c=(match takB c s with
  | .ok _=>.ok (.tu [],j+1)
  | .error e=>.error e):=by unfold Proofs.YtmplckgbeaifkaaGreatDoor.takX;rw[h.eq];all_goals (cases Proofs.YtmplckgbeaifkaaGreatDoor.takB c s<;>rfl)
theorem At.isNx {j:Nat} {c:UInt8} {s:List UInt8} (h:At l j s):isNx l j c=decide (s.head?=some c):=by
 unfold Proofs.YtmplckgbeaifkaaGreatDoor.isNx;rw[<-h.eq,List.head?_drop]
noncomputable def gNd (k:Nat) (l:List UInt8):PG:=fun i ts=>match ts with
 | [.v (.int .i64 m)]=>if m=65-(k:Int)/\i<=l.length then some (resX l (fun d=>.ag (encD d)) (A2i k (l.drop i)))else none
 | _=>none
theorem F4u {k:Nat} (hi:i<=l.length):gNd k l i [iv (65-(k:Int))]=some (resX l (fun d=>.ag (encD d)) (A2i k (l.drop i))):=if_pos ⟨rfl,hi⟩
noncomputable def ctN (k:Nat) (l:List UInt8):HTbl:=[(219,hP l (gNx l)),(200,hP l (gFl l)),(220,hP l (gTa l)),(221,hP l (gNa l)),(222,hP l (gNb l)),(199,hP l (gNd k l))]
noncomputable def ceN (k:Nat) (l:List UInt8):ETbl:=[(219,eP l (gNx l)),(200,eP l (gFl l)),(220,eP l (gTa l)),(221,eP l (gNa l)),(222,eP l (gNb l)),(199,eP l (gNd k l))]
section
variable {k : Nat} (hl : l.length <= 2100000000000) (hrec : ∀ i ts o, gNd k l i ts = some o -> PM Tryz.prog (G q) l 199 i ts o)
include hl hrec
theorem F4v:Ctx Tryz.prog (G q) (orh [] (ctN k l)):=A0x.nil.ctxH (.cons (A4r C3k).hok (.cons (A4r D4q).hok (.cons (A4r D4s).hok (.cons (A4r (E9w hl)).hok (.cons (A4r (E9x hl)).hok (.cons (A4r hrec).hok .nil)))))) mixed
theorem F4w:POK Tryz.prog (G q) (orE (ceN k l)):=A9u.ok (.cons (A4r C3k).eok (.cons (A4r D4q).eok (.cons (A4r D4s).eok (.cons (A4r (E9w hl)).eok (.cons (A4r (E9x hl)).eok (.cons (A4r hrec).eok .nil))))))
end
section
variable (X Y : Row) (R : Heap) (nx : Nat) (l) (j : Nat)
theorem nx2 (h:0<nx) (c:UInt8):hP l (gNx l) [.ptr 0 0,.t (cv c)] ((1,Y)::(0,pr l j)::R) nx=some (.t (bv (isNx l j c)),(1,Y)::(0,pr l j)::R,nx):=C3h (ts:=[cv c]) rfl h (C3j c)
theorem nx2n (c:UInt8):eP l (gNx l) [.ptr 0 0,.t (cv c)] ((1,Y)::(0,pr l j)::R) nx=none:=C3i (ts:=[cv c]) (x:=(bv (isNx l j c),j)) rfl (C3j c)
theorem nx3 (h:0<nx) (c:UInt8):hP l (gNx l) [.ptr 0 0,.t (cv c)] ((2,X)::(1,Y)::(0,pr l j)::R) nx=some (.t (bv (isNx l j c)),(2,X)::(1,Y)::(0,pr l j)::R,nx):=C3h (ts:=[cv c]) rfl h (C3j c)
theorem nx3n (c:UInt8):eP l (gNx l) [.ptr 0 0,.t (cv c)] ((2,X)::(1,Y)::(0,pr l j)::R) nx=none:=C3i (ts:=[cv c]) (x:=(bv (isNx l j c),j)) rfl (C3j c)
theorem fl3 (h:0<nx):eP l (gFl l) [.ptr 0 0] ((2,X)::(1,Y)::(0,pr l j)::R) nx=some (errC (eosE (l.drop j))):=C8y (ts:=[]) rfl h rfl
theorem m3 (h:0<nx) {g:PG} {ts:List T} {r:T} {j':Nat} (ho:g j ts=some (.ok (r,j'))):hP l g (.ptr 0 0::ts.map .t) ((2,X)::(1,Y)::(0,pr l j)::R) nx=some (.t r,(2,X)::(1,Y)::(0,pr l j')::R,nx):=C3h (ts:=ts) rfl h ho
theorem m3n {g:PG} {ts:List T} {x:T×Nat} (ho:g j ts=some (.ok x)):eP l g (.ptr 0 0::ts.map .t) ((2,X)::(1,Y)::(0,pr l j)::R) nx=none:=C3i (ts:=ts) rfl ho
theorem m3p (h:0<nx) {g:PG} {ts:List T} {e:Int} (ho:g j ts=some (.error e)):eP l g (.ptr 0 0::ts.map .t) ((2,X)::(1,Y)::(0,pr l j)::R) nx=some (errC e):=C8y (ts:=ts) rfl h ho
theorem m2 (h:0<nx) {g:PG} {ts:List T} {r:T} {j':Nat} (ho:g j ts=some (.ok (r,j'))):hP l g (.ptr 0 0::ts.map .t) ((1,Y)::(0,pr l j)::R) nx=some (.t r,(1,Y)::(0,pr l j')::R,nx):=C3h (ts:=ts) rfl h ho
theorem m2n {g:PG} {ts:List T} {x:T×Nat} (ho:g j ts=some (.ok x)):eP l g (.ptr 0 0::ts.map .t) ((1,Y)::(0,pr l j)::R) nx=none:=C3i (ts:=ts) rfl ho
theorem m2p (h:0<nx) {g:PG} {ts:List T} {e:Int} (ho:g j ts=some (.error e)):eP l g (.ptr 0 0::ts.map .t) ((1,Y)::(0,pr l j)::R) nx=some (errC e):=C8y (ts:=ts) rfl h ho
theorem pl3:A0f false 1 ((2,X)::(1,Y)::(0,pr l j)::R) (.ptr 0 1)=some (.t (iv (j:Int))):=rfl
theorem pw3 (j':Nat):A0r 1 ((2,X)::(1,Y)::(0,pr l j)::R) (.ptr 0 1) (.t (iv (j':Int)))=some ((2,X)::(1,Y)::(0,pr l j')::R):=rfl
end
section
variable (k k' : Int) (n n' : ByteArray) (f t : Int) (p : PV) (R : Heap)
theorem nl0:A0f false 1 ((2,kRow k n f t p)::R) (.ptr 2 0)=some (.t (iv k)):=rfl
theorem nl4:A0f false 1 ((2,kRow k n f t p)::R) (.ptr 2 4)=some p:=rfl
theorem ns0:A0r 1 ((2,kRow k n f t p)::R) (.ptr 2 0) (.t (iv k'))=some ((2,kRow k' n f t p)::R):=rfl
theorem ns1:A0r 1 ((2,kRow k n f t p)::R) (.ptr 2 1) (.t (sv n'))=some ((2,kRow k n' f t p)::R):=rfl
theorem ns2:A0r 1 ((2,kRow k n f t p)::R) (.ptr 2 2) (.t (iv k'))=some ((2,kRow k n k' t p)::R):=rfl
theorem ns3:A0r 1 ((2,kRow k n f t p)::R) (.ptr 2 3) (.t (iv k'))=some ((2,kRow k n f k' p)::R):=rfl
theorem ns5 (tk:T):A0r 5 ((2,zRow)::R) (.ptr 2 0) (.t (.ag [iv k,sv n,iv f,iv t,tk]))=some ((2,kRow k n f t (.t tk))::R):=rfl
end
theorem bld50:A8w (fun k=>[(0,1),(1,1),(2,1),(3,1),(4,1)][k]?) [.t (iv 0),.t (sv ⟨#[]⟩),.t (iv 0),.t (iv 0),.t nilS] [(0,.t (iv 0))]=some [.t (iv 0),.t (sv ⟨#[]⟩),.t (iv 0),.t (iv 0),.t nilS]:=rfl
variable {q : Gl} {l : List UInt8} {i : Nat}
def dD (d:Dv):Row:=.cells 26 ((encD d).map .t)
def outN (l:List UInt8):Except Int (Dv×List UInt8)->Out
 | .ok (d,r)=>.ret (.t (.ag (encD d))) [(2,dD d),(1,dD d),(0,pr l (l.length-r.length))] 3
 | .error e=>.pan (errC e)
theorem PM.node {P:Program} {G:A0q} {f:FuncId} {ts:List T} {x:Except Int (Dv×List UInt8)} (h:E7f P G f (.ptr 0 0::ts.map .t) [(0,pr l i)] 1 (outN l x)):PM P G l f i ts (resX l (fun d=>.ag (encD d)) x):=by
 cases x with
 | error e=>exact h
 | ok y=>
  obtain⟨d,r⟩:=y;exact PM.ret h rfl
theorem E7n {P:Program} {G:A0q} {B b3 nx n p:Nat} {env:List (Nat×PV)} {H:Heap} {k f t:Int} {nm:ByteArray} {kids:List Dv} (hB:B<=3) (hr:A1e eD 26 H b3 kids) (hb:2<b3)
  (h2:Abs.look H 2=some (kRow k nm f t (rowP eD b3 kids))) (h1:Abs.look H 1=some zRow) (h0:Abs.look H 0=some (pr l p))
  (e5:Abs.look env 5=some (.ptr 2 0)) (e4:Abs.look env 4=some (.ptr 1 0)) (e0:Abs.look env 0=some (.ptr 0 0)) :
  Sub P G B ⟨env,H,nx,n⟩ ⟨[(5,.ptr 2 0),(4,.ptr 1 0),(0,.ptr 0 0)],[(2,kRow k nm f t (.t (A2e eD kids))),(1,zRow),(0,pr l p)],3,n⟩:=by
 have h3:Sub P G B ⟨env,H,nx,n⟩ (A0b.frz ⟨env,H,nx,n⟩ [b3]):=C4l [b3];refine h3.trans (B3a (fun x=>x) rfl hB (fun _ _=>rfl) (fun q hq=>?_) (fun q hq=>?_) (fun _ _ _ _ e=>e))
 ·simp only[A0b.frz,A9e];simp only[List.mem_cons,List.not_mem_nil,or_false]at hq;rcases hq with rfl | rfl | rfl
  ·rw[e5];exact⟨rfl,rfl⟩
  ·rw[e4];exact⟨rfl,rfl⟩
  ·rw[e0];exact⟨rfl,rfl⟩
 ·have hl:∀k,k≠b3->Abs.look (remAll H [b3]) k=Abs.look H k:=fun k hk=>by
   simp only[remAll,List.foldl_cons,List.foldl_nil];rw[A2f,if_neg hk]
  have hf:frzP H [b3] (rowP eD b3 kids) = .t (A2e eD kids):=by
   unfold frzP;rw[hr.toT]
   have:(E0k b3 kids).all ([b3].contains ·)=true:=by cases kids<;>simp[E0k]
   simp only[this,if_true]
  simp only[A0b.frz,A9e];simp only[List.mem_cons,List.not_mem_nil,or_false]at hq;rcases hq with rfl | rfl | rfl
  ·refine⟨?_,by show 2<3;omega,rfl⟩;rw[hl 2 (by omega),h2,Option.map_some];simp only[kRow,C2l,List.map_cons,List.map_nil,E2v,hf,A2u,renL,ren]
  ·refine⟨?_,by show 1<3;omega,rfl⟩;rw[hl 1 (by omega),h1,Option.map_some];simp only[dRow,C2l,List.map_cons,List.map_nil,E2v,A2u,renL,ren]
  ·refine⟨?_,by show 0<3;omega,rfl⟩;rw[hl 0 (by omega),h0,Option.map_some];simp only[C2l,List.map_cons,List.map_nil,E2v,A2u,renL,ren]
theorem C8z {k:Nat} {s:List UInt8} (h:s.head?≠some 40):A2i k s = .error (eosE s):=by
 cases s with
 | nil=>cases k<;>rfl
 | cons c r=>
  have hc:¬c=40:=fun e=>h (by rw[e];rfl);cases k<;>rw[A2i,if_neg hc]<;>rfl
theorem E3b (hl:l.length<=2100000000000) (hi:i<=l.length):PM Tryz.prog (G q) l 199 i [iv 65] (resX l (fun d=>.ag (encD d)) (A2i 0 (l.drop i))):=by
 have C:Ctx Tryz.prog (G q) (orh [] [(219,hP l (gNx l)),(220,hP l (gTa l))]):=A0x.nil.ctxH (.cons (A4r C3k).hok (.cons (A4r D4s).hok .nil)) mixed;have E:POK Tryz.prog (G q) (orE [(219,eP l (gNx l)),(220,eP l (gTa l))]):=A9u.ok (.cons (A4r C3k).eok (.cons (A4r D4s).eok .nil));refine PM.node ?_
 obtain⟨s,hs⟩:∃s,s=l.drop i:=⟨_,rfl⟩
 have hat:At l i s:=⟨hi,hs.symm⟩
 rw[<-hs];refine A6t.callO rfl ?_;(conv in A4j=>cbv);have n1:hP l (gNx l) [.ptr 0 0,.t (.v (.int .u8 40))] [(1,zRow),(0,pr l i)] 2=some (.t (bv (isNx l i 40)),[(1,zRow),(0,pr l i)],2):=nx2 l zRow [] 2 i (by omega) 40;have n1n:eP l (gNx l) [.ptr 0 0,.t (.v (.int .u8 40))] [(1,zRow),(0,pr l i)] 2=none:=nx2n l zRow [] 2 i 40;rw[hat.isNx]at n1;by_cases h:s.head?=some 40
 ·have e:A2i 0 s = .error 7:=by
   cases s with
   | nil=>cases h
   | cons c r=>
    have:c=40:=by simpa using h
    rw[A2i,if_pos this]
  rw[decide_eq_true h]at n1;rw[e];refine A0a C ?_;simp -implicitDefEqProofs [B0u];refine A0u C E rfl ?_;simp -implicitDefEqProofs [n1,n1n,bld1,ag1,outN]
 ·rw[decide_eq_false h]at n1;rw[C8z h]
  have ho:gTa l i [cv 40]=some (.error (eosE s)):=by
   rw[C3l 40 (by omega),D1o (fun e=>h (by rw[<-hat.eq,List.head?_drop,e])),hat.eq]
  have t1:eP l (gTa l) [.ptr 0 0,.t (.v (.int .u8 40))] [(1,zRow),(0,pr l i)] 2=some (errC (eosE s)):=m2p l zRow [] 2 i (by omega) (ts:=[cv 40]) ho;refine A0a C ?_;simp -implicitDefEqProofs [B0u];refine A0u C E rfl ?_;simp -implicitDefEqProofs [n1,n1n];refine A0u C E rfl ?_;simp -implicitDefEqProofs [t1,outN]
structure Nk where
 ks:List Dv
 j:Nat
def SNk (v:Int) (lx:Bool) (nm:ByteArray) (f t:Int) (l:List UInt8) (a:Nk):A0b:=⟨[(5,.ptr 2 0),(4,.ptr 1 0),(1,.t (iv v)),(0,.ptr 0 0)],[(2,kRow (A2h lx a.ks) nm f t (rowP eD 3 a.ks)),(1,zRow),(0,pr l a.j)]++rowH eD 26 3 a.ks,4,87⟩
structure OkNk (k:Nat) (lx:Bool) (l:List UInt8) (Res:Except Int (List Dv×List UInt8)) (a:Nk):Prop where
 le:a.j<=l.length
 few:a.ks.length<=a.j
 eq:∃n,l.length-a.j<=n/\A2d (A2i k) n lx a.ks (l.drop a.j)=Res
theorem tsDv (d:Dv):A9b 26 5 [.int .i64 0,.string ⟨#[]⟩,.int .i64 0,.int .i64 0,.slice none 0 0] 1 [(0,.t (.ag (encD d)))]=some (.t (.sl 1 (encD d))):=by
 cases d;rw[encD];rfl
theorem C0e {rd:List UInt8->Except Int (Dv×List UInt8)} {n:Nat} {lex:Bool} {acc:List Dv} {s:List UInt8} (h:(∀t,s≠32::t)\/(lex && !acc.isEmpty)=true):A2d rd n lex acc s = .ok (acc,s):=by
 cases n with
 | zero=>rw[A2d];intros;omega
 | succ n=>
  by_cases hs:∃t,s=32::t
  ·obtain⟨t,rfl⟩:=hs;rw[A2d,if_pos (h.resolve_left (fun e=>e t rfl))]
  ·rw[A2d];intro n' t _ e;exact hs ⟨t,e⟩
section
variable {j nx : Nat} {s r : List UInt8} {c : UInt8} {m x : Int} (X Y : Row) (R : Heap) (hl : l.length <= 2100000000000) (h : At l j s) (hn : 0 < nx)
include h
include hl in
theorem tk3n (e:takB c s = .ok r):eP l (gTa l) [.ptr 0 0,.t (cv c)] ((2,X)::(1,Y)::(0,pr l j)::R) nx=none:=by
 have:=h.le;exact m3n l X Y R nx j (ts:=[cv c]) (x:=(.tu [],j+1)) (by rw[C3l c (by omega),h.takX,e])
theorem nb3n (e:A6k s = .ok (m,r)):eP l (gNb l) [.ptr 0 0] ((2,X)::(1,Y)::(0,pr l j)::R) nx=none:=m3n l X Y R nx j (ts:=[]) (x:=(iv m,l.length-r.length)) (by rw[E3a h.le,h.eq,e];rfl)
include hn
include hl in
theorem tk3 (e:takB c s = .ok r):hP l (gTa l) [.ptr 0 0,.t (cv c)] ((2,X)::(1,Y)::(0,pr l j)::R) nx=some (.t (.tu []),(2,X)::(1,Y)::(0,pr l (j+1))::R,nx):=by
 have:=h.le;exact m3 l X Y R nx j hn (ts:=[cv c]) (by rw[C3l c (by omega),h.takX,e])
include hl in
theorem tk3e (e:takB c s = .error x):eP l (gTa l) [.ptr 0 0,.t (cv c)] ((2,X)::(1,Y)::(0,pr l j)::R) nx=some (errC x):=by
 have:=h.le;exact m3p l X Y R nx j hn (ts:=[cv c]) (by rw[C3l c (by omega),h.takX,e])
theorem nb3 (e:A6k s = .ok (m,r)):hP l (gNb l) [.ptr 0 0] ((2,X)::(1,Y)::(0,pr l j)::R) nx=some (.t (iv m),(2,X)::(1,Y)::(0,pr l (l.length-r.length))::R,nx):=m3 l X Y R nx j hn (ts:=[]) (by rw[E3a h.le,h.eq,e];rfl)
theorem nb3e (e:A6k s = .error x):eP l (gNb l) [.ptr 0 0] ((2,X)::(1,Y)::(0,pr l j)::R) nx=some (errC x):=m3p l X Y R nx j hn (ts:=[]) (by rw[E3a h.le,h.eq,e];rfl)
end
theorem D8a {k:Nat} (hk:k<64) (hl:l.length<=2100000000000) (hi:i<=l.length) (hrec:∀i ts o,gNd k l i ts=some o->PM Tryz.prog (G q) l 199 i ts o) :
  PM Tryz.prog (G q) l 199 i [iv (64-(k:Int))] (resX l (fun d=>.ag (encD d)) (A2i (k+1) (l.drop i))):=by
 have C:=F4v (q:=q) hl hrec;have E:=F4w (q:=q) hl hrec;refine PM.node ?_
 obtain⟨v,hv⟩:∃v,v=64-(k:Int):=⟨_,rfl⟩
 have hv1:¬(64:Int)<v:=by omega
 have ev:IntKind.i64.wrap (v+1)=65-(k:Int):=by rw[wrap_i64 (by omega) (by omega)];omega
 rw[<-hv]
 obtain⟨s,hs⟩:∃s,s=l.drop i:=⟨_,rfl⟩
 have hat:At l i s:=⟨hi,hs.symm⟩
 rw[<-hs]
 obtain⟨O,hO⟩:∃O,O=A2i (k+1) s:=⟨_,rfl⟩
 rw[<-hO];refine A6t.callO rfl ?_;(conv in A4j=>cbv);have n1:hP l (gNx l) [.ptr 0 0,.t (.v (.int .u8 40))] [(1,zRow),(0,pr l i)] 2=some (.t (bv (isNx l i 40)),[(1,zRow),(0,pr l i)],2):=nx2 l zRow [] 2 i (by omega) 40;have n1n:eP l (gNx l) [.ptr 0 0,.t (.v (.int .u8 40))] [(1,zRow),(0,pr l i)] 2=none:=nx2n l zRow [] 2 i 40;rw[hat.isNx]at n1;by_cases h40':¬s.head?=some 40
 ·have h40:=h40';rw[decide_eq_false h40]at n1;rw[C8z h40]at hO
  have ho:gTa l i [cv 40]=some (.error (eosE s)):=by
   rw[C3l 40 (by omega),D1o (fun e=>h40 (by rw[<-hat.eq,List.head?_drop,e])),hat.eq]
  have t1:eP l (gTa l) [.ptr 0 0,.t (.v (.int .u8 40))] [(1,zRow),(0,pr l i)] 2=some (errC (eosE s)):=m2p l zRow [] 2 i (by omega) (ts:=[cv 40]) ho;rw[hO];refine A0a C ?_;simp -implicitDefEqProofs [B0u];refine A0u C E rfl ?_;simp -implicitDefEqProofs [ctN,ceN,n1,n1n];refine A0u C E rfl ?_;simp -implicitDefEqProofs [ctN,ceN,t1,outN]
 have h40:s.head?=some 40:=Classical.not_not.1 h40';clear h40'
 obtain⟨s0,rfl⟩:∃s0,s=40::s0:=by
  cases s with
  | nil=>cases h40
  | cons c r=>simp at h40;subst h40;exact⟨r,rfl⟩
 rw[decide_eq_true h40]at n1;rw[A2i,if_pos rfl]at hO;have hat1:=hat.tail
 have ho:gTa l i [cv 40]=some (.ok (.tu [],i+1)):=by rw[C3l 40 (by omega),D4r hat.head]
 have t1:hP l (gTa l) [.ptr 0 0,.t (.v (.int .u8 40))] [(1,zRow),(0,pr l i)] 2=some (.t (.tu []),[(1,zRow),(0,pr l (i+1))],2):=m2 l zRow [] 2 i (by omega) (ts:=[cv 40]) ho;have t1n:eP l (gTa l) [.ptr 0 0,.t (.v (.int .u8 40))] [(1,zRow),(0,pr l i)] 2=none:=m2n l zRow [] 2 i (ts:=[cv 40]) ho;refine A0a C ?_;simp -implicitDefEqProofs [B0u];refine A0u C E rfl ?_;simp -implicitDefEqProofs [ctN,ceN,n1,n1n,hv1];refine A0u C E rfl ?_;simp -implicitDefEqProofs [ctN,ceN,t1,t1n];refine A0a C ?_;simp -implicitDefEqProofs [B0u,bld50,ag5,ns5]
 obtain⟨a,ha⟩:∃a,a=(plus s0).2:=⟨_,rfl⟩
 obtain⟨lx,hlx⟩:∃lx,lx=(plus s0).1:=⟨_,rfl⟩
 have hata:At l (l.length-a.length) a:=by
  have:=E1d s0;rw[<-ha]at this
  have h9:At l (i+1) ((if(plus s0).1=true then [43]else [])++a):=by rw[this];exact hat1
  exact h9.suf.1
 obtain⟨j2,hj2⟩:∃j2,j2=l.length-a.length:=⟨_,rfl⟩
 rw[<-hj2]at hata;refine A1f (α:=Unit) (fun _=>⟨[(5,.ptr 2 0),(4,.ptr 1 0),(1,.t (iv v)),(0,.ptr 0 0)],[(2,kRow (lexI lx) ⟨#[]⟩ 0 0 (.t nilS)),(1,zRow),(0,pr l j2)],3,87⟩) (fun _=>True) (fun _=>rfl) ?_ ?_
 ·have n2:hP l (gNx l) [.ptr 0 0,.t (.v (.int .u8 43))] [(2,kRow 0 ⟨#[]⟩ 0 0 (.t nilS)),(1,zRow),(0,pr l (i+1))] 3=some (.t (bv (isNx l (i+1) 43)),[(2,kRow 0 ⟨#[]⟩ 0 0 (.t nilS)),(1,zRow),(0,pr l (i+1))],3):=nx3 l _ zRow [] 3 (i+1) (by omega) 43;rw[hat1.isNx]at n2;have p3:=pl3 l (kRow 0 ⟨#[]⟩ 0 0 (.t nilS)) zRow [] (i+1)
  obtain⟨i1,hi1⟩:∃i1,i1=i+1:=⟨_,rfl⟩
  rw[<-hi1]at n2 p3 hat1 ⊢;refine A0c C ?_;by_cases h43:s0.head?=some 43
  ·rw[decide_eq_true h43]at n2
   obtain⟨r,hr⟩:∃r,s0=43::r:=by
    cases s0 with
    | nil=>cases h43
    | cons c r=>simp at h43;subst h43;exact⟨r,rfl⟩
   have e1:lx=true:=by rw[hlx,hr];rfl
   have e2:a=r:=by rw[ha,hr];rfl
   have e3:j2=i1+1:=by
    have h1:=hat1.len;have h2:=hata.len;have h3:=hat1.le;rw[hr,List.length_cons]at h1;rw[e2]at h2
    have h4:s0.length<=l.length:=by rw[<-hat1.eq,List.length_drop];omega
    rw[hr,List.length_cons]at h4;omega
   have e4:IntKind.i64.wrap ((i1:Int)+1)=(j2:Int):=by rw[e3];exact A0p (by omega) (by have:=hat1.le;omega)
   have w3:=pw3 l (kRow 0 ⟨#[]⟩ 0 0 (.t nilS)) zRow [] i1 j2;have w4:=fun R=>ns0 0 1 ⟨#[]⟩ 0 0 (.t nilS) R;rw[e1];simp -implicitDefEqProofs [ctN,n2,p3,e4,w3,w4];exact Abs.Next.mk () trivial (A0e (by simp -implicitDefEqProofs))
  ·rw[decide_eq_false h43]at n2
   have e1:a=s0/\lx=false:=by
    rw[ha,hlx];unfold plus;split
    ·exact absurd rfl h43
    ·exact⟨rfl,rfl⟩
   have e3:j2=i1:=by
    have h1:=hat1.len;have h2:=hata.len;rw[e1.1]at h2;omega
   rw[e1.2];simp -implicitDefEqProofs [ctN,n2];rw[e3];exact Abs.Next.mk () trivial (A0e (by simp -implicitDefEqProofs))
 rintro _ -
 have hE:∀e,B2i s0 = .error e->O = .error e:=fun e h=>by rw[hO,h];rfl
 have hH:B2i s0=(do
   let (n,s1) <-A7g a
   let s2 <-takB 32 s1
   let (f,s3) <-A6k s2
   let s4 <-takB 32 s3
   let (t,s5) <-A6k s4
   return (⟨lx,n,f,t⟩,s5)):=by rw[ha,hlx];rfl
 have g1:=F4t (l:=l) hata.le;rw[hata.eq]at g1
 cases hn:A7g a with
 | error e=>
  rw[hn]at g1 hH;have t2:eP l (gNa l) [.ptr 0 0] [(2,kRow (lexI lx) ⟨#[]⟩ 0 0 (.t nilS)),(1,zRow),(0,pr l j2)] 3=some (errC e):=m3p l _ zRow [] 3 j2 (by omega) (ts:=[]) g1;rw[hE e hH];refine A0u C E rfl ?_;simp -implicitDefEqProofs [ctN,ceN,t2,outN]
 | ok x=>
 obtain⟨nm,s1⟩:=x;rw[hn]at g1 hH;dsimp only[bind,Except.bind]at hH
 have hat2:At l j2 (nm++s1):=by rw[<-(C8a hn).1];exact hata
 have hat3:=hat2.suf.1
 obtain⟨j3,hj3⟩:∃j3,j3=l.length-s1.length:=⟨_,rfl⟩
 have g1:gNa l j2 []=some (.ok (sv (bs nm),j3)):=by rw[hj3];exact g1
 rw[<-hj3]at hat3;have t2:hP l (gNa l) [.ptr 0 0] [(2,kRow (lexI lx) ⟨#[]⟩ 0 0 (.t nilS)),(1,zRow),(0,pr l j2)] 3=some (.t (sv (bs nm)),[(2,kRow (lexI lx) ⟨#[]⟩ 0 0 (.t nilS)),(1,zRow),(0,pr l j3)],3):=m3 l _ zRow [] 3 j2 (by omega) (ts:=[]) g1;have t2n:eP l (gNa l) [.ptr 0 0] [(2,kRow (lexI lx) ⟨#[]⟩ 0 0 (.t nilS)),(1,zRow),(0,pr l j2)] 3=none:=m3n l _ zRow [] 3 j2 (ts:=[]) g1;have w1:=fun R=>ns1 (lexI lx) ⟨#[]⟩ (bs nm) 0 0 (.t nilS) R;refine A0u C E rfl ?_;simp -implicitDefEqProofs [ctN,ceN,t2,t2n,w1]
 cases hs2:takB 32 s1 with
 | error e=>
  rw[hs2]at hH;have t3:eP l (gTa l) [.ptr 0 0,.t (.v (.int .u8 32))] [(2,kRow (lexI lx) (bs nm) 0 0 (.t nilS)),(1,zRow),(0,pr l j3)] 3=some (errC e):=tk3e (c:=32) _ zRow [] hl hat3 (by omega) hs2;rw[hE e hH];refine A0u C E rfl ?_;simp -implicitDefEqProofs [ctN,ceN,t3,outN]
 | ok s2=>
 rw[hs2]at hH;dsimp only at hH
 have hat4:At l (j3+1) s2:=by rw[B6a hs2]at hat3;exact hat3.tail
 have t3:hP l (gTa l) [.ptr 0 0,.t (.v (.int .u8 32))] [(2,kRow (lexI lx) (bs nm) 0 0 (.t nilS)),(1,zRow),(0,pr l j3)] 3=some (.t (.tu []),[(2,kRow (lexI lx) (bs nm) 0 0 (.t nilS)),(1,zRow),(0,pr l (j3+1))],3):=tk3 (c:=32) _ zRow [] hl hat3 (by omega) hs2;have t3n:eP l (gTa l) [.ptr 0 0,.t (.v (.int .u8 32))] [(2,kRow (lexI lx) (bs nm) 0 0 (.t nilS)),(1,zRow),(0,pr l j3)] 3=none:=tk3n (c:=32) _ zRow [] hl hat3 hs2;refine A0u C E rfl ?_;simp -implicitDefEqProofs [ctN,ceN,t3,t3n]
 obtain⟨j4,hj4⟩:∃j4,j4=j3+1:=⟨_,rfl⟩
 rw[<-hj4]at hat4 ⊢
 cases hs3:A6k s2 with
 | error e=>
  rw[hs3]at hH;have t4:=nb3e (kRow (lexI lx) (bs nm) 0 0 (.t nilS)) zRow [] hat4 (nx:=3) (by omega) hs3;rw[hE e hH];refine A0u C E rfl ?_;simp -implicitDefEqProofs [ctN,ceN,t4,outN]
 | ok x=>
 obtain⟨fr,s3⟩:=x;rw[hs3]at hH;dsimp only at hH;have t4:=nb3 (kRow (lexI lx) (bs nm) 0 0 (.t nilS)) zRow [] hat4 (nx:=3) (by omega) hs3;have t4n:=nb3n (kRow (lexI lx) (bs nm) 0 0 (.t nilS)) zRow [] hat4 (nx:=3) hs3
 have hat5:At l (l.length-s3.length) s3:=by rw[B8c hs3]at hat4;exact hat4.suf.1
 obtain⟨j5,hj5⟩:∃j5,j5=l.length-s3.length:=⟨_,rfl⟩
 rw[<-hj5]at hat5 t4;have w2:=fun R=>ns2 (lexI lx) fr (bs nm) 0 0 (.t nilS) R;refine A0u C E rfl ?_;simp -implicitDefEqProofs [ctN,ceN,t4,t4n,w2]
 cases hs4:takB 32 s3 with
 | error e=>
  rw[hs4]at hH;have t3:eP l (gTa l) [.ptr 0 0,.t (.v (.int .u8 32))] [(2,kRow (lexI lx) (bs nm) fr 0 (.t nilS)),(1,zRow),(0,pr l j5)] 3=some (errC e):=tk3e (c:=32) _ zRow [] hl hat5 (by omega) hs4;rw[hE e hH];refine A0u C E rfl ?_;simp -implicitDefEqProofs [ctN,ceN,t3,outN]
 | ok s4=>
 rw[hs4]at hH;dsimp only at hH
 have hat6:At l (j5+1) s4:=by rw[B6a hs4]at hat5;exact hat5.tail
 have t5:hP l (gTa l) [.ptr 0 0,.t (.v (.int .u8 32))] [(2,kRow (lexI lx) (bs nm) fr 0 (.t nilS)),(1,zRow),(0,pr l j5)] 3=some (.t (.tu []),[(2,kRow (lexI lx) (bs nm) fr 0 (.t nilS)),(1,zRow),(0,pr l (j5+1))],3):=tk3 (c:=32) _ zRow [] hl hat5 (by omega) hs4;have t5n:eP l (gTa l) [.ptr 0 0,.t (.v (.int .u8 32))] [(2,kRow (lexI lx) (bs nm) fr 0 (.t nilS)),(1,zRow),(0,pr l j5)] 3=none:=tk3n (c:=32) _ zRow [] hl hat5 hs4;refine A0u C E rfl ?_;simp -implicitDefEqProofs [ctN,ceN,t5,t5n]
 obtain⟨j6,hj6⟩:∃j6,j6=j5+1:=⟨_,rfl⟩
 rw[<-hj6]at hat6 ⊢
 cases hs5:A6k s4 with
 | error e=>
  rw[hs5]at hH;have t4:=nb3e (kRow (lexI lx) (bs nm) fr 0 (.t nilS)) zRow [] hat6 (nx:=3) (by omega) hs5;rw[hE e hH];refine A0u C E rfl ?_;simp -implicitDefEqProofs [ctN,ceN,t4,outN]
 | ok x=>
 obtain⟨to,s5⟩:=x;rw[hs5]at hH;dsimp only at hH;have t6:=nb3 (kRow (lexI lx) (bs nm) fr 0 (.t nilS)) zRow [] hat6 (nx:=3) (by omega) hs5;have t6n:=nb3n (kRow (lexI lx) (bs nm) fr 0 (.t nilS)) zRow [] hat6 (nx:=3) hs5
 have hat7:At l (l.length-s5.length) s5:=by rw[B8c hs5]at hat6;exact hat6.suf.1
 obtain⟨j7,hj7⟩:∃j7,j7=l.length-s5.length:=⟨_,rfl⟩
 rw[<-hj7]at hat7 t6;have w3:=fun R=>ns3 (lexI lx) to (bs nm) fr 0 (.t nilS) R;refine A0u C E rfl ?_;simp -implicitDefEqProofs [ctN,ceN,t6,t6n,w3];have hH:B2i s0 = .ok (⟨lx,nm,fr,to⟩,s5):=hH;rw[hH]at hO
 have hO:O=(do
   let (ks,s2) <-A2d (A2i k) s5.length lx [] s5
   if lx&&ks.isEmpty then .error (eosE s2)else
    let s3 <-takB 41 s2
    return (.mk (A2h lx ks) (bs nm) fr to ks,s3)):=hO
 clear t1 t1n t2 t2n t3 t3n t4 t4n t5 t5n n1 n1n ho t6 t6n
 obtain⟨Res,hRes⟩:∃Res,Res=A2d (A2i k) s5.length lx [] s5:=⟨_,rfl⟩
 rw[<-hRes]at hO;refine A1f (α:=Nk) (SNk v lx (bs nm) fr to l) (fun a=>Res = .ok (a.ks,l.drop a.j)/\a.j<=l.length/\a.ks.length<=a.j) (fun _=>rfl) ?_ ?_
 ·refine A0n ?_;refine A1a (SNk v lx (bs nm) fr to l) (fun a=>l.length-a.j) (OkNk k lx l Res) ⟨[],j7⟩ (fun _=>rfl) ⟨hat7.le,by simp,s5.length,by have:=hat7.len;have:=hat7.le;have h9:=congrArg List.length hat7.eq;rw[List.length_drop]at h9;show l.length-j7<=_;omega,by rw[hat7.eq];exact hRes.symm⟩ ?_ rfl ?_
  ·have e:A2h lx []=lexI lx:=by unfold A2h;cases lx<;>rfl
   show Abs.Sub _ _ _ _ ⟨_,_,_,_⟩;rw[e];exact B6c (by omega) (by simp -implicitDefEqProofs [rowH,rowP,A2a,kRow,dRow,A1g,under]) (by simp -implicitDefEqProofs [under])
  ·rintro⟨ks,j⟩ ⟨hle,hfew,n,hn,heq⟩;simp only at hle hfew hn heq
   obtain⟨s,hs⟩:∃s,s=l.drop j:=⟨_,rfl⟩
   have hatj:At l j s:=⟨hle,hs.symm⟩
   rw[<-hs]at heq;have K1:=fun R=>nl0 (A2h lx ks) (bs nm) fr to (rowP eD 3 ks) R;have K4:=fun R=>nl4 (A2h lx ks) (bs nm) fr to (rowP eD 3 ks) R;have ln:=D3j eD 3 ks;have n1:∀X,hP l (gNx l) [.ptr 0 0,.t (.v (.int .u8 32))] ((2,X)::(1,zRow)::(0,pr l j)::rowH eD 26 3 ks) 4=some (.t (bv (isNx l j 32)),(2,X)::(1,zRow)::(0,pr l j)::rowH eD 26 3 ks,4):=fun X=>nx3 l X zRow _ 4 j (by omega) 32;have n1n:∀X,eP l (gNx l) [.ptr 0 0,.t (.v (.int .u8 32))] ((2,X)::(1,zRow)::(0,pr l j)::rowH eD 26 3 ks) 4=none:=fun X=>nx3n l X zRow _ 4 j 32;rw[hatj.isNx]at n1;by_cases hsp:s.head?=some 32
   ·obtain⟨t,rfl⟩:∃t,s=32::t:=by
     cases s with
     | nil=>cases hsp
     | cons c r=>simp at hsp;subst hsp;exact⟨r,rfl⟩
    rw[decide_eq_true hsp]at n1
    cases hlk:lx && !ks.isEmpty with
    | true=>
     rw[C0e (.inr hlk)]at heq;rw[Bool.and_eq_true]at hlk
     have hkl:((ks.length:Int)==0)=false:=by
      rw[beq_eq_false_iff_ne];intro e;have:ks=[]:=List.eq_nil_of_length_eq_zero (by omega);rw[this]at hlk;exact absurd hlk.2 (by simp)
     have kn:(A2h lx ks != 1)=false:=by rw[C8t,hlk.1];rfl
     refine A6x C E rfl ?_;simp -implicitDefEqProofs [SNk,ctN,ceN,n1,n1n,K1,kn,K4,ln,hkl];exact Abs.Next.mk (⟨ks,j⟩:Nk) ⟨by rw[<-heq,hs],hle,hfew⟩ (A0e (by simp -implicitDefEqProofs [SNk]))
    | false=>
     have c2:(∃bb,(A2h lx ks != 1)=bb/\(bb=false->((ks.length:Int)==0)=true)):=by
      refine⟨_,rfl,fun e=>?_⟩;rw[C8t]at e
      have:lx=true:=by simpa using e
      rw[this,Bool.true_and]at hlk
      have:ks=[]:=by simpa using hlk
      rw[this];rfl
     obtain⟨bb,hbb,hbb2⟩:=c2;have hjl:j<l.length:=(List.getElem?_eq_some_iff.1 hatj.head).1;have hatt:=hatj.tail
     obtain⟨n0,rfl⟩:∃n0,n=n0+1:=⟨n-1,by omega⟩
     rw[A2d,if_neg (by rw[hlk];simp)]at heq;refine A1f (α:=Unit) (fun _=>SNk v lx (bs nm) fr to l ⟨ks,j⟩) (fun _=>True) (fun _=>rfl) ?_ ?_
     ·refine A6x C E rfl ?_
      cases bb with
      | true=>
       simp -implicitDefEqProofs [SNk,ctN,ceN,n1,n1n,K1,hbb];exact Abs.Next.mk () trivial (A0e (by simp -implicitDefEqProofs [SNk]))
      | false=>
       have hkl:=hbb2 rfl;simp -implicitDefEqProofs [SNk,ctN,ceN,n1,n1n,K1,hbb,K4,ln,hkl];exact Abs.Next.mk () trivial (A0e (by simp -implicitDefEqProofs [SNk]))
     rintro _ -;refine A0n ?_;have p3:∀X,A0f false 1 ((2,X)::(1,zRow)::(0,pr l j)::rowH eD 26 3 ks) (.ptr 0 1)=some (.t (iv (j:Int))):=fun _=>rfl;have w4:∀X,A0r 1 ((2,X)::(1,zRow)::(0,pr l j)::rowH eD 26 3 ks) (.ptr 0 1) (.t (iv ((j+1:Nat):Int)))=some ((2,X)::(1,zRow)::(0,pr l (j+1))::rowH eD 26 3 ks):=fun _=>rfl
     obtain⟨j1,hj1⟩:∃j1,j1=j+1:=⟨_,rfl⟩
     have e4:IntKind.i64.wrap ((j:Int)+1)=(j1:Int):=by rw[hj1];exact A0p (by omega) (by omega)
     rw[<-hj1]at w4 hatt
     obtain⟨K,hK⟩:∃K,K=A2h lx ks:=⟨_,rfl⟩
     obtain⟨Tr,hTr⟩:∃Tr:Heap,Tr=rowH eD 26 3 ks:=⟨_,rfl⟩
     refine A0a C ?_;simp -implicitDefEqProofs [SNk,p3,e4,w4];rw[<-hK,<-hTr]
     obtain⟨H1,hH1⟩:∃H1:Nat->Heap,H1=fun p=>(2,kRow K (bs nm) fr to (rowP eD 3 ks))::(1,zRow)::(0,pr l p)::Tr:=⟨_,rfl⟩
     have l10:∀p,Abs.look (H1 p) 0=some (pr l p):=fun p=>by rw[hH1];rfl
     have u10:∀p p',upd (H1 p) 0 (pr l p')=H1 p':=fun p p'=>by rw[hH1];rfl
     have kl4:∀R,A0f false 1 ((2,kRow K (bs nm) fr to (rowP eD 3 ks))::R) (.ptr 2 4)=some (rowP eD 3 ks):=fun R=>rfl;have gd:=F4u (k:=k) (l:=l) hatt.le;rw[hatt.eq]at gd
     cases hd:A2i k t with
     | error e=>
      rw[hd]at gd heq;have m3:=C8y (g:=gNd k l) (b:=0) (nx:=4) (l10 j1) (by omega) gd;rw[hH1]at m3;simp only[List.map_cons,List.map_nil]at m3
      have hO:O = .error e:=by rw[hO,<-heq];rfl
      rw[hO];refine B5e C E rfl ?_;simp -implicitDefEqProofs [ctN,ceN,kl4,ev,m3,outN]
     | ok y=>
      obtain⟨d,r⟩:=y;rw[hd]at gd heq;have gd:gNd k l j1 [iv (65-(k:Int))]=some (.ok (.ag (encD d),l.length-r.length)):=gd
      have hsf:At l (l.length-r.length) r/\l.length-r.length=j1+(prtD d).length:=by
       rw[B4s _ _ _ _ hd]at hatt;exact hatt.suf
      obtain⟨j2',hj2'⟩:∃j2',j2'=l.length-r.length:=⟨_,rfl⟩
      rw[<-hj2']at hsf gd;obtain⟨hatr,hj2e⟩:=hsf;have m3:=C3h (g:=gNd k l) (b:=0) (nx:=4) (l10 j1) (by omega) gd;have m4:=C3i (g:=gNd k l) (b:=0) (nx:=4) (l10 j1) gd;rw[u10]at m3
      have r3:A1e eD 26 (H1 j2') 3 ks:=by
       rw[hH1,hTr];exact(((A1e.head' eD 26 3 ks).cons (k:=0) (by omega)).cons (k:=1) (by omega)).cons (k:=2) (by omega)
      obtain⟨b4,H5,n5,ap,r5,ne5,hle5,hold,hb5⟩:=B8a (e:=eD) (ty:=26) (by':=64) (nx:=4) (m:=[d]) (src:=.t (.sl 1 (encD d))) r3 (C4o (e:=eD) (l:=[d]) (.inr (by simp[slT,eD]))) (by simp;omega) (by simp;omega);have ap':appM 26 5 64 (H1 j2') 4 (rowP eD 3 ks) (.t (.sl 1 (encD d)))=some (rowP eD b4 (ks++[d]),H5,n5):=ap;have l52:Abs.look H5 2=some (kRow K (bs nm) fr to (rowP eD 3 ks)):=(hold 2 (by omega) (by omega)).trans (by rw[hH1];rfl);have l51:Abs.look H5 1=some zRow:=(hold 1 (by omega) (by omega)).trans (by rw[hH1];rfl);have l50:Abs.look H5 0=some (pr l j2'):=(hold 0 (by omega) (by omega)).trans (l10 j2')
      obtain⟨H6,hH6⟩:∃H6:Heap,H6=upd H5 2 (kRow K (bs nm) fr to (rowP eD b4 (ks++[d]))):=⟨_,rfl⟩
      have st6:A0r 1 H5 (.ptr 2 4) (rowP eD b4 (ks++[d]))=some H6:=by
       rw[hH6,C8n];simp only[A0r,A0y,l52,kRow];rfl
      have r6:A1e eD 26 H6 b4 (ks++[d]):=r5.imp id fun hh=>by rw[hH6,A1d,if_neg (by omega)];exact hh
      have l62:Abs.look H6 2=some (kRow K (bs nm) fr to (rowP eD b4 (ks++[d]))):=by rw[hH6,A1d,if_pos rfl,l52];rfl
      have l61:Abs.look H6 1=some zRow:=by rw[hH6,A1d,if_neg (by omega)];exact l51
      have l60:Abs.look H6 0=some (pr l j2'):=by rw[hH6,A1d,if_neg (by omega)];exact l50
      have hH2:H1 j2'=(2,kRow K (bs nm) fr to (rowP eD 3 ks))::(1,zRow)::(0,pr l j2')::Tr:=by rw[hH1]
      rw[hH1]at m3 m4;simp only[List.map_cons,List.map_nil]at m3 m4;rw[hH2]at ap'
      obtain⟨K',hK'⟩:∃K',K'=A2h lx (ks++[d]):=⟨_,rfl⟩
      have hKK:K'=if(K==0)=true then 2 else K:=by rw[hK',hK];exact D1k _ _ _
      refine B5e C E rfl ?_;simp -implicitDefEqProofs [ctN,ceN,kl4,ev,m3,m4,tsDv,ap',st6]
      have l70:A0f false 1 H6 (.ptr 2 0)=some (.t (iv K)):=by simp only[A0f,A0y,l62,kRow];rfl
      have s70:A0r 1 H6 (.ptr 2 0) (.t (iv 2))=some (upd H6 2 (kRow 2 (bs nm) fr to (rowP eD b4 (ks++[d])))):=by simp only[A0r,A0y,l62,kRow];rfl
      obtain⟨H7,hH7⟩:∃H7:Heap,H7=if(K==0)=true then upd H6 2 (kRow 2 (bs nm) fr to (rowP eD b4 (ks++[d])))else H6:=⟨_,rfl⟩
      have h7:∀c,c≠2->Abs.look H7 c=Abs.look H6 c:=fun c hc=>by
       rw[hH7];split
       ·rw[A1d,if_neg hc]
       ·rfl
      have l72:Abs.look H7 2=some (kRow K' (bs nm) fr to (rowP eD b4 (ks++[d]))):=by
       rw[hH7,hKK];split
       ·rw[A1d,if_pos rfl,l62];rfl
       ·exact l62
      have r7:A1e eD 26 H7 b4 (ks++[d]):=r6.imp id fun hh=>by rw[h7 b4 (by omega)];exact hh
      have fin:Abs.Sub Tryz.prog (G q) 1 ⟨[(5,.ptr 2 0),(4,.ptr 1 0),(1,.t (iv v)),(0,.ptr 0 0)],H7,n5,87⟩ (SNk v lx (bs nm) fr to l ⟨ks++[d],j2'⟩):=by
       refine B4p (k:=b4) r7 (by omega) (by omega) ?_ ?_
       ·intro x hx;simp only[List.mem_cons,List.not_mem_nil,or_false]at hx;rcases hx with rfl | rfl | rfl
        ·refine⟨?_,by show 2<4;omega,by show 2≠3;omega,by show 2≠b4;omega,?_⟩
         ·rw[<-hK'];show Abs.look H7 2=some (kRow K' (bs nm) fr to (ren _ (rowP eD 3 (ks++[d]))));rw[A7f,if_pos rfl];exact l72
         ·simp only[kRow,A2a,A1g,under,A4p _ _ _ _ (show 3<4 by omega),Bool.and_self]
        ·exact⟨(h7 1 (by omega)).trans l61,by show 1<4;omega,by show 1≠3;omega,by show 1≠b4;omega,rfl⟩
        ·exact⟨(h7 0 (by omega)).trans l60,by show 0<4;omega,by show 0≠3;omega,by show 0≠b4;omega,rfl⟩
       ·simp -implicitDefEqProofs [SNk,ren,under]
      have ok:OkNk k lx l Res ⟨ks++[d],j2'⟩/\l.length-j2'<l.length-j:=by
       refine⟨⟨hatr.le,by simp only[List.length_append,List.length_singleton];omega,n0,?_,?_⟩,by omega⟩
       ·show l.length-j2'<=n0;omega
       ·show A2d _ _ _ _ (l.drop j2')=_;rw[hatr.eq];exact heq
      refine A0c C ?_
      cases hK0:(K==0)with
      | true=>
       rw[hK0,if_pos rfl]at hH7;simp -implicitDefEqProofs [l70,hK0,s70];refine Abs.Next.mk (⟨ks++[d],j2'⟩:Nk) ok (Sub.trans ?_ fin);rw[hH7];refine A0e ?_;simp -implicitDefEqProofs
      | false=>
       rw[hK0,if_neg (by simp)]at hH7;simp -implicitDefEqProofs [l70,hK0];refine Abs.Next.mk (⟨ks++[d],j2'⟩:Nk) ok (Sub.trans ?_ fin);rw[hH7];refine A0e ?_;simp -implicitDefEqProofs
   ·rw[decide_eq_false hsp]at n1;rw[C0e (.inl (fun t e=>hsp (by rw[e];rfl)))]at heq;refine A6x C E rfl ?_;simp -implicitDefEqProofs [SNk,ctN,ceN,n1,n1n];exact Abs.Next.mk (⟨ks,j⟩:Nk) ⟨by rw[<-heq,hs],hle,hfew⟩ (A0e (by simp -implicitDefEqProofs [SNk]))
 rintro⟨ks,j⟩ ⟨hres,hle,hfew⟩;simp only at hres hle hfew;rw[hres]at hO;dsimp only[bind,Except.bind]at hO
 obtain⟨s,hs⟩:∃s,s=l.drop j:=⟨_,rfl⟩
 have hatj:At l j s:=⟨hle,hs.symm⟩
 rw[<-hs]at hO;have K1:=fun R=>nl0 (A2h lx ks) (bs nm) fr to (rowP eD 3 ks) R;have K4:=fun R=>nl4 (A2h lx ks) (bs nm) fr to (rowP eD 3 ks) R;have ln:=D3j eD 3 ks
 have kq:(A2h lx ks==1)=lx:=by
  unfold A2h;cases lx
  ·cases ks<;>rfl
  ·rfl
 cases hlk:lx&&ks.isEmpty with
 | true=>
  rw[if_pos hlk]at hO;rw[Bool.and_eq_true]at hlk
  have hkl:((ks.length:Int)==0)=true:=by
   have:ks=[]:=by simpa using hlk.2
   rw[this];rfl
  have kq:(A2h lx ks==1)=true:=by rw[kq,hlk.1]
  have f1:∀X,eP l (gFl l) [.ptr 0 0] ((2,X)::(1,zRow)::(0,pr l j)::rowH eD 26 3 ks) 4=some (errC (eosE s)):=fun X=>by rw[hs];exact fl3 l X zRow _ 4 j (by omega)
  rw[hO];refine A0u C E rfl ?_;simp -implicitDefEqProofs [SNk,K1,kq,K4,ln,hkl,ctN,ceN,f1,outN]
 | false=>
 rw[if_neg (by rw[hlk];simp)]at hO;refine A1f (α:=Unit) (fun _=>⟨[(5,.ptr 2 0),(4,.ptr 1 0),(0,.ptr 0 0)],[(2,kRow (A2h lx ks) (bs nm) fr to (.t (A2e eD ks))),(1,zRow),(0,pr l j)],3,87⟩) (fun _=>True) (fun _=>rfl) ?_ ?_
 ·have fin:∀env:List (Nat×PV),Abs.look env 5=some (.ptr 2 0)->Abs.look env 4=some (.ptr 1 0)->Abs.look env 0=some (.ptr 0 0)->Abs.Sub Tryz.prog (G q) 1 ⟨env,(SNk v lx (bs nm) fr to l ⟨ks,j⟩).H,4,87⟩ ⟨[(5,.ptr 2 0),(4,.ptr 1 0),(0,.ptr 0 0)],[(2,kRow (A2h lx ks) (bs nm) fr to (.t (A2e eD ks))),(1,zRow),(0,pr l j)],3,87⟩:=fun env e5 e4 e0=>
   E7n (by omega) ((((A1e.head' eD 26 3 ks).cons (k:=0) (by omega)).cons (k:=1) (by omega)).cons (k:=2) (by omega)) (by omega) rfl rfl rfl e5 e4 e0
  refine A0a C ?_;by_cases hlx:lx=true
  ·have kq:(A2h lx ks==1)=true:=by rw[kq,hlx]
   rw[hlx,Bool.true_and]at hlk
   have hkl:((ks.length:Int)==0)=false:=by
    rw[beq_eq_false_iff_ne];intro e;have:ks=[]:=List.eq_nil_of_length_eq_zero (by omega);rw[this]at hlk;exact absurd hlk (by simp)
   simp -implicitDefEqProofs [SNk,K1,kq,K4,ln,hkl];refine A0c C ?_;simp -implicitDefEqProofs;exact Abs.Next.mk () trivial (fin _ rfl rfl rfl)
  ·have kq:(A2h lx ks==1)=false:=by rw[kq];simpa using hlx
   simp -implicitDefEqProofs [SNk,K1,kq];refine A0c C ?_;simp -implicitDefEqProofs;exact Abs.Next.mk () trivial (fin _ rfl rfl rfl)
 rintro _ -
 obtain⟨X,hX⟩:∃X:Row,X=kRow (A2h lx ks) (bs nm) fr to (.t (A2e eD ks)):=⟨_,rfl⟩
 have hXd:X=dD (.mk (A2h lx ks) (bs nm) fr to ks):=by rw[hX,dD,C4p];rfl
 rw[<-hX]
 cases ht:takB 41 s with
 | error e=>
  rw[ht]at hO;have hO:O = .error e:=hO;have t3:eP l (gTa l) [.ptr 0 0,.t (.v (.int .u8 41))] [(2,X),(1,zRow),(0,pr l j)] 3=some (errC e):=tk3e (c:=41) X zRow [] hl hatj (by omega) ht;rw[hO];refine A0u C E rfl ?_;simp -implicitDefEqProofs [ctN,ceN,t3,outN]
 | ok r=>
  rw[ht]at hO;have hO:O = .ok (.mk (A2h lx ks) (bs nm) fr to ks,r):=hO;have t3:hP l (gTa l) [.ptr 0 0,.t (.v (.int .u8 41))] [(2,X),(1,zRow),(0,pr l j)] 3=some (.t (.tu []),[(2,X),(1,zRow),(0,pr l (j+1))],3):=tk3 (c:=41) X zRow [] hl hatj (by omega) ht;have t3n:eP l (gTa l) [.ptr 0 0,.t (.v (.int .u8 41))] [(2,X),(1,zRow),(0,pr l j)] 3=none:=tk3n (c:=41) X zRow [] hl hatj ht
  have hj9:l.length-r.length=j+1:=by
   have h9:At l j ([41]++r):=by rw[B6a ht]at hatj;exact hatj
   exact h9.suf.2
  have dE:∀k n f t (ks:List Dv),dD (.mk k n f t ks) = .cells 26 [.t (iv k),.t (sv n),.t (iv f),.t (iv t),.t (A2e eD ks)]:=fun k n f t ks=>by rw[dD,C4p];rfl
  rw[hO];refine A0u C E rfl ?_;simp -implicitDefEqProofs [ctN,ceN,t3,t3n];rw[hXd,outN,hj9,C4p,dE];have lf:∀(k f t:Int) (n:ByteArray) (tk:T) R,A0f true 5 ((2,.cells 26 [.t (iv k),.t (sv n),.t (iv f),.t (iv t),.t tk])::R) (.ptr 2 0)=some (.t (.ag [iv k,sv n,iv f,iv t,tk])):=fun _ _ _ _ _ _=>rfl;have sf:∀(k f t:Int) (n:ByteArray) (tk:T) Y R,A0r 5 ((2,Y)::(1,zRow)::R) (.ptr 1 0) (.t (.ag [iv k,sv n,iv f,iv t,tk]))=some ((2,Y)::(1,.cells 26 [.t (iv k),.t (sv n),.t (iv f),.t (iv t),.t tk])::R):=fun _ _ _ _ _ _ _=>rfl;refine A0a C ?_;simp -implicitDefEqProofs [lf,sf];refine A0c C ?_;simp -implicitDefEqProofs;exact⟨.inr rfl,_,_,Sub.refl _,rfl,rfl,rfl,rfl⟩
variable {q : Gl} {l : List UInt8} {i : Nat}
theorem F4x (hl:l.length<=2100000000000):∀k,k<=64->∀i ts o,gNd k l i ts=some o->PM Tryz.prog (G q) l 199 i ts o:=by
 intro k
 induction k with
 | zero=>
  intro _ i ts o h;unfold gNd at h;split at h
  ·split at h
   ·rename_i hc;injection h with h;subst h;obtain⟨rfl,hi⟩:=hc;exact E3b hl hi
   ·cases h
  ·cases h
 | succ k ih=>
  intro hk i ts o h;unfold gNd at h;split at h
  ·split at h
   ·rename_i m hc;injection h with h;subst h;obtain⟨rfl,hi⟩:=hc
    have e:(65:Int)-((k+1:Nat):Int)=64-(k:Int):=by omega
    rw[e];exact D8a (by omega) hl hi (ih (by omega))
   ·cases h
  ·cases h
theorem E7o (hl:l.length<=2100000000000) (hi:i<=l.length):PM Tryz.prog (G q) l 199 i [iv 1] (resX l (fun d=>.ag (encD d)) (A2i 64 (l.drop i))):=
 F4x hl 64 (Nat.le_refl _) i _ _ (if_pos ⟨rfl,hi⟩)
structure Left (G:A0q) (I:Nat->Prop) (w:World) (g:Nat) (I':Nat->Prop) (w':World):Prop where
 out:A1t w w'
 size:w.heap.size<=w'.heap.size
 same:∀h,h<w.heap.size->h≠g->w'.heap[h]?=w.heap[h]?
 more:∀b,I b->I' b
 new:∀b,I' b->I b\/w.heap.size<=b\/b=g
 lt:∀b,I' b->b<w'.heap.size
 glob:∀g' cs,Abs.look G g'=some cs->I' g'/\RepG I' w' cs g'
def pmEnd (l:List UInt8) (g:Nat) (I':Nat->Prop) (w':World) (e:Ending):Except Int (T×Nat)->Prop
 | .ok (r,p)=>∃v ar,e = .returned v/\RepT I' w' r v/\w'.heap[g]?=some (.cells ar 212 (0,0))/\ar[0]?=some (.string (bs l))/\ar[1]?=some (.int .i64 (p:Int))/\¬I' g
 | .error er=>e = .panicked (errC er)
theorem D4u {f:FuncId} {ts:List T} {vs:List Value} {o:Except Int (T×Nat)} (h:PM Tryz.prog (G q) l f i ts o) {I:Nat->Prop} {w:World} {g:Nat} (hlt:∀b,I b->b<w.heap.size) (hglob:∀g' cs,Abs.look (G q) g'=some cs->I g'/\RepG I w cs g')
  {ar:Array Value} (hg:w.heap[g]?=some (.cells ar 212 (0,0))) (g0:ar[0]?=some (.string (bs l))) (g1:ar[1]?=some (.int .i64 (i:Int))) (hI:¬I g) (hvs:∀L:Abs.Loc,A0m Tryz.prog L w (ts.map .t) vs) :
  Calls Tryz.prog f (#[Value.pointer (some ⟨g,0,none⟩)]++vs.toArray) w fun e w'=>∃I',pmEnd l g I' w' e o/\Left (G q) I w g I' w':=by
 have one:∀b r,Abs.look [(0,pr l i)] b=some r->b=0/\r=pr l i:=by
  intro b r hb;simp only[Abs.look]at hb;split at hb
  ·rename_i e;injection hb with hb;exact⟨e.symm,hb.symm⟩
  ·cases hb
 have hok:A1i Tryz.prog (G q) ⟨I,fun _=>g,1⟩ [(0,pr l i)] w:=by
  refine⟨hlt,fun b r hb=>?_,fun b r hb=>hI,fun b b' r r' hb hb' _=>by rw[(one b r hb).1,(one b' r' hb').1],fun b r hb=>by rw[(one b r hb).1];exact Nat.lt_succ_self _,hglob⟩;obtain⟨rfl,rfl⟩:=one b r hb;refine⟨_,hg,by have:=(Array.getElem?_eq_some_iff.1 g1).1;show 2<=ar.size;omega,fun j c hj=>?_⟩;rcases j with _ | _ | j
  ·simp only[List.getElem?_cons_zero,Option.some.injEq]at hj;subst hj;exact⟨.string (bs l),g0,rfl,by simp only[RepV,RepT]⟩
  ·simp only[List.getElem?_cons_succ,List.getElem?_cons_zero,Option.some.injEq]at hj;subst hj;exact⟨.int .i64 (i:Int),g1,rfl,by simp only[RepV,RepT]⟩
  ·simp at hj
 have hargs:A0m Tryz.prog ⟨I,fun _=>g,1⟩ w (.ptr 0 0::ts.map .t) (#[Value.pointer (some ⟨g,0,none⟩)]++vs.toArray).toList:=by
  simp only[Array.toList_append,List.cons_append,List.nil_append,A0m,RepV];exact⟨_,_,rfl,⟨by omega,rfl⟩,hvs _⟩
 have hmine:∀k,Mine ⟨I,fun _=>g,1⟩ [(0,pr l i)] k->k=g:=fun k ⟨_,_,_,e⟩=>e.symm
 cases o with
 | error er=>
  refine((show B6f _ _ _ _ _ _ _ _ from h).2 ⟨I,fun _=>g,1⟩ w _ hok rfl hargs).mono ?_;rintro e w' ⟨L',rfl,hok',_,hm,hx⟩;refine⟨L'.I,rfl,hx.outer,hx.size,fun k hk hne=>hx.same k hk fun hh=>hne (hmine k hh),hx.more,fun b hb=>?_,hok'.lt,hok'.glob⟩;rcases hx.new b hb with h2 | h2 | h2
  ·exact .inl h2
  ·exact .inr (.inl h2)
  ·exact .inr (.inr (hmine b h2))
 | ok y=>
  obtain⟨r,p⟩:=y;refine((show A1n _ _ _ _ _ _ _ _ _ from h).2 ⟨I,fun _=>g,1⟩ w _ hok rfl hargs).mono ?_;rintro e w' ⟨v,L',rfl,hv,hok',_,hm,hx⟩;have hμ:L'.μ 0=g:=hm.μ 0 (by show 0<1;omega);obtain⟨arr,ha,hl,hc⟩:=hok'.rep 0 _ rfl;rw[hμ]at ha;obtain⟨x0,hx0,_,hr0⟩:=hc 0 _ rfl;obtain⟨x1,hx1,_,hr1⟩:=hc 1 _ rfl;simp only[RepV,RepT]at hr0 hr1 hv;subst hr1;subst hr0
  have hna:¬L'.I g:=by have:=hok'.apart 0 _ rfl;rwa[hμ]at this
  refine⟨L'.I,⟨v,arr,rfl,hv,ha,hx0,hx1,hna⟩,hx.outer,hx.size,fun k hk hne=>hx.same k hk fun hh=>hne (hmine k hh),hx.more,fun b hb=>?_,hok'.lt,hok'.glob⟩;rcases hx.new b hb with h2 | h2 | h2
  ·exact .inl h2
  ·exact .inr (.inl h2)
  ·exact .inr (.inr (hmine b h2))
end Go.Proofs.YtmplckgbeaifkaaGreatDoor
