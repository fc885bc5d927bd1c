/-
 Auxiliary facts. No statement of the program stands here.
-/
import Derived.Test.YtmplckgbeaifkaaGreatDoorVBQ20
import Derived.Lib.ItoaLen
import Derived.Test.YtmplckgbeaifkaaGreatDoorVBQ24
namespace Go.Proofs.YtmplckgbeaifkaaGreatDoor
set_option linter.unusedSimpArgs false
set_option linter.unusedVariables false
open Go Go.Abs
mutual
def sizD:Dv->Nat->Nat
 | .mk _ n _ _ ks,most=>if 100<n.size\/most<ks.length then most+1 else sizK ks most 1
def sizK:List Dv->Nat->Nat->Nat
 | [],_,n=>n
 | d::r,most,n=>if n<=most then sizK r most (n+sizD d (most-n))else n
end
mutual
def nodD:Dv->Nat
 | .mk _ _ _ _ ks=>nodK ks+1
def nodK:List Dv->Nat
 | []=>0
 | d::r=>nodD d+nodK r
end
mutual
def A8n:Dv->Prop
 | .mk _ n _ _ ks=>n.size<=2000000/\A6k ks
def A6k:List Dv->Prop
 | []=>True
 | d::r=>A8n d/\A6k r
end
mutual
theorem E3p:∀(d:Dv) (m:Nat),sizD d m<=m+1
 | .mk _ n _ _ ks,m=>by
  rw[sizD];split
  ·exact Nat.le_refl _
  ·exact E3q ks m 1 (by omega)
theorem E3q:∀(l:List Dv) (m n:Nat),n<=m+1->sizK l m n<=m+1
 | [],m,n,h=>by rw[sizK];exact h
 | d::r,m,n,h=>by
  rw[sizK];split
  ·have:=E3p d (m-n);exact E3q r m _ (by omega)
  ·exact h
end
theorem E9z:∀(l:List Dv) (m n:Nat),m<n->sizK l m n=n
 | [],m,n,_=>by rw[sizK]
 | d::r,m,n,h=>by rw[sizK,if_neg (by omega)]
mutual
theorem E3r:∀(d:Dv) (m:Nat),sizD d m<=m->nodD d=sizD d m/\A8n d
 | .mk k n f t ks,m,h=>by
  rw[sizD]at h ⊢;split at h
  ·omega
  ·rename_i hc;simp only[not_or,Nat.not_lt]at hc;obtain⟨h1,h2⟩:=E3s ks m 1 h;rw[if_neg (by omega),<-h1,nodD,A8n];exact⟨by omega,Nat.le_trans hc.1 (by omega),h2⟩
theorem E3s:∀(l:List Dv) (m n:Nat),sizK l m n<=m->n+nodK l=sizK l m n/\A6k l
 | [],m,n,h=>by rw[sizK,nodK,A6k];exact⟨rfl,trivial⟩
 | d::r,m,n,h=>by
  rw[sizK]at h ⊢;by_cases hn:n<=m
  ·rw[if_pos hn]at h ⊢;by_cases hd:sizD d (m-n)<=m-n
   ·obtain⟨h1,h2⟩:=E3r d (m-n) hd;obtain⟨h3,h4⟩:=E3s r m _ h;rw[nodK,A6k];exact⟨by omega,h2,h4⟩
   ·rw[E9z r m _ (by omega)]at h;omega
  ·rw[if_neg hn]at h;omega
end
mutual
def IntD:Dv->Prop
 | .mk k _ f t ks=>(-9223372036854775808<=k/\k<=9223372036854775807)/\(-9223372036854775808<=f/\f<=9223372036854775807)/\(-9223372036854775808<=t/\t<=9223372036854775807)/\IntK ks
def IntK:List Dv->Prop
 | []=>True
 | d::r=>IntD d/\IntK r
end
mutual
theorem C5v:∀d:Dv,A8n d->IntD d->(prtD d).length+1<=2000051*nodD d
 | .mk k n f t ks,h,hi=>by
  rw[A8n]at h;rw[IntD]at hi;have h1:=D5s ks h.2 hi.2.2.2;have h2:=Lib.itoa_length_le f hi.2.1.1 hi.2.1.2;have h3:=Lib.itoa_length_le t hi.2.2.1.1 hi.2.2.1.2;have h4:(lbs n).length=n.size:=rfl
  have h5:(if k=1 then [43]else []:List UInt8).length<=1:=by split<;>simp
  rw[prtD,nodD];simp only[List.length_cons,List.length_append,List.length_nil];omega
theorem D5s:∀l:List Dv,A6k l->IntK l->(prtK l).length<=2000051*nodK l
 | [],_,_=>by simp[prtK]
 | d::r,h,hi=>by
  rw[A6k]at h;rw[IntK]at hi;have h1:=C5v d h.1 hi.1;have h2:=D5s r h.2 hi.2
  have h3:1<=nodD d:=by cases d;rw[nodD];omega
  rw[prtK,nodK];simp only[List.length_cons,List.length_append];omega
end
end Go.Proofs.YtmplckgbeaifkaaGreatDoor
namespace Go.Abs
set_option linter.unusedSimpArgs false
set_option linter.unusedVariables false
open Go
section
variable {P : Program} {G : A0u}
theorem A0d {B nx n:Nat} {env env':List (Nat×PV)} {H:Heap} (he:∀q∈env',Abs.look env q.1=some q.2):Sub P G B ⟨env,H,nx,n⟩ ⟨env',H,nx,n⟩:=by
 intro L a w hi;refine⟨L,⟨hi.heap,hi.nx,hi.base,hi.size,hi.defers,fun k p h=>hi.env k p (he _ (A0n h))⟩,?_,fun _ _=>rfl⟩;exact⟨Nat.le_refl _,fun _ _ _=>rfl,fun _ h=>h,fun _ h=>.inl h,fun g ⟨b,r,h,e⟩=>.inr ⟨b,r,h,e⟩,A2d.refl w,A1v.refl w⟩
end
section
variable {α β : Type} {P : Program} {G : A0u} {B : Nat}
theorem A0p.right {e:Enc α} {ty b:Nat} {H R:Heap} {l:List α} (h:A0p e ty H b l) (hR:∀q∈R,q.1≠b):A0p e ty (R++H) b l:=by
 induction R with
 | nil=>exact h
 | cons q R ih=>exact A0p.cons (ih fun x hx=>hR x (List.mem_cons_of_mem _ hx)) (hR q List.mem_cons_self)
end
theorem E3t:∀p:PV,ren (fun x=>x) p=p:=by
 intro p
 exact PV.rec (motive_1:=fun p=>ren (fun x=>x) p=p) (motive_2:=fun ps=>renL (fun x=>x) ps=ps) (fun x=>rfl) (fun b o n z=>rfl) (fun b o=>rfl) (fun cs ih=>by simp only[ren,ih]) (fun cs ih=>by simp only[ren,ih])
  (fun f a c ih1 ih2=>by simp only[ren,ih1,ih2]) (fun t x ih=>by simp only[ren,ih]) (fun b=>rfl) rfl rfl (fun p ps h1 h2=>by simp only[renL,h1,h2]) p
theorem E3u:∀ps:List PV,renL (fun x=>x) ps=ps
 | []=>rfl
 | p::ps=>by simp only[renL,E3t p,E3u ps]
theorem E3v (r:Row):A3j (fun x=>x) r=r:=by
 cases r with
 | cells ty cs=>simp only[A3j,E3u]
 | iter t pos=>rfl
 | map kk es=>rfl
 | lp l x k p=>simp only[A3j,E3t]
theorem B0z {P:Program} {G:A0u} {B nx nx' n:Nat} {env env':List (Nat×PV)} {H R:Heap} (hB:B<=nx') (hR:∀q∈R,Abs.look H q.1=some q.2/\q.1<nx'/\A1y nx' q.2=true)
  (he:∀q∈env',Abs.look env q.1=some q.2/\under nx' q.2=true):Sub P G B ⟨env,H,nx,n⟩ ⟨env',R,nx',n⟩:=by
 refine B0l (fun x=>x) rfl hB (fun _ _=>rfl) (fun q hq=>?_) (fun q hq=>?_) (fun q _ q' _ e=>e)
 ·rw[E3t];exact he q hq
 ·rw[E3v];exact hR q hq
theorem C0n {α:Type} (e:Enc α) (b:Nat) (l:List α) (x:α):rowP e b (l++[x]) = .row b 0 (l.length+1) e.z:=by
 cases l with
 | nil=>rfl
 | cons y l=>simp[rowP]
theorem C5w (a b:ByteArray):(!(Op.bytesLess a.toList b.toList||a.toList==b.toList))=A8i b a:=by
 rw[C4z,A3g];by_cases e:a=b
 ·subst e;simp[B9o]
 ·rw[decide_eq_false e,Bool.or_false]
  cases h:A8i a b with
  | true=>rw[D8l h];rfl
  | false=>rw[D8k h e];rfl
@[simp] theorem evalK_sgtr {Φ:A0v} {H:Heap} {nx:Nat} (isB:Bool) (nk:Option NK) (a b:ByteArray):A0e Φ H nx (.bin isB .gtr nk) [.t (.v (.string a)),.t (.v (.string b))]=some (.t (.v (.bool (A8i b a))),H,nx):=by
 rw[<-C5w];rfl
@[simp] theorem evalK_sgeq {Φ:A0v} {H:Heap} {nx:Nat} (isB:Bool) (nk:Option NK) (a b:ByteArray):A0e Φ H nx (.bin isB .geq nk) [.t (.v (.string a)),.t (.v (.string b))]=some (.t (.v (.bool (!A8i a b))),H,nx):=rfl
@[simp] theorem evalK_sleq {Φ:A0v} {H:Heap} {nx:Nat} (isB:Bool) (nk:Option NK) (a b:ByteArray):A0e Φ H nx (.bin isB .leq nk) [.t (.v (.string a)),.t (.v (.string b))]=some (.t (.v (.bool (!A8i b a))),H,nx):=by
 rw[<-C5w,Bool.not_not];rfl
end Go.Abs
namespace Go.Proofs.YtmplckgbeaifkaaGreatDoor
set_option linter.unusedSimpArgs false
set_option linter.unusedVariables false
open Go Go.Abs
variable {q : Gl}
theorem B7g:∀l m:List UInt8,Op.bytesLess l m=decide (l<m)
 | [],[]=>by simp[Op.bytesLess]
 | [],_::_=>by simp[Op.bytesLess]
 | _::_,[]=>by simp[Op.bytesLess]
 | a::l,b::m=>by
  have ih:=B7g l m;simp only[Op.bytesLess,ih,List.cons_lt_cons_iff];by_cases h:a<b<;>by_cases k:a=b<;>simp[h,k]
theorem A5v (a b:ByteArray):A8i a b=decide (lbs a<lbs b):=by
 unfold A8i;rw[B7g,A5m,A5m]
theorem A0x:Ctx Tryz.prog (G q) (orc []):=A0y.nil.ctx mixed
theorem D9k (a b:Int):A0w Tryz.prog (G q) 65 [iv a,iv b] (· = iv (cmpI a b)):=by
 refine D9d.runs A0x rfl ?_;by_cases h:a<b
 ·simp -implicitDefEqProofs [B1x,cmpI,h]
 ·by_cases k:b<a
  ·simp -implicitDefEqProofs [B1x,cmpI,h,k]
  ·simp -implicitDefEqProofs [B1x,cmpI,h,k]
noncomputable def F6x (ts:List T):Option T:=g2 tInt tInt (fun a b=>some (iv (cmpI a b))) ts
theorem hInts:GOK Tryz.prog (G q) 65 F6x:=A4e fun a b x y r ha hb hr=>by
 obtain rfl:a=iv x:=ha;obtain rfl:b=iv y:=hb;injection hr with hr;subst hr;exact D9k x y
theorem F0a (a b:Int):F6x [iv a,iv b]=some (iv (cmpI a b)):=A4u (τ:=tInt) (σ:=tInt) rfl rfl
theorem F0b (a:Int):A0w Tryz.prog (G q) 181 [iv a] (· = bv false):=by
 refine D2r.runs A0x rfl ?_;simp -implicitDefEqProofs [C0i]
theorem E3w (a:ByteArray):A0w Tryz.prog (G q) 182 [sv a] (· = bv false):=by
 refine C5t.runs A0x rfl ?_;simp -implicitDefEqProofs [B4o]
noncomputable def gNan (ts:List T):Option T:=g1 tInt (fun _=>some (bv false)) ts
theorem hNan:GOK Tryz.prog (G q) 181 gNan:=A4c fun a x r ha hr=>by
 obtain rfl:a=iv x:=ha;injection hr with hr;subst hr;exact F0b x
noncomputable def F6y (ts:List T):Option T:=g1 tStr (fun _=>some (bv false)) ts
theorem hNan2:GOK Tryz.prog (G q) 182 F6y:=A4c fun a x r ha hr=>by
 obtain rfl:a=sv x:=ha;injection hr with hr;subst hr;exact E3w x
theorem E3x (a b:Int):A0w Tryz.prog (G q) 149 [iv a,iv b] (· = iv (cmpI a b)):=by
 refine C5s.runs ((A0y.cons (hNan (q:=q)) .nil).ctx mixed) rfl ?_;have e:∀x,gNan [iv x]=some (bv false):=fun x=>A5b (τ:=tInt) rfl;by_cases h:a<b
 ·simp -implicitDefEqProofs [A6s,cmpI,h,e]
 ·by_cases k:b<a
  ·simp -implicitDefEqProofs [A6s,cmpI,h,k,e]
  ·simp -implicitDefEqProofs [A6s,cmpI,h,k,e]
theorem E3y (a b:ByteArray):A0w Tryz.prog (G q) 150 [sv a,sv b] (· = iv (cmpS a b)):=by
 refine C0h.runs ((A0y.cons (hNan2 (q:=q)) .nil).ctx mixed) rfl ?_;have e:∀x,F6y [sv x]=some (bv false):=fun x=>A5b (τ:=tStr) rfl;by_cases h:lbs a<lbs b
 ·simp -implicitDefEqProofs [A5c,cmpS,h,e,A5v]
 ·by_cases k:lbs b<lbs a
  ·simp -implicitDefEqProofs [A5c,cmpS,h,k,e,A5v]
  ·simp -implicitDefEqProofs [A5c,cmpS,h,k,e,A5v]
noncomputable def F4e (ts:List T):Option T:=g2 tInt tInt (fun a b=>some (iv (cmpI a b))) ts
theorem F6z:GOK Tryz.prog (G q) 149 F4e:=A4e fun a b x y r ha hb hr=>by
 obtain rfl:a=iv x:=ha;obtain rfl:b=iv y:=hb;injection hr with hr;subst hr;exact E3x x y
theorem D5t (a b:Int):F4e [iv a,iv b]=some (iv (cmpI a b)):=A4u (τ:=tInt) (σ:=tInt) rfl rfl
noncomputable def F4f (ts:List T):Option T:=g2 tStr tStr (fun a b=>some (iv (cmpS a b))) ts
theorem F7a:GOK Tryz.prog (G q) 150 F4f:=A4e fun a b x y r ha hb hr=>by
 obtain rfl:a=sv x:=ha;obtain rfl:b=sv y:=hb;injection hr with hr;subst hr;exact E3y x y
theorem D5u (a b:ByteArray):F4f [sv a,sv b]=some (iv (cmpS a b)):=A4u (τ:=tStr) (σ:=tStr) rfl rfl
def orI:List Int->Int
 | []=>0
 | x::r=>if x=0 then orI r else x
def SOr (t:T) (n:Nat) (j:Nat):A0b:=⟨[(8,.t (iv (j:Int))),(7,.t (iv (n:Int))),(6,.t t),(3,.t (iv 0))],[],0,18⟩
theorem F4g {t:T} {l:List Int} (ht:IsS eInt t l) (hl:l.length<=1000000):A0w Tryz.prog (G q) 148 [t] (· = iv (orI l)):=by
 have hlen:=ht.len;refine E9w.call rfl ?_;unfold D5r
 obtain⟨R,hR⟩:∃R,R=orI l:=⟨_,rfl⟩
 rw[<-hR];refine A0a A0x ?_;simp -implicitDefEqProofs;refine A0a A0x ?_;simp -implicitDefEqProofs;refine A0o (α:=Unit) (fun _=>⟨[(3,.t (iv 0))],[],0,18⟩) (fun _=>R=0) (fun _=>rfl) ?_ ?_
 ·refine A0a A0x ?_;simp -implicitDefEqProofs [hlen];refine A0f ?_;refine A0k (SOr t l.length) (fun j=>l.length-j) (fun j=>j<=l.length/\orI (l.drop j)=R) 0 (fun _=>rfl) ⟨Nat.zero_le _,hR.symm⟩ ?_ rfl ?_
  ·exact A0s rfl rfl (by simp -implicitDefEqProofs [SOr]) (by simp -implicitDefEqProofs [SOr])
  rintro j ⟨hj,heq⟩;by_cases hlt:j<l.length
  ·obtain⟨x,hx⟩:∃x,l[j]?=some x:=⟨_,List.getElem?_eq_getElem hlt⟩
   have i1:A1o 1 (.t t) (.t (iv (j:Int)))=some (.t (.pt (eInt.enc x++rest eInt l j))):=ht.iaddr hx .i64;have ld:∀H,A0g false 1 H (.t (.pt (eInt.enc x++rest eInt l j)))=some (.t (iv x)):=fun _=>rfl;have e1:IntKind.i64.wrap ((j:Int)+1)=((j+1:Nat):Int):=A0h (by omega) (by omega)
   have hd:l.drop j=x::l.drop (j+1):=by
    rw[List.drop_eq_getElem_cons hlt,(List.getElem?_eq_some_iff.1 hx).2]
   rw[hd,orI]at heq;by_cases h0:x=0
   ·rw[if_pos h0]at heq
    have hb:(x != 0)=false:=by simpa using h0
    refine A0c A0x ?_;simp -implicitDefEqProofs [SOr,hlt,i1,ld,e1,hb];exact Abs.Next.mk (j+1) ⟨⟨by omega,heq⟩,by omega⟩ (A0s rfl rfl (by simp -implicitDefEqProofs [SOr]) (by simp -implicitDefEqProofs [SOr]))
   ·rw[if_neg h0]at heq
    have hb:(x != 0)=true:=by simpa using h0
    rw[<-heq];refine A0c A0x ?_;simp -implicitDefEqProofs [SOr,hlt,i1,ld,e1,hb]
  ·have e:j=l.length:=by omega
   subst e;rw[List.drop_length,orI]at heq;refine A0c A0x ?_;simp -implicitDefEqProofs [SOr];exact Abs.Next.mk () heq.symm (A0s rfl rfl (by simp -implicitDefEqProofs) (by simp -implicitDefEqProofs))
 ·rintro _ h0;refine A0c A0x ?_;simp -implicitDefEqProofs [h0]
noncomputable def gOr (ts:List T):Option T:=g1 (tSl eInt) (fun l=>if l.length<=1000000 then some (iv (orI l))else none) ts
theorem hOr:GOK Tryz.prog (G q) 148 gOr:=A4c fun a l r ha hr=>by
 split at hr
 ·rename_i h;injection hr with hr;subst hr;exact F4g ha h
 ·cases hr
theorem F2f {t:T} {l:List Int} (ht:IsS eInt t l) (hl:l.length<=1000000):gOr [t]=some (iv (orI l)):=by
 show g1 _ _ _=_;rw[A5b (τ:=tSl eInt) ht,if_pos hl]
def dRow (k:Int) (n:ByteArray) (f t:Int) (tk:T):Row:=.cells 26 [.t (iv k),.t (sv n),.t (iv f),.t (iv t),.t tk]
theorem A3o (k:Int) (n:ByteArray) (f t:Int) (tk:T):A1m (.t (.ag [iv k,sv n,iv f,iv t,tk]))=some [.t (iv k),.t (sv n),.t (iv f),.t (iv t),.t tk]:=rfl
theorem A5d {tk:T} {kids:List Dv} (h:IsK tk kids) {i:Nat} {x:Dv} (hx:kids[i]?=some x):∃p c,A1o 5 (.t tk) (.t (iv (i:Int)))=some (.t (.pt p))/\(∀H,A0g true 5 H (.t (.pt p))=some (.t (.ag c)))/\Abs.IsD x c:=by
 obtain⟨ci,r,h1,h2⟩:=h.iaddr hx .i64;refine⟨_,ci,h1,fun H=>?_,h2⟩;have:=h2.len;simp only[A0g,List.length_append,this,if_true];rw[if_pos (by omega),show(5:Nat)=ci.length by omega,List.take_left]
theorem A7c:∀{l:List Dv} {x:Dv},x∈l->nodD x<=nodK l
 | [],x,h=>by cases h
 | d::r,x,h=>by
  rw[nodK];rcases List.mem_cons.1 h with e | e
  ·rw[e];omega
  ·have:=A7c e;omega
theorem A6t:∀l:List Dv,l.length<=nodK l
 | []=>Nat.zero_le _
 | d::r=>by
  have:=A6t r
  have h1:1<=nodD d:=by cases d;rw[nodD];omega
  rw[nodK,List.length_cons];omega
theorem B8k:∀{l m:List Dv} {j:Nat},j<=l.length->j<=m.length->(j=l.length\/j=m.length)->cmpK (l.drop j) (m.drop j)=cmpI l.length m.length
 | l,m,j,h1,h2,h=>by
  rcases h with rfl | rfl
  ·rw[List.drop_length]
   cases hd:m.drop l.length with
   | nil=>
    have:m.length=l.length:=by
     have:=congrArg List.length hd;rw[List.length_drop,List.length_nil]at this;omega
    rw[cmpK,this,A1u.2 rfl]
   | cons x r=>
    have:l.length<m.length:=by
     have:=congrArg List.length hd;rw[List.length_drop,List.length_cons]at this;omega
    rw[cmpK,cmpI,if_pos (by omega)]
  ·rw[List.drop_length]
   cases hd:l.drop m.length with
   | nil=>
    have:l.length=m.length:=by
     have:=congrArg List.length hd;rw[List.length_drop,List.length_nil]at this;omega
    rw[cmpK,this,A1u.2 rfl]
   | cons x r=>
    have:m.length<l.length:=by
     have:=congrArg List.length hd;rw[List.length_drop,List.length_cons]at this;omega
    rw[cmpK,cmpI,if_neg (by omega),if_pos (by omega)]
noncomputable def gCmp (n:Nat) (ts:List T):Option T:=g2 tD tD (fun a b=>if nodD a<n/\nodD a<=1000000/\nodD b<=1000000 then some (iv (cmpD a b))else none) ts
theorem D2v {n:Nat} {c c':List T} {a b:Dv} (h:Abs.IsD a c) (h':Abs.IsD b c') (hn:nodD a<n) (ha:nodD a<=1000000) (hb:nodD b<=1000000):gCmp n [.ag c,.ag c']=some (iv (cmpD a b)):=by
 show g2 _ _ _ _=_;rw[A4u (τ:=tD) (σ:=tD) ⟨c,rfl,h⟩ ⟨c',rfl,h'⟩,if_pos ⟨hn,ha,hb⟩]
def SRc (A B:Row) (j:Nat):A0b:=⟨[(5,.t (iv (j:Int))),(3,.ptr 1 0),(2,.ptr 0 0)],[(1,B),(0,A)],2,82⟩
theorem E3z {n:Nat} (hrec:GOK Tryz.prog (G q) 31 (gCmp n)) {c c':List T} {a b:Dv} (h:Abs.IsD a c) (h':Abs.IsD b c') (hn:nodD a<=n) (ha:nodD a<=1000000) (hb:nodD b<=1000000) :
  A0w Tryz.prog (G q) 31 [.ag c,.ag c'] (· = iv (cmpD a b)):=by
 cases a with
 | mk k nm f t ks=>
 cases b with
 | mk k' nm' f' t' ks'=>
 obtain⟨tk,rfl,hk⟩:=h.parts;obtain⟨tk',rfl,hk'⟩:=h'.parts;have C:Ctx Tryz.prog (G q) _:=(A0y.cons hrec (.cons (hInts (q:=q)) .nil)).ctx mixed;have cd:=A3o k nm f t tk;have cd':=A3o k' nm' f' t' tk';have eI:=F0a;refine C5p.call rfl ?_;unfold B4j
 obtain⟨R,hR⟩:∃R,R=cmpD (.mk k nm f t ks) (.mk k' nm' f' t' ks'):=⟨_,rfl⟩
 rw[<-hR];rw[cmpD]at hR;rw[nodD]at hn ha hb;refine A0a C ?_;simp -implicitDefEqProofs [cd,cd'];by_cases h1:f=f'
 ·have b1:(f != f')=false:=by simpa using h1
  rw[A3k,if_pos (A1u.2 h1)]at hR;refine A0a C ?_;simp -implicitDefEqProofs [A0g,b1];by_cases h2:t=t'
  ·have b2:(t != t')=false:=by simpa using h2
   rw[A3k,if_pos (A1u.2 h2)]at hR;refine A0a C ?_;simp -implicitDefEqProofs [A0g,b2];by_cases h3:k=k'
   ·have b3:(k != k')=false:=by simpa using h3
    rw[A3k,if_pos (A1u.2 h3)]at hR;refine A0a C ?_;simp -implicitDefEqProofs [A0g,b3];by_cases h4:nm=nm'
    ·rw[A3k,if_pos (A6w.2 h4)]at hR;subst h4;refine A0a C ?_;simp -implicitDefEqProofs [A0g,A3g];refine A0o (α:=Unit) (fun _=>⟨[(3,.ptr 1 0),(2,.ptr 0 0)],[(1,dRow k' nm f' t' tk'),(0,dRow k nm f t tk)],2,82⟩) (fun _=>R=cmpI ks.length ks'.length) (fun _=>rfl) ?_ ?_
     ·refine A0a C ?_;simp -implicitDefEqProofs;refine A0f ?_;refine A0k (SRc (dRow k nm f t tk) (dRow k' nm f' t' tk')) (fun j=>ks.length-j) (fun j=>j<=ks.length/\j<=ks'.length/\cmpK (ks.drop j) (ks'.drop j)=R) 0 (fun _=>rfl) ⟨Nat.zero_le _,Nat.zero_le _,hR.symm⟩ ?_ rfl ?_
      ·refine A0d ?_;simp -implicitDefEqProofs [SRc]
      rintro j ⟨hj,hj',heq⟩;have l1:=hk.len;have l2:=hk'.len;have lk:=A6t ks;refine A0c C ?_;by_cases hlt:j<ks.length
      ·by_cases hlt':j<ks'.length
       ·obtain⟨x,hx⟩:∃x,ks[j]?=some x:=⟨_,List.getElem?_eq_getElem hlt⟩
        obtain⟨y,hy⟩:∃y,ks'[j]?=some y:=⟨_,List.getElem?_eq_getElem hlt'⟩
        obtain⟨p,cx,i1,ld1,hcx⟩:=A5d hk hx;obtain⟨p',cy,i2,ld2,hcy⟩:=A5d hk' hy;have nx:=A7c (List.mem_of_getElem? hx);have ny:=A7c (List.mem_of_getElem? hy);have hg:=D2v (n:=n) hcx hcy (by omega) (by omega) (by omega);have e1:IntKind.i64.wrap ((j:Int)+1)=((j+1:Nat):Int):=A0h (by omega) (by omega);rw[List.drop_eq_getElem_cons hlt,List.drop_eq_getElem_cons hlt',(List.getElem?_eq_some_iff.1 hx).2,(List.getElem?_eq_some_iff.1 hy).2,cmpK,A3k]at heq;by_cases h0:cmpD x y=0
        ·rw[if_pos h0]at heq
         have hb:(cmpD x y != 0)=false:=by simpa using h0
         have lo1:∀H:Heap,A0g false 1 ((1,dRow k' nm f' t' tk')::H) (.ptr 1 4)=some (.t tk'):=fun _=>rfl;have lo0:A0g false 1 [(1,dRow k' nm f' t' tk'),(0,dRow k nm f t tk)] (.ptr 0 4)=some (.t tk):=rfl;simp -implicitDefEqProofs [SRc,lo0,lo1,l1,l2,hlt,hlt',i1,ld1,i2,ld2,hg,hb,e1];exact Abs.Next.mk (j+1) ⟨⟨by omega,by omega,heq⟩,by omega⟩ (A0d (by simp -implicitDefEqProofs [SRc]))
        ·rw[if_neg h0]at heq
         have hb:(cmpD x y != 0)=true:=by simpa using h0
         have lo1:∀H:Heap,A0g false 1 ((1,dRow k' nm f' t' tk')::H) (.ptr 1 4)=some (.t tk'):=fun _=>rfl;have lo0:A0g false 1 [(1,dRow k' nm f' t' tk'),(0,dRow k nm f t tk)] (.ptr 0 4)=some (.t tk):=rfl;simp -implicitDefEqProofs [SRc,lo0,lo1,l1,l2,hlt,hlt',i1,ld1,i2,ld2,hg,hb,<-heq]
       ·have lo1:∀H:Heap,A0g false 1 ((1,dRow k' nm f' t' tk')::H) (.ptr 1 4)=some (.t tk'):=fun _=>rfl;have lo0:A0g false 1 [(1,dRow k' nm f' t' tk'),(0,dRow k nm f t tk)] (.ptr 0 4)=some (.t tk):=rfl;simp -implicitDefEqProofs [SRc,lo0,lo1,l1,l2,hlt,hlt'];refine Abs.Next.mk () ?_ (A0d (by simp -implicitDefEqProofs));rw[<-heq,B8k hj hj' (.inr (by omega))]
      ·have lo0:A0g false 1 [(1,dRow k' nm f' t' tk'),(0,dRow k nm f t tk)] (.ptr 0 4)=some (.t tk):=rfl;simp -implicitDefEqProofs [SRc,lo0,l1,hlt];refine Abs.Next.mk () ?_ (A0d (by simp -implicitDefEqProofs));rw[<-heq,B8k hj hj' (.inl (by omega))]
     ·rintro _ h0;have l1:=hk.len;have l2:=hk'.len;have lo1:∀H:Heap,A0g false 1 ((1,dRow k' nm f' t' tk')::H) (.ptr 1 4)=some (.t tk'):=fun _=>rfl;have lo0:A0g false 1 [(1,dRow k' nm f' t' tk'),(0,dRow k nm f t tk)] (.ptr 0 4)=some (.t tk):=rfl;refine A0c C ?_;simp -implicitDefEqProofs [lo0,lo1,l1,l2,eI,h0]
    ·rw[A3k,if_neg (fun e=>h4 (A6w.1 e))]at hR;refine A0a C ?_;have hn:¬lbs nm=lbs nm':=fun e=>h4 (E2r e);by_cases h5:lbs nm<lbs nm'
     ·rw[cmpS,if_pos h5]at hR;simp -implicitDefEqProofs [A0g,A3g,h4,A5v,h5,hR]
     ·have h6:lbs nm'<lbs nm:=by
       rcases Classical.em (lbs nm'<lbs nm)with h | h
       ·exact h
       ·exact absurd (List.le_antisymm (List.not_lt.1 h) (List.not_lt.1 h5)) hn
      rw[cmpS,if_neg h5,if_pos h6]at hR;simp -implicitDefEqProofs [A0g,A3g,h4,A5v,h5,hR]
   ·have b3:(k != k')=true:=by simpa using h3
    rw[A3k,if_neg (fun e=>h3 (A1u.1 e))]at hR;refine A0a C ?_;simp -implicitDefEqProofs [A0g,b3,eI,hR]
  ·have b2:(t != t')=true:=by simpa using h2
   rw[A3k,if_neg (fun e=>h2 (A1u.1 e))]at hR;refine A0a C ?_;simp -implicitDefEqProofs [A0g,b2,eI,hR]
 ·have b1:(f != f')=true:=by simpa using h1
  rw[A3k,if_neg (fun e=>h1 (A1u.1 e))]at hR;refine A0a C ?_;simp -implicitDefEqProofs [A0g,b1,eI,hR]
theorem E4a:∀n,GOK Tryz.prog (G q) 31 (gCmp n)
 | 0=>A4e fun a b x y r ha hb hr=>by
  split at hr
  ·rename_i h;omega
  ·cases hr
 | n+1=>A4e fun a b x y r ha hb hr=>by
  split at hr
  ·rename_i h;injection hr with hr;subst hr;obtain⟨c,rfl,hc⟩:=ha;obtain⟨c',rfl,hc'⟩:=hb;exact E3z (E4a n) hc hc' (by omega) h.2.1 h.2.2
  ·cases hr
noncomputable def gCD (ts:List T):Option T:=gCmp 1000001 ts
theorem D2w:GOK Tryz.prog (G q) 31 gCD:=E4a _
theorem A9r {c c':List T} {a b:Dv} (h:Abs.IsD a c) (h':Abs.IsD b c') (ha:nodD a<=1000000) (hb:nodD b<=1000000):gCD [.ag c,.ag c']=some (iv (cmpD a b)):=D2v h h' (by omega) ha hb
theorem C3o (H:Heap):∀ts:List T,toTs H (ts.map .t)=some (ts,[])
 | []=>rfl
 | t::ts=>by simp only[List.map_cons,toTs,toT,C3o H ts,Option.map_some,List.append_nil]
theorem C3p (g:List T->Option T) (ts:List T) (H:Heap) (nx:Nat):hOfT g (ts.map .t) H nx=(g ts).map fun r=>(.t r,H,nx):=by
 unfold hOfT;rw[C3o];simp only[Option.bind_some]
 cases g ts with
 | none=>rfl
 | some r=>simp only[Option.map_some,remAll,List.foldl_nil,ite_self]
theorem F2g {g:List T->Option T} {a b r:T} (h:g [a,b]=some r) (H:Heap) (nx:Nat):hOfT g [.t a,.t b] H nx=some (.t r,H,nx):=by
 have:=C3p g [a,b] H nx;rw[h]at this;exact this
theorem F2h {g:List T->Option T} {a b c r:T} (h:g [a,b,c]=some r) (H:Heap) (nx:Nat):hOfT g [.t a,.t b,.t c] H nx=some (.t r,H,nx):=by
 have:=C3p g [a,b,c] H nx;rw[h]at this;exact this
abbrev zD5 (b:Nat):Nat×Row:=(b,.cells 26 [.t (iv 0),.t (sv ⟨#[]⟩),.t (iv 0),.t (iv 0),.t nilS])
theorem A7d (b:Nat) (R:Heap) (x:Dv) {c:List T} (h:Abs.IsD x c):A0t 5 (zD5 b::R) (.ptr b 0) (.t (.ag c))=some ((b,.cells 26 (c.map .t))::R):=by
 cases x with
 | mk k n f t ks=>
  obtain⟨tk,rfl,_⟩:=h.parts;simp[A0t,A1m,Abs.look,A4y,upd]
theorem A9i (b:Nat) (R:Heap) (x:Dv) {c:List T} (h:Abs.IsD x c):A0g true 5 ((b,.cells 26 (c.map .t))::R) (.ptr b 0)=some (.t (.ag c)):=by
 cases x with
 | mk k n f t ks=>
  obtain⟨tk,rfl,_⟩:=h.parts;simp[A0g,Abs.look,agOf,allT]
def SCf (tk tk':T) (F n:Nat) (j:Nat):A0b:=⟨[(13,.t (iv (j:Int))),(12,.t (iv (n:Int))),(11,.t tk),(2,.t (fv F)),(1,.t tk'),(0,.t tk)],[],0,39⟩
theorem E4b {n:Nat} (hrec:GOK Tryz.prog (G q) 99 (gCmp n)) {tk tk':T} {l m:List Dv} (h:IsK tk l) (h':IsK tk' m) (hn:nodK l<n) (ha:nodK l<=1000000) (hb:nodK m<=1000000) :
  A0w Tryz.prog (G q) 151 [tk,tk',fv 99] (· = iv (cmpK l m)):=by
 have C:Ctx Tryz.prog (G q) (orh [] [(99,hOfT (gCmp n))]):=A0y.nil.ctxH (.cons hrec.hok .nil) mixed;have l1:=h.len;have l2:=h'.len;have lk:=A6t l;have lm:=A6t m;refine B2b.call rfl ?_;unfold A6j
 obtain⟨R,hR⟩:∃R,R=cmpK l m:=⟨_,rfl⟩
 rw[<-hR];refine A0a C ?_;simp -implicitDefEqProofs;refine A0o (α:=Unit) (fun _=>⟨[(1,.t tk'),(0,.t tk)],[],0,39⟩) (fun _=>m.length≥l.length/\R=cmpI l.length m.length) (fun _=>rfl) ?_ ?_
 ·refine A0a C ?_;simp -implicitDefEqProofs [l1];refine A0f ?_;refine A0k (SCf tk tk' 99 l.length) (fun j=>l.length-j) (fun j=>j<=l.length/\j<=m.length/\cmpK (l.drop j) (m.drop j)=R) 0 (fun _=>rfl) ⟨Nat.zero_le _,Nat.zero_le _,hR.symm⟩ ?_ rfl ?_
  ·exact A2x (by omega) (by simp -implicitDefEqProofs [SCf,under])
  rintro j ⟨hj,hj',heq⟩;refine A0c C ?_;by_cases hlt:j<l.length
  ·obtain⟨x,hx⟩:∃x,l[j]?=some x:=⟨_,List.getElem?_eq_getElem hlt⟩
   obtain⟨p,cx,i1,ld1,hcx⟩:=A5d h hx;have s1:=fun R=>A7d 0 R x hcx;by_cases hlt':j<m.length
   ·obtain⟨y,hy⟩:∃y,m[j]?=some y:=⟨_,List.getElem?_eq_getElem hlt'⟩
    obtain⟨p',cy,i2,ld2,hcy⟩:=A5d h' hy;have s2:=fun R=>A7d 1 R y hcy;have nx:=A7c (List.mem_of_getElem? hx);have ny:=A7c (List.mem_of_getElem? hy);have hg:=D2v (n:=n) hcx hcy (by omega) (by omega) (by omega);have hg2:=fun H nx=>F2g hg H nx;have la:A0g true 5 [(1,.cells 26 (cy.map .t)),(0,.cells 26 (cx.map .t))] (.ptr 1 0)=some (.t (.ag cy)):=A9i 1 _ y hcy
    have lb:A0g true 5 [(1,.cells 26 (cy.map .t)),(0,.cells 26 (cx.map .t))] (.ptr 0 0)=some (.t (.ag cx)):=by
     have:=A9i 0 [] x hcx;simp only[A0g,look_cons]at this ⊢;exact this
    have e1:IntKind.i64.wrap ((j:Int)+1)=((j+1:Nat):Int):=A0h (by omega) (by omega)
    have hge:¬(m.length<=j):=by omega
    rw[List.drop_eq_getElem_cons hlt,List.drop_eq_getElem_cons hlt',(List.getElem?_eq_some_iff.1 hx).2,(List.getElem?_eq_some_iff.1 hy).2,cmpK,A3k]at heq;generalize cmpD x y=v at heq hg hg2;by_cases h0:v=0
    ·rw[if_pos h0]at heq
     have hb:(v != 0)=false:=by simpa using h0
     simp -implicitDefEqProofs [SCf,l1,l2,hlt,hge,i1,ld1,i2,ld2,s1,s2,la,lb,hg2,hb,e1];exact Abs.Next.mk (j+1) ⟨⟨by omega,by omega,heq⟩,by omega⟩ (A2x (by omega) (by simp -implicitDefEqProofs [SCf,under]))
    ·rw[if_neg h0]at heq
     have hb:(v != 0)=true:=by simpa using h0
     subst heq;simp -implicitDefEqProofs [SCf,l1,l2,hlt,hge,i1,ld1,i2,ld2,s1,s2,la,lb,hg2,hb]
   ·have hge:m.length<=j:=by omega
    have e:j=m.length:=by omega
    have h9:=B8k hj hj' (.inr e)
    have h8:cmpI (l.length:Int) (m.length:Int)=1:=by rw[cmpI,if_neg (by omega),if_pos (by omega)]
    rw[h9,h8]at heq;simp -implicitDefEqProofs [SCf,l1,l2,hlt,hge,i1,ld1,s1,<-heq]
  ·have h9:=B8k hj hj' (.inl (by omega));rw[h9]at heq;simp -implicitDefEqProofs [SCf,hlt];exact Abs.Next.mk () ⟨by omega,heq.symm⟩ (A2x (by omega) (by simp -implicitDefEqProofs [under]))
 ·rintro _ ⟨hle,h0⟩;refine A0c C ?_;rw[h0];by_cases hlt:l.length<m.length
  ·have h8:cmpI (l.length:Int) (m.length:Int) = -1:=by rw[cmpI,if_pos (by omega)]
   simp -implicitDefEqProofs [l1,l2,hlt,h8]
  ·have h8:cmpI (l.length:Int) (m.length:Int)=0:=by rw[cmpI,if_neg (by omega),if_neg (by omega)]
   simp -implicitDefEqProofs [l1,l2,hlt,h8]
noncomputable def gCf (n:Nat):List T->Option T
 | [a,b,.v (.func (.func F) ⟨[]⟩ ⟨[]⟩)]=>if F=99 then g2 tK tK (fun l m=>if nodK l<n/\nodK l<=1000000/\nodK m<=1000000 then some (iv (cmpK l m))else none) [a,b]else none
 | _=>none
theorem F7b {n:Nat} (hrec:GOK Tryz.prog (G q) 99 (gCmp n)):GOK Tryz.prog (G q) 151 (gCf n):=fun args r hr=>by
 unfold gCf at hr;split at hr
 ·split at hr
  ·rename_i a b F e;subst e;simp only[g2]at hr;obtain⟨l,hl,hr⟩:=Option.bind_eq_some_iff.1 hr;obtain⟨m,hm,hr⟩:=Option.bind_eq_some_iff.1 hr;split at hr
   ·rename_i hc;injection hr with hr;subst hr;exact E4b hrec (Ty.is_dec hl) (Ty.is_dec hm) hc.1 hc.2.1 hc.2.2
   ·cases hr
  ·cases hr
 ·cases hr
theorem F7c {n:Nat} {tk tk':T} {l m:List Dv} (h:IsK tk l) (h':IsK tk' m) (hn:nodK l<n) (ha:nodK l<=1000000) (hb:nodK m<=1000000):gCf n [tk,tk',fv 99]=some (iv (cmpK l m)):=by
 have e:gCf n [tk,tk',fv 99]=g2 tK tK (fun l m=>if nodK l<n/\nodK l<=1000000/\nodK m<=1000000 then some (iv (cmpK l m))else none) [tk,tk']:=by
  unfold gCf;simp
 rw[e,A4u (τ:=tK) (σ:=tK) h h',if_pos ⟨hn,ha,hb⟩]
theorem E4c {n:Nat} (hrec:GOK Tryz.prog (G q) 99 (gCmp n)) {c c':List T} {a b:Dv} (h:Abs.IsD a c) (h':Abs.IsD b c') (hn:nodD a<=n) (ha:nodD a<=1000000) (hb:nodD b<=1000000) :
  A0w Tryz.prog (G q) 99 [.ag c,.ag c'] (· = iv (cmpD a b)):=by
 cases a with
 | mk k nm f t ks=>
 cases b with
 | mk k' nm' f' t' ks'=>
 obtain⟨tk,rfl,hk⟩:=h.parts;obtain⟨tk',rfl,hk'⟩:=h'.parts;rw[nodD]at hn ha hb
 have C:Ctx Tryz.prog (G q) (orh [(149,F4e),(150,F4f),(148,gOr)] [(151,hOfT (gCf n))]):=
  (A0y.cons F6z (.cons F7a (.cons hOr .nil))).ctxH (.cons (F7b hrec).hok .nil) mixed
 have cd:=A3o k nm f t tk;have cd':=A3o k' nm' f' t' tk';have e1:=D5t;have e2:=D5u;have e3:=F2h (F7c hk hk' (show nodK ks<n by omega) (by omega) (by omega));refine C0f.call rfl ?_;unfold B0v
 obtain⟨R,hR⟩:∃R,R=cmpD (.mk k nm f t ks) (.mk k' nm' f' t' ks'):=⟨_,rfl⟩
 rw[<-hR];rw[cmpD]at hR
 obtain⟨v,hv⟩:∃v,v=orI [cmpI f f',cmpI t t',cmpI k k',cmpS nm nm']:=⟨_,rfl⟩
 have hRv:R=if v=0 then cmpK ks ks' else v:=by
  rw[hR,hv];simp only[A3k,orI];by_cases z1:cmpI f f'=0<;>by_cases z2:cmpI t t'=0<;>by_cases z3:cmpI k k'=0<;>by_cases z4:cmpS nm nm'=0<;>simp[z1,z2,z3,z4]
 have e4:gOr [.sl 4 [iv (cmpI f f'),iv (cmpI t t'),iv (cmpI k k'),iv (cmpS nm nm')]]=some (iv v):=by
  rw[hv];exact F2f (l:=[cmpI f f',cmpI t t',cmpI k k',cmpS nm nm']) (.inr rfl) (by simp)
 have ts:∀a b c d:Int,A9a 3 1 [.int .i64 0] 4 [(0,.t (iv a)),(1,.t (iv b)),(2,.t (iv c)),(3,.t (iv d))]=some (.t (.sl 4 [iv a,iv b,iv c,iv d])):=fun _ _ _ _=>rfl;refine A0a C ?_;simp -implicitDefEqProofs [cd,cd'];by_cases h0:v=0
 ·rw[if_pos h0]at hRv
  have hb:(v != 0)=false:=by simpa using h0
  refine A0a C ?_;simp -implicitDefEqProofs [A0g,e1,e2,ts,e4,hb];refine A0c C ?_;simp -implicitDefEqProofs [A0g,e3,hRv]
 ·rw[if_neg h0]at hRv
  have hb:(v != 0)=true:=by simpa using h0
  refine A0a C ?_;simp -implicitDefEqProofs [A0g,e1,e2,ts,e4,hb,hRv]
theorem E4d:∀n,GOK Tryz.prog (G q) 99 (gCmp n)
 | 0=>A4e fun a b x y r ha hb hr=>by
  split at hr
  ·rename_i h;omega
  ·cases hr
 | n+1=>A4e fun a b x y r ha hb hr=>by
  split at hr
  ·rename_i h;injection hr with hr;subst hr;obtain⟨c,rfl,hc⟩:=ha;obtain⟨c',rfl,hc'⟩:=hb;exact E4c (E4d n) hc hc' (by omega) h.2.1 h.2.2
  ·cases hr
theorem F0c:GOK Tryz.prog (G q) 99 gCD:=E4d _
noncomputable def gStr (f:ByteArray->T) (n:Nat):List T->Option T:=g1 tStr fun s=>if s.size<=n then some (f s)else none
theorem A9j {F:Nat} {f:ByteArray->T} {n:Nat} (h:∀s:ByteArray,s.size<=n->A0w Tryz.prog (G q) F [sv s] (· = f s)):GOK Tryz.prog (G q) F (gStr f n):=
 A4c fun a s r ha hr=>by
  have e1:a=sv s:=ha;subst e1;split at hr
  ·rename_i hs;injection hr with hr;subst hr;exact h s hs
  ·cases hr
theorem B5x {f:ByteArray->T} {n:Nat} {s:ByteArray} (h:s.size<=n):gStr f n [.v (.string s)]=some (f s):=by
 rw[gStr,A5b (τ:=tStr) (x:=s) rfl,if_pos h]
noncomputable def gNm:List T->Option T:=gStr (fun s=>bv (A1e false s)) lim
theorem hNm:GOK Tryz.prog (G q) 58 gNm:=A9j E3a
theorem hRNm:GOK Tryz.prog (G q) 60 gNm:=A9j D8w
theorem B2j {s:ByteArray} (h:s.size<=lim):gNm [sv s]=some (bv (A1e false s)):=B5x h
noncomputable def gWd:List T->Option T:=gStr (fun s=>bv (A3n s)) lim
theorem hWd:GOK Tryz.prog (G q) 164 gWd:=A9j E3c
theorem hRWd:GOK Tryz.prog (G q) 159 gWd:=A9j D8x
theorem F2i {s:ByteArray} (h:s.size<=lim):gWd [sv s]=some (bv (A3n s)):=B5x h
noncomputable def gNu:List T->Option T:=gStr (fun s=>numT s.data.toList) 281474976710656
theorem hNu:GOK Tryz.prog (G q) 210 gNu:=A9j D2k
theorem hRNu:GOK Tryz.prog (G q) 180 gNu:=A9j C8y
theorem E4e {s:ByteArray} (h:s.size<=281474976710656):gNu [sv s]=some (numT s.data.toList):=B5x h
noncomputable def gDe:List T->Option T:=g1 tInt fun n=>if -9223372036854775808<=n/\n<=9223372036854775807 then some (sv (bs (Lib.itoa n)))else none
theorem hDe:GOK Tryz.prog (G q) 82 gDe:=A4c fun a x r ha hr=>by
 obtain rfl:a=iv x:=ha;split at hr
 ·rename_i h;injection hr with hr;subst hr;exact C8z x h
 ·cases hr
theorem hRDe:GOK Tryz.prog (G q) 134 gDe:=A4c fun a x r ha hr=>by
 obtain rfl:a=iv x:=ha;split at hr
 ·rename_i h;injection hr with hr;subst hr;exact C5j x h
 ·cases hr
theorem D5v {n:Int} (h:-9223372036854775808<=n/\n<=9223372036854775807):gDe [iv n]=some (sv (bs (Lib.itoa n))):=by
 show g1 _ _ _=_;rw[A5b (τ:=tInt) (x:=n) rfl,if_pos h]
theorem cat2 {Φ:A0v} {a b c:List UInt8} (h:c=a++b) (hl:c.length<=9223372036854775807):∀(isB:Bool) (nk:Option NK) (H:Heap) (nx:Nat),A0e Φ H nx (.bin isB .add nk) [.t (.v (.string ⟨a.toArray⟩)),.t (.v (.string ⟨b.toArray⟩))]=some (.t (sv (bs c)),H,nx):=by
 subst h;exact cat (by rw[List.length_append]at hl;exact hl)
def Wd (d:Dv):Prop:=A8n d/\IntD d/\nodD d<=1000000
theorem A6k.kid:∀{l:List Dv} {x:Dv},A6k l->x∈l->A8n x
 | d::r,x,h,hx=>by
  rw[A6k]at h;rcases List.mem_cons.1 hx with e | e
  ·rw[e];exact h.1
  ·exact A6k.kid h.2 e
theorem IntK.kid:∀{l:List Dv} {x:Dv},IntK l->x∈l->IntD x
 | d::r,x,h,hx=>by
  rw[IntK]at h;rcases List.mem_cons.1 hx with e | e
  ·rw[e];exact h.1
  ·exact IntK.kid h.2 e
theorem Wd.kid {k f t:Int} {n:ByteArray} {ks:List Dv} (h:Wd (.mk k n f t ks)) {x:Dv} (hx:x∈ks):Wd x:=by
 obtain⟨h1,h2,h3⟩:=h;rw[A8n]at h1;rw[IntD]at h2;rw[nodD]at h3;have:=A7c hx;exact⟨h1.2.kid hx,h2.2.2.2.kid hx,by omega⟩
theorem Wd.len {d:Dv} (h:Wd d):(prtD d).length<=2100000000000:=by
 have:=C5v d h.1 h.2.1;have:=h.2.2;omega
theorem C9n {l:List Dv} {j:Nat} {x:Dv} (h:l[j]?=some x):prtK (l.drop j)=32::(prtD x++prtK (l.drop (j+1))):=by
 obtain⟨hlt,he⟩:=List.getElem?_eq_some_iff.1 h;rw[List.drop_eq_getElem_cons hlt,he,prtK]
noncomputable def gPr (n:Nat) (ts:List T):Option T:=g1 tD (fun d=>open Classical in if nodD d<n/\Wd d then some (sv (bs (prtD d)))else none) ts
theorem F2j {n:Nat} {c:List T} {d:Dv} (h:Abs.IsD d c) (hn:nodD d<n) (hw:Wd d):gPr n [.ag c]=some (sv (bs (prtD d))):=by
 show g1 _ _ _=_;rw[A5b (τ:=tD) (x:=d) ⟨c,rfl,h⟩,if_pos ⟨hn,hw⟩]
def SRp (R:Row) (a:Nat×List UInt8):A0b:=⟨[(4,.t (iv (a.1:Int))),(3,.t (sv (bs a.2))),(1,.ptr 0 0)],[(0,R)],1,40⟩
theorem D2x {n:Nat} (hrec:GOK Tryz.prog (G q) 89 (gPr n)) {c:List T} {d:Dv} (h:Abs.IsD d c) (hn:nodD d<=n) (hw:Wd d):A0w Tryz.prog (G q) 89 [.ag c] (· = sv (bs (prtD d))):=by
 cases d with
 | mk k nm f t ks=>
 obtain⟨tk,rfl,hk⟩:=h.parts;have C:Ctx Tryz.prog (G q) (orc [(89,gPr n),(134,gDe)]):=(A0y.cons hrec (.cons (hRDe (q:=q)) .nil)).ctx mixed
 obtain⟨N,hN⟩:∃N,N=lbs nm:=⟨_,rfl⟩
 obtain rfl:nm=bs N:=by rw[hN,A7x]
 have cd:=A3o k (bs N) f t tk
 obtain⟨W,hW⟩:∃W,W=prtD (.mk k (bs N) f t ks):=⟨_,rfl⟩
 have hlen:=hw.len;rw[<-hW]at hlen ⊢;rw[prtD]at hW;have hI:=hw.2.1;rw[IntD]at hI;have d1:=D5v hI.2.1;have d2:=D5v hI.2.2.1;have l1:=hk.len;have lk:=A6t ks;have hw3:=hw.2.2;rw[nodD]at hn hw3
 obtain⟨P,hP⟩:∃P,P=40::(if k=1 then [43]else []:List UInt8):=⟨_,rfl⟩
 obtain⟨A1,hA1⟩:∃A,A=P++N:=⟨_,rfl⟩
 obtain⟨A2,hA2⟩:∃A,A=A1++[32]:=⟨_,rfl⟩
 obtain⟨A3,hA3⟩:∃A,A=A2++Lib.itoa f:=⟨_,rfl⟩
 obtain⟨A4,hA4⟩:∃A,A=A3++[32]:=⟨_,rfl⟩
 obtain⟨A5,hA5⟩:∃A,A=A4++Lib.itoa t:=⟨_,rfl⟩
 have hW5:A5++prtK ks++[41]=W:=by
  rw[hW,hA5,hA4,hA3,hA2,hA1,hP,show lbs (bs N)=N from rfl];simp
 have z5:A5.length<=2100000000000:=by rw[<-hW5]at hlen;simp only[List.length_append]at hlen;omega
 have z4:A4.length<=2100000000000:=by rw[hA5,List.length_append]at z5;omega
 have z3:A3.length<=2100000000000:=by rw[hA4,List.length_append]at z4;omega
 have z2:A2.length<=2100000000000:=by rw[hA3,List.length_append]at z3;omega
 have z1:A1.length<=2100000000000:=by rw[hA2,List.length_append]at z2;omega
 have c1:=cat2 (Φ:=orc [(89,gPr n),(134,gDe)]) hA1 (by omega);have c2:=cat2 (Φ:=orc [(89,gPr n),(134,gDe)]) hA2 (by omega);have c3:=cat2 (Φ:=orc [(89,gPr n),(134,gDe)]) hA3 (by omega);have c4:=cat2 (Φ:=orc [(89,gPr n),(134,gDe)]) hA4 (by omega);have c5:=cat2 (Φ:=orc [(89,gPr n),(134,gDe)]) hA5 (by omega);refine D2p.call rfl ?_;unfold C0e;refine A0a C ?_;simp -implicitDefEqProofs [cd];refine A0a C ?_;simp -implicitDefEqProofs;refine A0o (α:=Unit) (fun _=>⟨[(3,.t (sv (bs P))),(1,.ptr 0 0)],[(0,dRow k (bs N) f t tk)],1,40⟩) (fun _=>True) (fun _=>rfl) ?_ ?_
 ·refine A0c C ?_;by_cases h1:k=1
  ·have hb:(k==1)=true:=by simpa using h1
   rw[if_pos h1]at hP;simp -implicitDefEqProofs [A0g,hb];refine Abs.Next.mk () trivial ?_;rw[hP];exact A0d (by simp -implicitDefEqProofs)
  ·have hb:(k==1)=false:=by simpa using h1
   rw[if_neg h1]at hP;simp -implicitDefEqProofs [A0g,hb];refine Abs.Next.mk () trivial ?_;rw[hP];exact A0d (by simp -implicitDefEqProofs)
 rintro _ -
 have ld:∀i v,[PV.t (iv k),PV.t (sv (bs N)),PV.t (iv f),PV.t (iv t),PV.t tk][i]?=some v->A0g false 1 [(0,dRow k (bs N) f t tk)] (.ptr 0 i)=some v:=fun i v hv=>by
  simp only[A0g,look_cons,if_true,dRow,Bool.false_eq_true,if_false];exact hv
 have ld1:=ld 1 _ rfl;have ld2:=ld 2 _ rfl;have ld3:=ld 3 _ rfl;have ld4:=ld 4 _ rfl;refine A0a C ?_;simp -implicitDefEqProofs [ld1,ld2,ld3,c1,c2,d1,c3,c4,d2,c5];refine A0o (α:=Unit) (fun _=>⟨[(3,.t (sv (bs (A5++prtK ks)))),(1,.ptr 0 0)],[(0,dRow k (bs N) f t tk)],1,40⟩) (fun _=>True) (fun _=>rfl) ?_ ?_
 ·refine A0a C ?_;simp -implicitDefEqProofs;refine A0f ?_;refine A0k (SRp (dRow k (bs N) f t tk)) (fun a=>ks.length-a.1) (fun a=>a.1<=ks.length/\a.2++prtK (ks.drop a.1)=A5++prtK ks) (0,A5) (fun _=>rfl) ⟨Nat.zero_le _,rfl⟩ ?_ rfl ?_
  ·exact A0d (by simp -implicitDefEqProofs [SRp])
  rintro⟨j,A⟩ ⟨hj,heq⟩;simp only at hj heq;refine A0c C ?_;by_cases hlt:j<ks.length
  ·obtain⟨x,hx⟩:∃x,ks[j]?=some x:=⟨_,List.getElem?_eq_getElem hlt⟩
   obtain⟨p,cx,i1,ld5,hcx⟩:=A5d hk hx;have hm:=List.mem_of_getElem? hx;have nx:=A7c hm;have hg:=F2j (n:=n) hcx (by omega) (hw.kid hm);rw[C9n hx]at heq
   obtain⟨B1,hB1⟩:∃B,B=A++[32]:=⟨_,rfl⟩
   obtain⟨B2,hB2⟩:∃B,B=B1++prtD x:=⟨_,rfl⟩
   have heq2:B2++prtK (ks.drop (j+1))=A5++prtK ks:=by rw[<-heq,hB2,hB1];simp
   have y2:B2.length<=2100000000000:=by
    have:=congrArg List.length heq2;rw[<-hW5]at hlen;simp only[List.length_append]at this hlen;omega
   have y1:B1.length<=2100000000000:=by rw[hB2,List.length_append]at y2;omega
   have k1:=cat2 (Φ:=orc [(89,gPr n),(134,gDe)]) hB1 (by omega);have k2:=cat2 (Φ:=orc [(89,gPr n),(134,gDe)]) hB2 (by omega);have e1:IntKind.i64.wrap ((j:Int)+1)=((j+1:Nat):Int):=A0h (by omega) (by omega);simp -implicitDefEqProofs [SRp,ld4,l1,hlt,i1,ld5,hg,k1,k2,e1];exact Abs.Next.mk (j+1,B2) ⟨⟨by show j+1<=_;omega,heq2⟩,by show ks.length-(j+1)<ks.length-j;omega⟩ (A0d (by simp -implicitDefEqProofs [SRp]))
  ·rw[List.drop_of_length_le (by omega),prtK,List.append_nil]at heq;subst heq;simp -implicitDefEqProofs [SRp,ld4,l1,hlt];exact Abs.Next.mk () trivial (A0d (by simp -implicitDefEqProofs))
 rintro _ -
 obtain⟨A6,hA6⟩:∃A,A=A5++prtK ks:=⟨_,rfl⟩
 rw[<-hA6]at hW5 ⊢;have c6:=cat2 (Φ:=orc [(89,gPr n),(134,gDe)]) hW5.symm (by omega);refine A0c C ?_;simp -implicitDefEqProofs [c6]
theorem C9o:∀n,GOK Tryz.prog (G q) 89 (gPr n)
 | 0=>A4c fun a x r ha hr=>by
  split at hr
  ·rename_i h;omega
  ·cases hr
 | n+1=>A4c fun a x r ha hr=>by
  split at hr
  ·rename_i h;injection hr with hr;subst hr;obtain⟨c,rfl,hc⟩:=ha;exact D2x (C9o n) hc (by omega) h.2
  ·cases hr
noncomputable def gPrt:List T->Option T:=gPr 1000001
theorem hRPrt:GOK Tryz.prog (G q) 89 gPrt:=C9o _
theorem F4h {c:List T} {d:Dv} (h:Abs.IsD d c) (hw:Wd d):gPrt [.ag c]=some (sv (bs (prtD d))):=F2j h (by have:=hw.2.2;omega) hw
def rTak (c:UInt8) (s:List UInt8):List UInt8×Int:=match takB c s with
 | .ok r=>(r,0)
 | .error e=>(s,e)
def rNam (s:List UInt8):List UInt8×List UInt8×Int:=
 if(A5h 0 s=0/\s=[])\/(0<A5h 0 s/\A5h 0 s=s.length)then([],s,9)
 else if A5h 0 s=0 then([],s,8)else(s.take (A5h 0 s),s.drop (A5h 0 s),0)
def B2c (s:List UInt8):Nat:=(sgn s).1.length+((sgn s).2.takeWhile A1d).length
def rNum (s:List UInt8):Int×List UInt8×Int:=
 if B2c s=s.length/\(s=[]\/s=[45])then(0,s,9)
 else if(numS (s.take (B2c s))).2≠0 then(0,s,8)
 else if B2c s=s.length then(0,s,9)else((numS (s.take (B2c s))).1,s.drop (B2c s),0)
def A3p (s:List UInt8):Hd×List UInt8×Int:=
 let a:=plus s
 let n:=rNam a.2
 if n.2.2≠0 then(⟨a.1,[],0,0⟩,n.2.1,n.2.2)else
 let b:=rTak 32 n.2.1
 if b.2≠0 then(⟨a.1,n.1,0,0⟩,b.1,b.2)else
 let f:=rNum b.1
 if f.2.2≠0 then(⟨a.1,n.1,0,0⟩,f.2.1,f.2.2)else
 let c:=rTak 32 f.2.1
 if c.2≠0 then(⟨a.1,n.1,f.1,0⟩,c.1,c.2)else
 let t:=rNum c.1
 if t.2.2≠0 then(⟨a.1,n.1,f.1,0⟩,t.2.1,t.2.2)else(⟨a.1,n.1,f.1,t.1⟩,t.2.1,0)
def A7j (rr:List UInt8->Dv×List UInt8×Int):Nat->Bool->List Dv->List UInt8->List Dv×List UInt8×Int
 | n+1,lex,acc,32::r=>if lex && !acc.isEmpty then(acc,32::r,0)else
  if(rr r).2.2≠0 then(acc++[(rr r).1],(rr r).2.1,(rr r).2.2)else A7j rr n lex (acc++[(rr r).1]) (rr r).2.1
 | _,_,acc,s=>(acc,s,0)
def A3q:Nat->List UInt8->Dv×List UInt8×Int
 | _,[]=>(A2c,[],9)
 | 0,c::s=>if c=40 then(A2c,c::s,7)else(A2c,c::s,8)
 | k+1,c::s=>if c=40 then
   let h:=A3p s
   let l:=if h.2.2≠0 then([],h.2.1,h.2.2)else A7j (A3q k) h.2.1.length h.1.lex [] h.2.1
   if l.2.2≠0 then(A2c,l.2.1,l.2.2)else
   match l.2.1 with
   | []=>(A2c,[],9)
   | x::r=>if x≠41\/(h.1.lex=true/\l.1.length≠1)then(A2c,x::r,8)else(.mk (A1f h.1.lex l.1) (bs h.1.name) h.1.frm h.1.to l.1,r,0)
  else(A2c,c::s,8)
def RelE (x:Except Int (Dv×List UInt8)) (y:Dv×List UInt8×Int):Prop:=match x with
 | .ok (d,r)=>y=(d,r,0)
 | .error e=>y.1=A2c/\y.2.2=e/\e≠0
theorem E4f (s:List UInt8):eosE s≠0:=by cases s<;>simp[eosE]
theorem F4i {c:UInt8} {s:List UInt8} {e:Int} (h:takB c s = .error e):e≠0:=by
 cases s with
 | nil=>cases h;decide
 | cons x r=>
  rw[takB]at h;split at h
  ·cases h
  ·cases h;decide
theorem B8l:∀(s:List UInt8) (i:Nat),A5h i s<=s.length
 | [],i=>Nat.le_refl _
 | c::r,i=>by rw[A5h];have:=B8l r (i+1);split<;>simp[this]
theorem E4g (c:UInt8) (r:List UInt8):eosE (c::r)=8:=rfl
theorem F0d (s:List UInt8):(match A8j s with
  | .ok (n,r)=>(r≠[]->rNam s=(n,r,0))/\(r=[]->(rNam s).2.2=9)
  | .error e=>(rNam s).2.2=e/\e≠0):=by
 unfold A8j rNam;by_cases h0:A5h 0 s=0
 ·rw[if_pos h0];simp only
  cases s with
  | nil=>rw[if_pos (.inl ⟨h0,rfl⟩)];exact⟨rfl,by decide⟩
  | cons c r=>
   rw[if_neg (by simp[h0]),if_pos h0];exact⟨rfl,E4f _⟩
 ·rw[if_neg h0];simp only;have hle:=B8l s 0;by_cases hl:A5h 0 s=s.length
  ·rw[if_pos (.inr ⟨by omega,hl⟩)];refine⟨fun h=>?_,fun _=>rfl⟩;rw[hl,List.drop_length]at h;exact absurd rfl h
  ·rw[if_neg (by omega),if_neg h0];refine⟨fun _=>rfl,fun h=>?_⟩;have:=congrArg List.length h;simp at this;omega
theorem F0e (s:List UInt8):s.take (B2c s)=(sgn s).1++(sgn s).2.takeWhile A1d/\s.drop (B2c s)=(sgn s).2.dropWhile A1d:=by
 have h1:=B9y s;have h2:=List.takeWhile_append_dropWhile (p:=A1d) (l:=(sgn s).2)
 obtain⟨n,hn⟩:∃n,n=B2c s:=⟨_,rfl⟩
 have hl:n=((sgn s).1++(sgn s).2.takeWhile A1d).length:=by rw[hn,B2c,List.length_append]
 have e:s=((sgn s).1++(sgn s).2.takeWhile A1d)++(sgn s).2.dropWhile A1d:=by rw[List.append_assoc,h2,h1]
 rw[<-hn];generalize (sgn s).1++(sgn s).2.takeWhile A1d=a at *;generalize (sgn s).2.dropWhile A1d=b at *;subst e;exact⟨List.take_left' hl.symm,List.drop_left' hl.symm⟩
theorem D2y (s:List UInt8):(sgn s).1=[]\/(sgn s).1=[45]:=by
 unfold sgn;split
 ·exact .inr rfl
 ·exact .inl rfl
theorem E4h {l:List UInt8} (h:l=[]\/l=[45]):(numS l).2=8:=by
 rcases h with rfl | rfl<;>rfl
theorem D5w (s:List UInt8):(match A8k s with
  | .ok (n,r)=>(r≠[]->rNum s=(n,r,0))/\(r=[]->(rNum s).2.2=9)
  | .error e=>(rNum s).2.2=e/\e≠0):=by
 obtain⟨ht,hd⟩:=F0e s
 have hlen:B2c s=s.length ↔ (sgn s).2.dropWhile A1d=[]:=by
  rw[<-hd,List.drop_eq_nil_iff]
  have:B2c s<=s.length:=by
   have h1:=congrArg List.length (B9y s);have h2:=congrArg List.length (List.takeWhile_append_dropWhile (p:=A1d) (l:=(sgn s).2));rw[List.length_append]at h1 h2;unfold B2c;omega
  omega
 unfold A8k rNum;rw[ht,hd];simp only
 by_cases hz:(sgn s).2.takeWhile A1d=[]
 ·rw[if_pos hz];simp only
  have e2:(sgn s).2.dropWhile A1d=(sgn s).2:=by
   have:=List.takeWhile_append_dropWhile (p:=A1d) (l:=(sgn s).2);rw[hz]at this;exact this
  have e1:(numS ((sgn s).1++(sgn s).2.takeWhile A1d)).2=8:=by rw[hz,List.append_nil];exact E4h (D2y s)
  rw[e1]
  cases hr:(sgn s).2 with
  | nil=>
   have hs:s=[]\/s=[45]:=by
    have:=B9y s;rw[hr,List.append_nil]at this;rw[<-this];exact D2y s
   rw[if_pos ⟨hlen.2 (by rw[e2,hr]),hs⟩];rw[hr]at e2;exact⟨rfl,by decide⟩
  | cons c r=>
   rw[hr]at e2
   have hne:¬B2c s=s.length:=fun e=>by
    have:=hlen.1 e;rw[hr,e2]at this;cases this
   rw[if_neg (fun e=>hne e.1),if_pos (by decide),e2];exact⟨rfl,by rw[E4g];decide⟩
 ·rw[if_neg hz]
  have hn:¬(B2c s=s.length/\(s=[]\/s=[45])):=by
   rintro⟨_,rfl | rfl⟩<;>exact hz rfl
  rw[if_neg hn];by_cases he:(numS ((sgn s).1++(sgn s).2.takeWhile A1d)).2=0
  ·rw[if_pos he,if_neg (by simp[he])];simp only;refine⟨fun h=>?_,fun h=>?_⟩
   ·rw[if_neg (fun e=>h (hlen.1 e))]
   ·rw[if_pos (hlen.2 h)]
  ·rw[if_neg he,if_pos he];exact⟨rfl,by decide⟩
theorem D5x (c:UInt8) (s:List UInt8):(match takB c s with
  | .ok r=>rTak c s=(r,0)
  | .error e=>rTak c s=(s,e)/\e≠0):=by
 unfold rTak
 cases h:takB c s with
 | error e=>exact⟨rfl,F4i h⟩
 | ok r=>rfl
theorem E4i (s:List UInt8):(match B6z s with
  | .ok (h,r)=>(r≠[]->A3p s=(h,r,0))/\(r=[]->(A3p s).2.2=9)
  | .error e=>(A3p s).2.2=e/\e≠0):=by
 unfold B6z A3p;simp only[bind,Except.bind,pure,Except.pure];have a1:=F0d (plus s).2
 cases h1:A8j (plus s).2 with
 | error e=>
  rw[h1]at a1;simp only at a1 ⊢;rw[if_pos (by rw[a1.1];exact a1.2)];exact a1
 | ok q=>
  obtain⟨n,s1⟩:=q;rw[h1]at a1;simp only at a1 ⊢;have b1:=D5x 32 s1
  cases hs1:s1 with
  | nil=>
   rw[if_pos (by rw[a1.2 hs1];decide)];exact⟨a1.2 hs1,by decide⟩
  | cons c r=>
   have e1:=a1.1 (by rw[hs1];simp);rw[hs1]at e1 b1;rw[if_neg (by rw[e1];simp),e1];simp only
   cases h2:takB 32 (c::r)with
   | error e=>
    rw[h2]at b1;simp only at b1 ⊢;rw[b1.1,if_pos b1.2];exact⟨rfl,b1.2⟩
   | ok s2=>
    rw[h2]at b1;simp only at b1 ⊢;rw[b1,if_neg (by simp)];simp only;have a2:=D5w s2
    cases h3:A8k s2 with
    | error e=>
     rw[h3]at a2;simp only at a2 ⊢;rw[if_pos (by rw[a2.1];exact a2.2)];exact a2
    | ok q=>
     obtain⟨f,s3⟩:=q;rw[h3]at a2;simp only at a2 ⊢;have b2:=D5x 32 s3
     cases hs3:s3 with
     | nil=>
      rw[if_pos (by rw[a2.2 hs3];decide)];exact⟨a2.2 hs3,by decide⟩
     | cons c r=>
      have e2:=a2.1 (by rw[hs3];simp);rw[hs3]at e2 b2;rw[if_neg (by rw[e2];simp),e2];simp only
      cases h4:takB 32 (c::r)with
      | error e=>
       rw[h4]at b2;simp only at b2 ⊢;rw[b2.1,if_pos b2.2];exact⟨rfl,b2.2⟩
      | ok s4=>
       rw[h4]at b2;simp only at b2 ⊢;rw[b2,if_neg (by simp)];simp only;have a3:=D5w s4
       cases h5:A8k s4 with
       | error e=>
        rw[h5]at a3;simp only at a3 ⊢;rw[if_pos (by rw[a3.1];exact a3.2)];exact a3
       | ok q=>
        obtain⟨t,s5⟩:=q;rw[h5]at a3;simp only at a3 ⊢;refine⟨fun h=>?_,fun h=>?_⟩
        ·rw[a3.1 h,if_neg (by simp)]
        ·rw[if_pos (by rw[a3.2 h];decide)];exact a3.2 h
theorem C9p {rd:List UInt8->Except Int (Dv×List UInt8)} {rr:List UInt8->Dv×List UInt8×Int} (hrd:∀s,RelE (rd s) (rr s)):∀(n:Nat) (lex:Bool) (acc:List Dv) (s:List UInt8),(match A2y rd n lex acc s with
  | .ok (ks,r)=>A7j rr n lex acc s=(ks,r,0)
  | .error e=>(A7j rr n lex acc s).2.2=e/\e≠0)
 | 0,lex,acc,s=>by
  rw[A2y,A7j]<;>(try rfl)<;>(intros;omega)
 | n+1,lex,acc,s=>by
  by_cases hs:∃t,s=32::t
  ·obtain⟨t,rfl⟩:=hs;rw[A2y,A7j];by_cases hl:(lex && !acc.isEmpty)=true
   ·rw[if_pos hl,if_pos hl]
   ·rw[if_neg hl,if_neg hl];have h1:=hrd t
    cases hd:rd t with
    | error e=>
     rw[hd]at h1;obtain⟨_,h2,h3⟩:=h1;simp only;rw[if_pos (by rw[h2];exact h3)];exact⟨h2,h3⟩
    | ok q=>
     obtain⟨d,r⟩:=q;rw[hd]at h1;have h1:rr t=(d,r,0):=h1;rw[h1];simp only;rw[if_neg (by simp)];exact C9p hrd n lex _ _
  ·have e1:A2y rd (n+1) lex acc s = .ok (acc,s):=by
    rw[A2y];intro n' t _ e;exact hs ⟨t,e⟩
   have e2:A7j rr (n+1) lex acc s=(acc,s,0):=by
    rw[A7j];intro n' t _ e;exact hs ⟨t,e⟩
   rw[e1,e2]
theorem C3q {rd:List UInt8->Except Int (Dv×List UInt8)}:∀(n:Nat) (acc:List Dv) (s:List UInt8) (ks:List Dv) (r:List UInt8),acc.length<=1->A2y rd n true acc s = .ok (ks,r)->ks.length<=1
 | 0,acc,s,ks,r,ha,h=>by
  rw[A2y]at h
  ·cases h;exact ha
  ·intros;omega
 | n+1,acc,s,ks,r,ha,h=>by
  by_cases hs:∃t,s=32::t
  ·obtain⟨t,rfl⟩:=hs;rw[A2y]at h;split at h
   ·cases h;exact ha
   ·rename_i hl;split at h
    ·cases h
    ·refine C3q n _ _ _ _ ?_ h
     have:acc=[]:=by simpa using hl
     rw[this];simp
  ·rw[A2y]at h
   ·cases h;exact ha
   ·intro n' t _ e;exact hs ⟨t,e⟩
theorem C0o:∀(k:Nat) (s:List UInt8),RelE (A2w k s) (A3q k s)
 | k,[]=>by
  have e1:A2w k [] = .error 9:=by cases k<;>rfl
  have e2:A3q k []=(A2c,[],9):=by cases k<;>rfl
  rw[e1,e2];exact⟨rfl,rfl,by decide⟩
 | 0,c::s=>by
  rw[A2w,A3q];by_cases hc:c=40
  ·rw[if_pos hc,if_pos hc];exact⟨rfl,rfl,by decide⟩
  ·rw[if_neg hc,if_neg hc];exact⟨rfl,rfl,by decide⟩
 | k+1,c::s=>by
  rw[A2w,A3q];by_cases hc:c=40
  ·rw[if_pos hc,if_pos hc];simp only[bind,Except.bind,pure,Except.pure];have a:=E4i s
   cases h1:B6z s with
   | error e=>
    rw[h1]at a;simp only at a ⊢
    have:(A3p s).2.2≠0:=by rw[a.1];exact a.2
    rw[if_pos this];simp only;rw[if_pos this];exact⟨rfl,a⟩
   | ok q=>
    obtain⟨h,s1⟩:=q;rw[h1]at a;simp only at a ⊢
    cases hs1:s1 with
    | nil=>
     have e9:=a.2 hs1
     have:(A3p s).2.2≠0:=by rw[e9];decide
     rw[if_pos this];simp only;rw[if_pos this,e9]
     have ek:A2y (A2w k) ([]:List UInt8).length h.lex [] [] = .ok ([],[]):=by
      rw[A2y];intros;contradiction
     rw[ek];simp only;split
     ·exact⟨rfl,rfl,by decide⟩
     ·exact⟨rfl,rfl,by decide⟩
    | cons x r=>
     have e1:=a.1 (by rw[hs1];simp);rw[hs1]at e1;rw[e1];simp only;rw[if_neg (show ¬(0:Int)≠0 by simp)];have b:=C9p (fun s=>C0o k s) (x::r).length h.lex [] (x::r)
     cases h2:A2y (A2w k) (x::r).length h.lex [] (x::r)with
     | error e=>
      rw[h2]at b;simp only at b ⊢;rw[if_pos (by rw[b.1];exact b.2)];exact⟨rfl,b⟩
     | ok q=>
      obtain⟨ks,s2⟩:=q;rw[h2]at b;simp only at b ⊢;rw[b];simp only;rw[if_neg (show ¬(0:Int)≠0 by simp)]
      cases s2 with
      | nil=>
       simp only;split
       ·exact⟨rfl,rfl,by decide⟩
       ·exact⟨rfl,rfl,by decide⟩
      | cons y t=>
       simp only;by_cases hl:(h.lex&&ks.isEmpty)=true
       ·rw[if_pos hl];rw[Bool.and_eq_true]at hl
        have:ks=[]:=by simpa using hl.2
        rw[if_pos (.inr ⟨hl.1,by rw[this];decide⟩)];exact⟨rfl,rfl,E4f _⟩
       ·rw[if_neg hl]
        have hlen:¬(h.lex=true/\ks.length≠1):=by
         rintro⟨k1,k2⟩;have h3:=k1▸h2;have:=C3q _ _ _ _ _ (by simp) h3
         have h4:ks≠[]:=by
          intro e;rw[k1,e]at hl;exact hl rfl
         have:=List.length_pos_iff.2 h4;omega
        rw[takB];by_cases hy:y=41
        ·rw[if_pos hy,if_neg (by rintro(e | e);exact e hy;exact hlen e)];rfl
        ·rw[if_neg hy,if_pos (.inl hy)];exact⟨rfl,rfl,by decide⟩
  ·rw[if_neg hc,if_neg hc];exact⟨rfl,rfl,by decide⟩
theorem A0q (l:List UInt8):(⟨l.toArray⟩:ByteArray).size=l.length:=by show l.toArray.size=_;simp
theorem A5n (l:List UInt8):(⟨l.toArray⟩:ByteArray).data.toList=l:=by simp
theorem F4j (l:List UInt8) {j:Nat} (h:j<=l.length):A3e (.t (.v (.string ⟨l.toArray⟩))) none (some (.t (iv (j:Int))))=some (.t (sv (bs (l.take j)))):=by
 have:=E9r (bs l) j (by rw[A0q];exact h);rw[this,<-A7x ((bs l).extract 0 j),Lib.extract_data,A5n];simp
theorem B5y (l:List UInt8) {j:Nat} (h:j<=l.length):A3e (.t (.v (.string ⟨l.toArray⟩))) (some (.t (iv (j:Int)))) none=some (.t (sv (bs (l.drop j)))):=by
 have:=D9a (bs l) j (by rw[A0q];exact h);rw[this,<-A7x ((bs l).extract j (bs l).size),Lib.extract_data,A5n,A0q];rw[List.take_of_length_le (by simp)]
theorem D5y (l:List UInt8) {i j:Nat} (h1:i<=j) (h:j<=l.length):A3e (.t (.v (.string ⟨l.toArray⟩))) (some (.t (iv (i:Int)))) (some (.t (iv (j:Int))))=some (.t (sv (bs ((l.drop i).take (j-i))))):=by
 have:=E3g (bs l) i j h1 (by rw[A0q];exact h);rw[this,<-A7x ((bs l).extract i j),Lib.extract_data,A5n]
theorem D9l (l:List UInt8) {j:Nat} {c:UInt8} (h:l[j]?=some c):B6o (.t (.v (.string ⟨l.toArray⟩))) (.t (iv (j:Int)))=some (.t (cv c)):=
 A4f (bs l) j c (by rw[A5n];exact h)
theorem C0p (l:List UInt8) {c:UInt8} (h:l[0]?=some c):B6o (.t (.v (.string ⟨l.toArray⟩))) (.t (iv 0))=some (.t (cv c)):=D9l l (j:=0) h
theorem C0q (x c:UInt8):((x.toNat:Int) !=(c.toNat:Int)) = !decide (x=c):=by
 by_cases h:x=c
 ·subst h;simp
 ·have:¬x.toNat=c.toNat:=fun e=>h (UInt8.toNat_inj.1 e);rw[decide_eq_false h,Bool.not_false,bne_iff_ne];omega
theorem D2z (x:UInt8) (c:Nat) (hc:c<256):((x.toNat:Int)==(c:Int))=decide (x=UInt8.ofNat c):=by
 by_cases h:x=UInt8.ofNat c
 ·subst h
  have:(UInt8.ofNat c).toNat=c:=by rw[UInt8.toNat_ofNat'];omega
  rw[this];simp
 ·rw[decide_eq_false h,beq_eq_false_iff_ne];intro e;refine h (UInt8.toNat_inj.1 ?_);rw[UInt8.toNat_ofNat'];omega
def takT (c:UInt8) (l:List UInt8):T:=.tu [sv (bs (rTak c l).1),iv (rTak c l).2]
def STk (l:List UInt8) (c:UInt8) (j:Nat):A0b:=⟨[(6,.t (iv (j:Int))),(1,.t (sv (bs [c]))),(0,.t (sv (bs l)))],[],0,30⟩
theorem D9m (l:List UInt8) (c:UInt8) (hl:l.length<=2100000000000):A0w Tryz.prog (G q) 236 [sv (bs l),sv (bs [c])] (· = takT c l):=by
 refine D2s.call rfl ?_;unfold C0j
 obtain⟨R,hR⟩:∃R,R=takT c l:=⟨_,rfl⟩
 rw[<-hR];refine A0a A0x ?_;simp -implicitDefEqProofs;refine A0o (α:=Unit) (fun _=>⟨[(1,.t (sv (bs [c]))),(0,.t (sv (bs l)))],[],0,30⟩) (fun _=>∃r,l=c::r) (fun _=>rfl) ?_ ?_
 ·refine A0a A0x ?_;simp -implicitDefEqProofs;refine A0f ?_;refine A0k (STk l c) (fun j=>1-j) (fun j=>j=0\/(j=1/\∃r,l=c::r)) 0 (fun _=>rfl) (.inl rfl) ?_ rfl ?_
  ·exact A0d (by simp -implicitDefEqProofs [STk])
  rintro j hj;refine A0c A0x ?_;rcases hj with rfl | ⟨rfl,hr⟩
  ·have i2:=C0p [c] (c:=c) rfl
   cases hx:l[0]? with
   | none=>
    have h0:l=[]:=by
     cases l with
     | nil=>rfl
     | cons _ _=>cases hx
    subst h0;have e:R = .tu [sv (bs []),iv 9]:=hR;simp -implicitDefEqProofs [STk,A0q,e]
   | some x=>
    have hpos:0<l.length:=(List.getElem?_eq_some_iff.1 hx).1
    obtain⟨r,hr⟩:∃r,l=x::r:=by
     cases l with
     | nil=>simp at hx
     | cons y r=>simp at hx;subst hx;exact⟨r,rfl⟩
    have i1:=C0p l hx
    have b1:((0:Int)==(l.length:Int))=false:=by rw[beq_eq_false_iff_ne];omega
    by_cases hc:x=c
    ·have b2:=C0q x c;rw[decide_eq_true hc,Bool.not_true]at b2;have w1:IntKind.i64.wrap 1=1:=rfl;simp -implicitDefEqProofs [STk,A0q,b1,i1,i2,b2,w1];exact Abs.Next.mk 1 ⟨.inr ⟨rfl,r,by rw[hr,hc]⟩,by omega⟩ (A0d (by simp -implicitDefEqProofs [STk]))
    ·have b2:=C0q x c;rw[decide_eq_false hc,Bool.not_false]at b2
     have e:R = .tu [sv (bs l),iv 8]:=by
      rw[hR,takT,rTak,hr,takB,if_neg hc]
     simp -implicitDefEqProofs [STk,A0q,b1,i1,i2,b2,e]
  ·simp -implicitDefEqProofs [STk,A0q];exact Abs.Next.mk () hr (A0d (by simp -implicitDefEqProofs))
 ·rintro _ ⟨r,hr⟩
  have e:R = .tu [sv (bs r),iv 0]:=by rw[hR,takT,rTak,hr,takB,if_pos rfl]
  have s1:=B5y l (j:=1) (by rw[hr];simp)
  have s2:l.drop 1=r:=by rw[hr];rfl
  rw[s2]at s1;have s1:A3e (.t (.v (.string ⟨l.toArray⟩))) (some (.t (iv 1))) none=some (.t (sv (bs r))):=s1;refine A0c A0x ?_;simp -implicitDefEqProofs [A0q,s1,e]
theorem C3r {l:List UInt8} {j:Nat} {c:UInt8} (hc:l[j]?=some c) (h:∀(i:Nat) x,i<j->l[i]?=some x->okAt false i x=true) (hj:j<=32):A1e false (bs (l.take (j+1)))=(decide (j<32)&&okAt false j c):=by
 have hlt:j<l.length:=(List.getElem?_eq_some_iff.1 hc).1
 have hsz:(bs (l.take (j+1))).size=j+1:=by rw[A0q,List.length_take];omega
 rw[Bool.eq_iff_iff,B0r,hsz,A5n,Bool.and_eq_true,decide_eq_true_iff];constructor
 ·rintro⟨_,h2,h3⟩;refine⟨by omega,h3 j c ?_⟩;rw[List.getElem?_take,if_pos (by omega)];exact hc
 ·rintro⟨h1,h2⟩;refine⟨by omega,by omega,fun i x hx=>?_⟩;rw[List.getElem?_take]at hx;split at hx
  ·by_cases e:i=j
   ·subst e;rw[hc]at hx;injection hx with hx;subst hx;exact h2
   ·exact h i x (by omega) hx
  ·cases hx
def namT (l:List UInt8):T:=.tu [sv (bs (rNam l).1),sv (bs (rNam l).2.1),iv (rNam l).2.2]
def SRn (l:List UInt8) (j:Nat):A0b:=⟨[(5,.t (iv (j:Int))),(0,.t (sv (bs l)))],[],0,49⟩
structure OkRn (l:List UInt8) (j:Nat):Prop where
 le:j<=l.length
 big:j<=32
 eq:j+A5h j (l.drop j)=A5h 0 l
 all:∀(i:Nat) x,i<j->l[i]?=some x->okAt false i x=true
theorem B5z {α:Type} {l:List α} {j:Nat} {c:α} (h:l[j]?=some c):l.drop j=c::l.drop (j+1):=by
 obtain⟨hlt,e⟩:=List.getElem?_eq_some_iff.1 h;rw[List.drop_eq_getElem_cons hlt,e]
theorem C9q (l:List UInt8) (hl:l.length<=2100000000000):A0w Tryz.prog (G q) 237 [sv (bs l)] (· = namT l):=by
 have C:Ctx Tryz.prog (G q) (orc [(60,gNm)]):=(A0y.cons (hRNm (q:=q)) .nil).ctx mixed;refine D9i.call rfl ?_;unfold C3m
 obtain⟨R,hR⟩:∃R,R=namT l:=⟨_,rfl⟩
 rw[<-hR]
 obtain⟨n,hn⟩:∃n,n=A5h 0 l:=⟨_,rfl⟩
 have hnle:n<=l.length:=by rw[hn];exact B8l l 0
 refine A0a C ?_;simp -implicitDefEqProofs;refine A0a C ?_;simp -implicitDefEqProofs;refine A0o (α:=Unit) (fun _=>SRn l n) (fun _=>True) (fun _=>rfl) ?_ ?_
 ·refine A0f ?_;refine A0k (SRn l) (fun j=>l.length-j) (OkRn l) 0 (fun _=>rfl) ⟨Nat.zero_le _,Nat.zero_le _,by simp,fun i x h=>by omega⟩ ?_ rfl ?_
  ·exact A0d (by simp -implicitDefEqProofs [SRn])
  rintro j ⟨hj,hb,heq,hall⟩;refine A0c C ?_
  have hb':(j:Int)<=32:=by omega
  by_cases hlt:j<l.length
  ·obtain⟨c,hc⟩:∃c,l[j]?=some c:=⟨_,List.getElem?_eq_getElem hlt⟩
   have e1:IntKind.i64.wrap ((j:Int)+1)=((j+1:Nat):Int):=A0h (by omega) (by omega);have s1:=F4j l (j:=j+1) (by omega);have g1:=B2j (s:=bs (l.take (j+1))) (by rw[A0q,List.length_take];unfold lim;omega);rw[C3r hc hall hb]at g1;rw[B5z hc,A5h]at heq
   obtain⟨j1,hj1⟩:∃j1,j1=j+1:=⟨_,rfl⟩
   rw[<-hj1]at e1 s1 g1 heq
   cases ht:decide (j<32)&&okAt false j c with
   | true=>
    rw[ht]at g1;rw[ht,if_pos rfl]at heq;rw[Bool.and_eq_true,decide_eq_true_iff]at ht;simp -implicitDefEqProofs [SRn,A0q,hlt,hb,hb',e1,s1,g1];refine Abs.Next.mk j1 ⟨⟨by omega,by omega,by omega,fun i x hi hx=>?_⟩,by omega⟩ (A0d (by simp -implicitDefEqProofs [SRn]));by_cases e:i=j
    ·subst e;rw[hc]at hx;injection hx with hx;subst hx;exact ht.2
    ·exact hall i x (by omega) hx
   | false=>
    rw[ht]at g1;rw[ht,if_neg (by simp)]at heq
    have e:j=n:=by omega
    subst e;simp -implicitDefEqProofs [SRn,A0q,hlt,hb,hb',e1,s1,g1];exact Abs.Next.mk () trivial (A0d (by simp -implicitDefEqProofs))
  ·rw[List.drop_of_length_le (by omega),A5h]at heq
   have e:j=n:=by omega
   subst e;simp -implicitDefEqProofs [SRn,A0q,hlt];exact Abs.Next.mk () trivial (A0d (by simp -implicitDefEqProofs))
 rintro _ -;have eR:R = .tu [sv (bs (rNam l).1),sv (bs (rNam l).2.1),iv (rNam l).2.2]:=hR;unfold rNam at eR;rw[<-hn]at eR;by_cases h0:n=0
 ·have b0:((n:Int)==0)=true:=by rw[h0];rfl
  cases hnil:l.isEmpty with
  | true=>
   have hl0:l=[]:=by simpa using hnil
   rw[if_pos (.inl ⟨h0,hl0⟩)]at eR;refine A0a C ?_;simp -implicitDefEqProofs [SRn,A0q,b0,A3f,A3i,hnil,eR]
  | false=>
   have hl0:l≠[]:=by intro e;rw[e]at hnil;cases hnil
   rw[if_neg (by simp[h0,hl0]),if_pos h0]at eR
   have b1:¬0<n:=by omega
   refine A0a C ?_;simp -implicitDefEqProofs [SRn,A0q,b0,A3f,A3i,hnil,b1];refine A0a C ?_;simp -implicitDefEqProofs [b0,eR]
 ·have b0:((n:Int)==0)=false:=by rw[beq_eq_false_iff_ne];omega
  have b1:0<n:=by omega
  by_cases he:n=l.length
  ·have b2:((n:Int)==(l.length:Int))=true:=by rw[beq_iff_eq];omega
   rw[if_pos (.inr ⟨b1,he⟩)]at eR;refine A0a C ?_;simp -implicitDefEqProofs [SRn,A0q,b0,b1,b2,eR]
  ·have b2:((n:Int)==(l.length:Int))=false:=by rw[beq_eq_false_iff_ne];omega
   rw[if_neg (by omega),if_neg h0]at eR;have s1:=F4j l hnle;have s2:=B5y l hnle;refine A0a C ?_;simp -implicitDefEqProofs [SRn,A0q,b0,b1,b2];refine A0a C ?_;simp -implicitDefEqProofs [b0];refine A0c C ?_;simp -implicitDefEqProofs [s1,s2,eR]
theorem F4k {α:Type} (p:α->Bool):∀(d:List α) (k:Nat),k<(d.takeWhile p).length->∃c,d[k]?=some c/\p c=true
 | [],k,h=>by simp at h
 | a::d,k,h=>by
  rw[List.takeWhile_cons]at h;split at h
  ·rename_i ha
   cases k with
   | zero=>exact⟨a,rfl,ha⟩
   | succ k=>simpa using F4k p d k (by simpa using h)
  ·simp at h
theorem E4j {α:Type} (p:α->Bool):∀(d:List α) (c:α),d[(d.takeWhile p).length]?=some c->p c=false
 | [],c,h=>by simp at h
 | a::d,c,h=>by
  rw[List.takeWhile_cons]at h;split at h
  ·exact E4j p d c (by simpa using h)
  ·rename_i ha;simp at h;subst h;simpa using ha
theorem tw_le {α:Type} (p:α->Bool) (d:List α):(d.takeWhile p).length<=d.length:=by
 have:=congrArg List.length (List.takeWhile_append_dropWhile (p:=p) (l:=d));rw[List.length_append]at this;omega
def nmbT (l:List UInt8):T:=.tu [iv (rNum l).1,sv (bs (rNum l).2.1),iv (rNum l).2.2]
def SRm (l:List UInt8) (j:Nat):A0b:=⟨[(5,.t (iv (j:Int))),(0,.t (sv (bs l)))],[],0,66⟩
theorem F4l (l:List UInt8):(sgn l).1.length+(sgn l).2.length=l.length:=by
 have:=congrArg List.length (B9y l);rwa[List.length_append]at this
theorem F4m (l:List UInt8) (k:Nat):l[(sgn l).1.length+k]?=(sgn l).2[k]?:=by
 have:=congrArg (fun x:List UInt8=>x[(sgn l).1.length+k]?) (B9y l);simp only[List.getElem?_append_right (Nat.le_add_right _ _),Nat.add_sub_cancel_left]at this;exact this.symm
theorem C1y (l:List UInt8) (hl:l.length<=2100000000000):A0w Tryz.prog (G q) 238 [sv (bs l)] (· = nmbT l):=by
 have C:Ctx Tryz.prog (G q) (orc [(180,gNu)]):=(A0y.cons (hRNu (q:=q)) .nil).ctx mixed;refine C9h.call rfl ?_;unfold B7d
 obtain⟨R,hR⟩:∃R,R=nmbT l:=⟨_,rfl⟩
 rw[<-hR]
 obtain⟨n,hn⟩:∃n,n=B2c l:=⟨_,rfl⟩
 obtain⟨d,hd⟩:∃d,d=(sgn l).2:=⟨_,rfl⟩
 obtain⟨sg,hsg⟩:∃sg,sg=(sgn l).1.length:=⟨_,rfl⟩
 have hlen:sg+d.length=l.length:=by rw[hsg,hd];exact F4l l
 have hn2:n=sg+(d.takeWhile A1d).length:=by rw[hn,B2c,hsg,hd]
 have htl:=tw_le A1d d
 have hget:∀k,l[sg+k]?=d[k]?:=fun k=>by rw[hsg,hd];exact F4m l k
 refine A0a C ?_;simp -implicitDefEqProofs;refine A0a C ?_;simp -implicitDefEqProofs;refine A0o (α:=Unit) (fun _=>SRm l sg) (fun _=>True) (fun _=>rfl) ?_ ?_
 ·refine A0c C ?_
  cases hx:l[0]? with
  | none=>
   have h0:l=[]:=by
    cases l with
    | nil=>rfl
    | cons _ _=>cases hx
   subst h0;have:sg=0:=hsg;subst this;simp -implicitDefEqProofs [A0q];exact Abs.Next.mk () trivial (A0d (by simp -implicitDefEqProofs [SRm]))
  | some x=>
   have hpos:0<l.length:=(List.getElem?_eq_some_iff.1 hx).1
   obtain⟨r,hr⟩:∃r,l=x::r:=by
    cases l with
    | nil=>simp at hx
    | cons y r=>simp at hx;subst hx;exact⟨r,rfl⟩
   have i1:=C0p l hx;have b1:=D2z x 45 (by omega);by_cases hc:x=45
   ·have:sg=1:=by rw[hsg,hr,hc];rfl
    subst this;rw[decide_eq_true (show x=UInt8.ofNat 45 from hc)]at b1;have b1:((x.toNat:Int)==45)=true:=b1;simp -implicitDefEqProofs [A0q,hpos,i1,b1];exact Abs.Next.mk () trivial (A0d (by simp -implicitDefEqProofs [SRm]))
   ·have:sg=0:=by
     rw[hsg,hr];unfold sgn;split
     ·rename_i e;injection e with e _;exact absurd e hc
     ·rfl
    subst this;rw[decide_eq_false (show ¬x=UInt8.ofNat 45 from hc)]at b1;have b1:((x.toNat:Int)==45)=false:=b1;simp -implicitDefEqProofs [A0q,hpos,i1,b1];exact Abs.Next.mk () trivial (A0d (by simp -implicitDefEqProofs [SRm]))
 rintro _ -;refine A0o (α:=Unit) (fun _=>SRm l n) (fun _=>True) (fun _=>rfl) ?_ ?_
 ·refine A0f ?_;refine A0k (SRm l) (fun j=>l.length-j) (fun j=>sg<=j/\j<=n) sg (fun _=>rfl) ⟨Nat.le_refl _,by omega⟩ (Sub.refl _) rfl ?_;rintro j ⟨hj,hjn⟩;refine A0c C ?_
  obtain⟨k,rfl⟩:∃k,j=sg+k:=⟨j-sg,by omega⟩
  obtain⟨j,hjj⟩:∃j,j=sg+k:=⟨_,rfl⟩
  have hgk:=hget k;rw[<-hjj]at hgk hjn hj ⊢;by_cases hlt:k<(d.takeWhile A1d).length
  ·obtain⟨c,hc,hdg⟩:=F4k A1d d k hlt
   have hlj:j<l.length:=by omega
   have i1:=D9l l (hgk.trans hc);unfold A1d at hdg;rw[Bool.and_eq_true,decide_eq_true_iff,decide_eq_true_iff]at hdg;have e1:IntKind.i64.wrap ((j:Int)+1)=((j+1:Nat):Int):=A0h (by omega) (by omega)
   have b1:(48:Int)<=(c.toNat:Int):=by omega
   have b2:(c.toNat:Int)<=57:=by omega
   simp -implicitDefEqProofs [SRm,A0q,hlj,i1,b1,b2,e1];exact Abs.Next.mk (j+1) ⟨⟨by omega,by omega⟩,by omega⟩ (A0d (by simp -implicitDefEqProofs [SRm]))
  ·have ejn:j=n:=by omega
   have hkk:k=(d.takeWhile A1d).length:=by omega
   subst ejn
   cases hc:l[j]? with
   | none=>
    have hlj:¬j<l.length:=by
     have:=List.getElem?_eq_none_iff.1 hc;omega
    simp -implicitDefEqProofs [SRm,A0q,hlj];exact Abs.Next.mk () trivial (A0d (by simp -implicitDefEqProofs))
   | some c=>
    have hlj:j<l.length:=(List.getElem?_eq_some_iff.1 hc).1;have i1:=D9l l hc;have hdg:=E4j A1d d c (by rw[<-hkk,<-hgk,hc]);unfold A1d at hdg;by_cases b1:48<=c.toNat
    ·have b2:¬c.toNat<=57:=fun e=>by simp[b1,e]at hdg
     have b1':(48:Int)<=(c.toNat:Int):=by omega
     have b2':¬(c.toNat:Int)<=57:=by omega
     simp -implicitDefEqProofs [SRm,A0q,hlj,i1,b1',b2'];exact Abs.Next.mk () trivial (A0d (by simp -implicitDefEqProofs))
    ·have b1':¬(48:Int)<=(c.toNat:Int):=by omega
     simp -implicitDefEqProofs [SRm,A0q,hlj,i1,b1'];exact Abs.Next.mk () trivial (A0d (by simp -implicitDefEqProofs))
 rintro _ -;have eR:R = .tu [iv (rNum l).1,sv (bs (rNum l).2.1),iv (rNum l).2.2]:=hR;unfold rNum at eR;rw[<-hn]at eR
 have hnle:n<=l.length:=by omega
 have s1:=F4j l hnle;have s2:=B5y l hnle;have g1:=E4e (s:=bs (l.take n)) (by rw[A0q,List.length_take];omega);rw[A5n]at g1;have g1:gNu [sv (bs (l.take n))]=some (.tu [iv (numS (l.take n)).1,iv (numS (l.take n)).2]):=g1
 have e45:(l==[45])=decide (l=[45]):=by by_cases h:l=[45]<;>simp[h]
 by_cases he:n=l.length
 ·have b2:((n:Int)==(l.length:Int))=true:=by rw[beq_iff_eq];omega
  by_cases hs:l=[]\/l=[45]
  ·rw[if_pos ⟨he,hs⟩]at eR;refine A0a C ?_
   cases hnil:l.isEmpty with
   | true=>simp -implicitDefEqProofs [SRm,A0q,b2,A3f,A3i,hnil,eR]
   | false=>
    have h45:l=[45]:=hs.resolve_left (by intro e;rw[e]at hnil;cases hnil);rw[decide_eq_true h45]at e45;simp -implicitDefEqProofs [SRm,A0q,b2,A3f,A3i,hnil,e45,eR]
  ·have hnil:l.isEmpty=false:=by
    cases h:l.isEmpty with
    | false=>rfl
    | true=>exact absurd (.inl (by simpa using h)) hs
   rw[decide_eq_false (fun e=>hs (.inr e))]at e45;rw[if_neg (fun e=>hs e.2)]at eR;refine A0a C ?_;simp -implicitDefEqProofs [SRm,A0q,b2,A3f,A3i,hnil,e45];refine A0a C ?_;simp -implicitDefEqProofs [s1,g1];by_cases h0:(numS (l.take n)).2=0
   ·have b0:((numS (l.take n)).2 != 0)=false:=by simpa using h0
    rw[if_neg (by simp[h0]),if_pos he]at eR;refine A0a C ?_;simp -implicitDefEqProofs [b0];refine A0a C ?_;simp -implicitDefEqProofs [A0q,b2,eR]
   ·have b0:((numS (l.take n)).2 != 0)=true:=by simpa using h0
    rw[if_pos h0]at eR;refine A0a C ?_;simp -implicitDefEqProofs [b0,eR]
 ·have b2:((n:Int)==(l.length:Int))=false:=by rw[beq_eq_false_iff_ne];omega
  rw[if_neg (fun e=>he e.1)]at eR;refine A0a C ?_;simp -implicitDefEqProofs [SRm,A0q,b2];refine A0a C ?_;simp -implicitDefEqProofs [s1,g1];by_cases h0:(numS (l.take n)).2=0
  ·have b0:((numS (l.take n)).2 != 0)=false:=by simpa using h0
   rw[if_neg (by simp[h0]),if_neg he]at eR;refine A0a C ?_;simp -implicitDefEqProofs [b0];refine A0a C ?_;simp -implicitDefEqProofs [A0q,b2];refine A0c C ?_;simp -implicitDefEqProofs [s2,eR]
  ·have b0:((numS (l.take n)).2 != 0)=true:=by simpa using h0
   rw[if_pos h0]at eR;refine A0a C ?_;simp -implicitDefEqProofs [b0,eR]
end Go.Proofs.YtmplckgbeaifkaaGreatDoor
