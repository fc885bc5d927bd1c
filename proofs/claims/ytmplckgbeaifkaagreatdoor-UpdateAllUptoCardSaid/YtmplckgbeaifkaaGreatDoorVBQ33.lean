/-
 Auxiliary facts. No statement of the program stands here.
-/
import Derived.Test.YtmplckgbeaifkaaGreatDoorVBQ25
import Derived.Test.YtmplckgbeaifkaaGreatDoorVBQ39
namespace Go.Proofs.YtmplckgbeaifkaaGreatDoor
set_option linter.unusedSimpArgs false
set_option linter.unusedVariables false
open Go Go.Abs
variable {q : Gl}
theorem E0c (b:Bool):A0w Tryz.prog (G q) 239 [bv b] (· = iv (if b then -1 else 1)):=by
 refine D9j.runs A0x rfl ?_;cases b<;>simp -implicitDefEqProofs [C3n]
noncomputable def F8f:List T->Option T:=g1 D1x fun b=>some (iv (if b then -1 else 1))
theorem hLess:GOK Tryz.prog (G q) 239 F8f:=A4c fun a x r ha hr=>by
 obtain rfl:a=bv x:=ha;injection hr with hr;subst hr;exact E0c x
theorem F0w (b:Bool):F8f [bv b]=some (iv (if b then -1 else 1)):=A5b (τ:=D1x) rfl
theorem C6j {x y:Int} (h:x≠0):A3k x y=x:=if_neg h
theorem D3n {a b:Int} (h:a≠b):cmpI a b=if decide (a<b)then -1 else 1:=by
 unfold cmpI;by_cases h1:a<b
 ·simp[h1]
 ·have h2:b<a:=by omega
  simp[h1,h2]
theorem F5e {a b:ByteArray} (h:a≠b):cmpS a b=if A8i a b then -1 else 1:=by
 have h0:cmpS a b≠0:=fun e=>h (A6w.1 e);unfold cmpS at h0 ⊢;rw[A5v];by_cases h1:lbs a<lbs b
 ·simp[h1]
 ·rw[if_neg h1]at h0;by_cases h2:lbs b<lbs a
  ·simp[h1,h2]
  ·rw[if_neg h2]at h0;exact absurd rfl h0
theorem E0d (a b:Pr):A0w Tryz.prog (G q) 213 [.ag (ePr.enc a),.ag (ePr.enc b)] (· = iv (ordP a b)):=by
 obtain⟨k,n,f,t⟩:=a;obtain⟨k',n',f',t'⟩:=b;have cd:=A5f ⟨k,n,f,t⟩;have cd':=A5f ⟨k',n',f',t'⟩;have eL:=F0w;refine C5u.runs ((A0y.cons (hLess (q:=q)) .nil).ctx mixed) rfl ?_
 obtain⟨R,hR⟩:∃R,R=ordP ⟨k,n,f,t⟩ ⟨k',n',f',t'⟩:=⟨_,rfl⟩
 rw[<-hR];simp only[ordP]at hR;by_cases h1:f=f'
 ·have b1:(f != f')=false:=by simpa using h1
  rw[A1u.2 h1,A3k,if_pos rfl]at hR;by_cases h2:t=t'
  ·have b2:(t != t')=false:=by simpa using h2
   rw[A1u.2 h2,A3k,if_pos rfl]at hR;by_cases h3:k=k'
   ·have b3:(k != k')=false:=by simpa using h3
    rw[A1u.2 h3,A3k,if_pos rfl]at hR;by_cases h4:n=n'
    ·rw[A6w.2 h4]at hR;subst h4;simp -implicitDefEqProofs [A4a,cd,cd',A0g,b1,b2,b3,A3g,hR]
    ·have b4:decide (n=n')=false:=by simpa using h4
     rw[F5e h4]at hR;simp -implicitDefEqProofs [A4a,cd,cd',A0g,b1,b2,b3,b4,A3g,hR,eL]
   ·have b3:(k != k')=true:=by simpa using h3
    rw[C6j (fun e=>h3 (A1u.1 e)),D3n h3]at hR;simp -implicitDefEqProofs [A4a,cd,cd',A0g,b1,b2,b3,hR,eL]
  ·have b2:(t != t')=true:=by simpa using h2
   rw[C6j (fun e=>h2 (A1u.1 e)),D3n h2]at hR;simp -implicitDefEqProofs [A4a,cd,cd',A0g,b1,b2,hR,eL]
 ·have b1:(f != f')=true:=by simpa using h1
  rw[C6j (fun e=>h1 (A1u.1 e)),D3n h1]at hR;simp -implicitDefEqProofs [A4a,cd,cd',A0g,b1,hR,eL]
noncomputable def F2x:List T->Option T:=g2 (tAg ePr) (tAg ePr) fun a b=>some (iv (ordP a b))
theorem F8g:GOK Tryz.prog (G q) 213 F2x:=A4e fun a b x y r ha hb hr=>by
 obtain rfl:a = .ag (ePr.enc x):=ha;obtain rfl:b = .ag (ePr.enc y):=hb;injection hr with hr;subst hr;exact E0d x y
theorem E5q (a b:Pr):F2x [.ag (ePr.enc a),.ag (ePr.enc b)]=some (iv (ordP a b)):=A4u (τ:=tAg ePr) (σ:=tAg ePr) rfl rfl
def SIn (p:Pr) (t:T) (a:Nat×Bool×List Pr):A0b:=⟨[(7,.t (iv (a.1:Int))),(6,.t (bv a.2.1)),(5,.row 1 0 a.2.2.length 4),(3,.ptr 0 0),(0,.t t)],[(0,pRow p)]++[(1,A1b ePr 59 a.2.2)],2,48⟩
theorem E5r {p:Pr} {l:List Pr} {k nx:Nat} {H:Heap} {env env':List (Nat×PV)} (h:Abs.look H k=some (A1b ePr 59 l)) (h0:Abs.look H 0=some (pRow p)) (hk:k≠0)
  (he:∀q∈env',Abs.look env q.1=some (ren (fun x=>if x=1 then k else x) q.2)/\under 2 q.2=true) :
  Sub Tryz.prog (G q) 0 ⟨env,H,nx,48⟩ ⟨env',[(0,pRow p)]++[(1,A1b ePr 59 l)],2,48⟩:=
 A9k h (by omega) (by omega) (fun q hq=>by
  simp only[List.mem_singleton]at hq;subst hq
  exact⟨h0,by show 0<2;omega,by show 0≠1;omega,Ne.symm hk,rfl⟩) he
theorem E5s (m:Nat):A3l 59 4 [.int .i64 0,.string ⟨#[]⟩,.int .i64 0,.int .i64 0] 0 [] m=some (.row m 0 0 4,.cells 59 []):=rfl
theorem E5t {H:Heap} {b nx:Nat} {l:List Pr} (x:Pr) (n m k:Nat) (hn:n=l.length) (hm:m=nx+1) (hk:k=nx+2) (h:Abs.look H b=some (A1b ePr 59 l)) (hb:b<nx) (hl:l.length<=10000000) :
  appM 59 4 40 ((nx,.cells 59 ((ePr.enc x).map .t))::H) m (.row b 0 n 4) (.row nx 0 1 4)=some (.row m 0 (n+1) 4,(m,A1b ePr 59 (l++[x]))::rem ((nx,.cells 59 ((ePr.enc x).map .t))::H) b,k):=by
 subst hm;subst hk;subst hn;have:=B4s (e:=ePr) (ty:=59) (b:=b) (l:=l) (nx:=nx+1) (by':=40) (m:=[x]) (H:=(nx,.cells 59 ((ePr.enc x).map .t))::H) (by rw[look_cons,if_neg (by omega)];exact h) (A9d (e:=ePr) x (by rw[look_cons,if_pos rfl])) (by simp;omega) (by simp;omega);rw[List.length_append]at this;exact this
theorem D0h {t:T} {l:List Pr} (p:Pr) (ht:IsS ePr t l) (hl:l.length<=1000000):A0w Tryz.prog (G q) 183 [t,.ag (ePr.enc p)] (· = slT ePr (insP p l)):=by
 have C:Ctx Tryz.prog (G q) _:=(A0y.cons (F8g (q:=q)) .nil).ctx mixed;have cd:=A5f p;have eC:=E5q;have hlen:=ht.len;refine C9k.call rfl ?_;unfold B7e
 obtain⟨R,hR⟩:∃R,R=insP p l:=⟨_,rfl⟩
 have hRl:R.length<=1000001:=by rw[hR];have:=B8p p l;omega
 rw[<-hR];refine A0a C ?_;simp -implicitDefEqProofs [cd];refine A0a C ?_;simp -implicitDefEqProofs [E5s];refine A0a C ?_;simp -implicitDefEqProofs;refine A0o (fun a:Nat×Bool×List Pr=>SIn p t a) (fun a=>a.2.2++(if a.2.1 then []else [p])=R) (fun _=>rfl) ?_ ?_
 ·refine A0a C ?_;simp -implicitDefEqProofs;refine A0f ?_;refine A0k (fun a:Nat×Bool×List Pr=>SIn p t a) (fun a=>l.length-a.1) (fun a=>a.1<=l.length/\a.2.2++(if a.2.1 then l.drop a.1 else insP p (l.drop a.1))=R) (0,false,[]) (fun _=>rfl) ⟨Nat.zero_le _,by simp[hR]⟩ ?_ rfl ?_
  ·exact E5r (k:=1) (l:=[]) rfl rfl (by omega) (by simp -implicitDefEqProofs [ren,under])
  rintro⟨i,dn,out⟩ ⟨hi,heq⟩;simp only at hi heq;by_cases hlt:i<l.length
  ·obtain⟨x,hx⟩:∃x,l[i]?=some x:=⟨_,List.getElem?_eq_getElem hlt⟩
   obtain⟨pp,i1,ld⟩:=E5p ht hx
   have hd:l.drop i=x::l.drop (i+1):=by
    rw[List.drop_eq_getElem_cons hlt,(List.getElem?_eq_some_iff.1 hx).2]
   have hol:out.length<=1000001:=by
    have:=congrArg List.length heq;simp only[List.length_append]at this;omega
   have e1:IntKind.i64.wrap ((i:Int)+1)=((i+1:Nat):Int):=A0h (by omega) (by omega);have ld0:∀R:Heap,A0g true 4 ((0,pRow p)::R) (.ptr 0 0)=some (.t (.ag (ePr.enc p))):=fun _=>rfl;rw[hd]at heq;have H0:Abs.look [(0,pRow p),(1,A1b ePr 59 out)] 1=some (A1b ePr 59 out):=rfl;have ap1:=E5t (nx:=2) x _ 3 4 rfl rfl rfl H0 (by omega) (by omega);refine A0c C ?_
   cases dn with
   | true=>
    simp only[if_true]at heq;simp -implicitDefEqProofs [SIn,hlen,hlt,ld0,i1,ld,eC,C2a,ap1,e1];exact Abs.Next.mk (i+1,true,out++[x]) ⟨⟨by show i+1<=_;omega,by simpa using heq⟩,by show l.length-(i+1)<l.length-i;omega⟩ (E5r (k:=3) rfl rfl (by omega) (by simp -implicitDefEqProofs [SIn,ren,under]))
   | false=>
    simp only[Bool.false_eq_true,if_false,insP]at heq;by_cases c0:ordP p x<0
    ·rw[if_pos c0]at heq
     have c1:ordP p x<=0:=by omega
     have ap2:=E5t (nx:=2) p _ 3 4 rfl rfl rfl H0 (by omega) (by omega);have ap3:=E5t (nx:=4) (H:=[(3,A1b ePr 59 (out++[p])),(2,.cells 59 ((ePr.enc p).map .t)),(0,pRow p)]) (b:=3) (l:=out++[p]) x (out.length+1) 5 6 (by simp) rfl rfl rfl (by omega) (by simp;omega);simp -implicitDefEqProofs [SIn,hlen,hlt,ld0,i1,ld,eC,C2a,ap2,ap3,e1,c0,c1];refine Abs.Next.mk (i+1,true,out++[p,x]) ⟨⟨by show i+1<=_;omega,by simpa using heq⟩,by show l.length-(i+1)<l.length-i;omega⟩ ?_;refine E5r (k:=5) (l:=out++[p,x]) rfl rfl (by omega) ?_;simp -implicitDefEqProofs [ren,under]
    ·rw[if_neg c0]at heq;by_cases c1:ordP p x=0
     ·rw[if_pos c1]at heq;simp -implicitDefEqProofs [SIn,hlen,hlt,ld0,i1,ld,eC,C2a,ap1,e1,c1];exact Abs.Next.mk (i+1,true,out++[x]) ⟨⟨by show i+1<=_;omega,by simpa using heq⟩,by show l.length-(i+1)<l.length-i;omega⟩ (E5r (k:=3) rfl rfl (by omega) (by simp -implicitDefEqProofs [SIn,ren,under]))
     ·rw[if_neg c1]at heq
      have c2:¬ordP p x<=0:=by omega
      simp -implicitDefEqProofs [SIn,hlen,hlt,ld0,i1,ld,eC,C2a,ap1,e1,c2];exact Abs.Next.mk (i+1,false,out++[x]) ⟨⟨by show i+1<=_;omega,by simpa using heq⟩,by show l.length-(i+1)<l.length-i;omega⟩ (E5r (k:=3) rfl rfl (by omega) (by simp -implicitDefEqProofs [SIn,ren,under]))
  ·rw[List.drop_of_length_le (by omega)]at heq;refine A0c C ?_;simp -implicitDefEqProofs [SIn,hlen,hlt];exact Abs.Next.mk (i,dn,out) (by cases dn<;>simpa[insP]using heq) (A0d (by simp -implicitDefEqProofs [SIn]))
 ·rintro⟨i,dn,out⟩ heq;simp only at heq
  have hol:out.length<=1000001:=by
   have:=congrArg List.length heq;simp only[List.length_append]at this;omega
  have H0:Abs.look [(0,pRow p),(1,A1b ePr 59 out)] 1=some (A1b ePr 59 out):=rfl;have ld0:∀R:Heap,A0g true 4 ((0,pRow p)::R) (.ptr 0 0)=some (.t (.ag (ePr.enc p))):=fun _=>rfl;refine A0c C ?_
  cases dn with
  | true=>
   simp only[if_true,List.append_nil]at heq;subst heq;have tt:=A7r H0;have tt:toT [(0,pRow p),(1,A1b ePr 59 out)] (.row 1 0 out.length 4)=some (slT ePr out,[1]):=tt;simp -implicitDefEqProofs [SIn,tt,-toT]
  | false=>
   simp only[Bool.false_eq_true,if_false]at heq;subst heq;have ap1:=E5t (nx:=2) p _ 3 4 rfl rfl rfl H0 (by omega) (by omega);have tt:=A7r (e:=ePr) (ty:=59) (b:=3) (l:=out++[p]) (H:=[(3,A1b ePr 59 (out++[p])),(2,.cells 59 ((ePr.enc p).map .t)),(0,pRow p)]) rfl;rw[List.length_append]at tt;have tt:toT [(3,A1b ePr 59 (out++[p])),(2,.cells 59 ((ePr.enc p).map .t)),(0,pRow p)] (.row 3 0 (out.length+1) 4)=some (slT ePr (out++[p]),[3]):=tt;simp -implicitDefEqProofs [SIn,ld0,C2a,ap1,tt,-toT]
noncomputable def gIns:List T->Option T:=g2 (tSl ePr) (tAg ePr) fun l p=>if l.length<=1000000 then some (slT ePr (insP p l))else none
theorem hIns:GOK Tryz.prog (G q) 183 gIns:=A4e fun a b x y r ha hb hr=>by
 obtain rfl:b = .ag (ePr.enc y):=hb;split at hr
 ·rename_i h;injection hr with hr;subst hr;exact D0h y ha h
 ·cases hr
theorem C6k {t:T} {l:List Pr} (p:Pr) (ht:IsS ePr t l) (hl:l.length<=1000000):gIns [t,.ag (ePr.enc p)]=some (slT ePr (insP p l)):=by
 show g2 _ _ _ _=_;rw[A4u (τ:=tSl ePr) (σ:=tAg ePr) ht rfl,if_pos hl]
def SHs (p:Pr) (t:T) (j:Nat):A0b:=⟨[(5,.t (iv (j:Int))),(3,.ptr 0 0),(0,.t t)],[(0,pRow p)],1,18⟩
theorem E0e {t:T} {l:List Pr} (p:Pr) (ht:IsS ePr t l) (hl:l.length<=100000000):A0w Tryz.prog (G q) 154 [t,.ag (ePr.enc p)] (· = bv (decide (p∈l))):=by
 have cd:=A5f p;have hlen:=ht.len;refine E3n.call rfl ?_;unfold C9j
 obtain⟨R,hR⟩:∃R,R=decide (p∈l):=⟨_,rfl⟩
 rw[<-hR];refine A0a A0x ?_;simp -implicitDefEqProofs [cd];refine A0o (α:=Unit) (fun _=>⟨[],[],1,18⟩) (fun _=>R=false) (fun _=>rfl) ?_ ?_
 ·refine A0a A0x ?_;simp -implicitDefEqProofs;refine A0f ?_;refine A0k (SHs p t) (fun j=>l.length-j) (fun j=>j<=l.length/\decide (p∈l.drop j)=R) 0 (fun _=>rfl) ⟨Nat.zero_le _,hR.symm⟩ ?_ rfl ?_
  ·refine A0d ?_;simp -implicitDefEqProofs [SHs]
  rintro j ⟨hj,heq⟩;have ld0:∀R:Heap,A0g true 4 ((0,pRow p)::R) (.ptr 0 0)=some (.t (.ag (ePr.enc p))):=fun _=>rfl;refine A0c A0x ?_;by_cases hlt:j<l.length
  ·obtain⟨x,hx⟩:∃x,l[j]?=some x:=⟨_,List.getElem?_eq_getElem hlt⟩
   obtain⟨pp,i1,ld⟩:=E5p ht hx;have e1:IntKind.i64.wrap ((j:Int)+1)=((j+1:Nat):Int):=A0h (by omega) (by omega);have eq:=C2b x p;rw[List.drop_eq_getElem_cons hlt,(List.getElem?_eq_some_iff.1 hx).2]at heq;by_cases h0:x=p
   ·have:R=true:=by rw[<-heq];simp[h0]
    have hb:decide (x=p)=true:=by simpa using h0
    simp -implicitDefEqProofs [SHs,hlen,hlt,ld0,i1,ld,eq,hb,this]
   ·have hb:decide (x=p)=false:=by simpa using h0
    have:decide (p∈l.drop (j+1))=R:=by
     rw[<-heq];simp[Ne.symm h0]
    simp -implicitDefEqProofs [SHs,hlen,hlt,ld0,i1,ld,eq,hb,e1];exact Abs.Next.mk (j+1) ⟨⟨by omega,this⟩,by omega⟩ (A0d (by simp -implicitDefEqProofs [SHs]))
  ·rw[List.drop_of_length_le (by omega)]at heq;simp -implicitDefEqProofs [SHs,hlen,hlt];exact Abs.Next.mk () (by simpa using heq.symm) (A0s rfl rfl (by simp -implicitDefEqProofs) (by simp -implicitDefEqProofs))
 ·rintro _ h0;refine A0c A0x ?_;simp -implicitDefEqProofs [h0]
noncomputable def F2y:List T->Option T:=g2 (tSl ePr) (tAg ePr) fun l p=>if l.length<=100000000 then some (bv (decide (p∈l)))else none
theorem F8h:GOK Tryz.prog (G q) 154 F2y:=A4e fun a b x y r ha hb hr=>by
 obtain rfl:b = .ag (ePr.enc y):=hb;split at hr
 ·rename_i h;injection hr with hr;subst hr;exact E0e y ha h
 ·cases hr
theorem E5u {t:T} {l:List Pr} (p:Pr) (ht:IsS ePr t l) (hl:l.length<=100000000):F2y [t,.ag (ePr.enc p)]=some (bv (decide (p∈l))):=by
 show g2 _ _ _ _=_;rw[A4u (τ:=tSl ePr) (σ:=tAg ePr) ht rfl,if_pos hl]
def addT (a:T) (l ps:List Pr):T:=if ps=[]then a else slT ePr (A6b l ps)
theorem C6l (l ps qs:List Pr):A6b l (ps++qs)=A6b (A6b l ps) qs:=List.foldl_append
theorem F0x (a:T) (l:List Pr):addT a l []=a:=if_pos rfl
theorem D6t (a:T) (l:List Pr) (p:Pr):addT a l [p]=slT ePr (insP p l):=if_neg (by simp)
theorem C0w (a:T) (l ps qs:List Pr):addT (addT a l ps) (A6b l ps) qs=addT a l (ps++qs):=by
 unfold addT
 by_cases h:qs=[]
 ·subst h;simp
 ·rw[if_neg h,if_neg (by simp[h]),C6l]
theorem C6m {a:T} {l:List Pr} (h:IsS ePr a l) (ps:List Pr):IsS ePr (addT a l ps) (A6b l ps):=by
 unfold addT
 by_cases hp:ps=[]
 ·subst hp;simpa[A6b]using h
 ·rw[if_neg hp];exact .inr rfl
theorem bd4 {Φ:A0v} {H:Heap} {nx:Nat} (a c d:Int) (b:ByteArray):A0e Φ H nx (.build [(0,1),(1,1),(2,1),(3,1)] [.int .i64 0,.string ⟨#[]⟩,.int .i64 0,.int .i64 0] [0,1,2,3]) [.t (iv a),.t (sv b),.t (iv c),.t (iv d)]=some (.t (.ag (ePr.enc ⟨a,b,c,d⟩)),H,nx):=rfl
noncomputable def gAdd (n:Nat):List T->Option T
 | [a,b]=>((tSl ePr).dec a).bind fun l=>(tD.dec b).bind fun d=>if nodD d<n/\l.length+2*nodD d<=1000000 then some (addT a l (colP d))else none
 | _=>none
theorem E5v {n:Nat} {t:T} {l:List Pr} {c:List T} {d:Dv} (ht:IsS ePr t l) (h:Abs.IsD d c) (hn:nodD d<n) (hl:l.length+2*nodD d<=1000000):gAdd n [t,.ag c]=some (addT t l (colP d)):=by
 have e1:(tSl ePr).dec t=some l:=by
  have hd:∃x,(tSl ePr).dec t=some x:=by
   unfold Ty.dec;rw[dif_pos ⟨l,ht⟩];exact⟨_,rfl⟩
  obtain⟨x,hx⟩:=hd;rw[hx,(tSl ePr).uniq t x l (Ty.is_dec hx) ht]
 have e2:tD.dec (.ag c)=some d:=by
  have hd:∃x,tD.dec (.ag c)=some x:=by
   unfold Ty.dec;rw[dif_pos ⟨d,c,rfl,h⟩];exact⟨_,rfl⟩
  obtain⟨x,hx⟩:=hd;rw[hx,tD.uniq (.ag c) x d (Ty.is_dec hx) ⟨c,rfl,h⟩]
 simp only[gAdd,e1,e2,Option.bind_some];rw[if_pos ⟨hn,hl⟩]
def SAd (X:Row) (a:Nat×T):A0b:=⟨[(5,.t (iv (a.1:Int))),(3,.ptr 0 0),(0,.t a.2)],[(0,X)],1,63⟩
theorem E5w {n:Nat} (hrec:GOK Tryz.prog (G q) 153 (gAdd n)) {t:T} {l:List Pr} {c:List T} {d:Dv} (ht:IsS ePr t l) (h:Abs.IsD d c) (hn:nodD d<=n) (hl:l.length+2*nodD d<=1000000) :
  A0w Tryz.prog (G q) 153 [t,.ag c] (· = addT t l (colP d)):=by
 cases d with
 | mk k nm f tt ks=>
 obtain⟨tk,rfl,hk⟩:=h.parts;have C:Ctx Tryz.prog (G q) _:=(A0y.cons hrec (.cons (hIns (q:=q)) .nil)).ctx mixed;have cd:=A3o k nm f tt tk;have lk:=hk.len;have nk:=A6t ks;refine E3m.call rfl ?_;unfold C9i
 obtain⟨R,hR⟩:∃R,R=addT t l (colP (.mk k nm f tt ks)):=⟨_,rfl⟩
 rw[<-hR];rw[nodD]at hn hl
 obtain⟨P0,hP0⟩:∃P0:List Pr,P0=(if k=0 then [⟨0,nm,f,tt⟩]else if k=1 then [⟨1,nm,f,tt⟩]else if k=2 then [⟨2,nm,f,tt⟩,⟨3,⟨#[]⟩,f,tt⟩]else []):=⟨_,rfl⟩
 have hP0l:P0.length<=2:=by
  rw[hP0];split
  ·simp
  ·split
   ·simp
   ·split<;>simp
 rw[colP,<-hP0]at hR
 obtain⟨X,hX⟩:∃X,X=dRow k nm f tt tk:=⟨_,rfl⟩
 have l0:∀R:Heap,A0g false 1 ((0,X)::R) (.ptr 0 0)=some (.t (iv k)):=fun _=>by rw[hX];rfl
 have l1:∀R:Heap,A0g false 1 ((0,X)::R) (.ptr 0 1)=some (.t (sv nm)):=fun _=>by rw[hX];rfl
 have l2:∀R:Heap,A0g false 1 ((0,X)::R) (.ptr 0 2)=some (.t (iv f)):=fun _=>by rw[hX];rfl
 have l3:∀R:Heap,A0g false 1 ((0,X)::R) (.ptr 0 3)=some (.t (iv tt)):=fun _=>by rw[hX];rfl
 have l4:∀R:Heap,A0g false 1 ((0,X)::R) (.ptr 0 4)=some (.t tk):=fun _=>by rw[hX];rfl
 refine A0a C ?_;simp -implicitDefEqProofs [cd];rw[show Row.cells 26 [.t (iv k),.t (sv nm),.t (iv f),.t (iv tt),.t tk]=X from hX.symm];refine A0o (α:=Unit) (fun _=>⟨[(3,.ptr 0 0),(0,.t (addT t l P0))],[(0,X)],1,63⟩) (fun _=>True) (fun _=>rfl) ?_ ?_
 ·refine A0a C ?_;simp -implicitDefEqProofs [l0];refine A0f ?_;refine A0c C ?_;by_cases k0:k=0
  ·subst k0;have eI:=C6k (⟨0,nm,f,tt⟩:Pr) ht (by omega);rw[hP0,if_pos rfl,D6t];simp -implicitDefEqProofs [l1,l2,l3,bd4,eI,-evalK_build];exact Abs.Next.mk () trivial (A0d (by simp -implicitDefEqProofs))
  ·rw[if_neg k0]at hP0;by_cases k1:k=1
   ·subst k1;have eI:=C6k (⟨1,nm,f,tt⟩:Pr) ht (by omega);rw[hP0,if_pos rfl,D6t];simp -implicitDefEqProofs [l1,l2,l3,bd4,eI,-evalK_build];exact Abs.Next.mk () trivial (A0d (by simp -implicitDefEqProofs))
   ·rw[if_neg k1]at hP0;by_cases k2:k=2
    ·subst k2;have eI:=C6k (⟨2,nm,f,tt⟩:Pr) ht (by omega);have hz:=B8p ⟨2,nm,f,tt⟩ l;have eJ:=C6k (t:=slT ePr (insP ⟨2,nm,f,tt⟩ l)) (⟨3,⟨#[]⟩,f,tt⟩:Pr) (.inr rfl) (by omega)
     have e2:addT t l P0=slT ePr (insP ⟨3,⟨#[]⟩,f,tt⟩ (insP ⟨2,nm,f,tt⟩ l)):=by rw[hP0,if_pos rfl];rfl
     rw[e2];simp -implicitDefEqProofs [l1,l2,l3,bd4,bd3,eI,eJ,-evalK_build];exact Abs.Next.mk () trivial (A0d (by simp -implicitDefEqProofs))
    ·rw[if_neg k2]at hP0;rw[hP0,F0x];simp -implicitDefEqProofs [k0,k1,k2];exact Abs.Next.mk () trivial (A0d (by simp -implicitDefEqProofs))
 rintro _ -;have lP:=A8q P0 l;refine A0o (α:=Unit) (fun _=>⟨[(0,.t R)],[(0,X)],1,63⟩) (fun _=>True) (fun _=>rfl) ?_ ?_
 ·refine A0a C ?_;simp -implicitDefEqProofs;refine A0f ?_;refine A0k (SAd X) (fun a=>ks.length-a.1) (fun a=>a.1<=ks.length/\a.2=addT t l (P0++colK (ks.take a.1))) (0,addT t l P0) (fun _=>rfl) ⟨Nat.zero_le _,by simp[colK]⟩ ?_ rfl ?_
  ·refine A0d ?_;simp -implicitDefEqProofs [SAd]
  rintro⟨j,u⟩ ⟨hj,hu⟩;simp only at hj hu;refine A0c C ?_;by_cases hlt:j<ks.length
  ·obtain⟨x,hx⟩:∃x,ks[j]?=some x:=⟨_,List.getElem?_eq_getElem hlt⟩
   obtain⟨pp,cx,i1,ld,hcx⟩:=A5d hk hx;have hxn:=A7c (List.mem_of_getElem? hx);have e1:IntKind.i64.wrap ((j:Int)+1)=((j+1:Nat):Int):=A0h (by omega) (by omega);have hq:=A8q (P0++colK (ks.take j)) l;have hc:=B8r (ks.take j)
   have hsplit:nodK (ks.take j)+nodD x<=nodK ks:=by
    have hap:∀a b:List Dv,nodK (a++b)=nodK a+nodK b:=by
     intro a
     induction a with
     | nil=>intro b;simp[nodK]
     | cons d r ih=>intro b;rw[List.cons_append,nodK,ih,nodK];omega
    have:ks=ks.take j++(x::ks.drop (j+1)):=by
     rw[<-(List.getElem?_eq_some_iff.1 hx).2,<-List.drop_eq_getElem_cons hlt,List.take_append_drop]
    have e:=congrArg nodK this;rw[hap,nodK]at e;omega
   rw[List.length_append]at hq;have eA:=E5v (n:=n) (t:=u) (l:=A6b l (P0++colK (ks.take j))) (by rw[hu];exact C6m ht _) hcx (by omega) (by omega)
   have e2:addT u (A6b l (P0++colK (ks.take j))) (colP x)=addT t l (P0++colK (ks.take (j+1))):=by
    rw[hu,C0w,D0g hx,List.append_assoc]
   rw[e2]at eA;simp -implicitDefEqProofs [SAd,l4,lk,hlt,i1,ld,eA,e1];exact Abs.Next.mk (j+1,addT t l (P0++colK (ks.take (j+1)))) ⟨⟨by show j+1<=_;omega,rfl⟩,by show ks.length-(j+1)<ks.length-j;omega⟩ (A0d (by simp -implicitDefEqProofs [SAd]))
  ·have e:u=R:=by rw[hu,hR,List.take_of_length_le (by omega)]
   simp -implicitDefEqProofs [SAd,l4,lk,hlt];exact Abs.Next.mk () trivial (A0d (by simp -implicitDefEqProofs [e]))
 ·rintro _ -;refine A0c C ?_;simp -implicitDefEqProofs
theorem E5x:∀n,GOK Tryz.prog (G q) 153 (gAdd n)
 | 0,args,r,h=>by
  unfold gAdd at h;split at h
  ·obtain⟨l,_,h⟩:=Option.bind_eq_some_iff.1 h;obtain⟨d,_,h⟩:=Option.bind_eq_some_iff.1 h;rw[if_neg (by omega)]at h;cases h
  ·cases h
 | n+1,args,r,h=>by
  unfold gAdd at h;split at h
  ·rename_i a b;obtain⟨l,h1,h⟩:=Option.bind_eq_some_iff.1 h;obtain⟨d,h2,h⟩:=Option.bind_eq_some_iff.1 h;split at h
   ·rename_i hn;injection h with h;subst h;obtain⟨c,rfl,hc⟩:=Ty.is_dec h2;exact E5w (E5x n) (Ty.is_dec h1) hc (by omega) hn.2
   ·cases h
  ·cases h
noncomputable def F8i:List T->Option T:=gAdd 1000001
theorem F8j:GOK Tryz.prog (G q) 153 F8i:=E5x _
theorem D6u {t:T} {l:List Pr} {c:List T} {d:Dv} (ht:IsS ePr t l) (h:Abs.IsD d c) (hl:l.length+2*nodD d<=1000000):F8i [t,.ag c]=some (addT t l (colP d)):=E5v ht h (by omega) hl
noncomputable def F8k:List T->Option T:=g1 tD fun d=>if nodD d<=100000 then some (addT nilS [] (colP d))else none
theorem hRPrp:GOK Tryz.prog (G q) 155 F8k:=A4c fun a d r ha hr=>by
 split at hr
 ·rename_i hn;injection hr with hr;subst hr;obtain⟨c,rfl,hc⟩:=ha
  cases d with
  | mk k nm f tt ks=>
  have eA:=D6u (t:=nilS) (l:=[]) (.inl ⟨rfl,rfl⟩) hc (by simp only[List.length_nil];omega);obtain⟨tk,rfl,hk⟩:=hc.parts;have cd:=A3o k nm f tt tk;have ld:A0g true 5 [(0,.cells 26 [.t (iv k),.t (sv nm),.t (iv f),.t (iv tt),.t tk])] (.ptr 0 0)=some (.t (.ag [iv k,sv nm,iv f,iv tt,tk])):=rfl;refine D2u.runs ((A0y.cons (F8j (q:=q)) .nil).ctx mixed) rfl ?_;simp -implicitDefEqProofs [C0m,cd,ld,eA]
 ·cases hr
theorem F0y {c:List T} {d:Dv} (h:Abs.IsD d c) (hn:nodD d<=100000):F8k [.ag c]=some (addT nilS [] (colP d)):=by
 show g1 _ _ _=_;rw[A5b (τ:=tD) (x:=d) ⟨c,rfl,h⟩,if_pos hn]
theorem F5f (d:Dv):IsS ePr (addT nilS [] (colP d)) (prp d):=C6m (.inl ⟨rfl,rfl⟩) _
noncomputable def E5y:List T->Option T:=g2 tD (tAg ePr) fun d p=>if nodD d<=100000 then some (bv (holds d p))else none
theorem E5z:GOK Tryz.prog (G q) 104 E5y:=A4e fun a b d p r ha hb hr=>by
 obtain rfl:b = .ag (ePr.enc p):=hb;split at hr
 ·rename_i hn;injection hr with hr;subst hr;obtain⟨c,rfl,hc⟩:=ha
  cases d with
  | mk k nm f tt ks=>
  have eP:=F0y hc hn;have hl:=C6i (.mk k nm f tt ks);have eH:=E5u p (F5f (.mk k nm f tt ks)) (by omega);obtain⟨tk,rfl,hk⟩:=hc.parts;have cd:=A3o k nm f tt tk;have cp:=A5f p;have ld:A0g true 5 [(1,pRow p),(0,.cells 26 [.t (iv k),.t (sv nm),.t (iv f),.t (iv tt),.t tk])] (.ptr 0 0)=some (.t (.ag [iv k,sv nm,iv f,iv tt,tk])):=rfl;have lp:A0g true 4 [(1,pRow p),(0,.cells 26 [.t (iv k),.t (sv nm),.t (iv f),.t (iv tt),.t tk])] (.ptr 1 0)=some (.t (.ag (ePr.enc p))):=rfl;refine D2t.runs ((A0y.cons (hRPrp (q:=q)) (.cons (F8h (q:=q)) .nil)).ctx mixed) rfl ?_;simp -implicitDefEqProofs [C0l,cd,cp,ld,lp,eP,eH,holds]
 ·cases hr
theorem C4a {c:List T} {d:Dv} (p:Pr) (h:Abs.IsD d c) (hn:nodD d<=100000):E5y [.ag c,.ag (ePr.enc p)]=some (bv (holds d p)):=by
 show g2 _ _ _ _=_;rw[A4u (τ:=tD) (σ:=tAg ePr) (x:=d) ⟨c,rfl,h⟩ rfl,if_pos hn]
def SRe (t td:T) (a:Nat×List Nat):A0b:=⟨[(6,.t (iv (a.1:Int))),(5,.row 0 0 a.2.length 1),(1,.t td),(0,.t t)],[]++[(0,A1b eInt 3 (natI a.2))],1,47⟩
def SRi (t td:T) (i:Nat) (out:List Nat) (a:Nat×Bool):A0b:=⟨[(8,.t (iv (a.1:Int))),(7,.t (bv a.2)),(6,.t (iv (i:Int))),(5,.row 0 0 out.length 1),(1,.t td),(0,.t t)],[(0,A1b eInt 3 (natI out))],1,47⟩
theorem D0i {t td:T} {l:List Dv} {ds:List Dc} (ht:IsK t l) (hd:IsS eDc td ds) (hs:SmK l) (hds:ds.length<=1000000):A0w Tryz.prog (G q) 56 [t,td] (· = slT eInt (natI (remD l ds))):=by
 have C:Ctx Tryz.prog (G q) _:=(A0y.cons (E5z (q:=q)) .nil).ctx mixed;have l1:=ht.len;have l2:=hd.len;have hl:=hs.len;refine C0k.call rfl ?_;unfold B0y
 obtain⟨R,hR⟩:∃R,R=remD l ds:=⟨_,rfl⟩
 have hRl:R.length<=10000:=by rw[hR];have:=B8s ds l 0;show(remF 0 l ds).length<=_;omega
 rw[<-hR];have bs0:∀m,A3l 3 1 [.int .i64 0] 0 [] m=some (.row m 0 0 1,.cells 3 []):=fun _=>rfl;refine A0a C ?_;simp -implicitDefEqProofs;refine A0a C ?_;simp -implicitDefEqProofs [bs0];refine A0o (α:=Unit) (fun _=>⟨[(5,.row 0 0 R.length 1)],[]++[(0,A1b eInt 3 (natI R))],1,47⟩) (fun _=>True) (fun _=>rfl) ?_ ?_
 ·refine A0a C ?_;simp -implicitDefEqProofs;refine A0f ?_;refine A0k (SRe t td) (fun a=>l.length-a.1) (fun a=>a.1<=l.length/\a.2++remF a.1 (l.drop a.1) ds=R) (0,[]) (fun _=>rfl) ⟨Nat.zero_le _,by simp[hR,remD]⟩ ?_ rfl ?_
  ·exact A9k (e:=eInt) (l:=natI []) (k:=0) rfl (by omega) (by omega) (fun q hq=>by cases hq) (by simp -implicitDefEqProofs [ren,under])
  rintro⟨i,out⟩ ⟨hi,heq⟩;simp only at hi heq
  have hol:out.length<=10000:=by
   have:=congrArg List.length heq;simp only[List.length_append]at this;omega
  by_cases hlt:i<l.length
  ·obtain⟨x,hx⟩:∃x,l[i]?=some x:=⟨_,List.getElem?_eq_getElem hlt⟩
   obtain⟨pp,cx,i1,ld,hcx⟩:=A5d ht hx;have hxn:=hs.kid (List.mem_of_getElem? hx);have e1:IntKind.i64.wrap ((i:Int)+1)=((i+1:Nat):Int):=A0h (by omega) (by omega);rw[List.drop_eq_getElem_cons hlt,(List.getElem?_eq_some_iff.1 hx).2,remF]at heq;refine A0a C ?_;simp -implicitDefEqProofs [SRe,l1,hlt];refine A3m ?_;refine A0f ?_;refine A0a C ?_;simp -implicitDefEqProofs;refine A0o (α:=Unit) (fun _=>⟨[(7,.t (bv (agr ds x))),(6,.t (iv (i:Int))),(5,.row 0 0 out.length 1),(1,.t td),(0,.t t)],[(0,A1b eInt 3 (natI out))],1,47⟩) (fun _=>True) (fun _=>rfl) ?_ ?_
   ·refine A0a C ?_;simp -implicitDefEqProofs;refine A0f ?_;refine A0k (SRi t td i out) (fun a=>ds.length-a.1) (fun a=>a.1<=ds.length/\(a.2&&agr (ds.drop a.1) x)=agr ds x) (0,true) (fun _=>rfl) ⟨Nat.zero_le _,by simp⟩ ?_ rfl ?_
    ·refine A0d ?_;simp -implicitDefEqProofs [SRi]
    rintro⟨j,ag⟩ ⟨hj,hag⟩;simp only at hj hag;refine A0c C ?_;by_cases hjt:j<ds.length
    ·obtain⟨y,hy⟩:∃y,ds[j]?=some y:=⟨_,List.getElem?_eq_getElem hjt⟩
     obtain⟨p2,i2,_,ld4,ld1⟩:=B7u hd hy;have e2:IntKind.i64.wrap ((j:Int)+1)=((j+1:Nat):Int):=A0h (by omega) (by omega);have eH:=C4a y.p hcx (by omega);rw[List.drop_eq_getElem_cons hjt,(List.getElem?_eq_some_iff.1 hy).2]at hag
     have hag:(ag&&(holds x y.p==y.yes)&&agr (ds.drop (j+1)) x)=agr ds x:=by
      rw[<-hag,agr,agr,List.all_cons,Bool.and_assoc]
     simp only[List.drop_zero]at ld4
     cases ag with
     | true=>
      simp -implicitDefEqProofs [SRi,l2,hjt,i1,ld,i2,ld4,ld1,eH,e2];exact Abs.Next.mk (j+1,holds x y.p==y.yes) ⟨⟨by show j+1<=_;omega,by simpa using hag⟩,by show ds.length-(j+1)<ds.length-j;omega⟩ (A0d (by simp -implicitDefEqProofs [SRi]))
     | false=>
      simp -implicitDefEqProofs [SRi,l2,hjt,e2];exact Abs.Next.mk (j+1,false) ⟨⟨by show j+1<=_;omega,by simpa using hag⟩,by show ds.length-(j+1)<ds.length-j;omega⟩ (A0d (by simp -implicitDefEqProofs [SRi]))
    ·have e:ag=agr ds x:=by
      rw[<-hag,List.drop_of_length_le (by omega)];simp[agr]
     simp -implicitDefEqProofs [SRi,l2,hjt];exact Abs.Next.mk () trivial (A0d (by simp -implicitDefEqProofs [e]))
   ·rintro _ -;have ap:=E9x (e:=eInt) (ty:=3) (b:=0) (l:=natI out) (by':=8) (nx:=1) (H:=[(0,A1b eInt 3 (natI out))]) (i:Int) 1 rfl [.t (iv (i:Int))] rfl out.length 2 3 (natI_len _).symm rfl rfl rfl (by omega) (by rw[natI_len];omega) (by rw[natI_len];omega);have bs1:A3l 3 1 [.int .i64 0] 1 [(0,.t (iv (i:Int)))] 1=some (.row 1 0 1 1,.cells 3 [.t (iv (i:Int))]):=rfl
    have hr:natI out++[(i:Int)]=natI (out++[i]):=by simp[natI]
    refine A0c C ?_
    cases hg:agr ds x with
    | true=>
     rw[hg,if_pos rfl]at heq;simp -implicitDefEqProofs [bs1,ap];refine⟨rfl,?_⟩;refine A0c C ?_;simp -implicitDefEqProofs [e1];refine Abs.Next.mk (i+1,out++[i]) ⟨⟨by show i+1<=_;omega,by simpa using heq⟩,by show l.length-(i+1)<l.length-i;omega⟩ ?_;rw[hr];refine A9k (e:=eInt) (l:=natI (out++[i])) (k:=2) rfl (by omega) (by omega) (fun q hq=>by cases hq) ?_;simp -implicitDefEqProofs [ren,under]
    | false=>
     rw[hg,if_neg (by simp)]at heq;simp -implicitDefEqProofs;refine⟨rfl,?_⟩;refine A0c C ?_;simp -implicitDefEqProofs [e1];exact Abs.Next.mk (i+1,out) ⟨⟨by show i+1<=_;omega,heq⟩,by show l.length-(i+1)<l.length-i;omega⟩ (A0d (by simp -implicitDefEqProofs [SRe]))
  ·have e:out=R:=by
    rw[<-heq,List.drop_of_length_le (by omega)];simp[remF]
   refine A0c C ?_;simp -implicitDefEqProofs [SRe,l1,hlt];refine Abs.Next.mk () trivial ?_;rw[e];exact A0d (by simp -implicitDefEqProofs)
 ·rintro _ -;have tt:=A7r (e:=eInt) (ty:=3) (b:=0) (l:=natI R) (H:=[]++[(0,A1b eInt 3 (natI R))]) rfl;rw[natI_len]at tt;have tt:toT [(0,A1b eInt 3 (natI R))] (.row 0 0 R.length 1)=some (slT eInt (natI R),[0]):=tt;refine A0c C ?_;simp -implicitDefEqProofs [tt,-toT]
noncomputable def F8l:List T->Option T:=g2 tK (tSl eDc) fun l ds=>open Classical in if SmK l/\ds.length<=1000000 then some (slT eInt (natI (remD l ds)))else none
theorem F8m:GOK Tryz.prog (G q) 56 F8l:=A4e fun a b x y r ha hb hr=>by
 split at hr
 ·rename_i h;injection hr with hr;subst hr;exact D0i ha hb h.1 h.2
 ·cases hr
theorem D6v {t td:T} {l:List Dv} {ds:List Dc} (ht:IsK t l) (hd:IsS eDc td ds) (hs:SmK l) (hds:ds.length<=1000000):F8l [t,td]=some (slT eInt (natI (remD l ds))):=by
 show g2 _ _ _ _=_;rw[A4u (τ:=tK) (σ:=tSl eDc) ht hd,if_pos ⟨hs,hds⟩]
def B7j:A0i:=(jO [jM 2 (.box 28) [jT 0],jM 4 (.alloc 28 [(.string ⟨#[]⟩),(.slice none 0 0),(.int .i64 0),(.slice none 0 0),(.int .i64 0),(.string ⟨#[]⟩),(.int .i64 0),(.int .i64 0),(.slice none 0 0)]) [],jM 5 .mv [jI 0],jM 6 .mv [jI 0]] (.seq (jO [jV 11 1,jM 12 (.call 28) [jT 11],jM 13 (.un .not) [jT 12]] (.cond (jT 13) (jO [jM 14 (.load true 9) [jT 2],⟨none,.store 9,[jT 4,jT 14],none⟩,jM 5 .mv [jI 0],jM 6 .mv [jI 3]] .ret) .skip)) (jO [jM 15 (.load true 9) [jT 2],jM 7 (.alloc 28 [(.string ⟨#[]⟩),(.slice none 0 0),(.int .i64 0),(.slice none 0 0),(.int .i64 0),(.string ⟨#[]⟩),(.int .i64 0),(.int .i64 0),(.slice none 0 0)]) [],⟨none,.store 9,[jT 7,jT 15],none⟩] (jO [jM 17 (.faddr 3) [jT 2],jM 18 jL [jT 17],jV 19 1,jM 20 (.call 55) [jT 18,jT 19],jV 16 20,jM 21 (.ext 0) [jT 16],jM 22 (.ext 1) [jT 16],jV 8 21,jV 9 22] (jO [jV 23 8,jM 24 (.faddr 3) [jT 7],⟨none,.store 1,[jT 24,jT 23],none⟩] (jO [jM 25 (.build [(0,1),(1,1),(2,1),(3,1),(4,1)] [(.int .i64 0),(.string ⟨#[]⟩),(.int .i64 0),(.int .i64 0),(.slice none 0 0)] []) [],jM 26 (.faddr 4) [jT 7],⟨none,.store 5,[jT 26,jT 25],none⟩] (.seq (jO [jM 27 (.faddr 2) [jT 2],jM 28 jL [jT 27],jM 29 (jB .eql) [jT 28,(jI 1)]] (.cond (jT 29) (jO [jV 30 1,jV 31 8,jM 32 (.call 56) [jT 30,jT 31],jV 10 32] (jO [jV 33 10,jM 34 .lensl [jT 33],jM 35 (jB .eql) [jT 34,(jI 1)]] (.cond (jT 35) (.ops [jV 36 1,jV 37 10,jM 38 (.iaddr 1) [jT 37,(jI 0)],jM 39 jL [jT 38],jM 40 (.iaddr 5) [jT 36,jT 39],jM 41 (.load true 5) [jT 40],jM 42 (.faddr 4) [jT 7],⟨none,.store 5,[jT 42,jT 41],none⟩]) (.ops [jM 43 (.faddr 2) [jT 7],⟨none,.store 1,[jT 43,(jI 0)],none⟩])))) .skip)) (jO [jM 44 (.load true 9) [jT 7],jV 45 9,⟨none,.store 9,[jT 4,jT 44],none⟩,jV 5 45,jM 6 .mv [jI 0]] .ret))))))))
theorem D0j {q:Gl}:FnOK Tryz.prog (G q) 20 2 46 B7j [(.cell 4 true 9),(.tmp 5),(.tmp 6)]:=⟨Tryz.f20,Tryz.func20,by kernel_rfl,by kernel_rfl,by kernel_rfl,by kernel_rfl⟩
def C4b:A0i:=(jO [jM 4 .mv [jN],jM 5 .mv [jI 0]] (jO [jV 11 1,jM 12 (.call 102) [jT 11],jV 6 12] (jO [jM 7 .mv [jN]] (jO [jM 8 .mv [jN]] (.seq (jO [jM 9 .mv [jI 0]] (.block 0 (.loop (.seq (jO [jV 13 9,jV 14 0,jM 15 .lensl [jT 14],jM 16 (jB .lss) [jT 13,jT 15]] (.cond (jT 16) .skip (.exit 0))) (.seq (.block 1 (.seq (.drawG 0 [(.o ⟨some 20,.mv,[jT 7],none⟩ false []),(.o ⟨some 22,.mv,[jT 0],none⟩ false []),(.o ⟨some 23,.mv,[jT 9],none⟩ false []),(.o ⟨some 24,.iaddr 5,[jT 22,jT 23],none⟩ false []),(.o ⟨some 25,.load true 5,[jT 24],none⟩ true []),(.o ⟨some 26,(.tslice 61 5 [(.int .i64 0),(.string ⟨#[]⟩),(.int .i64 0),(.int .i64 0),(.bool false)] 1 [0]),[jT 25],none⟩ false []),(.o ⟨some 19,(.bslice 61 5 [(.int .i64 0),(.string ⟨#[]⟩),(.int .i64 0),(.int .i64 0),(.bool false)] 0 []),[],none⟩ false []),(.o ⟨some 21,.app 61 5 48,[jT 19,jT 20],none⟩ false [4]),(.o ⟨some 27,.app 61 5 48,[jT 21,jT 26],none⟩ false []),(.o ⟨some 10,.mv,[jT 27],none⟩ false [])]) (jO [jV 28 6,jV 29 0,jV 30 9,jM 31 (.iaddr 5) [jT 29,jT 30],jM 32 (.faddr 0) [jT 31],jM 33 (.load true 4) [jT 32],jM 34 (.call 103) [jT 28,jT 33],jV 35 34,jX 36 8 35 true,jX 37 0 35 true,jX 38 9 35 true,jG 39 (.iaddr 5) [jT 37,jT 38] 35 true,jG 40 (.faddr 0) [jT 39] 35 true,jG 41 (.load true 4) [jT 40] 35 true,jG 42 (.call 103) [jT 36,jT 41] 35 true,jG 43 (.un .not) [jT 42] 35 true,jM 44 .pick [jT 35,jT 43,jF],jV 45 44,jX 46 1 45 true,jX 47 10 45 true,jG 48 (.call 56) [jT 46,jT 47] 45 true,jG 49 .lensl [jT 48] 45 true,jG 50 (jB .gtr) [jT 49,(jI 0)] 45 true,jM 51 .pick [jT 45,jT 50,jF]] (.cond (jT 51) (jO [jV 52 10,jV 7 52] (.ops [jV 53 8,jV 54 0,jV 55 9,jM 56 (.iaddr 5) [jT 54,jT 55],jM 57 (.faddr 0) [jT 56],jM 58 (.load true 4) [jT 57],jM 59 (.bslice 59 4 [(.int .i64 0),(.string ⟨#[]⟩),(.int .i64 0),(.int .i64 0)] 1 [0]) [jT 58],jM 60 (.app 59 4 40) [jT 53,jT 59],jV 8 60])) .skip)))) (.ops [jV 17 9,jM 18 (jB .add) [jT 17,(jI 1)],jV 9 18])))))) (jO [jV 61 7,jV 62 0,jM 63 .lensl [jT 62],jV 64 7,jM 65 .lensl [jT 64],jM 66 (jB .sub) [jT 63,jT 65],jV 4 61,jV 5 66] .ret))))))
theorem E0f {q:Gl}:FnOK Tryz.prog (G q) 55 2 67 C4b [(.tmp 4),(.tmp 5)]:=⟨Tryz.f55,Tryz.func55,by kernel_rfl,by kernel_rfl,by kernel_rfl,by kernel_rfl⟩
def D0k:A0i:=(jO [jM 3 (.box 59) [jT 1],jM 4 .mv [jF]] (.seq (jO [jM 5 .mv [jI 0]] (.block 0 (.loop (.seq (jO [jV 6 5,jV 7 0,jM 8 .lensl [jT 7],jM 9 (jB .lss) [jT 6,jT 8]] (.cond (jT 9) .skip (.exit 0))) (.seq (.block 1 (.seq (.draw [jV 12 0,jV 13 5,jM 14 (.iaddr 4) [jT 12,jT 13],jM 15 (.load true 4) [jT 14],jM 16 (.load true 4) [jT 3],jM 17 (.ex (.eqs false [.i,.s,.i,.i])) [jT 15,jT 16]]) (.cond (jT 17) (jO [jM 4 .mv [jW]] .ret) .skip))) (.ops [jV 10 5,jM 11 (jB .add) [jT 10,(jI 1)],jV 5 11])))))) (jO [jM 4 .mv [jF]] .ret)))
theorem E6a {q:Gl}:FnOK Tryz.prog (G q) 103 2 18 D0k [(.tmp 4)]:=⟨Tryz.f103,Tryz.func103,by kernel_rfl,by kernel_rfl,by kernel_rfl,by kernel_rfl⟩
end Go.Proofs.YtmplckgbeaifkaaGreatDoor
