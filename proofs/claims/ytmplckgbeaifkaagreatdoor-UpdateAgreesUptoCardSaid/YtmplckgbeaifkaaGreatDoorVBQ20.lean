/-
 Auxiliary facts. No statement of the program stands here.
-/
import Derived.Test.YtmplckgbeaifkaaGreatDoorVBQ19
import Derived.Lib.CountLaws
import Derived.Lib.CutLaws
namespace Go.Proofs.YtmplckgbeaifkaaGreatDoor
set_option linter.unusedSimpArgs false
set_option linter.unusedVariables false
open Go Go.Abs
def B8i:List UInt8->List UInt8->List (List UInt8)
 | acc,[]=>[acc]
 | acc,c::r=>if c=32 then acc::B8i [] r else B8i (acc++[c]) r
variable {q : Gl}
def prt (c:UInt8):Bool:=decide (32<=c.toNat)&&decide (c.toNat<=126)
def F6w (l:List UInt8):Option (List (List UInt8)):=
 if l.all prt then(if l.isEmpty then some []else if(B8i [] l).any List.isEmpty then none else some (B8i [] l))else none
theorem E3g (s:ByteArray) (i j:Nat) (h1:i<=j) (h2:j<=s.size):A3e (.t (sv s)) (some (.t (iv (i:Int)))) (some (.t (iv (j:Int))))=some (.t (sv (s.extract i j))):=by
 have a1:¬(i:Int)<0:=by omega
 have a2:¬(j:Int)<0:=by omega
 simp[A3e,boundV,h1,h2]
theorem D9a (s:ByteArray) (i:Nat) (h1:i<=s.size):A3e (.t (sv s)) (some (.t (iv (i:Int)))) none=some (.t (sv (s.extract i s.size))):=by
 have a1:¬(i:Int)<0:=by omega
 simp[A3e,boundV,h1]
theorem E9r (s:ByteArray) (j:Nat) (h2:j<=s.size):A3e (.t (sv s)) none (some (.t (iv (j:Int))))=some (.t (sv (s.extract 0 j))):=by
 have a2:¬(j:Int)<0:=by omega
 simp[A3e,boundV,h2]
theorem E3h (d:List UInt8) (c:UInt8):decV 0 (d++[c])=decV 0 d*10+(c.toNat-48):=by
 simp[decV,List.foldl_append]
theorem F2e:∀(n:Nat) (d:List UInt8),d.length=n->(∀c∈d,A1d c=true)->d.head?≠some 48->dd (decV 0 d)=d
 | 0,d,hn,_,_=>by
  have:d=[]:=List.eq_nil_of_length_eq_zero hn;subst this;rfl
 | n+1,d,hn,hd,hh=>by
  obtain⟨d',c,rfl⟩:∃d' c,d=d'++[c]:=by
   rcases List.eq_nil_or_concat d with h | ⟨d',c,h⟩
   ·rw[h]at hn;simp at hn
   ·exact⟨d',c,by simpa using h⟩
  have hc:=hd c (by simp);simp only[A1d,Bool.and_eq_true,decide_eq_true_eq]at hc
  have hl:d'.length=n:=by simpa using hn
  have hh':d'.head?≠some 48:=by
   cases d' with
   | nil=>simp
   | cons x r=>simpa using hh
  have ih:=F2e n d' hl (fun x hx=>hd x (by simp[hx])) hh';rw[E3h]
  obtain⟨v,hv⟩:∃v,v=decV 0 d':=⟨_,rfl⟩
  rw[<-hv]at ih ⊢
  have hpos:0<v*10+(c.toNat-48):=by
   cases d' with
   | nil=>
    have:c.toNat≠48:=by
     intro e;apply hh;have:c=48:=UInt8.toNat_inj.1 e;rw[this];rfl
    omega
   | cons x r=>
    by_cases h0:v=0
    ·rw[h0]at ih;cases ih
    ·omega
  rw[D2l _ hpos,show(v*10+(c.toNat-48)) / 10=v by omega,ih,show 48+(v*10+(c.toNat-48))%10=c.toNat by omega];congr 2;exact UInt8.toNat_inj.1 (by rw[UInt8.toNat_ofNat'];have:=c.toNat_lt;omega)
theorem D2m (n:Int):Lib.itoa n=if n=0 then [48]else if n<0 then 45::dd n.natAbs else dd n.natAbs:=by
 by_cases h0:n=0
 ·subst h0;unfold Lib.itoa;rw[if_neg (by omega),if_pos rfl,show(0:Int).toNat=0 from rfl,Lib.decDigits_one (by omega)];rfl
 ·rw[if_neg h0];unfold Lib.itoa dd;rw[if_neg (by omega:¬n.natAbs=0)];split
  ·rfl
  ·congr 1;omega
theorem E9s {c:UInt8} (h:A1d c=true):c≠45:=by
 intro e;subst e;revert h;decide
theorem D2n (l:List UInt8) (m:Int) (h:numS l=(m,0)):Lib.itoa m=l:=by
 rw[B9x]at h;split at h
 ·cases h
 ·rename_i hc;simp only[Bool.or_eq_true,not_or,Bool.not_eq_true,Bool.not_eq_eq_eq_not,Bool.not_true,Bool.not_false]at hc;obtain⟨⟨c1,c2⟩,c3⟩:=hc;have hall:∀c∈dOf l,A1d c=true:=List.all_eq_true.1 (by simpa using c2);by_cases h48:(dOf l).head?=some 48
  ·have hl:l=[48]:=by
    rw[h48]at c3;simpa using c3
   subst hl;have:numS [48]=(0,0):=rfl;rw[B9x]at this
   have e:m=0:=by
    split at h
    ·split at h
     ·rename_i h1 _;cases h1
     ·cases h
    ·split at h
     ·injection h with h _;exact h.symm
     ·cases h
   subst e;rw[D2m];rfl
  ·have hdd:=F2e _ (dOf l) rfl hall h48
   have hne:dOf l≠[]:=by intro e;rw[e]at c1;cases c1
   obtain⟨v,hv⟩:∃v,v=decV 0 (dOf l):=⟨_,rfl⟩
   rw[<-hv]at hdd h
   have hpos:v≠0:=by intro e;rw[e]at hdd;exact hne hdd.symm
   split at h
   ·rename_i h45;split at h
    ·injection h with h _;subst h;rw[D2m,if_neg (by omega),if_pos (by omega),show(-(v:Int)).natAbs=v by omega,hdd]
     cases l with
     | nil=>cases h45
     | cons x r=>
      have hx:x=45:=by simpa using h45
      subst hx;rfl
    ·cases h
   ·rename_i h45;split at h
    ·injection h with h _;subst h;rw[D2m,if_neg (by omega),if_neg (by omega),show(v:Int).natAbs=v by omega,hdd];unfold dOf;rw[if_neg h45]
    ·cases h
def eosE:List UInt8->Int
 | []=>9
 | _=>8
def A5h:Nat->List UInt8->Nat
 | _,[]=>0
 | i,c::r=>if decide (i<32)&&okAt false i c then A5h (i+1) r+1 else 0
def takB (c:UInt8):List UInt8->Except Int (List UInt8)
 | []=>.error 9
 | x::r=>if x=c then .ok r else .error 8
def A8j (s:List UInt8):Except Int (List UInt8×List UInt8):=
 if A5h 0 s=0 then .error (eosE s)else .ok (s.take (A5h 0 s),s.drop (A5h 0 s))
def sgn:List UInt8->List UInt8×List UInt8
 | 45::r=>([45],r)
 | s=>([],s)
def A8k (s:List UInt8):Except Int (Int×List UInt8):=
 let d:=(sgn s).2.takeWhile A1d
 let r:=(sgn s).2.dropWhile A1d
 if d=[]then .error (eosE r)
 else if(numS ((sgn s).1++d)).2=0 then .ok ((numS ((sgn s).1++d)).1,r)else .error 8
def plus:List UInt8->Bool×List UInt8
 | 43::r=>(true,r)
 | s=>(false,s)
structure Hd where
 lex:Bool
 name:List UInt8
 frm:Int
 to:Int
def B6z (s:List UInt8):Except Int (Hd×List UInt8):=do
 let (n,s1) <-A8j (plus s).2
 let s2 <-takB 32 s1
 let (f,s3) <-A8k s2
 let s4 <-takB 32 s3
 let (t,s5) <-A8k s4
 return (⟨(plus s).1,n,f,t⟩,s5)
def A2y (rd:List UInt8->Except Int (Dv×List UInt8)):Nat->Bool->List Dv->List UInt8->Except Int (List Dv×List UInt8)
 | n+1,lex,acc,32::r=>if lex && !acc.isEmpty then .ok (acc,32::r)else
  match rd r with
  | .error e=>.error e
  | .ok (d,r')=>A2y rd n lex (acc++[d]) r'
 | _,_,acc,s=>.ok (acc,s)
def A1f (lex:Bool) (kids:List Dv):Int:=if lex then 1 else if kids.isEmpty then 0 else 2
def A2w:Nat->List UInt8->Except Int (Dv×List UInt8)
 | _,[]=>.error 9
 | 0,c::_=>if c=40 then .error 7 else .error 8
 | k+1,c::s=>if c=40 then do
   let (h,s1) <-B6z s
   let (ks,s2) <-A2y (A2w k) s1.length h.lex [] s1
   if h.lex&&ks.isEmpty then .error (eosE s2)else
    let s3 <-takB 41 s2
    return (.mk (A1f h.lex ks) (bs h.name) h.frm h.to ks,s3)
  else .error 8
def parD (s:List UInt8):Except Int Dv:=
 if 65536<s.length then .error 7 else
 match A2w 64 s with
 | .error e=>.error e
 | .ok (d,[])=>.ok d
 | .ok (_,_)=>.error 8
mutual
def prtD:Dv->List UInt8
 | .mk k n f t ks=>40::((if k=1 then [43]else [])++lbs n++32::Lib.itoa f++32::Lib.itoa t++(prtK ks++[41]))
def prtK:List Dv->List UInt8
 | []=>[]
 | d::r=>32::(prtD d++prtK r)
end
theorem B5t {c:UInt8} {s r:List UInt8} (h:takB c s = .ok r):s=c::r:=by
 cases s with
 | nil=>cases h
 | cons x t=>
  simp only[takB]at h;split at h
  ·rename_i e;cases h;rw[e]
  ·cases h
theorem C9a {s n r:List UInt8} (h:A8j s = .ok (n,r)):s=n++r/\n≠[]/\A5h 0 s=n.length:=by
 unfold A8j at h;split at h
 ·cases h
 ·rename_i h0;injection h with h;injection h with h1 h2
  have hl:A5h 0 s<=s.length:=by
   have:∀(s:List UInt8) i,A5h i s<=s.length:=by
    intro s
    induction s with
    | nil=>intro i;exact Nat.le_refl _
    | cons c r ih=>intro i;rw[A5h];split<;>simp[ih]
   exact this s 0
  refine⟨?_,?_,?_⟩
  ·rw[<-h1,<-h2,List.take_append_drop]
  ·rw[<-h1];intro e;have:=congrArg List.length e;rw[List.length_take,List.length_nil,Nat.min_eq_left hl]at this;exact h0 this
  ·rw[<-h1,List.length_take];omega
theorem B9y (s:List UInt8):(sgn s).1++(sgn s).2=s:=by
 unfold sgn;split<;>rfl
theorem B8j {s r:List UInt8} {n:Int} (h:A8k s = .ok (n,r)):s=Lib.itoa n++r:=by
 unfold A8k at h;simp only at h;split at h
 ·cases h
 ·split at h
  ·rename_i h0;injection h with h;injection h with h1 h2;have:=D2n ((sgn s).1++(sgn s).2.takeWhile A1d) n (by rw[<-h1,<-h0]);rw[this,<-h2,List.append_assoc,List.takeWhile_append_dropWhile,B9y]
  ·cases h
theorem E3i (s:List UInt8):(if(plus s).1 then [43]else [])++(plus s).2=s:=by
 unfold plus;split<;>rfl
theorem B0s {α β:Type} {x:Except Int α} {f:α->Except Int β} {b:β} (h:(x >>= f) = .ok b):∃a,x = .ok a/\f a = .ok b:=by
 cases x with
 | error e=>cases h
 | ok a=>exact⟨a,rfl,h⟩
theorem E3j {s r:List UInt8} {h:Hd} (e:B6z s = .ok (h,r)):s=(if h.lex then [43]else [])++h.name++32::Lib.itoa h.frm++32::Lib.itoa h.to++r:=by
 obtain⟨⟨n,s1⟩,e1,e⟩:=B0s e;obtain⟨s2,e2,e⟩:=B0s e;obtain⟨⟨f,s3⟩,e3,e⟩:=B0s e;obtain⟨s4,e4,e⟩:=B0s e;obtain⟨⟨t,s5⟩,e5,e⟩:=B0s e;injection e with e;injection e with e6 e7;subst e6;subst e7;have k1:=(C9a e1).1;have k2:=B5t e2;have k3:=B8j e3;have k4:=B5t e4;have k5:=B8j e5;have k0:=E3i s;rw[k1,k2,k3,k4,k5]at k0;refine k0.symm.trans ?_;simp
theorem C9b {rd:List UInt8->Except Int (Dv×List UInt8)} (hrd:∀s d r,rd s = .ok (d,r)->s=prtD d++r):∀(n:Nat) (lex:Bool) (acc:List Dv) (s:List UInt8) (ks:List Dv) (r:List UInt8),A2y rd n lex acc s = .ok (ks,r)->∃m,ks=acc++m/\s=prtK m++r
 | 0,lex,acc,s,ks,r,h=>by
  rw[A2y]at h
  ·injection h with h;injection h with h1 h2;exact⟨[],by simp[h1],by simp[prtK,h2]⟩
  ·intros;omega
 | n+1,lex,acc,s,ks,r,h=>by
  by_cases hs:∃t,s=32::t
  ·obtain⟨t,rfl⟩:=hs;rw[A2y]at h;split at h
   ·injection h with h;injection h with h1 h2;exact⟨[],by simp[h1],by simp[prtK,h2]⟩
   ·split at h
    ·cases h
    ·rename_i d r' e;obtain⟨m,h1,h2⟩:=C9b hrd n lex _ _ _ _ h;refine⟨d::m,by rw[h1];simp,?_⟩;rw[hrd _ _ _ e,h2,prtK];simp
  ·rw[A2y]at h
   ·injection h with h;injection h with h1 h2;exact⟨[],by simp[h1],by simp[prtK,h2]⟩
   ·intro n' t _ e;exact hs ⟨t,e⟩
theorem B4h:∀(k:Nat) (s:List UInt8) (d:Dv) (r:List UInt8),A2w k s = .ok (d,r)->s=prtD d++r
 | _,[],d,r,h=>by cases ‹Nat› <;> cases h
 | 0,c::s,d,r,h=>by
  rw[A2w]at h;split at h<;>cases h
 | k+1,c::s,d,r,h=>by
  rw[A2w]at h;split at h
  ·rename_i hc;obtain⟨⟨hh,s1⟩,e1,h⟩:=B0s h;obtain⟨⟨ks,s2⟩,e2,h⟩:=B0s h;simp only at h;split at h
   ·cases h
   ·rename_i hl;obtain⟨s3,e3,h⟩:=B0s h;injection h with h;injection h with h1 h2;subst h1;subst h2;have k1:=E3j e1;obtain⟨m,k2,k3⟩:=C9b (fun s d r=>B4h k s d r) _ _ _ _ _ _ e2;have k4:=B5t e3;rw[List.nil_append]at k2;subst k2;rw[hc,k1,k3,k4,prtD]
    have:(if A1f hh.lex ks=1 then [43]else [])=(if hh.lex then [(43:UInt8)]else []):=by
     unfold A1f;cases hh.lex<;>simp;split<;>simp
    rw[this];simp[lbs,bs]
  ·cases h
theorem F4b {s:List UInt8} {d:Dv} (h:parD s = .ok d):prtD d=s:=by
 unfold parD at h;split at h
 ·cases h
 ·split at h
  ·cases h
  ·rename_i d' e;injection h with h;subst h;rw[B4h _ _ _ _ e,List.append_nil]
  ·cases h
structure Tb where
 ver:ByteArray
 items:List It
def chkW (ws:List ByteArray):Int:=if ws=[]then 1 else if 32<ws.length then 7 else if ws.all A3n then 0 else 1
def chkP (p:Pr) (n:Int):Int:=
 if p.kind<0\/3<p.kind then 14 else
 if(p.kind=3/\p.name≠⟨#[]⟩)\/(p.kind≠3/\A1e false p.name=false)then 1 else
 if p.frm<0\/p.to<=p.frm\/n<p.to then 2 else 0
def A7y (n:Int):List Dc->List Dc->Int
 | _,[]=>0
 | seen,d::r=>if chkP d.p n≠0 then chkP d.p n else if(seen.any fun y=>decide (y.p=d.p))then 4 else A7y n (seen++[d]) r
def C5k (d:Dv):Bool:=match parD (prtD d)with
 | .ok x=>decide (cmpD x d=0)
 | .error _=>false
def chkG (x:It):Int:=
 if x.state=1 then(if x.gold.frm≠0\/x.gold.to≠x.words.length then 2 else if C5k x.gold then 0 else 13)
 else if cmpD x.gold A2c=0 then 0 else 13
def chkR (x:It):Int:=
 if chkW x.words≠0 then chkW x.words else
 if x.state<0\/2<x.state then 14 else
 if 256<x.decs.length then 7 else
 if A7y x.words.length [] x.decs≠0 then A7y x.words.length [] x.decs else chkG x
def C5l (prev:Option ByteArray) (id:ByteArray):Bool:=match prev with
 | none=>false
 | some p=>decide (cmpS id p<=0)
def chkL:Option ByteArray->List It->Int
 | _,[]=>0
 | prev,x::r=>
  if A1e false x.id=false then 1 else
  if C5l prev x.id then 3 else
  if chkR x≠0 then chkR x else chkL (some x.id) r
def chkT (b:Tb):Int:=if A1e false b.ver=false then 1 else if 256<b.items.length then 7 else chkL none b.items
def parts (first l:List UInt8):Option (List (List UInt8)):=match F6w l with
 | some (w::r)=>if w=first then some r else none
 | _=>none
end Go.Proofs.YtmplckgbeaifkaaGreatDoor
namespace Go.Abs
set_option linter.unusedSimpArgs false
set_option linter.unusedVariables false
open Go
def ePr:Enc Pr:=⟨4,fun p=>[iv p.kind,sv p.name,iv p.frm,iv p.to],fun _=>rfl,by omega,fun a b h=>by
 obtain⟨_,_,_,_⟩:=a;obtain⟨_,_,_,_⟩:=b;injection h with h1 h;injection h with h2 h;injection h with h3 h;injection h with h4 _;injection h1 with h1;injection h1 with _ h1;injection h2 with h2;injection h2 with h2;injection h3 with h3;injection h3 with _ h3;injection h4 with h4;injection h4 with _ h4;simp only at h1 h2 h3 h4
 subst h1;subst h2;subst h3;subst h4;rfl⟩
def eDc:Enc Dc:=⟨5,fun d=>[iv d.p.kind,sv d.p.name,iv d.p.frm,iv d.p.to,bv d.yes],fun _=>rfl,by omega,fun a b h=>by
 obtain⟨⟨_,_,_,_⟩,_⟩:=a;obtain⟨⟨_,_,_,_⟩,_⟩:=b;injection h with h1 h;injection h with h2 h;injection h with h3 h;injection h with h4 h;injection h with h5 _;injection h1 with h1;injection h1 with _ h1;injection h2 with h2;injection h2 with h2;injection h3 with h3;injection h3 with _ h3;injection h4 with h4;injection h4 with _ h4;injection h5 with h5;injection h5 with h5;simp only at h1 h2 h3 h4 h5
 subst h1;subst h2;subst h3;subst h4;subst h5;rfl⟩
structure DC where
 d:Dv
 cs:List T
 ok:IsD d cs
theorem DC.ext {a b:DC} (h:a.cs=b.cs):a=b:=by
 obtain⟨d,cs,ok⟩:=a;obtain⟨d',cs',ok'⟩:=b;simp only at h;subst h;obtain rfl:=IsD.uniq d d' cs ok ok';rfl
def eDC:Enc DC:=⟨5,DC.cs,fun a=>a.ok.len,by omega,fun _ _ h=>DC.ext h⟩
def DC.of (d:Dv):DC:=⟨d,encD d,IsD.enc d⟩
theorem D5o:∀m:List DC,IsDs (m.map DC.d) (m.flatMap DC.cs)
 | []=>by simp[IsDs]
 | x::m=>by
  rw[List.map_cons,List.flatMap_cons,IsDs];exact⟨_,_,rfl,x.ok,D5o m⟩
theorem IsS.isK {t:T} {m:List DC} (h:IsS eDC t m):IsK t (m.map DC.d):=by
 rcases h with⟨rfl,rfl⟩ | rfl
 ·exact .inl ⟨rfl,rfl⟩
 ·exact .inr ⟨m.flatMap DC.cs,by rw[slT,List.length_map];rfl,D5o m⟩
def IsIt (x:It) (cs:List T):Prop:=∃tw td g,cs=[sv x.id,tw,iv x.state,td]++g/\IsS eStr tw x.words/\IsS eDc td x.decs/\IsD x.gold g
theorem IsIt.len {x:It} {cs:List T} (h:IsIt x cs):cs.length=9:=by
 obtain⟨tw,td,g,rfl,_,_,h3⟩:=h;simp[h3.len]
theorem IsIt.uniq {x y:It} {cs:List T} (h:IsIt x cs) (k:IsIt y cs):x=y:=by
 obtain⟨tw,td,g,rfl,h1,h2,h3⟩:=h;obtain⟨tw',td',g',e,k1,k2,k3⟩:=k;obtain⟨id,ws,st,ds,gd⟩:=x;obtain⟨id',ws',st',ds',gd'⟩:=y;simp only[List.cons_append,List.nil_append]at e;injection e with e1 e;injection e with e2 e;injection e with e3 e;injection e with e4 e;injection e1 with e1;injection e1 with e1;injection e3 with e3;injection e3 with _ e3;simp only at e1 e3 h1 h2 h3 k1 k2 k3;subst e1;subst e2;subst e3;subst e4;subst e;obtain rfl:=(tSl eStr).uniq tw ws ws' h1 k1;obtain rfl:=(tSl eDc).uniq td ds ds' h2 k2;obtain rfl:=IsD.uniq gd gd' g h3 k3;rfl
structure IC where
 x:It
 cs:List T
 ok:IsIt x cs
theorem IC.ext {a b:IC} (h:a.cs=b.cs):a=b:=by
 obtain⟨x,cs,ok⟩:=a;obtain⟨x',cs',ok'⟩:=b;simp only at h;subst h;obtain rfl:=ok.uniq ok';rfl
def eIC:Enc IC:=⟨9,IC.cs,fun a=>a.ok.len,by omega,fun _ _ h=>IC.ext h⟩
def encI (x:It):List T:=[sv x.id,A1g eStr x.words,iv x.state,A1g eDc x.decs]++encD x.gold
theorem E9t (x:It):IsIt x (encI x):=⟨_,_,_,rfl,IsS.tree _ _,IsS.tree _ _,IsD.enc _⟩
def IC.of (x:It):IC:=⟨x,encI x,E9t x⟩
def tIt:Ty IC:=⟨fun t c=>t = .ag c.cs,fun t a b h h'=>by rw[h]at h';injection h' with h';exact IC.ext h'⟩
end Go.Abs
namespace Go.Proofs.YtmplckgbeaifkaaGreatDoor
set_option linter.unusedSimpArgs false
set_option linter.unusedVariables false
open Go Go.Abs
structure TC where
 ver:ByteArray
 items:List IC
def TC.tb (b:TC):Tb:=⟨b.ver,b.items.map IC.x⟩
def tTb:Ty TC:=⟨fun t b=>∃u,t = .ag [sv b.ver,u]/\IsS eIC u b.items,fun t a b ⟨u,e,h⟩ ⟨u',e',h'⟩=>by
 rw[e]at e';injection e' with e';injection e' with e1 e';injection e' with e2 _;injection e1 with e1;injection e1 with e1;subst e2;have:=(tSl eIC).uniq u _ _ h h';obtain⟨_,_⟩:=a;obtain⟨_,_⟩:=b;simp only at e1 this
 subst e1;subst this;rfl⟩
end Go.Proofs.YtmplckgbeaifkaaGreatDoor
