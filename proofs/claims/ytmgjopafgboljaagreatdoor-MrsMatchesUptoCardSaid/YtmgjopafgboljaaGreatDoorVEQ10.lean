/- Auxiliary facts. -/
import Derived.Test.YtmgjopafgboljaaGreatDoorVEQ09
import Derived.IntWalk
set_option linter.unusedSimpArgs false
set_option linter.unusedVariables false
namespace Go.Abs
open Go
def GOK (P:Program) (G:A1c) (f:FuncId) (g:List T->Option T):Prop:=∀args r,g args=some r->A1d P G f args (· = r)
abbrev Tbl:=List (Nat×(List T->Option T))
def orcT (tbl:Tbl) (f:FuncId) (args:List T):Option T:=
 match look tbl f with
 | some g=>g args
 | none=>none
structure HOK (P:Program) (G:A1c) (f:FuncId) (h:List PV->Heap->Nat->Option (PV×Heap×Nat)):Prop where
 call:∀ps H nx r H' nx',h ps H nx=some (r,H',nx')->A3n P G f ps H nx r H' nx'
 fresh:∀ps H nx r H' nx',h ps H nx=some (r,H',nx')->(∀b x,look H b=some x->b<nx)->∀b x,look H' b=some x->b<nx'
abbrev HTbl:=List (Nat×(List PV->Heap->Nat->Option (PV×Heap×Nat)))
def orcH (tbl:HTbl) (f:FuncId) (ps:List PV) (H:Heap) (nx:Nat):Option (PV×Heap×Nat):=
 match look tbl f with
 | some g=>g ps H nx
 | none=>none
def orh (tbl:Tbl) (htbl:HTbl):A0u:=⟨orcT tbl,orcH htbl⟩
abbrev orc (tbl:Tbl):A0u:=orh tbl []
@[simp] theorem orh_t (tbl:Tbl) (htbl:HTbl) (f:FuncId) (args:List T):(orh tbl htbl).t f args=orcT tbl f args:=rfl
@[simp] theorem orh_h (tbl:Tbl) (htbl:HTbl) (f:FuncId) (ps:List PV) (H:Heap) (nx:Nat):(orh tbl htbl).h f ps H nx=orcH htbl f ps H nx:=rfl
@[simp] theorem orc_cons (k f:Nat) (g:List T->Option T) (r:Tbl) (args:List T):orcT ((k,g)::r) f args=if k=f then g args else orcT r f args:=by
 unfold orcT;rw[look_cons];by_cases h:k=f
 ·rw[if_pos h,if_pos h]
 ·rw[if_neg h,if_neg h]
@[simp] theorem orc_nil (f:Nat) (args:List T):orcT [] f args=none:=rfl
@[simp] theorem orcH_cons (k f:Nat) (g:List PV->Heap->Nat->Option (PV×Heap×Nat)) (r:HTbl) (ps:List PV) (H:Heap) (nx:Nat):orcH ((k,g)::r) f ps H nx=if k=f then g ps H nx else orcH r f ps H nx:=by
 unfold orcH;rw[look_cons];by_cases h:k=f
 ·rw[if_pos h,if_pos h]
 ·rw[if_neg h,if_neg h]
@[simp] theorem orcH_nil (f:Nat) (ps:List PV) (H:Heap) (nx:Nat):orcH [] f ps H nx=none:=rfl
def A0s (P:Program) (G:A1c) (tbl:Tbl):Prop:=∀q∈tbl,GOK P G q.1 q.2
theorem A0s.nil {P:Program} {G:A1c}:A0s P G []:=fun _ h=>by cases h
theorem A0s.cons {P:Program} {G:A1c} {f:Nat} {g:List T->Option T} {r:Tbl} (h:GOK P G f g) (hr:A0s P G r):A0s P G ((f,g)::r):=fun q hq=>by
 rcases List.mem_cons.1 hq with rfl | hq
 ·exact h
 ·exact hr q hq
def A0v (P:Program) (G:A1c) (tbl:HTbl):Prop:=∀q∈tbl,HOK P G q.1 q.2
theorem A0v.nil {P:Program} {G:A1c}:A0v P G []:=fun _ h=>by cases h
theorem A0v.cons {P:Program} {G:A1c} {f:Nat} {g:List PV->Heap->Nat->Option (PV×Heap×Nat)} {r:HTbl} (h:HOK P G f g) (hr:A0v P G r):A0v P G ((f,g)::r):=fun q hq=>by
 rcases List.mem_cons.1 hq with rfl | hq
 ·exact h
 ·exact hr q hq
theorem A0s.soundH {P:Program} {G:A1c} {tbl:Tbl} {htbl:HTbl} (h:A0s P G tbl) (hh:A0v P G htbl):(orh tbl htbl).Sound P G where
 t:=fun f args r hr=>by
  simp only[orh,orcT]at hr;split at hr
  ·rename_i g hg;exact h _ (A1p hg) args r hr
  ·cases hr
 h:=fun f ps H nx r H' nx' hr=>by
  simp only[orh,orcH]at hr;split at hr
  ·rename_i g hg;exact(hh _ (A1p hg)).call ps H nx r H' nx' hr
  ·cases hr
 fresh:=fun f ps H nx r H' nx' hr=>by
  simp only[orh,orcH]at hr;split at hr
  ·rename_i g hg;exact(hh _ (A1p hg)).fresh ps H nx r H' nx' hr
  ·cases hr
theorem A0s.ctxH {P:Program} {G:A1c} {tbl:Tbl} {htbl:HTbl} (h:A0s P G tbl) (hh:A0v P G htbl) (hm:P.follows .mixedOrders=true):Ctx P G (orh tbl htbl):=⟨hm,h.soundH hh⟩
theorem A0s.ctx {P:Program} {G:A1c} {tbl:Tbl} (h:A0s P G tbl) (hm:P.follows .mixedOrders=true):Ctx P G (orc tbl):=h.ctxH A0v.nil hm
def hOfT (g:List T->Option T) (ps:List PV) (H:Heap) (nx:Nat):Option (PV×Heap×Nat):=
 (toTs H ps).bind fun q=>(g q.1).map fun r=>(.t r,if A3s r then H else remAll H q.2,nx)
theorem GOK.hok {P:Program} {G:A1c} {f:FuncId} {g:List T->Option T} (h:GOK P G f g):HOK P G f (hOfT g) where
 call:=fun ps H nx r H' nx' hr=>by
  unfold hOfT at hr;obtain⟨⟨targs,F⟩,hT,hr⟩:=Option.bind_eq_some_iff.1 hr;obtain⟨r0,hg,e⟩:=A0w hr;injection e with e1 e2;injection e2 with e2 e3;subst e1;subst e2;subst e3;exact(h _ _ hg).callP hT
 fresh:=fun ps H nx r H' nx' hr hf b x hb=>by
  unfold hOfT at hr;obtain⟨⟨targs,F⟩,hT,hr⟩:=Option.bind_eq_some_iff.1 hr;obtain⟨r0,hg,e⟩:=A0w hr;injection e with e1 e2;injection e2 with e2 e3;subst e1;subst e2;subst e3;split at hb
  ·exact hf b x hb
  ·exact hf b x (A1m F H b x hb).1
section
variable {P : Program} {G : A1c} {B N : Nat} {Q : Exit -> A0c -> Prop} {s : A0c}
def C0s (P:Program) (G:A1c) (B:Nat) (S:A0c) (Q:Exit->A0c->Prop):Exit->A0c->Prop
 | .normal,s=>Sub P G B s S/\s.n=S.n
 | e,s=>Q e s
@[simp] theorem roundTo_normal (S:A0c) (s:A0c):C0s P G B S Q .normal s=(Sub P G B s S/\s.n=S.n):=rfl
@[simp] theorem roundTo_ret (S:A0c) (s:A0c):C0s P G B S Q .ret s=Q .ret s:=rfl
@[simp] theorem roundTo_exit (S:A0c) (i:Nat) (s:A0c):C0s P G B S Q (.exit i) s=Q (.exit i) s:=rfl
def B8g (Q:Exit->A0c->Prop):Exit->A0c->Prop
 | .normal,_=>False
 | e,s=>Q e s
@[simp] theorem lastTo_normal (s:A0c):B8g Q .normal s=False:=rfl
@[simp] theorem lastTo_ret (s:A0c):B8g Q .ret s=Q .ret s:=rfl
@[simp] theorem lastTo_exit (i:Nat) (s:A0c):B8g Q (.exit i) s=Q (.exit i) s:=rfl
theorem G0g {x:A0p} (S:Nat->A0c) (n:Nat) (hN:∀j,(S j).n=N) (h0:Sub P G B s (S 0)) (hs:s.n=N) (round:∀j,j<n->MC P G B N x (C0s P G B (S (j+1)) Q) (S j)) (last:MC P G B N x (B8g Q) (S n)):MC P G B N (.loop x) Q s:=by
 refine MC.sub h0 ((hN 0).trans hs.symm) ?_;refine D4s (fun k s=>∃j,j+k=n/\s=S j) n ⟨0,by omega,rfl⟩ (fun k s ⟨j,_,e⟩=>by rw[e];exact hN j) ?_;rintro k s ⟨j,hj,rfl⟩;by_cases hlt:j<n
 ·refine(round j hlt).mono fun e s1 q=>?_;cases e
  case normal=>exact⟨k-1,by omega,S (j+1),q.1,j+1,by omega,rfl⟩
  all_goals exact q
 ·have:j=n:=by omega
  subst this;refine last.mono fun e s1 q=>?_;cases e
  case normal=>exact q.elim
  all_goals exact q
def Next (P:Program) (G:A1c) (B:Nat) {α:Type} (S:α->A0c) (Ok:α->Prop) (s:A0c):Prop:=∃a,Ok a/\Sub P G B s (S a)
theorem Next.mk {α:Type} {S:α->A0c} {Ok:α->Prop} {s:A0c} (a:α) (h:Ok a) (hs:Sub P G B s (S a)):Next P G B S Ok s:=⟨a,h,hs⟩
def B6s (P:Program) (G:A1c) (B:Nat) {α:Type} (S:α->A0c) (Ok:α->Prop) (Q:Exit->A0c->Prop):Exit->A0c->Prop
 | .normal,s=>Next P G B S Ok s
 | e,s=>Q e s
@[simp] theorem whileTo_normal {α:Type} (S:α->A0c) (Ok:α->Prop) (s:A0c):B6s P G B S Ok Q .normal s=Next P G B S Ok s:=rfl
@[simp] theorem whileTo_ret {α:Type} (S:α->A0c) (Ok:α->Prop) (s:A0c):B6s P G B S Ok Q .ret s=Q .ret s:=rfl
@[simp] theorem whileTo_exit {α:Type} (S:α->A0c) (Ok:α->Prop) (i:Nat) (s:A0c):B6s P G B S Ok Q (.exit i) s=Q (.exit i) s:=rfl
theorem A0n {x:A0p} {α:Type} (S:α->A0c) (μ:α->Nat) (Ok:α->Prop) (a0:α) (hN:∀a,(S a).n=N) (hok:Ok a0) (h0:Sub P G B s (S a0)) (hs:s.n=N)
  (round:∀a,Ok a->MC P G B N x (B6s P G B S (fun a'=>Ok a'/\μ a'<μ a) Q) (S a)):MC P G B N (.loop x) Q s:=by
 refine MC.sub h0 ((hN a0).trans hs.symm) ?_;refine D4s (fun k s=>∃a,Ok a/\μ a=k/\s=S a) (μ a0) ⟨a0,hok,rfl,rfl⟩ (fun k s ⟨a,_,_,e⟩=>by rw[e];exact hN a) ?_;rintro k s ⟨a,ha,rfl,rfl⟩;refine(round a ha).mono fun e s1 q=>?_;cases e
 case normal=>obtain⟨a',h1,h2⟩:=q;exact⟨μ a',h1.2,S a',h2,a',h1.1,rfl,rfl⟩
 all_goals exact q
theorem A0q {x y:A0p} {α:Type} (S:α->A0c) (Ok:α->Prop) (hN:∀a,(S a).n=N) (h1:MC P G B N x (B6s P G B S Ok Q) s) (h2:∀a,Ok a->MC P G B N y Q (S a)):MC P G B N (.seq x y) Q s:=by
 intro c hc hn;obtain⟨a,b,rfl,ha,hb⟩:=A2a hc;refine C9i (A4y.post (h1 a ha hn) fun e s1 q=>?_);cases e
 case normal=>
  obtain⟨d,hd,hs⟩:=q;exact⟨S d,hs,h2 d hd b hb (hN d)⟩
 all_goals exact⟨s1,Sub.refl s1,q⟩
end
theorem C6v {z:Int} (h1:-9223372036854775808<=z) (h2:z<=9223372036854775807):IntKind.i64.wrap z=z:=by
 unfold IntKind.wrap IntKind.bits IntKind.signed;simp only[Bool.true_and,Nat.reduceSub]
 have e1:(2:Int)^64=18446744073709551616:=by decide
 have e2:(2:Int)^63=9223372036854775808:=by decide
 simp only[e1,e2,ge_iff_le,decide_eq_true_eq];split<;>omega
theorem A0k {z:Int} {n:Nat} (e:z=n) (h:n<=9223372036854775807):IntKind.i64.wrap z=(n:Int):=by
 rw[C6v (by omega) (by omega),e]
theorem A7e {z:Int} (h1:0<=z) (h2:z<18446744073709551616):IntKind.u64.wrap z=z:=by
 unfold IntKind.wrap IntKind.bits IntKind.signed;simp only[Bool.false_and,Bool.false_eq_true,if_false]
 have e1:(2:Int)^64=18446744073709551616:=by decide
 rw[e1];omega
@[simp] theorem kbits_u64:IntKind.u64.bits=64:=rfl
@[simp] theorem kbits_i64:IntKind.i64.bits=64:=rfl
section
variable {P : Program} {G : A1c}
def A6v (σ:Nat->Nat) (nx NX:Nat) (b:Nat):Nat:=if b<nx then σ b else NX+(b-nx)
end
structure Ty (α:Type) where
 is:T->α->Prop
 uniq:∀t a b,is t a->is t b->a=b
noncomputable def Ty.dec {α:Type} (τ:Ty α) (t:T):Option α:=
 open Classical in if h : ∃ a, τ.is t a then some h.choose else none
theorem Ty.dec_is {α:Type} {τ:Ty α} {t:T} {a:α} (h:τ.is t a):τ.dec t=some a:=by
 unfold Ty.dec
 have hx:∃a,τ.is t a:=⟨a,h⟩
 rw[dif_pos hx];rw[τ.uniq t _ _ hx.choose_spec h]
theorem Ty.is_dec {α:Type} {τ:Ty α} {t:T} {a:α} (h:τ.dec t=some a):τ.is t a:=by
 unfold Ty.dec at h;split at h
 ·rename_i hx;injection h with h;subst h;exact hx.choose_spec
 ·cases h
abbrev iv (n:Int):T:=.v (.int .i64 n)
abbrev bv (b:Bool):T:=.v (.bool b)
abbrev sv (s:ByteArray):T:=.v (.string s)
abbrev nilS:T:=.v (.slice none 0 0)
def tInt:Ty Int:=⟨fun t n=>t=iv n,fun t a b h h'=>by rw[h]at h';injection h' with h';injection h'⟩
def E6l:Ty Bool:=⟨fun t n=>t=bv n,fun t a b h h'=>by rw[h]at h';injection h' with h';injection h'⟩
def tStr:Ty ByteArray:=⟨fun t n=>t=sv n,fun t a b h h'=>by rw[h]at h';injection h' with h';injection h'⟩
structure Enc (α:Type) where
 z:Nat
 enc:α->List T
 len:∀a,(enc a).length=z
 pos:0<z
 inj:∀a b,enc a=enc b->a=b
def slT {α:Type} (e:Enc α) (l:List α):T:=.sl l.length (l.flatMap e.enc)
def IsS {α:Type} (e:Enc α) (t:T) (l:List α):Prop:=(t=nilS/\l=[])\/t=slT e l
theorem C0t {α:Type} (e:Enc α):∀(l m:List α),l.length=m.length->l.flatMap e.enc=m.flatMap e.enc->l=m
 | [],[],_,_=>rfl
 | [],_::_,h,_=>by simp at h
 | _::_,[],h,_=>by simp at h
 | a::l,b::m,h,he=>by
  simp only[List.flatMap_cons]at he;have h1:=List.append_inj he (by rw[e.len,e.len]);rw[e.inj a b h1.1,C0t e l m (by simpa using h) h1.2]
def tSl {α:Type} (e:Enc α):Ty (List α):=⟨IsS e,fun t a b h h'=>by
 rcases h with⟨rfl,rfl⟩ | rfl
 ·rcases h' with⟨_,rfl⟩ | h'
  ·rfl
  ·cases h'
 ·rcases h' with⟨h',_⟩ | h'
  ·cases h'
  ·unfold slT at h';injection h' with h1 h2
   exact C0t e a b h1 h2⟩
def eInt:Enc Int:=⟨1,fun n=>[iv n],fun _=>rfl,by omega,fun a b h=>by injection h with h;injection h with h;injection h⟩
def eStr:Enc ByteArray:=⟨1,fun n=>[sv n],fun _=>rfl,by omega,fun a b h=>by injection h with h;injection h with h;injection h⟩
def A8m:Enc Bool:=⟨1,fun n=>[bv n],fun _=>rfl,by omega,fun a b h=>by injection h with h;injection h with h;injection h⟩
section
variable {α : Type} {e : Enc α} {t : T} {l : List α}
theorem IsS.len (h:IsS e t l):A6t (.t t)=some (.t (iv (l.length:Int))):=by
 rcases h with⟨rfl,rfl⟩ | rfl<;>rfl
def rest (e:Enc α) (l:List α) (i:Nat):List T:=(l.drop (i+1)).flatMap e.enc
theorem B1d (e:Enc α):∀(l:List α) (i:Nat) (x:α),l[i]?=some x->(l.flatMap e.enc).drop (i*e.z)=e.enc x++rest e l i
 | [],i,x,h=>by simp at h
 | a::l,0,x,h=>by
  simp at h;subst h;simp[rest]
 | a::l,i+1,x,h=>by
  have ih:=B1d e l i x (by simpa using h);rw[List.flatMap_cons,Nat.succ_mul,Nat.add_comm,<-List.drop_drop,List.drop_left' (e.len a),ih];simp[rest]
theorem IsS.iaddr (h:IsS e t l) {i:Nat} {x:α} (hx:l[i]?=some x) (k:IntKind):A2e e.z (.t t) (.t (.v (.int k (i:Int))))=some (.t (.pt (e.enc x++rest e l i))):=by
 have hi:i<l.length:=(List.getElem?_eq_some_iff.1 hx).1;rcases h with⟨rfl,rfl⟩ | rfl
 ·simp at hi
 ·simp only[A2e,slT];rw[if_pos ⟨by omega,by omega⟩,Int.toNat_natCast,B1d e l i x hx]
theorem IsS.mk (l:List α):IsS e (slT e l) l:=.inr rfl
end
noncomputable def g1 {α:Type} (τ:Ty α) (f:α->Option T):List T->Option T
 | [a]=>(τ.dec a).bind f
 | _=>none
noncomputable def g2 {α β:Type} (τ:Ty α) (σ:Ty β) (f:α->β->Option T):List T->Option T
 | [a,b]=>(τ.dec a).bind fun x=>(σ.dec b).bind fun y=>f x y
 | _=>none
noncomputable def g3 {α β γ:Type} (τ:Ty α) (σ:Ty β) (ρ:Ty γ) (f:α->β->γ->Option T):List T->Option T
 | [a,b,c]=>(τ.dec a).bind fun x=>(σ.dec b).bind fun y=>(ρ.dec c).bind fun z=>f x y z
 | _=>none
noncomputable def g4 {α β γ δ:Type} (τ:Ty α) (σ:Ty β) (ρ:Ty γ) (π:Ty δ) (f:α->β->γ->δ->Option T):List T->Option T
 | [a,b,c,d]=>(τ.dec a).bind fun x=>(σ.dec b).bind fun y=>(ρ.dec c).bind fun z=>(π.dec d).bind fun u=>f x y z u
 | _=>none
section
variable {P : Program} {G : A1c} {F : FuncId} {α β γ δ : Type} {τ : Ty α} {σ : Ty β} {ρ : Ty γ} {π : Ty δ}
theorem E2p {f:α->Option T} (h:∀a x r,τ.is a x->f x=some r->A1d P G F [a] (· = r)):GOK P G F (g1 τ f):=by
 intro args r e;unfold g1 at e;split at e
 ·obtain⟨x,hx,e⟩:=Option.bind_eq_some_iff.1 e;exact h _ x r (Ty.is_dec hx) e
 ·cases e
theorem E2q {f:α->Option T} {a:T} {x:α} (h:τ.is a x):g1 τ f [a]=f x:=by
 simp only[g1,Ty.dec_is h,Option.bind_some]
theorem D0o {f:α->β->Option T} (h:∀a b x y r,τ.is a x->σ.is b y->f x y=some r->A1d P G F [a,b] (· = r)):GOK P G F (g2 τ σ f):=by
 intro args r e;unfold g2 at e;split at e
 ·obtain⟨x,hx,e⟩:=Option.bind_eq_some_iff.1 e;obtain⟨y,hy,e⟩:=Option.bind_eq_some_iff.1 e;exact h _ _ x y r (Ty.is_dec hx) (Ty.is_dec hy) e
 ·cases e
theorem C6w {f:α->β->Option T} {a b:T} {x:α} {y:β} (h:τ.is a x) (h':σ.is b y):g2 τ σ f [a,b]=f x y:=by
 simp only[g2,Ty.dec_is h,Ty.dec_is h',Option.bind_some]
end
section
variable {α : Type}
def rowP (e:Enc α) (b:Nat):List α->PV
 | []=>.t nilS
 | l=>.row b 0 l.length e.z
def rowH (e:Enc α) (ty b:Nat):List α->Heap
 | []=>[]
 | l=>[(b,.cells ty ((l.flatMap e.enc).map .t))]
def A1a (e:Enc α):List α->T
 | []=>nilS
 | l=>slT e l
def C6x (b:Nat):List α->List Nat
 | []=>[]
 | _=>[b]
theorem IsS.tree (e:Enc α) (l:List α):IsS e (A1a e l) l:=by
 cases l with
 | nil=>exact .inl ⟨rfl,rfl⟩
 | cons x r=>exact .inr rfl
theorem A2p (e:Enc α):∀l:List α,(l.flatMap e.enc).length=l.length*e.z
 | []=>by simp
 | a::l=>by rw[List.flatMap_cons,List.length_append,e.len,A2p e l,List.length_cons,Nat.succ_mul,Nat.add_comm]
theorem D8c (e:Enc α) (σ:Nat->Nat) (b:Nat) (l:List α):ren σ (rowP e b l)=rowP e (σ b) l:=by cases l<;>rfl
theorem C4u (e:Enc α) (n b:Nat) (l:List α) (h:b<n):under n (rowP e b l)=true:=by
 cases l with
 | nil=>rfl
 | cons x r=>simp[rowP,under,h]
end
section
variable {α : Type} {P : Program} {G : A1c} {B : Nat}
def A0l (e:Enc α) (ty:Nat) (l:List α):Row:=.cells ty ((l.flatMap e.enc).map .t)
def A0z (e:Enc α) (ty:Nat) (H:Heap) (b:Nat) (l:List α):Prop:=l=[]\/look H b=some (A0l e ty l)
theorem A0z.nil (e:Enc α) (ty:Nat) (H:Heap) (b:Nat):A0z e ty H b []:=.inl rfl
theorem A0z.cons {e:Enc α} {ty:Nat} {H:Heap} {b:Nat} {l:List α} (h:A0z e ty H b l) {k:Nat} {r:Row} (hk:k≠b):A0z e ty ((k,r)::H) b l:=
 h.imp id fun h=>by rw[look_cons,if_neg hk];exact h
def appH (e:Enc α) (ty:Nat) (H:Heap) (nx b:Nat) (l m:List α):Heap:=
 if(l++m).isEmpty then H else(nx,A0l e ty (l++m))::(if l.isEmpty then H else rem H b)
def appN (nx:Nat) (l m:List α):Nat:=if(l++m).isEmpty then nx else nx+1
theorem C6y {e:Enc α} {ty by':Nat} {H:Heap} {nx b:Nat} {l m:List α} {src:PV} (h:A0z e ty H b l) (hs:srcP H e.z src=some (m.length,(m.flatMap e.enc).map .t))
  (hb:(l.length+m.length)*by'<=140737488355328) (hb2:l.length+m.length<=9223372036854775807) :
  appM ty e.z by' H nx (rowP e b l) src=some (rowP e nx (l++m),appH e ty H nx b l m,appN nx l m):=by
 cases l with
 | nil=>
  cases m with
  | nil=>simp[appM,hs,rowP,appH,appN]
  | cons y m=>
   simp only[List.length_nil,Nat.zero_add]at hb hb2
   have h0:¬(y::m).length=0:=by simp
   simp only[appM,hs,rowP,List.nil_append,appH,appN,List.isEmpty_cons,List.isEmpty_nil,Bool.false_eq_true,if_false,if_true,and_self,h0,hb,hb2,A0l]
 | cons x l=>
  rcases h with h | h
  ·cases h
  ·have hl:(((x::l).flatMap e.enc).map PV.t).length=(x::l).length*e.z:=by rw[List.length_map,A2p]
   simp only[appM,hs,rowP,h,A0l,hl,true_and,if_pos (And.intro hb hb2),List.cons_append,appH,appN,List.isEmpty_cons,Bool.false_eq_true,if_false];simp;omega
theorem C0u {e:Enc α} {ty:Nat} {H:Heap} {nx b:Nat} {l m:List α} {c:Nat} (hc:c≠nx) (hb:c≠b):look (appH e ty H nx b l m) c=look H c:=by
 unfold appH;split
 ·rfl
 ·rw[look_cons,if_neg (Ne.symm hc)];split
  ·rfl
  ·rw[A1e,if_neg hb]
theorem A0z.app {e:Enc α} {ty:Nat} {H:Heap} {nx b:Nat} {l m:List α}:A0z e ty (appH e ty H nx b l m) nx (l++m):=by
 unfold appH;split
 ·rename_i h;left;simpa using h
 ·right;rw[look_cons,if_pos rfl]
theorem A0z.toT {e:Enc α} {ty:Nat} {H:Heap} {b:Nat} {l:List α} (h:A0z e ty H b l):toT H (rowP e b l)=some (A1a e l,C6x b l):=by
 cases l with
 | nil=>rfl
 | cons x r=>
  rcases h with h | h
  ·cases h
  ·have hl:(((x::r).flatMap e.enc).map PV.t).length=(x::r).length*e.z:=by rw[List.length_map,A2p]
   have tk:List.take ((x::r).length*e.z) (((x::r).flatMap e.enc).map PV.t)=((x::r).flatMap e.enc).map PV.t:=List.take_of_length_le (by rw[hl];exact Nat.le_refl _);simp only[rowP,Abs.toT,h,A0l,List.drop_zero,Nat.zero_add,hl,Nat.le_refl,if_true,tk,allT_map_t,Option.map_some];rfl
theorem B9j (e:Enc α) (b:Nat) (l:List α):A6t (rowP e b l)=some (.t (iv (l.length:Int))):=by cases l<;>rfl
theorem E6m {e:Enc α} {H:Heap} {b ty:Nat} (x:α) (h:look H b=some (.cells ty ((e.enc x).map .t))):srcP H e.z (.row b 0 1 e.z)=some ([x].length,([x].flatMap e.enc).map .t):=by
 have hl:((e.enc x).map PV.t).length=e.z:=by rw[List.length_map,e.len]
 have tk:List.take e.z ((e.enc x).map PV.t)=(e.enc x).map PV.t:=List.take_of_length_le (by rw[hl];exact Nat.le_refl _);simp[srcP,h,e.len,tk]
theorem B2f {e:Enc α} {H:Heap} {t:T} {l:List α} (h:IsS e t l):srcP H e.z (.t t)=some (l.length,(l.flatMap e.enc).map .t):=by
 rcases h with⟨rfl,rfl⟩ | rfl
 ·rfl
 ·simp only[srcP,slT,A2p,if_true]
theorem B1e (σ:Nat->Nat) (e:Enc α) (ty:Nat) (l:List α):B3m σ (A0l e ty l)=A0l e ty l:=by
 have:∀m:List T,renL σ (m.map .t)=m.map .t:=by
  intro m
  induction m with
  | nil=>rfl
  | cons x m ih=>simp only[List.map_cons,renL,ren,ih]
 simp only[A0l,B3m,this]
theorem A8n (n:Nat) (e:Enc α) (ty:Nat) (l:List α):A8c n (A0l e ty l)=true:=by
 have:∀m:List T,A4v n (m.map .t)=true:=by
  intro m
  induction m with
  | nil=>rfl
  | cons x m ih=>simp only[List.map_cons,A4v,under,ih,Bool.and_self]
 simp only[A0l,A8c,this]
theorem B5i {e:Enc α} {ty b:Nat} {l:List α} {q:Nat×Row} (h:q∈rowH e ty b l):l≠[]/\q=(b,A0l e ty l):=by
 cases l with
 | nil=>simp[rowH]at h
 | cons x r=>simp only[rowH,List.mem_singleton]at h;exact⟨by simp,h⟩
theorem F2h {e:Enc α} {ty b k nx nx' n:Nat} {l:List α} {env env':List (Nat×PV)} {H:Heap} (h:A0z e ty H k l) (hb:b<nx') (hB:B<=b)
  (he:∀q∈env',look env q.1=some (ren (fun c=>if c=b then k else c) q.2)/\under nx' q.2=true) :
  Sub P G B ⟨env,H,nx,n⟩ ⟨env',rowH e ty b l,nx',n⟩:=by
 refine C0q (fun c=>if c=b then k else c) rfl (by show B<=nx';omega) (fun c hc=>by show(if c=b then k else c)=c;rw[if_neg (by omega)]) he (fun q hq=>?_) (fun q hq q' hq' _=>?_)
 ·obtain⟨hne,rfl⟩:=B5i hq;simp only[if_true,B1e,A8n];rcases h with h | h
  ·exact absurd h hne
  ·exact⟨h,hb,trivial⟩
 ·obtain⟨_,rfl⟩:=B5i hq;obtain⟨_,rfl⟩:=B5i hq';rfl
theorem A8d {nx nx' n:Nat} {env env':List (Nat×PV)} {H:Heap} (hB:B<=nx') (he:∀q∈env',look env q.1=some q.2/\under 0 q.2=true) :
  Sub P G B ⟨env,H,nx,n⟩ ⟨env',[],nx',n⟩:=by
 have key:∀(p:PV),under 0 p=true->ren id p=p/\under nx' p=true:=by
  intro p hp;constructor
  ·have:(∀p:PV,ren id p=p)/\(∀ps:List PV,renL id ps=ps):=by
    constructor
    ·intro p
     exact PV.rec (motive_1:=fun p=>ren id p=p) (motive_2:=fun ps=>renL id ps=ps) (fun x=>rfl) (fun b o n z=>rfl) (fun b o=>rfl) (fun cs ih=>by simp only[ren,ih]) (fun cs ih=>by simp only[ren,ih])
      (fun f a c ih1 ih2=>by simp only[ren,ih1,ih2]) (fun t x ih=>by simp only[ren,ih]) (fun b=>rfl) rfl rfl (fun p ps h1 h2=>by simp only[renL,h1,h2]) p
    ·intro ps
     exact PV.rec_1 (motive_1:=fun p=>ren id p=p) (motive_2:=fun ps=>renL id ps=ps) (fun x=>rfl) (fun b o n z=>rfl) (fun b o=>rfl) (fun cs ih=>by simp only[ren,ih]) (fun cs ih=>by simp only[ren,ih])
      (fun f a c ih1 ih2=>by simp only[ren,ih1,ih2]) (fun t x ih=>by simp only[ren,ih]) (fun b=>rfl) rfl rfl (fun p ps h1 h2=>by simp only[renL,h1,h2]) ps
   exact this.1 p
  ·exact(PV.rec (motive_1:=fun p=>under 0 p=true->under nx' p=true) (motive_2:=fun ps=>A4v 0 ps=true->A4v nx' ps=true) (fun x _=>rfl) (fun b o n z h=>by simp[under]at h) (fun b o h=>by simp[under]at h)
    (fun cs ih h=>by simp only[under]at h ⊢;exact ih h) (fun cs ih h=>by simp only[under]at h ⊢;exact ih h) (fun f a c ih1 ih2 h=>by simp only[under,Bool.and_eq_true]at h ⊢;exact⟨ih1 h.1,ih2 h.2⟩)
    (fun t x ih h=>by simp only[under]at h ⊢;exact ih h) (fun b h=>by simp[under]at h) (fun _=>rfl) (fun _=>rfl) (fun p ps h1 h2 h=>by simp only[A4v,Bool.and_eq_true]at h ⊢;exact⟨h1 h.1,h2 h.2⟩) p) hp
 refine C0q id rfl hB (fun _ _=>rfl) (fun q hq=>?_) (fun q hq=>by simp at hq) (fun q hq=>by simp at hq);obtain⟨h1,h2⟩:=he q hq;obtain⟨h3,h4⟩:=key q.2 h2;rw[h3];exact⟨h1,h4⟩
end
theorem C0v (bs:ByteArray):∀(n i:Nat) (r:List UInt8),bs.size-i=n->ByteArray.toList.loop bs i r=r.reverse++bs.data.toList.drop i
 | 0,i,r,h=>by
  unfold ByteArray.toList.loop
  have hi:¬i<bs.size:=by omega
  have hs:bs.data.toList.length=bs.size:=rfl;rw[if_neg hi,List.drop_eq_nil_of_le (by omega)];simp
 | n+1,i,r,h=>by
  unfold ByteArray.toList.loop
  have hi:i<bs.size:=by omega
  rw[if_pos hi,C0v bs n (i+1) _ (by omega)];have hs:bs.data.toList.length=bs.size:=rfl
  have hl:i<bs.data.toList.length:=by omega
  rw[List.drop_eq_getElem_cons hl,List.reverse_cons,List.append_assoc];congr 2
  have hl':i<bs.data.size:=by simpa using hl
  show bs.data[i]! :: _=_;rw[getElem!_pos bs.data i hl'];rfl
theorem A2d (bs:ByteArray):bs.toList=bs.data.toList:=by
 unfold ByteArray.toList;rw[C0v bs bs.size 0 [] (by omega)];simp
theorem toList_inj {a b:ByteArray} (h:a.toList=b.toList):a=b:=by
 rw[A2d,A2d]at h;cases a;cases b;congr;exact Array.toList_inj.1 h
theorem A2g (a b:ByteArray):(a.toList==b.toList)=decide (a=b):=by
 by_cases h:a=b
 ·subst h;simp
 ·rw[decide_eq_false h,beq_eq_false_iff_ne];exact fun e=>h (toList_inj e)
def A6d (a b:ByteArray):Bool:=Op.bytesLess a.toList b.toList
theorem F2i (a b:ByteArray):Op.bytesLess a.toList b.toList=A6d a b:=rfl
@[simp] theorem evalK_slss {Φ:A0u} {H:Heap} {nx:Nat} (isB:Bool) (nk:Option NK) (a b:ByteArray):A0i Φ H nx (.bin isB .lss nk) [.t (.v (.string a)),.t (.v (.string b))]=some (.t (.v (.bool (A6d a b))),H,nx):=rfl
theorem C4v {Φ:A0u} {H:Heap} {nx:Nat} (isB:Bool) (nk:Option NK) (a b:ByteArray) (h:a.size+b.size<=9223372036854775807):A0i Φ H nx (.bin isB .add nk) [.t (.v (.string a)),.t (.v (.string b))]=some (.t (.v (.string (a++b))),H,nx):=by simp[A0i,binM,h]
theorem D0p:∀l:List UInt8,Op.bytesLess l l=false
 | []=>rfl
 | x::l=>by
  have:=D0p l;simp[Op.bytesLess,this]
theorem D8d:∀{a b c:List UInt8},Op.bytesLess a b=true->Op.bytesLess b c=true->Op.bytesLess a c=true
 | [],[],c,h,_=>by simp[Op.bytesLess]at h
 | [],_::_,[],_,h=>by simp[Op.bytesLess]at h
 | [],_::_,_::_,_,_=>by simp[Op.bytesLess]
 | _::_,[],_,h,_=>by simp[Op.bytesLess]at h
 | _::_,_::_,[],_,h=>by simp[Op.bytesLess]at h
 | x::a,y::b,z::c,h,h'=>by
  simp only[Op.bytesLess,Bool.or_eq_true,Bool.and_eq_true,decide_eq_true_eq,beq_iff_eq]at h h' ⊢;rcases h with h | ⟨rfl,h⟩
  ·rcases h' with h' | ⟨rfl,h'⟩
   ·exact .inl (UInt8.lt_trans h h')
   ·exact .inl h
  ·rcases h' with h' | ⟨rfl,h'⟩
   ·exact .inl h'
   ·exact .inr ⟨rfl,D8d h h'⟩
theorem D8e:∀(a b:List UInt8),Op.bytesLess a b=false->a≠b->Op.bytesLess b a=true
 | [],[],_,h=>absurd rfl h
 | [],_::_,h,_=>by simp[Op.bytesLess]at h
 | _::_,[],_,_=>by simp[Op.bytesLess]
 | x::a,y::b,h,hne=>by
  simp only[Op.bytesLess,Bool.or_eq_false_iff,Bool.and_eq_false_iff,decide_eq_false_iff_not,beq_eq_false_iff_ne,Bool.or_eq_true,Bool.and_eq_true,decide_eq_true_eq,beq_iff_eq]at h ⊢;by_cases e:x=y
  ·subst e;rcases h.2 with h2 | h2
   ·exact absurd rfl h2
   ·exact .inr ⟨rfl,D8e a b h2 (fun e=>hne (by rw[e]))⟩
  ·left;rcases UInt8.lt_or_lt_of_ne e with h1 | h1
   ·exact absurd h1 h.1
   ·exact h1
theorem B4f (a:ByteArray):A6d a a=false:=D0p _
theorem E2r {a b c:ByteArray} (h:A6d a b=true) (h':A6d b c=true):A6d a c=true:=D8d h h'
theorem C4w {a b:ByteArray} (h:A6d a b=false) (hne:a≠b):A6d b a=true:=D8e _ _ h fun e=>hne (toList_inj e)
theorem E2s {a b:ByteArray} (h:A6d a b=true):A6d b a=false:=by
 cases h':A6d b a with
 | false=>rfl
 | true=>rw[<-B4f a];exact(E2r h h').symm
theorem C0w {α:Type} {p:α->Bool} {l:List α} {j:Nat} {y:α} (h:j<l.findIdx p) (hy:l[j]?=some y):p y=false:=by
 have hj:j<l.length:=(List.getElem?_eq_some_iff.1 hy).1;have:=List.not_of_lt_findIdx h;rw[(List.getElem?_eq_some_iff.1 hy).2]at this;simpa using this
theorem C0x {α:Type} {p:α->Bool} {l:List α} (h:l.findIdx p<l.length):∃x,l[l.findIdx p]?=some x/\p x=true:=
 ⟨l[l.findIdx p],List.getElem?_eq_getElem h,List.findIdx_getElem⟩
theorem E2t {α:Type} (p:α->Bool) (l:List α):l.findIdx p<=l.length:=List.findIdx_le_length
theorem D0q {α:Type} {p:α->Bool} {l:List α} (h:l.findIdx p=l.length):∀x∈l,p x=false:=by
 intro x hx;obtain⟨i,hi,e⟩:=List.getElem_of_mem hx;have:=C0w (p:=p) (l:=l) (j:=i) (y:=x) (by omega) (by rw[List.getElem?_eq_getElem hi,e]);exact this
section
variable {α : Type}
theorem F2j {e:Enc α} {ty by':Nat} {H:Heap} {nx b:Nat} {l m:List α} {src:PV} (h:A0z e ty H b l) (hs:srcP H e.z src=some (m.length,(m.flatMap e.enc).map .t))
  (hb:(l.length+m.length)*by'<=140737488355328) (hb2:l.length+m.length<=9223372036854775807) :
  ∃b' H' nx',appM ty e.z by' H nx (rowP e b l) src=some (rowP e b' (l++m),H',nx')/\A0z e ty H' b' (l++m)/\b'≠nx'/\nx<=nx'/\(∀c,c≠b->c<nx->look H' c=look H c)/\nx<=b':=by
 have ap:=C6y (nx:=nx) h hs hb hb2
 by_cases he:l++m=[]
 ·refine⟨nx+1,appH e ty H nx b l m,appN nx l m,?_,by rw[he];exact A0z.nil _ _ _ _,?_,?_,?_,by omega⟩
  ·rw[ap]
   have:∀b',rowP e b' (l++m) = .t nilS:=by intro b';rw[he];rfl
   rw[this,this]
  ·unfold appN;rw[he];simp
  ·unfold appN;rw[he];simp
  ·intro c hc hlt;unfold appH;rw[he];simp
 ·have hne:(l++m).isEmpty=false:=by
   cases hx:l++m with
   | nil=>exact absurd hx he
   | cons _ _=>rfl
  refine⟨nx,appH e ty H nx b l m,appN nx l m,ap,A0z.app,?_,?_,?_,Nat.le_refl _⟩
  ·unfold appN;rw[hne];simp
  ·unfold appN;rw[hne];simp
  ·intro c hc hlt;exact C0u (by omega) hc
variable {e : Enc α} {t : T} {l : List α}
end
section
variable {α : Type} {e : Enc α} {ty b : Nat} {H : Heap} {l : List α}
theorem B6t {i:Nat} {x:α} (hx:l[i]?=some x) (k:IntKind):A2e e.z (rowP e b l) (.t (.v (.int k (i:Int))))=some (.ptr b (i*e.z)):=by
 have hi:i<l.length:=(List.getElem?_eq_some_iff.1 hx).1
 cases l with
 | nil=>simp at hi
 | cons a r=>
  simp only[rowP,A2e];rw[if_pos ⟨by omega,by omega⟩];simp
end
noncomputable def hOne (ps0:List PV) (H0:Heap) (nx0:Nat) (out:PV×Heap×Nat) (ps:List PV) (H:Heap) (nx:Nat):Option (PV×Heap×Nat):=
 open Classical in if ps = ps0 /\ H = H0 /\ nx = nx0 then some out else none
theorem C0y (ps:List PV) (H:Heap) (nx:Nat) (out:PV×Heap×Nat):hOne ps H nx out ps H nx=some out:=by
 unfold hOne;rw[if_pos ⟨rfl,rfl,rfl⟩]
theorem C0z {P:Program} {G:A1c} {f:FuncId} {ps:List PV} {H:Heap} {nx:Nat} {r:PV} {H':Heap} {nx':Nat} (h:A3n P G f ps H nx r H' nx') (hf:(∀b x,look H b=some x->b<nx)->∀b x,look H' b=some x->b<nx'):HOK P G f (hOne ps H nx (r,H',nx')) where
 call:=fun ps1 H1 nx1 r1 H1' nx1' h1=>by
  unfold hOne at h1;split at h1
  ·rename_i hc;obtain⟨rfl,rfl,rfl⟩:=hc;injection h1 with h1;injection h1 with h1 h2;injection h2 with h2 h3;subst h1;subst h2;subst h3;exact h
  ·cases h1
 fresh:=fun ps1 H1 nx1 r1 H1' nx1' h1=>by
  unfold hOne at h1;split at h1
  ·rename_i hc;obtain⟨rfl,rfl,rfl⟩:=hc;injection h1 with h1;injection h1 with h1 h2;injection h2 with h2 h3;subst h1;subst h2;subst h3;exact hf
  ·cases h1
section
variable {α : Type} {P : Program} {G : A1c} {B : Nat}
theorem D8f {e:Enc α} {ty b k nx nx' n:Nat} {l:List α} {env env':List (Nat×PV)} {H R:Heap} (h:A0z e ty H k l) (hb:b<nx') (hB:B<=b)
  (hR:∀q∈R,look H q.1=some (B3m (fun x=>if x=b then k else x) q.2)/\q.1<nx'/\q.1≠b/\q.1≠k/\A8c nx' q.2=true)
  (he:∀q∈env',look env q.1=some (ren (fun x=>if x=b then k else x) q.2)/\under nx' q.2=true) :
  Sub P G B ⟨env,H,nx,n⟩ ⟨env',R++rowH e ty b l,nx',n⟩:=by
 refine C0q (fun x=>if x=b then k else x) rfl (by show B<=nx';omega) (fun x hx=>by show(if x=b then k else x)=x;rw[if_neg (by omega)]) he (fun q hq=>?_) (fun q hq q' hq' eqn=>?_)
 ·rcases List.mem_append.1 hq with hq | hq
  ·obtain⟨h1,h2,h3,h4,h5⟩:=hR q hq;refine⟨?_,h2,h5⟩;show look H (if q.1=b then k else q.1)=_;rw[if_neg h3];exact h1
  ·obtain⟨hn,rfl⟩:=B5i hq;simp only[if_true,B1e,A8n];exact⟨h.resolve_left hn,hb,trivial⟩
 ·have key:∀q∈R++rowH e ty b l,q.1=b\/(q.1≠b/\q.1≠k):=by
   intro q hq;rcases List.mem_append.1 hq with hq | hq
   ·obtain⟨h1,h2,h3,h4,h5⟩:=hR q hq;exact .inr ⟨h3,h4⟩
   ·obtain⟨hn,rfl⟩:=B5i hq;exact .inl rfl
  have e:(if q.1=b then k else q.1)=(if q'.1=b then k else q'.1):=eqn;rcases key q hq with h1 | ⟨h1,h2⟩<;>rcases key q' hq' with h1' | ⟨h1',h2'⟩
  ·rw[h1,h1']
  ·rw[if_pos h1,if_neg h1']at e;exact absurd e.symm h2'
  ·rw[if_neg h1,if_pos h1']at e;exact absurd e h2
  ·rw[if_neg h1,if_neg h1']at e;exact e
end
structure Ag where
 role:ByteArray
 var:Int
structure Ep where
 pred:ByteArray
 label:Int
 args:List Ag
structure Qq where
 high:Int
 low:Int
structure Mr where
 top:Int
 index:Int
 vars:List ByteArray
 rels:List Ep
 cons:List Qq
def eAg:Enc Ag:=⟨2,fun a=>[sv a.role,iv a.var],fun _=>rfl,by omega,fun a b h=>by
 obtain⟨_,_⟩:=a;obtain⟨_,_⟩:=b;injection h with h1 h;injection h with h2 _;injection h1 with h1;injection h1 with h1;injection h2 with h2;injection h2 with _ h2;simp only at h1 h2
 subst h1;subst h2;rfl⟩
def eQq:Enc Qq:=⟨2,fun c=>[iv c.high,iv c.low],fun _=>rfl,by omega,fun a b h=>by
 obtain⟨_,_⟩:=a;obtain⟨_,_⟩:=b;injection h with h1 h;injection h with h2 _;injection h1 with h1;injection h1 with _ h1;injection h2 with h2;injection h2 with _ h2;simp only at h1 h2
 subst h1;subst h2;rfl⟩
def IsEp (x:Ep) (cs:List T):Prop:=∃ta,cs=[sv x.pred,iv x.label,ta]/\IsS eAg ta x.args
theorem IsEp.len {x:Ep} {cs:List T} (h:IsEp x cs):cs.length=3:=by obtain⟨ta,rfl,_⟩:=h;rfl
theorem IsEp.uniq {x y:Ep} {cs:List T} (h:IsEp x cs) (k:IsEp y cs):x=y:=by
 obtain⟨ta,rfl,h1⟩:=h;obtain⟨tb,e,k1⟩:=k;obtain⟨p,l,as⟩:=x;obtain⟨p',l',as'⟩:=y;injection e with e1 e;injection e with e2 e;injection e with e3 _;injection e1 with e1;injection e1 with e1;injection e2 with e2;injection e2 with _ e2;simp only at e1 e2 h1 k1;subst e1;subst e2;subst e3;obtain rfl:=(tSl eAg).uniq ta as as' h1 k1;rfl
structure EC where
 x:Ep
 cs:List T
 ok:IsEp x cs
theorem EC.ext {a b:EC} (h:a.cs=b.cs):a=b:=by
 obtain⟨x,cs,ok⟩:=a;obtain⟨x',cs',ok'⟩:=b;simp only at h;subst h;obtain rfl:=ok.uniq ok';rfl
def eEC:Enc EC:=⟨3,EC.cs,fun a=>a.ok.len,by omega,fun _ _ h=>EC.ext h⟩
def encE (x:Ep):List T:=[sv x.pred,iv x.label,A1a eAg x.args]
def EC.of (x:Ep):EC:=⟨x,encE x,_,rfl,IsS.tree _ _⟩
def tEp:Ty EC:=⟨fun t c=>t = .ag c.cs,fun t a b h h'=>by rw[h]at h';injection h' with h';exact EC.ext h'⟩
def IsMr (m:Mr) (cs:List T):Prop:=∃(tv tr tc:T) (rl:List EC),cs=[iv m.top,iv m.index,tv,tr,tc]/\IsS eStr tv m.vars/\IsS eEC tr rl/\rl.map EC.x=m.rels/\IsS eQq tc m.cons
theorem IsMr.uniq {m n:Mr} {cs:List T} (h:IsMr m cs) (k:IsMr n cs):m=n:=by
 obtain⟨tv,tr,tc,rl,rfl,h1,h2,h3,h4⟩:=h;obtain⟨tv',tr',tc',rl',e,k1,k2,k3,k4⟩:=k;obtain⟨a,b,c,d,f⟩:=m;obtain⟨a',b',c',d',f'⟩:=n;injection e with e1 e;injection e with e2 e;injection e with e3 e;injection e with e4 e;injection e with e5 _;injection e1 with e1;injection e1 with _ e1;injection e2 with e2;injection e2 with _ e2;simp only at e1 e2 h1 h3 h4 k1 k3 k4;subst e1;subst e2;subst e3;subst e4;subst e5;obtain rfl:=(tSl eStr).uniq tv c c' h1 k1;obtain rfl:=(tSl eEC).uniq tr rl rl' h2 k2;obtain rfl:=(tSl eQq).uniq tc f f' h4 k4;rw[<-h3,<-k3]
def encM (m:Mr):List T:=[iv m.top,iv m.index,A1a eStr m.vars,A1a eEC (m.rels.map EC.of),A1a eQq m.cons]
theorem F5e (l:List Ep):(l.map EC.of).map EC.x=l:=by rw[List.map_map,show(EC.x∘EC.of)=id from rfl,List.map_id]
theorem A3h (m:Mr):IsMr m (encM m):=⟨_,_,_,_,rfl,IsS.tree _ _,IsS.tree _ _,F5e _,IsS.tree _ _⟩
def occE (x:Ep):List Int:=x.label::x.args.map (·.var)
def occC (c:Qq):List Int:=[c.high,c.low]
def occ (m:Mr):List Int:=m.top::m.index::(m.rels.flatMap occE++m.cons.flatMap occC)
def hnd (m:Mr):List Int:=m.top::(m.rels.map Ep.label++m.cons.flatMap occC)
def plc (x:Int):Nat->List Int->Int
 | _,[]=>-1
 | i,y::r=>if y=x then(i:Int)else plc x (i+1) r
theorem E6n {x:Int}:∀{l:List Int} {i:Nat} {n:Nat},plc x i l=(n:Int)->i<=n/\l[n-i]?=some x
 | [],i,n,h=>by rw[plc]at h;omega
 | y::r,i,n,h=>by
  rw[plc]at h;split at h
  ·rename_i e
   have:i=n:=by omega
   subst this;exact⟨Nat.le_refl _,by simp[e]⟩
  ·obtain⟨h1,h2⟩:=E6n h;refine⟨by omega,?_⟩;rw[show n-i=(n-(i+1))+1 by omega,List.getElem?_cons_succ];exact h2
theorem C6z {x:Int}:∀{l:List Int} {i:Nat},x∈l->∃n:Nat,plc x i l=(n:Int)/\i<=n/\n<i+l.length
 | [],i,h=>by cases h
 | y::r,i,h=>by
  rw[plc];by_cases e:y=x
  ·rw[if_pos e];exact⟨i,rfl,Nat.le_refl _,by simp⟩
  ·rw[if_neg e];obtain⟨n,h1,h2,h3⟩:=C6z (i:=i+1) ((List.mem_cons.1 h).resolve_left fun k=>e k.symm);exact⟨n,h1,by omega,by simp only[List.length_cons];omega⟩
theorem D4u {x:Int}:∀{l:List Int} {i:Nat},x∉l->plc x i l = -1
 | [],i,_=>rfl
 | y::r,i,h=>by
  rw[plc,if_neg (fun e=>h (by simp[e])),D4u (fun k=>h (by simp[k]))]
theorem B1f {x:Int} {l:List Int} {i:Nat}:plc x i l<0 ↔ x∉l:=by
 constructor
 ·intro h k;obtain⟨n,h1,_⟩:=C6z (i:=i) k;omega
 ·intro h;rw[D4u h];decide
def fst1:List Int->List Int->List Int
 | acc,[]=>acc
 | acc,x::r=>fst1 (if x∈acc then acc else acc++[x]) r
theorem B5j:∀{l acc:List Int} {x:Int},x∈fst1 acc l ↔ x∈acc\/x∈l
 | [],acc,x=>by simp[fst1]
 | y::r,acc,x=>by
  rw[fst1,B5j];by_cases h:y∈acc
  ·rw[if_pos h];constructor
   ·rintro(h1 | h1)
    ·exact .inl h1
    ·exact .inr (by simp[h1])
   ·rintro(h1 | h1)
    ·exact .inl h1
    ·rcases List.mem_cons.1 h1 with rfl | h1
     ·exact .inl h
     ·exact .inr h1
  ·rw[if_neg h];simp only[List.mem_append,List.mem_cons,List.not_mem_nil,or_false,or_assoc]
theorem B2g:∀{l acc:List Int},acc.Nodup->(fst1 acc l).Nodup
 | [],acc,h=>h
 | y::r,acc,h=>by
  rw[fst1];by_cases hy:y∈acc
  ·rw[if_pos hy];exact B2g h
  ·rw[if_neg hy];refine B2g ?_;rw[List.nodup_append];exact⟨h,by simp,fun a ha b hb=>by rw[List.mem_singleton.1 hb];exact fun e=>hy (e▸ha)⟩
theorem C7a:∀{l acc:List Int},∃r,fst1 acc l=acc++r
 | [],acc=>⟨[],by simp[fst1]⟩
 | y::r,acc=>by
  rw[fst1];obtain⟨s,hs⟩:=C7a (l:=r) (acc:=if y∈acc then acc else acc++[y]);rw[hs];by_cases hy:y∈acc
  ·rw[if_pos hy];exact⟨s,rfl⟩
  ·rw[if_neg hy];exact⟨y::s,by simp⟩
def fsts (m:Mr):List Int:=fst1 [] (occ m)
def upN (n:Nat):List Int:=(List.range n).map fun i:Nat=>(i:Int)
theorem F2k (n:Nat):upN (n+1)=upN n++[(n:Int)]:=by simp[upN,List.range_succ]
theorem A2u (n:Nat):(upN n).length=n:=by simp[upN]
theorem A2h {n:Nat} {x:Int}:x∈upN n ↔ 0<=x/\x<n:=by
 simp only[upN,List.mem_map,List.mem_range];constructor
 ·rintro⟨i,h,rfl⟩;omega
 ·rintro⟨h1,h2⟩;exact⟨x.toNat,by omega,by omega⟩
def D0r:Nat->List Int->Option Nat
 | n,[]=>some n
 | n,x::r=>if(n:Int)<x then none else if x=n then D0r (n+1) r else D0r n r
theorem C1a:∀{l:List Int} {n:Nat},(∀x∈l,0<=x)->∀k,D0r n l=some k ↔ fst1 (upN n) l=upN k
 | [],n,_,k=>by
  simp only[D0r,fst1,Option.some.injEq];constructor
  ·rintro rfl;rfl
  ·intro h;have:=congrArg List.length h;rwa[A2u,A2u]at this
 | x::r,n,h,k=>by
  have h0:0<=x:=h x (by simp);have hr:∀y∈r,0<=y:=fun y hy=>h y (by simp[hy]);rw[D0r,fst1];by_cases h1:(n:Int)<x
  ·rw[if_pos h1,if_neg (by rw[A2h];omega)];constructor
   ·intro e;cases e
   ·intro e;exfalso;obtain⟨s,hs⟩:=C7a (l:=r) (acc:=upN n++[x]);rw[e]at hs;have hl:=congrArg List.length hs;simp only[List.length_append,A2u,List.length_cons,List.length_nil]at hl
    have h2:(upN k)[n]?=some x:=by rw[hs,List.getElem?_append_left (by simp[A2u]),List.getElem?_append_right (by simp[A2u])];simp[A2u]
    have h3:(upN k)[n]?=some (n:Int):=by
     rw[upN,List.getElem?_map,List.getElem?_range (by omega)];rfl
    rw[h2]at h3;injection h3 with h3;omega
  ·rw[if_neg h1];by_cases h2:x=n
   ·rw[if_pos h2,if_neg (by rw[A2h];omega),h2,<-F2k];exact C1a hr k
   ·rw[if_neg h2,if_pos (by rw[A2h];omega)];exact C1a hr k
def A2q (m:Mr):Bool:=decide (fsts m=upN m.vars.length)
def wH:ByteArray:=⟨#[104]⟩
def A3d (s:ByteArray):Bool:=decide (s=wH)||(decide (s=⟨#[101]⟩)||(decide (s=⟨#[120]⟩)||decide (s=⟨#[105]⟩)))
def B8h:ByteArray:=⟨#[76,65,66,69,76]⟩
end Go.Abs
