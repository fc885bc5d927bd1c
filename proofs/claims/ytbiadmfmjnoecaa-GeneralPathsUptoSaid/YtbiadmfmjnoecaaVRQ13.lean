/-
 Auxiliary facts. No statement of the program stands here.
-/
import Derived.Test.YtbiadmfmjnoecaaVRQ12
import Derived.IntWalk
namespace Go.Abs
set_option linter.unusedSimpArgs false
set_option linter.unusedVariables false
open Go
def GOK (P:Program) (G:A1f) (f:FuncId) (g:List T->Option T):Prop:=∀args r,g args=some r->A0y P G f args (· = r)
abbrev Tbl:=List (Nat×(List T->Option T))
def orcT (tbl:Tbl) (f:FuncId) (args:List T):Option T:=
 match look tbl f with
 | some g=>g args
 | none=>none
structure HOK (P:Program) (G:A1f) (f:FuncId) (h:List PV->Heap->Nat->Option (PV×Heap×Nat)):Prop where
 call:∀ps H nx r H' nx',h ps H nx=some (r,H',nx')->A5s P G f ps H nx r H' nx'
 fresh:∀ps H nx r H' nx',h ps H nx=some (r,H',nx')->(∀b x,look H b=some x->b<nx)->∀b x,look H' b=some x->b<nx'
abbrev HTbl:=List (Nat×(List PV->Heap->Nat->Option (PV×Heap×Nat)))
def orcH (tbl:HTbl) (f:FuncId) (ps:List PV) (H:Heap) (nx:Nat):Option (PV×Heap×Nat):=
 match look tbl f with
 | some g=>g ps H nx
 | none=>none
def orh (tbl:Tbl) (htbl:HTbl):A1c:=⟨orcT tbl,orcH htbl⟩
abbrev orc (tbl:Tbl):A1c:=orh tbl []
@[simp] theorem orh_t (tbl:Tbl) (htbl:HTbl) (f:FuncId) (args:List T):(orh tbl htbl).t f args=orcT tbl f args:=rfl
@[simp] theorem orh_h (tbl:Tbl) (htbl:HTbl) (f:FuncId) (ps:List PV) (H:Heap) (nx:Nat):(orh tbl htbl).h f ps H nx=orcH htbl f ps H nx:=rfl
@[simp] theorem orc_cons (k f:Nat) (g:List T->Option T) (r:Tbl) (args:List T):orcT ((k,g)::r) f args=if k=f then g args else orcT r f args:=by
 unfold orcT
 rw[look_cons]
 by_cases h:k=f
 ·rw[if_pos h,if_pos h]
 ·rw[if_neg h,if_neg h]
@[simp] theorem orc_nil (f:Nat) (args:List T):orcT [] f args=none:=rfl
@[simp] theorem orcH_cons (k f:Nat) (g:List PV->Heap->Nat->Option (PV×Heap×Nat)) (r:HTbl) (ps:List PV) (H:Heap) (nx:Nat):orcH ((k,g)::r) f ps H nx=if k=f then g ps H nx else orcH r f ps H nx:=by
 unfold orcH
 rw[look_cons]
 by_cases h:k=f
 ·rw[if_pos h,if_pos h]
 ·rw[if_neg h,if_neg h]
@[simp] theorem orcH_nil (f:Nat) (ps:List PV) (H:Heap) (nx:Nat):orcH [] f ps H nx=none:=rfl
def A1t (P:Program) (G:A1f) (tbl:Tbl):Prop:=∀q∈tbl,GOK P G q.1 q.2
theorem A1t.nil {P:Program} {G:A1f}:A1t P G []:=fun _ h=>by cases h
theorem A1t.cons {P:Program} {G:A1f} {f:Nat} {g:List T->Option T} {r:Tbl} (h:GOK P G f g) (hr:A1t P G r):A1t P G ((f,g)::r):=fun q hq=>by
 rcases List.mem_cons.1 hq with rfl | hq
 ·exact h
 ·exact hr q hq
def A8b (P:Program) (G:A1f) (tbl:HTbl):Prop:=∀q∈tbl,HOK P G q.1 q.2
theorem A8b.nil {P:Program} {G:A1f}:A8b P G []:=fun _ h=>by cases h
theorem A8b.cons {P:Program} {G:A1f} {f:Nat} {g:List PV->Heap->Nat->Option (PV×Heap×Nat)} {r:HTbl} (h:HOK P G f g) (hr:A8b P G r):A8b P G ((f,g)::r):=fun q hq=>by
 rcases List.mem_cons.1 hq with rfl | hq
 ·exact h
 ·exact hr q hq
theorem A1t.soundH {P:Program} {G:A1f} {tbl:Tbl} {htbl:HTbl} (h:A1t P G tbl) (hh:A8b P G htbl):(orh tbl htbl).Sound P G where
 t:=fun f args r hr=>by
  simp only[orh,orcT]at hr
  split at hr
  ·rename_i g hg
   exact h _ (A0p hg) args r hr
  ·cases hr
 h:=fun f ps H nx r H' nx' hr=>by
  simp only[orh,orcH]at hr
  split at hr
  ·rename_i g hg
   exact(hh _ (A0p hg)).call ps H nx r H' nx' hr
  ·cases hr
 fresh:=fun f ps H nx r H' nx' hr=>by
  simp only[orh,orcH]at hr
  split at hr
  ·rename_i g hg
   exact(hh _ (A0p hg)).fresh ps H nx r H' nx' hr
  ·cases hr
theorem A1t.ctxH {P:Program} {G:A1f} {tbl:Tbl} {htbl:HTbl} (h:A1t P G tbl) (hh:A8b P G htbl) (hm:P.follows .mixedOrders=true):Ctx P G (orh tbl htbl):=⟨hm,h.soundH hh⟩
theorem A1t.ctx {P:Program} {G:A1f} {tbl:Tbl} (h:A1t P G tbl) (hm:P.follows .mixedOrders=true):Ctx P G (orc tbl):=h.ctxH A8b.nil hm
section
variable {P : Program} {G : A1f} {B N : Nat} {Q : Exit -> A0b -> Prop} {s : A0b}
def C6j (P:Program) (G:A1f) (B:Nat) (S:A0b) (Q:Exit->A0b->Prop):Exit->A0b->Prop
 | .normal,s=>Sub P G B s S/\s.n=S.n
 | e,s=>Q e s
@[simp] theorem roundTo_normal (S:A0b) (s:A0b):C6j P G B S Q .normal s=(Sub P G B s S/\s.n=S.n):=rfl
@[simp] theorem roundTo_ret (S:A0b) (s:A0b):C6j P G B S Q .ret s=Q .ret s:=rfl
@[simp] theorem roundTo_exit (S:A0b) (i:Nat) (s:A0b):C6j P G B S Q (.exit i) s=Q (.exit i) s:=rfl
def E6k (Q:Exit->A0b->Prop):Exit->A0b->Prop
 | .normal,_=>False
 | e,s=>Q e s
@[simp] theorem lastTo_normal (s:A0b):E6k Q .normal s=False:=rfl
@[simp] theorem lastTo_ret (s:A0b):E6k Q .ret s=Q .ret s:=rfl
@[simp] theorem lastTo_exit (i:Nat) (s:A0b):E6k Q (.exit i) s=Q (.exit i) s:=rfl
theorem A1b {x:A0n} (S:Nat->A0b) (n:Nat) (hN:∀j,(S j).n=N) (h0:Sub P G B s (S 0)) (hs:s.n=N) (round:∀j,j<n->MC P G B N x (C6j P G B (S (j+1)) Q) (S j)) (last:MC P G B N x (E6k Q) (S n)):MC P G B N (.loop x) Q s:=by
 refine MC.sub h0 ((hN 0).trans hs.symm) ?_
 refine E2l (fun k s=>∃j,j+k=n/\s=S j) n ⟨0,by omega,rfl⟩ (fun k s ⟨j,_,e⟩=>by rw[e];exact hN j) ?_
 rintro k s ⟨j,hj,rfl⟩
 by_cases hlt:j<n
 ·refine(round j hlt).mono fun e s1 q=>?_
  cases e
  case normal=>exact⟨k-1,by omega,S (j+1),q.1,j+1,by omega,rfl⟩
  all_goals exact q
 ·have:j=n:=by omega
  subst this
  refine last.mono fun e s1 q=>?_
  cases e
  case normal=>exact q.elim
  all_goals exact q
def Next (P:Program) (G:A1f) (B:Nat) {α:Type} (S:α->A0b) (Ok:α->Prop) (s:A0b):Prop:=∃a,Ok a/\Sub P G B s (S a)
theorem Next.mk {α:Type} {S:α->A0b} {Ok:α->Prop} {s:A0b} (a:α) (h:Ok a) (hs:Sub P G B s (S a)):Next P G B S Ok s:=⟨a,h,hs⟩
def B7u (P:Program) (G:A1f) (B:Nat) {α:Type} (S:α->A0b) (Ok:α->Prop) (Q:Exit->A0b->Prop):Exit->A0b->Prop
 | .normal,s=>Next P G B S Ok s
 | e,s=>Q e s
@[simp] theorem whileTo_normal {α:Type} (S:α->A0b) (Ok:α->Prop) (s:A0b):B7u P G B S Ok Q .normal s=Next P G B S Ok s:=rfl
@[simp] theorem whileTo_ret {α:Type} (S:α->A0b) (Ok:α->Prop) (s:A0b):B7u P G B S Ok Q .ret s=Q .ret s:=rfl
@[simp] theorem whileTo_exit {α:Type} (S:α->A0b) (Ok:α->Prop) (i:Nat) (s:A0b):B7u P G B S Ok Q (.exit i) s=Q (.exit i) s:=rfl
theorem A2o {x:A0n} {α:Type} (S:α->A0b) (μ:α->Nat) (Ok:α->Prop) (a0:α) (hN:∀a,(S a).n=N) (hok:Ok a0) (h0:Sub P G B s (S a0)) (hs:s.n=N)
  (round:∀a,Ok a->MC P G B N x (B7u P G B S (fun a'=>Ok a'/\μ a'<μ a) Q) (S a)):MC P G B N (.loop x) Q s:=by
 refine MC.sub h0 ((hN a0).trans hs.symm) ?_
 refine E2l (fun k s=>∃a,Ok a/\μ a=k/\s=S a) (μ a0) ⟨a0,hok,rfl,rfl⟩ (fun k s ⟨a,_,_,e⟩=>by rw[e];exact hN a) ?_
 rintro k s ⟨a,ha,rfl,rfl⟩
 refine(round a ha).mono fun e s1 q=>?_
 cases e
 case normal=>obtain⟨a',h1,h2⟩:=q;exact⟨μ a',h1.2,S a',h2,a',h1.1,rfl,rfl⟩
 all_goals exact q
theorem A0s {x y:A0n} {α:Type} (S:α->A0b) (Ok:α->Prop) (hN:∀a,(S a).n=N) (h1:MC P G B N x (B7u P G B S Ok Q) s) (h2:∀a,Ok a->MC P G B N y Q (S a)):MC P G B N (.seq x y) Q s:=by
 intro c hc hn
 obtain⟨a,b,rfl,ha,hb⟩:=A2u hc
 refine A8s (A3l.post (h1 a ha hn) fun e s1 q=>?_)
 cases e
 case normal=>
  obtain⟨d,hd,hs⟩:=q
  exact⟨S d,hs,h2 d hd b hb (hN d)⟩
 all_goals exact⟨s1,Sub.refl s1,q⟩
end
theorem A8h {z:Int} (h1:-9223372036854775808<=z) (h2:z<=9223372036854775807):IntKind.i64.wrap z=z:=by
 unfold IntKind.wrap IntKind.bits IntKind.signed
 simp only[Bool.true_and,Nat.reduceSub]
 have e1:(2:Int)^64=18446744073709551616:=by decide
 have e2:(2:Int)^63=9223372036854775808:=by decide
 simp only[e1,e2,ge_iff_le,decide_eq_true_eq]
 split<;>omega
theorem A0l {z:Int} {n:Nat} (e:z=n) (h:n<=9223372036854775807):IntKind.i64.wrap z=(n:Int):=by
 rw[A8h (by omega) (by omega),e]
theorem C5n {z:Int} (h1:0<=z) (h2:z<18446744073709551616):IntKind.u64.wrap z=z:=by
 unfold IntKind.wrap IntKind.bits IntKind.signed
 simp only[Bool.false_and,Bool.false_eq_true,if_false]
 have e1:(2:Int)^64=18446744073709551616:=by decide
 rw[e1]
 omega
@[simp] theorem kbits_u64:IntKind.u64.bits=64:=rfl
@[simp] theorem kbits_i64:IntKind.i64.bits=64:=rfl
theorem A5f (x:BitVec 64):BitVec.ofInt 64 (x.toNat:Int)=x:=by
 apply BitVec.eq_of_toNat_eq
 rw[BitVec.toNat_ofInt]
 have:=x.isLt
 omega
theorem B0u (x:BitVec 64):IntKind.u64.wrap (x.toNat:Int)=(x.toNat:Int):=C5n (by omega) (by have:=x.isLt;omega)
end Go.Abs
