/-
 Auxiliary facts. No statement of the program stands here.
-/
import Derived.Test.YtmplckgbeaifkaaGreatDoorVBQ11
import Derived.IntWalk
namespace Go.Abs
set_option linter.unusedSimpArgs false
set_option linter.unusedVariables false
open Go
def GOK (P:Program) (G:A0u) (f:FuncId) (g:List T->Option T):Prop:=∀args r,g args=some r->A0w P G f args (· = r)
abbrev Tbl:=List (Nat×(List T->Option T))
def orcT (tbl:Tbl) (f:FuncId) (args:List T):Option T:=
 match look tbl f with
 | some g=>g args
 | none=>none
structure HOK (P:Program) (G:A0u) (f:FuncId) (h:List PV->Heap->Nat->Option (PV×Heap×Nat)):Prop where
 call:∀ps H nx r H' nx',h ps H nx=some (r,H',nx')->A2g P G f ps H nx r H' nx'
 fresh:∀ps H nx r H' nx',h ps H nx=some (r,H',nx')->(∀b x,look H b=some x->b<nx)->∀b x,look H' b=some x->b<nx'
abbrev HTbl:=List (Nat×(List PV->Heap->Nat->Option (PV×Heap×Nat)))
def orcH (tbl:HTbl) (f:FuncId) (ps:List PV) (H:Heap) (nx:Nat):Option (PV×Heap×Nat):=
 match look tbl f with
 | some g=>g ps H nx
 | none=>none
def orh (tbl:Tbl) (htbl:HTbl):A0v:=⟨orcT tbl,orcH htbl⟩
abbrev orc (tbl:Tbl):A0v:=orh tbl []
@[simp] theorem orh_t (tbl:Tbl) (htbl:HTbl) (f:FuncId) (args:List T):(orh tbl htbl).t f args=orcT tbl f args:=rfl
@[simp] theorem orh_h (tbl:Tbl) (htbl:HTbl) (f:FuncId) (ps:List PV) (H:Heap) (nx:Nat):(orh tbl htbl).h f ps H nx=orcH htbl f ps H nx:=rfl
@[simp] theorem orc_cons (k f:Nat) (g:List T->Option T) (r:Tbl) (args:List T):orcT ((k,g)::r) f args=if k=f then g args else orcT r f args:=by
 unfold orcT;rw[look_cons];by_cases h:k=f
 ·rw[if_pos h,if_pos h]
 ·rw[if_neg h,if_neg h]
@[simp] theorem orc_nil (f:Nat) (args:List T):orcT [] f args=none:=rfl
@[simp] theorem orcH_cons (k f:Nat) (g:List PV->Heap->Nat->Option (PV×Heap×Nat)) (r:HTbl) (ps:List PV) (H:Heap) (nx:Nat):orcH ((k,g)::r) f ps H nx=if k=f then g ps H nx else orcH r f ps H nx:=by
 unfold orcH;rw[look_cons];by_cases h:k=f
 ·rw[if_pos h,if_pos h]
 ·rw[if_neg h,if_neg h]
@[simp] theorem orcH_nil (f:Nat) (ps:List PV) (H:Heap) (nx:Nat):orcH [] f ps H nx=none:=rfl
def A0y (P:Program) (G:A0u) (tbl:Tbl):Prop:=∀q∈tbl,GOK P G q.1 q.2
theorem A0y.nil {P:Program} {G:A0u}:A0y P G []:=fun _ h=>by cases h
theorem A0y.cons {P:Program} {G:A0u} {f:Nat} {g:List T->Option T} {r:Tbl} (h:GOK P G f g) (hr:A0y P G r):A0y P G ((f,g)::r):=fun q hq=>by
 rcases List.mem_cons.1 hq with rfl | hq
 ·exact h
 ·exact hr q hq
def A2s (P:Program) (G:A0u) (tbl:HTbl):Prop:=∀q∈tbl,HOK P G q.1 q.2
theorem A2s.nil {P:Program} {G:A0u}:A2s P G []:=fun _ h=>by cases h
theorem A2s.cons {P:Program} {G:A0u} {f:Nat} {g:List PV->Heap->Nat->Option (PV×Heap×Nat)} {r:HTbl} (h:HOK P G f g) (hr:A2s P G r):A2s P G ((f,g)::r):=fun q hq=>by
 rcases List.mem_cons.1 hq with rfl | hq
 ·exact h
 ·exact hr q hq
theorem A0y.soundH {P:Program} {G:A0u} {tbl:Tbl} {htbl:HTbl} (h:A0y P G tbl) (hh:A2s P G htbl):(orh tbl htbl).Sound P G where
 t:=fun f args r hr=>by
  simp only[orh,orcT]at hr;split at hr
  ·rename_i g hg;exact h _ (A0n hg) args r hr
  ·cases hr
 h:=fun f ps H nx r H' nx' hr=>by
  simp only[orh,orcH]at hr;split at hr
  ·rename_i g hg;exact(hh _ (A0n hg)).call ps H nx r H' nx' hr
  ·cases hr
 fresh:=fun f ps H nx r H' nx' hr=>by
  simp only[orh,orcH]at hr;split at hr
  ·rename_i g hg;exact(hh _ (A0n hg)).fresh ps H nx r H' nx' hr
  ·cases hr
theorem A0y.ctxH {P:Program} {G:A0u} {tbl:Tbl} {htbl:HTbl} (h:A0y P G tbl) (hh:A2s P G htbl) (hm:P.follows .mixedOrders=true):Ctx P G (orh tbl htbl):=⟨hm,h.soundH hh⟩
theorem A0y.ctx {P:Program} {G:A0u} {tbl:Tbl} (h:A0y P G tbl) (hm:P.follows .mixedOrders=true):Ctx P G (orc tbl):=h.ctxH A2s.nil hm
def hOfT (g:List T->Option T) (ps:List PV) (H:Heap) (nx:Nat):Option (PV×Heap×Nat):=
 (toTs H ps).bind fun q=>(g q.1).map fun r=>(.t r,if A4r r then H else remAll H q.2,nx)
theorem GOK.hok {P:Program} {G:A0u} {f:FuncId} {g:List T->Option T} (h:GOK P G f g):HOK P G f (hOfT g) where
 call:=fun ps H nx r H' nx' hr=>by
  unfold hOfT at hr;obtain⟨⟨targs,F⟩,hT,hr⟩:=Option.bind_eq_some_iff.1 hr;obtain⟨r0,hg,e⟩:=A0m hr;injection e with e1 e2;injection e2 with e2 e3;subst e1;subst e2;subst e3;exact(h _ _ hg).callP hT
 fresh:=fun ps H nx r H' nx' hr hf b x hb=>by
  unfold hOfT at hr;obtain⟨⟨targs,F⟩,hT,hr⟩:=Option.bind_eq_some_iff.1 hr;obtain⟨r0,hg,e⟩:=A0m hr;injection e with e1 e2;injection e2 with e2 e3;subst e1;subst e2;subst e3;split at hb
  ·exact hf b x hb
  ·exact hf b x (A1q F H b x hb).1
section
variable {P : Program} {G : A0u} {B N : Nat} {Q : Exit -> A0b -> Prop} {s : A0b}
def B9k (P:Program) (G:A0u) (B:Nat) (S:A0b) (Q:Exit->A0b->Prop):Exit->A0b->Prop
 | .normal,s=>Sub P G B s S/\s.n=S.n
 | e,s=>Q e s
@[simp] theorem roundTo_normal (S:A0b) (s:A0b):B9k P G B S Q .normal s=(Sub P G B s S/\s.n=S.n):=rfl
@[simp] theorem roundTo_ret (S:A0b) (s:A0b):B9k P G B S Q .ret s=Q .ret s:=rfl
@[simp] theorem roundTo_exit (S:A0b) (i:Nat) (s:A0b):B9k P G B S Q (.exit i) s=Q (.exit i) s:=rfl
def C8h (Q:Exit->A0b->Prop):Exit->A0b->Prop
 | .normal,_=>False
 | e,s=>Q e s
@[simp] theorem lastTo_normal (s:A0b):C8h Q .normal s=False:=rfl
@[simp] theorem lastTo_ret (s:A0b):C8h Q .ret s=Q .ret s:=rfl
@[simp] theorem lastTo_exit (i:Nat) (s:A0b):C8h Q (.exit i) s=Q (.exit i) s:=rfl
theorem C8i {x:A0i} (S:Nat->A0b) (n:Nat) (hN:∀j,(S j).n=N) (h0:Sub P G B s (S 0)) (hs:s.n=N) (round:∀j,j<n->MC P G B N x (B9k P G B (S (j+1)) Q) (S j)) (last:MC P G B N x (C8h Q) (S n)):MC P G B N (.loop x) Q s:=by
 refine MC.sub h0 ((hN 0).trans hs.symm) ?_;refine D1w (fun k s=>∃j,j+k=n/\s=S j) n ⟨0,by omega,rfl⟩ (fun k s ⟨j,_,e⟩=>by rw[e];exact hN j) ?_;rintro k s ⟨j,hj,rfl⟩;by_cases hlt:j<n
 ·refine(round j hlt).mono fun e s1 q=>?_;cases e
  case normal=>exact⟨k-1,by omega,S (j+1),q.1,j+1,by omega,rfl⟩
  all_goals exact q
 ·have:j=n:=by omega
  subst this;refine last.mono fun e s1 q=>?_;cases e
  case normal=>exact q.elim
  all_goals exact q
def Next (P:Program) (G:A0u) (B:Nat) {α:Type} (S:α->A0b) (Ok:α->Prop) (s:A0b):Prop:=∃a,Ok a/\Sub P G B s (S a)
theorem Next.mk {α:Type} {S:α->A0b} {Ok:α->Prop} {s:A0b} (a:α) (h:Ok a) (hs:Sub P G B s (S a)):Next P G B S Ok s:=⟨a,h,hs⟩
def B5p (P:Program) (G:A0u) (B:Nat) {α:Type} (S:α->A0b) (Ok:α->Prop) (Q:Exit->A0b->Prop):Exit->A0b->Prop
 | .normal,s=>Next P G B S Ok s
 | e,s=>Q e s
@[simp] theorem whileTo_normal {α:Type} (S:α->A0b) (Ok:α->Prop) (s:A0b):B5p P G B S Ok Q .normal s=Next P G B S Ok s:=rfl
@[simp] theorem whileTo_ret {α:Type} (S:α->A0b) (Ok:α->Prop) (s:A0b):B5p P G B S Ok Q .ret s=Q .ret s:=rfl
@[simp] theorem whileTo_exit {α:Type} (S:α->A0b) (Ok:α->Prop) (i:Nat) (s:A0b):B5p P G B S Ok Q (.exit i) s=Q (.exit i) s:=rfl
theorem A0k {x:A0i} {α:Type} (S:α->A0b) (μ:α->Nat) (Ok:α->Prop) (a0:α) (hN:∀a,(S a).n=N) (hok:Ok a0) (h0:Sub P G B s (S a0)) (hs:s.n=N)
  (round:∀a,Ok a->MC P G B N x (B5p P G B S (fun a'=>Ok a'/\μ a'<μ a) Q) (S a)):MC P G B N (.loop x) Q s:=by
 refine MC.sub h0 ((hN a0).trans hs.symm) ?_;refine D1w (fun k s=>∃a,Ok a/\μ a=k/\s=S a) (μ a0) ⟨a0,hok,rfl,rfl⟩ (fun k s ⟨a,_,_,e⟩=>by rw[e];exact hN a) ?_;rintro k s ⟨a,ha,rfl,rfl⟩;refine(round a ha).mono fun e s1 q=>?_;cases e
 case normal=>obtain⟨a',h1,h2⟩:=q;exact⟨μ a',h1.2,S a',h2,a',h1.1,rfl,rfl⟩
 all_goals exact q
theorem A0o {x y:A0i} {α:Type} (S:α->A0b) (Ok:α->Prop) (hN:∀a,(S a).n=N) (h1:MC P G B N x (B5p P G B S Ok Q) s) (h2:∀a,Ok a->MC P G B N y Q (S a)):MC P G B N (.seq x y) Q s:=by
 intro c hc hn;obtain⟨a,b,rfl,ha,hb⟩:=A1r hc;refine C7e (A5g.post (h1 a ha hn) fun e s1 q=>?_);cases e
 case normal=>
  obtain⟨d,hd,hs⟩:=q;exact⟨S d,hs,h2 d hd b hb (hN d)⟩
 all_goals exact⟨s1,Sub.refl s1,q⟩
end
theorem C4y {z:Int} (h1:-9223372036854775808<=z) (h2:z<=9223372036854775807):IntKind.i64.wrap z=z:=by
 unfold IntKind.wrap IntKind.bits IntKind.signed;simp only[Bool.true_and,Nat.reduceSub]
 have e1:(2:Int)^64=18446744073709551616:=by decide
 have e2:(2:Int)^63=9223372036854775808:=by decide
 simp only[e1,e2,ge_iff_le,decide_eq_true_eq];split<;>omega
theorem A0h {z:Int} {n:Nat} (e:z=n) (h:n<=9223372036854775807):IntKind.i64.wrap z=(n:Int):=by
 rw[C4y (by omega) (by omega),e]
theorem A6r {z:Int} (h1:0<=z) (h2:z<18446744073709551616):IntKind.u64.wrap z=z:=by
 unfold IntKind.wrap IntKind.bits IntKind.signed;simp only[Bool.false_and,Bool.false_eq_true,if_false]
 have e1:(2:Int)^64=18446744073709551616:=by decide
 rw[e1];omega
@[simp] theorem kbits_u64:IntKind.u64.bits=64:=rfl
@[simp] theorem kbits_i64:IntKind.i64.bits=64:=rfl
section
variable {P : Program} {G : A0u}
mutual
theorem C8j {L L':Loc} {w:World} {σ:Nat->Nat} {n:Nat} (hI:L'.I=L.I) (hμ:∀b,b<n->L'.μ (σ b)=L.μ b/\σ b<L'.nx):∀(p:PV) {u:Value},under n p=true->RepV P L w p u->RepV P L' w (ren σ p) u
 | .t x,u,_,h=>by simp only[ren,RepV,hI]at h ⊢;exact h
 | .row b o m z,u,hu,h=>by
  simp only[ren,RepV,under,decide_eq_true_eq]at h hu ⊢;obtain⟨h1,h2⟩:=hμ b hu;rw[h1];exact⟨h2,h.2⟩
 | .ptr b o,u,hu,h=>by
  simp only[ren,RepV,under,decide_eq_true_eq]at h hu ⊢;obtain⟨h1,h2⟩:=hμ b hu;rw[h1];exact⟨h2,h.2⟩
 | .ag cs,u,hu,h=>by
  simp only[ren,RepV,under]at h hu ⊢;obtain⟨us,e,h1,hl⟩:=h;exact⟨us,e,h1,B9l hI hμ cs hu hl⟩
 | .tu cs,u,hu,h=>by
  simp only[ren,RepV,under]at h hu ⊢;obtain⟨us,e,hl⟩:=h;exact⟨us,e,B9l hI hμ cs hu hl⟩
 | .fn f a c,u,hu,h=>by
  simp only[ren,RepV,under,Bool.and_eq_true]at h hu ⊢;obtain⟨us,vs,e,h1,h2⟩:=h;exact⟨us,vs,e,B9l hI hμ a hu.1 h1,B9l hI hμ c hu.2 h2⟩
 | .ic t x,u,hu,h=>by
  simp only[ren,RepV,under]at h hu ⊢;obtain⟨y,e,hy⟩:=h;exact⟨y,e,C8j hI hμ x hu hy⟩
 | .mp b,u,hu,h=>by
  simp only[ren,RepV,under,decide_eq_true_eq]at h hu ⊢;obtain⟨h1,h2⟩:=hμ b hu;rw[h1];exact⟨h2,h.2⟩
 | .dead,u,_,_=>by simp only[ren,RepV]
theorem B9l {L L':Loc} {w:World} {σ:Nat->Nat} {n:Nat} (hI:L'.I=L.I) (hμ:∀b,b<n->L'.μ (σ b)=L.μ b/\σ b<L'.nx):∀(ps:List PV) {us:List Value},A1w n ps=true->A0r P L w ps us->A0r P L' w (renL σ ps) us
 | [],us,_,h=>by simpa only[renL,A0r]using h
 | p::ps,us,hu,h=>by
  simp only[renL,A0r,A1w,Bool.and_eq_true]at h hu ⊢;obtain⟨x,xs,e,hx,hxs⟩:=h;exact⟨x,xs,e,C8j hI hμ p hu.1 hx,B9l hI hμ ps hu.2 hxs⟩
end
theorem E2q {L L':Loc} {w:World} {σ:Nat->Nat} {n g:Nat} (hI:L'.I=L.I) (hμ:∀b,b<n->L'.μ (σ b)=L.μ b/\σ b<L'.nx) {x:Row} (hu:A1y n x=true) (h:A5w P L w g x):A5w P L' w g (A3j σ x):=by
 cases x with
 | cells ty cs=>
  obtain⟨arr,ha,hl,hc⟩:=h;refine⟨arr,ha,by rw[A9c];exact hl,fun j c hj=>?_⟩;rw[A7l]at hj;obtain⟨c0,hc0,rfl⟩:=A0m hj;obtain⟨v,hv,h1,hr⟩:=hc j c0 hc0;exact⟨v,hv,h1,C8j hI hμ c0 (A5t hu hc0) hr⟩
 | iter t pos=>exact h
 | map kk es=>exact h
 | lp l x k p=>exact⟨h.1,h.2.1,C8j hI hμ p hu h.2.2⟩
def A2u (σ:Nat->Nat) (nx NX:Nat) (b:Nat):Nat:=if b<nx then σ b else NX+(b-nx)
theorem A2g.lift {f:FuncId} {ps:List PV} {H H':Heap} {nx nx':Nat} {r:PV} (h:A2g P G f ps H nx r H' nx') (σ:Nat->Nat) (NX:Nat) (Hb Hb':Heap)
  (hσ:∀b,b<nx->σ b<NX) (hinj:∀b c,b<nx->c<nx->σ b=σ c->b=c) (hle:nx<=nx')
  (hH:∀q∈H,look Hb (σ q.1)=some (A3j σ q.2)/\q.1<nx/\A1y nx q.2=true) (hps:A1w nx ps=true)
  (hr:under nx' r=true) (hH':∀q∈H',q.1<nx'/\A1y nx' q.2=true)
  (hb':∀b x,look Hb' b=some x->(∃b0 x0,look H' b0=some x0/\b=A2u σ nx NX b0/\x=A3j (A2u σ nx NX) x0)\/(look Hb b=some x/\∀b0 x0,look H b0=some x0->σ b0≠b)) :
  A2g P G f (renL σ ps) Hb NX (ren (A2u σ nx NX) r) Hb' (NX+(nx'-nx)):=by
 refine⟨h.1,fun L w us hok hnx hargs=>?_⟩
 let L0:Loc:=⟨L.I,fun b=>L.μ (σ b),nx⟩
 have hok0:A1l P G L0 H w:=by
  refine⟨hok.lt,fun b x hb=>?_,fun b x hb=>?_,fun b b' x x' hb hb' e=>?_,fun b x hb=>(hH _ (A0n hb)).2.1,hok.glob⟩
  ·obtain⟨h1,h2,h3⟩:=hH _ (A0n hb);have:=hok.rep _ _ h1
   cases x with
   | cells ty cs=>
    obtain⟨arr,ha,hl,hc⟩:=this;refine⟨arr,ha,by rw[A9c]at hl;exact hl,fun j c hj=>?_⟩;obtain⟨v,hv,h1v,hrv⟩:=hc j (ren σ c) (by rw[A7l,hj];rfl);exact⟨v,hv,h1v,B2s c (A5t h3 hj) hrv⟩
   | iter t pos=>exact this
   | map kk es=>exact this
   | lp l x k p=>exact⟨this.1,this.2.1,B2s p h3 this.2.2⟩
  ·exact hok.apart _ _ (hH _ (A0n hb)).1
  ·exact hinj b b' (hH _ (A0n hb)).2.1 (hH _ (A0n hb')).2.1 (hok.inj _ _ _ _ (hH _ (A0n hb)).1 (hH _ (A0n hb')).1 e)
 have mine0:∀g,Mine L0 H g->Mine L Hb g:=fun g ⟨b,x,hb,e⟩=>⟨σ b,_,(hH _ (A0n hb)).1,e⟩
 refine(h.2 L0 w us hok0 rfl (B1t ps hps hargs)).mono ?_;rintro e w' ⟨v,L1,rfl,hv,hok1,hnx1,hm1,hx1⟩
 let L':Loc:=⟨L1.I,fun b=>if b<NX then L.μ b else L1.μ (b-NX+nx),NX+(nx'-nx)⟩
 have hμ:∀b,b<nx'->L'.μ (A2u σ nx NX b)=L1.μ b/\A2u σ nx NX b<L'.nx:=by
  intro b hb;unfold A2u;by_cases hlt:b<nx
  ·rw[if_pos hlt];have h1:=hσ b hlt;refine⟨?_,by show σ b<NX+(nx'-nx);omega⟩;show(if σ b<NX then L.μ (σ b)else _)=_;rw[if_pos h1];exact(hm1.μ b hlt).symm
  ·rw[if_neg hlt];refine⟨?_,by show NX+(b-nx)<NX+(nx'-nx);omega⟩;show(if NX+(b-nx)<NX then _ else L1.μ (NX+(b-nx)-NX+nx))=_;rw[if_neg (by omega)];congr 1;omega
 have hmono:Mono L w L' w':=by
  refine⟨hm1.keeps,by show L.nx<=NX+(nx'-nx);omega,fun b hb=>?_,hm1.size,hm1.shape⟩;show(if b<NX then L.μ b else _)=_;rw[if_pos (by omega)]
 have old:∀b x,look Hb b=some x->(∀b0 x0,look H b0=some x0->σ b0≠b)->¬Mine L0 H (L.μ b):=by
  intro b x hb hne ⟨b0,x0,h0,e⟩;exact hne b0 x0 h0 (hok.inj _ _ _ _ (hH _ (A0n h0)).1 hb e)
 have oldμ:∀b x,look Hb b=some x->L'.μ b=L.μ b:=by
  intro b x hb;have:=hok.nx b x hb;show(if b<NX then L.μ b else _)=_;rw[if_pos (by omega)]
 have newμ:∀b0 x0,look H' b0=some x0->L'.μ (A2u σ nx NX b0)=L1.μ b0:=fun b0 x0 h0=>(hμ b0 (hH' _ (A0n h0)).1).1;refine⟨v,L',rfl,C8j (L:=L1) (L':=L') rfl hμ r hr hv,?_,rfl,hmono,?_⟩
 ·refine⟨hok1.lt,fun b x hb=>?_,fun b x hb hI=>?_,fun b b2 x x2 hb hb2 e=>?_,fun b x hb=>?_,hok1.glob⟩
  ·rcases hb' b x hb with⟨b0,x0,h0,rfl,rfl⟩ | ⟨h0,hne⟩
   ·rw[newμ b0 x0 h0];exact E2q (L:=L1) (L':=L') rfl hμ (hH' _ (A0n h0)).2 (hok1.rep b0 x0 h0)
   ·rw[oldμ b x h0];exact(hok.rep b x h0).keep hmono (hx1.same _ (hok.rep b x h0).lt (old b x h0 hne))
  ·rcases hb' b x hb with⟨b0,x0,h0,rfl,rfl⟩ | ⟨h0,hne⟩
   ·rw[newμ b0 x0 h0]at hI;exact hok1.apart b0 x0 h0 hI
   ·rw[oldμ b x h0]at hI;rcases hx1.new _ hI with h2 | h2 | h2
    ·exact hok.apart b x h0 h2
    ·have:=(hok.rep b x h0).lt;omega
    ·exact old b x h0 hne h2
  ·rcases hb' b x hb with⟨b0,x0,h0,rfl,rfl⟩ | ⟨h0,hne⟩<;>rcases hb' b2 x2 hb2 with⟨c0,y0,k0,rfl,rfl⟩ | ⟨k0,kne⟩
   ·rw[newμ b0 x0 h0,newμ c0 y0 k0]at e;rw[hok1.inj b0 c0 x0 y0 h0 k0 e]
   ·rw[newμ b0 x0 h0,oldμ _ _ k0]at e;rcases hx1.mine (L.μ b2) ⟨b0,x0,h0,e⟩with h2 | h2
    ·have:=(hok.rep b2 x2 k0).lt;omega
    ·exact absurd h2 (old b2 x2 k0 kne)
   ·rw[oldμ _ _ h0,newμ c0 y0 k0]at e;rcases hx1.mine (L.μ b) ⟨c0,y0,k0,e.symm⟩with h2 | h2
    ·have:=(hok.rep b x h0).lt;omega
    ·exact absurd h2 (old b x h0 hne)
   ·rw[oldμ _ _ h0,oldμ _ _ k0]at e;exact hok.inj b b2 x x2 h0 k0 e
  ·rcases hb' b x hb with⟨b0,x0,h0,rfl,rfl⟩ | ⟨h0,hne⟩
   ·exact(hμ b0 (hH' _ (A0n h0)).1).2
   ·have:=hok.nx b x h0;show b<NX+(nx'-nx);omega
 ·refine⟨hx1.size,fun g hg hm=>hx1.same g hg (fun h2=>hm (mine0 g h2)),hx1.more,fun g hg=>?_,fun g ⟨b,x,hb,e⟩=>?_,hx1.shape,hx1.outer⟩
  ·rcases hx1.new g hg with h2 | h2 | h2
   ·exact .inl h2
   ·exact .inr (.inl h2)
   ·exact .inr (.inr (mine0 g h2))
  ·rcases hb' b x hb with⟨b0,x0,h0,rfl,rfl⟩ | ⟨h0,hne⟩
   ·rw[newμ b0 x0 h0]at e;rcases hx1.mine g ⟨b0,x0,h0,e⟩with h2 | h2
    ·exact .inl h2
    ·exact .inr (mine0 g h2)
   ·rw[oldμ _ _ h0]at e;exact .inr ⟨b,x,h0,e⟩
theorem A2g.lift1 {f:FuncId} {ty:TypeId} {cs cs':List T} {args:List T} {r:T} (h:A2g P G f (.ptr 0 0::args.map .t) [(0,.cells ty (cs.map .t))] 1 (.t r) [(0,.cells ty (cs'.map .t))] 1)
  {b NX:Nat} {Hb:Heap} (hb:look Hb b=some (.cells ty (cs.map .t))) (hlt:b<NX) :
  A2g P G f (.ptr b 0::args.map .t) Hb NX (.t r) (upd Hb b (.cells ty (cs'.map .t))) NX:=by
 have rt:∀(σ:Nat->Nat) (l:List T),renL σ (l.map .t)=l.map .t:=by
  intro σ l
  induction l with
  | nil=>rfl
  | cons x l ih=>simp only[List.map_cons,renL,ren,ih]
 have ut:∀(n:Nat) (l:List T),A1w n (l.map .t)=true:=by
  intro n l
  induction l with
  | nil=>rfl
  | cons x l ih=>simp only[List.map_cons,A1w,under,ih,Bool.and_self]
 have:=h.lift (fun _=>b) NX Hb (upd Hb b (.cells ty (cs'.map .t))) (fun _ _=>hlt) (fun x y hx hy _=>by omega) (Nat.le_refl _) (fun q hq=>by
  simp only[List.mem_singleton]at hq;subst hq;simp only[A3j,rt,A1y,ut]
  exact⟨hb,by omega,trivial⟩) (by simp only[A1w,under,ut];rfl) rfl (fun q hq=>by
  simp only[List.mem_singleton]at hq;subst hq
  exact⟨by omega,ut _ _⟩) (fun c x hc=>by
  rw[A1h]at hc;split at hc
  ·rename_i e;subst e;left;refine⟨0,_,rfl,by simp[A2u],?_⟩;rw[hb]at hc;simp only[Option.map_some,Option.some.injEq]at hc;simp only[A3j,rt];exact hc.symm
  ·rename_i e;right
   refine⟨hc,fun b0 x0 _ e2=>e e2.symm⟩)
 simp only[renL,ren,rt,Nat.sub_self,Nat.add_zero]at this;exact this
end
structure Ty (α:Type) where
 is:T->α->Prop
 uniq:∀t a b,is t a->is t b->a=b
noncomputable def Ty.dec {α:Type} (τ:Ty α) (t:T):Option α:=
 open Classical in if h : ∃ a, τ.is t a then some h.choose else none
theorem Ty.dec_is {α:Type} {τ:Ty α} {t:T} {a:α} (h:τ.is t a):τ.dec t=some a:=by
 unfold Ty.dec
 have hx:∃a,τ.is t a:=⟨a,h⟩
 rw[dif_pos hx];rw[τ.uniq t _ _ hx.choose_spec h]
theorem Ty.is_dec {α:Type} {τ:Ty α} {t:T} {a:α} (h:τ.dec t=some a):τ.is t a:=by
 unfold Ty.dec at h;split at h
 ·rename_i hx;injection h with h;subst h;exact hx.choose_spec
 ·cases h
abbrev iv (n:Int):T:=.v (.int .i64 n)
abbrev bv (b:Bool):T:=.v (.bool b)
abbrev sv (s:ByteArray):T:=.v (.string s)
abbrev nilS:T:=.v (.slice none 0 0)
def tInt:Ty Int:=⟨fun t n=>t=iv n,fun t a b h h'=>by rw[h]at h';injection h' with h';injection h'⟩
def D1x:Ty Bool:=⟨fun t n=>t=bv n,fun t a b h h'=>by rw[h]at h';injection h' with h';injection h'⟩
def tStr:Ty ByteArray:=⟨fun t n=>t=sv n,fun t a b h h'=>by rw[h]at h';injection h' with h';injection h'⟩
structure Enc (α:Type) where
 z:Nat
 enc:α->List T
 len:∀a,(enc a).length=z
 pos:0<z
 inj:∀a b,enc a=enc b->a=b
def slT {α:Type} (e:Enc α) (l:List α):T:=.sl l.length (l.flatMap e.enc)
def IsS {α:Type} (e:Enc α) (t:T) (l:List α):Prop:=(t=nilS/\l=[])\/t=slT e l
theorem B9m {α:Type} (e:Enc α):∀(l m:List α),l.length=m.length->l.flatMap e.enc=m.flatMap e.enc->l=m
 | [],[],_,_=>rfl
 | [],_::_,h,_=>by simp at h
 | _::_,[],h,_=>by simp at h
 | a::l,b::m,h,he=>by
  simp only[List.flatMap_cons]at he;have h1:=List.append_inj he (by rw[e.len,e.len]);rw[e.inj a b h1.1,B9m e l m (by simpa using h) h1.2]
def tSl {α:Type} (e:Enc α):Ty (List α):=⟨IsS e,fun t a b h h'=>by
 rcases h with⟨rfl,rfl⟩ | rfl
 ·rcases h' with⟨_,rfl⟩ | h'
  ·rfl
  ·cases h'
 ·rcases h' with⟨h',_⟩ | h'
  ·cases h'
  ·unfold slT at h';injection h' with h1 h2
   exact B9m e a b h1 h2⟩
def tAg {α:Type} (e:Enc α):Ty α:=⟨fun t a=>t = .ag (e.enc a),fun t a b h h'=>by rw[h]at h';injection h' with h';exact e.inj a b h'⟩
def eInt:Enc Int:=⟨1,fun n=>[iv n],fun _=>rfl,by omega,fun a b h=>by injection h with h;injection h with h;injection h⟩
def eStr:Enc ByteArray:=⟨1,fun n=>[sv n],fun _=>rfl,by omega,fun a b h=>by injection h with h;injection h with h;injection h⟩
def eRaw:Enc T:=⟨1,fun n=>[n],fun _=>rfl,by omega,fun a b h=>by injection h⟩
section
variable {α : Type} {e : Enc α} {t : T} {l : List α}
theorem IsS.len (h:IsS e t l):A7k (.t t)=some (.t (iv (l.length:Int))):=by
 rcases h with⟨rfl,rfl⟩ | rfl<;>rfl
def rest (e:Enc α) (l:List α) (i:Nat):List T:=(l.drop (i+1)).flatMap e.enc
theorem B0o (e:Enc α):∀(l:List α) (i:Nat) (x:α),l[i]?=some x->(l.flatMap e.enc).drop (i*e.z)=e.enc x++rest e l i
 | [],i,x,h=>by simp at h
 | a::l,0,x,h=>by
  simp at h;subst h;simp[rest]
 | a::l,i+1,x,h=>by
  have ih:=B0o e l i x (by simpa using h);rw[List.flatMap_cons,Nat.succ_mul,Nat.add_comm,<-List.drop_drop,List.drop_left' (e.len a),ih];simp[rest]
theorem IsS.iaddr (h:IsS e t l) {i:Nat} {x:α} (hx:l[i]?=some x) (k:IntKind):A1o e.z (.t t) (.t (.v (.int k (i:Int))))=some (.t (.pt (e.enc x++rest e l i))):=by
 have hi:i<l.length:=(List.getElem?_eq_some_iff.1 hx).1;rcases h with⟨rfl,rfl⟩ | rfl
 ·simp at hi
 ·simp only[A1o,slT];rw[if_pos ⟨by omega,by omega⟩,Int.toNat_natCast,B0o e l i x hx]
theorem IsS.nil:IsS e nilS []:=.inl ⟨rfl,rfl⟩
theorem IsS.mk (l:List α):IsS e (slT e l) l:=.inr rfl
end
noncomputable def g1 {α:Type} (τ:Ty α) (f:α->Option T):List T->Option T
 | [a]=>(τ.dec a).bind f
 | _=>none
noncomputable def g2 {α β:Type} (τ:Ty α) (σ:Ty β) (f:α->β->Option T):List T->Option T
 | [a,b]=>(τ.dec a).bind fun x=>(σ.dec b).bind fun y=>f x y
 | _=>none
noncomputable def g3 {α β γ:Type} (τ:Ty α) (σ:Ty β) (ρ:Ty γ) (f:α->β->γ->Option T):List T->Option T
 | [a,b,c]=>(τ.dec a).bind fun x=>(σ.dec b).bind fun y=>(ρ.dec c).bind fun z=>f x y z
 | _=>none
noncomputable def g4 {α β γ δ:Type} (τ:Ty α) (σ:Ty β) (ρ:Ty γ) (π:Ty δ) (f:α->β->γ->δ->Option T):List T->Option T
 | [a,b,c,d]=>(τ.dec a).bind fun x=>(σ.dec b).bind fun y=>(ρ.dec c).bind fun z=>(π.dec d).bind fun u=>f x y z u
 | _=>none
section
variable {P : Program} {G : A0u} {F : FuncId} {α β γ δ : Type} {τ : Ty α} {σ : Ty β} {ρ : Ty γ} {π : Ty δ}
theorem A4c {f:α->Option T} (h:∀a x r,τ.is a x->f x=some r->A0w P G F [a] (· = r)):GOK P G F (g1 τ f):=by
 intro args r e;unfold g1 at e;split at e
 ·obtain⟨x,hx,e⟩:=Option.bind_eq_some_iff.1 e;exact h _ x r (Ty.is_dec hx) e
 ·cases e
theorem A5b {f:α->Option T} {a:T} {x:α} (h:τ.is a x):g1 τ f [a]=f x:=by
 simp only[g1,Ty.dec_is h,Option.bind_some]
theorem A4e {f:α->β->Option T} (h:∀a b x y r,τ.is a x->σ.is b y->f x y=some r->A0w P G F [a,b] (· = r)):GOK P G F (g2 τ σ f):=by
 intro args r e;unfold g2 at e;split at e
 ·obtain⟨x,hx,e⟩:=Option.bind_eq_some_iff.1 e;obtain⟨y,hy,e⟩:=Option.bind_eq_some_iff.1 e;exact h _ _ x y r (Ty.is_dec hx) (Ty.is_dec hy) e
 ·cases e
theorem A4u {f:α->β->Option T} {a b:T} {x:α} {y:β} (h:τ.is a x) (h':σ.is b y):g2 τ σ f [a,b]=f x y:=by
 simp only[g2,Ty.dec_is h,Ty.dec_is h',Option.bind_some]
end
section
variable {α : Type}
def rowP (e:Enc α) (b:Nat):List α->PV
 | []=>.t nilS
 | l=>.row b 0 l.length e.z
def rowH (e:Enc α) (ty b:Nat):List α->Heap
 | []=>[]
 | l=>[(b,.cells ty ((l.flatMap e.enc).map .t))]
def A1g (e:Enc α):List α->T
 | []=>nilS
 | l=>slT e l
def D8h (b:Nat):List α->List Nat
 | []=>[]
 | _=>[b]
theorem IsS.tree (e:Enc α) (l:List α):IsS e (A1g e l) l:=by
 cases l with
 | nil=>exact .inl ⟨rfl,rfl⟩
 | cons x r=>exact .inr rfl
theorem A1i (e:Enc α):∀l:List α,(l.flatMap e.enc).length=l.length*e.z
 | []=>by simp
 | a::l=>by rw[List.flatMap_cons,List.length_append,e.len,A1i e l,List.length_cons,Nat.succ_mul,Nat.add_comm]
theorem A2b (e:Enc α) (σ:Nat->Nat) (b:Nat) (l:List α):ren σ (rowP e b l)=rowP e (σ b) l:=by cases l<;>rfl
theorem A1j (e:Enc α) (n b:Nat) (l:List α) (h:b<n):under n (rowP e b l)=true:=by
 cases l with
 | nil=>rfl
 | cons x r=>simp[rowP,under,h]
end
section
variable {α : Type} {P : Program} {G : A0u} {B : Nat}
def A1b (e:Enc α) (ty:Nat) (l:List α):Row:=.cells ty ((l.flatMap e.enc).map .t)
def A0p (e:Enc α) (ty:Nat) (H:Heap) (b:Nat) (l:List α):Prop:=l=[]\/look H b=some (A1b e ty l)
theorem A0p.nil (e:Enc α) (ty:Nat) (H:Heap) (b:Nat):A0p e ty H b []:=.inl rfl
theorem A0p.cons {e:Enc α} {ty:Nat} {H:Heap} {b:Nat} {l:List α} (h:A0p e ty H b l) {k:Nat} {r:Row} (hk:k≠b):A0p e ty ((k,r)::H) b l:=
 h.imp id fun h=>by rw[look_cons,if_neg hk];exact h
theorem A0p.head (e:Enc α) (ty:Nat) (H:Heap) (b:Nat) (l:List α):A0p e ty (rowH e ty b l++H) b l:=by
 cases l with
 | nil=>exact .inl rfl
 | cons x r=>right;simp[rowH,A1b]
theorem A0p.head' (e:Enc α) (ty b:Nat) (l:List α):A0p e ty (rowH e ty b l) b l:=by
 have h:=A0p.head e ty [] b l;rwa[List.append_nil]at h
def appH (e:Enc α) (ty:Nat) (H:Heap) (nx b:Nat) (l m:List α):Heap:=
 if(l++m).isEmpty then H else(nx,A1b e ty (l++m))::(if l.isEmpty then H else rem H b)
def appN (nx:Nat) (l m:List α):Nat:=if(l++m).isEmpty then nx else nx+1
theorem B5q {e:Enc α} {ty by':Nat} {H:Heap} {nx b:Nat} {l m:List α} {src:PV} (h:A0p e ty H b l) (hs:srcP H e.z src=some (m.length,(m.flatMap e.enc).map .t))
  (hb:(l.length+m.length)*by'<=140737488355328) (hb2:l.length+m.length<=9223372036854775807) :
  appM ty e.z by' H nx (rowP e b l) src=some (rowP e nx (l++m),appH e ty H nx b l m,appN nx l m):=by
 cases l with
 | nil=>
  cases m with
  | nil=>simp[appM,hs,rowP,appH,appN]
  | cons y m=>
   simp only[List.length_nil,Nat.zero_add]at hb hb2
   have h0:¬(y::m).length=0:=by simp
   simp only[appM,hs,rowP,List.nil_append,appH,appN,List.isEmpty_cons,List.isEmpty_nil,Bool.false_eq_true,if_false,if_true,and_self,h0,hb,hb2,A1b]
 | cons x l=>
  rcases h with h | h
  ·cases h
  ·have hl:(((x::l).flatMap e.enc).map PV.t).length=(x::l).length*e.z:=by rw[List.length_map,A1i]
   simp only[appM,hs,rowP,h,A1b,hl,true_and,if_pos (And.intro hb hb2),List.cons_append,appH,appN,List.isEmpty_cons,Bool.false_eq_true,if_false];simp;omega
theorem A8h {e:Enc α} {ty:Nat} {H:Heap} {nx b:Nat} {l m:List α} {c:Nat} (hc:c≠nx) (hb:c≠b):look (appH e ty H nx b l m) c=look H c:=by
 unfold appH;split
 ·rfl
 ·rw[look_cons,if_neg (Ne.symm hc)];split
  ·rfl
  ·rw[A2i,if_neg hb]
theorem A0p.app {e:Enc α} {ty:Nat} {H:Heap} {nx b:Nat} {l m:List α}:A0p e ty (appH e ty H nx b l m) nx (l++m):=by
 unfold appH;split
 ·rename_i h;left;simpa using h
 ·right;rw[look_cons,if_pos rfl]
theorem A0p.toT {e:Enc α} {ty:Nat} {H:Heap} {b:Nat} {l:List α} (h:A0p e ty H b l):toT H (rowP e b l)=some (A1g e l,D8h b l):=by
 cases l with
 | nil=>rfl
 | cons x r=>
  rcases h with h | h
  ·cases h
  ·have hl:(((x::r).flatMap e.enc).map PV.t).length=(x::r).length*e.z:=by rw[List.length_map,A1i]
   have tk:List.take ((x::r).length*e.z) (((x::r).flatMap e.enc).map PV.t)=((x::r).flatMap e.enc).map PV.t:=List.take_of_length_le (by rw[hl];exact Nat.le_refl _);simp only[rowP,Abs.toT,h,A1b,List.drop_zero,Nat.zero_add,hl,Nat.le_refl,if_true,tk,allT_map_t,Option.map_some];rfl
theorem B4c (e:Enc α) (b:Nat) (l:List α):A7k (rowP e b l)=some (.t (iv (l.length:Int))):=by cases l<;>rfl
theorem A9d {e:Enc α} {H:Heap} {b ty:Nat} (x:α) (h:look H b=some (.cells ty ((e.enc x).map .t))):srcP H e.z (.row b 0 1 e.z)=some ([x].length,([x].flatMap e.enc).map .t):=by
 have hl:((e.enc x).map PV.t).length=e.z:=by rw[List.length_map,e.len]
 have tk:List.take e.z ((e.enc x).map PV.t)=(e.enc x).map PV.t:=List.take_of_length_le (by rw[hl];exact Nat.le_refl _);simp[srcP,h,e.len,tk]
theorem A7m {e:Enc α} {H:Heap} {t:T} {l:List α} (h:IsS e t l):srcP H e.z (.t t)=some (l.length,(l.flatMap e.enc).map .t):=by
 rcases h with⟨rfl,rfl⟩ | rfl
 ·rfl
 ·simp only[srcP,slT,A1i,if_true]
theorem A2a (σ:Nat->Nat) (e:Enc α) (ty:Nat) (l:List α):A3j σ (A1b e ty l)=A1b e ty l:=by
 have:∀m:List T,renL σ (m.map .t)=m.map .t:=by
  intro m
  induction m with
  | nil=>rfl
  | cons x m ih=>simp only[List.map_cons,renL,ren,ih]
 simp only[A1b,A3j,this]
theorem A1k (n:Nat) (e:Enc α) (ty:Nat) (l:List α):A1y n (A1b e ty l)=true:=by
 have:∀m:List T,A1w n (m.map .t)=true:=by
  intro m
  induction m with
  | nil=>rfl
  | cons x m ih=>simp only[List.map_cons,A1w,under,ih,Bool.and_self]
 simp only[A1b,A1y,this]
theorem A2e {e:Enc α} {ty b:Nat} {l:List α} {q:Nat×Row} (h:q∈rowH e ty b l):l≠[]/\q=(b,A1b e ty l):=by
 cases l with
 | nil=>simp[rowH]at h
 | cons x r=>simp only[rowH,List.mem_singleton]at h;exact⟨by simp,h⟩
theorem A9e {e:Enc α} {ty b k nx nx' n:Nat} {l:List α} {env env':List (Nat×PV)} {H:Heap} (h:A0p e ty H k l) (hb:b<nx') (hB:B<=b)
  (he:∀q∈env',look env q.1=some (ren (fun c=>if c=b then k else c) q.2)/\under nx' q.2=true) :
  Sub P G B ⟨env,H,nx,n⟩ ⟨env',rowH e ty b l,nx',n⟩:=by
 refine B0l (fun c=>if c=b then k else c) rfl (by show B<=nx';omega) (fun c hc=>by show(if c=b then k else c)=c;rw[if_neg (by omega)]) he (fun q hq=>?_) (fun q hq q' hq' _=>?_)
 ·obtain⟨hne,rfl⟩:=A2e hq;simp only[if_true,A2a,A1k];rcases h with h | h
  ·exact absurd h hne
  ·exact⟨h,hb,trivial⟩
 ·obtain⟨_,rfl⟩:=A2e hq;obtain⟨_,rfl⟩:=A2e hq';rfl
theorem A2x {nx nx' n:Nat} {env env':List (Nat×PV)} {H:Heap} (hB:B<=nx') (he:∀q∈env',look env q.1=some q.2/\under 0 q.2=true) :
  Sub P G B ⟨env,H,nx,n⟩ ⟨env',[],nx',n⟩:=by
 have key:∀(p:PV),under 0 p=true->ren id p=p/\under nx' p=true:=by
  intro p hp;constructor
  ·have:(∀p:PV,ren id p=p)/\(∀ps:List PV,renL id ps=ps):=by
    constructor
    ·intro p
     exact PV.rec (motive_1:=fun p=>ren id p=p) (motive_2:=fun ps=>renL id ps=ps) (fun x=>rfl) (fun b o n z=>rfl) (fun b o=>rfl) (fun cs ih=>by simp only[ren,ih]) (fun cs ih=>by simp only[ren,ih])
      (fun f a c ih1 ih2=>by simp only[ren,ih1,ih2]) (fun t x ih=>by simp only[ren,ih]) (fun b=>rfl) rfl rfl (fun p ps h1 h2=>by simp only[renL,h1,h2]) p
    ·intro ps
     exact PV.rec_1 (motive_1:=fun p=>ren id p=p) (motive_2:=fun ps=>renL id ps=ps) (fun x=>rfl) (fun b o n z=>rfl) (fun b o=>rfl) (fun cs ih=>by simp only[ren,ih]) (fun cs ih=>by simp only[ren,ih])
      (fun f a c ih1 ih2=>by simp only[ren,ih1,ih2]) (fun t x ih=>by simp only[ren,ih]) (fun b=>rfl) rfl rfl (fun p ps h1 h2=>by simp only[renL,h1,h2]) ps
   exact this.1 p
  ·exact(PV.rec (motive_1:=fun p=>under 0 p=true->under nx' p=true) (motive_2:=fun ps=>A1w 0 ps=true->A1w nx' ps=true) (fun x _=>rfl) (fun b o n z h=>by simp[under]at h) (fun b o h=>by simp[under]at h)
    (fun cs ih h=>by simp only[under]at h ⊢;exact ih h) (fun cs ih h=>by simp only[under]at h ⊢;exact ih h) (fun f a c ih1 ih2 h=>by simp only[under,Bool.and_eq_true]at h ⊢;exact⟨ih1 h.1,ih2 h.2⟩)
    (fun t x ih h=>by simp only[under]at h ⊢;exact ih h) (fun b h=>by simp[under]at h) (fun _=>rfl) (fun _=>rfl) (fun p ps h1 h2 h=>by simp only[A1w,Bool.and_eq_true]at h ⊢;exact⟨h1 h.1,h2 h.2⟩) p) hp
 refine B0l id rfl hB (fun _ _=>rfl) (fun q hq=>?_) (fun q hq=>by simp at hq) (fun q hq=>by simp at hq);obtain⟨h1,h2⟩:=he q hq;obtain⟨h3,h4⟩:=key q.2 h2;rw[h3];exact⟨h1,h4⟩
end
theorem B9n (bs:ByteArray):∀(n i:Nat) (r:List UInt8),bs.size-i=n->ByteArray.toList.loop bs i r=r.reverse++bs.data.toList.drop i
 | 0,i,r,h=>by
  unfold ByteArray.toList.loop
  have hi:¬i<bs.size:=by omega
  have hs:bs.data.toList.length=bs.size:=rfl;rw[if_neg hi,List.drop_eq_nil_of_le (by omega)];simp
 | n+1,i,r,h=>by
  unfold ByteArray.toList.loop
  have hi:i<bs.size:=by omega
  rw[if_pos hi,B9n bs n (i+1) _ (by omega)];have hs:bs.data.toList.length=bs.size:=rfl
  have hl:i<bs.data.toList.length:=by omega
  rw[List.drop_eq_getElem_cons hl,List.reverse_cons,List.append_assoc];congr 2
  have hl':i<bs.data.size:=by simpa using hl
  show bs.data[i]! :: _=_;rw[getElem!_pos bs.data i hl'];rfl
theorem A5m (bs:ByteArray):bs.toList=bs.data.toList:=by
 unfold ByteArray.toList;rw[B9n bs bs.size 0 [] (by omega)];simp
theorem toList_inj {a b:ByteArray} (h:a.toList=b.toList):a=b:=by
 rw[A5m,A5m]at h;cases a;cases b;congr;exact Array.toList_inj.1 h
theorem A3g (a b:ByteArray):(a.toList==b.toList)=decide (a=b):=by
 by_cases h:a=b
 ·subst h;simp
 ·rw[decide_eq_false h,beq_eq_false_iff_ne];exact fun e=>h (toList_inj e)
def A8i (a b:ByteArray):Bool:=Op.bytesLess a.toList b.toList
theorem C4z (a b:ByteArray):Op.bytesLess a.toList b.toList=A8i a b:=rfl
@[simp] theorem evalK_slss {Φ:A0v} {H:Heap} {nx:Nat} (isB:Bool) (nk:Option NK) (a b:ByteArray):A0e Φ H nx (.bin isB .lss nk) [.t (.v (.string a)),.t (.v (.string b))]=some (.t (.v (.bool (A8i a b))),H,nx):=rfl
theorem D8i {Φ:A0v} {H:Heap} {nx:Nat} (isB:Bool) (nk:Option NK) (a b:ByteArray) (h:a.size+b.size<=9223372036854775807):A0e Φ H nx (.bin isB .add nk) [.t (.v (.string a)),.t (.v (.string b))]=some (.t (.v (.string (a++b))),H,nx):=by simp[A0e,binM,h]
theorem C8k:∀l:List UInt8,Op.bytesLess l l=false
 | []=>rfl
 | x::l=>by
  have:=C8k l;simp[Op.bytesLess,this]
theorem D5g:∀{a b c:List UInt8},Op.bytesLess a b=true->Op.bytesLess b c=true->Op.bytesLess a c=true
 | [],[],c,h,_=>by simp[Op.bytesLess]at h
 | [],_::_,[],_,h=>by simp[Op.bytesLess]at h
 | [],_::_,_::_,_,_=>by simp[Op.bytesLess]
 | _::_,[],_,h,_=>by simp[Op.bytesLess]at h
 | _::_,_::_,[],_,h=>by simp[Op.bytesLess]at h
 | x::a,y::b,z::c,h,h'=>by
  simp only[Op.bytesLess,Bool.or_eq_true,Bool.and_eq_true,decide_eq_true_eq,beq_iff_eq]at h h' ⊢;rcases h with h | ⟨rfl,h⟩
  ·rcases h' with h' | ⟨rfl,h'⟩
   ·exact .inl (UInt8.lt_trans h h')
   ·exact .inl h
  ·rcases h' with h' | ⟨rfl,h'⟩
   ·exact .inl h'
   ·exact .inr ⟨rfl,D5g h h'⟩
theorem D5h:∀(a b:List UInt8),Op.bytesLess a b=false->a≠b->Op.bytesLess b a=true
 | [],[],_,h=>absurd rfl h
 | [],_::_,h,_=>by simp[Op.bytesLess]at h
 | _::_,[],_,_=>by simp[Op.bytesLess]
 | x::a,y::b,h,hne=>by
  simp only[Op.bytesLess,Bool.or_eq_false_iff,Bool.and_eq_false_iff,decide_eq_false_iff_not,beq_eq_false_iff_ne,Bool.or_eq_true,Bool.and_eq_true,decide_eq_true_eq,beq_iff_eq]at h ⊢;by_cases e:x=y
  ·subst e;rcases h.2 with h2 | h2
   ·exact absurd rfl h2
   ·exact .inr ⟨rfl,D5h a b h2 (fun e=>hne (by rw[e]))⟩
  ·left;rcases UInt8.lt_or_lt_of_ne e with h1 | h1
   ·exact absurd h1 h.1
   ·exact h1
theorem B9o (a:ByteArray):A8i a a=false:=C8k _
theorem D8j {a b c:ByteArray} (h:A8i a b=true) (h':A8i b c=true):A8i a c=true:=D5g h h'
theorem D8k {a b:ByteArray} (h:A8i a b=false) (hne:a≠b):A8i b a=true:=D5h _ _ h fun e=>hne (toList_inj e)
theorem D8l {a b:ByteArray} (h:A8i a b=true):A8i b a=false:=by
 cases h':A8i b a with
 | false=>rfl
 | true=>rw[<-B9o a];exact(D8j h h').symm
theorem B2t {α:Type} {p:α->Bool} {l:List α} {j:Nat} {y:α} (h:j<l.findIdx p) (hy:l[j]?=some y):p y=false:=by
 have hj:j<l.length:=(List.getElem?_eq_some_iff.1 hy).1;have:=List.not_of_lt_findIdx h;rw[(List.getElem?_eq_some_iff.1 hy).2]at this;simpa using this
theorem A9f {α:Type} {p:α->Bool} {l:List α} (h:l.findIdx p<l.length):∃x,l[l.findIdx p]?=some x/\p x=true:=
 ⟨l[l.findIdx p],List.getElem?_eq_getElem h,List.findIdx_getElem⟩
theorem C2z {α:Type} (p:α->Bool) (l:List α):l.findIdx p<=l.length:=List.findIdx_le_length
theorem B6s {α:Type} {p:α->Bool} {l:List α} (h:l.findIdx p=l.length):∀x∈l,p x=false:=by
 intro x hx;obtain⟨i,hi,e⟩:=List.getElem_of_mem hx;have:=B2t (p:=p) (l:=l) (j:=i) (y:=x) (by omega) (by rw[List.getElem?_eq_getElem hi,e]);exact this
section
variable {α : Type}
theorem A9g {e:Enc α} {ty by':Nat} {H:Heap} {nx b:Nat} {l m:List α} {src:PV} (h:A0p e ty H b l) (hs:srcP H e.z src=some (m.length,(m.flatMap e.enc).map .t))
  (hb:(l.length+m.length)*by'<=140737488355328) (hb2:l.length+m.length<=9223372036854775807) :
  ∃b' H' nx',appM ty e.z by' H nx (rowP e b l) src=some (rowP e b' (l++m),H',nx')/\A0p e ty H' b' (l++m)/\b'≠nx'/\nx<=nx'/\(∀c,c≠b->c<nx->look H' c=look H c)/\nx<=b':=by
 have ap:=B5q (nx:=nx) h hs hb hb2
 by_cases he:l++m=[]
 ·refine⟨nx+1,appH e ty H nx b l m,appN nx l m,?_,by rw[he];exact A0p.nil _ _ _ _,?_,?_,?_,by omega⟩
  ·rw[ap]
   have:∀b',rowP e b' (l++m) = .t nilS:=by intro b';rw[he];rfl
   rw[this,this]
  ·unfold appN;rw[he];simp
  ·unfold appN;rw[he];simp
  ·intro c hc hlt;unfold appH;rw[he];simp
 ·have hne:(l++m).isEmpty=false:=by
   cases hx:l++m with
   | nil=>exact absurd hx he
   | cons _ _=>rfl
  refine⟨nx,appH e ty H nx b l m,appN nx l m,ap,A0p.app,?_,?_,?_,Nat.le_refl _⟩
  ·unfold appN;rw[hne];simp
  ·unfold appN;rw[hne];simp
  ·intro c hc hlt;exact A8h (by omega) hc
variable {e : Enc α} {t : T} {l : List α}
theorem B0p (e:Enc α):∀(l:List α) (k:Nat),(l.flatMap e.enc).take (k*e.z)=(l.take k).flatMap e.enc
 | [],k=>by simp
 | a::l,0=>by simp
 | a::l,k+1=>by
  rw[List.flatMap_cons,List.take_succ_cons,List.flatMap_cons,Nat.succ_mul,Nat.add_comm,<-e.len a,List.take_length_add_append,e.len a,B0p e l k]
theorem C8l (e:Enc α):∀(l:List α) (k:Nat),(l.flatMap e.enc).drop (k*e.z)=(l.drop k).flatMap e.enc
 | [],k=>by simp
 | a::l,0=>by simp
 | a::l,k+1=>by
  rw[List.flatMap_cons,List.drop_succ_cons,Nat.succ_mul,Nat.add_comm,<-List.drop_drop,List.drop_left' (e.len a),C8l e l k]
theorem IsS.slice_to (h:IsS e t l) {k:Nat} (hk:k<=l.length) (ik:IntKind):∃t',A5x e.z (.t t) none (some (.t (.v (.int ik (k:Int)))))=some (.t t')/\IsS e t' (l.take k):=by
 rcases h with⟨rfl,rfl⟩ | rfl
 ·have:k=0:=by simpa using hk
  subst this;exact⟨nilS,rfl,.inl ⟨rfl,rfl⟩⟩
 ·refine⟨slT e (l.take k),?_,.inr rfl⟩
  have h0:¬(k:Int)<0:=by omega
  simp only[A5x,slT,boundV];simp[hk,B0p,Nat.min_eq_left hk]
end
section
variable {α : Type} {e : Enc α} {ty b : Nat} {H : Heap} {l : List α}
theorem B5r {i:Nat} {x:α} (hx:l[i]?=some x) (k:IntKind):A1o e.z (rowP e b l) (.t (.v (.int k (i:Int))))=some (.ptr b (i*e.z)):=by
 have hi:i<l.length:=(List.getElem?_eq_some_iff.1 hx).1
 cases l with
 | nil=>simp at hi
 | cons a r=>
  simp only[rowP,A1o];rw[if_pos ⟨by omega,by omega⟩];simp
theorem A0p.loadAg (h:A0p e ty H b l) {i:Nat} {x:α} (hx:l[i]?=some x):A0g true e.z H (.ptr b (i*e.z))=some (.t (.ag (e.enc x))):=by
 have hi:i<l.length:=(List.getElem?_eq_some_iff.1 hx).1;rcases h with h | h
 ·subst h;simp at hi
 ·have hd:=B0o e l i x hx
  have hlen:i*e.z+e.z<=(l.flatMap e.enc).length:=by
   rw[A1i,<-Nat.succ_mul];exact Nat.mul_le_mul_right _ hi
  have hseg:((l.flatMap e.enc).map PV.t |>.drop (i*e.z)).take e.z=(e.enc x).map .t:=by
   rw[<-List.map_drop,hd,<-List.map_take,<-e.len x,List.take_left'];rfl
  simp only[A0g,h,A1b,if_true,List.length_map,hlen,hseg,agOf,allT_map_t]
end
section
variable {P : Program} {G : A0u}
theorem A2g.keep1 {f:FuncId} {ps:List PV} {R0:Row} {r:T} {H':Heap} {nx':Nat} {ty:TypeId} {cs:List T} (h:A2g P G f ps [(0,R0)] 1 (.t r) H' nx') (hl:look H' 0=some (.cells ty (cs.map .t))) :
  A2g P G f ps [(0,R0)] 1 (.t r) [(0,.cells ty (cs.map .t))] 1:=by
 refine⟨h.1,fun L w us hok hnx hargs=>(h.2 L w us hok hnx hargs).mono ?_⟩;rintro e w' ⟨v,L',rfl,hv,hok',hnx',hm,hx⟩
 have one:∀b r,look [(0,Row.cells ty (cs.map .t))] b=some r->b=0/\r = .cells ty (cs.map .t):=by
  intro b r hb;simp only[look]at hb;split at hb
  ·rename_i e;injection hb with hb;exact⟨e.symm,hb.symm⟩
  ·cases hb
 refine⟨v,{ L' with nx:=1 },rfl,by simp only[RepV]at hv ⊢;exact hv,⟨hok'.lt,fun b r hb=>?_,fun b r hb=>?_,fun b b' r r' hb hb' _=>?_,fun b r hb=>?_,hok'.glob⟩,rfl,
  ⟨hm.keeps,by rw[hnx];exact Nat.le_refl _,hm.μ,hm.size,hm.shape⟩,⟨hx.size,hx.same,hx.more,hx.new,fun g ⟨b,r,hb,e⟩=>?_,hx.shape,hx.outer⟩⟩
 ·obtain⟨rfl,rfl⟩:=one b r hb;obtain⟨arr,ha,hl2,hc⟩:=hok'.rep 0 _ hl;refine⟨arr,ha,hl2,fun j c hj=>?_⟩;obtain⟨x,hx1,hx2,hx3⟩:=hc j c hj;refine⟨x,hx1,hx2,?_⟩;rw[List.getElem?_map]at hj;obtain⟨c0,_,rfl⟩:=Option.map_eq_some_iff.1 hj;simp only[RepV]at hx3 ⊢;exact hx3
 ·obtain⟨rfl,rfl⟩:=one b r hb;exact hok'.apart 0 _ hl
 ·rw[(one b r hb).1,(one b' r' hb').1]
 ·rw[(one b r hb).1];exact Nat.lt_succ_self _
 ·obtain⟨rfl,rfl⟩:=one b r hb;exact hx.mine g ⟨0,_,hl,e⟩
def hObj (ty:TypeId) (g:List T->List T->Option (T×List T)) (ps:List PV) (H:Heap) (nx:Nat):Option (PV×Heap×Nat):=
 match ps with
 | .ptr b 0::args=>match look H b,allT args with
  | some (.cells ty' cs),some ts=>match allT cs with
   | some cs'=>if ty'=ty/\b<nx then(g cs' ts).map fun o=>(.t o.1,upd H b (.cells ty (o.2.map .t)),nx)else none
   | none=>none
  | _,_=>none
 | _=>none
theorem F3t {f:FuncId} {ty:TypeId} {g:List T->List T->Option (T×List T)}
  (h:∀cs ts r cs',g cs ts=some (r,cs')->A2g P G f (.ptr 0 0::ts.map .t) [(0,.cells ty (cs.map .t))] 1 (.t r) [(0,.cells ty (cs'.map .t))] 1):HOK P G f (hObj ty g) where
 call:=fun ps H nx r H' nx' hr=>by
  unfold hObj at hr;split at hr
  ·rename_i b args;split at hr
   ·rename_i ty' cs ts hl ha;split at hr
    ·rename_i cs' hc;split at hr
     ·rename_i hcond;obtain⟨rfl,hb⟩:=hcond;obtain⟨o,ho,e⟩:=Option.map_eq_some_iff.1 hr;injection e with e1 e2;injection e2 with e2 e3;subst e1;subst e2;subst e3;have:=(h cs' ts o.1 o.2 ho).lift1 (b:=b) (NX:=nx) (Hb:=H) (by rw[hl,A5s hc]) hb;rw[<-A5s ha]at this;exact this
     ·cases hr
    ·cases hr
   ·cases hr
  ·cases hr
 fresh:=fun ps H nx r H' nx' hr hf=>by
  unfold hObj at hr;split at hr
  ·rename_i b args;split at hr
   ·rename_i ty' cs ts hl ha;split at hr
    ·rename_i cs' hc;split at hr
     ·rename_i hcond;obtain⟨o,ho,e⟩:=Option.map_eq_some_iff.1 hr;injection e with e1 e2;injection e2 with e2 e3;subst e1;subst e2;subst e3;intro j x hj;rw[A1h]at hj;split at hj
      ·rename_i e;subst e;exact hcond.2
      ·exact hf j x hj
     ·cases hr
    ·cases hr
   ·cases hr
  ·cases hr
theorem F3u {ty:TypeId} {g:List T->List T->Option (T×List T)} {b nx:Nat} {H:Heap} {cs ts:List T} {o:T×List T} (hl:look H b=some (.cells ty (cs.map .t))) (hb:b<nx) (ho:g cs ts=some o) :
  hObj ty g (.ptr b 0::ts.map .t) H nx=some (.t o.1,upd H b (.cells ty (o.2.map .t)),nx):=by
 simp only[hObj,hl,allT_map_t,hb,and_self,if_true,ho,Option.map_some]
end
noncomputable def hOne (ps0:List PV) (H0:Heap) (nx0:Nat) (out:PV×Heap×Nat) (ps:List PV) (H:Heap) (nx:Nat):Option (PV×Heap×Nat):=
 open Classical in if ps = ps0 /\ H = H0 /\ nx = nx0 then some out else none
theorem A3b (ps:List PV) (H:Heap) (nx:Nat) (out:PV×Heap×Nat):hOne ps H nx out ps H nx=some out:=by
 unfold hOne;rw[if_pos ⟨rfl,rfl,rfl⟩]
theorem A3h {P:Program} {G:A0u} {f:FuncId} {ps:List PV} {H:Heap} {nx:Nat} {r:PV} {H':Heap} {nx':Nat} (h:A2g P G f ps H nx r H' nx') (hf:(∀b x,look H b=some x->b<nx)->∀b x,look H' b=some x->b<nx'):HOK P G f (hOne ps H nx (r,H',nx')) where
 call:=fun ps1 H1 nx1 r1 H1' nx1' h1=>by
  unfold hOne at h1;split at h1
  ·rename_i hc;obtain⟨rfl,rfl,rfl⟩:=hc;injection h1 with h1;injection h1 with h1 h2;injection h2 with h2 h3;subst h1;subst h2;subst h3;exact h
  ·cases h1
 fresh:=fun ps1 H1 nx1 r1 H1' nx1' h1=>by
  unfold hOne at h1;split at h1
  ·rename_i hc;obtain⟨rfl,rfl,rfl⟩:=hc;injection h1 with h1;injection h1 with h1 h2;injection h2 with h2 h3;subst h1;subst h2;subst h3;exact hf
  ·cases h1
section
variable {α : Type} {P : Program} {G : A0u} {B : Nat}
theorem B8g {e:Enc α} {ty b k nx nx' n:Nat} {l:List α} {env env':List (Nat×PV)} {H R:Heap} (h:A0p e ty H k l) (hb:b<nx') (hB:B<=b)
  (hR:∀q∈R,look H q.1=some (A3j (fun x=>if x=b then k else x) q.2)/\q.1<nx'/\q.1≠b/\q.1≠k/\A1y nx' q.2=true)
  (he:∀q∈env',look env q.1=some (ren (fun x=>if x=b then k else x) q.2)/\under nx' q.2=true) :
  Sub P G B ⟨env,H,nx,n⟩ ⟨env',R++rowH e ty b l,nx',n⟩:=by
 refine B0l (fun x=>if x=b then k else x) rfl (by show B<=nx';omega) (fun x hx=>by show(if x=b then k else x)=x;rw[if_neg (by omega)]) he (fun q hq=>?_) (fun q hq q' hq' eqn=>?_)
 ·rcases List.mem_append.1 hq with hq | hq
  ·obtain⟨h1,h2,h3,h4,h5⟩:=hR q hq;refine⟨?_,h2,h5⟩;show look H (if q.1=b then k else q.1)=_;rw[if_neg h3];exact h1
  ·obtain⟨hn,rfl⟩:=A2e hq;simp only[if_true,A2a,A1k];exact⟨h.resolve_left hn,hb,trivial⟩
 ·have key:∀q∈R++rowH e ty b l,q.1=b\/(q.1≠b/\q.1≠k):=by
   intro q hq;rcases List.mem_append.1 hq with hq | hq
   ·obtain⟨h1,h2,h3,h4,h5⟩:=hR q hq;exact .inr ⟨h3,h4⟩
   ·obtain⟨hn,rfl⟩:=A2e hq;exact .inl rfl
  have e:(if q.1=b then k else q.1)=(if q'.1=b then k else q'.1):=eqn;rcases key q hq with h1 | ⟨h1,h2⟩<;>rcases key q' hq' with h1' | ⟨h1',h2'⟩
  ·rw[h1,h1']
  ·rw[if_pos h1,if_neg h1']at e;exact absurd e.symm h2'
  ·rw[if_neg h1,if_pos h1']at e;exact absurd e h2
  ·rw[if_neg h1,if_neg h1']at e;exact e
end
inductive Dv where
 | mk (kind:Int) (name:ByteArray) (frm to:Int) (kids:List Dv)
def Dv.kind:Dv->Int | .mk k _ _ _ _=>k
def Dv.frm:Dv->Int | .mk _ _ f _ _=>f
def Dv.to:Dv->Int | .mk _ _ _ t _=>t
def kidT:Nat->List T->T
 | 0,_=>nilS
 | n+1,cs=>.sl (n+1) cs
mutual
def encD:Dv->List T
 | .mk kind name frm to kids=>[iv kind,sv name,iv frm,iv to,kidT kids.length (B2u kids)]
def B2u:List Dv->List T
 | []=>[]
 | d::r=>encD d++B2u r
end
theorem B4d (d:Dv):(encD d).length=5:=by cases d;rw[encD];rfl
mutual
theorem D5i:∀(a b:Dv),encD a=encD b->a=b
 | .mk o n p q k,.mk o' n' p' q' k',h=>by
  rw[encD,encD]at h;injection h with h1 h;injection h with h2 h;injection h with h3 h;injection h with h5 h;injection h with h4 _;injection h1 with h1;injection h1 with _ h1;injection h2 with h2;injection h2 with h2;injection h3 with h3;injection h3 with _ h3;injection h5 with h5;injection h5 with _ h5;subst h1;subst h2;subst h3;subst h5
  have:k=k':=by
   cases k with
   | nil=>
    cases k' with
    | nil=>rfl
    | cons _ _=>cases h4
   | cons x r=>
    cases k' with
    | nil=>cases h4
    | cons y r'=>
     injection h4 with _ h4;exact C8m (x::r) (y::r') h4
  rw[this]
theorem C8m:∀(a b:List Dv),B2u a=B2u b->a=b
 | [],[],_=>rfl
 | [],d::r,h=>by
  rw[B2u,B2u]at h;have:=congrArg List.length h;rw[List.length_append,B4d]at this;simp at this;omega
 | d::r,[],h=>by
  rw[B2u,B2u]at h;have:=congrArg List.length h;rw[List.length_append,B4d]at this;simp at this
 | a::l,b::m,h=>by
  rw[B2u,B2u]at h;have h1:=List.append_inj h (by rw[B4d,B4d]);rw[D5i a b h1.1,C8m l m h1.2]
end
def eD:Enc Dv:=⟨5,encD,B4d,by omega,D5i⟩
theorem C3a:∀l:List Dv,B2u l=l.flatMap eD.enc
 | []=>rfl
 | d::r=>by rw[B2u,List.flatMap_cons,C3a r];rfl
theorem B9p (kind:Int) (name:ByteArray) (frm to:Int) (kids:List Dv):encD (.mk kind name frm to kids)=[iv kind,sv name,iv frm,iv to,A1g eD kids]:=by
 rw[encD]
 cases kids with
 | nil=>rfl
 | cons k r=>
  have e:A1g eD (k::r) = .sl (k::r).length ((k::r).flatMap eD.enc):=rfl;rw[e,<-C3a];rfl
mutual
def IsD:Dv->List T->Prop
 | .mk kind name frm to kids,cs=>∃tk,cs=[iv kind,sv name,iv frm,iv to,tk]/\((tk=nilS/\kids=[])\/∃c,tk = .sl kids.length c/\IsDs kids c)
def IsDs:List Dv->List T->Prop
 | [],cs=>cs=[]
 | d::r,cs=>∃c c',cs=c++c'/\IsD d c/\IsDs r c'
end
def IsK (t:T) (kids:List Dv):Prop:=(t=nilS/\kids=[])\/∃c,t = .sl kids.length c/\IsDs kids c
theorem IsD.len:∀{d:Dv} {c:List T},IsD d c->c.length=5
 | .mk _ _ _ _ _,c,h=>by
  simp only[IsD]at h;obtain⟨tk,rfl,_⟩:=h;rfl
theorem IsD.parts {kind frm to:Int} {name:ByteArray} {kids:List Dv} {c:List T} (h:IsD (.mk kind name frm to kids) c):∃tk,c=[iv kind,sv name,iv frm,iv to,tk]/\IsK tk kids:=by
 simp only[IsD]at h;exact h
mutual
theorem IsD.uniq:∀(a b:Dv) (c:List T),IsD a c->IsD b c->a=b
 | .mk o n p q k,.mk o' n' p' q' k',c,h,h'=>by
  obtain⟨tk,rfl,hk⟩:=h.parts;obtain⟨tk',e,hk'⟩:=h'.parts;injection e with h1 e;injection e with h2 e;injection e with h3 e;injection e with h5 e;injection e with h4 _;injection h1 with h1;injection h1 with _ h1;injection h2 with h2;injection h2 with h2;injection h3 with h3;injection h3 with _ h3;injection h5 with h5;injection h5 with _ h5;subst h1;subst h2;subst h3;subst h4;subst h5
  have:k=k':=by
   rcases hk with⟨rfl,rfl⟩ | ⟨cs,rfl,hc⟩
   ·rcases hk' with⟨_,rfl⟩ | ⟨cs',e,_⟩
    ·rfl
    ·cases e
   ·rcases hk' with⟨e,_⟩ | ⟨cs',e,hc'⟩
    ·cases e
    ·injection e with e1 e2;subst e2;exact IsDs.uniq k k' cs hc hc'
  rw[this]
theorem IsDs.uniq:∀(a b:List Dv) (c:List T),IsDs a c->IsDs b c->a=b
 | [],[],_,_,_=>rfl
 | [],d::r,c,h,h'=>by
  simp only[IsDs]at h h';obtain⟨c1,c2,e,h1,_⟩:=h';have:=h1.len;rw[h]at e;have:=congrArg List.length e;rw[List.length_append]at this;simp at this;omega
 | d::r,[],c,h,h'=>by
  simp only[IsDs]at h h';obtain⟨c1,c2,e,h1,_⟩:=h;have:=h1.len;rw[h']at e;have:=congrArg List.length e;rw[List.length_append]at this;simp at this;omega
 | a::l,b::m,c,h,h'=>by
  simp only[IsDs]at h h';obtain⟨c1,c2,e,h1,h2⟩:=h;obtain⟨c1',c2',e',h1',h2'⟩:=h';rw[e]at e';have h3:=List.append_inj e' (by rw[h1.len,h1'.len]);obtain⟨rfl,rfl⟩:=h3;rw[IsD.uniq a b c1 h1 h1',IsDs.uniq l m c2 h2 h2']
end
mutual
theorem IsD.enc:∀d:Dv,IsD d (encD d)
 | .mk o n p q k=>by
  rw[IsD,encD];refine⟨_,rfl,?_⟩
  cases k with
  | nil=>exact .inl ⟨rfl,rfl⟩
  | cons x r=>exact .inr ⟨_,rfl,IsDs.enc (x::r)⟩
theorem IsDs.enc:∀l:List Dv,IsDs l (B2u l)
 | []=>by rw[IsDs,B2u]
 | d::r=>by
  rw[IsDs,B2u];exact⟨_,_,rfl,IsD.enc d,IsDs.enc r⟩
end
theorem IsDs.at_:∀{l:List Dv} {c:List T} {i:Nat} {x:Dv},IsDs l c->l[i]?=some x->∃ci r,c.drop (i*5)=ci++r/\IsD x ci
 | [],c,i,x,_,h=>by simp at h
 | d::l,c,0,x,h,hx=>by
  simp only[IsDs]at h;obtain⟨c1,c2,rfl,h1,_⟩:=h
  have e:d=x:=by simpa using hx
  subst e;exact⟨c1,c2,rfl,h1⟩
 | d::l,c,i+1,x,h,hx=>by
  simp only[IsDs]at h;obtain⟨c1,c2,rfl,h1,h2⟩:=h;obtain⟨ci,r,e,h3⟩:=h2.at_ (i:=i) (x:=x) (by simpa using hx);refine⟨ci,r,?_,h3⟩;rw[show(i+1)*5=5+i*5 by omega,<-List.drop_drop,List.drop_left' h1.len,e]
theorem IsK.len {t:T} {l:List Dv} (h:IsK t l):A7k (.t t)=some (.t (iv (l.length:Int))):=by
 rcases h with⟨rfl,rfl⟩ | ⟨c,rfl,_⟩<;>rfl
theorem IsK.iaddr {t:T} {l:List Dv} (h:IsK t l) {i:Nat} {x:Dv} (hx:l[i]?=some x) (k:IntKind):∃ci r,A1o 5 (.t t) (.t (.v (.int k (i:Int))))=some (.t (.pt (ci++r)))/\IsD x ci:=by
 have hi:i<l.length:=(List.getElem?_eq_some_iff.1 hx).1;rcases h with⟨rfl,rfl⟩ | ⟨c,rfl,hc⟩
 ·simp at hi
 ·obtain⟨ci,r,e,h3⟩:=hc.at_ hx;refine⟨ci,r,?_,h3⟩;simp only[A1o];rw[if_pos ⟨by omega,by omega⟩,Int.toNat_natCast,e]
def tD:Ty Dv:=⟨fun t d=>∃c,t = .ag c/\IsD d c,fun t a b ⟨c,e,h⟩ ⟨c',e',h'⟩=>by
 rw[e]at e';injection e' with e';subst e';exact IsD.uniq a b c h h'⟩
def tK:Ty (List Dv):=⟨IsK,fun t a b h h'=>by
 rcases h with⟨rfl,rfl⟩ | ⟨c,rfl,hc⟩
 ·rcases h' with⟨_,rfl⟩ | ⟨c',e,_⟩
  ·rfl
  ·cases e
 ·rcases h' with⟨e,_⟩ | ⟨c',e,hc'⟩
  ·cases e
  ·injection e with _ e;subst e
   exact IsDs.uniq a b c hc hc'⟩
abbrev lbs (s:ByteArray):List UInt8:=s.data.toList
theorem E2r {a b:ByteArray} (h:lbs a=lbs b):a=b:=by
 cases a;cases b;congr 1;exact Array.ext' h
def cmpI (a b:Int):Int:=if a<b then -1 else if b<a then 1 else 0
def cmpS (a b:ByteArray):Int:=if lbs a<lbs b then -1 else if lbs b<lbs a then 1 else 0
def A3k (x y:Int):Int:=if x=0 then y else x
structure WO {α:Type} (c:α->α->Int):Prop where
 anti:∀a b,c b a = - c a b
 tie:∀a b d,c a b=0->c a d=c b d
 trans:∀a b d,c a b<0->c b d<0->c a d<0
theorem WO.refl {α:Type} {c:α->α->Int} (h:WO c) (a:α):c a a=0:=by have:=h.anti a a;omega
theorem WO.tieR {α:Type} {c:α->α->Int} (h:WO c) {a b:α} (d:α) (e:c a b=0):c d a=c d b:=by
 rw[h.anti a d,h.anti b d,h.tie a b d e]
theorem WO.on {α β:Type} {c:β->β->Int} (h:WO c) (f:α->β):WO (fun a b=>c (f a) (f b)):=
 ⟨fun a b=>h.anti _ _,fun a b d=>h.tie _ _ _,fun a b d=>h.trans _ _ _⟩
theorem WO.then {α:Type} {c e:α->α->Int} (h:WO c) (k:WO e):WO (fun a b=>A3k (c a b) (e a b)):=by
 refine⟨fun a b=>?_,fun a b d hz=>?_,fun a b d h1 h2=>?_⟩
 ·simp only[A3k];rw[h.anti a b,k.anti a b];split<;>split<;>omega
 ·simp only[A3k]at hz ⊢;split at hz
  ·rename_i h0;rw[h.tie a b d h0,k.tie a b d hz]
  ·exact absurd hz (by assumption)
 ·simp only[A3k]at h1 h2 ⊢;split at h1
  ·rename_i h0;have e1:=h.tie a b d h0;split at h2
   ·rename_i h3;rw[e1,if_pos h3];exact k.trans _ _ _ h1 h2
   ·rw[e1,if_neg (by assumption)];exact h2
  ·split at h2
   ·rename_i h3;have e2:=h.tieR a h3;rw[<-e2,if_neg (by assumption)];exact h1
   ·have:=h.trans _ _ _ h1 h2;rw[if_neg (by omega)];exact this
theorem A4s {x y:Int}:A3k x y=0 ↔ x=0/\y=0:=by
 unfold A3k;split
 ·rename_i h;exact⟨fun e=>⟨h,e⟩,fun e=>e.2⟩
 ·rename_i h;exact⟨fun e=>absurd e h,fun e=>absurd e.1 h⟩
theorem D1y:WO cmpI:=by
 refine⟨fun a b=>?_,fun a b d h=>?_,fun a b d h1 h2=>?_⟩<;>simp only[cmpI]at *
 ·split<;>split<;>first | omega | (split<;>omega)
 ·have:a=b:=by
   split at h
   ·omega
   ·split at h<;>omega
  rw[this]
 ·have h3:a<b:=by
   split at h1
   ·assumption
   ·split at h1<;>omega
  have h4:b<d:=by
   split at h2
   ·assumption
   ·split at h2<;>omega
  rw[if_pos (by omega)];omega
theorem A1u {a b:Int}:cmpI a b=0 ↔ a=b:=by
 simp only[cmpI];constructor
 ·intro h;split at h
  ·omega
  ·split at h<;>omega
 ·rintro rfl;rw[if_neg (by omega),if_neg (by omega)]
theorem A6w {a b:ByteArray}:cmpS a b=0 ↔ a=b:=by
 simp only[cmpS];constructor
 ·intro h;split at h
  ·omega
  ·split at h
   ·omega
   ·rename_i h1 h2;exact E2r (List.le_antisymm (List.not_lt.1 h2) (List.not_lt.1 h1))
 ·rintro rfl;rw[if_neg (List.lt_irrefl _),if_neg (List.lt_irrefl _)]
theorem F3v {a b:ByteArray}:cmpS a b<0 ↔ lbs a<lbs b:=by
 simp only[cmpS];constructor
 ·intro h;split at h
  ·assumption
  ·split at h<;>omega
 ·intro h;rw[if_pos h];omega
theorem F3w:WO cmpS:=by
 refine⟨fun a b=>?_,fun a b d h=>?_,fun a b d h1 h2=>?_⟩
 ·simp only[cmpS];by_cases h:lbs a<lbs b
  ·simp[List.lt_asymm h,h]
  ·by_cases k:lbs b<lbs a
   ·simp[k,h]
   ·simp[k,h]
 ·rw[A6w.1 h]
 ·rw[F3v]at *;exact List.lt_trans h1 h2
mutual
def cmpD:Dv->Dv->Int
 | .mk k n f t ks,.mk k' n' f' t' ks'=>A3k (cmpI f f') (A3k (cmpI t t') (A3k (cmpI k k') (A3k (cmpS n n') (cmpK ks ks'))))
def cmpK:List Dv->List Dv->Int
 | [],[]=>0
 | [],_::_=>-1
 | _::_,[]=>1
 | a::l,b::m=>A3k (cmpD a b) (cmpK l m)
end
mutual
theorem B0q:∀{a b:Dv},cmpD a b=0 ↔ a=b
 | .mk k n f t ks,.mk k' n' f' t' ks'=>by
  rw[cmpD,A4s,A4s,A4s,A4s,A1u,A1u,A1u,A6w,C8n];constructor
  ·rintro⟨rfl,rfl,rfl,rfl,rfl⟩;rfl
  ·intro h;injection h with h1 h2 h3 h4 h5;exact⟨h3,h4,h1,h2,h5⟩
theorem C8n:∀{a b:List Dv},cmpK a b=0 ↔ a=b
 | [],[]=>by simp[cmpK]
 | [],_::_=>by simp[cmpK]
 | _::_,[]=>by simp[cmpK]
 | a::l,b::m=>by rw[cmpK,A4s,B0q,C8n,List.cons.injEq]
end
def ascD:List Dv->Bool
 | a::b::r=>decide (cmpD a b<0)&&ascD (b::r)
 | _=>true
structure Pr where
 kind:Int
 name:ByteArray
 frm:Int
 to:Int
 deriving DecidableEq
def ordP (a b:Pr):Int:=A3k (cmpI a.frm b.frm) (A3k (cmpI a.to b.to) (A3k (cmpI a.kind b.kind) (cmpS a.name b.name)))
theorem A2k:WO ordP:=(D1y.on Pr.frm).then ((D1y.on Pr.to).then ((D1y.on Pr.kind).then (F3w.on Pr.name)))
theorem B4e {a b:Pr}:ordP a b=0 ↔ a=b:=by
 rw[ordP,A4s,A4s,A4s,A1u,A1u,A1u,A6w];constructor
 ·obtain⟨_,_,_,_⟩:=a;obtain⟨_,_,_,_⟩:=b;rintro⟨rfl,rfl,rfl,rfl⟩;rfl
 ·rintro rfl;exact⟨rfl,rfl,rfl,rfl⟩
mutual
def colP:Dv->List Pr
 | .mk k n f t ks=>(if k=0 then [⟨0,n,f,t⟩]else if k=1 then [⟨1,n,f,t⟩]else if k=2 then [⟨2,n,f,t⟩,⟨3,⟨#[]⟩,f,t⟩]else [])++colK ks
def colK:List Dv->List Pr
 | []=>[]
 | d::r=>colP d++colK r
end
def insP (p:Pr):List Pr->List Pr
 | []=>[p]
 | x::r=>if ordP p x<0 then p::x::r else if ordP p x=0 then x::r else x::insP p r
def uP (l:List Pr):List Pr:=l.foldl (fun a p=>insP p a) []
def AscP (l:List Pr):Prop:=l.Pairwise fun a b=>ordP a b<0
theorem C5a {p y:Pr}:∀{l:List Pr},y∈insP p l ↔ y=p\/y∈l
 | []=>by simp[insP]
 | x::r=>by
  rw[insP];split
  ·simp
  ·split
   ·rename_i h;have:=B4e.1 h;subst this;simp
   ·rw[List.mem_cons,C5a,List.mem_cons];constructor
    ·rintro(h | h | h)
     ·exact .inr (.inl h)
     ·exact .inl h
     ·exact .inr (.inr h)
    ·rintro(h | h | h)
     ·exact .inr (.inl h)
     ·exact .inl h
     ·exact .inr (.inr h)
theorem D5j {p:Pr}:∀{l:List Pr},AscP l->AscP (insP p l)
 | [],_=>List.pairwise_singleton _ _
 | x::r,h=>by
  obtain⟨h1,h2⟩:=List.pairwise_cons.1 h;rw[insP];split
  ·rename_i hlt;refine List.pairwise_cons.2 ⟨fun y hy=>?_,h⟩;rcases List.mem_cons.1 hy with rfl | hy
   ·exact hlt
   ·exact A2k.trans _ _ _ hlt (h1 y hy)
  ·split
   ·exact h
   ·rename_i hn hz;refine List.pairwise_cons.2 ⟨fun y hy=>?_,D5j h2⟩;rcases C5a.1 hy with rfl | hy
    ·have:=A2k.anti x y;omega
    ·exact h1 y hy
theorem F3x:∀{l a:List Pr},AscP a->AscP (l.foldl (fun a p=>insP p a) a)/\∀y,y∈l.foldl (fun a p=>insP p a) a ↔ y∈a\/y∈l
 | [],a,h=>⟨h,fun y=>by simp⟩
 | p::l,a,h=>by
  have i:=F3x (l:=l) (D5j (p:=p) h);refine⟨i.1,fun y=>?_⟩;rw[List.foldl_cons,i.2 y,C5a,List.mem_cons];constructor
  ·rintro((h | h) | h)
   ·exact .inr (.inl h)
   ·exact .inl h
   ·exact .inr (.inr h)
  ·rintro(h | h | h)
   ·exact .inl (.inr h)
   ·exact .inl (.inl h)
   ·exact .inr h
theorem C8o (l:List Pr):AscP (uP l):=(F3x List.Pairwise.nil).1
theorem C8p {l:List Pr} {y:Pr}:y∈uP l ↔ y∈l:=by
 have:=(F3x (l:=l) List.Pairwise.nil).2 y;rw[uP,this];simp
theorem B9q:∀{l m:List Pr},AscP l->AscP m->(∀x,x∈l ↔ x∈m)->l=m
 | [],[],_,_,_=>rfl
 | [],b::m,_,_,h=>absurd ((h b).2 (by simp)) (by simp)
 | a::l,[],_,_,h=>absurd ((h a).1 (by simp)) (by simp)
 | a::l,b::m,hl,hm,h=>by
  obtain⟨h1,h2⟩:=List.pairwise_cons.1 hl;obtain⟨h3,h4⟩:=List.pairwise_cons.1 hm
  have irr:∀x:Pr,¬ordP x x<0:=fun x=>by rw[A2k.refl];omega
  have e:a=b:=by
   rcases List.mem_cons.1 ((h a).1 (by simp))with e | e
   ·exact e
   ·rcases List.mem_cons.1 ((h b).2 (by simp))with e2 | e2
    ·exact e2.symm
    ·exact absurd (A2k.trans _ _ _ (h1 b e2) (h3 a e)) (irr _)
  subst e;rw[B9q h2 h4 fun x=>?_];constructor
  ·intro hx;rcases List.mem_cons.1 ((h x).1 (by simp[hx]))with e | e
   ·subst e;exact absurd (h1 _ hx) (irr _)
   ·exact e
  ·intro hx;rcases List.mem_cons.1 ((h x).2 (by simp[hx]))with e | e
   ·subst e;exact absurd (h3 _ hx) (irr _)
   ·exact e
def prp (d:Dv):List Pr:=uP (colP d)
def holds (d:Dv) (p:Pr):Bool:=decide (p∈prp d)
def disc (l:List Dv):List Pr:=(uP (l.flatMap colP)).filter fun p=>!l.all fun d=>holds d p
structure Dc where
 p:Pr
 yes:Bool
 deriving DecidableEq
def agr (ds:List Dc) (d:Dv):Bool:=ds.all fun x=>holds d x.p==x.yes
def remF:Nat->List Dv->List Dc->List Nat
 | _,[],_=>[]
 | i,d::r,ds=>if agr ds d then i::remF (i+1) r ds else remF (i+1) r ds
def remD (l:List Dv) (ds:List Dc):List Nat:=remF 0 l ds
def okD (l:List Dv) (out:List Dc) (d:Dc):Bool:=decide (d.p∈disc l) && !(out.any fun y=>decide (y.p=d.p)) && !(remD l (out++[d])).isEmpty
def keep (l:List Dv):List Dc->List Dc->List Dc
 | out,[]=>out
 | out,d::r=>if okD l out d then keep l (out++[d]) r else keep l out r
theorem E2s {ds:List Dc}:∀{l:List Dv} {i n:Nat},n∈remF i l ds->∃d,l[n-i]?=some d/\i<=n/\agr ds d=true
 | [],i,n,h=>by simp[remF]at h
 | d::r,i,n,h=>by
  have step:n∈remF (i+1) r ds->∃d',(d::r)[n-i]?=some d'/\i<=n/\agr ds d'=true:=fun h=>by
   obtain⟨d',h1,h2,h3⟩:=E2s h;refine⟨d',?_,by omega,h3⟩;rw[show n-i=(n-(i+1))+1 by omega,List.getElem?_cons_succ];exact h1
  rw[remF]at h;split at h
  ·rename_i ha;rcases List.mem_cons.1 h with rfl | h
   ·exact⟨d,by simp,by omega,ha⟩
   ·exact step h
  ·exact step h
theorem C5b {l:List Dv} {ds:List Dc} {n:Nat} (h:n∈remD l ds):∃d,l[n]?=some d/\agr ds d=true:=by
 obtain⟨d,h1,_,h3⟩:=E2s h;exact⟨d,by simpa using h1,h3⟩
theorem C5c {l:List Dv}:∀{r out:List Dc},(keep l out r).length<=out.length+r.length
 | [],out=>by simp[keep]
 | d::r,out=>by
  rw[keep];split
  ·have:=C5c (l:=l) (r:=r) (out:=out++[d]);simp at this ⊢;omega
  ·have:=C5c (l:=l) (r:=r) (out:=out);simp at this ⊢;omega
structure It where
 id:ByteArray
 words:List ByteArray
 state:Int
 decs:List Dc
 gold:Dv
def A2c:Dv:=.mk 0 ⟨#[]⟩ 0 0 []
def oneL (l:List Dv) (ds:List Dc):Option Dv:=match remD l ds with
 | [n]=>l[n]?
 | _=>none
def repI (x:It) (l:List Dv):It:=
 let k:=keep l [] x.decs
 if x.state=1 then
  match oneL l k with
  | some d=>⟨x.id,x.words,1,k,d⟩
  | none=>⟨x.id,x.words,0,k,A2c⟩
 else⟨x.id,x.words,x.state,k,A2c⟩
theorem B1u {l:List Dv} {ds:List Dc} {d:Dv} (h:oneL l ds=some d):d∈l/\agr ds d=true:=by
 unfold oneL at h;split at h
 ·rename_i n e;obtain⟨x,h1,h2⟩:=C5b (l:=l) (ds:=ds) (n:=n) (by rw[e];simp);rw[h1]at h;cases h;exact⟨List.mem_of_getElem? h1,h2⟩
 ·cases h
end Go.Abs
