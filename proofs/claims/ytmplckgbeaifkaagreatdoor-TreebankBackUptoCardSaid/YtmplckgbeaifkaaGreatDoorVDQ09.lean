/- Auxiliary facts. -/
import Derived.Test.YtmplckgbeaifkaaGreatDoorVDQ08
import Derived.IntWalk
set_option linter.unusedSimpArgs false
set_option linter.unusedVariables false
namespace Go.Abs
open Go
def GOK (P:Program) (G:A0q) (f:FuncId) (g:List T->Option T):Prop:=∀args r,g args=some r->A0z P G f args (· = r)
abbrev Tbl:=List (Nat×(List T->Option T))
def orcT (tbl:Tbl) (f:FuncId) (args:List T):Option T:=
 match look tbl f with
 | some g=>g args
 | none=>none
structure HOK (P:Program) (G:A0q) (f:FuncId) (h:List PV->Heap->Nat->Option (PV×Heap×Nat)):Prop where
 call:∀ps H nx r H' nx',h ps H nx=some (r,H',nx')->A1n P G f ps H nx r H' nx'
 fresh:∀ps H nx r H' nx',h ps H nx=some (r,H',nx')->(∀b x,look H b=some x->b<nx)->∀b x,look H' b=some x->b<nx'
abbrev HTbl:=List (Nat×(List PV->Heap->Nat->Option (PV×Heap×Nat)))
def orcH (tbl:HTbl) (f:FuncId) (ps:List PV) (H:Heap) (nx:Nat):Option (PV×Heap×Nat):=
 match look tbl f with
 | some g=>g ps H nx
 | none=>none
def orh (tbl:Tbl) (htbl:HTbl):A0o:=⟨orcT tbl,orcH htbl⟩
abbrev orc (tbl:Tbl):A0o:=orh tbl []
@[simp] theorem orh_t (tbl:Tbl) (htbl:HTbl) (f:FuncId) (args:List T):(orh tbl htbl).t f args=orcT tbl f args:=rfl
@[simp] theorem orh_h (tbl:Tbl) (htbl:HTbl) (f:FuncId) (ps:List PV) (H:Heap) (nx:Nat):(orh tbl htbl).h f ps H nx=orcH htbl f ps H nx:=rfl
@[simp] theorem orc_cons (k f:Nat) (g:List T->Option T) (r:Tbl) (args:List T):orcT ((k,g)::r) f args=if k=f then g args else orcT r f args:=by
 unfold orcT;rw[look_cons];by_cases h:k=f
 ·rw[if_pos h,if_pos h]
 ·rw[if_neg h,if_neg h]
@[simp] theorem orc_nil (f:Nat) (args:List T):orcT [] f args=none:=rfl
@[simp] theorem orcH_cons (k f:Nat) (g:List PV->Heap->Nat->Option (PV×Heap×Nat)) (r:HTbl) (ps:List PV) (H:Heap) (nx:Nat):orcH ((k,g)::r) f ps H nx=if k=f then g ps H nx else orcH r f ps H nx:=by
 unfold orcH;rw[look_cons];by_cases h:k=f
 ·rw[if_pos h,if_pos h]
 ·rw[if_neg h,if_neg h]
@[simp] theorem orcH_nil (f:Nat) (ps:List PV) (H:Heap) (nx:Nat):orcH [] f ps H nx=none:=rfl
def A0x (P:Program) (G:A0q) (tbl:Tbl):Prop:=∀q∈tbl,GOK P G q.1 q.2
theorem A0x.nil {P:Program} {G:A0q}:A0x P G []:=fun _ h=>by cases h
theorem A0x.cons {P:Program} {G:A0q} {f:Nat} {g:List T->Option T} {r:Tbl} (h:GOK P G f g) (hr:A0x P G r):A0x P G ((f,g)::r):=fun q hq=>by
 rcases List.mem_cons.1 hq with rfl | hq
 ·exact h
 ·exact hr q hq
def A1s (P:Program) (G:A0q) (tbl:HTbl):Prop:=∀q∈tbl,HOK P G q.1 q.2
theorem A1s.nil {P:Program} {G:A0q}:A1s P G []:=fun _ h=>by cases h
theorem A1s.cons {P:Program} {G:A0q} {f:Nat} {g:List PV->Heap->Nat->Option (PV×Heap×Nat)} {r:HTbl} (h:HOK P G f g) (hr:A1s P G r):A1s P G ((f,g)::r):=fun q hq=>by
 rcases List.mem_cons.1 hq with rfl | hq
 ·exact h
 ·exact hr q hq
theorem A0x.soundH {P:Program} {G:A0q} {tbl:Tbl} {htbl:HTbl} (h:A0x P G tbl) (hh:A1s P G htbl):(orh tbl htbl).Sound P G where
 t:=fun f args r hr=>by
  simp only[orh,orcT]at hr;split at hr
  ·rename_i g hg;exact h _ (A0k hg) args r hr
  ·cases hr
 h:=fun f ps H nx r H' nx' hr=>by
  simp only[orh,orcH]at hr;split at hr
  ·rename_i g hg;exact(hh _ (A0k hg)).call ps H nx r H' nx' hr
  ·cases hr
 fresh:=fun f ps H nx r H' nx' hr=>by
  simp only[orh,orcH]at hr;split at hr
  ·rename_i g hg;exact(hh _ (A0k hg)).fresh ps H nx r H' nx' hr
  ·cases hr
theorem A0x.ctxH {P:Program} {G:A0q} {tbl:Tbl} {htbl:HTbl} (h:A0x P G tbl) (hh:A1s P G htbl) (hm:P.follows .mixedOrders=true):Ctx P G (orh tbl htbl):=⟨hm,h.soundH hh⟩
theorem A0x.ctx {P:Program} {G:A0q} {tbl:Tbl} (h:A0x P G tbl) (hm:P.follows .mixedOrders=true):Ctx P G (orc tbl):=h.ctxH A1s.nil hm
def hOfT (g:List T->Option T) (ps:List PV) (H:Heap) (nx:Nat):Option (PV×Heap×Nat):=
 (toTs H ps).bind fun q=>(g q.1).map fun r=>(.t r,if A4n r then H else remAll H q.2,nx)
theorem GOK.hok {P:Program} {G:A0q} {f:FuncId} {g:List T->Option T} (h:GOK P G f g):HOK P G f (hOfT g) where
 call:=fun ps H nx r H' nx' hr=>by
  unfold hOfT at hr;obtain⟨⟨targs,F⟩,hT,hr⟩:=Option.bind_eq_some_iff.1 hr;obtain⟨r0,hg,e⟩:=A0i hr;injection e with e1 e2;injection e2 with e2 e3;subst e1;subst e2;subst e3;exact(h _ _ hg).callP hT
 fresh:=fun ps H nx r H' nx' hr hf b x hb=>by
  unfold hOfT at hr;obtain⟨⟨targs,F⟩,hT,hr⟩:=Option.bind_eq_some_iff.1 hr;obtain⟨r0,hg,e⟩:=A0i hr;injection e with e1 e2;injection e2 with e2 e3;subst e1;subst e2;subst e3;split at hb
  ·exact hf b x hb
  ·exact hf b x (A1l F H b x hb).1
section
variable {P : Program} {G : A0q} {B N : Nat} {Q : Exit -> A0b -> Prop} {s : A0b}
def B8z (P:Program) (G:A0q) (B:Nat) (S:A0b) (Q:Exit->A0b->Prop):Exit->A0b->Prop
 | .normal,s=>Sub P G B s S/\s.n=S.n
 | e,s=>Q e s
@[simp] theorem roundTo_normal (S:A0b) (s:A0b):B8z P G B S Q .normal s=(Sub P G B s S/\s.n=S.n):=rfl
@[simp] theorem roundTo_ret (S:A0b) (s:A0b):B8z P G B S Q .ret s=Q .ret s:=rfl
@[simp] theorem roundTo_exit (S:A0b) (i:Nat) (s:A0b):B8z P G B S Q (.exit i) s=Q (.exit i) s:=rfl
def C7h (Q:Exit->A0b->Prop):Exit->A0b->Prop
 | .normal,_=>False
 | e,s=>Q e s
@[simp] theorem lastTo_normal (s:A0b):C7h Q .normal s=False:=rfl
@[simp] theorem lastTo_ret (s:A0b):C7h Q .ret s=Q .ret s:=rfl
@[simp] theorem lastTo_exit (i:Nat) (s:A0b):C7h Q (.exit i) s=Q (.exit i) s:=rfl
theorem D3i {x:A0j} (S:Nat->A0b) (n:Nat) (hN:∀j,(S j).n=N) (h0:Sub P G B s (S 0)) (hs:s.n=N) (round:∀j,j<n->MC P G B N x (B8z P G B (S (j+1)) Q) (S j)) (last:MC P G B N x (C7h Q) (S n)):MC P G B N (.loop x) Q s:=by
 refine MC.sub h0 ((hN 0).trans hs.symm) ?_;refine D0n (fun k s=>∃j,j+k=n/\s=S j) n ⟨0,by omega,rfl⟩ (fun k s ⟨j,_,e⟩=>by rw[e];exact hN j) ?_;rintro k s ⟨j,hj,rfl⟩;by_cases hlt:j<n
 ·refine(round j hlt).mono fun e s1 q=>?_;cases e
  case normal=>exact⟨k-1,by omega,S (j+1),q.1,j+1,by omega,rfl⟩
  all_goals exact q
 ·have:j=n:=by omega
  subst this;refine last.mono fun e s1 q=>?_;cases e
  case normal=>exact q.elim
  all_goals exact q
def Next (P:Program) (G:A0q) (B:Nat) {α:Type} (S:α->A0b) (Ok:α->Prop) (s:A0b):Prop:=∃a,Ok a/\Sub P G B s (S a)
theorem Next.mk {α:Type} {S:α->A0b} {Ok:α->Prop} {s:A0b} (a:α) (h:Ok a) (hs:Sub P G B s (S a)):Next P G B S Ok s:=⟨a,h,hs⟩
def B5x (P:Program) (G:A0q) (B:Nat) {α:Type} (S:α->A0b) (Ok:α->Prop) (Q:Exit->A0b->Prop):Exit->A0b->Prop
 | .normal,s=>Next P G B S Ok s
 | e,s=>Q e s
@[simp] theorem whileTo_normal {α:Type} (S:α->A0b) (Ok:α->Prop) (s:A0b):B5x P G B S Ok Q .normal s=Next P G B S Ok s:=rfl
@[simp] theorem whileTo_ret {α:Type} (S:α->A0b) (Ok:α->Prop) (s:A0b):B5x P G B S Ok Q .ret s=Q .ret s:=rfl
@[simp] theorem whileTo_exit {α:Type} (S:α->A0b) (Ok:α->Prop) (i:Nat) (s:A0b):B5x P G B S Ok Q (.exit i) s=Q (.exit i) s:=rfl
theorem A1a {x:A0j} {α:Type} (S:α->A0b) (μ:α->Nat) (Ok:α->Prop) (a0:α) (hN:∀a,(S a).n=N) (hok:Ok a0) (h0:Sub P G B s (S a0)) (hs:s.n=N)
  (round:∀a,Ok a->MC P G B N x (B5x P G B S (fun a'=>Ok a'/\μ a'<μ a) Q) (S a)):MC P G B N (.loop x) Q s:=by
 refine MC.sub h0 ((hN a0).trans hs.symm) ?_;refine D0n (fun k s=>∃a,Ok a/\μ a=k/\s=S a) (μ a0) ⟨a0,hok,rfl,rfl⟩ (fun k s ⟨a,_,_,e⟩=>by rw[e];exact hN a) ?_;rintro k s ⟨a,ha,rfl,rfl⟩;refine(round a ha).mono fun e s1 q=>?_;cases e
 case normal=>obtain⟨a',h1,h2⟩:=q;exact⟨μ a',h1.2,S a',h2,a',h1.1,rfl,rfl⟩
 all_goals exact q
theorem A1f {x y:A0j} {α:Type} (S:α->A0b) (Ok:α->Prop) (hN:∀a,(S a).n=N) (h1:MC P G B N x (B5x P G B S Ok Q) s) (h2:∀a,Ok a->MC P G B N y Q (S a)):MC P G B N (.seq x y) Q s:=by
 intro c hc hn;obtain⟨a,b,rfl,ha,hb⟩:=A1o hc;refine C6e (A5f.post (h1 a ha hn) fun e s1 q=>?_);cases e
 case normal=>
  obtain⟨d,hd,hs⟩:=q;exact⟨S d,hs,h2 d hd b hb (hN d)⟩
 all_goals exact⟨s1,Sub.refl s1,q⟩
end
theorem wrap_i64 {z:Int} (h1:-9223372036854775808<=z) (h2:z<=9223372036854775807):IntKind.i64.wrap z=z:=by
 unfold IntKind.wrap IntKind.bits IntKind.signed;simp only[Bool.true_and,Nat.reduceSub]
 have e1:(2:Int)^64=18446744073709551616:=by decide
 have e2:(2:Int)^63=9223372036854775808:=by decide
 simp only[e1,e2,ge_iff_le,decide_eq_true_eq];split<;>omega
theorem A0p {z:Int} {n:Nat} (e:z=n) (h:n<=9223372036854775807):IntKind.i64.wrap z=(n:Int):=by
 rw[wrap_i64 (by omega) (by omega),e]
theorem B1n {z:Int} (h1:0<=z) (h2:z<18446744073709551616):IntKind.u64.wrap z=z:=by
 unfold IntKind.wrap IntKind.bits IntKind.signed;simp only[Bool.false_and,Bool.false_eq_true,if_false]
 have e1:(2:Int)^64=18446744073709551616:=by decide
 rw[e1];omega
@[simp] theorem kbits_u64:IntKind.u64.bits=64:=rfl
@[simp] theorem kbits_i64:IntKind.i64.bits=64:=rfl
section
variable {P : Program} {G : A0q}
mutual
theorem C7i {L L':Loc} {w:World} {σ:Nat->Nat} {n:Nat} (hI:L'.I=L.I) (hμ:∀b,b<n->L'.μ (σ b)=L.μ b/\σ b<L'.nx):∀(p:PV) {u:Value},under n p=true->RepV P L w p u->RepV P L' w (ren σ p) u
 | .t x,u,_,h=>by simp only[ren,RepV,hI]at h ⊢;exact h
 | .row b o m z,u,hu,h=>by
  simp only[ren,RepV,under,decide_eq_true_eq]at h hu ⊢;obtain⟨h1,h2⟩:=hμ b hu;rw[h1];exact⟨h2,h.2⟩
 | .ptr b o,u,hu,h=>by
  simp only[ren,RepV,under,decide_eq_true_eq]at h hu ⊢;obtain⟨h1,h2⟩:=hμ b hu;rw[h1];exact⟨h2,h.2⟩
 | .ag cs,u,hu,h=>by
  simp only[ren,RepV,under]at h hu ⊢;obtain⟨us,e,h1,hl⟩:=h;exact⟨us,e,h1,B9a hI hμ cs hu hl⟩
 | .tu cs,u,hu,h=>by
  simp only[ren,RepV,under]at h hu ⊢;obtain⟨us,e,hl⟩:=h;exact⟨us,e,B9a hI hμ cs hu hl⟩
 | .fn f a c,u,hu,h=>by
  simp only[ren,RepV,under,Bool.and_eq_true]at h hu ⊢;obtain⟨us,vs,e,h1,h2⟩:=h;exact⟨us,vs,e,B9a hI hμ a hu.1 h1,B9a hI hμ c hu.2 h2⟩
 | .ic t x,u,hu,h=>by
  simp only[ren,RepV,under]at h hu ⊢;obtain⟨y,e,hy⟩:=h;exact⟨y,e,C7i hI hμ x hu hy⟩
 | .mp b,u,hu,h=>by
  simp only[ren,RepV,under,decide_eq_true_eq]at h hu ⊢;obtain⟨h1,h2⟩:=hμ b hu;rw[h1];exact⟨h2,h.2⟩
 | .dead,u,_,_=>by simp only[ren,RepV]
theorem B9a {L L':Loc} {w:World} {σ:Nat->Nat} {n:Nat} (hI:L'.I=L.I) (hμ:∀b,b<n->L'.μ (σ b)=L.μ b/\σ b<L'.nx):∀(ps:List PV) {us:List Value},A1g n ps=true->A0m P L w ps us->A0m P L' w (renL σ ps) us
 | [],us,_,h=>by simpa only[renL,A0m]using h
 | p::ps,us,hu,h=>by
  simp only[renL,A0m,A1g,Bool.and_eq_true]at h hu ⊢;obtain⟨x,xs,e,hx,hxs⟩:=h;exact⟨x,xs,e,C7i hI hμ p hu.1 hx,B9a hI hμ ps hu.2 hxs⟩
end
theorem E0i {L L':Loc} {w:World} {σ:Nat->Nat} {n g:Nat} (hI:L'.I=L.I) (hμ:∀b,b<n->L'.μ (σ b)=L.μ b/\σ b<L'.nx) {x:Row} (hu:A2a n x=true) (h:A5s P L w g x):A5s P L' w g (A2u σ x):=by
 cases x with
 | cells ty cs=>
  obtain⟨arr,ha,hl,hc⟩:=h;refine⟨arr,ha,by rw[A9d];exact hl,fun j c hj=>?_⟩;rw[A7e]at hj;obtain⟨c0,hc0,rfl⟩:=A0i hj;obtain⟨v,hv,h1,hr⟩:=hc j c0 hc0;exact⟨v,hv,h1,C7i hI hμ c0 (A5p hu hc0) hr⟩
 | iter t pos=>exact h
 | map kk es=>exact h
 | lp l x k p=>exact⟨h.1,h.2.1,C7i hI hμ p hu h.2.2⟩
def A4o (σ:Nat->Nat) (nx NX:Nat) (b:Nat):Nat:=if b<nx then σ b else NX+(b-nx)
theorem A1n.lift {f:FuncId} {ps:List PV} {H H':Heap} {nx nx':Nat} {r:PV} (h:A1n P G f ps H nx r H' nx') (σ:Nat->Nat) (NX:Nat) (Hb Hb':Heap)
  (hσ:∀b,b<nx->σ b<NX) (hinj:∀b c,b<nx->c<nx->σ b=σ c->b=c) (hle:nx<=nx')
  (hH:∀q∈H,look Hb (σ q.1)=some (A2u σ q.2)/\q.1<nx/\A2a nx q.2=true) (hps:A1g nx ps=true)
  (hr:under nx' r=true) (hH':∀q∈H',q.1<nx'/\A2a nx' q.2=true)
  (hb':∀b x,look Hb' b=some x->(∃b0 x0,look H' b0=some x0/\b=A4o σ nx NX b0/\x=A2u (A4o σ nx NX) x0)\/(look Hb b=some x/\∀b0 x0,look H b0=some x0->σ b0≠b)) :
  A1n P G f (renL σ ps) Hb NX (ren (A4o σ nx NX) r) Hb' (NX+(nx'-nx)):=by
 refine⟨h.1,fun L w us hok hnx hargs=>?_⟩
 let L0:Loc:=⟨L.I,fun b=>L.μ (σ b),nx⟩
 have hok0:A1i P G L0 H w:=by
  refine⟨hok.lt,fun b x hb=>?_,fun b x hb=>?_,fun b b' x x' hb hb' e=>?_,fun b x hb=>(hH _ (A0k hb)).2.1,hok.glob⟩
  ·obtain⟨h1,h2,h3⟩:=hH _ (A0k hb);have:=hok.rep _ _ h1
   cases x with
   | cells ty cs=>
    obtain⟨arr,ha,hl,hc⟩:=this;refine⟨arr,ha,by rw[A9d]at hl;exact hl,fun j c hj=>?_⟩;obtain⟨v,hv,h1v,hrv⟩:=hc j (ren σ c) (by rw[A7e,hj];rfl);exact⟨v,hv,h1v,B2z c (A5p h3 hj) hrv⟩
   | iter t pos=>exact this
   | map kk es=>exact this
   | lp l x k p=>exact⟨this.1,this.2.1,B2z p h3 this.2.2⟩
  ·exact hok.apart _ _ (hH _ (A0k hb)).1
  ·exact hinj b b' (hH _ (A0k hb)).2.1 (hH _ (A0k hb')).2.1 (hok.inj _ _ _ _ (hH _ (A0k hb)).1 (hH _ (A0k hb')).1 e)
 have mine0:∀g,Mine L0 H g->Mine L Hb g:=fun g ⟨b,x,hb,e⟩=>⟨σ b,_,(hH _ (A0k hb)).1,e⟩
 refine(h.2 L0 w us hok0 rfl (B1m ps hps hargs)).mono ?_;rintro e w' ⟨v,L1,rfl,hv,hok1,hnx1,hm1,hx1⟩
 let L':Loc:=⟨L1.I,fun b=>if b<NX then L.μ b else L1.μ (b-NX+nx),NX+(nx'-nx)⟩
 have hμ:∀b,b<nx'->L'.μ (A4o σ nx NX b)=L1.μ b/\A4o σ nx NX b<L'.nx:=by
  intro b hb;unfold A4o;by_cases hlt:b<nx
  ·rw[if_pos hlt];have h1:=hσ b hlt;refine⟨?_,by show σ b<NX+(nx'-nx);omega⟩;show(if σ b<NX then L.μ (σ b)else _)=_;rw[if_pos h1];exact(hm1.μ b hlt).symm
  ·rw[if_neg hlt];refine⟨?_,by show NX+(b-nx)<NX+(nx'-nx);omega⟩;show(if NX+(b-nx)<NX then _ else L1.μ (NX+(b-nx)-NX+nx))=_;rw[if_neg (by omega)];congr 1;omega
 have hmono:Mono L w L' w':=by
  refine⟨hm1.keeps,by show L.nx<=NX+(nx'-nx);omega,fun b hb=>?_,hm1.size,hm1.shape⟩;show(if b<NX then L.μ b else _)=_;rw[if_pos (by omega)]
 have old:∀b x,look Hb b=some x->(∀b0 x0,look H b0=some x0->σ b0≠b)->¬Mine L0 H (L.μ b):=by
  intro b x hb hne ⟨b0,x0,h0,e⟩;exact hne b0 x0 h0 (hok.inj _ _ _ _ (hH _ (A0k h0)).1 hb e)
 have oldμ:∀b x,look Hb b=some x->L'.μ b=L.μ b:=by
  intro b x hb;have:=hok.nx b x hb;show(if b<NX then L.μ b else _)=_;rw[if_pos (by omega)]
 have newμ:∀b0 x0,look H' b0=some x0->L'.μ (A4o σ nx NX b0)=L1.μ b0:=fun b0 x0 h0=>(hμ b0 (hH' _ (A0k h0)).1).1;refine⟨v,L',rfl,C7i (L:=L1) (L':=L') rfl hμ r hr hv,?_,rfl,hmono,?_⟩
 ·refine⟨hok1.lt,fun b x hb=>?_,fun b x hb hI=>?_,fun b b2 x x2 hb hb2 e=>?_,fun b x hb=>?_,hok1.glob⟩
  ·rcases hb' b x hb with⟨b0,x0,h0,rfl,rfl⟩ | ⟨h0,hne⟩
   ·rw[newμ b0 x0 h0];exact E0i (L:=L1) (L':=L') rfl hμ (hH' _ (A0k h0)).2 (hok1.rep b0 x0 h0)
   ·rw[oldμ b x h0];exact(hok.rep b x h0).keep hmono (hx1.same _ (hok.rep b x h0).lt (old b x h0 hne))
  ·rcases hb' b x hb with⟨b0,x0,h0,rfl,rfl⟩ | ⟨h0,hne⟩
   ·rw[newμ b0 x0 h0]at hI;exact hok1.apart b0 x0 h0 hI
   ·rw[oldμ b x h0]at hI;rcases hx1.new _ hI with h2 | h2 | h2
    ·exact hok.apart b x h0 h2
    ·have:=(hok.rep b x h0).lt;omega
    ·exact old b x h0 hne h2
  ·rcases hb' b x hb with⟨b0,x0,h0,rfl,rfl⟩ | ⟨h0,hne⟩<;>rcases hb' b2 x2 hb2 with⟨c0,y0,k0,rfl,rfl⟩ | ⟨k0,kne⟩
   ·rw[newμ b0 x0 h0,newμ c0 y0 k0]at e;rw[hok1.inj b0 c0 x0 y0 h0 k0 e]
   ·rw[newμ b0 x0 h0,oldμ _ _ k0]at e;rcases hx1.mine (L.μ b2) ⟨b0,x0,h0,e⟩with h2 | h2
    ·have:=(hok.rep b2 x2 k0).lt;omega
    ·exact absurd h2 (old b2 x2 k0 kne)
   ·rw[oldμ _ _ h0,newμ c0 y0 k0]at e;rcases hx1.mine (L.μ b) ⟨c0,y0,k0,e.symm⟩with h2 | h2
    ·have:=(hok.rep b x h0).lt;omega
    ·exact absurd h2 (old b x h0 hne)
   ·rw[oldμ _ _ h0,oldμ _ _ k0]at e;exact hok.inj b b2 x x2 h0 k0 e
  ·rcases hb' b x hb with⟨b0,x0,h0,rfl,rfl⟩ | ⟨h0,hne⟩
   ·exact(hμ b0 (hH' _ (A0k h0)).1).2
   ·have:=hok.nx b x h0;show b<NX+(nx'-nx);omega
 ·refine⟨hx1.size,fun g hg hm=>hx1.same g hg (fun h2=>hm (mine0 g h2)),hx1.more,fun g hg=>?_,fun g ⟨b,x,hb,e⟩=>?_,hx1.shape,hx1.outer⟩
  ·rcases hx1.new g hg with h2 | h2 | h2
   ·exact .inl h2
   ·exact .inr (.inl h2)
   ·exact .inr (.inr (mine0 g h2))
  ·rcases hb' b x hb with⟨b0,x0,h0,rfl,rfl⟩ | ⟨h0,hne⟩
   ·rw[newμ b0 x0 h0]at e;rcases hx1.mine g ⟨b0,x0,h0,e⟩with h2 | h2
    ·exact .inl h2
    ·exact .inr (mine0 g h2)
   ·rw[oldμ _ _ h0]at e;exact .inr ⟨b,x,h0,e⟩
theorem A1n.lift1 {f:FuncId} {ty:TypeId} {cs cs':List T} {args:List T} {r:T} (h:A1n P G f (.ptr 0 0::args.map .t) [(0,.cells ty (cs.map .t))] 1 (.t r) [(0,.cells ty (cs'.map .t))] 1)
  {b NX:Nat} {Hb:Heap} (hb:look Hb b=some (.cells ty (cs.map .t))) (hlt:b<NX) :
  A1n P G f (.ptr b 0::args.map .t) Hb NX (.t r) (upd Hb b (.cells ty (cs'.map .t))) NX:=by
 have rt:∀(σ:Nat->Nat) (l:List T),renL σ (l.map .t)=l.map .t:=by
  intro σ l
  induction l with
  | nil=>rfl
  | cons x l ih=>simp only[List.map_cons,renL,ren,ih]
 have ut:∀(n:Nat) (l:List T),A1g n (l.map .t)=true:=by
  intro n l
  induction l with
  | nil=>rfl
  | cons x l ih=>simp only[List.map_cons,A1g,under,ih,Bool.and_self]
 have:=h.lift (fun _=>b) NX Hb (upd Hb b (.cells ty (cs'.map .t))) (fun _ _=>hlt) (fun x y hx hy _=>by omega) (Nat.le_refl _) (fun q hq=>by
  simp only[List.mem_singleton]at hq;subst hq;simp only[A2u,rt,A2a,ut]
  exact⟨hb,by omega,trivial⟩) (by simp only[A1g,under,ut];rfl) rfl (fun q hq=>by
  simp only[List.mem_singleton]at hq;subst hq
  exact⟨by omega,ut _ _⟩) (fun c x hc=>by
  rw[A1d]at hc;split at hc
  ·rename_i e;subst e;left;refine⟨0,_,rfl,by simp[A4o],?_⟩;rw[hb]at hc;simp only[Option.map_some,Option.some.injEq]at hc;simp only[A2u,rt];exact hc.symm
  ·rename_i e;right
   refine⟨hc,fun b0 x0 _ e2=>e e2.symm⟩)
 simp only[renL,ren,rt,Nat.sub_self,Nat.add_zero]at this;exact this
end
structure Ty (α:Type) where
 is:T->α->Prop
 uniq:∀t a b,is t a->is t b->a=b
noncomputable def Ty.dec {α:Type} (τ:Ty α) (t:T):Option α:=
 open Classical in if h : ∃ a, τ.is t a then some h.choose else none
theorem Ty.dec_is {α:Type} {τ:Ty α} {t:T} {a:α} (h:τ.is t a):τ.dec t=some a:=by
 unfold Ty.dec
 have hx:∃a,τ.is t a:=⟨a,h⟩
 rw[dif_pos hx];rw[τ.uniq t _ _ hx.choose_spec h]
theorem Ty.is_dec {α:Type} {τ:Ty α} {t:T} {a:α} (h:τ.dec t=some a):τ.is t a:=by
 unfold Ty.dec at h;split at h
 ·rename_i hx;injection h with h;subst h;exact hx.choose_spec
 ·cases h
abbrev iv (n:Int):T:=.v (.int .i64 n)
abbrev bv (b:Bool):T:=.v (.bool b)
abbrev sv (s:ByteArray):T:=.v (.string s)
abbrev nilS:T:=.v (.slice none 0 0)
def tInt:Ty Int:=⟨fun t n=>t=iv n,fun t a b h h'=>by rw[h]at h';injection h' with h';injection h'⟩
def E0j:Ty Bool:=⟨fun t n=>t=bv n,fun t a b h h'=>by rw[h]at h';injection h' with h';injection h'⟩
def tStr:Ty ByteArray:=⟨fun t n=>t=sv n,fun t a b h h'=>by rw[h]at h';injection h' with h';injection h'⟩
structure Enc (α:Type) where
 z:Nat
 enc:α->List T
 len:∀a,(enc a).length=z
 pos:0<z
 inj:∀a b,enc a=enc b->a=b
def slT {α:Type} (e:Enc α) (l:List α):T:=.sl l.length (l.flatMap e.enc)
def IsS {α:Type} (e:Enc α) (t:T) (l:List α):Prop:=(t=nilS/\l=[])\/t=slT e l
theorem B9b {α:Type} (e:Enc α):∀(l m:List α),l.length=m.length->l.flatMap e.enc=m.flatMap e.enc->l=m
 | [],[],_,_=>rfl
 | [],_::_,h,_=>by simp at h
 | _::_,[],h,_=>by simp at h
 | a::l,b::m,h,he=>by
  simp only[List.flatMap_cons]at he;have h1:=List.append_inj he (by rw[e.len,e.len]);rw[e.inj a b h1.1,B9b e l m (by simpa using h) h1.2]
def tSl {α:Type} (e:Enc α):Ty (List α):=⟨IsS e,fun t a b h h'=>by
 rcases h with⟨rfl,rfl⟩ | rfl
 ·rcases h' with⟨_,rfl⟩ | h'
  ·rfl
  ·cases h'
 ·rcases h' with⟨h',_⟩ | h'
  ·cases h'
  ·unfold slT at h';injection h' with h1 h2
   exact B9b e a b h1 h2⟩
def tAg {α:Type} (e:Enc α):Ty α:=⟨fun t a=>t = .ag (e.enc a),fun t a b h h'=>by rw[h]at h';injection h' with h';exact e.inj a b h'⟩
def eInt:Enc Int:=⟨1,fun n=>[iv n],fun _=>rfl,by omega,fun a b h=>by injection h with h;injection h with h;injection h⟩
def eStr:Enc ByteArray:=⟨1,fun n=>[sv n],fun _=>rfl,by omega,fun a b h=>by injection h with h;injection h with h;injection h⟩
section
variable {α : Type} {e : Enc α} {t : T} {l : List α}
theorem IsS.len (h:IsS e t l):A6o (.t t)=some (.t (iv (l.length:Int))):=by
 rcases h with⟨rfl,rfl⟩ | rfl<;>rfl
def rest (e:Enc α) (l:List α) (i:Nat):List T:=(l.drop (i+1)).flatMap e.enc
theorem B9c (e:Enc α):∀(l:List α) (i:Nat) (x:α),l[i]?=some x->(l.flatMap e.enc).drop (i*e.z)=e.enc x++rest e l i
 | [],i,x,h=>by simp at h
 | a::l,0,x,h=>by
  simp at h;subst h;simp[rest]
 | a::l,i+1,x,h=>by
  have ih:=B9c e l i x (by simpa using h);rw[List.flatMap_cons,Nat.succ_mul,Nat.add_comm,<-List.drop_drop,List.drop_left' (e.len a),ih];simp[rest]
theorem IsS.iaddr (h:IsS e t l) {i:Nat} {x:α} (hx:l[i]?=some x) (k:IntKind):A1c e.z (.t t) (.t (.v (.int k (i:Int))))=some (.t (.pt (e.enc x++rest e l i))):=by
 have hi:i<l.length:=(List.getElem?_eq_some_iff.1 hx).1;rcases h with⟨rfl,rfl⟩ | rfl
 ·simp at hi
 ·simp only[A1c,slT];rw[if_pos ⟨by omega,by omega⟩,Int.toNat_natCast,B9c e l i x hx]
theorem IsS.nil:IsS e nilS []:=.inl ⟨rfl,rfl⟩
theorem IsS.mk (l:List α):IsS e (slT e l) l:=.inr rfl
end
noncomputable def g1 {α:Type} (τ:Ty α) (f:α->Option T):List T->Option T
 | [a]=>(τ.dec a).bind f
 | _=>none
noncomputable def g2 {α β:Type} (τ:Ty α) (σ:Ty β) (f:α->β->Option T):List T->Option T
 | [a,b]=>(τ.dec a).bind fun x=>(σ.dec b).bind fun y=>f x y
 | _=>none
noncomputable def g3 {α β γ:Type} (τ:Ty α) (σ:Ty β) (ρ:Ty γ) (f:α->β->γ->Option T):List T->Option T
 | [a,b,c]=>(τ.dec a).bind fun x=>(σ.dec b).bind fun y=>(ρ.dec c).bind fun z=>f x y z
 | _=>none
noncomputable def g4 {α β γ δ:Type} (τ:Ty α) (σ:Ty β) (ρ:Ty γ) (π:Ty δ) (f:α->β->γ->δ->Option T):List T->Option T
 | [a,b,c,d]=>(τ.dec a).bind fun x=>(σ.dec b).bind fun y=>(ρ.dec c).bind fun z=>(π.dec d).bind fun u=>f x y z u
 | _=>none
section
variable {P : Program} {G : A0q} {F : FuncId} {α β γ δ : Type} {τ : Ty α} {σ : Ty β} {ρ : Ty γ} {π : Ty δ}
theorem A7r {f:α->Option T} (h:∀a x r,τ.is a x->f x=some r->A0z P G F [a] (· = r)):GOK P G F (g1 τ f):=by
 intro args r e;unfold g1 at e;split at e
 ·obtain⟨x,hx,e⟩:=Option.bind_eq_some_iff.1 e;exact h _ x r (Ty.is_dec hx) e
 ·cases e
theorem A7s {f:α->Option T} {a:T} {x:α} (h:τ.is a x):g1 τ f [a]=f x:=by
 simp only[g1,Ty.dec_is h,Option.bind_some]
theorem A7t {f:α->β->Option T} (h:∀a b x y r,τ.is a x->σ.is b y->f x y=some r->A0z P G F [a,b] (· = r)):GOK P G F (g2 τ σ f):=by
 intro args r e;unfold g2 at e;split at e
 ·obtain⟨x,hx,e⟩:=Option.bind_eq_some_iff.1 e;obtain⟨y,hy,e⟩:=Option.bind_eq_some_iff.1 e;exact h _ _ x y r (Ty.is_dec hx) (Ty.is_dec hy) e
 ·cases e
theorem A7c {f:α->β->Option T} {a b:T} {x:α} {y:β} (h:τ.is a x) (h':σ.is b y):g2 τ σ f [a,b]=f x y:=by
 simp only[g2,Ty.dec_is h,Ty.dec_is h',Option.bind_some]
end
section
variable {α : Type}
def rowP (e:Enc α) (b:Nat):List α->PV
 | []=>.t nilS
 | l=>.row b 0 l.length e.z
def rowH (e:Enc α) (ty b:Nat):List α->Heap
 | []=>[]
 | l=>[(b,.cells ty ((l.flatMap e.enc).map .t))]
def A2e (e:Enc α):List α->T
 | []=>nilS
 | l=>slT e l
def E0k (b:Nat):List α->List Nat
 | []=>[]
 | _=>[b]
theorem IsS.tree (e:Enc α) (l:List α):IsS e (A2e e l) l:=by
 cases l with
 | nil=>exact .inl ⟨rfl,rfl⟩
 | cons x r=>exact .inr rfl
theorem A1w (e:Enc α):∀l:List α,(l.flatMap e.enc).length=l.length*e.z
 | []=>by simp
 | a::l=>by rw[List.flatMap_cons,List.length_append,e.len,A1w e l,List.length_cons,Nat.succ_mul,Nat.add_comm]
theorem A7f (e:Enc α) (σ:Nat->Nat) (b:Nat) (l:List α):ren σ (rowP e b l)=rowP e (σ b) l:=by cases l<;>rfl
theorem A4p (e:Enc α) (n b:Nat) (l:List α) (h:b<n):under n (rowP e b l)=true:=by
 cases l with
 | nil=>rfl
 | cons x r=>simp[rowP,under,h]
end
section
variable {α : Type} {P : Program} {G : A0q} {B : Nat}
def A1p (e:Enc α) (ty:Nat) (l:List α):Row:=.cells ty ((l.flatMap e.enc).map .t)
def A1e (e:Enc α) (ty:Nat) (H:Heap) (b:Nat) (l:List α):Prop:=l=[]\/look H b=some (A1p e ty l)
theorem A1e.nil (e:Enc α) (ty:Nat) (H:Heap) (b:Nat):A1e e ty H b []:=.inl rfl
theorem A1e.cons {e:Enc α} {ty:Nat} {H:Heap} {b:Nat} {l:List α} (h:A1e e ty H b l) {k:Nat} {r:Row} (hk:k≠b):A1e e ty ((k,r)::H) b l:=
 h.imp id fun h=>by rw[look_cons,if_neg hk];exact h
theorem A1e.head (e:Enc α) (ty:Nat) (H:Heap) (b:Nat) (l:List α):A1e e ty (rowH e ty b l++H) b l:=by
 cases l with
 | nil=>exact .inl rfl
 | cons x r=>right;simp[rowH,A1p]
theorem A1e.head' (e:Enc α) (ty b:Nat) (l:List α):A1e e ty (rowH e ty b l) b l:=by
 have h:=A1e.head e ty [] b l;rwa[List.append_nil]at h
def appH (e:Enc α) (ty:Nat) (H:Heap) (nx b:Nat) (l m:List α):Heap:=
 if(l++m).isEmpty then H else(nx,A1p e ty (l++m))::(if l.isEmpty then H else rem H b)
def appN (nx:Nat) (l m:List α):Nat:=if(l++m).isEmpty then nx else nx+1
theorem F0x {e:Enc α} {ty by':Nat} {H:Heap} {nx b:Nat} {l m:List α} {src:PV} (h:A1e e ty H b l) (hs:srcP H e.z src=some (m.length,(m.flatMap e.enc).map .t))
  (hb:(l.length+m.length)*by'<=140737488355328) (hb2:l.length+m.length<=9223372036854775807) :
  appM ty e.z by' H nx (rowP e b l) src=some (rowP e nx (l++m),appH e ty H nx b l m,appN nx l m):=by
 cases l with
 | nil=>
  cases m with
  | nil=>simp[appM,hs,rowP,appH,appN]
  | cons y m=>
   simp only[List.length_nil,Nat.zero_add]at hb hb2
   have h0:¬(y::m).length=0:=by simp
   simp only[appM,hs,rowP,List.nil_append,appH,appN,List.isEmpty_cons,List.isEmpty_nil,Bool.false_eq_true,if_false,if_true,and_self,h0,hb,hb2,A1p]
 | cons x l=>
  rcases h with h | h
  ·cases h
  ·have hl:(((x::l).flatMap e.enc).map PV.t).length=(x::l).length*e.z:=by rw[List.length_map,A1w]
   simp only[appM,hs,rowP,h,A1p,hl,true_and,if_pos (And.intro hb hb2),List.cons_append,appH,appN,List.isEmpty_cons,Bool.false_eq_true,if_false];simp;omega
theorem E0l {e:Enc α} {ty:Nat} {H:Heap} {nx b:Nat} {l m:List α} {c:Nat} (hc:c≠nx) (hb:c≠b):look (appH e ty H nx b l m) c=look H c:=by
 unfold appH;split
 ·rfl
 ·rw[look_cons,if_neg (Ne.symm hc)];split
  ·rfl
  ·rw[A2f,if_neg hb]
theorem A1e.app {e:Enc α} {ty:Nat} {H:Heap} {nx b:Nat} {l m:List α}:A1e e ty (appH e ty H nx b l m) nx (l++m):=by
 unfold appH;split
 ·rename_i h;left;simpa using h
 ·right;rw[look_cons,if_pos rfl]
theorem A1e.toT {e:Enc α} {ty:Nat} {H:Heap} {b:Nat} {l:List α} (h:A1e e ty H b l):toT H (rowP e b l)=some (A2e e l,E0k b l):=by
 cases l with
 | nil=>rfl
 | cons x r=>
  rcases h with h | h
  ·cases h
  ·have hl:(((x::r).flatMap e.enc).map PV.t).length=(x::r).length*e.z:=by rw[List.length_map,A1w]
   have tk:List.take ((x::r).length*e.z) (((x::r).flatMap e.enc).map PV.t)=((x::r).flatMap e.enc).map PV.t:=List.take_of_length_le (by rw[hl];exact Nat.le_refl _);simp only[rowP,Abs.toT,h,A1p,List.drop_zero,Nat.zero_add,hl,Nat.le_refl,if_true,tk,allT_map_t,Option.map_some];rfl
theorem D3j (e:Enc α) (b:Nat) (l:List α):A6o (rowP e b l)=some (.t (iv (l.length:Int))):=by cases l<;>rfl
theorem C4n {e:Enc α} {H:Heap} {b ty:Nat} (x:α) (h:look H b=some (.cells ty ((e.enc x).map .t))):srcP H e.z (.row b 0 1 e.z)=some ([x].length,([x].flatMap e.enc).map .t):=by
 have hl:((e.enc x).map PV.t).length=e.z:=by rw[List.length_map,e.len]
 have tk:List.take e.z ((e.enc x).map PV.t)=(e.enc x).map PV.t:=List.take_of_length_le (by rw[hl];exact Nat.le_refl _);simp[srcP,h,e.len,tk]
theorem C4o {e:Enc α} {H:Heap} {t:T} {l:List α} (h:IsS e t l):srcP H e.z (.t t)=some (l.length,(l.flatMap e.enc).map .t):=by
 rcases h with⟨rfl,rfl⟩ | rfl
 ·rfl
 ·simp only[srcP,slT,A1w,if_true]
theorem A2c (σ:Nat->Nat) (e:Enc α) (ty:Nat) (l:List α):A2u σ (A1p e ty l)=A1p e ty l:=by
 have:∀m:List T,renL σ (m.map .t)=m.map .t:=by
  intro m
  induction m with
  | nil=>rfl
  | cons x m ih=>simp only[List.map_cons,renL,ren,ih]
 simp only[A1p,A2u,this]
theorem A1v (n:Nat) (e:Enc α) (ty:Nat) (l:List α):A2a n (A1p e ty l)=true:=by
 have:∀m:List T,A1g n (m.map .t)=true:=by
  intro m
  induction m with
  | nil=>rfl
  | cons x m ih=>simp only[List.map_cons,A1g,under,ih,Bool.and_self]
 simp only[A1p,A2a,this]
theorem A5r {e:Enc α} {ty b:Nat} {l:List α} {q:Nat×Row} (h:q∈rowH e ty b l):l≠[]/\q=(b,A1p e ty l):=by
 cases l with
 | nil=>simp[rowH]at h
 | cons x r=>simp only[rowH,List.mem_singleton]at h;exact⟨by simp,h⟩
theorem B1o {nx nx' n:Nat} {env env':List (Nat×PV)} {H:Heap} (hB:B<=nx') (he:∀q∈env',look env q.1=some q.2/\under 0 q.2=true) :
  Sub P G B ⟨env,H,nx,n⟩ ⟨env',[],nx',n⟩:=by
 have key:∀(p:PV),under 0 p=true->ren id p=p/\under nx' p=true:=by
  intro p hp;constructor
  ·have:(∀p:PV,ren id p=p)/\(∀ps:List PV,renL id ps=ps):=by
    constructor
    ·intro p
     exact PV.rec (motive_1:=fun p=>ren id p=p) (motive_2:=fun ps=>renL id ps=ps) (fun x=>rfl) (fun b o n z=>rfl) (fun b o=>rfl) (fun cs ih=>by simp only[ren,ih]) (fun cs ih=>by simp only[ren,ih])
      (fun f a c ih1 ih2=>by simp only[ren,ih1,ih2]) (fun t x ih=>by simp only[ren,ih]) (fun b=>rfl) rfl rfl (fun p ps h1 h2=>by simp only[renL,h1,h2]) p
    ·intro ps
     exact PV.rec_1 (motive_1:=fun p=>ren id p=p) (motive_2:=fun ps=>renL id ps=ps) (fun x=>rfl) (fun b o n z=>rfl) (fun b o=>rfl) (fun cs ih=>by simp only[ren,ih]) (fun cs ih=>by simp only[ren,ih])
      (fun f a c ih1 ih2=>by simp only[ren,ih1,ih2]) (fun t x ih=>by simp only[ren,ih]) (fun b=>rfl) rfl rfl (fun p ps h1 h2=>by simp only[renL,h1,h2]) ps
   exact this.1 p
  ·exact(PV.rec (motive_1:=fun p=>under 0 p=true->under nx' p=true) (motive_2:=fun ps=>A1g 0 ps=true->A1g nx' ps=true) (fun x _=>rfl) (fun b o n z h=>by simp[under]at h) (fun b o h=>by simp[under]at h)
    (fun cs ih h=>by simp only[under]at h ⊢;exact ih h) (fun cs ih h=>by simp only[under]at h ⊢;exact ih h) (fun f a c ih1 ih2 h=>by simp only[under,Bool.and_eq_true]at h ⊢;exact⟨ih1 h.1,ih2 h.2⟩)
    (fun t x ih h=>by simp only[under]at h ⊢;exact ih h) (fun b h=>by simp[under]at h) (fun _=>rfl) (fun _=>rfl) (fun p ps h1 h2 h=>by simp only[A1g,Bool.and_eq_true]at h ⊢;exact⟨h1 h.1,h2 h.2⟩) p) hp
 refine B3a id rfl hB (fun _ _=>rfl) (fun q hq=>?_) (fun q hq=>by simp at hq) (fun q hq=>by simp at hq);obtain⟨h1,h2⟩:=he q hq;obtain⟨h3,h4⟩:=key q.2 h2;rw[h3];exact⟨h1,h4⟩
end
theorem B9d (bs:ByteArray):∀(n i:Nat) (r:List UInt8),bs.size-i=n->ByteArray.toList.loop bs i r=r.reverse++bs.data.toList.drop i
 | 0,i,r,h=>by
  unfold ByteArray.toList.loop
  have hi:¬i<bs.size:=by omega
  have hs:bs.data.toList.length=bs.size:=rfl;rw[if_neg hi,List.drop_eq_nil_of_le (by omega)];simp
 | n+1,i,r,h=>by
  unfold ByteArray.toList.loop
  have hi:i<bs.size:=by omega
  rw[if_pos hi,B9d bs n (i+1) _ (by omega)];have hs:bs.data.toList.length=bs.size:=rfl
  have hl:i<bs.data.toList.length:=by omega
  rw[List.drop_eq_getElem_cons hl,List.reverse_cons,List.append_assoc];congr 2
  have hl':i<bs.data.size:=by simpa using hl
  show bs.data[i]! :: _=_;rw[getElem!_pos bs.data i hl'];rfl
theorem A6p (bs:ByteArray):bs.toList=bs.data.toList:=by
 unfold ByteArray.toList;rw[B9d bs bs.size 0 [] (by omega)];simp
theorem toList_inj {a b:ByteArray} (h:a.toList=b.toList):a=b:=by
 rw[A6p,A6p]at h;cases a;cases b;congr;exact Array.toList_inj.1 h
theorem A2w (a b:ByteArray):(a.toList==b.toList)=decide (a=b):=by
 by_cases h:a=b
 ·subst h;simp
 ·rw[decide_eq_false h,beq_eq_false_iff_ne];exact fun e=>h (toList_inj e)
def A9f (a b:ByteArray):Bool:=Op.bytesLess a.toList b.toList
theorem E6d (a b:ByteArray):Op.bytesLess a.toList b.toList=A9f a b:=rfl
@[simp] theorem evalK_slss {Φ:A0o} {H:Heap} {nx:Nat} (isB:Bool) (nk:Option NK) (a b:ByteArray):A0d Φ H nx (.bin isB .lss nk) [.t (.v (.string a)),.t (.v (.string b))]=some (.t (.v (.bool (A9f a b))),H,nx):=rfl
theorem D6s {Φ:A0o} {H:Heap} {nx:Nat} (isB:Bool) (nk:Option NK) (a b:ByteArray) (h:a.size+b.size<=9223372036854775807):A0d Φ H nx (.bin isB .add nk) [.t (.v (.string a)),.t (.v (.string b))]=some (.t (.v (.string (a++b))),H,nx):=by simp[A0d,binM,h]
theorem C7j:∀l:List UInt8,Op.bytesLess l l=false
 | []=>rfl
 | x::l=>by
  have:=C7j l;simp[Op.bytesLess,this]
theorem D3k:∀{a b c:List UInt8},Op.bytesLess a b=true->Op.bytesLess b c=true->Op.bytesLess a c=true
 | [],[],c,h,_=>by simp[Op.bytesLess]at h
 | [],_::_,[],_,h=>by simp[Op.bytesLess]at h
 | [],_::_,_::_,_,_=>by simp[Op.bytesLess]
 | _::_,[],_,h,_=>by simp[Op.bytesLess]at h
 | _::_,_::_,[],_,h=>by simp[Op.bytesLess]at h
 | x::a,y::b,z::c,h,h'=>by
  simp only[Op.bytesLess,Bool.or_eq_true,Bool.and_eq_true,decide_eq_true_eq,beq_iff_eq]at h h' ⊢;rcases h with h | ⟨rfl,h⟩
  ·rcases h' with h' | ⟨rfl,h'⟩
   ·exact .inl (UInt8.lt_trans h h')
   ·exact .inl h
  ·rcases h' with h' | ⟨rfl,h'⟩
   ·exact .inl h'
   ·exact .inr ⟨rfl,D3k h h'⟩
theorem D3l:∀(a b:List UInt8),Op.bytesLess a b=false->a≠b->Op.bytesLess b a=true
 | [],[],_,h=>absurd rfl h
 | [],_::_,h,_=>by simp[Op.bytesLess]at h
 | _::_,[],_,_=>by simp[Op.bytesLess]
 | x::a,y::b,h,hne=>by
  simp only[Op.bytesLess,Bool.or_eq_false_iff,Bool.and_eq_false_iff,decide_eq_false_iff_not,beq_eq_false_iff_ne,Bool.or_eq_true,Bool.and_eq_true,decide_eq_true_eq,beq_iff_eq]at h ⊢;by_cases e:x=y
  ·subst e;rcases h.2 with h2 | h2
   ·exact absurd rfl h2
   ·exact .inr ⟨rfl,D3l a b h2 (fun e=>hne (by rw[e]))⟩
  ·left;rcases UInt8.lt_or_lt_of_ne e with h1 | h1
   ·exact absurd h1 h.1
   ·exact h1
theorem B9e (a:ByteArray):A9f a a=false:=C7j _
theorem D6t {a b c:ByteArray} (h:A9f a b=true) (h':A9f b c=true):A9f a c=true:=D3k h h'
theorem D6u {a b:ByteArray} (h:A9f a b=false) (hne:a≠b):A9f b a=true:=D3l _ _ h fun e=>hne (toList_inj e)
theorem D6v {a b:ByteArray} (h:A9f a b=true):A9f b a=false:=by
 cases h':A9f b a with
 | false=>rfl
 | true=>rw[<-B9e a];exact(D6t h h').symm
theorem B3b {α:Type} {p:α->Bool} {l:List α} {j:Nat} {y:α} (h:j<l.findIdx p) (hy:l[j]?=some y):p y=false:=by
 have hj:j<l.length:=(List.getElem?_eq_some_iff.1 hy).1;have:=List.not_of_lt_findIdx h;rw[(List.getElem?_eq_some_iff.1 hy).2]at this;simpa using this
theorem A9g {α:Type} {p:α->Bool} {l:List α} (h:l.findIdx p<l.length):∃x,l[l.findIdx p]?=some x/\p x=true:=
 ⟨l[l.findIdx p],List.getElem?_eq_getElem h,List.findIdx_getElem⟩
theorem C2o {α:Type} (p:α->Bool) (l:List α):l.findIdx p<=l.length:=List.findIdx_le_length
theorem B6z {α:Type} {p:α->Bool} {l:List α} (h:l.findIdx p=l.length):∀x∈l,p x=false:=by
 intro x hx;obtain⟨i,hi,e⟩:=List.getElem_of_mem hx;have:=B3b (p:=p) (l:=l) (j:=i) (y:=x) (by omega) (by rw[List.getElem?_eq_getElem hi,e]);exact this
section
variable {α : Type}
theorem B8a {e:Enc α} {ty by':Nat} {H:Heap} {nx b:Nat} {l m:List α} {src:PV} (h:A1e e ty H b l) (hs:srcP H e.z src=some (m.length,(m.flatMap e.enc).map .t))
  (hb:(l.length+m.length)*by'<=140737488355328) (hb2:l.length+m.length<=9223372036854775807) :
  ∃b' H' nx',appM ty e.z by' H nx (rowP e b l) src=some (rowP e b' (l++m),H',nx')/\A1e e ty H' b' (l++m)/\b'≠nx'/\nx<=nx'/\(∀c,c≠b->c<nx->look H' c=look H c)/\nx<=b':=by
 have ap:=F0x (nx:=nx) h hs hb hb2
 by_cases he:l++m=[]
 ·refine⟨nx+1,appH e ty H nx b l m,appN nx l m,?_,by rw[he];exact A1e.nil _ _ _ _,?_,?_,?_,by omega⟩
  ·rw[ap]
   have:∀b',rowP e b' (l++m) = .t nilS:=by intro b';rw[he];rfl
   rw[this,this]
  ·unfold appN;rw[he];simp
  ·unfold appN;rw[he];simp
  ·intro c hc hlt;unfold appH;rw[he];simp
 ·have hne:(l++m).isEmpty=false:=by
   cases hx:l++m with
   | nil=>exact absurd hx he
   | cons _ _=>rfl
  refine⟨nx,appH e ty H nx b l m,appN nx l m,ap,A1e.app,?_,?_,?_,Nat.le_refl _⟩
  ·unfold appN;rw[hne];simp
  ·unfold appN;rw[hne];simp
  ·intro c hc hlt;exact E0l (by omega) hc
variable {e : Enc α} {t : T} {l : List α}
theorem B4o (e:Enc α):∀(l:List α) (k:Nat),(l.flatMap e.enc).take (k*e.z)=(l.take k).flatMap e.enc
 | [],k=>by simp
 | a::l,0=>by simp
 | a::l,k+1=>by
  rw[List.flatMap_cons,List.take_succ_cons,List.flatMap_cons,Nat.succ_mul,Nat.add_comm,<-e.len a,List.take_length_add_append,e.len a,B4o e l k]
theorem B0k (e:Enc α):∀(l:List α) (k:Nat),(l.flatMap e.enc).drop (k*e.z)=(l.drop k).flatMap e.enc
 | [],k=>by simp
 | a::l,0=>by simp
 | a::l,k+1=>by
  rw[List.flatMap_cons,List.drop_succ_cons,Nat.succ_mul,Nat.add_comm,<-List.drop_drop,List.drop_left' (e.len a),B0k e l k]
theorem IsS.slice_to (h:IsS e t l) {k:Nat} (hk:k<=l.length) (ik:IntKind):∃t',A3l e.z (.t t) none (some (.t (.v (.int ik (k:Int)))))=some (.t t')/\IsS e t' (l.take k):=by
 rcases h with⟨rfl,rfl⟩ | rfl
 ·have:k=0:=by simpa using hk
  subst this;exact⟨nilS,rfl,.inl ⟨rfl,rfl⟩⟩
 ·refine⟨slT e (l.take k),?_,.inr rfl⟩
  have h0:¬(k:Int)<0:=by omega
  simp only[A3l,slT,boundV];simp[hk,B4o,Nat.min_eq_left hk]
theorem IsS.slice_from (h:IsS e t l) {k:Nat} (hk:k<=l.length) (ik:IntKind):∃t',A3l e.z (.t t) (some (.t (.v (.int ik (k:Int))))) none=some (.t t')/\IsS e t' (l.drop k):=by
 rcases h with⟨rfl,rfl⟩ | rfl
 ·have:k=0:=by simpa using hk
  subst this;exact⟨nilS,rfl,.inl ⟨rfl,rfl⟩⟩
 ·refine⟨slT e (l.drop k),?_,.inr rfl⟩;simp only[A3l,slT,boundV];have tk:List.take ((l.length-k)*e.z) ((l.drop k).flatMap e.enc)=(l.drop k).flatMap e.enc:=List.take_of_length_le (by rw[A1w];simp);simp[hk,B0k,tk]
end
section
variable {α : Type} {e : Enc α} {ty b : Nat} {H : Heap} {l : List α}
theorem D6w {i:Nat} {x:α} (hx:l[i]?=some x) (k:IntKind):A1c e.z (rowP e b l) (.t (.v (.int k (i:Int))))=some (.ptr b (i*e.z)):=by
 have hi:i<l.length:=(List.getElem?_eq_some_iff.1 hx).1
 cases l with
 | nil=>simp at hi
 | cons a r=>
  simp only[rowP,A1c];rw[if_pos ⟨by omega,by omega⟩];simp
end
section
variable {P : Program} {G : A0q}
theorem A1n.keep1 {f:FuncId} {ps:List PV} {R0:Row} {r:T} {H':Heap} {nx':Nat} {ty:TypeId} {cs:List T} (h:A1n P G f ps [(0,R0)] 1 (.t r) H' nx') (hl:look H' 0=some (.cells ty (cs.map .t))) :
  A1n P G f ps [(0,R0)] 1 (.t r) [(0,.cells ty (cs.map .t))] 1:=by
 refine⟨h.1,fun L w us hok hnx hargs=>(h.2 L w us hok hnx hargs).mono ?_⟩;rintro e w' ⟨v,L',rfl,hv,hok',hnx',hm,hx⟩
 have one:∀b r,look [(0,Row.cells ty (cs.map .t))] b=some r->b=0/\r = .cells ty (cs.map .t):=by
  intro b r hb;simp only[look]at hb;split at hb
  ·rename_i e;injection hb with hb;exact⟨e.symm,hb.symm⟩
  ·cases hb
 refine⟨v,{ L' with nx:=1 },rfl,by simp only[RepV]at hv ⊢;exact hv,⟨hok'.lt,fun b r hb=>?_,fun b r hb=>?_,fun b b' r r' hb hb' _=>?_,fun b r hb=>?_,hok'.glob⟩,rfl,
  ⟨hm.keeps,by rw[hnx];exact Nat.le_refl _,hm.μ,hm.size,hm.shape⟩,⟨hx.size,hx.same,hx.more,hx.new,fun g ⟨b,r,hb,e⟩=>?_,hx.shape,hx.outer⟩⟩
 ·obtain⟨rfl,rfl⟩:=one b r hb;obtain⟨arr,ha,hl2,hc⟩:=hok'.rep 0 _ hl;refine⟨arr,ha,hl2,fun j c hj=>?_⟩;obtain⟨x,hx1,hx2,hx3⟩:=hc j c hj;refine⟨x,hx1,hx2,?_⟩;rw[List.getElem?_map]at hj;obtain⟨c0,_,rfl⟩:=Option.map_eq_some_iff.1 hj;simp only[RepV]at hx3 ⊢;exact hx3
 ·obtain⟨rfl,rfl⟩:=one b r hb;exact hok'.apart 0 _ hl
 ·rw[(one b r hb).1,(one b' r' hb').1]
 ·rw[(one b r hb).1];exact Nat.lt_succ_self _
 ·obtain⟨rfl,rfl⟩:=one b r hb;exact hx.mine g ⟨0,_,hl,e⟩
def hObj (ty:TypeId) (g:List T->List T->Option (T×List T)) (ps:List PV) (H:Heap) (nx:Nat):Option (PV×Heap×Nat):=
 match ps with
 | .ptr b 0::args=>match look H b,allT args with
  | some (.cells ty' cs),some ts=>match allT cs with
   | some cs'=>if ty'=ty/\b<nx then(g cs' ts).map fun o=>(.t o.1,upd H b (.cells ty (o.2.map .t)),nx)else none
   | none=>none
  | _,_=>none
 | _=>none
theorem E0m {f:FuncId} {ty:TypeId} {g:List T->List T->Option (T×List T)}
  (h:∀cs ts r cs',g cs ts=some (r,cs')->A1n P G f (.ptr 0 0::ts.map .t) [(0,.cells ty (cs.map .t))] 1 (.t r) [(0,.cells ty (cs'.map .t))] 1):HOK P G f (hObj ty g) where
 call:=fun ps H nx r H' nx' hr=>by
  unfold hObj at hr;split at hr
  ·rename_i b args;split at hr
   ·rename_i ty' cs ts hl ha;split at hr
    ·rename_i cs' hc;split at hr
     ·rename_i hcond;obtain⟨rfl,hb⟩:=hcond;obtain⟨o,ho,e⟩:=Option.map_eq_some_iff.1 hr;injection e with e1 e2;injection e2 with e2 e3;subst e1;subst e2;subst e3;have:=(h cs' ts o.1 o.2 ho).lift1 (b:=b) (NX:=nx) (Hb:=H) (by rw[hl,A5o hc]) hb;rw[<-A5o ha]at this;exact this
     ·cases hr
    ·cases hr
   ·cases hr
  ·cases hr
 fresh:=fun ps H nx r H' nx' hr hf=>by
  unfold hObj at hr;split at hr
  ·rename_i b args;split at hr
   ·rename_i ty' cs ts hl ha;split at hr
    ·rename_i cs' hc;split at hr
     ·rename_i hcond;obtain⟨o,ho,e⟩:=Option.map_eq_some_iff.1 hr;injection e with e1 e2;injection e2 with e2 e3;subst e1;subst e2;subst e3;intro j x hj;rw[A1d]at hj;split at hj
      ·rename_i e;subst e;exact hcond.2
      ·exact hf j x hj
     ·cases hr
    ·cases hr
   ·cases hr
  ·cases hr
theorem E0n {ty:TypeId} {g:List T->List T->Option (T×List T)} {b nx:Nat} {H:Heap} {cs ts:List T} {o:T×List T} (hl:look H b=some (.cells ty (cs.map .t))) (hb:b<nx) (ho:g cs ts=some o) :
  hObj ty g (.ptr b 0::ts.map .t) H nx=some (.t o.1,upd H b (.cells ty (o.2.map .t)),nx):=by
 simp only[hObj,hl,allT_map_t,hb,and_self,if_true,ho,Option.map_some]
end
noncomputable def hOne (ps0:List PV) (H0:Heap) (nx0:Nat) (out:PV×Heap×Nat) (ps:List PV) (H:Heap) (nx:Nat):Option (PV×Heap×Nat):=
 open Classical in if ps = ps0 /\ H = H0 /\ nx = nx0 then some out else none
theorem A2j (ps:List PV) (H:Heap) (nx:Nat) (out:PV×Heap×Nat):hOne ps H nx out ps H nx=some out:=by
 unfold hOne;rw[if_pos ⟨rfl,rfl,rfl⟩]
theorem A2x {P:Program} {G:A0q} {f:FuncId} {ps:List PV} {H:Heap} {nx:Nat} {r:PV} {H':Heap} {nx':Nat} (h:A1n P G f ps H nx r H' nx') (hf:(∀b x,look H b=some x->b<nx)->∀b x,look H' b=some x->b<nx'):HOK P G f (hOne ps H nx (r,H',nx')) where
 call:=fun ps1 H1 nx1 r1 H1' nx1' h1=>by
  unfold hOne at h1;split at h1
  ·rename_i hc;obtain⟨rfl,rfl,rfl⟩:=hc;injection h1 with h1;injection h1 with h1 h2;injection h2 with h2 h3;subst h1;subst h2;subst h3;exact h
  ·cases h1
 fresh:=fun ps1 H1 nx1 r1 H1' nx1' h1=>by
  unfold hOne at h1;split at h1
  ·rename_i hc;obtain⟨rfl,rfl,rfl⟩:=hc;injection h1 with h1;injection h1 with h1 h2;injection h2 with h2 h3;subst h1;subst h2;subst h3;exact hf
  ·cases h1
section
variable {α : Type} {P : Program} {G : A0q} {B : Nat}
theorem B4p {e:Enc α} {ty b k nx nx' n:Nat} {l:List α} {env env':List (Nat×PV)} {H R:Heap} (h:A1e e ty H k l) (hb:b<nx') (hB:B<=b)
  (hR:∀q∈R,look H q.1=some (A2u (fun x=>if x=b then k else x) q.2)/\q.1<nx'/\q.1≠b/\q.1≠k/\A2a nx' q.2=true)
  (he:∀q∈env',look env q.1=some (ren (fun x=>if x=b then k else x) q.2)/\under nx' q.2=true) :
  Sub P G B ⟨env,H,nx,n⟩ ⟨env',R++rowH e ty b l,nx',n⟩:=by
 refine B3a (fun x=>if x=b then k else x) rfl (by show B<=nx';omega) (fun x hx=>by show(if x=b then k else x)=x;rw[if_neg (by omega)]) he (fun q hq=>?_) (fun q hq q' hq' eqn=>?_)
 ·rcases List.mem_append.1 hq with hq | hq
  ·obtain⟨h1,h2,h3,h4,h5⟩:=hR q hq;refine⟨?_,h2,h5⟩;show look H (if q.1=b then k else q.1)=_;rw[if_neg h3];exact h1
  ·obtain⟨hn,rfl⟩:=A5r hq;simp only[if_true,A2c,A1v];exact⟨h.resolve_left hn,hb,trivial⟩
 ·have key:∀q∈R++rowH e ty b l,q.1=b\/(q.1≠b/\q.1≠k):=by
   intro q hq;rcases List.mem_append.1 hq with hq | hq
   ·obtain⟨h1,h2,h3,h4,h5⟩:=hR q hq;exact .inr ⟨h3,h4⟩
   ·obtain⟨hn,rfl⟩:=A5r hq;exact .inl rfl
  have e:(if q.1=b then k else q.1)=(if q'.1=b then k else q'.1):=eqn;rcases key q hq with h1 | ⟨h1,h2⟩<;>rcases key q' hq' with h1' | ⟨h1',h2'⟩
  ·rw[h1,h1']
  ·rw[if_pos h1,if_neg h1']at e;exact absurd e.symm h2'
  ·rw[if_neg h1,if_pos h1']at e;exact absurd e h2
  ·rw[if_neg h1,if_neg h1']at e;exact e
end
inductive Dv where
 | mk (kind:Int) (name:ByteArray) (frm to:Int) (kids:List Dv)
def Dv.frm:Dv->Int | .mk _ _ f _ _=>f
def Dv.to:Dv->Int | .mk _ _ _ t _=>t
def kidT:Nat->List T->T
 | 0,_=>nilS
 | n+1,cs=>.sl (n+1) cs
mutual
def encD:Dv->List T
 | .mk kind name frm to kids=>[iv kind,sv name,iv frm,iv to,kidT kids.length (B3c kids)]
def B3c:List Dv->List T
 | []=>[]
 | d::r=>encD d++B3c r
end
theorem B4q (d:Dv):(encD d).length=5:=by cases d;rw[encD];rfl
mutual
theorem D3m:∀(a b:Dv),encD a=encD b->a=b
 | .mk o n p q k,.mk o' n' p' q' k',h=>by
  rw[encD,encD]at h;injection h with h1 h;injection h with h2 h;injection h with h3 h;injection h with h5 h;injection h with h4 _;injection h1 with h1;injection h1 with _ h1;injection h2 with h2;injection h2 with h2;injection h3 with h3;injection h3 with _ h3;injection h5 with h5;injection h5 with _ h5;subst h1;subst h2;subst h3;subst h5
  have:k=k':=by
   cases k with
   | nil=>
    cases k' with
    | nil=>rfl
    | cons _ _=>cases h4
   | cons x r=>
    cases k' with
    | nil=>cases h4
    | cons y r'=>
     injection h4 with _ h4;exact C7k (x::r) (y::r') h4
  rw[this]
theorem C7k:∀(a b:List Dv),B3c a=B3c b->a=b
 | [],[],_=>rfl
 | [],d::r,h=>by
  rw[B3c,B3c]at h;have:=congrArg List.length h;rw[List.length_append,B4q]at this;simp at this;omega
 | d::r,[],h=>by
  rw[B3c,B3c]at h;have:=congrArg List.length h;rw[List.length_append,B4q]at this;simp at this
 | a::l,b::m,h=>by
  rw[B3c,B3c]at h;have h1:=List.append_inj h (by rw[B4q,B4q]);rw[D3m a b h1.1,C7k l m h1.2]
end
def eD:Enc Dv:=⟨5,encD,B4q,by omega,D3m⟩
theorem C2p:∀l:List Dv,B3c l=l.flatMap eD.enc
 | []=>rfl
 | d::r=>by rw[B3c,List.flatMap_cons,C2p r];rfl
theorem C4p (kind:Int) (name:ByteArray) (frm to:Int) (kids:List Dv):encD (.mk kind name frm to kids)=[iv kind,sv name,iv frm,iv to,A2e eD kids]:=by
 rw[encD]
 cases kids with
 | nil=>rfl
 | cons k r=>
  have e:A2e eD (k::r) = .sl (k::r).length ((k::r).flatMap eD.enc):=rfl;rw[e,<-C2p];rfl
mutual
def IsD:Dv->List T->Prop
 | .mk kind name frm to kids,cs=>∃tk,cs=[iv kind,sv name,iv frm,iv to,tk]/\((tk=nilS/\kids=[])\/∃c,tk = .sl kids.length c/\IsDs kids c)
def IsDs:List Dv->List T->Prop
 | [],cs=>cs=[]
 | d::r,cs=>∃c c',cs=c++c'/\IsD d c/\IsDs r c'
end
def IsK (t:T) (kids:List Dv):Prop:=(t=nilS/\kids=[])\/∃c,t = .sl kids.length c/\IsDs kids c
theorem IsD.len:∀{d:Dv} {c:List T},IsD d c->c.length=5
 | .mk _ _ _ _ _,c,h=>by
  simp only[IsD]at h;obtain⟨tk,rfl,_⟩:=h;rfl
theorem IsD.parts {kind frm to:Int} {name:ByteArray} {kids:List Dv} {c:List T} (h:IsD (.mk kind name frm to kids) c):∃tk,c=[iv kind,sv name,iv frm,iv to,tk]/\IsK tk kids:=by
 simp only[IsD]at h;exact h
mutual
theorem IsD.uniq:∀(a b:Dv) (c:List T),IsD a c->IsD b c->a=b
 | .mk o n p q k,.mk o' n' p' q' k',c,h,h'=>by
  obtain⟨tk,rfl,hk⟩:=h.parts;obtain⟨tk',e,hk'⟩:=h'.parts;injection e with h1 e;injection e with h2 e;injection e with h3 e;injection e with h5 e;injection e with h4 _;injection h1 with h1;injection h1 with _ h1;injection h2 with h2;injection h2 with h2;injection h3 with h3;injection h3 with _ h3;injection h5 with h5;injection h5 with _ h5;subst h1;subst h2;subst h3;subst h4;subst h5
  have:k=k':=by
   rcases hk with⟨rfl,rfl⟩ | ⟨cs,rfl,hc⟩
   ·rcases hk' with⟨_,rfl⟩ | ⟨cs',e,_⟩
    ·rfl
    ·cases e
   ·rcases hk' with⟨e,_⟩ | ⟨cs',e,hc'⟩
    ·cases e
    ·injection e with e1 e2;subst e2;exact IsDs.uniq k k' cs hc hc'
  rw[this]
theorem IsDs.uniq:∀(a b:List Dv) (c:List T),IsDs a c->IsDs b c->a=b
 | [],[],_,_,_=>rfl
 | [],d::r,c,h,h'=>by
  simp only[IsDs]at h h';obtain⟨c1,c2,e,h1,_⟩:=h';have:=h1.len;rw[h]at e;have:=congrArg List.length e;rw[List.length_append]at this;simp at this;omega
 | d::r,[],c,h,h'=>by
  simp only[IsDs]at h h';obtain⟨c1,c2,e,h1,_⟩:=h;have:=h1.len;rw[h']at e;have:=congrArg List.length e;rw[List.length_append]at this;simp at this;omega
 | a::l,b::m,c,h,h'=>by
  simp only[IsDs]at h h';obtain⟨c1,c2,e,h1,h2⟩:=h;obtain⟨c1',c2',e',h1',h2'⟩:=h';rw[e]at e';have h3:=List.append_inj e' (by rw[h1.len,h1'.len]);obtain⟨rfl,rfl⟩:=h3;rw[IsD.uniq a b c1 h1 h1',IsDs.uniq l m c2 h2 h2']
end
mutual
theorem IsD.enc:∀d:Dv,IsD d (encD d)
 | .mk o n p q k=>by
  rw[IsD,encD];refine⟨_,rfl,?_⟩
  cases k with
  | nil=>exact .inl ⟨rfl,rfl⟩
  | cons x r=>exact .inr ⟨_,rfl,IsDs.enc (x::r)⟩
theorem IsDs.enc:∀l:List Dv,IsDs l (B3c l)
 | []=>by rw[IsDs,B3c]
 | d::r=>by
  rw[IsDs,B3c];exact⟨_,_,rfl,IsD.enc d,IsDs.enc r⟩
end
theorem IsDs.at_:∀{l:List Dv} {c:List T} {i:Nat} {x:Dv},IsDs l c->l[i]?=some x->∃ci r,c.drop (i*5)=ci++r/\IsD x ci
 | [],c,i,x,_,h=>by simp at h
 | d::l,c,0,x,h,hx=>by
  simp only[IsDs]at h;obtain⟨c1,c2,rfl,h1,_⟩:=h
  have e:d=x:=by simpa using hx
  subst e;exact⟨c1,c2,rfl,h1⟩
 | d::l,c,i+1,x,h,hx=>by
  simp only[IsDs]at h;obtain⟨c1,c2,rfl,h1,h2⟩:=h;obtain⟨ci,r,e,h3⟩:=h2.at_ (i:=i) (x:=x) (by simpa using hx);refine⟨ci,r,?_,h3⟩;rw[show(i+1)*5=5+i*5 by omega,<-List.drop_drop,List.drop_left' h1.len,e]
theorem IsK.len {t:T} {l:List Dv} (h:IsK t l):A6o (.t t)=some (.t (iv (l.length:Int))):=by
 rcases h with⟨rfl,rfl⟩ | ⟨c,rfl,_⟩<;>rfl
theorem IsK.iaddr {t:T} {l:List Dv} (h:IsK t l) {i:Nat} {x:Dv} (hx:l[i]?=some x) (k:IntKind):∃ci r,A1c 5 (.t t) (.t (.v (.int k (i:Int))))=some (.t (.pt (ci++r)))/\IsD x ci:=by
 have hi:i<l.length:=(List.getElem?_eq_some_iff.1 hx).1;rcases h with⟨rfl,rfl⟩ | ⟨c,rfl,hc⟩
 ·simp at hi
 ·obtain⟨ci,r,e,h3⟩:=hc.at_ hx;refine⟨ci,r,?_,h3⟩;simp only[A1c];rw[if_pos ⟨by omega,by omega⟩,Int.toNat_natCast,e]
def tD:Ty Dv:=⟨fun t d=>∃c,t = .ag c/\IsD d c,fun t a b ⟨c,e,h⟩ ⟨c',e',h'⟩=>by
 rw[e]at e';injection e' with e';subst e';exact IsD.uniq a b c h h'⟩
def tK:Ty (List Dv):=⟨IsK,fun t a b h h'=>by
 rcases h with⟨rfl,rfl⟩ | ⟨c,rfl,hc⟩
 ·rcases h' with⟨_,rfl⟩ | ⟨c',e,_⟩
  ·rfl
  ·cases e
 ·rcases h' with⟨e,_⟩ | ⟨c',e,hc'⟩
  ·cases e
  ·injection e with _ e;subst e
   exact IsDs.uniq a b c hc hc'⟩
abbrev lbs (s:ByteArray):List UInt8:=s.data.toList
theorem B5y {a b:ByteArray} (h:lbs a=lbs b):a=b:=by
 cases a;cases b;congr 1;exact Array.ext' h
def cmpI (a b:Int):Int:=if a<b then -1 else if b<a then 1 else 0
def cmpS (a b:ByteArray):Int:=if lbs a<lbs b then -1 else if lbs b<lbs a then 1 else 0
def A7u (x y:Int):Int:=if x=0 then y else x
structure WO {α:Type} (c:α->α->Int):Prop where
 anti:∀a b,c b a = - c a b
 tie:∀a b d,c a b=0->c a d=c b d
 trans:∀a b d,c a b<0->c b d<0->c a d<0
theorem WO.refl {α:Type} {c:α->α->Int} (h:WO c) (a:α):c a a=0:=by have:=h.anti a a;omega
theorem WO.tieR {α:Type} {c:α->α->Int} (h:WO c) {a b:α} (d:α) (e:c a b=0):c d a=c d b:=by
 rw[h.anti a d,h.anti b d,h.tie a b d e]
theorem A8f {x y:Int}:A7u x y=0 ↔ x=0/\y=0:=by
 unfold A7u;split
 ·rename_i h;exact⟨fun e=>⟨h,e⟩,fun e=>e.2⟩
 ·rename_i h;exact⟨fun e=>absurd e h,fun e=>absurd e.1 h⟩
theorem A3n {a b:Int}:cmpI a b=0 ↔ a=b:=by
 simp only[cmpI];constructor
 ·intro h;split at h
  ·omega
  ·split at h<;>omega
 ·rintro rfl;rw[if_neg (by omega),if_neg (by omega)]
theorem B0l {a b:ByteArray}:cmpS a b=0 ↔ a=b:=by
 simp only[cmpS];constructor
 ·intro h;split at h
  ·omega
  ·split at h
   ·omega
   ·rename_i h1 h2;exact B5y (List.le_antisymm (List.not_lt.1 h2) (List.not_lt.1 h1))
 ·rintro rfl;rw[if_neg (List.lt_irrefl _),if_neg (List.lt_irrefl _)]
theorem F0y {a b:ByteArray}:cmpS a b<0 ↔ lbs a<lbs b:=by
 simp only[cmpS];constructor
 ·intro h;split at h
  ·assumption
  ·split at h<;>omega
 ·intro h;rw[if_pos h];omega
theorem A9h:WO cmpS:=by
 refine⟨fun a b=>?_,fun a b d h=>?_,fun a b d h1 h2=>?_⟩
 ·simp only[cmpS];by_cases h:lbs a<lbs b
  ·simp[List.lt_asymm h,h]
  ·by_cases k:lbs b<lbs a
   ·simp[k,h]
   ·simp[k,h]
 ·rw[B0l.1 h]
 ·rw[F0y]at *;exact List.lt_trans h1 h2
mutual
def cmpD:Dv->Dv->Int
 | .mk k n f t ks,.mk k' n' f' t' ks'=>A7u (cmpI f f') (A7u (cmpI t t') (A7u (cmpI k k') (A7u (cmpS n n') (cmpK ks ks'))))
def cmpK:List Dv->List Dv->Int
 | [],[]=>0
 | [],_::_=>-1
 | _::_,[]=>1
 | a::l,b::m=>A7u (cmpD a b) (cmpK l m)
end
mutual
theorem B4r:∀{a b:Dv},cmpD a b=0 ↔ a=b
 | .mk k n f t ks,.mk k' n' f' t' ks'=>by
  rw[cmpD,A8f,A8f,A8f,A8f,A3n,A3n,A3n,B0l,C7l];constructor
  ·rintro⟨rfl,rfl,rfl,rfl,rfl⟩;rfl
  ·intro h;injection h with h1 h2 h3 h4 h5;exact⟨h3,h4,h1,h2,h5⟩
theorem C7l:∀{a b:List Dv},cmpK a b=0 ↔ a=b
 | [],[]=>by simp[cmpK]
 | [],_::_=>by simp[cmpK]
 | _::_,[]=>by simp[cmpK]
 | a::l,b::m=>by rw[cmpK,A8f,B4r,C7l,List.cons.injEq]
end
structure Pr where
 kind:Int
 name:ByteArray
 frm:Int
 to:Int
 deriving DecidableEq
def ordP (a b:Pr):Int:=A7u (cmpI a.frm b.frm) (A7u (cmpI a.to b.to) (A7u (cmpI a.kind b.kind) (cmpS a.name b.name)))
mutual
def colP:Dv->List Pr
 | .mk k n f t ks=>(if k=0 then [⟨0,n,f,t⟩]else if k=1 then [⟨1,n,f,t⟩]else if k=2 then [⟨2,n,f,t⟩,⟨3,⟨#[]⟩,f,t⟩]else [])++colK ks
def colK:List Dv->List Pr
 | []=>[]
 | d::r=>colP d++colK r
end
def insP (p:Pr):List Pr->List Pr
 | []=>[p]
 | x::r=>if ordP p x<0 then p::x::r else if ordP p x=0 then x::r else x::insP p r
def uP (l:List Pr):List Pr:=l.foldl (fun a p=>insP p a) []
def prp (d:Dv):List Pr:=uP (colP d)
def holds (d:Dv) (p:Pr):Bool:=decide (p∈prp d)
def disc (l:List Dv):List Pr:=(uP (l.flatMap colP)).filter fun p=>!l.all fun d=>holds d p
structure Dc where
 p:Pr
 yes:Bool
 deriving DecidableEq
def agr (ds:List Dc) (d:Dv):Bool:=ds.all fun x=>holds d x.p==x.yes
def remF:Nat->List Dv->List Dc->List Nat
 | _,[],_=>[]
 | i,d::r,ds=>if agr ds d then i::remF (i+1) r ds else remF (i+1) r ds
def remD (l:List Dv) (ds:List Dc):List Nat:=remF 0 l ds
def okD (l:List Dv) (out:List Dc) (d:Dc):Bool:=decide (d.p∈disc l) && !(out.any fun y=>decide (y.p=d.p)) && !(remD l (out++[d])).isEmpty
def keep (l:List Dv):List Dc->List Dc->List Dc
 | out,[]=>out
 | out,d::r=>if okD l out d then keep l (out++[d]) r else keep l out r
structure It where
 id:ByteArray
 words:List ByteArray
 state:Int
 decs:List Dc
 gold:Dv
def A1y:Dv:=.mk 0 ⟨#[]⟩ 0 0 []
end Go.Abs
