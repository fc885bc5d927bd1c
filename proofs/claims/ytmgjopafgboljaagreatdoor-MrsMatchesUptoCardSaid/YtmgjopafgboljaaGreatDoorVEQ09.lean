/- Auxiliary facts. -/
import Derived.Test.YtmgjopafgboljaaGreatDoorVEQ08
import Derived.KernelRfl
set_option linter.unusedSimpArgs false
set_option linter.unusedVariables false
namespace Go.Abs
open Go
def FnOK (P:Program) (G:A1c) (f:FuncId) (k N:Nat) (M:A0p) (vs:List RV):Prop:=
 ∃fn,P.funcs[f]?=some fn/\(fn.name == "runtime.NumGoroutine")=false/\fn.body.bind (comp P G N)=some M/\fn.results.toList.mapM (B5e P)=some vs/\k+(fn.ntmps-k)=N
theorem FnOK.call {P:Program} {G:A1c} {f:FuncId} {k N:Nat} {M:A0p} {vs:List RV} (h:FnOK P G f k N M vs) {args:List T} (hk:args.length=k) {R:T->Prop}
  (hm:MC P G 0 N M (E6k vs R) (startM N args)):A1d P G f args R:=by
 obtain⟨fn,hf,hn,hb,hr,hN⟩:=h
 cases hbody:fn.body with
 | none=>rw[hbody]at hb;cases hb
 | some c=>
  rw[hbody]at hb;exact callM hf hbody hn hb hr (by rw[hk];exact hN) hm
theorem FnOK.callP {P:Program} {G:A1c} {f:FuncId} {k N:Nat} {M:A0p} {vs:List RV} (h:FnOK P G f k N M vs) {ps:List PV} {H H':Heap} {nx nx':Nat} {r:PV} (hk:ps.length=k)
  (hm:MC P G nx N M (D4t P G nx vs fun r0 H0 nx0=>r0=r/\H0=H'/\nx0=nx') ⟨startsP 0 ps,H,nx,N⟩):A3n P G f ps H nx r H' nx':=by
 obtain⟨fn,hf,hn,hb,hr,hN⟩:=h
 cases hbody:fn.body with
 | none=>rw[hbody]at hb;cases hb
 | some c=>
  rw[hbody]at hb;exact G0f hf hbody hn hb hr (by rw[hk];exact hN) hm
def A1s {α:Type} (x:Option α) (K:α->Prop):Prop:=
 match x with
 | some a=>K a
 | none=>False
@[simp] theorem ifSome_some {α:Type} (a:α) (K:α->Prop):A1s (some a) K=K a:=rfl
@[simp] theorem ifSome_none {α:Type} (K:α->Prop):A1s (none:Option α) K=False:=rfl
@[simp] theorem ifSome_map {α β:Type} (x:Option α) (f:α->β) (K:β->Prop):A1s (x.map f) K=A1s x fun a=>K (f a):=by cases x<;>rfl
theorem A3g {α:Type} {x:Option α} {K:α->Prop} (h:A1s x K):∃a,x=some a/\K a:=by
 cases x with
 | none=>exact h.elim
 | some a=>exact⟨a,rfl,h⟩
def C0r (x:Option Bool) (yes no:Prop):Prop:=
 match x with
 | some true=>yes
 | some false=>no
 | none=>False
@[simp] theorem onWants_true (yes no:Prop):C0r (some true) yes no=yes:=rfl
@[simp] theorem onWants_false (yes no:Prop):C0r (some false) yes no=no:=rfl
def A0c.set (s:A0c) (d:Option Nat) (q:PV×Heap×Nat):A0c:=
 match d with
 | some k=>⟨(k,q.1)::s.env,q.2.1,q.2.2,s.n⟩
 | none=>⟨s.env,q.2.1,q.2.2,s.n⟩
theorem A9y (s:A0c) (d:Option Nat) (r:PV) (H:Heap) (nx:Nat):s.set d (r,H,nx)=({ s with H:=H,nx:=nx }:A0c).put d r:=by cases d<;>rfl
def B1c (Φ:A0u) (s:A0c) (m:Mini) (K:A0c->Prop):Prop:=
 C0r (m.wants s.env) (A1s (A0i Φ s.H s.nx m.k (m.xs.map (·.ev s.env))) fun q=>K (s.set m.dst q)) (K (s.set m.dst (.t (.v undef),s.H,s.nx)))
def A7d (Φ:A0u):List Mini->A0c->(A0c->Prop)->Prop
 | [],s,K=>K s
 | m::r,s,K=>B1c Φ s m fun s'=>A7d Φ r s' K
def B5f (Φ:A0u) (s:A0c) (m:Mini) (K:A0c->Prop):Prop:=
 if A0o m.k then C0r (m.wants s.env) (A1s (A1w Φ s.H s.nx m.k (m.xs.map (·.ev s.env))) fun v=>K (s.set m.dst (v,s.H,s.nx))) (K (s.set m.dst (.t (.v undef),s.H,s.nx)))
 else B1c Φ s m K
def A5e (Φ:A0u):List Mini->A0c->(A0c->Prop)->Prop
 | [],s,K=>K s
 | m::r,s,K=>B5f Φ s m fun s'=>A5e Φ r s' K
def B0k (Φ:A0u) (pd:Pend) (H:Heap) (nx:Nat):List Nat->Prop->Prop
 | [],K=>K
 | i::r,K=>A1s (look pd i) fun x=>A1w Φ H nx x.1 x.2.1=some x.2.2/\B0k Φ pd H nx r K
def A7o (Φ:A0u) (k:Nat):Nat->Nat->Pend->List GI->A0c->(A0c->Prop)->Prop
 | _,_,_,[],s,K=>K s
 | n,b,pd,.o m kp ag::r,s,K=>A1s (valD Φ s m) fun q=>B0k Φ pd q.2.1 q.2.2 ag (A7o Φ k (n+1) b (B9a kp n m s q.1 pd) r (s.set m.dst q) K)
 | n,b,pd,.g j m::r,s,K=>A1s (A0i Φ s.H ((if j=0 then s.nx else b)+k+j) m.k (m.xs.map (·.ev s.env))) fun q=>A7o Φ k (n+1) (if j=0 then s.nx else b) pd r (s.set m.dst (q.1,q.2.1,(if j=0 then s.nx else b)+2*k)) K
def A5y (K:A0c->Prop) (Q:Exit->A0c->Prop):Exit->A0c->Prop
 | .normal,s=>K s
 | e,s=>Q e s
@[simp] theorem onNormal_normal (K:A0c->Prop) (Q:Exit->A0c->Prop) (s:A0c):A5y K Q .normal s=K s:=rfl
@[simp] theorem onNormal_ret (K:A0c->Prop) (Q:Exit->A0c->Prop) (s:A0c):A5y K Q .ret s=Q .ret s:=rfl
@[simp] theorem onNormal_exit (K:A0c->Prop) (Q:Exit->A0c->Prop) (i:Nat) (s:A0c):A5y K Q (.exit i) s=Q (.exit i) s:=rfl
@[simp] theorem inBlock_normal (i:Nat) (Q:Exit->A0c->Prop) (s:A0c):A5n i Q .normal s=Q .normal s:=rfl
@[simp] theorem inBlock_ret (i:Nat) (Q:Exit->A0c->Prop) (s:A0c):A5n i Q .ret s=Q .ret s:=rfl
@[simp] theorem inBlock_exit (i j:Nat) (Q:Exit->A0c->Prop) (s:A0c):A5n i Q (.exit j) s=if j=i then Q .normal s else Q (.exit j) s:=rfl
@[simp] theorem noGoto_normal (Q:Exit->A0c->Prop) (s:A0c):B5c Q .normal s=Q .normal s:=rfl
@[simp] theorem noGoto_ret (Q:Exit->A0c->Prop) (s:A0c):B5c Q .ret s=Q .ret s:=rfl
@[simp] theorem noGoto_exit (i:Nat) (Q:Exit->A0c->Prop) (s:A0c):B5c Q (.exit i) s=Q (.exit i) s:=rfl
def D0m (p:PV) (yes no:Prop):Prop:=
 match p with
 | .t (.v (.bool true))=>yes
 | .t (.v (.bool false))=>no
 | _=>False
@[simp] theorem onBool_true (yes no:Prop):D0m (.t (.v (.bool true))) yes no=yes:=rfl
@[simp] theorem onBool_false (yes no:Prop):D0m (.t (.v (.bool false))) yes no=no:=rfl
def A3z (Φ:A0u):A0p->A0c->(Exit->A0c->Prop)->Prop
 | .skip,s,Q=>Q .normal s
 | .ops l,s,Q=>A7d Φ l s (Q .normal)
 | .draw l,s,Q=>A5e Φ l s (Q .normal)
 | .drawG k l,s,Q=>A7o Φ k 0 0 [] l s (Q .normal)
 | .A9x l,s,Q=>A7o Φ 0 0 0 [] l s (Q .normal)
 | .seq a b,s,Q=>A3z Φ a s (A5y (fun s1=>A3z Φ b s1 Q) Q)
 | .cond c a b,s,Q=>D0m (c.ev s.env) (A3z Φ a s Q) (A3z Φ b s Q)
 | .block id b,s,Q=>A3z Φ b s (A5n id Q)
 | .loop _,_,_=>False
 | .exit id,s,Q=>Q (.exit id) s
 | .ret,s,Q=>Q .ret s
 | .scope b,s,Q=>A3z Φ b s (B5c Q)
section
variable {P : Program} {G : A1c} {B N : Nat} {Φ : A0u}
theorem C4s {s:A0c} {m:Mini} {K:A0c->Prop} (h:B1c Φ s m K):∃s',D0f Φ s m=some s'/\K s':=by
 unfold B1c at h;unfold D0f
 cases hw:m.wants s.env with
 | none=>rw[hw]at h;exact h.elim
 | some b=>
  rw[hw]at h
  cases b with
  | true=>
   obtain⟨⟨r,H',nx'⟩,hq,hk⟩:=A3g h;exact⟨_,by simp only[hq];rfl,by rw[A9y]at hk;exact hk⟩
  | false=>exact⟨_,rfl,by simp only[onWants_false,A9y]at h;exact h⟩
theorem B5g:∀{l:List Mini} {s:A0c} {K:A0c->Prop},A7d Φ l s K->∃s',runL Φ l s=some s'/\K s'
 | [],s,K,h=>⟨s,rfl,h⟩
 | m::r,s,K,h=>by
  obtain⟨s1,h1,h2⟩:=C4s h;obtain⟨s2,h3,h4⟩:=B5g h2;exact⟨s2,by simp only[runL,h1,h3],h4⟩
theorem E2o {s:A0c} {m:Mini} {K:A0c->Prop} (h:B5f Φ s m K):∃s',E5z Φ s m=some s'/\K s':=by
 unfold B5f at h;unfold E5z;split at h
 ·rename_i hq;rw[if_pos hq];unfold valQ
  cases hw:m.wants s.env with
  | none=>rw[hw]at h;exact h.elim
  | some b=>
   rw[hw]at h
   cases b with
   | true=>
    obtain⟨v,hv,hk⟩:=A3g h;exact⟨_,by simp only[hv];rfl,by rw[A9y]at hk;exact hk⟩
   | false=>exact⟨_,rfl,by simp only[onWants_false,A9y]at h;exact h⟩
 ·rename_i hq;rw[if_neg hq];exact C4s h
theorem D0n:∀{l:List Mini} {s:A0c} {K:A0c->Prop},A5e Φ l s K->∃s',runD Φ l s=some s'/\K s'
 | [],s,K,h=>⟨s,rfl,h⟩
 | m::r,s,K,h=>by
  obtain⟨s1,h1,h2⟩:=E2o h;obtain⟨s2,h3,h4⟩:=D0n h2;exact⟨s2,by simp only[runD,h1,h3],h4⟩
theorem C4t {pd:Pend} {H:Heap} {nx:Nat} {K:Prop}:∀{ks:List Nat},B0k Φ pd H nx ks K->agnP Φ pd H nx ks/\K
 | [],h=>⟨fun i hi=>by simp at hi,h⟩
 | i::r,h=>by
  obtain⟨x,hx,he,hr⟩:=A3g h;obtain⟨h1,h2⟩:=C4t hr;refine⟨fun j hj=>?_,h2⟩;rcases List.mem_cons.1 hj with rfl | hj
  ·exact⟨x,hx,he⟩
  ·exact h1 j hj
theorem B5h {k:Nat}:∀(l:List GI) {n b:Nat} {pd:Pend} {s:A0c} {K:A0c->Prop},A7o Φ k n b pd l s K->∃s',runG Φ k n b pd l s=some s'/\K s'
 | [],n,b,pd,s,K,h=>⟨s,rfl,h⟩
 | .o m kp ag::r,n,b,pd,s,K,h=>by
  obtain⟨⟨v,H',nx'⟩,hv,hk⟩:=A3g h;obtain⟨h1,h2⟩:=C4t hk;rw[A9y]at h2;obtain⟨s',h3,h4⟩:=B5h r h2;exact⟨s',by simp only[runG,hv,if_pos h1,h3],h4⟩
 | .g j m::r,n,b,pd,s,K,h=>by
  obtain⟨⟨v,H',nx'⟩,hv,hk⟩:=A3g h;rw[A9y]at hk;obtain⟨s',h3,h4⟩:=B5h r hk;exact⟨s',by simp only[runG,hv,h3],h4⟩
theorem A4h:∀(M:A0p) {s:A0c} {Q:Exit->A0c->Prop},A3z Φ M s Q->∃e s',runM Φ M s=some (e,s')/\Q e s'
 | .skip,s,Q,h=>⟨_,_,rfl,h⟩
 | .ops l,s,Q,h=>by
  obtain⟨s1,h1,h2⟩:=B5g h;exact⟨_,s1,by simp only[runM,h1],h2⟩
 | .draw l,s,Q,h=>by
  obtain⟨s1,h1,h2⟩:=D0n h;exact⟨_,s1,by simp only[runM,h1],h2⟩
 | .drawG k l,s,Q,h=>by
  obtain⟨s1,h1,h2⟩:=B5h l h;exact⟨_,s1,by simp only[runM,h1],h2⟩
 | .A9x l,s,Q,h=>by
  obtain⟨s1,h1,h2⟩:=B5h l h;exact⟨_,s1,by simp only[runM,h1],h2⟩
 | .seq a b,s,Q,h=>by
  obtain⟨e,s1,h1,h2⟩:=A4h a h;cases e
  case normal=>
   obtain⟨e2,s2,h3,h4⟩:=A4h b h2;exact⟨e2,s2,by simp only[runM,h1,h3],h4⟩
  all_goals exact⟨_,s1,by simp only[runM,h1],h2⟩
 | .cond c a b,s,Q,h=>by
  simp only[A3z]at h;unfold D0m at h;split at h
  ·rename_i hc;obtain⟨e,s1,h1,h2⟩:=A4h a h;exact⟨e,s1,by simp only[runM,hc,cond_true,h1],h2⟩
  ·rename_i hc;obtain⟨e,s1,h1,h2⟩:=A4h b h;exact⟨e,s1,by simp only[runM,hc,cond_false,h1],h2⟩
  ·exact h.elim
 | .block id b,s,Q,h=>by
  obtain⟨e,s1,h1,h2⟩:=A4h b h;cases e
  case exit i=>
   simp only[inBlock_exit]at h2;by_cases hi:i=id
   ·rw[if_pos hi]at h2;exact⟨.normal,s1,by simp only[runM,h1,if_pos hi],h2⟩
   ·rw[if_neg hi]at h2;exact⟨.exit i,s1,by simp only[runM,h1,if_neg hi],h2⟩
  all_goals exact⟨_,s1,by simp only[runM,h1],h2⟩
 | .loop _,s,Q,h=>h.elim
 | .exit id,s,Q,h=>⟨_,_,rfl,h⟩
 | .ret,s,Q,h=>⟨_,_,rfl,h⟩
 | .scope b,s,Q,h=>by
  obtain⟨e,s1,h1,h2⟩:=A4h b h;cases e
  case goto l=>exact h2.elim
  all_goals exact⟨_,s1,by simp only[runM,h1],h2⟩
theorem A0e (hΦ:Ctx P G Φ) {M:A0p} {s:A0c} {Q:Exit->A0c->Prop} (h:A3z Φ M s Q):MC P G B N M Q s:=by
 obtain⟨e,s',h1,h2⟩:=A4h M h;exact A8x hΦ M h1 h2
theorem A0a (hΦ:Ctx P G Φ) {a b:A0p} {s:A0c} {Q:Exit->A0c->Prop} (h:A3z Φ a s (A5y (fun s1=>MC P G B N b Q s1) Q)):MC P G B N (.seq a b) Q s:=by
 obtain⟨e,s',h1,h2⟩:=A4h a h;intro c hc hn;refine C4q ?_ c hc hn;refine A8x hΦ a h1 ?_;cases e
 case normal=>exact⟨(B0j a h1).trans hn,h2⟩
 all_goals exact h2
theorem FnOK.runs {f:FuncId} {k:Nat} {M:A0p} {vs:List RV} (h:FnOK P G f k N M vs) (hΦ:Ctx P G Φ) {args:List T} (hk:args.length=k) {R:T->Prop}
  (hm:A3z Φ M (startM N args) (E6k vs R)):A1d P G f args R:=h.call hk (A0e hΦ hm)
def endM (vs:List RV) (R:T->Prop) (s:A0c):Prop:=A1s (resM s vs) fun ps=>A1s (toT s.H (oneOf ps)) fun q=>R q.1
@[simp] theorem endsM_ret {vs:List RV} {R:T->Prop} {s:A0c}:E6k vs R .ret s=endM vs R s:=by
 apply propext;constructor
 ·rintro⟨_,ps,r,F,h1,h2,h3⟩;unfold endM;rw[h1,ifSome_some,h2];exact h3
 ·intro h;obtain⟨ps,h1,h⟩:=A3g h;obtain⟨q,h2,h3⟩:=A3g h;exact⟨.inr rfl,ps,q.1,q.2,h1,h2,h3⟩
end
section
variable {Φ : A0u} {H : Heap} {nx : Nat}
@[simp] theorem evalK_mv  (x:PV):A0i Φ H nx .mv [x]=some (x,H,nx):=rfl
@[simp] theorem quietK_mv  : A0o .mv=true:=rfl
@[simp] theorem evalQ_mv  (ps:List PV):A1w Φ H nx .mv ps=(A0i Φ H nx .mv ps).map (·.1):=rfl
@[simp] theorem evalK_un (op:UnOp) (a:Value):A0i Φ H nx (.un op) [.t (.v a)]=(unV op a).map fun v=>(.t (.v v),H,nx):=rfl
@[simp] theorem quietK_un (op:UnOp):A0o (.un op)=true:=rfl
@[simp] theorem evalQ_un (op:UnOp) (ps:List PV):A1w Φ H nx (.un op) ps=(A0i Φ H nx (.un op) ps).map (·.1):=rfl
@[simp] theorem evalK_conv (k:Option IntKind) (x:PV):A0i Φ H nx (.conv k) [x]=(convM k x).map fun r=>(r,H,nx):=rfl
@[simp] theorem quietK_conv (k:Option IntKind):A0o (.conv k)=true:=rfl
@[simp] theorem evalQ_conv (k:Option IntKind) (ps:List PV):A1w Φ H nx (.conv k) ps=(A0i Φ H nx (.conv k) ps).map (·.1):=rfl
@[simp] theorem evalK_load (agg:Bool) (n:Nat) (x:PV):A0i Φ H nx (.load agg n) [x]=(A0t agg n H x).map fun r=>(r,H,nx):=rfl
@[simp] theorem quietK_load (agg:Bool) (n:Nat):A0o (.load agg n)=true:=rfl
@[simp] theorem evalQ_load (agg:Bool) (n:Nat) (ps:List PV):A1w Φ H nx (.load agg n) ps=(A0i Φ H nx (.load agg n) ps).map (·.1):=rfl
@[simp] theorem evalK_faddr (off:Nat) (x:PV):A0i Φ H nx (.faddr off) [x]=(faddrM off x).map fun r=>(r,H,nx):=rfl
@[simp] theorem quietK_faddr (off:Nat):A0o (.faddr off)=true:=rfl
@[simp] theorem evalQ_faddr (off:Nat) (ps:List PV):A1w Φ H nx (.faddr off) ps=(A0i Φ H nx (.faddr off) ps).map (·.1):=rfl
@[simp] theorem evalK_field (off:Nat) (agg:Bool) (n:Nat) (x:PV):A0i Φ H nx (.field off agg n) [x]=(D7t off agg n x).map fun r=>(r,H,nx):=rfl
@[simp] theorem quietK_field (off:Nat) (agg:Bool) (n:Nat):A0o (.field off agg n)=true:=rfl
@[simp] theorem evalQ_field (off:Nat) (agg:Bool) (n:Nat) (ps:List PV):A1w Φ H nx (.field off agg n) ps=(A0i Φ H nx (.field off agg n) ps).map (·.1):=rfl
@[simp] theorem evalK_iaddr (z:Nat) (x:PV) (i:PV):A0i Φ H nx (.iaddr z) [x,i]=(A2e z x i).map fun r=>(r,H,nx):=rfl
@[simp] theorem quietK_iaddr (z:Nat):A0o (.iaddr z)=true:=rfl
@[simp] theorem evalQ_iaddr (z:Nat) (ps:List PV):A1w Φ H nx (.iaddr z) ps=(A0i Φ H nx (.iaddr z) ps).map (·.1):=rfl
@[simp] theorem evalK_aaddr (n z:Nat) (x:PV) (i:PV):A0i Φ H nx (.aaddr n z) [x,i]=(B3i n z x i).map fun r=>(r,H,nx):=rfl
@[simp] theorem quietK_aaddr (n z:Nat):A0o (.aaddr n z)=true:=rfl
@[simp] theorem evalQ_aaddr (n z:Nat) (ps:List PV):A1w Φ H nx (.aaddr n z) ps=(A0i Φ H nx (.aaddr n z) ps).map (·.1):=rfl
@[simp] theorem evalK_index  (x:PV) (i:PV):A0i Φ H nx .index [x,i]=(B8c x i).map fun r=>(r,H,nx):=rfl
@[simp] theorem quietK_index  : A0o .index=true:=rfl
@[simp] theorem evalQ_index  (ps:List PV):A1w Φ H nx .index ps=(A0i Φ H nx .index ps).map (·.1):=rfl
@[simp] theorem evalK_slstr00  (x:PV):A0i Φ H nx (.slstr false false) [x]=(B0h x none none).map fun r=>(r,H,nx):=rfl
@[simp] theorem quietK_slstr00  : A0o (.slstr false false)=true:=rfl
@[simp] theorem evalQ_slstr00  (ps:List PV):A1w Φ H nx (.slstr false false) ps=(A0i Φ H nx (.slstr false false) ps).map (·.1):=rfl
@[simp] theorem evalK_slstr10  (x:PV) (i:PV):A0i Φ H nx (.slstr true false) [x,i]=(B0h x (some i) none).map fun r=>(r,H,nx):=rfl
@[simp] theorem quietK_slstr10  : A0o (.slstr true false)=true:=rfl
@[simp] theorem evalQ_slstr10  (ps:List PV):A1w Φ H nx (.slstr true false) ps=(A0i Φ H nx (.slstr true false) ps).map (·.1):=rfl
@[simp] theorem evalK_slstr01  (x:PV) (i:PV):A0i Φ H nx (.slstr false true) [x,i]=(B0h x none (some i)).map fun r=>(r,H,nx):=rfl
@[simp] theorem quietK_slstr01  : A0o (.slstr false true)=true:=rfl
@[simp] theorem evalQ_slstr01  (ps:List PV):A1w Φ H nx (.slstr false true) ps=(A0i Φ H nx (.slstr false true) ps).map (·.1):=rfl
@[simp] theorem evalK_slstr11  (x:PV) (i:PV) (j:PV):A0i Φ H nx (.slstr true true) [x,i,j]=(B0h x (some i) (some j)).map fun r=>(r,H,nx):=rfl
@[simp] theorem quietK_slstr11  : A0o (.slstr true true)=true:=rfl
@[simp] theorem evalQ_slstr11  (ps:List PV):A1w Φ H nx (.slstr true true) ps=(A0i Φ H nx (.slstr true true) ps).map (·.1):=rfl
@[simp] theorem evalK_slice00 (z:Nat) (x:PV):A0i Φ H nx (.slice z false false) [x]=(A8b z x none none).map fun r=>(r,H,nx):=rfl
@[simp] theorem quietK_slice00 (z:Nat):A0o (.slice z false false)=true:=rfl
@[simp] theorem evalQ_slice00 (z:Nat) (ps:List PV):A1w Φ H nx (.slice z false false) ps=(A0i Φ H nx (.slice z false false) ps).map (·.1):=rfl
@[simp] theorem evalK_slice10 (z:Nat) (x:PV) (i:PV):A0i Φ H nx (.slice z true false) [x,i]=(A8b z x (some i) none).map fun r=>(r,H,nx):=rfl
@[simp] theorem quietK_slice10 (z:Nat):A0o (.slice z true false)=true:=rfl
@[simp] theorem evalQ_slice10 (z:Nat) (ps:List PV):A1w Φ H nx (.slice z true false) ps=(A0i Φ H nx (.slice z true false) ps).map (·.1):=rfl
@[simp] theorem evalK_slice01 (z:Nat) (x:PV) (i:PV):A0i Φ H nx (.slice z false true) [x,i]=(A8b z x none (some i)).map fun r=>(r,H,nx):=rfl
@[simp] theorem quietK_slice01 (z:Nat):A0o (.slice z false true)=true:=rfl
@[simp] theorem evalQ_slice01 (z:Nat) (ps:List PV):A1w Φ H nx (.slice z false true) ps=(A0i Φ H nx (.slice z false true) ps).map (·.1):=rfl
@[simp] theorem evalK_slice11 (z:Nat) (x:PV) (i:PV) (j:PV):A0i Φ H nx (.slice z true true) [x,i,j]=(A8b z x (some i) (some j)).map fun r=>(r,H,nx):=rfl
@[simp] theorem quietK_slice11 (z:Nat):A0o (.slice z true true)=true:=rfl
@[simp] theorem evalQ_slice11 (z:Nat) (ps:List PV):A1w Φ H nx (.slice z true true) ps=(A0i Φ H nx (.slice z true true) ps).map (·.1):=rfl
@[simp] theorem evalK_ext (n:Nat) (x:PV):A0i Φ H nx (.ext n) [x]=(extractV x n).map fun r=>(r,H,nx):=rfl
@[simp] theorem quietK_ext (n:Nat):A0o (.ext n)=true:=rfl
@[simp] theorem evalQ_ext (n:Nat) (ps:List PV):A1w Φ H nx (.ext n) ps=(A0i Φ H nx (.ext n) ps).map (·.1):=rfl
@[simp] theorem evalK_chk  (x:PV):A0i Φ H nx .chk [x]=(chkM x).map fun r=>(r,H,nx):=rfl
@[simp] theorem quietK_chk  : A0o .chk=true:=rfl
@[simp] theorem evalQ_chk  (ps:List PV):A1w Φ H nx .chk ps=(A0i Φ H nx .chk ps).map (·.1):=rfl
@[simp] theorem evalK_lenstr  (x:PV):A0i Φ H nx .lenstr [x]=(lenstrM x).map fun r=>(r,H,nx):=rfl
@[simp] theorem quietK_lenstr  : A0o .lenstr=true:=rfl
@[simp] theorem evalQ_lenstr  (ps:List PV):A1w Φ H nx .lenstr ps=(A0i Φ H nx .lenstr ps).map (·.1):=rfl
@[simp] theorem evalK_lensl  (x:PV):A0i Φ H nx .lensl [x]=(A6t x).map fun r=>(r,H,nx):=rfl
@[simp] theorem quietK_lensl  : A0o .lensl=true:=rfl
@[simp] theorem evalQ_lensl  (ps:List PV):A1w Φ H nx .lensl ps=(A0i Φ H nx .lensl ps).map (·.1):=rfl
@[simp] theorem evalK_min  (x:PV) (i:PV):A0i Φ H nx .min [x,i]=(minV x i).map fun r=>(r,H,nx):=rfl
@[simp] theorem quietK_min  : A0o .min=true:=rfl
@[simp] theorem evalQ_min  (ps:List PV):A1w Φ H nx .min ps=(A0i Φ H nx .min ps).map (·.1):=rfl
@[simp] theorem evalK_max  (x:PV) (i:PV):A0i Φ H nx .max [x,i]=(maxV x i).map fun r=>(r,H,nx):=rfl
@[simp] theorem quietK_max  : A0o .max=true:=rfl
@[simp] theorem evalQ_max  (ps:List PV):A1w Φ H nx .max ps=(A0i Φ H nx .max ps).map (·.1):=rfl
@[simp] theorem evalK_store (n:Nat) (x:PV) (i:PV):A0i Φ H nx (.store n) [x,i]=(A0x n H x i).map fun H'=>(.t (.v undef),H',nx):=rfl
@[simp] theorem quietK_store (n:Nat):A0o (.store n)=false:=rfl
@[simp] theorem evalK_make (e n b:Nat) (zc:List Value) (x:PV) (i:PV):A0i Φ H nx (.make e n b zc) [x,i]=(D4j e n b zc x i nx).map fun q=>(q.1,(nx,q.2)::H,nx+1):=rfl
@[simp] theorem quietK_make (e n b:Nat) (zc:List Value):A0o (.make e n b zc)=false:=rfl
@[simp] theorem evalK_bslice (e n:Nat) (zc:List Value) (len:Nat) (idx:List Nat) (ps:List PV):A0i Φ H nx (.bslice e n zc len idx) ps=(A1v e n zc len (idx.zip ps) nx).map fun q=>(q.1,(nx,q.2)::H,nx+1):=rfl
@[simp] theorem quietK_bslice (e n:Nat) (zc:List Value) (len:Nat) (idx:List Nat)  : A0o (.bslice e n zc len idx)=false:=rfl
@[simp] theorem evalK_build (places:List (Nat×Nat)) (zc:List Value) (idx:List Nat) (ps:List PV):A0i Φ H nx (.build places zc idx) ps=(B0w (fun k=>places[k]?) (zc.map fun x=>.t (.v x)) (idx.zip ps)).map fun cs=>(agOf cs,H,nx):=rfl
@[simp] theorem quietK_build (places:List (Nat×Nat)) (zc:List Value) (idx:List Nat)  : A0o (.build places zc idx)=true:=rfl
@[simp] theorem evalQ_build (places:List (Nat×Nat)) (zc:List Value) (idx:List Nat)  (ps:List PV):A1w Φ H nx (.build places zc idx) ps=(A0i Φ H nx (.build places zc idx) ps).map (·.1):=rfl
@[simp] theorem evalK_barr (n:Nat) (zc:List Value) (idx:List Nat) (ps:List PV):A0i Φ H nx (.barr n zc idx) ps=(B0w (fun k=>some (k*n,n)) (zc.map fun x=>.t (.v x)) (idx.zip ps)).map fun cs=>(agOf cs,H,nx):=rfl
@[simp] theorem quietK_barr (n:Nat) (zc:List Value) (idx:List Nat)  : A0o (.barr n zc idx)=true:=rfl
@[simp] theorem evalQ_barr (n:Nat) (zc:List Value) (idx:List Nat)  (ps:List PV):A1w Φ H nx (.barr n zc idx) ps=(A0i Φ H nx (.barr n zc idx) ps).map (·.1):=rfl
@[simp] theorem evalK_box (t:Nat) (x:PV):A0i Φ H nx (.box t) [x]=(A1g x).map fun ps=>(.ptr nx 0,(nx,.cells t ps)::H,nx+1):=rfl
@[simp] theorem quietK_box (t:Nat):A0o (.box t)=false:=rfl
@[simp] theorem evalK_alloc (t:Nat) (zc:List Value)  : A0i Φ H nx (.alloc t zc) []=some (.ptr nx 0,(nx,.cells t (zc.map fun x=>.t (.v x)))::H,nx+1):=rfl
@[simp] theorem quietK_alloc (t:Nat) (zc:List Value):A0o (.alloc t zc)=false:=rfl
@[simp] theorem evalK_app (e z b:Nat) (x:PV) (i:PV):A0i Φ H nx (.app e z b) [x,i]=appM e z b H nx x i:=rfl
@[simp] theorem quietK_app (e z b:Nat):A0o (.app e z b)=false:=rfl
@[simp] theorem quietK_bin (isB:Bool) (op:BinOp) (nk:Option NK):A0o (.bin isB op nk)=true:=rfl
@[simp] theorem evalQ_bin (isB:Bool) (op:BinOp) (nk:Option NK) (ps:List PV):A1w Φ H nx (.bin isB op nk) ps=(A0i Φ H nx (.bin isB op nk) ps).map (·.1):=rfl
@[simp] theorem quietK_pick  : A0o .pick=true:=rfl
@[simp] theorem evalQ_pick  (ps:List PV):A1w Φ H nx .pick ps=(A0i Φ H nx .pick ps).map (·.1):=rfl
@[simp] theorem quietK_call (f:Nat):A0o (.call f)=true:=rfl
@[simp] theorem evalK_pick (t:Bool) (a b:PV):A0i Φ H nx .pick [.t (.v (.bool t)),a,b]=some (bif t then a else b,H,nx):=rfl
@[simp] theorem evalK_add (isB:Bool) (nk:Option NK) (k:IntKind) (a b:Int):A0i Φ H nx (.bin isB .add nk) [.t (.v (.int k a)),.t (.v (.int k b))]=some (.t (.v (.int k (k.wrap (a+b)))),H,nx):=by simp[A0i,binM]
@[simp] theorem evalK_sub (isB:Bool) (nk:Option NK) (k:IntKind) (a b:Int):A0i Φ H nx (.bin isB .sub nk) [.t (.v (.int k a)),.t (.v (.int k b))]=some (.t (.v (.int k (k.wrap (a-b)))),H,nx):=by simp[A0i,binM]
@[simp] theorem evalK_mul (isB:Bool) (nk:Option NK) (k:IntKind) (a b:Int):A0i Φ H nx (.bin isB .mul nk) [.t (.v (.int k a)),.t (.v (.int k b))]=some (.t (.v (.int k (k.wrap (a*b)))),H,nx):=by simp[A0i,binM]
@[simp] theorem evalK_and (isB:Bool) (nk:Option NK) (k:IntKind) (a b:Int):A0i Φ H nx (.bin isB .and nk) [.t (.v (.int k a)),.t (.v (.int k b))]=some (.t (.v (.int k (k.wrap (BitVec.ofInt k.bits a&&&BitVec.ofInt k.bits b).toNat))),H,nx):=by simp[A0i,binM]
@[simp] theorem evalK_or (isB:Bool) (nk:Option NK) (k:IntKind) (a b:Int):A0i Φ H nx (.bin isB .or nk) [.t (.v (.int k a)),.t (.v (.int k b))]=some (.t (.v (.int k (k.wrap (BitVec.ofInt k.bits a|||BitVec.ofInt k.bits b).toNat))),H,nx):=by simp[A0i,binM]
@[simp] theorem evalK_xor (isB:Bool) (nk:Option NK) (k:IntKind) (a b:Int):A0i Φ H nx (.bin isB .xor nk) [.t (.v (.int k a)),.t (.v (.int k b))]=some (.t (.v (.int k (k.wrap (BitVec.ofInt k.bits a ^^^ BitVec.ofInt k.bits b).toNat))),H,nx):=by simp[A0i,binM]
@[simp] theorem evalK_andNot (isB:Bool) (nk:Option NK) (k:IntKind) (a b:Int):A0i Φ H nx (.bin isB .andNot nk) [.t (.v (.int k a)),.t (.v (.int k b))]=some (.t (.v (.int k (k.wrap (BitVec.ofInt k.bits a &&& ~~~ (BitVec.ofInt k.bits b)).toNat))),H,nx):=by simp[A0i,binM]
@[simp] theorem evalK_eql (isB:Bool) (nk:Option NK) (k:IntKind) (a b:Int):A0i Φ H nx (.bin isB .eql nk) [.t (.v (.int k a)),.t (.v (.int k b))]=some (.t (.v (.bool (a==b))),H,nx):=by simp[A0i,binM]
@[simp] theorem evalK_neq (isB:Bool) (nk:Option NK) (k:IntKind) (a b:Int):A0i Φ H nx (.bin isB .neq nk) [.t (.v (.int k a)),.t (.v (.int k b))]=some (.t (.v (.bool (a != b))),H,nx):=by simp[A0i,binM]
@[simp] theorem evalK_lss (isB:Bool) (nk:Option NK) (k:IntKind) (a b:Int):A0i Φ H nx (.bin isB .lss nk) [.t (.v (.int k a)),.t (.v (.int k b))]=some (.t (.v (.bool (decide (a<b)))),H,nx):=by simp[A0i,binM]
@[simp] theorem evalK_leq (isB:Bool) (nk:Option NK) (k:IntKind) (a b:Int):A0i Φ H nx (.bin isB .leq nk) [.t (.v (.int k a)),.t (.v (.int k b))]=some (.t (.v (.bool (decide (a<=b)))),H,nx):=by simp[A0i,binM]
@[simp] theorem evalK_gtr (isB:Bool) (nk:Option NK) (k:IntKind) (a b:Int):A0i Φ H nx (.bin isB .gtr nk) [.t (.v (.int k a)),.t (.v (.int k b))]=some (.t (.v (.bool (decide (b<a)))),H,nx):=by simp[A0i,binM]
@[simp] theorem evalK_geq (isB:Bool) (nk:Option NK) (k:IntKind) (a b:Int):A0i Φ H nx (.bin isB .geq nk) [.t (.v (.int k a)),.t (.v (.int k b))]=some (.t (.v (.bool (decide (b<=a)))),H,nx):=by simp[A0i,binM]
@[simp] theorem evalK_quo (isB:Bool) (nk:Option NK) (k:IntKind) (a b:Int) (h:¬b=0):A0i Φ H nx (.bin isB .quo nk) [.t (.v (.int k a)),.t (.v (.int k b))]=some (.t (.v (.int k (k.wrap (a.tdiv b)))),H,nx):=by simp[A0i,binM,h]
@[simp] theorem evalK_rem (isB:Bool) (nk:Option NK) (k:IntKind) (a b:Int) (h:¬b=0):A0i Φ H nx (.bin isB .rem nk) [.t (.v (.int k a)),.t (.v (.int k b))]=some (.t (.v (.int k (a.tmod b))),H,nx):=by simp[A0i,binM,h]
@[simp] theorem evalK_shl (isB:Bool) (nk:Option NK) (k k':IntKind) (a b:Int) (h:¬b<0):A0i Φ H nx (.bin isB .shl nk) [.t (.v (.int k a)),.t (.v (.int k' b))]=some (.t (.v (.int k (k.wrap (a*2^(min b.toNat k.bits))))),H,nx):=by simp[A0i,binM,h]
@[simp] theorem evalK_shr (isB:Bool) (nk:Option NK) (k k':IntKind) (a b:Int) (h:¬b<0):A0i Φ H nx (.bin isB .shr nk) [.t (.v (.int k a)),.t (.v (.int k' b))]=some (.t (.v (.int k (a.fdiv (2^(min b.toNat k.bits))))),H,nx):=by simp[A0i,binM,h]
@[simp] theorem evalK_seql (isB:Bool) (nk:Option NK) (a b:ByteArray):A0i Φ H nx (.bin isB .eql nk) [.t (.v (.string a)),.t (.v (.string b))]=some (.t (.v (.bool (a.toList==b.toList))),H,nx):=rfl
@[simp] theorem evalK_sneq (isB:Bool) (nk:Option NK) (a b:ByteArray):A0i Φ H nx (.bin isB .neq nk) [.t (.v (.string a)),.t (.v (.string b))]=some (.t (.v (.bool (!(a.toList==b.toList)))),H,nx):=rfl
@[simp] theorem evalK_beql (nk:Option NK) (a b:Bool):A0i Φ H nx (.bin true .eql nk) [.t (.v (.bool a)),.t (.v (.bool b))]=some (.t (.v (.bool (a==b))),H,nx):=rfl
@[simp] theorem evalK_bneq (nk:Option NK) (a b:Bool):A0i Φ H nx (.bin true .neq nk) [.t (.v (.bool a)),.t (.v (.bool b))]=some (.t (.v (.bool (!(a==b)))),H,nx):=rfl
@[simp] theorem evalK_call (f:Nat) (ps:List PV):A0i Φ H nx (.call f) ps=(toTs H ps).bind fun q=>(Φ f q.1).map fun r=>(.t r,if q.2.isEmpty then H else if A3s r then H else remAll H q.2,nx):=by
 simp only[A0i]
 cases toTs H ps with
 | none=>rfl
 | some q=>obtain⟨a,b⟩:=q;simp only[Option.bind_some];cases Φ f a<;>rfl
@[simp] theorem evalQ_call (f:Nat) (ps:List PV):A1w Φ H nx (.call f) ps=(toTs H ps).bind fun q=>(Φ f q.1).bind fun r=>if q.2.isEmpty||A3s r then some (.t r)else none:=by
 simp only[A1w,A0o,if_true]
 cases toTs H ps with
 | none=>rfl
 | some q=>obtain⟨a,b⟩:=q;simp only[Option.bind_some];cases Φ f a<;>rfl
@[simp] theorem evalK_tslice (e n:Nat) (zc:List Value) (len:Nat) (idx:List Nat) (ps:List PV):A0i Φ H nx (.tslice e n zc len idx) ps=(A5c e n zc len (idx.zip ps)).map fun r=>(r,H,nx):=rfl
@[simp] theorem quietK_tslice (e n:Nat) (zc:List Value) (len:Nat) (idx:List Nat):A0o (.tslice e n zc len idx)=true:=rfl
@[simp] theorem evalQ_tslice (e n:Nat) (zc:List Value) (len:Nat) (idx:List Nat) (ps:List PV):A1w Φ H nx (.tslice e n zc len idx) ps=(A0i Φ H nx (.tslice e n zc len idx) ps).map (·.1):=rfl
@[simp] theorem evalK_hcall (f:Nat) (ps:List PV):A0i Φ H nx (.hcall f) ps=Φ.h f ps H nx:=rfl
@[simp] theorem quietK_hcall (f:Nat):A0o (.hcall f)=false:=rfl
@[simp] theorem evalK_callv (f:Nat) (ps:List PV):A0i Φ H nx .callv (.t (.v (.func (.func f) #[] #[]))::ps)=Φ.h f ps H nx:=rfl
@[simp] theorem evalK_callf (f:Nat) (first cap ps:List PV):A0i Φ H nx .callv (.fn (.func f) first cap::ps)=Φ.h f (first++ps++cap) H nx:=rfl
@[simp] theorem quietK_callv:A0o .callv=false:=rfl
@[simp] theorem evalK_ex (e:EK) (ps:List PV):A0i Φ H nx (.ex e) ps=(exM e ps).map fun r=>(r,H,nx):=rfl
@[simp] theorem quietK_ex (e:EK):A0o (.ex e)=true:=rfl
@[simp] theorem evalQ_ex (e:EK) (ps:List PV):A1w Φ H nx (.ex e) ps=(A0i Φ H nx (.ex e) ps).map (·.1):=rfl
@[simp] theorem evalK_hx (h:HK) (ps:List PV):A0i Φ H nx (.hx h) ps=hxM h H nx ps:=rfl
@[simp] theorem quietK_hx (h:HK):A0o (.hx h)=false:=rfl
@[simp] theorem exM_aix (len n:Nat) (agg:Bool) (cs:List T) (k:IntKind) (i:Int):exM (.aix len n agg) [.t (.ag cs),.t (.v (.int k i))]=if 0<=i/\i<(len:Int)/\i.toNat*n+n<=cs.length then(if agg then some (.t (.ag ((cs.drop (i.toNat*n)).take n)))else(cs[i.toNat*n]?).map .t)else none:=rfl
@[simp] theorem exM_eqs (neg:Bool) (ks:List CK) (xs ys:List T):exM (.eqs neg ks) [.t (.ag xs),.t (.ag ys)]=(A1t ks xs ys).map fun r=>.t (.v (.bool (if neg then !r else r))):=rfl
@[simp] theorem hxM_range (s:ByteArray):hxM .range H nx [.t (.v (.string s))]=some (.ptr nx 0,(nx,.iter s 0)::H,nx+1):=rfl
@[simp] theorem hxM_s2b (s:ByteArray):hxM .s2b H nx [.t (.v (.string s))]=some (.t (.sl s.size (B7z s)),H,nx):=rfl
@[simp] theorem hxM_mlen {b:Nat} {kk:KK} {es:List (Key×Value)} (hl:look H b=some (.map kk es)):hxM .mlen H nx [.mp b]=some (.t (.v (.int .i64 (es.length:Int))),H,nx):=by simp[hxM,hl]
@[simp] theorem hxM_mnew (kk:KK):hxM (.mnew kk) H nx []=some (.mp nx,(nx,.map kk [])::H,nx+1):=rfl
@[simp] theorem hxM_mget {kk:KK} {z:Value} {ok:Bool} {b:Nat} {p:PV} {es:List (Key×Value)} {k:Key} (hl:look H b=some (.map kk es)) (hk:keyT kk p=some k):hxM (.mget kk z ok) H nx [.mp b,p]=some (.t (C9u ok z (getK es k)),H,nx):=by
 simp only[hxM,hl,hk,if_true]
@[simp] theorem hxM_mset {kk:KK} {v:Value} {b:Nat} {p:PV} {es:List (Key×Value)} {k:Key} (hl:look H b=some (.map kk es)) (hk:keyT kk p=some k):hxM (.mset kk) H nx [.mp b,p,.t (.v v)]=some (.t (.v undef),upd H b (.map kk (setK es k v)),nx):=by
 simp only[hxM,hl,hk,if_true]
@[simp] theorem mgetT_ok (z:Value) (q:Option Value):C9u true z q = .tu [.v (q.getD z),.v (.bool q.isSome)]:=rfl
@[simp] theorem mgetT_one (z:Value) (q:Option Value):C9u false z q = .v (q.getD z):=rfl
@[simp] theorem keyT_int (k:IntKind) (n:Int):keyT (.int k) (.t (.v (.int k n)))=some (.n [n]):=by simp only[keyT,if_true]
@[simp] theorem keyT_str (b:ByteArray):keyT .str (.t (.v (.string b)))=some (.s b):=rfl
@[simp] theorem keyT_two (a b:Int):keyT (.ints 2) (.t (.ag [.v (.int .i64 a),.v (.int .i64 b)]))=some (.n [a,b]):=rfl
@[simp] theorem ifSome_bind {α β:Type} (x:Option α) (f:α->Option β) (K:β->Prop):A1s (x.bind f) K=A1s x fun a=>A1s (f a) K:=by cases x<;>rfl
end
@[simp] theorem plainT_v (x:Value):A3s (.v x)=true:=rfl
@[simp] theorem plainT_sl (n:Nat) (cs:List T):A3s (.sl n cs)=false:=rfl
@[simp] theorem plainT_pt (cs:List T):A3s (.pt cs)=false:=rfl
@[simp] theorem look_nil {α:Type} (k:Nat):look ([]:List (Nat×α)) k=none:=rfl
@[simp] theorem look_cons {α:Type} (k j:Nat) (x:α) (r:List (Nat×α)):look ((k,x)::r) j=if k=j then some x else look r j:=rfl
@[simp] theorem allT_map_t (ts:List T):allT (ts.map PV.t)=some ts:=by
 induction ts with
 | nil=>rfl
 | cons x r ih=>simp[ih]
section
variable {Φ : A0u} {env : List (Nat × PV)} {H : Heap} {nx n : Nat} {K : A0c -> Prop} {Q : Exit -> A0c -> Prop} {d : Option Nat} {k : MK} {xs : List Opd} {r : List Mini}
@[simp] theorem set_some (j:Nat) (p:PV) (H':Heap) (nx':Nat):A0c.set ⟨env,H,nx,n⟩ (some j) (p,H',nx')=⟨(j,p)::env,H',nx',n⟩:=rfl
@[simp] theorem set_none (p:PV) (H':Heap) (nx':Nat):A0c.set ⟨env,H,nx,n⟩ none (p,H',nx')=⟨env,H',nx',n⟩:=rfl
@[simp] theorem runsL_nil {s:A0c}:A7d Φ [] s K=K s:=rfl
@[simp] theorem runsL_cons:A7d Φ (⟨d,k,xs,none⟩::r) ⟨env,H,nx,n⟩ K=A1s (A0i Φ H nx k (xs.map (·.ev env))) fun q=>A7d Φ r (A0c.set ⟨env,H,nx,n⟩ d q) K:=rfl
@[simp] theorem runsL_yes {g:Nat} {want:Bool} (h:look env g=some (.t (.v (.bool want)))) :
  A7d Φ (⟨d,k,xs,some (g,want)⟩::r) ⟨env,H,nx,n⟩ K=A1s (A0i Φ H nx k (xs.map (·.ev env))) fun q=>A7d Φ r (A0c.set ⟨env,H,nx,n⟩ d q) K:=by
 simp only[A7d,B1c,Mini.wants,h,beq_self_eq_true,onWants_true]
theorem D8a {g:Nat} {want b:Bool} (h:look env g=some (.t (.v (.bool b)))) (hb:(b==want)=false) :
  A7d Φ (⟨d,k,xs,some (g,want)⟩::r) ⟨env,H,nx,n⟩ K=A7d Φ r (A0c.set ⟨env,H,nx,n⟩ d (.t (.v undef),H,nx)) K:=by
 simp only[A7d,B1c,Mini.wants,h,hb,onWants_false]
@[simp] theorem runsL_no_t {g:Nat} (h:look env g=some (.t (.v (.bool false)))) :
  A7d Φ (⟨d,k,xs,some (g,true)⟩::r) ⟨env,H,nx,n⟩ K=A7d Φ r (A0c.set ⟨env,H,nx,n⟩ d (.t (.v undef),H,nx)) K:=D8a h rfl
@[simp] theorem runsL_no_f {g:Nat} (h:look env g=some (.t (.v (.bool true)))) :
  A7d Φ (⟨d,k,xs,some (g,false)⟩::r) ⟨env,H,nx,n⟩ K=A7d Φ r (A0c.set ⟨env,H,nx,n⟩ d (.t (.v undef),H,nx)) K:=D8a h rfl
@[simp] theorem runsL_no_u {g:Nat} {want:Bool} (h:look env g=some (.t (.v undef))) :
  A7d Φ (⟨d,k,xs,some (g,want)⟩::r) ⟨env,H,nx,n⟩ K=A7d Φ r (A0c.set ⟨env,H,nx,n⟩ d (.t (.v undef),H,nx)) K:=by
 simp only[A7d,B1c,Mini.wants,h,undef,onWants_false]
@[simp] theorem runsD_nil {s:A0c}:A5e Φ [] s K=K s:=rfl
@[simp] theorem runsD_cons (hk:A0o k=true):A5e Φ (⟨d,k,xs,none⟩::r) ⟨env,H,nx,n⟩ K=A1s (A1w Φ H nx k (xs.map (·.ev env))) fun v=>A5e Φ r (A0c.set ⟨env,H,nx,n⟩ d (v,H,nx)) K:=by
 simp only[A5e,B5f,hk,if_true,Mini.wants,onWants_true]
@[simp] theorem runsD_heavy (hk:A0o k=false):A5e Φ (⟨d,k,xs,none⟩::r) ⟨env,H,nx,n⟩ K=A1s (A0i Φ H nx k (xs.map (·.ev env))) fun q=>A5e Φ r (A0c.set ⟨env,H,nx,n⟩ d q) K:=by
 simp only[A5e,B5f,hk,Bool.false_eq_true,if_false,B1c,Mini.wants,onWants_true]
@[simp] theorem runsD_yes {g:Nat} {want:Bool} (hk:A0o k=true) (h:look env g=some (.t (.v (.bool want)))) :
  A5e Φ (⟨d,k,xs,some (g,want)⟩::r) ⟨env,H,nx,n⟩ K=A1s (A1w Φ H nx k (xs.map (·.ev env))) fun v=>A5e Φ r (A0c.set ⟨env,H,nx,n⟩ d (v,H,nx)) K:=by
 simp only[A5e,B5f,hk,if_true,Mini.wants,h,beq_self_eq_true,onWants_true]
@[simp] theorem runsD_heavy_yes {g:Nat} {want:Bool} (hk:A0o k=false) (h:look env g=some (.t (.v (.bool want)))) :
  A5e Φ (⟨d,k,xs,some (g,want)⟩::r) ⟨env,H,nx,n⟩ K=A1s (A0i Φ H nx k (xs.map (·.ev env))) fun q=>A5e Φ r (A0c.set ⟨env,H,nx,n⟩ d q) K:=by
 simp only[A5e,B5f,hk,Bool.false_eq_true,if_false,B1c,Mini.wants,h,beq_self_eq_true,onWants_true]
theorem D8b {g:Nat} {want b:Bool} (h:look env g=some (.t (.v (.bool b)))) (hb:(b==want)=false) :
  A5e Φ (⟨d,k,xs,some (g,want)⟩::r) ⟨env,H,nx,n⟩ K=A5e Φ r (A0c.set ⟨env,H,nx,n⟩ d (.t (.v undef),H,nx)) K:=by
 simp only[A5e,B5f,B1c,Mini.wants,h,hb,onWants_false,ite_self]
@[simp] theorem runsD_no_t {g:Nat} (h:look env g=some (.t (.v (.bool false)))) :
  A5e Φ (⟨d,k,xs,some (g,true)⟩::r) ⟨env,H,nx,n⟩ K=A5e Φ r (A0c.set ⟨env,H,nx,n⟩ d (.t (.v undef),H,nx)) K:=D8b h rfl
@[simp] theorem runsD_no_f {g:Nat} (h:look env g=some (.t (.v (.bool true)))) :
  A5e Φ (⟨d,k,xs,some (g,false)⟩::r) ⟨env,H,nx,n⟩ K=A5e Φ r (A0c.set ⟨env,H,nx,n⟩ d (.t (.v undef),H,nx)) K:=D8b h rfl
@[simp] theorem runsD_no_u {g:Nat} {want:Bool} (h:look env g=some (.t (.v undef))) :
  A5e Φ (⟨d,k,xs,some (g,want)⟩::r) ⟨env,H,nx,n⟩ K=A5e Φ r (A0c.set ⟨env,H,nx,n⟩ d (.t (.v undef),H,nx)) K:=by
 simp only[A5e,B5f,B1c,Mini.wants,h,undef,onWants_false,ite_self]
variable {κ j b : Nat} {pd : Pend} {gr : List GI} {kp : Bool} {ag : List Nat}
@[simp] theorem agains_nil {C:Prop}:B0k Φ pd H nx [] C=C:=rfl
@[simp] theorem agains_cons {i:Nat} {r:List Nat} {C:Prop}:B0k Φ pd H nx (i::r) C=A1s (look pd i) fun x=>A1w Φ H nx x.1 x.2.1=some x.2.2/\B0k Φ pd H nx r C:=rfl
@[simp] theorem keepG_true {m:Mini} {v:PV}:B9a true j m ⟨env,H,nx,n⟩ v pd=(j,m.k,m.xs.map (·.ev env),v)::pd:=rfl
@[simp] theorem keepG_false {m:Mini} {s:A0c} {v:PV}:B9a false j m s v pd=pd:=rfl
@[simp] theorem runsG_nil {s:A0c}:A7o Φ κ j b pd [] s K=K s:=rfl
@[simp] theorem runsG_cons (hk:A0o k=true):A7o Φ κ j b pd (.o ⟨d,k,xs,none⟩ kp ag::gr) ⟨env,H,nx,n⟩ K =
  A1s (A1w Φ H nx k (xs.map (·.ev env))) fun v=>B0k Φ pd H nx ag (A7o Φ κ (j+1) b (B9a kp j ⟨d,k,xs,none⟩ ⟨env,H,nx,n⟩ v pd) gr (A0c.set ⟨env,H,nx,n⟩ d (v,H,nx)) K):=by
 simp only[A7o,valD,hk,if_true,valQ,Mini.wants,ifSome_map]
@[simp] theorem runsG_heavy (hk:A0o k=false):A7o Φ κ j b pd (.o ⟨d,k,xs,none⟩ kp ag::gr) ⟨env,H,nx,n⟩ K =
  A1s (A0i Φ H nx k (xs.map (·.ev env))) fun q=>B0k Φ pd q.2.1 q.2.2 ag (A7o Φ κ (j+1) b (B9a kp j ⟨d,k,xs,none⟩ ⟨env,H,nx,n⟩ q.1 pd) gr (A0c.set ⟨env,H,nx,n⟩ d q) K):=by
 simp only[A7o,valD,hk,Bool.false_eq_true,if_false,Mini.wants]
@[simp] theorem runsG_first {m:Mini}:A7o Φ κ j b pd (.g 0 m::gr) ⟨env,H,nx,n⟩ K =
  A1s (A0i Φ H (nx+κ) m.k (m.xs.map (·.ev env))) fun q=>A7o Φ κ (j+1) nx pd gr (A0c.set ⟨env,H,nx,n⟩ m.dst (q.1,q.2.1,nx+2*κ)) K:=rfl
@[simp] theorem runsG_more {m:Mini} {i:Nat} (hi:i≠0):A7o Φ κ j b pd (.g i m::gr) ⟨env,H,nx,n⟩ K =
  A1s (A0i Φ H (b+κ+i) m.k (m.xs.map (·.ev env))) fun q=>A7o Φ κ (j+1) b pd gr (A0c.set ⟨env,H,nx,n⟩ m.dst (q.1,q.2.1,b+2*κ)) K:=by
 simp only[A7o,if_neg hi]
@[simp] theorem runsM_drawG {l:List GI}:A3z Φ (.drawG κ l) ⟨env,H,nx,n⟩ Q=A7o Φ κ 0 0 [] l ⟨env,H,nx,n⟩ (Q .normal):=rfl
@[simp] theorem runsM_drawE {l:List GI}:A3z Φ (.A9x l) ⟨env,H,nx,n⟩ Q=A7o Φ 0 0 0 [] l ⟨env,H,nx,n⟩ (Q .normal):=rfl
@[simp] theorem runsM_skip {s:A0c}:A3z Φ .skip s Q=Q .normal s:=rfl
@[simp] theorem runsM_ops {l:List Mini}:A3z Φ (.ops l) ⟨env,H,nx,n⟩ Q=A7d Φ l ⟨env,H,nx,n⟩ (Q .normal):=rfl
@[simp] theorem runsM_draw {l:List Mini}:A3z Φ (.draw l) ⟨env,H,nx,n⟩ Q=A5e Φ l ⟨env,H,nx,n⟩ (Q .normal):=rfl
@[simp] theorem runsM_seq {a b:A0p}:A3z Φ (.seq a b) ⟨env,H,nx,n⟩ Q=A3z Φ a ⟨env,H,nx,n⟩ (A5y (fun s1=>A3z Φ b s1 Q) Q):=rfl
@[simp] theorem runsM_true {c:Opd} {a b:A0p} (h:c.ev env = .t (.v (.bool true))):A3z Φ (.cond c a b) ⟨env,H,nx,n⟩ Q=A3z Φ a ⟨env,H,nx,n⟩ Q:=by simp only[A3z,h,onBool_true]
@[simp] theorem runsM_false {c:Opd} {a b:A0p} (h:c.ev env = .t (.v (.bool false))):A3z Φ (.cond c a b) ⟨env,H,nx,n⟩ Q=A3z Φ b ⟨env,H,nx,n⟩ Q:=by simp only[A3z,h,onBool_false]
@[simp] theorem runsM_block {i:Nat} {a:A0p}:A3z Φ (.block i a) ⟨env,H,nx,n⟩ Q=A3z Φ a ⟨env,H,nx,n⟩ (A5n i Q):=rfl
@[simp] theorem runsM_exit {i:Nat} {s:A0c}:A3z Φ (.exit i) s Q=Q (.exit i) s:=rfl
@[simp] theorem runsM_scope {a:A0p}:A3z Φ (.scope a) ⟨env,H,nx,n⟩ Q=A3z Φ a ⟨env,H,nx,n⟩ (B5c Q):=rfl
@[simp] theorem runsM_ret {s:A0c}:A3z Φ .ret s Q=Q .ret s:=rfl
@[simp] theorem endM_mk {vs:List RV} {R:T->Prop}:endM vs R ⟨env,H,nx,n⟩=A1s (resM ⟨env,H,nx,n⟩ vs) fun ps=>A1s (toT H (oneOf ps)) fun q=>R q.1:=rfl
end
end Go.Abs
