/- Auxiliary facts. -/
import Derived.Test.YtmplckgbeaifkaaGreatDoorVCQ07
import Derived.KernelRfl
set_option linter.unusedSimpArgs false
set_option linter.unusedVariables false
namespace Go.Abs
open Go
def FnOK (P:Program) (G:A0w) (f:FuncId) (k N:Nat) (M:A0i) (vs:List RV):Prop:=
 ∃fn,P.funcs[f]?=some fn/\(fn.name == "runtime.NumGoroutine")=false/\fn.body.bind (comp P G N)=some M/\fn.results.toList.mapM (B6y P)=some vs/\k+(fn.ntmps-k)=N
theorem FnOK.call {P:Program} {G:A0w} {f:FuncId} {k N:Nat} {M:A0i} {vs:List RV} (h:FnOK P G f k N M vs) {args:List T} (hk:args.length=k) {R:T->Prop}
  (hm:MC P G 0 N M (E3a vs R) (startM N args)):A0v P G f args R:=by
 obtain⟨fn,hf,hn,hb,hr,hN⟩:=h
 cases hbody:fn.body with
 | none=>rw[hbody]at hb;cases hb
 | some c=>
  rw[hbody]at hb;exact callM hf hbody hn hb hr (by rw[hk];exact hN) hm
theorem FnOK.callP {P:Program} {G:A0w} {f:FuncId} {k N:Nat} {M:A0i} {vs:List RV} (h:FnOK P G f k N M vs) {ps:List PV} {H H':Heap} {nx nx':Nat} {r:PV} (hk:ps.length=k)
  (hm:MC P G nx N M (D1q P G nx vs fun r0 H0 nx0=>r0=r/\H0=H'/\nx0=nx') ⟨startsP 0 ps,H,nx,N⟩):A1v P G f ps H nx r H' nx':=by
 obtain⟨fn,hf,hn,hb,hr,hN⟩:=h
 cases hbody:fn.body with
 | none=>rw[hbody]at hb;cases hb
 | some c=>
  rw[hbody]at hb;exact G2g hf hbody hn hb hr (by rw[hk];exact hN) hm
def A1z {α:Type} (x:Option α) (K:α->Prop):Prop:=
 match x with
 | some a=>K a
 | none=>False
@[simp] theorem ifSome_some {α:Type} (a:α) (K:α->Prop):A1z (some a) K=K a:=rfl
@[simp] theorem ifSome_none {α:Type} (K:α->Prop):A1z (none:Option α) K=False:=rfl
@[simp] theorem ifSome_map {α β:Type} (x:Option α) (f:α->β) (K:β->Prop):A1z (x.map f) K=A1z x fun a=>K (f a):=by cases x<;>rfl
theorem A2t {α:Type} {x:Option α} {K:α->Prop} (h:A1z x K):∃a,x=some a/\K a:=by
 cases x with
 | none=>exact h.elim
 | some a=>exact⟨a,rfl,h⟩
def C1r (x:Option Bool) (yes no:Prop):Prop:=
 match x with
 | some true=>yes
 | some false=>no
 | none=>False
@[simp] theorem onWants_true (yes no:Prop):C1r (some true) yes no=yes:=rfl
@[simp] theorem onWants_false (yes no:Prop):C1r (some false) yes no=no:=rfl
def A0b.set (s:A0b) (d:Option Nat) (q:PV×Heap×Nat):A0b:=
 match d with
 | some k=>⟨(k,q.1)::s.env,q.2.1,q.2.2,s.n⟩
 | none=>⟨s.env,q.2.1,q.2.2,s.n⟩
theorem B2i (s:A0b) (d:Option Nat) (r:PV) (H:Heap) (nx:Nat):s.set d (r,H,nx)=({ s with H:=H,nx:=nx }:A0b).put d r:=by cases d<;>rfl
def B2j (Φ:A0n) (s:A0b) (m:Mini) (K:A0b->Prop):Prop:=
 C1r (m.wants s.env) (A1z (A0f Φ s.H s.nx m.k (m.xs.map (·.ev s.env))) fun q=>K (s.set m.dst q)) (K (s.set m.dst (.t (.v undef),s.H,s.nx)))
def B0c (Φ:A0n):List Mini->A0b->(A0b->Prop)->Prop
 | [],s,K=>K s
 | m::r,s,K=>B2j Φ s m fun s'=>B0c Φ r s' K
def B6z (Φ:A0n) (s:A0b) (m:Mini) (K:A0b->Prop):Prop:=
 if A0m m.k then C1r (m.wants s.env) (A1z (A2i Φ s.H s.nx m.k (m.xs.map (·.ev s.env))) fun v=>K (s.set m.dst (v,s.H,s.nx))) (K (s.set m.dst (.t (.v undef),s.H,s.nx)))
 else B2j Φ s m K
def A5v (Φ:A0n):List Mini->A0b->(A0b->Prop)->Prop
 | [],s,K=>K s
 | m::r,s,K=>B6z Φ s m fun s'=>A5v Φ r s' K
def A7j (Φ:A0n) (pd:Pend) (H:Heap) (nx:Nat):List Nat->Prop->Prop
 | [],K=>K
 | i::r,K=>A1z (look pd i) fun x=>A2i Φ H nx x.1 x.2.1=some x.2.2/\A7j Φ pd H nx r K
def A9p (Φ:A0n) (k:Nat):Nat->Nat->Pend->List GI->A0b->(A0b->Prop)->Prop
 | _,_,_,[],s,K=>K s
 | n,b,pd,.o m kp ag::r,s,K=>A1z (valD Φ s m) fun q=>A7j Φ pd q.2.1 q.2.2 ag (A9p Φ k (n+1) b (B5j kp n m s q.1 pd) r (s.set m.dst q) K)
 | n,b,pd,.g j m::r,s,K=>A1z (A0f Φ s.H ((if j=0 then s.nx else b)+k+j) m.k (m.xs.map (·.ev s.env))) fun q=>A9p Φ k (n+1) (if j=0 then s.nx else b) pd r (s.set m.dst (q.1,q.2.1,(if j=0 then s.nx else b)+2*k)) K
def A6s (K:A0b->Prop) (Q:Exit->A0b->Prop):Exit->A0b->Prop
 | .normal,s=>K s
 | e,s=>Q e s
@[simp] theorem onNormal_normal (K:A0b->Prop) (Q:Exit->A0b->Prop) (s:A0b):A6s K Q .normal s=K s:=rfl
@[simp] theorem onNormal_ret (K:A0b->Prop) (Q:Exit->A0b->Prop) (s:A0b):A6s K Q .ret s=Q .ret s:=rfl
@[simp] theorem onNormal_exit (K:A0b->Prop) (Q:Exit->A0b->Prop) (i:Nat) (s:A0b):A6s K Q (.exit i) s=Q (.exit i) s:=rfl
@[simp] theorem inBlock_normal (i:Nat) (Q:Exit->A0b->Prop) (s:A0b):A7e i Q .normal s=Q .normal s:=rfl
@[simp] theorem inBlock_ret (i:Nat) (Q:Exit->A0b->Prop) (s:A0b):A7e i Q .ret s=Q .ret s:=rfl
@[simp] theorem inBlock_exit (i j:Nat) (Q:Exit->A0b->Prop) (s:A0b):A7e i Q (.exit j) s=if j=i then Q .normal s else Q (.exit j) s:=rfl
@[simp] theorem noGoto_normal (Q:Exit->A0b->Prop) (s:A0b):B6x Q .normal s=Q .normal s:=rfl
@[simp] theorem noGoto_ret (Q:Exit->A0b->Prop) (s:A0b):B6x Q .ret s=Q .ret s:=rfl
@[simp] theorem noGoto_exit (i:Nat) (Q:Exit->A0b->Prop) (s:A0b):B6x Q (.exit i) s=Q (.exit i) s:=rfl
def C6j (p:PV) (yes no:Prop):Prop:=
 match p with
 | .t (.v (.bool true))=>yes
 | .t (.v (.bool false))=>no
 | _=>False
@[simp] theorem onBool_true (yes no:Prop):C6j (.t (.v (.bool true))) yes no=yes:=rfl
@[simp] theorem onBool_false (yes no:Prop):C6j (.t (.v (.bool false))) yes no=no:=rfl
def A5c (Φ:A0n):A0i->A0b->(Exit->A0b->Prop)->Prop
 | .skip,s,Q=>Q .normal s
 | .ops l,s,Q=>B0c Φ l s (Q .normal)
 | .draw l,s,Q=>A5v Φ l s (Q .normal)
 | .drawG k l,s,Q=>A9p Φ k 0 0 [] l s (Q .normal)
 | .seq a b,s,Q=>A5c Φ a s (A6s (fun s1=>A5c Φ b s1 Q) Q)
 | .cond c a b,s,Q=>C6j (c.ev s.env) (A5c Φ a s Q) (A5c Φ b s Q)
 | .block id b,s,Q=>A5c Φ b s (A7e id Q)
 | .loop _,_,_=>False
 | .exit id,s,Q=>Q (.exit id) s
 | .ret,s,Q=>Q .ret s
 | .scope b,s,Q=>A5c Φ b s (B6x Q)
section
variable {P : Program} {G : A0w} {B N : Nat} {Φ : A0n}
theorem C6k {s:A0b} {m:Mini} {K:A0b->Prop} (h:B2j Φ s m K):∃s',C4y Φ s m=some s'/\K s':=by
 unfold B2j at h;unfold C4y
 cases hw:m.wants s.env with
 | none=>rw[hw]at h;exact h.elim
 | some b=>
  rw[hw]at h
  cases b with
  | true=>
   obtain⟨⟨r,H',nx'⟩,hq,hk⟩:=A2t h;exact⟨_,by simp only[hq];rfl,by rw[B2i]at hk;exact hk⟩
  | false=>exact⟨_,rfl,by simp only[onWants_false,B2i]at h;exact h⟩
theorem D1r:∀{l:List Mini} {s:A0b} {K:A0b->Prop},B0c Φ l s K->∃s',runL Φ l s=some s'/\K s'
 | [],s,K,h=>⟨s,rfl,h⟩
 | m::r,s,K,h=>by
  obtain⟨s1,h1,h2⟩:=C6k h;obtain⟨s2,h3,h4⟩:=D1r h2;exact⟨s2,by simp only[runL,h1,h3],h4⟩
theorem E3b {s:A0b} {m:Mini} {K:A0b->Prop} (h:B6z Φ s m K):∃s',E7i Φ s m=some s'/\K s':=by
 unfold B6z at h;unfold E7i;split at h
 ·rename_i hq;rw[if_pos hq];unfold valQ
  cases hw:m.wants s.env with
  | none=>rw[hw]at h;exact h.elim
  | some b=>
   rw[hw]at h
   cases b with
   | true=>
    obtain⟨v,hv,hk⟩:=A2t h;exact⟨_,by simp only[hv];rfl,by rw[B2i]at hk;exact hk⟩
   | false=>exact⟨_,rfl,by simp only[onWants_false,B2i]at h;exact h⟩
 ·rename_i hq;rw[if_neg hq];exact C6k h
theorem D1s:∀{l:List Mini} {s:A0b} {K:A0b->Prop},A5v Φ l s K->∃s',runD Φ l s=some s'/\K s'
 | [],s,K,h=>⟨s,rfl,h⟩
 | m::r,s,K,h=>by
  obtain⟨s1,h1,h2⟩:=E3b h;obtain⟨s2,h3,h4⟩:=D1s h2;exact⟨s2,by simp only[runD,h1,h3],h4⟩
theorem B8m {pd:Pend} {H:Heap} {nx:Nat} {K:Prop}:∀{ks:List Nat},A7j Φ pd H nx ks K->agnP Φ pd H nx ks/\K
 | [],h=>⟨fun i hi=>by simp at hi,h⟩
 | i::r,h=>by
  obtain⟨x,hx,he,hr⟩:=A2t h;obtain⟨h1,h2⟩:=B8m hr;refine⟨fun j hj=>?_,h2⟩;rcases List.mem_cons.1 hj with rfl | hj
  ·exact⟨x,hx,he⟩
  ·exact h1 j hj
theorem B7a {k:Nat}:∀(l:List GI) {n b:Nat} {pd:Pend} {s:A0b} {K:A0b->Prop},A9p Φ k n b pd l s K->∃s',runG Φ k n b pd l s=some s'/\K s'
 | [],n,b,pd,s,K,h=>⟨s,rfl,h⟩
 | .o m kp ag::r,n,b,pd,s,K,h=>by
  obtain⟨⟨v,H',nx'⟩,hv,hk⟩:=A2t h;obtain⟨h1,h2⟩:=B8m hk;rw[B2i]at h2;obtain⟨s',h3,h4⟩:=B7a r h2;exact⟨s',by simp only[runG,hv,if_pos h1,h3],h4⟩
 | .g j m::r,n,b,pd,s,K,h=>by
  obtain⟨⟨v,H',nx'⟩,hv,hk⟩:=A2t h;rw[B2i]at hk;obtain⟨s',h3,h4⟩:=B7a r hk;exact⟨s',by simp only[runG,hv,h3],h4⟩
theorem A4u:∀(M:A0i) {s:A0b} {Q:Exit->A0b->Prop},A5c Φ M s Q->∃e s',runM Φ M s=some (e,s')/\Q e s'
 | .skip,s,Q,h=>⟨_,_,rfl,h⟩
 | .ops l,s,Q,h=>by
  obtain⟨s1,h1,h2⟩:=D1r h;exact⟨_,s1,by simp only[runM,h1],h2⟩
 | .draw l,s,Q,h=>by
  obtain⟨s1,h1,h2⟩:=D1s h;exact⟨_,s1,by simp only[runM,h1],h2⟩
 | .drawG k l,s,Q,h=>by
  obtain⟨s1,h1,h2⟩:=B7a l h;exact⟨_,s1,by simp only[runM,h1],h2⟩
 | .seq a b,s,Q,h=>by
  obtain⟨e,s1,h1,h2⟩:=A4u a h;cases e
  case normal=>
   obtain⟨e2,s2,h3,h4⟩:=A4u b h2;exact⟨e2,s2,by simp only[runM,h1,h3],h4⟩
  all_goals exact⟨_,s1,by simp only[runM,h1],h2⟩
 | .cond c a b,s,Q,h=>by
  simp only[A5c]at h;unfold C6j at h;split at h
  ·rename_i hc;obtain⟨e,s1,h1,h2⟩:=A4u a h;exact⟨e,s1,by simp only[runM,hc,cond_true,h1],h2⟩
  ·rename_i hc;obtain⟨e,s1,h1,h2⟩:=A4u b h;exact⟨e,s1,by simp only[runM,hc,cond_false,h1],h2⟩
  ·exact h.elim
 | .block id b,s,Q,h=>by
  obtain⟨e,s1,h1,h2⟩:=A4u b h;cases e
  case exit i=>
   simp only[inBlock_exit]at h2;by_cases hi:i=id
   ·rw[if_pos hi]at h2;exact⟨.normal,s1,by simp only[runM,h1,if_pos hi],h2⟩
   ·rw[if_neg hi]at h2;exact⟨.exit i,s1,by simp only[runM,h1,if_neg hi],h2⟩
  all_goals exact⟨_,s1,by simp only[runM,h1],h2⟩
 | .loop _,s,Q,h=>h.elim
 | .exit id,s,Q,h=>⟨_,_,rfl,h⟩
 | .ret,s,Q,h=>⟨_,_,rfl,h⟩
 | .scope b,s,Q,h=>by
  obtain⟨e,s1,h1,h2⟩:=A4u b h;cases e
  case goto l=>exact h2.elim
  all_goals exact⟨_,s1,by simp only[runM,h1],h2⟩
theorem A0c (hΦ:Ctx P G Φ) {M:A0i} {s:A0b} {Q:Exit->A0b->Prop} (h:A5c Φ M s Q):MC P G B N M Q s:=by
 obtain⟨e,s',h1,h2⟩:=A4u M h;exact A6v hΦ M h1 h2
theorem A0a (hΦ:Ctx P G Φ) {a b:A0i} {s:A0b} {Q:Exit->A0b->Prop} (h:A5c Φ a s (A6s (fun s1=>MC P G B N b Q s1) Q)):MC P G B N (.seq a b) Q s:=by
 obtain⟨e,s',h1,h2⟩:=A4u a h;intro c hc hn;refine A1p ?_ c hc hn;refine A6v hΦ a h1 ?_;cases e
 case normal=>exact⟨(B0b a h1).trans hn,h2⟩
 all_goals exact h2
theorem FnOK.runs {f:FuncId} {k:Nat} {M:A0i} {vs:List RV} (h:FnOK P G f k N M vs) (hΦ:Ctx P G Φ) {args:List T} (hk:args.length=k) {R:T->Prop}
  (hm:A5c Φ M (startM N args) (E3a vs R)):A0v P G f args R:=h.call hk (A0c hΦ hm)
def endM (vs:List RV) (R:T->Prop) (s:A0b):Prop:=A1z (resM s vs) fun ps=>A1z (toT s.H (oneOf ps)) fun q=>R q.1
@[simp] theorem endsM_ret {vs:List RV} {R:T->Prop} {s:A0b}:E3a vs R .ret s=endM vs R s:=by
 apply propext;constructor
 ·rintro⟨_,ps,r,F,h1,h2,h3⟩;unfold endM;rw[h1,ifSome_some,h2];exact h3
 ·intro h;obtain⟨ps,h1,h⟩:=A2t h;obtain⟨q,h2,h3⟩:=A2t h;exact⟨.inr rfl,ps,q.1,q.2,h1,h2,h3⟩
end
section
variable {Φ : A0n} {H : Heap} {nx : Nat}
@[simp] theorem evalK_mv  (x:PV):A0f Φ H nx .mv [x]=some (x,H,nx):=rfl
@[simp] theorem quietK_mv  : A0m .mv=true:=rfl
@[simp] theorem evalQ_mv  (ps:List PV):A2i Φ H nx .mv ps=(A0f Φ H nx .mv ps).map (·.1):=rfl
@[simp] theorem evalK_un (op:UnOp) (a:Value):A0f Φ H nx (.un op) [.t (.v a)]=(unV op a).map fun v=>(.t (.v v),H,nx):=rfl
@[simp] theorem quietK_un (op:UnOp):A0m (.un op)=true:=rfl
@[simp] theorem evalQ_un (op:UnOp) (ps:List PV):A2i Φ H nx (.un op) ps=(A0f Φ H nx (.un op) ps).map (·.1):=rfl
@[simp] theorem evalK_conv (k:Option IntKind) (x:PV):A0f Φ H nx (.conv k) [x]=(convM k x).map fun r=>(r,H,nx):=rfl
@[simp] theorem quietK_conv (k:Option IntKind):A0m (.conv k)=true:=rfl
@[simp] theorem evalQ_conv (k:Option IntKind) (ps:List PV):A2i Φ H nx (.conv k) ps=(A0f Φ H nx (.conv k) ps).map (·.1):=rfl
@[simp] theorem evalK_load (agg:Bool) (n:Nat) (x:PV):A0f Φ H nx (.load agg n) [x]=(A0e agg n H x).map fun r=>(r,H,nx):=rfl
@[simp] theorem quietK_load (agg:Bool) (n:Nat):A0m (.load agg n)=true:=rfl
@[simp] theorem evalQ_load (agg:Bool) (n:Nat) (ps:List PV):A2i Φ H nx (.load agg n) ps=(A0f Φ H nx (.load agg n) ps).map (·.1):=rfl
@[simp] theorem evalK_faddr (off:Nat) (x:PV):A0f Φ H nx (.faddr off) [x]=(faddrM off x).map fun r=>(r,H,nx):=rfl
@[simp] theorem quietK_faddr (off:Nat):A0m (.faddr off)=true:=rfl
@[simp] theorem evalQ_faddr (off:Nat) (ps:List PV):A2i Φ H nx (.faddr off) ps=(A0f Φ H nx (.faddr off) ps).map (·.1):=rfl
@[simp] theorem evalK_field (off:Nat) (agg:Bool) (n:Nat) (x:PV):A0f Φ H nx (.field off agg n) [x]=(C6a off agg n x).map fun r=>(r,H,nx):=rfl
@[simp] theorem quietK_field (off:Nat) (agg:Bool) (n:Nat):A0m (.field off agg n)=true:=rfl
@[simp] theorem evalQ_field (off:Nat) (agg:Bool) (n:Nat) (ps:List PV):A2i Φ H nx (.field off agg n) ps=(A0f Φ H nx (.field off agg n) ps).map (·.1):=rfl
@[simp] theorem evalK_iaddr (z:Nat) (x:PV) (i:PV):A0f Φ H nx (.iaddr z) [x,i]=(A1b z x i).map fun r=>(r,H,nx):=rfl
@[simp] theorem quietK_iaddr (z:Nat):A0m (.iaddr z)=true:=rfl
@[simp] theorem evalQ_iaddr (z:Nat) (ps:List PV):A2i Φ H nx (.iaddr z) ps=(A0f Φ H nx (.iaddr z) ps).map (·.1):=rfl
@[simp] theorem evalK_aaddr (n z:Nat) (x:PV) (i:PV):A0f Φ H nx (.aaddr n z) [x,i]=(D8u n z x i).map fun r=>(r,H,nx):=rfl
@[simp] theorem quietK_aaddr (n z:Nat):A0m (.aaddr n z)=true:=rfl
@[simp] theorem evalQ_aaddr (n z:Nat) (ps:List PV):A2i Φ H nx (.aaddr n z) ps=(A0f Φ H nx (.aaddr n z) ps).map (·.1):=rfl
@[simp] theorem evalK_index  (x:PV) (i:PV):A0f Φ H nx .index [x,i]=(B9l x i).map fun r=>(r,H,nx):=rfl
@[simp] theorem quietK_index  : A0m .index=true:=rfl
@[simp] theorem evalQ_index  (ps:List PV):A2i Φ H nx .index ps=(A0f Φ H nx .index ps).map (·.1):=rfl
@[simp] theorem evalK_slstr00  (x:PV):A0f Φ H nx (.slstr false false) [x]=(A3j x none none).map fun r=>(r,H,nx):=rfl
@[simp] theorem quietK_slstr00  : A0m (.slstr false false)=true:=rfl
@[simp] theorem evalQ_slstr00  (ps:List PV):A2i Φ H nx (.slstr false false) ps=(A0f Φ H nx (.slstr false false) ps).map (·.1):=rfl
@[simp] theorem evalK_slstr10  (x:PV) (i:PV):A0f Φ H nx (.slstr true false) [x,i]=(A3j x (some i) none).map fun r=>(r,H,nx):=rfl
@[simp] theorem quietK_slstr10  : A0m (.slstr true false)=true:=rfl
@[simp] theorem evalQ_slstr10  (ps:List PV):A2i Φ H nx (.slstr true false) ps=(A0f Φ H nx (.slstr true false) ps).map (·.1):=rfl
@[simp] theorem evalK_slstr01  (x:PV) (i:PV):A0f Φ H nx (.slstr false true) [x,i]=(A3j x none (some i)).map fun r=>(r,H,nx):=rfl
@[simp] theorem quietK_slstr01  : A0m (.slstr false true)=true:=rfl
@[simp] theorem evalQ_slstr01  (ps:List PV):A2i Φ H nx (.slstr false true) ps=(A0f Φ H nx (.slstr false true) ps).map (·.1):=rfl
@[simp] theorem evalK_slstr11  (x:PV) (i:PV) (j:PV):A0f Φ H nx (.slstr true true) [x,i,j]=(A3j x (some i) (some j)).map fun r=>(r,H,nx):=rfl
@[simp] theorem quietK_slstr11  : A0m (.slstr true true)=true:=rfl
@[simp] theorem evalQ_slstr11  (ps:List PV):A2i Φ H nx (.slstr true true) ps=(A0f Φ H nx (.slstr true true) ps).map (·.1):=rfl
@[simp] theorem evalK_slice00 (z:Nat) (x:PV):A0f Φ H nx (.slice z false false) [x]=(A3z z x none none).map fun r=>(r,H,nx):=rfl
@[simp] theorem quietK_slice00 (z:Nat):A0m (.slice z false false)=true:=rfl
@[simp] theorem evalQ_slice00 (z:Nat) (ps:List PV):A2i Φ H nx (.slice z false false) ps=(A0f Φ H nx (.slice z false false) ps).map (·.1):=rfl
@[simp] theorem evalK_slice10 (z:Nat) (x:PV) (i:PV):A0f Φ H nx (.slice z true false) [x,i]=(A3z z x (some i) none).map fun r=>(r,H,nx):=rfl
@[simp] theorem quietK_slice10 (z:Nat):A0m (.slice z true false)=true:=rfl
@[simp] theorem evalQ_slice10 (z:Nat) (ps:List PV):A2i Φ H nx (.slice z true false) ps=(A0f Φ H nx (.slice z true false) ps).map (·.1):=rfl
@[simp] theorem evalK_slice01 (z:Nat) (x:PV) (i:PV):A0f Φ H nx (.slice z false true) [x,i]=(A3z z x none (some i)).map fun r=>(r,H,nx):=rfl
@[simp] theorem quietK_slice01 (z:Nat):A0m (.slice z false true)=true:=rfl
@[simp] theorem evalQ_slice01 (z:Nat) (ps:List PV):A2i Φ H nx (.slice z false true) ps=(A0f Φ H nx (.slice z false true) ps).map (·.1):=rfl
@[simp] theorem evalK_slice11 (z:Nat) (x:PV) (i:PV) (j:PV):A0f Φ H nx (.slice z true true) [x,i,j]=(A3z z x (some i) (some j)).map fun r=>(r,H,nx):=rfl
@[simp] theorem quietK_slice11 (z:Nat):A0m (.slice z true true)=true:=rfl
@[simp] theorem evalQ_slice11 (z:Nat) (ps:List PV):A2i Φ H nx (.slice z true true) ps=(A0f Φ H nx (.slice z true true) ps).map (·.1):=rfl
@[simp] theorem evalK_ext (n:Nat) (x:PV):A0f Φ H nx (.ext n) [x]=(extractV x n).map fun r=>(r,H,nx):=rfl
@[simp] theorem quietK_ext (n:Nat):A0m (.ext n)=true:=rfl
@[simp] theorem evalQ_ext (n:Nat) (ps:List PV):A2i Φ H nx (.ext n) ps=(A0f Φ H nx (.ext n) ps).map (·.1):=rfl
@[simp] theorem evalK_chk  (x:PV):A0f Φ H nx .chk [x]=(chkM x).map fun r=>(r,H,nx):=rfl
@[simp] theorem quietK_chk  : A0m .chk=true:=rfl
@[simp] theorem evalQ_chk  (ps:List PV):A2i Φ H nx .chk ps=(A0f Φ H nx .chk ps).map (·.1):=rfl
@[simp] theorem evalK_lenstr  (x:PV):A0f Φ H nx .lenstr [x]=(lenstrM x).map fun r=>(r,H,nx):=rfl
@[simp] theorem quietK_lenstr  : A0m .lenstr=true:=rfl
@[simp] theorem evalQ_lenstr  (ps:List PV):A2i Φ H nx .lenstr ps=(A0f Φ H nx .lenstr ps).map (·.1):=rfl
@[simp] theorem evalK_lensl  (x:PV):A0f Φ H nx .lensl [x]=(A4t x).map fun r=>(r,H,nx):=rfl
@[simp] theorem quietK_lensl  : A0m .lensl=true:=rfl
@[simp] theorem evalQ_lensl  (ps:List PV):A2i Φ H nx .lensl ps=(A0f Φ H nx .lensl ps).map (·.1):=rfl
@[simp] theorem evalK_min  (x:PV) (i:PV):A0f Φ H nx .min [x,i]=(minV x i).map fun r=>(r,H,nx):=rfl
@[simp] theorem quietK_min  : A0m .min=true:=rfl
@[simp] theorem evalQ_min  (ps:List PV):A2i Φ H nx .min ps=(A0f Φ H nx .min ps).map (·.1):=rfl
@[simp] theorem evalK_max  (x:PV) (i:PV):A0f Φ H nx .max [x,i]=(maxV x i).map fun r=>(r,H,nx):=rfl
@[simp] theorem quietK_max  : A0m .max=true:=rfl
@[simp] theorem evalQ_max  (ps:List PV):A2i Φ H nx .max ps=(A0f Φ H nx .max ps).map (·.1):=rfl
@[simp] theorem evalK_store (n:Nat) (x:PV) (i:PV):A0f Φ H nx (.store n) [x,i]=(A0h n H x i).map fun H'=>(.t (.v undef),H',nx):=rfl
@[simp] theorem quietK_store (n:Nat):A0m (.store n)=false:=rfl
@[simp] theorem evalK_make (e n b:Nat) (zc:List Value) (x:PV) (i:PV):A0f Φ H nx (.make e n b zc) [x,i]=(E2w e n b zc x i nx).map fun q=>(q.1,(nx,q.2)::H,nx+1):=rfl
@[simp] theorem quietK_make (e n b:Nat) (zc:List Value):A0m (.make e n b zc)=false:=rfl
@[simp] theorem evalK_bslice (e n:Nat) (zc:List Value) (len:Nat) (idx:List Nat) (ps:List PV):A0f Φ H nx (.bslice e n zc len idx) ps=(A3l e n zc len (idx.zip ps) nx).map fun q=>(q.1,(nx,q.2)::H,nx+1):=rfl
@[simp] theorem quietK_bslice (e n:Nat) (zc:List Value) (len:Nat) (idx:List Nat)  : A0m (.bslice e n zc len idx)=false:=rfl
@[simp] theorem evalK_build (places:List (Nat×Nat)) (zc:List Value) (idx:List Nat) (ps:List PV):A0f Φ H nx (.build places zc idx) ps=(B0u (fun k=>places[k]?) (zc.map fun x=>.t (.v x)) (idx.zip ps)).map fun cs=>(agOf cs,H,nx):=rfl
@[simp] theorem quietK_build (places:List (Nat×Nat)) (zc:List Value) (idx:List Nat)  : A0m (.build places zc idx)=true:=rfl
@[simp] theorem evalQ_build (places:List (Nat×Nat)) (zc:List Value) (idx:List Nat)  (ps:List PV):A2i Φ H nx (.build places zc idx) ps=(A0f Φ H nx (.build places zc idx) ps).map (·.1):=rfl
@[simp] theorem evalK_barr (n:Nat) (zc:List Value) (idx:List Nat) (ps:List PV):A0f Φ H nx (.barr n zc idx) ps=(B0u (fun k=>some (k*n,n)) (zc.map fun x=>.t (.v x)) (idx.zip ps)).map fun cs=>(agOf cs,H,nx):=rfl
@[simp] theorem quietK_barr (n:Nat) (zc:List Value) (idx:List Nat)  : A0m (.barr n zc idx)=true:=rfl
@[simp] theorem evalQ_barr (n:Nat) (zc:List Value) (idx:List Nat)  (ps:List PV):A2i Φ H nx (.barr n zc idx) ps=(A0f Φ H nx (.barr n zc idx) ps).map (·.1):=rfl
@[simp] theorem evalK_box (t:Nat) (x:PV):A0f Φ H nx (.box t) [x]=(A0q x).map fun ps=>(.ptr nx 0,(nx,.cells t ps)::H,nx+1):=rfl
@[simp] theorem quietK_box (t:Nat):A0m (.box t)=false:=rfl
@[simp] theorem evalK_alloc (t:Nat) (zc:List Value)  : A0f Φ H nx (.alloc t zc) []=some (.ptr nx 0,(nx,.cells t (zc.map fun x=>.t (.v x)))::H,nx+1):=rfl
@[simp] theorem quietK_alloc (t:Nat) (zc:List Value):A0m (.alloc t zc)=false:=rfl
@[simp] theorem evalK_app (e z b:Nat) (x:PV) (i:PV):A0f Φ H nx (.app e z b) [x,i]=appM e z b H nx x i:=rfl
@[simp] theorem quietK_app (e z b:Nat):A0m (.app e z b)=false:=rfl
@[simp] theorem quietK_bin (isB:Bool) (op:BinOp) (nk:Option NK):A0m (.bin isB op nk)=true:=rfl
@[simp] theorem evalQ_bin (isB:Bool) (op:BinOp) (nk:Option NK) (ps:List PV):A2i Φ H nx (.bin isB op nk) ps=(A0f Φ H nx (.bin isB op nk) ps).map (·.1):=rfl
@[simp] theorem quietK_pick  : A0m .pick=true:=rfl
@[simp] theorem evalQ_pick  (ps:List PV):A2i Φ H nx .pick ps=(A0f Φ H nx .pick ps).map (·.1):=rfl
@[simp] theorem quietK_call (f:Nat):A0m (.call f)=true:=rfl
@[simp] theorem evalK_pick (t:Bool) (a b:PV):A0f Φ H nx .pick [.t (.v (.bool t)),a,b]=some (bif t then a else b,H,nx):=rfl
@[simp] theorem evalK_add (isB:Bool) (nk:Option NK) (k:IntKind) (a b:Int):A0f Φ H nx (.bin isB .add nk) [.t (.v (.int k a)),.t (.v (.int k b))]=some (.t (.v (.int k (k.wrap (a+b)))),H,nx):=by simp[A0f,binM]
@[simp] theorem evalK_sub (isB:Bool) (nk:Option NK) (k:IntKind) (a b:Int):A0f Φ H nx (.bin isB .sub nk) [.t (.v (.int k a)),.t (.v (.int k b))]=some (.t (.v (.int k (k.wrap (a-b)))),H,nx):=by simp[A0f,binM]
@[simp] theorem evalK_mul (isB:Bool) (nk:Option NK) (k:IntKind) (a b:Int):A0f Φ H nx (.bin isB .mul nk) [.t (.v (.int k a)),.t (.v (.int k b))]=some (.t (.v (.int k (k.wrap (a*b)))),H,nx):=by simp[A0f,binM]
@[simp] theorem evalK_and (isB:Bool) (nk:Option NK) (k:IntKind) (a b:Int):A0f Φ H nx (.bin isB .and nk) [.t (.v (.int k a)),.t (.v (.int k b))]=some (.t (.v (.int k (k.wrap (BitVec.ofInt k.bits a&&&BitVec.ofInt k.bits b).toNat))),H,nx):=by simp[A0f,binM]
@[simp] theorem evalK_or (isB:Bool) (nk:Option NK) (k:IntKind) (a b:Int):A0f Φ H nx (.bin isB .or nk) [.t (.v (.int k a)),.t (.v (.int k b))]=some (.t (.v (.int k (k.wrap (BitVec.ofInt k.bits a|||BitVec.ofInt k.bits b).toNat))),H,nx):=by simp[A0f,binM]
@[simp] theorem evalK_xor (isB:Bool) (nk:Option NK) (k:IntKind) (a b:Int):A0f Φ H nx (.bin isB .xor nk) [.t (.v (.int k a)),.t (.v (.int k b))]=some (.t (.v (.int k (k.wrap (BitVec.ofInt k.bits a ^^^ BitVec.ofInt k.bits b).toNat))),H,nx):=by simp[A0f,binM]
@[simp] theorem evalK_andNot (isB:Bool) (nk:Option NK) (k:IntKind) (a b:Int):A0f Φ H nx (.bin isB .andNot nk) [.t (.v (.int k a)),.t (.v (.int k b))]=some (.t (.v (.int k (k.wrap (BitVec.ofInt k.bits a &&& ~~~ (BitVec.ofInt k.bits b)).toNat))),H,nx):=by simp[A0f,binM]
@[simp] theorem evalK_eql (isB:Bool) (nk:Option NK) (k:IntKind) (a b:Int):A0f Φ H nx (.bin isB .eql nk) [.t (.v (.int k a)),.t (.v (.int k b))]=some (.t (.v (.bool (a==b))),H,nx):=by simp[A0f,binM]
@[simp] theorem evalK_neq (isB:Bool) (nk:Option NK) (k:IntKind) (a b:Int):A0f Φ H nx (.bin isB .neq nk) [.t (.v (.int k a)),.t (.v (.int k b))]=some (.t (.v (.bool (a != b))),H,nx):=by simp[A0f,binM]
@[simp] theorem evalK_lss (isB:Bool) (nk:Option NK) (k:IntKind) (a b:Int):A0f Φ H nx (.bin isB .lss nk) [.t (.v (.int k a)),.t (.v (.int k b))]=some (.t (.v (.bool (decide (a<b)))),H,nx):=by simp[A0f,binM]
@[simp] theorem evalK_leq (isB:Bool) (nk:Option NK) (k:IntKind) (a b:Int):A0f Φ H nx (.bin isB .leq nk) [.t (.v (.int k a)),.t (.v (.int k b))]=some (.t (.v (.bool (decide (a<=b)))),H,nx):=by simp[A0f,binM]
@[simp] theorem evalK_gtr (isB:Bool) (nk:Option NK) (k:IntKind) (a b:Int):A0f Φ H nx (.bin isB .gtr nk) [.t (.v (.int k a)),.t (.v (.int k b))]=some (.t (.v (.bool (decide (b<a)))),H,nx):=by simp[A0f,binM]
@[simp] theorem evalK_geq (isB:Bool) (nk:Option NK) (k:IntKind) (a b:Int):A0f Φ H nx (.bin isB .geq nk) [.t (.v (.int k a)),.t (.v (.int k b))]=some (.t (.v (.bool (decide (b<=a)))),H,nx):=by simp[A0f,binM]
@[simp] theorem evalK_quo (isB:Bool) (nk:Option NK) (k:IntKind) (a b:Int) (h:¬b=0):A0f Φ H nx (.bin isB .quo nk) [.t (.v (.int k a)),.t (.v (.int k b))]=some (.t (.v (.int k (k.wrap (a.tdiv b)))),H,nx):=by simp[A0f,binM,h]
@[simp] theorem evalK_rem (isB:Bool) (nk:Option NK) (k:IntKind) (a b:Int) (h:¬b=0):A0f Φ H nx (.bin isB .rem nk) [.t (.v (.int k a)),.t (.v (.int k b))]=some (.t (.v (.int k (a.tmod b))),H,nx):=by simp[A0f,binM,h]
@[simp] theorem evalK_shl (isB:Bool) (nk:Option NK) (k k':IntKind) (a b:Int) (h:¬b<0):A0f Φ H nx (.bin isB .shl nk) [.t (.v (.int k a)),.t (.v (.int k' b))]=some (.t (.v (.int k (k.wrap (a*2^(min b.toNat k.bits))))),H,nx):=by simp[A0f,binM,h]
@[simp] theorem evalK_shr (isB:Bool) (nk:Option NK) (k k':IntKind) (a b:Int) (h:¬b<0):A0f Φ H nx (.bin isB .shr nk) [.t (.v (.int k a)),.t (.v (.int k' b))]=some (.t (.v (.int k (a.fdiv (2^(min b.toNat k.bits))))),H,nx):=by simp[A0f,binM,h]
@[simp] theorem evalK_seql (isB:Bool) (nk:Option NK) (a b:ByteArray):A0f Φ H nx (.bin isB .eql nk) [.t (.v (.string a)),.t (.v (.string b))]=some (.t (.v (.bool (a.toList==b.toList))),H,nx):=rfl
@[simp] theorem evalK_sneq (isB:Bool) (nk:Option NK) (a b:ByteArray):A0f Φ H nx (.bin isB .neq nk) [.t (.v (.string a)),.t (.v (.string b))]=some (.t (.v (.bool (!(a.toList==b.toList)))),H,nx):=rfl
@[simp] theorem evalK_beql (nk:Option NK) (a b:Bool):A0f Φ H nx (.bin true .eql nk) [.t (.v (.bool a)),.t (.v (.bool b))]=some (.t (.v (.bool (a==b))),H,nx):=rfl
@[simp] theorem evalK_bneq (nk:Option NK) (a b:Bool):A0f Φ H nx (.bin true .neq nk) [.t (.v (.bool a)),.t (.v (.bool b))]=some (.t (.v (.bool (!(a==b)))),H,nx):=rfl
@[simp] theorem evalK_call (f:Nat) (ps:List PV):A0f Φ H nx (.call f) ps=(toTs H ps).bind fun q=>(Φ f q.1).map fun r=>(.t r,if q.2.isEmpty then H else if A5j r then H else remAll H q.2,nx):=by
 simp only[A0f]
 cases toTs H ps with
 | none=>rfl
 | some q=>obtain⟨a,b⟩:=q;simp only[Option.bind_some];cases Φ f a<;>rfl
@[simp] theorem evalQ_call (f:Nat) (ps:List PV):A2i Φ H nx (.call f) ps=(toTs H ps).bind fun q=>(Φ f q.1).bind fun r=>if q.2.isEmpty||A5j r then some (.t r)else none:=by
 simp only[A2i,A0m,if_true]
 cases toTs H ps with
 | none=>rfl
 | some q=>obtain⟨a,b⟩:=q;simp only[Option.bind_some];cases Φ f a<;>rfl
@[simp] theorem evalK_tslice (e n:Nat) (zc:List Value) (len:Nat) (idx:List Nat) (ps:List PV):A0f Φ H nx (.tslice e n zc len idx) ps=(A7f e n zc len (idx.zip ps)).map fun r=>(r,H,nx):=rfl
@[simp] theorem quietK_tslice (e n:Nat) (zc:List Value) (len:Nat) (idx:List Nat):A0m (.tslice e n zc len idx)=true:=rfl
@[simp] theorem evalQ_tslice (e n:Nat) (zc:List Value) (len:Nat) (idx:List Nat) (ps:List PV):A2i Φ H nx (.tslice e n zc len idx) ps=(A0f Φ H nx (.tslice e n zc len idx) ps).map (·.1):=rfl
@[simp] theorem evalK_hcall (f:Nat) (ps:List PV):A0f Φ H nx (.hcall f) ps=Φ.h f ps H nx:=rfl
@[simp] theorem quietK_hcall (f:Nat):A0m (.hcall f)=false:=rfl
@[simp] theorem evalK_callv (f:Nat) (ps:List PV):A0f Φ H nx .callv (.t (.v (.func (.func f) #[] #[]))::ps)=Φ.h f ps H nx:=rfl
@[simp] theorem evalK_callf (f:Nat) (first cap ps:List PV):A0f Φ H nx .callv (.fn (.func f) first cap::ps)=Φ.h f (first++ps++cap) H nx:=rfl
@[simp] theorem quietK_callv:A0m .callv=false:=rfl
@[simp] theorem evalK_ex (e:EK) (ps:List PV):A0f Φ H nx (.ex e) ps=(exM e ps).map fun r=>(r,H,nx):=rfl
@[simp] theorem quietK_ex (e:EK):A0m (.ex e)=true:=rfl
@[simp] theorem evalQ_ex (e:EK) (ps:List PV):A2i Φ H nx (.ex e) ps=(A0f Φ H nx (.ex e) ps).map (·.1):=rfl
@[simp] theorem evalK_hx (h:HK) (ps:List PV):A0f Φ H nx (.hx h) ps=hxM h H nx ps:=rfl
@[simp] theorem quietK_hx (h:HK):A0m (.hx h)=false:=rfl
@[simp] theorem exM_aix (len n:Nat) (agg:Bool) (cs:List T) (k:IntKind) (i:Int):exM (.aix len n agg) [.t (.ag cs),.t (.v (.int k i))]=if 0<=i/\i<(len:Int)/\i.toNat*n+n<=cs.length then(if agg then some (.t (.ag ((cs.drop (i.toNat*n)).take n)))else(cs[i.toNat*n]?).map .t)else none:=rfl
@[simp] theorem exM_eqs (neg:Bool) (ks:List CK) (xs ys:List T):exM (.eqs neg ks) [.t (.ag xs),.t (.ag ys)]=(A1u ks xs ys).map fun r=>.t (.v (.bool (if neg then !r else r))):=rfl
@[simp] theorem hxM_range (s:ByteArray):hxM .range H nx [.t (.v (.string s))]=some (.ptr nx 0,(nx,.iter s 0)::H,nx+1):=rfl
@[simp] theorem hxM_mnew (kk:KK):hxM (.mnew kk) H nx []=some (.mp nx,(nx,.map kk [])::H,nx+1):=rfl
@[simp] theorem hxM_mget {kk:KK} {z:Value} {ok:Bool} {b:Nat} {p:PV} {es:List (Key×Value)} {k:Key} (hl:look H b=some (.map kk es)) (hk:keyT kk p=some k):hxM (.mget kk z ok) H nx [.mp b,p]=some (.t (D1e ok z (getK es k)),H,nx):=by
 simp only[hxM,hl,hk,if_true]
@[simp] theorem hxM_mset {kk:KK} {v:Value} {b:Nat} {p:PV} {es:List (Key×Value)} {k:Key} (hl:look H b=some (.map kk es)) (hk:keyT kk p=some k):hxM (.mset kk) H nx [.mp b,p,.t (.v v)]=some (.t (.v undef),upd H b (.map kk (setK es k v)),nx):=by
 simp only[hxM,hl,hk,if_true]
@[simp] theorem mgetT_ok (z:Value) (q:Option Value):D1e true z q = .tu [.v (q.getD z),.v (.bool q.isSome)]:=rfl
@[simp] theorem mgetT_one (z:Value) (q:Option Value):D1e false z q = .v (q.getD z):=rfl
@[simp] theorem keyT_int (k:IntKind) (n:Int):keyT (.int k) (.t (.v (.int k n)))=some (.n [n]):=by simp only[keyT,if_true]
@[simp] theorem keyT_str (b:ByteArray):keyT .str (.t (.v (.string b)))=some (.s b):=rfl
@[simp] theorem keyT_two (a b:Int):keyT (.ints 2) (.t (.ag [.v (.int .i64 a),.v (.int .i64 b)]))=some (.n [a,b]):=rfl
@[simp] theorem ifSome_bind {α β:Type} (x:Option α) (f:α->Option β) (K:β->Prop):A1z (x.bind f) K=A1z x fun a=>A1z (f a) K:=by cases x<;>rfl
end
@[simp] theorem plainT_v (x:Value):A5j (.v x)=true:=rfl
@[simp] theorem plainT_sl (n:Nat) (cs:List T):A5j (.sl n cs)=false:=rfl
@[simp] theorem plainT_pt (cs:List T):A5j (.pt cs)=false:=rfl
@[simp] theorem look_nil {α:Type} (k:Nat):look ([]:List (Nat×α)) k=none:=rfl
@[simp] theorem look_cons {α:Type} (k j:Nat) (x:α) (r:List (Nat×α)):look ((k,x)::r) j=if k=j then some x else look r j:=rfl
@[simp] theorem allT_map_t (ts:List T):allT (ts.map PV.t)=some ts:=by
 induction ts with
 | nil=>rfl
 | cons x r ih=>simp[ih]
section
variable {Φ : A0n} {env : List (Nat × PV)} {H : Heap} {nx n : Nat} {K : A0b -> Prop} {Q : Exit -> A0b -> Prop} {d : Option Nat} {k : MK} {xs : List Opd} {r : List Mini}
@[simp] theorem set_some (j:Nat) (p:PV) (H':Heap) (nx':Nat):A0b.set ⟨env,H,nx,n⟩ (some j) (p,H',nx')=⟨(j,p)::env,H',nx',n⟩:=rfl
@[simp] theorem set_none (p:PV) (H':Heap) (nx':Nat):A0b.set ⟨env,H,nx,n⟩ none (p,H',nx')=⟨env,H',nx',n⟩:=rfl
@[simp] theorem runsL_nil {s:A0b}:B0c Φ [] s K=K s:=rfl
@[simp] theorem runsL_cons:B0c Φ (⟨d,k,xs,none⟩::r) ⟨env,H,nx,n⟩ K=A1z (A0f Φ H nx k (xs.map (·.ev env))) fun q=>B0c Φ r (A0b.set ⟨env,H,nx,n⟩ d q) K:=rfl
@[simp] theorem runsL_yes {g:Nat} {want:Bool} (h:look env g=some (.t (.v (.bool want)))) :
  B0c Φ (⟨d,k,xs,some (g,want)⟩::r) ⟨env,H,nx,n⟩ K=A1z (A0f Φ H nx k (xs.map (·.ev env))) fun q=>B0c Φ r (A0b.set ⟨env,H,nx,n⟩ d q) K:=by
 simp only[B0c,B2j,Mini.wants,h,beq_self_eq_true,onWants_true]
theorem D9b {g:Nat} {want b:Bool} (h:look env g=some (.t (.v (.bool b)))) (hb:(b==want)=false) :
  B0c Φ (⟨d,k,xs,some (g,want)⟩::r) ⟨env,H,nx,n⟩ K=B0c Φ r (A0b.set ⟨env,H,nx,n⟩ d (.t (.v undef),H,nx)) K:=by
 simp only[B0c,B2j,Mini.wants,h,hb,onWants_false]
@[simp] theorem runsL_no_t {g:Nat} (h:look env g=some (.t (.v (.bool false)))) :
  B0c Φ (⟨d,k,xs,some (g,true)⟩::r) ⟨env,H,nx,n⟩ K=B0c Φ r (A0b.set ⟨env,H,nx,n⟩ d (.t (.v undef),H,nx)) K:=D9b h rfl
@[simp] theorem runsL_no_f {g:Nat} (h:look env g=some (.t (.v (.bool true)))) :
  B0c Φ (⟨d,k,xs,some (g,false)⟩::r) ⟨env,H,nx,n⟩ K=B0c Φ r (A0b.set ⟨env,H,nx,n⟩ d (.t (.v undef),H,nx)) K:=D9b h rfl
@[simp] theorem runsL_no_u {g:Nat} {want:Bool} (h:look env g=some (.t (.v undef))) :
  B0c Φ (⟨d,k,xs,some (g,want)⟩::r) ⟨env,H,nx,n⟩ K=B0c Φ r (A0b.set ⟨env,H,nx,n⟩ d (.t (.v undef),H,nx)) K:=by
 simp only[B0c,B2j,Mini.wants,h,undef,onWants_false]
@[simp] theorem runsD_nil {s:A0b}:A5v Φ [] s K=K s:=rfl
@[simp] theorem runsD_cons (hk:A0m k=true):A5v Φ (⟨d,k,xs,none⟩::r) ⟨env,H,nx,n⟩ K=A1z (A2i Φ H nx k (xs.map (·.ev env))) fun v=>A5v Φ r (A0b.set ⟨env,H,nx,n⟩ d (v,H,nx)) K:=by
 simp only[A5v,B6z,hk,if_true,Mini.wants,onWants_true]
@[simp] theorem runsD_heavy (hk:A0m k=false):A5v Φ (⟨d,k,xs,none⟩::r) ⟨env,H,nx,n⟩ K=A1z (A0f Φ H nx k (xs.map (·.ev env))) fun q=>A5v Φ r (A0b.set ⟨env,H,nx,n⟩ d q) K:=by
 simp only[A5v,B6z,hk,Bool.false_eq_true,if_false,B2j,Mini.wants,onWants_true]
@[simp] theorem runsD_yes {g:Nat} {want:Bool} (hk:A0m k=true) (h:look env g=some (.t (.v (.bool want)))) :
  A5v Φ (⟨d,k,xs,some (g,want)⟩::r) ⟨env,H,nx,n⟩ K=A1z (A2i Φ H nx k (xs.map (·.ev env))) fun v=>A5v Φ r (A0b.set ⟨env,H,nx,n⟩ d (v,H,nx)) K:=by
 simp only[A5v,B6z,hk,if_true,Mini.wants,h,beq_self_eq_true,onWants_true]
@[simp] theorem runsD_heavy_yes {g:Nat} {want:Bool} (hk:A0m k=false) (h:look env g=some (.t (.v (.bool want)))) :
  A5v Φ (⟨d,k,xs,some (g,want)⟩::r) ⟨env,H,nx,n⟩ K=A1z (A0f Φ H nx k (xs.map (·.ev env))) fun q=>A5v Φ r (A0b.set ⟨env,H,nx,n⟩ d q) K:=by
 simp only[A5v,B6z,hk,Bool.false_eq_true,if_false,B2j,Mini.wants,h,beq_self_eq_true,onWants_true]
theorem D9c {g:Nat} {want b:Bool} (h:look env g=some (.t (.v (.bool b)))) (hb:(b==want)=false) :
  A5v Φ (⟨d,k,xs,some (g,want)⟩::r) ⟨env,H,nx,n⟩ K=A5v Φ r (A0b.set ⟨env,H,nx,n⟩ d (.t (.v undef),H,nx)) K:=by
 simp only[A5v,B6z,B2j,Mini.wants,h,hb,onWants_false,ite_self]
@[simp] theorem runsD_no_t {g:Nat} (h:look env g=some (.t (.v (.bool false)))) :
  A5v Φ (⟨d,k,xs,some (g,true)⟩::r) ⟨env,H,nx,n⟩ K=A5v Φ r (A0b.set ⟨env,H,nx,n⟩ d (.t (.v undef),H,nx)) K:=D9c h rfl
@[simp] theorem runsD_no_f {g:Nat} (h:look env g=some (.t (.v (.bool true)))) :
  A5v Φ (⟨d,k,xs,some (g,false)⟩::r) ⟨env,H,nx,n⟩ K=A5v Φ r (A0b.set ⟨env,H,nx,n⟩ d (.t (.v undef),H,nx)) K:=D9c h rfl
@[simp] theorem runsD_no_u {g:Nat} {want:Bool} (h:look env g=some (.t (.v undef))) :
  A5v Φ (⟨d,k,xs,some (g,want)⟩::r) ⟨env,H,nx,n⟩ K=A5v Φ r (A0b.set ⟨env,H,nx,n⟩ d (.t (.v undef),H,nx)) K:=by
 simp only[A5v,B6z,B2j,Mini.wants,h,undef,onWants_false,ite_self]
variable {κ j b : Nat} {pd : Pend} {gr : List GI} {kp : Bool} {ag : List Nat}
@[simp] theorem agains_nil {C:Prop}:A7j Φ pd H nx [] C=C:=rfl
@[simp] theorem agains_cons {i:Nat} {r:List Nat} {C:Prop}:A7j Φ pd H nx (i::r) C=A1z (look pd i) fun x=>A2i Φ H nx x.1 x.2.1=some x.2.2/\A7j Φ pd H nx r C:=rfl
@[simp] theorem keepG_true {m:Mini} {v:PV}:B5j true j m ⟨env,H,nx,n⟩ v pd=(j,m.k,m.xs.map (·.ev env),v)::pd:=rfl
@[simp] theorem keepG_false {m:Mini} {s:A0b} {v:PV}:B5j false j m s v pd=pd:=rfl
@[simp] theorem runsG_nil {s:A0b}:A9p Φ κ j b pd [] s K=K s:=rfl
@[simp] theorem runsG_cons (hk:A0m k=true):A9p Φ κ j b pd (.o ⟨d,k,xs,none⟩ kp ag::gr) ⟨env,H,nx,n⟩ K =
  A1z (A2i Φ H nx k (xs.map (·.ev env))) fun v=>A7j Φ pd H nx ag (A9p Φ κ (j+1) b (B5j kp j ⟨d,k,xs,none⟩ ⟨env,H,nx,n⟩ v pd) gr (A0b.set ⟨env,H,nx,n⟩ d (v,H,nx)) K):=by
 simp only[A9p,valD,hk,if_true,valQ,Mini.wants,ifSome_map]
@[simp] theorem runsG_heavy (hk:A0m k=false):A9p Φ κ j b pd (.o ⟨d,k,xs,none⟩ kp ag::gr) ⟨env,H,nx,n⟩ K =
  A1z (A0f Φ H nx k (xs.map (·.ev env))) fun q=>A7j Φ pd q.2.1 q.2.2 ag (A9p Φ κ (j+1) b (B5j kp j ⟨d,k,xs,none⟩ ⟨env,H,nx,n⟩ q.1 pd) gr (A0b.set ⟨env,H,nx,n⟩ d q) K):=by
 simp only[A9p,valD,hk,Bool.false_eq_true,if_false,Mini.wants]
@[simp] theorem runsG_first {m:Mini}:A9p Φ κ j b pd (.g 0 m::gr) ⟨env,H,nx,n⟩ K =
  A1z (A0f Φ H (nx+κ) m.k (m.xs.map (·.ev env))) fun q=>A9p Φ κ (j+1) nx pd gr (A0b.set ⟨env,H,nx,n⟩ m.dst (q.1,q.2.1,nx+2*κ)) K:=rfl
@[simp] theorem runsG_more {m:Mini} {i:Nat} (hi:i≠0):A9p Φ κ j b pd (.g i m::gr) ⟨env,H,nx,n⟩ K =
  A1z (A0f Φ H (b+κ+i) m.k (m.xs.map (·.ev env))) fun q=>A9p Φ κ (j+1) b pd gr (A0b.set ⟨env,H,nx,n⟩ m.dst (q.1,q.2.1,b+2*κ)) K:=by
 simp only[A9p,if_neg hi]
@[simp] theorem runsM_drawG {l:List GI}:A5c Φ (.drawG κ l) ⟨env,H,nx,n⟩ Q=A9p Φ κ 0 0 [] l ⟨env,H,nx,n⟩ (Q .normal):=rfl
@[simp] theorem runsM_skip {s:A0b}:A5c Φ .skip s Q=Q .normal s:=rfl
@[simp] theorem runsM_ops {l:List Mini}:A5c Φ (.ops l) ⟨env,H,nx,n⟩ Q=B0c Φ l ⟨env,H,nx,n⟩ (Q .normal):=rfl
@[simp] theorem runsM_draw {l:List Mini}:A5c Φ (.draw l) ⟨env,H,nx,n⟩ Q=A5v Φ l ⟨env,H,nx,n⟩ (Q .normal):=rfl
@[simp] theorem runsM_seq {a b:A0i}:A5c Φ (.seq a b) ⟨env,H,nx,n⟩ Q=A5c Φ a ⟨env,H,nx,n⟩ (A6s (fun s1=>A5c Φ b s1 Q) Q):=rfl
@[simp] theorem runsM_true {c:Opd} {a b:A0i} (h:c.ev env = .t (.v (.bool true))):A5c Φ (.cond c a b) ⟨env,H,nx,n⟩ Q=A5c Φ a ⟨env,H,nx,n⟩ Q:=by simp only[A5c,h,onBool_true]
@[simp] theorem runsM_false {c:Opd} {a b:A0i} (h:c.ev env = .t (.v (.bool false))):A5c Φ (.cond c a b) ⟨env,H,nx,n⟩ Q=A5c Φ b ⟨env,H,nx,n⟩ Q:=by simp only[A5c,h,onBool_false]
@[simp] theorem runsM_block {i:Nat} {a:A0i}:A5c Φ (.block i a) ⟨env,H,nx,n⟩ Q=A5c Φ a ⟨env,H,nx,n⟩ (A7e i Q):=rfl
@[simp] theorem runsM_exit {i:Nat} {s:A0b}:A5c Φ (.exit i) s Q=Q (.exit i) s:=rfl
@[simp] theorem runsM_scope {a:A0i}:A5c Φ (.scope a) ⟨env,H,nx,n⟩ Q=A5c Φ a ⟨env,H,nx,n⟩ (B6x Q):=rfl
@[simp] theorem runsM_ret {s:A0b}:A5c Φ .ret s Q=Q .ret s:=rfl
@[simp] theorem endM_mk {vs:List RV} {R:T->Prop}:endM vs R ⟨env,H,nx,n⟩=A1z (resM ⟨env,H,nx,n⟩ vs) fun ps=>A1z (toT H (oneOf ps)) fun q=>R q.1:=rfl
end
end Go.Abs
