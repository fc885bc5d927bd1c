/- Auxiliary facts. -/
import Derived.Test.YtmgjopafgboljaaGreatDoorVFQ07
import Derived.KernelRfl
set_option linter.unusedSimpArgs false
set_option linter.unusedVariables false
open BitVec renaming ofInt->Xc
open Bool renaming false_eq_true->Xd
open Option renaming bind_some->Xe
namespace Go.Abs
open Go
def AQ (P:Program) (G:AM) (f:FuncId) (k N:Nat) (M:AE) (vs:List RV):Prop:=
 ∃fn,P.funcs[f]?=some fn/\(fn.name == "runtime.NumGoroutine")=false/\fn.body.bind (comp P G N)=some M/\fn.results.toList.mapM (GY P)=some vs/\k+(fn.ntmps-k)=N
theorem AQ.call {P:Program} {G:AM} {f:FuncId} {k N:Nat} {M:AE} {vs:List RV} (h:AQ P G f k N M vs) {args:List T} (hk:args.length=k) {R:T->Prop}
  (hm:MC P G 0 N M (Lr vs R) (IH N args)):Bc P G f args R:=by
 obtain⟨fn,hf,hn,hb,hr,hN⟩:=h
 cases hbody:fn.body with
 | none=>rw[hbody]at hb;cases hb
 | some c=>
  rw[hbody]at hb;exact j0 hf hbody hn hb hr (by rw[hk];exact hN) hm
theorem AQ.callP {P:Program} {G:AM} {f:FuncId} {k N:Nat} {M:AE} {vs:List RV} (h:AQ P G f k N M vs) {ps:List PV} {H H':Ak} {nx nx':Nat} {r:PV} (hk:ps.length=k)
  (hm:MC P G nx N M (II P G nx vs λr0 H0 nx0=>r0=r/\H0=H'/\nx0=nx') ⟨IJ 0 ps,H,nx,N⟩):B3 P G f ps H nx r H' nx':=by
 obtain⟨fn,hf,hn,hb,hr,hN⟩:=h
 cases hbody:fn.body with
 | none=>rw[hbody]at hb;cases hb
 | some c=>
  rw[hbody]at hb;exact j5 hf hbody hn hb hr (by rw[hk];exact hN) hm
def B6 {α:Type} (x:Option α) (K:α->Prop):Prop:=
 match x with
 | some a=>K a
 | none=>False
@[simp] theorem j6 {α:Type} (a:α) (K:α->Prop):B6 (some a) K=K a:=rfl
@[simp] theorem A2i {α:Type} (K:α->Prop):B6 (none:Option α) K=False:=rfl
@[simp] theorem T3 {α β:Type} (x:Option α) (f:α->β) (K:β->Prop):B6 (x.map f) K=B6 x λa=>K (f a):=by cases x<;>rfl
theorem GZ {α:Type} {x:Option α} {K:α->Prop} (h:B6 x K):∃a,x=some a/\K a:=by
 cases x with
 | none=>exact h.elim
 | some a=>exact⟨a,rfl,h⟩
def Ls (x:Option Bool) (yes no:Prop):Prop:=
 match x with
 | some true=>yes
 | some false=>no
 | none=>False
@[simp] theorem IK (yes no:Prop):Ls (some true) yes no=yes:=rfl
@[simp] theorem HY (yes no:Prop):Ls (some false) yes no=no:=rfl
def Am.set (s:Am) (d:Option Nat) (q:PV×Ak×Nat):Am:=
 match d with
 | some k=>⟨(k,q.1)::s.env,q.2.1,q.2.2,s.n⟩
 | none=>⟨s.env,q.2.1,q.2.2,s.n⟩
theorem Hi (s:Am) (d:Option Nat) (r:PV) (H:Ak) (nx:Nat):s.set d (r,H,nx)=({ s with H:=H,nx:=nx }:Am).put d r:=by cases d<;>rfl
def FR (Φ:AP) (s:Am) (m:AF) (K:Am->Prop):Prop:=
 Ls (m.wants s.env) (B6 (A0 Φ s.H s.nx m.k (m.xs.map (·.ev s.env))) λq=>K (s.set m.dst q)) (K (s.set m.dst (.t (.v undef),s.H,s.nx)))
def Dg (Φ:AP):List AF->Am->(Am->Prop)->Prop
 | [],s,K=>K s
 | m::r,s,K=>FR Φ s m λs'=>Dg Φ r s' K
def Hj (Φ:AP) (s:Am) (m:AF) (K:Am->Prop):Prop:=
 if AL m.k then Ls (m.wants s.env) (B6 (Bi Φ s.H s.nx m.k (m.xs.map (·.ev s.env))) λv=>K (s.set m.dst (v,s.H,s.nx))) (K (s.set m.dst (.t (.v undef),s.H,s.nx)))
 else FR Φ s m K
def Cn (Φ:AP):List AF->Am->(Am->Prop)->Prop
 | [],s,K=>K s
 | m::r,s,K=>Hj Φ s m λs'=>Cn Φ r s' K
def Ft (Φ:AP) (pd:En) (H:Ak) (nx:Nat):List Nat->Prop->Prop
 | [],K=>K
 | i::r,K=>B6 (Aj pd i) λx=>Bi Φ H nx x.1 x.2.1=some x.2.2/\Ft Φ pd H nx r K
def Dq (Φ:AP) (k:Nat):Nat->Nat->En->List GI->Am->(Am->Prop)->Prop
 | _,_,_,[],s,K=>K s
 | n,b,pd,.o m kp ag::r,s,K=>B6 (Gw Φ s m) λq=>Ft Φ pd q.2.1 q.2.2 ag (Dq Φ k (n+1) b (Fq kp n m s q.1 pd) r (s.set m.dst q) K)
 | n,b,pd,.g j m::r,s,K=>B6 (A0 Φ s.H ((if j=0 then s.nx else b)+k+j) m.k (m.xs.map (·.ev s.env))) λq=>Dq Φ k (n+1) (if j=0 then s.nx else b) pd r (s.set m.dst (q.1,q.2.1,(if j=0 then s.nx else b)+2*k)) K
def Gy (K:Am->Prop) (Q:Exit->Am->Prop):Exit->Am->Prop
 | .normal,s=>K s
 | e,s=>Q e s
@[simp] theorem A2j (K:Am->Prop) (Q:Exit->Am->Prop) (s:Am):Gy K Q .normal s=K s:=rfl
@[simp] theorem A2k (K:Am->Prop) (Q:Exit->Am->Prop) (s:Am):Gy K Q .ret s=Q .ret s:=rfl
@[simp] theorem A2l (K:Am->Prop) (Q:Exit->Am->Prop) (i:Nat) (s:Am):Gy K Q (.exit i) s=Q (.exit i) s:=rfl
@[simp] theorem A2m (i:Nat) (Q:Exit->Am->Prop) (s:Am):EV i Q .normal s=Q .normal s:=rfl
@[simp] theorem A2n (i:Nat) (Q:Exit->Am->Prop) (s:Am):EV i Q .ret s=Q .ret s:=rfl
@[simp] theorem Lt (i j:Nat) (Q:Exit->Am->Prop) (s:Am):EV i Q (.exit j) s=if j=i then Q .normal s else Q (.exit j) s:=rfl
@[simp] theorem A2o (Q:Exit->Am->Prop) (s:Am):GX Q .normal s=Q .normal s:=rfl
@[simp] theorem A2p (Q:Exit->Am->Prop) (s:Am):GX Q .ret s=Q .ret s:=rfl
@[simp] theorem A2q (i:Nat) (Q:Exit->Am->Prop) (s:Am):GX Q (.exit i) s=Q (.exit i) s:=rfl
def Lu (p:PV) (yes no:Prop):Prop:=
 match p with
 | .t (.v (.bool true))=>yes
 | .t (.v (.bool false))=>no
 | _=>False
@[simp] theorem T4 (yes no:Prop):Lu (.t (.v (.bool true))) yes no=yes:=rfl
@[simp] theorem T5 (yes no:Prop):Lu (.t (.v (.bool false))) yes no=no:=rfl
def BT (Φ:AP):AE->Am->(Exit->Am->Prop)->Prop
 | .skip,s,Q=>Q .normal s
 | .ops l,s,Q=>Dg Φ l s (Q .normal)
 | .draw l,s,Q=>Cn Φ l s (Q .normal)
 | .drawG k l,s,Q=>Dq Φ k 0 0 [] l s (Q .normal)
 | .drawE l,s,Q=>Dq Φ 0 0 0 [] l s (Q .normal)
 | .seq a b,s,Q=>BT Φ a s (Gy (λs1=>BT Φ b s1 Q) Q)
 | .cond c a b,s,Q=>Lu (c.ev s.env) (BT Φ a s Q) (BT Φ b s Q)
 | .block id b,s,Q=>BT Φ b s (EV id Q)
 | .loop _,_,_=>False
 | .exit id,s,Q=>Q (.exit id) s
 | .ret,s,Q=>Q .ret s
 | .scope b,s,Q=>BT Φ b s (GX Q)
section
variable {P : Program} {G : AM} {B N : Nat} {Φ : AP}
theorem T6 {s:Am} {m:AF} {K:Am->Prop} (h:FR Φ s m K):∃s',HS Φ s m=some s'/\K s':=by
 unfold FR at h;unfold HS
 cases hw:m.wants s.env with
 | none=>rw[hw]at h;exact h.elim
 | some b=>
  rw[hw]at h
  cases b with
  | true=>
   obtain⟨⟨r,H',nx'⟩,hq,hk⟩:=GZ h;exact⟨_,by simp only[hq];rfl,by rw[Hi]at hk;exact hk⟩
  | false=>exact⟨_,rfl,by simp only[HY,Hi]at h;exact h⟩
theorem Ng:∀{l:List AF} {s:Am} {K:Am->Prop},Dg Φ l s K->∃s',Gu Φ l s=some s'/\K s'
 | [],s,K,h=>⟨s,rfl,h⟩
 | m::r,s,K,h=>by
  obtain⟨s1,h1,h2⟩:=T6 h;obtain⟨s2,h3,h4⟩:=Ng h2;exact⟨s2,by simp only[Gu,h1,h3],h4⟩
theorem j7 {s:Am} {m:AF} {K:Am->Prop} (h:Hj Φ s m K):∃s',Lh Φ s m=some s'/\K s':=by
 unfold Hj at h;unfold Lh;split at h
 .rename_i hq;rw[zu hq];unfold HT
  cases hw:m.wants s.env with
  | none=>rw[hw]at h;exact h.elim
  | some b=>
   rw[hw]at h
   cases b with
   | true=>
    obtain⟨v,hv,hk⟩:=GZ h;exact⟨_,by simp only[hv];rfl,by rw[Hi]at hk;exact hk⟩
   | false=>exact⟨_,rfl,by simp only[HY,Hi]at h;exact h⟩
 .rename_i hq;rw[zw hq];exact T6 h
theorem T7:∀{l:List AF} {s:Am} {K:Am->Prop},Cn Φ l s K->∃s',FQ Φ l s=some s'/\K s'
 | [],s,K,h=>⟨s,rfl,h⟩
 | m::r,s,K,h=>by
  obtain⟨s1,h1,h2⟩:=j7 h;obtain⟨s2,h3,h4⟩:=T7 h2;exact⟨s2,by simp only[FQ,h1,h3],h4⟩
theorem T8 {pd:En} {H:Ak} {nx:Nat} {K:Prop}:∀{ks:List Nat},Ft Φ pd H nx ks K->Pl Φ pd H nx ks/\K
 | [],h=>⟨λi hi=>by simp at hi,h⟩
 | i::r,h=>by
  obtain⟨x,hx,he,hr⟩:=GZ h;obtain⟨h1,h2⟩:=T8 hr;refine⟨λj hj=>?_,h2⟩;rcases List.mem_cons.1 hj with rfl | hj
  .exact⟨x,hx,he⟩
  .exact h1 j hj
theorem Nh {k:Nat}:∀(l:List GI) {n b:Nat} {pd:En} {s:Am} {K:Am->Prop},Dq Φ k n b pd l s K->∃s',Ea Φ k n b pd l s=some s'/\K s'
 | [],n,b,pd,s,K,h=>⟨s,rfl,h⟩
 | .o m kp ag::r,n,b,pd,s,K,h=>by
  obtain⟨⟨v,H',nx'⟩,hv,hk⟩:=GZ h;obtain⟨h1,h2⟩:=T8 hk;rw[Hi]at h2;obtain⟨s',h3,h4⟩:=Nh r h2;exact⟨s',by simp only[Ea,hv,zu h1,h3],h4⟩
 | .g j m::r,n,b,pd,s,K,h=>by
  obtain⟨⟨v,H',nx'⟩,hv,hk⟩:=GZ h;rw[Hi]at hk;obtain⟨s',h3,h4⟩:=Nh r hk;exact⟨s',by simp only[Ea,hv,h3],h4⟩
theorem Gz:∀(M:AE) {s:Am} {Q:Exit->Am->Prop},BT Φ M s Q->∃e s',B2 Φ M s=some (e,s')/\Q e s'
 | .skip,s,Q,h=>⟨_,_,rfl,h⟩
 | .ops l,s,Q,h=>by
  obtain⟨s1,h1,h2⟩:=Ng h;exact⟨_,s1,by simp only[B2,h1],h2⟩
 | .draw l,s,Q,h=>by
  obtain⟨s1,h1,h2⟩:=T7 h;exact⟨_,s1,by simp only[B2,h1],h2⟩
 | .drawG k l,s,Q,h=>by
  obtain⟨s1,h1,h2⟩:=Nh l h;exact⟨_,s1,by simp only[B2,h1],h2⟩
 | .drawE l,s,Q,h=>by
  obtain⟨s1,h1,h2⟩:=Nh l h;exact⟨_,s1,by simp only[B2,h1],h2⟩
 | .seq a b,s,Q,h=>by
  obtain⟨e,s1,h1,h2⟩:=Gz a h;cases e
  case normal=>
   obtain⟨e2,s2,h3,h4⟩:=Gz b h2;exact⟨e2,s2,by simp only[B2,h1,h3],h4⟩
  all_goals exact⟨_,s1,by simp only[B2,h1],h2⟩
 | .cond c a b,s,Q,h=>by
  simp only[BT]at h;unfold Lu at h;split at h
  .rename_i hc;obtain⟨e,s1,h1,h2⟩:=Gz a h;exact⟨e,s1,by simp only[B2,hc,cond_true,h1],h2⟩
  .rename_i hc;obtain⟨e,s1,h1,h2⟩:=Gz b h;exact⟨e,s1,by simp only[B2,hc,cond_false,h1],h2⟩
  .exact h.elim
 | .block id b,s,Q,h=>by
  obtain⟨e,s1,h1,h2⟩:=Gz b h;cases e
  case exit i=>
   simp only[Lt]at h2;by_cases hi:i=id
   .rw[zu hi]at h2;exact⟨.normal,s1,by simp only[B2,h1,zu hi],h2⟩
   .rw[zw hi]at h2;exact⟨.exit i,s1,by simp only[B2,h1,zw hi],h2⟩
  all_goals exact⟨_,s1,by simp only[B2,h1],h2⟩
 | .loop _,s,Q,h=>h.elim
 | .exit id,s,Q,h=>⟨_,_,rfl,h⟩
 | .ret,s,Q,h=>⟨_,_,rfl,h⟩
 | .scope b,s,Q,h=>by
  obtain⟨e,s1,h1,h2⟩:=Gz b h;cases e
  case goto l=>exact h2.elim
  all_goals exact⟨_,s1,by simp only[B2,h1],h2⟩
theorem A8 (hΦ:Ctx P G Φ) {M:AE} {s:Am} {Q:Exit->Am->Prop} (h:BT Φ M s Q):MC P G B N M Q s:=by
 obtain⟨e,s',h1,h2⟩:=Gz M h;exact Fa hΦ M h1 h2
theorem Ao (hΦ:Ctx P G Φ) {a b:AE} {s:Am} {Q:Exit->Am->Prop} (h:BT Φ a s (Gy (λs1=>MC P G B N b Q s1) Q)):MC P G B N (.seq a b) Q s:=by
 obtain⟨e,s',h1,h2⟩:=Gz a h;intro c hc hn;refine JG ?_ c hc hn;refine Fa hΦ a h1 ?_;cases e
 case normal=>exact⟨(Fs a h1).trans hn,h2⟩
 all_goals exact h2
theorem AQ.runs {f:FuncId} {k:Nat} {M:AE} {vs:List RV} (h:AQ P G f k N M vs) (hΦ:Ctx P G Φ) {args:List T} (hk:args.length=k) {R:T->Prop}
 (hm:BT Φ M (IH N args) (Lr vs R)):Bc P G f args R:=h.call hk (A8 hΦ hm)
def Pv (vs:List RV) (R:T->Prop) (s:Am):Prop:=B6 (EG s vs) λps=>B6 (toT s.H (Df ps)) λq=>R q.1
@[simp] theorem A2r {vs:List RV} {R:T->Prop} {s:Am}:Lr vs R .ret s=Pv vs R s:=by
 apply propext;constructor
 .rintro⟨_,ps,r,F,h1,h2,h3⟩;unfold Pv;rw[h1,j6,h2];exact h3
 .intro h;obtain⟨ps,h1,h⟩:=GZ h;obtain⟨q,h2,h3⟩:=GZ h;exact⟨.inr rfl,ps,q.1,q.2,h1,h2,h3⟩
end
section
variable {Φ : AP} {H : Ak} {nx : Nat}
@[simp] theorem A2s  (x:PV):A0 Φ H nx .mv [x]=some (x,H,nx):=rfl
@[simp] theorem A2t  : AL .mv=true:=rfl
@[simp] theorem A2u  (ps:List PV):Bi Φ H nx .mv ps=(A0 Φ H nx .mv ps).map (·.1):=rfl
@[simp] theorem A2v (op:UnOp) (a:Value):A0 Φ H nx (.un op) [.t (.v a)]=(unV op a).map λv=>(.t (.v v),H,nx):=rfl
@[simp] theorem A2w (op:UnOp):AL (.un op)=true:=rfl
@[simp] theorem A2x (op:UnOp) (ps:List PV):Bi Φ H nx (.un op) ps=(A0 Φ H nx (.un op) ps).map (·.1):=rfl
@[simp] theorem A2y (k:Option IntKind) (x:PV):A0 Φ H nx (.conv k) [x]=(MU k x).map λr=>(r,H,nx):=rfl
@[simp] theorem A2z (k:Option IntKind):AL (.conv k)=true:=rfl
@[simp] theorem A3a (k:Option IntKind) (ps:List PV):Bi Φ H nx (.conv k) ps=(A0 Φ H nx (.conv k) ps).map (·.1):=rfl
@[simp] theorem A3b (agg:Bool) (n:Nat) (x:PV):A0 Φ H nx (.load agg n) [x]=(AD agg n H x).map λr=>(r,H,nx):=rfl
@[simp] theorem A3c (agg:Bool) (n:Nat):AL (.load agg n)=true:=rfl
@[simp] theorem A3d (agg:Bool) (n:Nat) (ps:List PV):Bi Φ H nx (.load agg n) ps=(A0 Φ H nx (.load agg n) ps).map (·.1):=rfl
@[simp] theorem A3e (off:Nat) (x:PV):A0 Φ H nx (.faddr off) [x]=(MS off x).map λr=>(r,H,nx):=rfl
@[simp] theorem A3f (off:Nat):AL (.faddr off)=true:=rfl
@[simp] theorem A3g (off:Nat) (ps:List PV):Bi Φ H nx (.faddr off) ps=(A0 Φ H nx (.faddr off) ps).map (·.1):=rfl
@[simp] theorem A3h (off:Nat) (agg:Bool) (n:Nat) (x:PV):A0 Φ H nx (.field off agg n) [x]=(MT off agg n x).map λr=>(r,H,nx):=rfl
@[simp] theorem A3i (off:Nat) (agg:Bool) (n:Nat):AL (.field off agg n)=true:=rfl
@[simp] theorem A3j (off:Nat) (agg:Bool) (n:Nat) (ps:List PV):Bi Φ H nx (.field off agg n) ps=(A0 Φ H nx (.field off agg n) ps).map (·.1):=rfl
@[simp] theorem A3k (z:Nat) (x:PV) (i:PV):A0 Φ H nx (.iaddr z) [x,i]=(BN z x i).map λr=>(r,H,nx):=rfl
@[simp] theorem A3l (z:Nat):AL (.iaddr z)=true:=rfl
@[simp] theorem A3m (z:Nat) (ps:List PV):Bi Φ H nx (.iaddr z) ps=(A0 Φ H nx (.iaddr z) ps).map (·.1):=rfl
@[simp] theorem A3n (n z:Nat) (x:PV) (i:PV):A0 Φ H nx (.aaddr n z) [x,i]=(Gt n z x i).map λr=>(r,H,nx):=rfl
@[simp] theorem A3o (n z:Nat):AL (.aaddr n z)=true:=rfl
@[simp] theorem A3p (n z:Nat) (ps:List PV):Bi Φ H nx (.aaddr n z) ps=(A0 Φ H nx (.aaddr n z) ps).map (·.1):=rfl
@[simp] theorem A3q  (x:PV) (i:PV):A0 Φ H nx .index [x,i]=(HR x i).map λr=>(r,H,nx):=rfl
@[simp] theorem A3r  : AL .index=true:=rfl
@[simp] theorem A3s  (ps:List PV):Bi Φ H nx .index ps=(A0 Φ H nx .index ps).map (·.1):=rfl
@[simp] theorem A3t  (x:PV):A0 Φ H nx (.slstr false false) [x]=(ED x none none).map λr=>(r,H,nx):=rfl
@[simp] theorem A3u  : AL (.slstr false false)=true:=rfl
@[simp] theorem A3v  (ps:List PV):Bi Φ H nx (.slstr false false) ps=(A0 Φ H nx (.slstr false false) ps).map (·.1):=rfl
@[simp] theorem A3w  (x:PV) (i:PV):A0 Φ H nx (.slstr true false) [x,i]=(ED x (some i) none).map λr=>(r,H,nx):=rfl
@[simp] theorem A3x  : AL (.slstr true false)=true:=rfl
@[simp] theorem A3y  (ps:List PV):Bi Φ H nx (.slstr true false) ps=(A0 Φ H nx (.slstr true false) ps).map (·.1):=rfl
@[simp] theorem A3z  (x:PV) (i:PV):A0 Φ H nx (.slstr false true) [x,i]=(ED x none (some i)).map λr=>(r,H,nx):=rfl
@[simp] theorem A4a  : AL (.slstr false true)=true:=rfl
@[simp] theorem A4b  (ps:List PV):Bi Φ H nx (.slstr false true) ps=(A0 Φ H nx (.slstr false true) ps).map (·.1):=rfl
@[simp] theorem A4c  (x:PV) (i:PV) (j:PV):A0 Φ H nx (.slstr true true) [x,i,j]=(ED x (some i) (some j)).map λr=>(r,H,nx):=rfl
@[simp] theorem A4d  : AL (.slstr true true)=true:=rfl
@[simp] theorem A4e  (ps:List PV):Bi Φ H nx (.slstr true true) ps=(A0 Φ H nx (.slstr true true) ps).map (·.1):=rfl
@[simp] theorem A4f (z:Nat) (x:PV):A0 Φ H nx (.slice z false false) [x]=(EE z x none none).map λr=>(r,H,nx):=rfl
@[simp] theorem A4g (z:Nat):AL (.slice z false false)=true:=rfl
@[simp] theorem A4h (z:Nat) (ps:List PV):Bi Φ H nx (.slice z false false) ps=(A0 Φ H nx (.slice z false false) ps).map (·.1):=rfl
@[simp] theorem A4i (z:Nat) (x:PV) (i:PV):A0 Φ H nx (.slice z true false) [x,i]=(EE z x (some i) none).map λr=>(r,H,nx):=rfl
@[simp] theorem A4j (z:Nat):AL (.slice z true false)=true:=rfl
@[simp] theorem A4k (z:Nat) (ps:List PV):Bi Φ H nx (.slice z true false) ps=(A0 Φ H nx (.slice z true false) ps).map (·.1):=rfl
@[simp] theorem A4l (z:Nat) (x:PV) (i:PV):A0 Φ H nx (.slice z false true) [x,i]=(EE z x none (some i)).map λr=>(r,H,nx):=rfl
@[simp] theorem A4m (z:Nat):AL (.slice z false true)=true:=rfl
@[simp] theorem A4n (z:Nat) (ps:List PV):Bi Φ H nx (.slice z false true) ps=(A0 Φ H nx (.slice z false true) ps).map (·.1):=rfl
@[simp] theorem A4o (z:Nat) (x:PV) (i:PV) (j:PV):A0 Φ H nx (.slice z true true) [x,i,j]=(EE z x (some i) (some j)).map λr=>(r,H,nx):=rfl
@[simp] theorem A4p (z:Nat):AL (.slice z true true)=true:=rfl
@[simp] theorem A4q (z:Nat) (ps:List PV):Bi Φ H nx (.slice z true true) ps=(A0 Φ H nx (.slice z true true) ps).map (·.1):=rfl
@[simp] theorem A4r (n:Nat) (x:PV):A0 Φ H nx (.ext n) [x]=(B5 x n).map λr=>(r,H,nx):=rfl
@[simp] theorem A4s (n:Nat):AL (.ext n)=true:=rfl
@[simp] theorem A4t (n:Nat) (ps:List PV):Bi Φ H nx (.ext n) ps=(A0 Φ H nx (.ext n) ps).map (·.1):=rfl
@[simp] theorem A4u  (x:PV):A0 Φ H nx .chk [x]=(Pk x).map λr=>(r,H,nx):=rfl
@[simp] theorem A4v  : AL .chk=true:=rfl
@[simp] theorem A4w  (ps:List PV):Bi Φ H nx .chk ps=(A0 Φ H nx .chk ps).map (·.1):=rfl
@[simp] theorem A4x  (x:PV):A0 Φ H nx .lenstr [x]=(Pj x).map λr=>(r,H,nx):=rfl
@[simp] theorem A4y  : AL .lenstr=true:=rfl
@[simp] theorem A4z  (ps:List PV):Bi Φ H nx .lenstr ps=(A0 Φ H nx .lenstr ps).map (·.1):=rfl
@[simp] theorem A5a  (x:PV):A0 Φ H nx .lensl [x]=(CV x).map λr=>(r,H,nx):=rfl
@[simp] theorem A5b  : AL .lensl=true:=rfl
@[simp] theorem A5c  (ps:List PV):Bi Φ H nx .lensl ps=(A0 Φ H nx .lensl ps).map (·.1):=rfl
@[simp] theorem A5d  (x:PV) (i:PV):A0 Φ H nx .min [x,i]=(KL x i).map λr=>(r,H,nx):=rfl
@[simp] theorem A5e  : AL .min=true:=rfl
@[simp] theorem A5f  (ps:List PV):Bi Φ H nx .min ps=(A0 Φ H nx .min ps).map (·.1):=rfl
@[simp] theorem A5g  (x:PV) (i:PV):A0 Φ H nx .max [x,i]=(I9 x i).map λr=>(r,H,nx):=rfl
@[simp] theorem A5h  : AL .max=true:=rfl
@[simp] theorem A5i  (ps:List PV):Bi Φ H nx .max ps=(A0 Φ H nx .max ps).map (·.1):=rfl
@[simp] theorem A5j (n:Nat) (x:PV) (i:PV):A0 Φ H nx (.store n) [x,i]=(AO n H x i).map λH'=>(.t (.v undef),H',nx):=rfl
@[simp] theorem A5k (n:Nat):AL (.store n)=false:=rfl
@[simp] theorem A5l (e n b:Nat) (zc:List Value) (x:PV) (i:PV):A0 Φ H nx (.make e n b zc) [x,i]=(IF e n b zc x i nx).map λq=>(q.1,(nx,q.2)::H,nx+1):=rfl
@[simp] theorem A5m (e n b:Nat) (zc:List Value):AL (.make e n b zc)=false:=rfl
@[simp] theorem A5n (e n:Nat) (zc:List Value) (len:Nat) (idx:List Nat) (ps:List PV):A0 Φ H nx (.bslice e n zc len idx) ps=(BB e n zc len (idx.zip ps) nx).map λq=>(q.1,(nx,q.2)::H,nx+1):=rfl
@[simp] theorem A5o (e n:Nat) (zc:List Value) (len:Nat) (idx:List Nat)  : AL (.bslice e n zc len idx)=false:=rfl
@[simp] theorem BU (places:List (Nat×Nat)) (zc:List Value) (idx:List Nat) (ps:List PV):A0 Φ H nx (.build places zc idx) ps=(Ek (λk=>places[k]?) (zc.map λx=>.t (.v x)) (idx.zip ps)).map λcs=>(BI cs,H,nx):=rfl
@[simp] theorem A5p (places:List (Nat×Nat)) (zc:List Value) (idx:List Nat)  : AL (.build places zc idx)=true:=rfl
@[simp] theorem A5q (places:List (Nat×Nat)) (zc:List Value) (idx:List Nat)  (ps:List PV):Bi Φ H nx (.build places zc idx) ps=(A0 Φ H nx (.build places zc idx) ps).map (·.1):=rfl
@[simp] theorem HZ (n:Nat) (zc:List Value) (idx:List Nat) (ps:List PV):A0 Φ H nx (.barr n zc idx) ps=(Ek (λk=>some (k*n,n)) (zc.map λx=>.t (.v x)) (idx.zip ps)).map λcs=>(BI cs,H,nx):=rfl
@[simp] theorem A5r (n:Nat) (zc:List Value) (idx:List Nat)  : AL (.barr n zc idx)=true:=rfl
@[simp] theorem A5s (n:Nat) (zc:List Value) (idx:List Nat)  (ps:List PV):Bi Φ H nx (.barr n zc idx) ps=(A0 Φ H nx (.barr n zc idx) ps).map (·.1):=rfl
@[simp] theorem A5t (t:Nat) (x:PV):A0 Φ H nx (.box t) [x]=(Bq x).map λps=>(.ptr nx 0,(nx,.cells t ps)::H,nx+1):=rfl
@[simp] theorem A5u (t:Nat):AL (.box t)=false:=rfl
@[simp] theorem A5v (t:Nat) (zc:List Value)  : A0 Φ H nx (.alloc t zc) []=some (.ptr nx 0,(nx,.cells t (zc.map λx=>.t (.v x)))::H,nx+1):=rfl
@[simp] theorem A5w (t:Nat) (zc:List Value):AL (.alloc t zc)=false:=rfl
@[simp] theorem A5x (e z b:Nat) (x:PV) (i:PV):A0 Φ H nx (.app e z b) [x,i]=Dp e z b H nx x i:=rfl
@[simp] theorem A5y (e z b:Nat):AL (.app e z b)=false:=rfl
@[simp] theorem A5z (isB:Bool) (op:BinOp) (nk:Option NK):AL (.bin isB op nk)=true:=rfl
@[simp] theorem A6a (isB:Bool) (op:BinOp) (nk:Option NK) (ps:List PV):Bi Φ H nx (.bin isB op nk) ps=(A0 Φ H nx (.bin isB op nk) ps).map (·.1):=rfl
@[simp] theorem A6b  : AL .pick=true:=rfl
@[simp] theorem A6c  (ps:List PV):Bi Φ H nx .pick ps=(A0 Φ H nx .pick ps).map (·.1):=rfl
@[simp] theorem A6d (f:Nat):AL (.call f)=true:=rfl
@[simp] theorem A6e (t:Bool) (a b:PV):A0 Φ H nx .pick [.t (.v (.bool t)),a,b]=some (bif t then a else b,H,nx):=rfl
@[simp] theorem A6f (isB:Bool) (nk:Option NK) (k:IntKind) (a b:Int):A0 Φ H nx (.bin isB .add nk) [.t (.v (.int k a)),.t (.v (.int k b))]=some (.t (.v (.int k (k.wrap (a+b)))),H,nx):=by simp[A0,D6]
@[simp] theorem A6g (isB:Bool) (nk:Option NK) (k:IntKind) (a b:Int):A0 Φ H nx (.bin isB .sub nk) [.t (.v (.int k a)),.t (.v (.int k b))]=some (.t (.v (.int k (k.wrap (a-b)))),H,nx):=by simp[A0,D6]
@[simp] theorem A6h (isB:Bool) (nk:Option NK) (k:IntKind) (a b:Int):A0 Φ H nx (.bin isB .mul nk) [.t (.v (.int k a)),.t (.v (.int k b))]=some (.t (.v (.int k (k.wrap (a*b)))),H,nx):=by simp[A0,D6]
@[simp] theorem Ni (isB:Bool) (nk:Option NK) (k:IntKind) (a b:Int):A0 Φ H nx (.bin isB .and nk) [.t (.v (.int k a)),.t (.v (.int k b))]=some (.t (.v (.int k (k.wrap (Xc k.bits a&&&Xc k.bits b).toNat))),H,nx):=by simp[A0,D6]
@[simp] theorem A6i (isB:Bool) (nk:Option NK) (k:IntKind) (a b:Int):A0 Φ H nx (.bin isB .or nk) [.t (.v (.int k a)),.t (.v (.int k b))]=some (.t (.v (.int k (k.wrap (Xc k.bits a|||Xc k.bits b).toNat))),H,nx):=by simp[A0,D6]
@[simp] theorem A6j (isB:Bool) (nk:Option NK) (k:IntKind) (a b:Int):A0 Φ H nx (.bin isB .xor nk) [.t (.v (.int k a)),.t (.v (.int k b))]=some (.t (.v (.int k (k.wrap (Xc k.bits a ^^^ Xc k.bits b).toNat))),H,nx):=by simp[A0,D6]
@[simp] theorem A6k (isB:Bool) (nk:Option NK) (k:IntKind) (a b:Int):A0 Φ H nx (.bin isB .andNot nk) [.t (.v (.int k a)),.t (.v (.int k b))]=some (.t (.v (.int k (k.wrap (Xc k.bits a &&& ~~~ (Xc k.bits b)).toNat))),H,nx):=by simp[A0,D6]
@[simp] theorem A6l (isB:Bool) (nk:Option NK) (k:IntKind) (a b:Int):A0 Φ H nx (.bin isB .eql nk) [.t (.v (.int k a)),.t (.v (.int k b))]=some (.t (.v (.bool (a==b))),H,nx):=by simp[A0,D6]
@[simp] theorem A6m (isB:Bool) (nk:Option NK) (k:IntKind) (a b:Int):A0 Φ H nx (.bin isB .neq nk) [.t (.v (.int k a)),.t (.v (.int k b))]=some (.t (.v (.bool (a != b))),H,nx):=by simp[A0,D6]
@[simp] theorem A6n (isB:Bool) (nk:Option NK) (k:IntKind) (a b:Int):A0 Φ H nx (.bin isB .lss nk) [.t (.v (.int k a)),.t (.v (.int k b))]=some (.t (.v (.bool (decide (a<b)))),H,nx):=by simp[A0,D6]
@[simp] theorem A6o (isB:Bool) (nk:Option NK) (k:IntKind) (a b:Int):A0 Φ H nx (.bin isB .leq nk) [.t (.v (.int k a)),.t (.v (.int k b))]=some (.t (.v (.bool (decide (a<=b)))),H,nx):=by simp[A0,D6]
@[simp] theorem A6p (isB:Bool) (nk:Option NK) (k:IntKind) (a b:Int):A0 Φ H nx (.bin isB .gtr nk) [.t (.v (.int k a)),.t (.v (.int k b))]=some (.t (.v (.bool (decide (b<a)))),H,nx):=by simp[A0,D6]
@[simp] theorem A6q (isB:Bool) (nk:Option NK) (k:IntKind) (a b:Int):A0 Φ H nx (.bin isB .geq nk) [.t (.v (.int k a)),.t (.v (.int k b))]=some (.t (.v (.bool (decide (b<=a)))),H,nx):=by simp[A0,D6]
@[simp] theorem A6r (isB:Bool) (nk:Option NK) (k:IntKind) (a b:Int) (h:¬b=0):A0 Φ H nx (.bin isB .quo nk) [.t (.v (.int k a)),.t (.v (.int k b))]=some (.t (.v (.int k (k.wrap (a.tdiv b)))),H,nx):=by simp[A0,D6,h]
@[simp] theorem A6s (isB:Bool) (nk:Option NK) (k:IntKind) (a b:Int) (h:¬b=0):A0 Φ H nx (.bin isB .rem nk) [.t (.v (.int k a)),.t (.v (.int k b))]=some (.t (.v (.int k (a.tmod b))),H,nx):=by simp[A0,D6,h]
@[simp] theorem A6t (isB:Bool) (nk:Option NK) (k k':IntKind) (a b:Int) (h:¬b<0):A0 Φ H nx (.bin isB .shl nk) [.t (.v (.int k a)),.t (.v (.int k' b))]=some (.t (.v (.int k (k.wrap (a*2^(min b.toNat k.bits))))),H,nx):=by simp[A0,D6,h]
@[simp] theorem A6u (isB:Bool) (nk:Option NK) (k k':IntKind) (a b:Int) (h:¬b<0):A0 Φ H nx (.bin isB .shr nk) [.t (.v (.int k a)),.t (.v (.int k' b))]=some (.t (.v (.int k (a.fdiv (2^(min b.toNat k.bits))))),H,nx):=by simp[A0,D6,h]
@[simp] theorem A6v (isB:Bool) (nk:Option NK) (a b:ByteArray):A0 Φ H nx (.bin isB .eql nk) [.t (.v (.string a)),.t (.v (.string b))]=some (.t (.v (.bool (a.toList==b.toList))),H,nx):=rfl
@[simp] theorem A6w (isB:Bool) (nk:Option NK) (a b:ByteArray):A0 Φ H nx (.bin isB .neq nk) [.t (.v (.string a)),.t (.v (.string b))]=some (.t (.v (.bool (!(a.toList==b.toList)))),H,nx):=rfl
@[simp] theorem A6x (nk:Option NK) (a b:Bool):A0 Φ H nx (.bin true .eql nk) [.t (.v (.bool a)),.t (.v (.bool b))]=some (.t (.v (.bool (a==b))),H,nx):=rfl
@[simp] theorem A6y (nk:Option NK) (a b:Bool):A0 Φ H nx (.bin true .neq nk) [.t (.v (.bool a)),.t (.v (.bool b))]=some (.t (.v (.bool (!(a==b)))),H,nx):=rfl
@[simp] theorem CW (f:Nat) (ps:List PV):A0 Φ H nx (.call f) ps=(Bn H ps).bind λq=>(Φ f q.1).map λr=>(.t r,if q.2.isEmpty then H else if De r then H else Ez H q.2,nx):=by
 simp only[A0]
 cases Bn H ps with
 | none=>rfl
 | some q=>obtain⟨a,b⟩:=q;simp only[Xe];cases Φ f a<;>rfl
@[simp] theorem A6z (f:Nat) (ps:List PV):Bi Φ H nx (.call f) ps=(Bn H ps).bind λq=>(Φ f q.1).bind λr=>if q.2.isEmpty||De r then some (.t r)else none:=by
 simp only[Bi,AL,if_true]
 cases Bn H ps with
 | none=>rfl
 | some q=>obtain⟨a,b⟩:=q;simp only[Xe];cases Φ f a<;>rfl
@[simp] theorem A7a (e n:Nat) (zc:List Value) (len:Nat) (idx:List Nat) (ps:List PV):A0 Φ H nx (.tslice e n zc len idx) ps=(EZ e n zc len (idx.zip ps)).map λr=>(r,H,nx):=rfl
@[simp] theorem A7b (e n:Nat) (zc:List Value) (len:Nat) (idx:List Nat):AL (.tslice e n zc len idx)=true:=rfl
@[simp] theorem A7c (e n:Nat) (zc:List Value) (len:Nat) (idx:List Nat) (ps:List PV):Bi Φ H nx (.tslice e n zc len idx) ps=(A0 Φ H nx (.tslice e n zc len idx) ps).map (·.1):=rfl
@[simp] theorem A7d (f:Nat) (ps:List PV):A0 Φ H nx (.hcall f) ps=Φ.h f ps H nx:=rfl
@[simp] theorem A7e (f:Nat):AL (.hcall f)=false:=rfl
@[simp] theorem A7f (f:Nat) (ps:List PV):A0 Φ H nx .callv (.t (.v (.func (.func f) #[] #[]))::ps)=Φ.h f ps H nx:=rfl
@[simp] theorem A7g (f:Nat) (first cap ps:List PV):A0 Φ H nx .callv (.fn (.func f) first cap::ps)=Φ.h f (first++ps++cap) H nx:=rfl
@[simp] theorem A7h:AL .callv=false:=rfl
@[simp] theorem A7i (e:EK) (ps:List PV):A0 Φ H nx (.ex e) ps=(exM e ps).map λr=>(r,H,nx):=rfl
@[simp] theorem A7j (e:EK):AL (.ex e)=true:=rfl
@[simp] theorem A7k (e:EK) (ps:List PV):Bi Φ H nx (.ex e) ps=(A0 Φ H nx (.ex e) ps).map (·.1):=rfl
@[simp] theorem A7l (h:HK) (ps:List PV):A0 Φ H nx (.hx h) ps=hxM h H nx ps:=rfl
@[simp] theorem A7m (h:HK):AL (.hx h)=false:=rfl
@[simp] theorem A7n (len n:Nat) (agg:Bool) (cs:List T) (k:IntKind) (i:Int):exM (.aix len n agg) [.t (.ag cs),.t (.v (.int k i))]=if 0<=i/\i<(len:Int)/\i.toNat*n+n<=cs.length then(if agg then some (.t (.ag ((cs.drop (i.toNat*n)).take n)))else(cs[i.toNat*n]?).map .t)else none:=rfl
@[simp] theorem A7o (neg:Bool) (ks:List CK) (xs ys:List T):exM (.eqs neg ks) [.t (.ag xs),.t (.ag ys)]=(Ck ks xs ys).map λr=>.t (.v (.bool (if neg then !r else r))):=rfl
@[simp] theorem A7p (s:ByteArray):hxM .range H nx [.t (.v (.string s))]=some (.ptr nx 0,(nx,.iter s 0)::H,nx+1):=rfl
@[simp] theorem A7q (s:ByteArray):hxM .s2b H nx [.t (.v (.string s))]=some (.t (.sl s.size (HQ s)),H,nx):=rfl
@[simp] theorem T9 {b:Nat} {kk:KK} {es:List (Key×Value)} (hl:Aj H b=some (.map kk es)):hxM .mlen H nx [.mp b]=some (.t (.v (.int .i64 (es.length:Int))),H,nx):=by simp[hxM,hl]
@[simp] theorem A7r (kk:KK):hxM (.mnew kk) H nx []=some (.mp nx,(nx,.map kk [])::H,nx+1):=rfl
@[simp] theorem A7s {kk:KK} {z:Value} {ok:Bool} {b:Nat} {p:PV} {es:List (Key×Value)} {k:Key} (hl:Aj H b=some (.map kk es)) (hk:El kk p=some k):hxM (.mget kk z ok) H nx [.mp b,p]=some (.t (HP ok z (E0 es k)),H,nx):=by
 simp only[hxM,hl,hk,if_true]
@[simp] theorem j8 {kk:KK} {v:Value} {b:Nat} {p:PV} {es:List (Key×Value)} {k:Key} (hl:Aj H b=some (.map kk es)) (hk:El kk p=some k):hxM (.mset kk) H nx [.mp b,p,.t (.v v)]=some (.t (.v undef),upd H b (.map kk (Cq es k v)),nx):=by
 simp only[hxM,hl,hk,if_true]
@[simp] theorem A7t (z:Value) (q:Option Value):HP true z q = .tu [.v (q.getD z),.v (.bool q.isSome)]:=rfl
@[simp] theorem A7u (z:Value) (q:Option Value):HP false z q = .v (q.getD z):=rfl
@[simp] theorem A7v (k:IntKind) (n:Int):El (.int k) (.t (.v (.int k n)))=some (.n [n]):=by simp only[El,if_true]
@[simp] theorem A7w (b:ByteArray):El .str (.t (.v (.string b)))=some (.s b):=rfl
@[simp] theorem A7x (a b:Int):El (.ints 2) (.t (.ag [.v (.int .i64 a),.v (.int .i64 b)]))=some (.n [a,b]):=rfl
@[simp] theorem A7y {α β:Type} (x:Option α) (f:α->Option β) (K:β->Prop):B6 (x.bind f) K=B6 x λa=>B6 (f a) K:=by cases x<;>rfl
end
@[simp] theorem A7z (x:Value):De (.v x)=true:=rfl
@[simp] theorem A8a (n:Nat) (cs:List T):De (.sl n cs)=false:=rfl
@[simp] theorem A8b (cs:List T):De (.pt cs)=false:=rfl
@[simp] theorem A8c {α:Type} (k:Nat):Aj ([]:List (Nat×α)) k=none:=rfl
@[simp] theorem A9 {α:Type} (k j:Nat) (x:α) (r:List (Nat×α)):Aj ((k,x)::r) j=if k=j then some x else Aj r j:=rfl
@[simp] theorem Lv (ts:List T):DW (ts.map PV.t)=some ts:=by
 induction ts with
 | nil=>rfl
 | cons x r ih=>simp[ih]
section
variable {Φ : AP} {env : List (Nat × PV)} {H : Ak} {nx n : Nat} {K : Am -> Prop} {Q : Exit -> Am -> Prop} {d : Option Nat} {k : MK} {xs : List Opd} {r : List AF}
@[simp] theorem A8d (j:Nat) (p:PV) (H':Ak) (nx':Nat):Am.set ⟨env,H,nx,n⟩ (some j) (p,H',nx')=⟨(j,p)::env,H',nx',n⟩:=rfl
@[simp] theorem A8e (p:PV) (H':Ak) (nx':Nat):Am.set ⟨env,H,nx,n⟩ none (p,H',nx')=⟨env,H',nx',n⟩:=rfl
@[simp] theorem A8f {s:Am}:Dg Φ [] s K=K s:=rfl
@[simp] theorem A8g:Dg Φ (⟨d,k,xs,none⟩::r) ⟨env,H,nx,n⟩ K=B6 (A0 Φ H nx k (xs.map (·.ev env))) λq=>Dg Φ r (Am.set ⟨env,H,nx,n⟩ d q) K:=rfl
@[simp] theorem A8h {g:Nat} {want:Bool} (h:Aj env g=some (.t (.v (.bool want)))) :
  Dg Φ (⟨d,k,xs,some (g,want)⟩::r) ⟨env,H,nx,n⟩ K=B6 (A0 Φ H nx k (xs.map (·.ev env))) λq=>Dg Φ r (Am.set ⟨env,H,nx,n⟩ d q) K:=by
 simp only[Dg,FR,AF.wants,h,beq_self_eq_true,IK]
theorem TA {g:Nat} {want b:Bool} (h:Aj env g=some (.t (.v (.bool b)))) (hb:(b==want)=false) :
  Dg Φ (⟨d,k,xs,some (g,want)⟩::r) ⟨env,H,nx,n⟩ K=Dg Φ r (Am.set ⟨env,H,nx,n⟩ d (.t (.v undef),H,nx)) K:=by
 simp only[Dg,FR,AF.wants,h,hb,HY]
@[simp] theorem A8i {g:Nat} (h:Aj env g=some (.t (.v (.bool false)))) :
 Dg Φ (⟨d,k,xs,some (g,true)⟩::r) ⟨env,H,nx,n⟩ K=Dg Φ r (Am.set ⟨env,H,nx,n⟩ d (.t (.v undef),H,nx)) K:=TA h rfl
@[simp] theorem A8j {g:Nat} (h:Aj env g=some (.t (.v (.bool true)))) :
 Dg Φ (⟨d,k,xs,some (g,false)⟩::r) ⟨env,H,nx,n⟩ K=Dg Φ r (Am.set ⟨env,H,nx,n⟩ d (.t (.v undef),H,nx)) K:=TA h rfl
@[simp] theorem A8k {g:Nat} {want:Bool} (h:Aj env g=some (.t (.v undef))) :
  Dg Φ (⟨d,k,xs,some (g,want)⟩::r) ⟨env,H,nx,n⟩ K=Dg Φ r (Am.set ⟨env,H,nx,n⟩ d (.t (.v undef),H,nx)) K:=by
 simp only[Dg,FR,AF.wants,h,undef,HY]
@[simp] theorem A8l {s:Am}:Cn Φ [] s K=K s:=rfl
@[simp] theorem A8m (hk:AL k=true):Cn Φ (⟨d,k,xs,none⟩::r) ⟨env,H,nx,n⟩ K=B6 (Bi Φ H nx k (xs.map (·.ev env))) λv=>Cn Φ r (Am.set ⟨env,H,nx,n⟩ d (v,H,nx)) K:=by
 simp only[Cn,Hj,hk,if_true,AF.wants,IK]
@[simp] theorem A8n (hk:AL k=false):Cn Φ (⟨d,k,xs,none⟩::r) ⟨env,H,nx,n⟩ K=B6 (A0 Φ H nx k (xs.map (·.ev env))) λq=>Cn Φ r (Am.set ⟨env,H,nx,n⟩ d q) K:=by
 simp only[Cn,Hj,hk,Xd,if_false,FR,AF.wants,IK]
@[simp] theorem A8o {g:Nat} {want:Bool} (hk:AL k=true) (h:Aj env g=some (.t (.v (.bool want)))) :
  Cn Φ (⟨d,k,xs,some (g,want)⟩::r) ⟨env,H,nx,n⟩ K=B6 (Bi Φ H nx k (xs.map (·.ev env))) λv=>Cn Φ r (Am.set ⟨env,H,nx,n⟩ d (v,H,nx)) K:=by
 simp only[Cn,Hj,hk,if_true,AF.wants,h,beq_self_eq_true,IK]
@[simp] theorem A8p {g:Nat} {want:Bool} (hk:AL k=false) (h:Aj env g=some (.t (.v (.bool want)))) :
  Cn Φ (⟨d,k,xs,some (g,want)⟩::r) ⟨env,H,nx,n⟩ K=B6 (A0 Φ H nx k (xs.map (·.ev env))) λq=>Cn Φ r (Am.set ⟨env,H,nx,n⟩ d q) K:=by
 simp only[Cn,Hj,hk,Xd,if_false,FR,AF.wants,h,beq_self_eq_true,IK]
theorem TB {g:Nat} {want b:Bool} (h:Aj env g=some (.t (.v (.bool b)))) (hb:(b==want)=false) :
  Cn Φ (⟨d,k,xs,some (g,want)⟩::r) ⟨env,H,nx,n⟩ K=Cn Φ r (Am.set ⟨env,H,nx,n⟩ d (.t (.v undef),H,nx)) K:=by
 simp only[Cn,Hj,FR,AF.wants,h,hb,HY,ite_self]
@[simp] theorem A8q {g:Nat} (h:Aj env g=some (.t (.v (.bool false)))) :
 Cn Φ (⟨d,k,xs,some (g,true)⟩::r) ⟨env,H,nx,n⟩ K=Cn Φ r (Am.set ⟨env,H,nx,n⟩ d (.t (.v undef),H,nx)) K:=TB h rfl
@[simp] theorem A8r {g:Nat} (h:Aj env g=some (.t (.v (.bool true)))) :
 Cn Φ (⟨d,k,xs,some (g,false)⟩::r) ⟨env,H,nx,n⟩ K=Cn Φ r (Am.set ⟨env,H,nx,n⟩ d (.t (.v undef),H,nx)) K:=TB h rfl
@[simp] theorem A8s {g:Nat} {want:Bool} (h:Aj env g=some (.t (.v undef))) :
  Cn Φ (⟨d,k,xs,some (g,want)⟩::r) ⟨env,H,nx,n⟩ K=Cn Φ r (Am.set ⟨env,H,nx,n⟩ d (.t (.v undef),H,nx)) K:=by
 simp only[Cn,Hj,FR,AF.wants,h,undef,HY,ite_self]
variable {κ j b : Nat} {pd : En} {gr : List GI} {kp : Bool} {ag : List Nat}
@[simp] theorem A8t {C:Prop}:Ft Φ pd H nx [] C=C:=rfl
@[simp] theorem A8u {i:Nat} {r:List Nat} {C:Prop}:Ft Φ pd H nx (i::r) C=B6 (Aj pd i) λx=>Bi Φ H nx x.1 x.2.1=some x.2.2/\Ft Φ pd H nx r C:=rfl
@[simp] theorem A8v {m:AF} {v:PV}:Fq true j m ⟨env,H,nx,n⟩ v pd=(j,m.k,m.xs.map (·.ev env),v)::pd:=rfl
@[simp] theorem A8w {m:AF} {s:Am} {v:PV}:Fq false j m s v pd=pd:=rfl
@[simp] theorem A8x {s:Am}:Dq Φ κ j b pd [] s K=K s:=rfl
@[simp] theorem A8y (hk:AL k=true):Dq Φ κ j b pd (.o ⟨d,k,xs,none⟩ kp ag::gr) ⟨env,H,nx,n⟩ K =
  B6 (Bi Φ H nx k (xs.map (·.ev env))) λv=>Ft Φ pd H nx ag (Dq Φ κ (j+1) b (Fq kp j ⟨d,k,xs,none⟩ ⟨env,H,nx,n⟩ v pd) gr (Am.set ⟨env,H,nx,n⟩ d (v,H,nx)) K):=by
 simp only[Dq,Gw,hk,if_true,HT,AF.wants,T3]
@[simp] theorem A8z (hk:AL k=false):Dq Φ κ j b pd (.o ⟨d,k,xs,none⟩ kp ag::gr) ⟨env,H,nx,n⟩ K =
  B6 (A0 Φ H nx k (xs.map (·.ev env))) λq=>Ft Φ pd q.2.1 q.2.2 ag (Dq Φ κ (j+1) b (Fq kp j ⟨d,k,xs,none⟩ ⟨env,H,nx,n⟩ q.1 pd) gr (Am.set ⟨env,H,nx,n⟩ d q) K):=by
 simp only[Dq,Gw,hk,Xd,if_false,AF.wants]
@[simp] theorem A9a {m:AF}:Dq Φ κ j b pd (.g 0 m::gr) ⟨env,H,nx,n⟩ K =
 B6 (A0 Φ H (nx+κ) m.k (m.xs.map (·.ev env))) λq=>Dq Φ κ (j+1) nx pd gr (Am.set ⟨env,H,nx,n⟩ m.dst (q.1,q.2.1,nx+2*κ)) K:=rfl
@[simp] theorem A9b {m:AF} {i:Nat} (hi:i≠0):Dq Φ κ j b pd (.g i m::gr) ⟨env,H,nx,n⟩ K =
  B6 (A0 Φ H (b+κ+i) m.k (m.xs.map (·.ev env))) λq=>Dq Φ κ (j+1) b pd gr (Am.set ⟨env,H,nx,n⟩ m.dst (q.1,q.2.1,b+2*κ)) K:=by
 simp only[Dq,zw hi]
@[simp] theorem A9c {l:List GI}:BT Φ (.drawG κ l) ⟨env,H,nx,n⟩ Q=Dq Φ κ 0 0 [] l ⟨env,H,nx,n⟩ (Q .normal):=rfl
@[simp] theorem A9d {l:List GI}:BT Φ (.drawE l) ⟨env,H,nx,n⟩ Q=Dq Φ 0 0 0 [] l ⟨env,H,nx,n⟩ (Q .normal):=rfl
@[simp] theorem A9e {s:Am}:BT Φ .skip s Q=Q .normal s:=rfl
@[simp] theorem A9f {l:List AF}:BT Φ (.ops l) ⟨env,H,nx,n⟩ Q=Dg Φ l ⟨env,H,nx,n⟩ (Q .normal):=rfl
@[simp] theorem A9g {l:List AF}:BT Φ (.draw l) ⟨env,H,nx,n⟩ Q=Cn Φ l ⟨env,H,nx,n⟩ (Q .normal):=rfl
@[simp] theorem A9h {a b:AE}:BT Φ (.seq a b) ⟨env,H,nx,n⟩ Q=BT Φ a ⟨env,H,nx,n⟩ (Gy (λs1=>BT Φ b s1 Q) Q):=rfl
@[simp] theorem A9i {c:Opd} {a b:AE} (h:c.ev env = .t (.v (.bool true))):BT Φ (.cond c a b) ⟨env,H,nx,n⟩ Q=BT Φ a ⟨env,H,nx,n⟩ Q:=by simp only[BT,h,T4]
@[simp] theorem A9j {c:Opd} {a b:AE} (h:c.ev env = .t (.v (.bool false))):BT Φ (.cond c a b) ⟨env,H,nx,n⟩ Q=BT Φ b ⟨env,H,nx,n⟩ Q:=by simp only[BT,h,T5]
@[simp] theorem A9k {i:Nat} {a:AE}:BT Φ (.block i a) ⟨env,H,nx,n⟩ Q=BT Φ a ⟨env,H,nx,n⟩ (EV i Q):=rfl
@[simp] theorem A9l {i:Nat} {s:Am}:BT Φ (.exit i) s Q=Q (.exit i) s:=rfl
@[simp] theorem A9m {a:AE}:BT Φ (.scope a) ⟨env,H,nx,n⟩ Q=BT Φ a ⟨env,H,nx,n⟩ (GX Q):=rfl
@[simp] theorem A9n {s:Am}:BT Φ .ret s Q=Q .ret s:=rfl
@[simp] theorem A9o {vs:List RV} {R:T->Prop}:Pv vs R ⟨env,H,nx,n⟩=B6 (EG ⟨env,H,nx,n⟩ vs) λps=>B6 (toT H (Df ps)) λq=>R q.1:=rfl
end
end Go.Abs
