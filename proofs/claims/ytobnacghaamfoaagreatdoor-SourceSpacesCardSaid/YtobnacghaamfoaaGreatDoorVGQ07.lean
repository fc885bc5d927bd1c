/- Auxiliary facts. -/
import Derived.Test.YtobnacghaamfoaaGreatDoorVGQ06
import Derived.KernelRfl
set_option linter.unusedSimpArgs false
set_option linter.unusedVariables false
open BitVec renaming ofInt->Xa
open Bool renaming false_eq_true->Xb
open Option renaming bind_some->Xc
namespace Go.Abs
open Go
def A6 (P:Program) (G:A2) (f:FuncId) (k N:Nat) (M:An) (vs:List RV):Prop:=
 ∃fn,P.funcs[f]?=some fn/\(fn.name == "runtime.NumGoroutine")=false/\fn.body.bind (comp P G N)=some M/\fn.results.toList.mapM (Hw P)=some vs/\k+(fn.ntmps-k)=N
theorem A6.call {P:Program} {G:A2} {f:FuncId} {k N:Nat} {M:An} {vs:List RV} (h:A6 P G f k N M vs) {args:List T} (hk:args.length=k) {R:T->Prop}
  (hm:MC P G 0 N M (NY vs R) (Lc N args)):A1 P G f args R:=by
 obtain⟨fn,hf,hn,hb,hr,hN⟩:=h
 cases hbody:fn.body with
 | none=>rw[hbody]at hb;cases hb
 | some c=>
  rw[hbody]at hb;exact qU hf hbody hn hb hr (by rw[hk];exact hN) hm
theorem A6.callP {P:Program} {G:A2} {f:FuncId} {k N:Nat} {M:An} {vs:List RV} (h:A6 P G f k N M vs) {ps:List PV} {H H':Ab} {nx nx':Nat} {r:PV} (hk:ps.length=k)
  (hm:MC P G nx N M (F7 P G nx vs λr0 H0 nx0=>r0=r/\H0=H'/\nx0=nx') ⟨Gt 0 ps,H,nx,N⟩):AH P G f ps H nx r H' nx':=by
 obtain⟨fn,hf,hn,hb,hr,hN⟩:=h
 cases hbody:fn.body with
 | none=>rw[hbody]at hb;cases hb
 | some c=>
  rw[hbody]at hb;exact qV hf hbody hn hb hr (by rw[hk];exact hN) hm
def BJ {α:Type} (x:Option α) (K:α->Prop):Prop:=
 match x with
 | some a=>K a
 | none=>False
@[simp] theorem Qj {α:Type} (a:α) (K:α->Prop):BJ (some a) K=K a:=rfl
@[simp] theorem B6c {α:Type} (K:α->Prop):BJ (none:Option α) K=False:=rfl
@[simp] theorem WU {α β:Type} (x:Option α) (f:α->β) (K:β->Prop):BJ (x.map f) K=BJ x λa=>K (f a):=by cases x<;>rfl
theorem GT {α:Type} {x:Option α} {K:α->Prop} (h:BJ x K):∃a,x=some a/\K a:=by
 cases x with
 | none=>exact h.elim
 | some a=>exact⟨a,rfl,h⟩
def NZ (x:Option Bool) (yes no:Prop):Prop:=
 match x with
 | some true=>yes
 | some false=>no
 | none=>False
@[simp] theorem IC (yes no:Prop):NZ (some true) yes no=yes:=rfl
@[simp] theorem ID (yes no:Prop):NZ (some false) yes no=no:=rfl
def Ad.set (s:Ad) (d:Option Nat) (q:PV×Ab×Nat):Ad:=
 match d with
 | some k=>⟨(k,q.1)::s.env,q.2.1,q.2.2,s.n⟩
 | none=>⟨s.env,q.2.1,q.2.2,s.n⟩
theorem JE (s:Ad) (d:Option Nat) (r:PV) (H:Ab) (nx:Nat):s.set d (r,H,nx)=({ s with H:=H,nx:=nx }:Ad).put d r:=by cases d<;>rfl
def GU (Φ:A7) (s:Ad) (m:A3) (K:Ad->Prop):Prop:=
 NZ (m.wants s.env) (BJ (Ai Φ s.H s.nx m.k (m.xs.map (·.ev s.env))) λq=>K (s.set m.dst q)) (K (s.set m.dst (.t (.v undef),s.H,s.nx)))
def Ej (Φ:A7):List A3->Ad->(Ad->Prop)->Prop
 | [],s,K=>K s
 | m::r,s,K=>GU Φ s m λs'=>Ej Φ r s' K
def IE (Φ:A7) (s:Ad) (m:A3) (K:Ad->Prop):Prop:=
 if AC m.k then NZ (m.wants s.env) (BJ (Bk Φ s.H s.nx m.k (m.xs.map (·.ev s.env))) λv=>K (s.set m.dst (v,s.H,s.nx))) (K (s.set m.dst (.t (.v undef),s.H,s.nx)))
 else GU Φ s m K
def CM (Φ:A7):List A3->Ad->(Ad->Prop)->Prop
 | [],s,K=>K s
 | m::r,s,K=>IE Φ s m λs'=>CM Φ r s' K
def FJ (Φ:A7) (pd:Fa) (H:Ab) (nx:Nat):List Nat->Prop->Prop
 | [],K=>K
 | i::r,K=>BJ (Aa pd i) λx=>Bk Φ H nx x.1 x.2.1=some x.2.2/\FJ Φ pd H nx r K
def DU (Φ:A7) (k:Nat):Nat->Nat->Fa->List GI->Ad->(Ad->Prop)->Prop
 | _,_,_,[],s,K=>K s
 | n,b,pd,.o m kp ag::r,s,K=>BJ (Gq Φ s m) λq=>FJ Φ pd q.2.1 q.2.2 ag (DU Φ k (n+1) b (Gr kp n m s q.1 pd) r (s.set m.dst q) K)
 | n,b,pd,.g j m::r,s,K=>BJ (Ai Φ s.H ((if j=0 then s.nx else b)+k+j) m.k (m.xs.map (·.ev s.env))) λq=>DU Φ k (n+1) (if j=0 then s.nx else b) pd r (s.set m.dst (q.1,q.2.1,(if j=0 then s.nx else b)+2*k)) K
def Gu (K:Ad->Prop) (Q:Exit->Ad->Prop):Exit->Ad->Prop
 | .normal,s=>K s
 | e,s=>Q e s
@[simp] theorem B6d (K:Ad->Prop) (Q:Exit->Ad->Prop) (s:Ad):Gu K Q .normal s=K s:=rfl
@[simp] theorem B6e (K:Ad->Prop) (Q:Exit->Ad->Prop) (s:Ad):Gu K Q .ret s=Q .ret s:=rfl
@[simp] theorem B6f (K:Ad->Prop) (Q:Exit->Ad->Prop) (i:Nat) (s:Ad):Gu K Q (.exit i) s=Q (.exit i) s:=rfl
@[simp] theorem B6g (i:Nat) (Q:Exit->Ad->Prop) (s:Ad):FX i Q .normal s=Q .normal s:=rfl
@[simp] theorem B6h (i:Nat) (Q:Exit->Ad->Prop) (s:Ad):FX i Q .ret s=Q .ret s:=rfl
@[simp] theorem M1 (i j:Nat) (Q:Exit->Ad->Prop) (s:Ad):FX i Q (.exit j) s=if j=i then Q .normal s else Q (.exit j) s:=rfl
@[simp] theorem B6i (Q:Exit->Ad->Prop) (s:Ad):Iz Q .normal s=Q .normal s:=rfl
@[simp] theorem B6j (Q:Exit->Ad->Prop) (s:Ad):Iz Q .ret s=Q .ret s:=rfl
@[simp] theorem B6k (i:Nat) (Q:Exit->Ad->Prop) (s:Ad):Iz Q (.exit i) s=Q (.exit i) s:=rfl
def M2 (p:PV) (yes no:Prop):Prop:=
 match p with
 | .t (.v (.bool true))=>yes
 | .t (.v (.bool false))=>no
 | _=>False
@[simp] theorem WV (yes no:Prop):M2 (.t (.v (.bool true))) yes no=yes:=rfl
@[simp] theorem WW (yes no:Prop):M2 (.t (.v (.bool false))) yes no=no:=rfl
def Cf (Φ:A7):An->Ad->(Exit->Ad->Prop)->Prop
 | .skip,s,Q=>Q .normal s
 | .ops l,s,Q=>Ej Φ l s (Q .normal)
 | .draw l,s,Q=>CM Φ l s (Q .normal)
 | .drawG k l,s,Q=>DU Φ k 0 0 [] l s (Q .normal)
 | .seq a b,s,Q=>Cf Φ a s (Gu (λs1=>Cf Φ b s1 Q) Q)
 | .cond c a b,s,Q=>M2 (c.ev s.env) (Cf Φ a s Q) (Cf Φ b s Q)
 | .block id b,s,Q=>Cf Φ b s (FX id Q)
 | .loop _,_,_=>False
 | .exit id,s,Q=>Q (.exit id) s
 | .ret,s,Q=>Q .ret s
 | .scope b,s,Q=>Cf Φ b s (Iz Q)
section
variable {P : Program} {G : A2} {B N : Nat} {Φ : A7}
theorem WX {s:Ad} {m:A3} {K:Ad->Prop} (h:GU Φ s m K):∃s',J9 Φ s m=some s'/\K s':=by
 unfold GU at h;unfold J9
 cases hw:m.wants s.env with
 | none=>rw[hw]at h;exact h.elim
 | some b=>
  rw[hw]at h
  cases b with
  | true=>
   obtain⟨⟨r,H',nx'⟩,hq,hk⟩:=GT h;exact⟨_,by simp only[hq];rfl,by rw[JE]at hk;exact hk⟩
  | false=>exact⟨_,rfl,by simp only[ID,JE]at h;exact h⟩
theorem WY:∀{l:List A3} {s:Ad} {K:Ad->Prop},Ej Φ l s K->∃s',Hv Φ l s=some s'/\K s'
 | [],s,K,h=>⟨s,rfl,h⟩
 | m::r,s,K,h=>by
  obtain⟨s1,h1,h2⟩:=WX h;obtain⟨s2,h3,h4⟩:=WY h2;exact⟨s2,by simp only[Hv,h1,h3],h4⟩
theorem qW {s:Ad} {m:A3} {K:Ad->Prop} (h:IE Φ s m K):∃s',NO Φ s m=some s'/\K s':=by
 unfold IE at h;unfold NO;split at h
 .rename_i hq;rw[zy hq];unfold JA
  cases hw:m.wants s.env with
  | none=>rw[hw]at h;exact h.elim
  | some b=>
   rw[hw]at h
   cases b with
   | true=>
    obtain⟨v,hv,hk⟩:=GT h;exact⟨_,by simp only[hv];rfl,by rw[JE]at hk;exact hk⟩
   | false=>exact⟨_,rfl,by simp only[ID,JE]at h;exact h⟩
 .rename_i hq;rw[zz hq];exact WX h
theorem WZ:∀{l:List A3} {s:Ad} {K:Ad->Prop},CM Φ l s K->∃s',GS Φ l s=some s'/\K s'
 | [],s,K,h=>⟨s,rfl,h⟩
 | m::r,s,K,h=>by
  obtain⟨s1,h1,h2⟩:=qW h;obtain⟨s2,h3,h4⟩:=WZ h2;exact⟨s2,by simp only[GS,h1,h3],h4⟩
theorem SA {pd:Fa} {H:Ab} {nx:Nat} {K:Prop}:∀{ks:List Nat},FJ Φ pd H nx ks K->Qa Φ pd H nx ks/\K
 | [],h=>⟨λi hi=>by simp at hi,h⟩
 | i::r,h=>by
  obtain⟨x,hx,he,hr⟩:=GT h;obtain⟨h1,h2⟩:=SA hr;refine⟨λj hj=>?_,h2⟩;rcases List.mem_cons.1 hj with rfl | hj
  .exact⟨x,hx,he⟩
  .exact h1 j hj
theorem Qk {k:Nat}:∀(l:List GI) {n b:Nat} {pd:Fa} {s:Ad} {K:Ad->Prop},DU Φ k n b pd l s K->∃s',Fq Φ k n b pd l s=some s'/\K s'
 | [],n,b,pd,s,K,h=>⟨s,rfl,h⟩
 | .o m kp ag::r,n,b,pd,s,K,h=>by
  obtain⟨⟨v,H',nx'⟩,hv,hk⟩:=GT h;obtain⟨h1,h2⟩:=SA hk;rw[JE]at h2;obtain⟨s',h3,h4⟩:=Qk r h2;exact⟨s',by simp only[Fq,hv,zy h1,h3],h4⟩
 | .g j m::r,n,b,pd,s,K,h=>by
  obtain⟨⟨v,H',nx'⟩,hv,hk⟩:=GT h;rw[JE]at hk;obtain⟨s',h3,h4⟩:=Qk r hk;exact⟨s',by simp only[Fq,hv,h3],h4⟩
theorem Gb:∀(M:An) {s:Ad} {Q:Exit->Ad->Prop},Cf Φ M s Q->∃e s',BH Φ M s=some (e,s')/\Q e s'
 | .skip,s,Q,h=>⟨_,_,rfl,h⟩
 | .ops l,s,Q,h=>by
  obtain⟨s1,h1,h2⟩:=WY h;exact⟨_,s1,by simp only[BH,h1],h2⟩
 | .draw l,s,Q,h=>by
  obtain⟨s1,h1,h2⟩:=WZ h;exact⟨_,s1,by simp only[BH,h1],h2⟩
 | .drawG k l,s,Q,h=>by
  obtain⟨s1,h1,h2⟩:=Qk l h;exact⟨_,s1,by simp only[BH,h1],h2⟩
 | .seq a b,s,Q,h=>by
  obtain⟨e,s1,h1,h2⟩:=Gb a h;cases e
  case normal=>
   obtain⟨e2,s2,h3,h4⟩:=Gb b h2;exact⟨e2,s2,by simp only[BH,h1,h3],h4⟩
  all_goals exact⟨_,s1,by simp only[BH,h1],h2⟩
 | .cond c a b,s,Q,h=>by
  simp only[Cf]at h;unfold M2 at h;split at h
  .rename_i hc;obtain⟨e,s1,h1,h2⟩:=Gb a h;exact⟨e,s1,by simp only[BH,hc,cond_true,h1],h2⟩
  .rename_i hc;obtain⟨e,s1,h1,h2⟩:=Gb b h;exact⟨e,s1,by simp only[BH,hc,cond_false,h1],h2⟩
  .exact h.elim
 | .block id b,s,Q,h=>by
  obtain⟨e,s1,h1,h2⟩:=Gb b h;cases e
  case exit i=>
   simp only[M1]at h2;by_cases hi:i=id
   .rw[zy hi]at h2;exact⟨.normal,s1,by simp only[BH,h1,zy hi],h2⟩
   .rw[zz hi]at h2;exact⟨.exit i,s1,by simp only[BH,h1,zz hi],h2⟩
  all_goals exact⟨_,s1,by simp only[BH,h1],h2⟩
 | .loop _,s,Q,h=>h.elim
 | .exit id,s,Q,h=>⟨_,_,rfl,h⟩
 | .ret,s,Q,h=>⟨_,_,rfl,h⟩
 | .scope b,s,Q,h=>by
  obtain⟨e,s1,h1,h2⟩:=Gb b h;cases e
  case goto l=>exact h2.elim
  all_goals exact⟨_,s1,by simp only[BH,h1],h2⟩
theorem Ap (hΦ:Ctx P G Φ) {M:An} {s:Ad} {Q:Exit->Ad->Prop} (h:Cf Φ M s Q):MC P G B N M Q s:=by
 obtain⟨e,s',h1,h2⟩:=Gb M h;exact Fs hΦ M h1 h2
theorem Av (hΦ:Ctx P G Φ) {a b:An} {s:Ad} {Q:Exit->Ad->Prop} (h:Cf Φ a s (Gu (λs1=>MC P G B N b Q s1) Q)):MC P G B N (.seq a b) Q s:=by
 obtain⟨e,s',h1,h2⟩:=Gb a h;intro c hc hn;refine Mz ?_ c hc hn;refine Fs hΦ a h1 ?_;cases e
 case normal=>exact⟨(F6 a h1).trans hn,h2⟩
 all_goals exact h2
theorem A6.runs {f:FuncId} {k:Nat} {M:An} {vs:List RV} (h:A6 P G f k N M vs) (hΦ:Ctx P G Φ) {args:List T} (hk:args.length=k) {R:T->Prop}
 (hm:Cf Φ M (Lc N args) (NY vs R)):A1 P G f args R:=h.call hk (Ap hΦ hm)
def SB (vs:List RV) (R:T->Prop) (s:Ad):Prop:=BJ (Ez s vs) λps=>BJ (toT s.H (Ei ps)) λq=>R q.1
@[simp] theorem B6l {vs:List RV} {R:T->Prop} {s:Ad}:NY vs R .ret s=SB vs R s:=by
 apply propext;constructor
 .rintro⟨_,ps,r,F,h1,h2,h3⟩;unfold SB;rw[h1,Qj,h2];exact h3
 .intro h;obtain⟨ps,h1,h⟩:=GT h;obtain⟨q,h2,h3⟩:=GT h;exact⟨.inr rfl,ps,q.1,q.2,h1,h2,h3⟩
end
section
variable {Φ : A7} {H : Ab} {nx : Nat}
@[simp] theorem B6m  (x:PV):Ai Φ H nx .mv [x]=some (x,H,nx):=rfl
@[simp] theorem B6n  : AC .mv=true:=rfl
@[simp] theorem B6o  (ps:List PV):Bk Φ H nx .mv ps=(Ai Φ H nx .mv ps).map (·.1):=rfl
@[simp] theorem B6p (op:UnOp) (a:Value):Ai Φ H nx (.un op) [.t (.v a)]=(unV op a).map λv=>(.t (.v v),H,nx):=rfl
@[simp] theorem B6q (op:UnOp):AC (.un op)=true:=rfl
@[simp] theorem B6r (op:UnOp) (ps:List PV):Bk Φ H nx (.un op) ps=(Ai Φ H nx (.un op) ps).map (·.1):=rfl
@[simp] theorem B6s (k:Option IntKind) (x:PV):Ai Φ H nx (.conv k) [x]=(PU k x).map λr=>(r,H,nx):=rfl
@[simp] theorem B6t (k:Option IntKind):AC (.conv k)=true:=rfl
@[simp] theorem B6u (k:Option IntKind) (ps:List PV):Bk Φ H nx (.conv k) ps=(Ai Φ H nx (.conv k) ps).map (·.1):=rfl
@[simp] theorem B6v (agg:Bool) (n:Nat) (x:PV):Ai Φ H nx (.load agg n) [x]=(Aj agg n H x).map λr=>(r,H,nx):=rfl
@[simp] theorem B6w (agg:Bool) (n:Nat):AC (.load agg n)=true:=rfl
@[simp] theorem B6x (agg:Bool) (n:Nat) (ps:List PV):Bk Φ H nx (.load agg n) ps=(Ai Φ H nx (.load agg n) ps).map (·.1):=rfl
@[simp] theorem B6y (off:Nat) (x:PV):Ai Φ H nx (.faddr off) [x]=(PS off x).map λr=>(r,H,nx):=rfl
@[simp] theorem B6z (off:Nat):AC (.faddr off)=true:=rfl
@[simp] theorem B7a (off:Nat) (ps:List PV):Bk Φ H nx (.faddr off) ps=(Ai Φ H nx (.faddr off) ps).map (·.1):=rfl
@[simp] theorem B7b (off:Nat) (agg:Bool) (n:Nat) (x:PV):Ai Φ H nx (.field off agg n) [x]=(PT off agg n x).map λr=>(r,H,nx):=rfl
@[simp] theorem B7c (off:Nat) (agg:Bool) (n:Nat):AC (.field off agg n)=true:=rfl
@[simp] theorem B7d (off:Nat) (agg:Bool) (n:Nat) (ps:List PV):Bk Φ H nx (.field off agg n) ps=(Ai Φ H nx (.field off agg n) ps).map (·.1):=rfl
@[simp] theorem B7e (z:Nat) (x:PV) (i:PV):Ai Φ H nx (.iaddr z) [x,i]=(Bd z x i).map λr=>(r,H,nx):=rfl
@[simp] theorem B7f (z:Nat):AC (.iaddr z)=true:=rfl
@[simp] theorem B7g (z:Nat) (ps:List PV):Bk Φ H nx (.iaddr z) ps=(Ai Φ H nx (.iaddr z) ps).map (·.1):=rfl
@[simp] theorem B7h (n z:Nat) (x:PV) (i:PV):Ai Φ H nx (.aaddr n z) [x,i]=(PR n z x i).map λr=>(r,H,nx):=rfl
@[simp] theorem B7i (n z:Nat):AC (.aaddr n z)=true:=rfl
@[simp] theorem B7j (n z:Nat) (ps:List PV):Bk Φ H nx (.aaddr n z) ps=(Ai Φ H nx (.aaddr n z) ps).map (·.1):=rfl
@[simp] theorem B7k  (x:PV) (i:PV):Ai Φ H nx .index [x,i]=(Ms x i).map λr=>(r,H,nx):=rfl
@[simp] theorem B7l  : AC .index=true:=rfl
@[simp] theorem B7m  (ps:List PV):Bk Φ H nx .index ps=(Ai Φ H nx .index ps).map (·.1):=rfl
@[simp] theorem B7n  (x:PV):Ai Φ H nx (.slstr false false) [x]=(DK x none none).map λr=>(r,H,nx):=rfl
@[simp] theorem B7o  : AC (.slstr false false)=true:=rfl
@[simp] theorem B7p  (ps:List PV):Bk Φ H nx (.slstr false false) ps=(Ai Φ H nx (.slstr false false) ps).map (·.1):=rfl
@[simp] theorem B7q  (x:PV) (i:PV):Ai Φ H nx (.slstr true false) [x,i]=(DK x (some i) none).map λr=>(r,H,nx):=rfl
@[simp] theorem B7r  : AC (.slstr true false)=true:=rfl
@[simp] theorem B7s  (ps:List PV):Bk Φ H nx (.slstr true false) ps=(Ai Φ H nx (.slstr true false) ps).map (·.1):=rfl
@[simp] theorem B7t  (x:PV) (i:PV):Ai Φ H nx (.slstr false true) [x,i]=(DK x none (some i)).map λr=>(r,H,nx):=rfl
@[simp] theorem B7u  : AC (.slstr false true)=true:=rfl
@[simp] theorem B7v  (ps:List PV):Bk Φ H nx (.slstr false true) ps=(Ai Φ H nx (.slstr false true) ps).map (·.1):=rfl
@[simp] theorem B7w  (x:PV) (i:PV) (j:PV):Ai Φ H nx (.slstr true true) [x,i,j]=(DK x (some i) (some j)).map λr=>(r,H,nx):=rfl
@[simp] theorem B7x  : AC (.slstr true true)=true:=rfl
@[simp] theorem B7y  (ps:List PV):Bk Φ H nx (.slstr true true) ps=(Ai Φ H nx (.slstr true true) ps).map (·.1):=rfl
@[simp] theorem B7z (z:Nat) (x:PV):Ai Φ H nx (.slice z false false) [x]=(EY z x none none).map λr=>(r,H,nx):=rfl
@[simp] theorem B8a (z:Nat):AC (.slice z false false)=true:=rfl
@[simp] theorem B8b (z:Nat) (ps:List PV):Bk Φ H nx (.slice z false false) ps=(Ai Φ H nx (.slice z false false) ps).map (·.1):=rfl
@[simp] theorem B8c (z:Nat) (x:PV) (i:PV):Ai Φ H nx (.slice z true false) [x,i]=(EY z x (some i) none).map λr=>(r,H,nx):=rfl
@[simp] theorem B8d (z:Nat):AC (.slice z true false)=true:=rfl
@[simp] theorem B8e (z:Nat) (ps:List PV):Bk Φ H nx (.slice z true false) ps=(Ai Φ H nx (.slice z true false) ps).map (·.1):=rfl
@[simp] theorem B8f (z:Nat) (x:PV) (i:PV):Ai Φ H nx (.slice z false true) [x,i]=(EY z x none (some i)).map λr=>(r,H,nx):=rfl
@[simp] theorem B8g (z:Nat):AC (.slice z false true)=true:=rfl
@[simp] theorem B8h (z:Nat) (ps:List PV):Bk Φ H nx (.slice z false true) ps=(Ai Φ H nx (.slice z false true) ps).map (·.1):=rfl
@[simp] theorem B8i (z:Nat) (x:PV) (i:PV) (j:PV):Ai Φ H nx (.slice z true true) [x,i,j]=(EY z x (some i) (some j)).map λr=>(r,H,nx):=rfl
@[simp] theorem B8j (z:Nat):AC (.slice z true true)=true:=rfl
@[simp] theorem B8k (z:Nat) (ps:List PV):Bk Φ H nx (.slice z true true) ps=(Ai Φ H nx (.slice z true true) ps).map (·.1):=rfl
@[simp] theorem B8l (n:Nat) (x:PV):Ai Φ H nx (.ext n) [x]=(BC x n).map λr=>(r,H,nx):=rfl
@[simp] theorem B8m (n:Nat):AC (.ext n)=true:=rfl
@[simp] theorem B8n (n:Nat) (ps:List PV):Bk Φ H nx (.ext n) ps=(Ai Φ H nx (.ext n) ps).map (·.1):=rfl
@[simp] theorem B8o  (x:PV):Ai Φ H nx .chk [x]=(Sw x).map λr=>(r,H,nx):=rfl
@[simp] theorem B8p  : AC .chk=true:=rfl
@[simp] theorem B8q  (ps:List PV):Bk Φ H nx .chk ps=(Ai Φ H nx .chk ps).map (·.1):=rfl
@[simp] theorem B8r  (x:PV):Ai Φ H nx .lenstr [x]=(Sv x).map λr=>(r,H,nx):=rfl
@[simp] theorem B8s  : AC .lenstr=true:=rfl
@[simp] theorem B8t  (ps:List PV):Bk Φ H nx .lenstr ps=(Ai Φ H nx .lenstr ps).map (·.1):=rfl
@[simp] theorem B8u  (x:PV):Ai Φ H nx .lensl [x]=(AO x).map λr=>(r,H,nx):=rfl
@[simp] theorem B8v  : AC .lensl=true:=rfl
@[simp] theorem B8w  (ps:List PV):Bk Φ H nx .lensl ps=(Ai Φ H nx .lensl ps).map (·.1):=rfl
@[simp] theorem B8x  (x:PV) (i:PV):Ai Φ H nx .min [x,i]=(NB x i).map λr=>(r,H,nx):=rfl
@[simp] theorem B8y  : AC .min=true:=rfl
@[simp] theorem B8z  (ps:List PV):Bk Φ H nx .min ps=(Ai Φ H nx .min ps).map (·.1):=rfl
@[simp] theorem B9a  (x:PV) (i:PV):Ai Φ H nx .max [x,i]=(NC x i).map λr=>(r,H,nx):=rfl
@[simp] theorem B9b  : AC .max=true:=rfl
@[simp] theorem B9c  (ps:List PV):Bk Φ H nx .max ps=(Ai Φ H nx .max ps).map (·.1):=rfl
@[simp] theorem B9d (n:Nat) (x:PV) (i:PV):Ai Φ H nx (.store n) [x,i]=(AM n H x i).map λH'=>(.t (.v undef),H',nx):=rfl
@[simp] theorem B9e (n:Nat):AC (.store n)=false:=rfl
@[simp] theorem B9f (e n b:Nat) (zc:List Value) (x:PV) (i:PV):Ai Φ H nx (.make e n b zc) [x,i]=(Mt e n b zc x i nx).map λq=>(q.1,(nx,q.2)::H,nx+1):=rfl
@[simp] theorem B9g (e n b:Nat) (zc:List Value):AC (.make e n b zc)=false:=rfl
@[simp] theorem B9h (e n:Nat) (zc:List Value) (len:Nat) (idx:List Nat) (ps:List PV):Ai Φ H nx (.bslice e n zc len idx) ps=(EE e n zc len (idx.zip ps) nx).map λq=>(q.1,(nx,q.2)::H,nx+1):=rfl
@[simp] theorem B9i (e n:Nat) (zc:List Value) (len:Nat) (idx:List Nat)  : AC (.bslice e n zc len idx)=false:=rfl
@[simp] theorem Bo (places:List (Nat×Nat)) (zc:List Value) (idx:List Nat) (ps:List PV):Ai Φ H nx (.build places zc idx) ps=(Fo (λk=>places[k]?) (zc.map λx=>.t (.v x)) (idx.zip ps)).map λcs=>(Bi cs,H,nx):=rfl
@[simp] theorem B9j (places:List (Nat×Nat)) (zc:List Value) (idx:List Nat)  : AC (.build places zc idx)=true:=rfl
@[simp] theorem M3 (places:List (Nat×Nat)) (zc:List Value) (idx:List Nat)  (ps:List PV):Bk Φ H nx (.build places zc idx) ps=(Ai Φ H nx (.build places zc idx) ps).map (·.1):=rfl
@[simp] theorem B9k (n:Nat) (zc:List Value) (idx:List Nat) (ps:List PV):Ai Φ H nx (.barr n zc idx) ps=(Fo (λk=>some (k*n,n)) (zc.map λx=>.t (.v x)) (idx.zip ps)).map λcs=>(Bi cs,H,nx):=rfl
@[simp] theorem B9l (n:Nat) (zc:List Value) (idx:List Nat)  : AC (.barr n zc idx)=true:=rfl
@[simp] theorem B9m (n:Nat) (zc:List Value) (idx:List Nat)  (ps:List PV):Bk Φ H nx (.barr n zc idx) ps=(Ai Φ H nx (.barr n zc idx) ps).map (·.1):=rfl
@[simp] theorem B9n (t:Nat) (x:PV):Ai Φ H nx (.box t) [x]=(Bj x).map λps=>(.ptr nx 0,(nx,.cells t ps)::H,nx+1):=rfl
@[simp] theorem B9o (t:Nat):AC (.box t)=false:=rfl
@[simp] theorem B9p (t:Nat) (zc:List Value)  : Ai Φ H nx (.alloc t zc) []=some (.ptr nx 0,(nx,.cells t (zc.map λx=>.t (.v x)))::H,nx+1):=rfl
@[simp] theorem B9q (t:Nat) (zc:List Value):AC (.alloc t zc)=false:=rfl
@[simp] theorem B9r (e z b:Nat) (x:PV) (i:PV):Ai Φ H nx (.app e z b) [x,i]=Cc e z b H nx x i:=rfl
@[simp] theorem B9s (e z b:Nat):AC (.app e z b)=false:=rfl
@[simp] theorem B9t (isB:Bool) (op:BinOp) (nk:Option NK):AC (.bin isB op nk)=true:=rfl
@[simp] theorem B9u (isB:Bool) (op:BinOp) (nk:Option NK) (ps:List PV):Bk Φ H nx (.bin isB op nk) ps=(Ai Φ H nx (.bin isB op nk) ps).map (·.1):=rfl
@[simp] theorem B9v  : AC .pick=true:=rfl
@[simp] theorem B9w  (ps:List PV):Bk Φ H nx .pick ps=(Ai Φ H nx .pick ps).map (·.1):=rfl
@[simp] theorem B9x (f:Nat):AC (.call f)=true:=rfl
@[simp] theorem B9y (t:Bool) (a b:PV):Ai Φ H nx .pick [.t (.v (.bool t)),a,b]=some (bif t then a else b,H,nx):=rfl
@[simp] theorem B9z (isB:Bool) (nk:Option NK) (k:IntKind) (a b:Int):Ai Φ H nx (.bin isB .add nk) [.t (.v (.int k a)),.t (.v (.int k b))]=some (.t (.v (.int k (k.wrap (a+b)))),H,nx):=by simp[Ai,DJ]
@[simp] theorem C0a (isB:Bool) (nk:Option NK) (k:IntKind) (a b:Int):Ai Φ H nx (.bin isB .sub nk) [.t (.v (.int k a)),.t (.v (.int k b))]=some (.t (.v (.int k (k.wrap (a-b)))),H,nx):=by simp[Ai,DJ]
@[simp] theorem C0b (isB:Bool) (nk:Option NK) (k:IntKind) (a b:Int):Ai Φ H nx (.bin isB .mul nk) [.t (.v (.int k a)),.t (.v (.int k b))]=some (.t (.v (.int k (k.wrap (a*b)))),H,nx):=by simp[Ai,DJ]
@[simp] theorem C0c (isB:Bool) (nk:Option NK) (k:IntKind) (a b:Int):Ai Φ H nx (.bin isB .and nk) [.t (.v (.int k a)),.t (.v (.int k b))]=some (.t (.v (.int k (k.wrap (Xa k.bits a&&&Xa k.bits b).toNat))),H,nx):=by simp[Ai,DJ]
@[simp] theorem C0d (isB:Bool) (nk:Option NK) (k:IntKind) (a b:Int):Ai Φ H nx (.bin isB .or nk) [.t (.v (.int k a)),.t (.v (.int k b))]=some (.t (.v (.int k (k.wrap (Xa k.bits a|||Xa k.bits b).toNat))),H,nx):=by simp[Ai,DJ]
@[simp] theorem C0e (isB:Bool) (nk:Option NK) (k:IntKind) (a b:Int):Ai Φ H nx (.bin isB .xor nk) [.t (.v (.int k a)),.t (.v (.int k b))]=some (.t (.v (.int k (k.wrap (Xa k.bits a ^^^ Xa k.bits b).toNat))),H,nx):=by simp[Ai,DJ]
@[simp] theorem C0f (isB:Bool) (nk:Option NK) (k:IntKind) (a b:Int):Ai Φ H nx (.bin isB .andNot nk) [.t (.v (.int k a)),.t (.v (.int k b))]=some (.t (.v (.int k (k.wrap (Xa k.bits a &&& ~~~ (Xa k.bits b)).toNat))),H,nx):=by simp[Ai,DJ]
@[simp] theorem C0g (isB:Bool) (nk:Option NK) (k:IntKind) (a b:Int):Ai Φ H nx (.bin isB .eql nk) [.t (.v (.int k a)),.t (.v (.int k b))]=some (.t (.v (.bool (a==b))),H,nx):=by simp[Ai,DJ]
@[simp] theorem C0h (isB:Bool) (nk:Option NK) (k:IntKind) (a b:Int):Ai Φ H nx (.bin isB .neq nk) [.t (.v (.int k a)),.t (.v (.int k b))]=some (.t (.v (.bool (a != b))),H,nx):=by simp[Ai,DJ]
@[simp] theorem C0i (isB:Bool) (nk:Option NK) (k:IntKind) (a b:Int):Ai Φ H nx (.bin isB .lss nk) [.t (.v (.int k a)),.t (.v (.int k b))]=some (.t (.v (.bool (decide (a<b)))),H,nx):=by simp[Ai,DJ]
@[simp] theorem C0j (isB:Bool) (nk:Option NK) (k:IntKind) (a b:Int):Ai Φ H nx (.bin isB .leq nk) [.t (.v (.int k a)),.t (.v (.int k b))]=some (.t (.v (.bool (decide (a<=b)))),H,nx):=by simp[Ai,DJ]
@[simp] theorem C0k (isB:Bool) (nk:Option NK) (k:IntKind) (a b:Int):Ai Φ H nx (.bin isB .gtr nk) [.t (.v (.int k a)),.t (.v (.int k b))]=some (.t (.v (.bool (decide (b<a)))),H,nx):=by simp[Ai,DJ]
@[simp] theorem C0l (isB:Bool) (nk:Option NK) (k:IntKind) (a b:Int):Ai Φ H nx (.bin isB .geq nk) [.t (.v (.int k a)),.t (.v (.int k b))]=some (.t (.v (.bool (decide (b<=a)))),H,nx):=by simp[Ai,DJ]
@[simp] theorem C0m (isB:Bool) (nk:Option NK) (k:IntKind) (a b:Int) (h:¬b=0):Ai Φ H nx (.bin isB .quo nk) [.t (.v (.int k a)),.t (.v (.int k b))]=some (.t (.v (.int k (k.wrap (a.tdiv b)))),H,nx):=by simp[Ai,DJ,h]
@[simp] theorem C0n (isB:Bool) (nk:Option NK) (k:IntKind) (a b:Int) (h:¬b=0):Ai Φ H nx (.bin isB .rem nk) [.t (.v (.int k a)),.t (.v (.int k b))]=some (.t (.v (.int k (a.tmod b))),H,nx):=by simp[Ai,DJ,h]
@[simp] theorem C0o (isB:Bool) (nk:Option NK) (k k':IntKind) (a b:Int) (h:¬b<0):Ai Φ H nx (.bin isB .shl nk) [.t (.v (.int k a)),.t (.v (.int k' b))]=some (.t (.v (.int k (k.wrap (a*2^(min b.toNat k.bits))))),H,nx):=by simp[Ai,DJ,h]
@[simp] theorem C0p (isB:Bool) (nk:Option NK) (k k':IntKind) (a b:Int) (h:¬b<0):Ai Φ H nx (.bin isB .shr nk) [.t (.v (.int k a)),.t (.v (.int k' b))]=some (.t (.v (.int k (a.fdiv (2^(min b.toNat k.bits))))),H,nx):=by simp[Ai,DJ,h]
@[simp] theorem C0q (isB:Bool) (nk:Option NK) (a b:ByteArray):Ai Φ H nx (.bin isB .eql nk) [.t (.v (.string a)),.t (.v (.string b))]=some (.t (.v (.bool (a.toList==b.toList))),H,nx):=rfl
@[simp] theorem C0r (isB:Bool) (nk:Option NK) (a b:ByteArray):Ai Φ H nx (.bin isB .neq nk) [.t (.v (.string a)),.t (.v (.string b))]=some (.t (.v (.bool (!(a.toList==b.toList)))),H,nx):=rfl
@[simp] theorem C0s (nk:Option NK) (a b:Bool):Ai Φ H nx (.bin true .eql nk) [.t (.v (.bool a)),.t (.v (.bool b))]=some (.t (.v (.bool (a==b))),H,nx):=rfl
@[simp] theorem C0t (nk:Option NK) (a b:Bool):Ai Φ H nx (.bin true .neq nk) [.t (.v (.bool a)),.t (.v (.bool b))]=some (.t (.v (.bool (!(a==b)))),H,nx):=rfl
@[simp] theorem C0u (f:Nat) (ps:List PV):Ai Φ H nx (.call f) ps=(BQ H ps).bind λq=>(Φ f q.1).map λr=>(.t r,if q.2.isEmpty then H else if DI r then H else Dy H q.2,nx):=by
 simp only[Ai]
 cases BQ H ps with
 | none=>rfl
 | some q=>obtain⟨a,b⟩:=q;simp only[Xc];cases Φ f a<;>rfl
@[simp] theorem C0v (f:Nat) (ps:List PV):Bk Φ H nx (.call f) ps=(BQ H ps).bind λq=>(Φ f q.1).bind λr=>if q.2.isEmpty||DI r then some (.t r)else none:=by
 simp only[Bk,AC,if_true]
 cases BQ H ps with
 | none=>rfl
 | some q=>obtain⟨a,b⟩:=q;simp only[Xc];cases Φ f a<;>rfl
@[simp] theorem C0w (e n:Nat) (zc:List Value) (len:Nat) (idx:List Nat) (ps:List PV):Ai Φ H nx (.tslice e n zc len idx) ps=(KY e n zc len (idx.zip ps)).map λr=>(r,H,nx):=rfl
@[simp] theorem C0x (e n:Nat) (zc:List Value) (len:Nat) (idx:List Nat):AC (.tslice e n zc len idx)=true:=rfl
@[simp] theorem C0y (e n:Nat) (zc:List Value) (len:Nat) (idx:List Nat) (ps:List PV):Bk Φ H nx (.tslice e n zc len idx) ps=(Ai Φ H nx (.tslice e n zc len idx) ps).map (·.1):=rfl
@[simp] theorem C0z (f:Nat) (ps:List PV):Ai Φ H nx (.hcall f) ps=Φ.h f ps H nx:=rfl
@[simp] theorem C1a (f:Nat):AC (.hcall f)=false:=rfl
@[simp] theorem C1b (f:Nat) (ps:List PV):Ai Φ H nx .callv (.t (.v (.func (.func f) #[] #[]))::ps)=Φ.h f ps H nx:=rfl
@[simp] theorem C1c (f:Nat) (first cap ps:List PV):Ai Φ H nx .callv (.fn (.func f) first cap::ps)=Φ.h f (first++ps++cap) H nx:=rfl
@[simp] theorem C1d:AC .callv=false:=rfl
@[simp] theorem C1e (e:EK) (ps:List PV):Ai Φ H nx (.ex e) ps=(exM e ps).map λr=>(r,H,nx):=rfl
@[simp] theorem C1f (e:EK):AC (.ex e)=true:=rfl
@[simp] theorem C1g (e:EK) (ps:List PV):Bk Φ H nx (.ex e) ps=(Ai Φ H nx (.ex e) ps).map (·.1):=rfl
@[simp] theorem C1h (h:HK) (ps:List PV):Ai Φ H nx (.hx h) ps=hxM h H nx ps:=rfl
@[simp] theorem C1i (h:HK):AC (.hx h)=false:=rfl
@[simp] theorem C1j (neg:Bool) (ks:List CK) (xs ys:List T):exM (.eqs neg ks) [.t (.ag xs),.t (.ag ys)]=(Ex ks xs ys).map λr=>.t (.v (.bool (if neg then !r else r))):=rfl
@[simp] theorem C1k (s:ByteArray):hxM .range H nx [.t (.v (.string s))]=some (.ptr nx 0,(nx,.iter s 0)::H,nx+1):=rfl
@[simp] theorem C1l {α β:Type} (x:Option α) (f:α->Option β) (K:β->Prop):BJ (x.bind f) K=BJ x λa=>BJ (f a) K:=by cases x<;>rfl
end
@[simp] theorem C1m (x:Value):DI (.v x)=true:=rfl
@[simp] theorem C1n (n:Nat) (cs:List T):DI (.sl n cs)=false:=rfl
@[simp] theorem C1o (cs:List T):DI (.pt cs)=false:=rfl
@[simp] theorem C1p {α:Type} (k:Nat):Aa ([]:List (Nat×α)) k=none:=rfl
@[simp] theorem Az {α:Type} (k j:Nat) (x:α) (r:List (Nat×α)):Aa ((k,x)::r) j=if k=j then some x else Aa r j:=rfl
@[simp] theorem JF (ts:List T):Eh (ts.map PV.t)=some ts:=by
 induction ts with
 | nil=>rfl
 | cons x r ih=>simp[ih]
section
variable {Φ : A7} {env : List (Nat × PV)} {H : Ab} {nx n : Nat} {K : Ad -> Prop} {Q : Exit -> Ad -> Prop} {d : Option Nat} {k : MK} {xs : List Opd} {r : List A3}
@[simp] theorem C1q (j:Nat) (p:PV) (H':Ab) (nx':Nat):Ad.set ⟨env,H,nx,n⟩ (some j) (p,H',nx')=⟨(j,p)::env,H',nx',n⟩:=rfl
@[simp] theorem C1r (p:PV) (H':Ab) (nx':Nat):Ad.set ⟨env,H,nx,n⟩ none (p,H',nx')=⟨env,H',nx',n⟩:=rfl
@[simp] theorem C1s {s:Ad}:Ej Φ [] s K=K s:=rfl
@[simp] theorem C1t:Ej Φ (⟨d,k,xs,none⟩::r) ⟨env,H,nx,n⟩ K=BJ (Ai Φ H nx k (xs.map (·.ev env))) λq=>Ej Φ r (Ad.set ⟨env,H,nx,n⟩ d q) K:=rfl
@[simp] theorem C1u {g:Nat} {want:Bool} (h:Aa env g=some (.t (.v (.bool want)))) :
  Ej Φ (⟨d,k,xs,some (g,want)⟩::r) ⟨env,H,nx,n⟩ K=BJ (Ai Φ H nx k (xs.map (·.ev env))) λq=>Ej Φ r (Ad.set ⟨env,H,nx,n⟩ d q) K:=by
 simp only[Ej,GU,A3.wants,h,beq_self_eq_true,IC]
theorem XA {g:Nat} {want b:Bool} (h:Aa env g=some (.t (.v (.bool b)))) (hb:(b==want)=false) :
  Ej Φ (⟨d,k,xs,some (g,want)⟩::r) ⟨env,H,nx,n⟩ K=Ej Φ r (Ad.set ⟨env,H,nx,n⟩ d (.t (.v undef),H,nx)) K:=by
 simp only[Ej,GU,A3.wants,h,hb,ID]
@[simp] theorem C1v {g:Nat} (h:Aa env g=some (.t (.v (.bool false)))) :
 Ej Φ (⟨d,k,xs,some (g,true)⟩::r) ⟨env,H,nx,n⟩ K=Ej Φ r (Ad.set ⟨env,H,nx,n⟩ d (.t (.v undef),H,nx)) K:=XA h rfl
@[simp] theorem C1w {g:Nat} (h:Aa env g=some (.t (.v (.bool true)))) :
 Ej Φ (⟨d,k,xs,some (g,false)⟩::r) ⟨env,H,nx,n⟩ K=Ej Φ r (Ad.set ⟨env,H,nx,n⟩ d (.t (.v undef),H,nx)) K:=XA h rfl
@[simp] theorem C1x {g:Nat} {want:Bool} (h:Aa env g=some (.t (.v undef))) :
  Ej Φ (⟨d,k,xs,some (g,want)⟩::r) ⟨env,H,nx,n⟩ K=Ej Φ r (Ad.set ⟨env,H,nx,n⟩ d (.t (.v undef),H,nx)) K:=by
 simp only[Ej,GU,A3.wants,h,undef,ID]
@[simp] theorem C1y {s:Ad}:CM Φ [] s K=K s:=rfl
@[simp] theorem C1z (hk:AC k=true):CM Φ (⟨d,k,xs,none⟩::r) ⟨env,H,nx,n⟩ K=BJ (Bk Φ H nx k (xs.map (·.ev env))) λv=>CM Φ r (Ad.set ⟨env,H,nx,n⟩ d (v,H,nx)) K:=by
 simp only[CM,IE,hk,if_true,A3.wants,IC]
@[simp] theorem C2a (hk:AC k=false):CM Φ (⟨d,k,xs,none⟩::r) ⟨env,H,nx,n⟩ K=BJ (Ai Φ H nx k (xs.map (·.ev env))) λq=>CM Φ r (Ad.set ⟨env,H,nx,n⟩ d q) K:=by
 simp only[CM,IE,hk,Xb,if_false,GU,A3.wants,IC]
@[simp] theorem C2b {g:Nat} {want:Bool} (hk:AC k=true) (h:Aa env g=some (.t (.v (.bool want)))) :
  CM Φ (⟨d,k,xs,some (g,want)⟩::r) ⟨env,H,nx,n⟩ K=BJ (Bk Φ H nx k (xs.map (·.ev env))) λv=>CM Φ r (Ad.set ⟨env,H,nx,n⟩ d (v,H,nx)) K:=by
 simp only[CM,IE,hk,if_true,A3.wants,h,beq_self_eq_true,IC]
@[simp] theorem C2c {g:Nat} {want:Bool} (hk:AC k=false) (h:Aa env g=some (.t (.v (.bool want)))) :
  CM Φ (⟨d,k,xs,some (g,want)⟩::r) ⟨env,H,nx,n⟩ K=BJ (Ai Φ H nx k (xs.map (·.ev env))) λq=>CM Φ r (Ad.set ⟨env,H,nx,n⟩ d q) K:=by
 simp only[CM,IE,hk,Xb,if_false,GU,A3.wants,h,beq_self_eq_true,IC]
theorem XB {g:Nat} {want b:Bool} (h:Aa env g=some (.t (.v (.bool b)))) (hb:(b==want)=false) :
  CM Φ (⟨d,k,xs,some (g,want)⟩::r) ⟨env,H,nx,n⟩ K=CM Φ r (Ad.set ⟨env,H,nx,n⟩ d (.t (.v undef),H,nx)) K:=by
 simp only[CM,IE,GU,A3.wants,h,hb,ID,ite_self]
@[simp] theorem C2d {g:Nat} (h:Aa env g=some (.t (.v (.bool false)))) :
 CM Φ (⟨d,k,xs,some (g,true)⟩::r) ⟨env,H,nx,n⟩ K=CM Φ r (Ad.set ⟨env,H,nx,n⟩ d (.t (.v undef),H,nx)) K:=XB h rfl
@[simp] theorem C2e {g:Nat} (h:Aa env g=some (.t (.v (.bool true)))) :
 CM Φ (⟨d,k,xs,some (g,false)⟩::r) ⟨env,H,nx,n⟩ K=CM Φ r (Ad.set ⟨env,H,nx,n⟩ d (.t (.v undef),H,nx)) K:=XB h rfl
@[simp] theorem C2f {g:Nat} {want:Bool} (h:Aa env g=some (.t (.v undef))) :
  CM Φ (⟨d,k,xs,some (g,want)⟩::r) ⟨env,H,nx,n⟩ K=CM Φ r (Ad.set ⟨env,H,nx,n⟩ d (.t (.v undef),H,nx)) K:=by
 simp only[CM,IE,GU,A3.wants,h,undef,ID,ite_self]
variable {κ j b : Nat} {pd : Fa} {gr : List GI} {kp : Bool} {ag : List Nat}
@[simp] theorem C2g {C:Prop}:FJ Φ pd H nx [] C=C:=rfl
@[simp] theorem C2h {i:Nat} {r:List Nat} {C:Prop}:FJ Φ pd H nx (i::r) C=BJ (Aa pd i) λx=>Bk Φ H nx x.1 x.2.1=some x.2.2/\FJ Φ pd H nx r C:=rfl
@[simp] theorem C2i {m:A3} {v:PV}:Gr true j m ⟨env,H,nx,n⟩ v pd=(j,m.k,m.xs.map (·.ev env),v)::pd:=rfl
@[simp] theorem C2j {m:A3} {s:Ad} {v:PV}:Gr false j m s v pd=pd:=rfl
@[simp] theorem C2k {s:Ad}:DU Φ κ j b pd [] s K=K s:=rfl
@[simp] theorem C2l (hk:AC k=true):DU Φ κ j b pd (.o ⟨d,k,xs,none⟩ kp ag::gr) ⟨env,H,nx,n⟩ K =
  BJ (Bk Φ H nx k (xs.map (·.ev env))) λv=>FJ Φ pd H nx ag (DU Φ κ (j+1) b (Gr kp j ⟨d,k,xs,none⟩ ⟨env,H,nx,n⟩ v pd) gr (Ad.set ⟨env,H,nx,n⟩ d (v,H,nx)) K):=by
 simp only[DU,Gq,hk,if_true,JA,A3.wants,WU]
@[simp] theorem C2m (hk:AC k=false):DU Φ κ j b pd (.o ⟨d,k,xs,none⟩ kp ag::gr) ⟨env,H,nx,n⟩ K =
  BJ (Ai Φ H nx k (xs.map (·.ev env))) λq=>FJ Φ pd q.2.1 q.2.2 ag (DU Φ κ (j+1) b (Gr kp j ⟨d,k,xs,none⟩ ⟨env,H,nx,n⟩ q.1 pd) gr (Ad.set ⟨env,H,nx,n⟩ d q) K):=by
 simp only[DU,Gq,hk,Xb,if_false,A3.wants]
@[simp] theorem C2n {m:A3}:DU Φ κ j b pd (.g 0 m::gr) ⟨env,H,nx,n⟩ K =
 BJ (Ai Φ H (nx+κ) m.k (m.xs.map (·.ev env))) λq=>DU Φ κ (j+1) nx pd gr (Ad.set ⟨env,H,nx,n⟩ m.dst (q.1,q.2.1,nx+2*κ)) K:=rfl
@[simp] theorem C2o {m:A3} {i:Nat} (hi:i≠0):DU Φ κ j b pd (.g i m::gr) ⟨env,H,nx,n⟩ K =
  BJ (Ai Φ H (b+κ+i) m.k (m.xs.map (·.ev env))) λq=>DU Φ κ (j+1) b pd gr (Ad.set ⟨env,H,nx,n⟩ m.dst (q.1,q.2.1,b+2*κ)) K:=by
 simp only[DU,zz hi]
@[simp] theorem C2p {l:List GI}:Cf Φ (.drawG κ l) ⟨env,H,nx,n⟩ Q=DU Φ κ 0 0 [] l ⟨env,H,nx,n⟩ (Q .normal):=rfl
@[simp] theorem C2q {s:Ad}:Cf Φ .skip s Q=Q .normal s:=rfl
@[simp] theorem C2r {l:List A3}:Cf Φ (.ops l) ⟨env,H,nx,n⟩ Q=Ej Φ l ⟨env,H,nx,n⟩ (Q .normal):=rfl
@[simp] theorem C2s {l:List A3}:Cf Φ (.draw l) ⟨env,H,nx,n⟩ Q=CM Φ l ⟨env,H,nx,n⟩ (Q .normal):=rfl
@[simp] theorem C2t {a b:An}:Cf Φ (.seq a b) ⟨env,H,nx,n⟩ Q=Cf Φ a ⟨env,H,nx,n⟩ (Gu (λs1=>Cf Φ b s1 Q) Q):=rfl
@[simp] theorem C2u {c:Opd} {a b:An} (h:c.ev env = .t (.v (.bool true))):Cf Φ (.cond c a b) ⟨env,H,nx,n⟩ Q=Cf Φ a ⟨env,H,nx,n⟩ Q:=by simp only[Cf,h,WV]
@[simp] theorem C2v {c:Opd} {a b:An} (h:c.ev env = .t (.v (.bool false))):Cf Φ (.cond c a b) ⟨env,H,nx,n⟩ Q=Cf Φ b ⟨env,H,nx,n⟩ Q:=by simp only[Cf,h,WW]
@[simp] theorem C2w {i:Nat} {a:An}:Cf Φ (.block i a) ⟨env,H,nx,n⟩ Q=Cf Φ a ⟨env,H,nx,n⟩ (FX i Q):=rfl
@[simp] theorem C2x {i:Nat} {s:Ad}:Cf Φ (.exit i) s Q=Q (.exit i) s:=rfl
@[simp] theorem C2y {a:An}:Cf Φ (.scope a) ⟨env,H,nx,n⟩ Q=Cf Φ a ⟨env,H,nx,n⟩ (Iz Q):=rfl
@[simp] theorem C2z {s:Ad}:Cf Φ .ret s Q=Q .ret s:=rfl
@[simp] theorem C3a {vs:List RV} {R:T->Prop}:SB vs R ⟨env,H,nx,n⟩=BJ (Ez ⟨env,H,nx,n⟩ vs) λps=>BJ (toT H (Ei ps)) λq=>R q.1:=rfl
end
end Go.Abs
