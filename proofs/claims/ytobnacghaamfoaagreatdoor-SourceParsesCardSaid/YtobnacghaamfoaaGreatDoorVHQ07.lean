/- Auxiliary facts. -/
import Derived.Test.YtobnacghaamfoaaGreatDoorVHQ06
import Derived.KernelRfl
set_option linter.unusedSimpArgs false
set_option linter.unusedVariables false
open BitVec renaming ofInt->Xa
open Bool renaming false_eq_true->Xb
open Option renaming bind_some->Xc
namespace Go.Abs
open Go
def A0 (P:Program) (G:Ay) (f:FuncId) (k N:Nat) (M:Ak) (vs:List RV):Prop:=
 ∃fn,P.funcs[f]?=some fn/\(fn.name == "runtime.NumGoroutine")=false/\fn.body.bind (comp P G N)=some M/\fn.results.toList.mapM (GV P)=some vs/\k+(fn.ntmps-k)=N
theorem A0.call {P:Program} {G:Ay} {f:FuncId} {k N:Nat} {M:Ak} {vs:List RV} (h:A0 P G f k N M vs) {args:List T} (hk:args.length=k) {R:T->Prop}
  (hm:MC P G 0 N M (FC vs R) (IY N args)):AA P G f args R:=by
 obtain⟨fn,hf,hn,hb,hr,hN⟩:=h
 cases hbody:fn.body with
 | none=>rw[hbody]at hb;cases hb
 | some c=>
  rw[hbody]at hb;exact mT hf hbody hn hb hr (by rw[hk];exact hN) hm
theorem A0.callP {P:Program} {G:Ay} {f:FuncId} {k N:Nat} {M:Ak} {vs:List RV} (h:A0 P G f k N M vs) {ps:List PV} {H H':Ab} {nx nx':Nat} {r:PV} (hk:ps.length=k)
  (hm:MC P G nx N M (EA P G nx vs λr0 H0 nx0=>r0=r/\H0=H'/\nx0=nx') ⟨FD 0 ps,H,nx,N⟩):AB P G f ps H nx r H' nx':=by
 obtain⟨fn,hf,hn,hb,hr,hN⟩:=h
 cases hbody:fn.body with
 | none=>rw[hbody]at hb;cases hb
 | some c=>
  rw[hbody]at hb;exact mU hf hbody hn hb hr (by rw[hk];exact hN) hm
def BP {α:Type} (x:Option α) (K:α->Prop):Prop:=
 match x with
 | some a=>K a
 | none=>False
@[simp] theorem FE {α:Type} (a:α) (K:α->Prop):BP (some a) K=K a:=rfl
@[simp] theorem A9f {α:Type} (K:α->Prop):BP (none:Option α) K=False:=rfl
@[simp] theorem UY {α β:Type} (x:Option α) (f:α->β) (K:β->Prop):BP (x.map f) K=BP x λa=>K (f a):=by cases x<;>rfl
theorem G1 {α:Type} {x:Option α} {K:α->Prop} (h:BP x K):∃a,x=some a/\K a:=by
 cases x with
 | none=>exact h.elim
 | some a=>exact⟨a,rfl,h⟩
def Nc (x:Option Bool) (yes no:Prop):Prop:=
 match x with
 | some true=>yes
 | some false=>no
 | none=>False
@[simp] theorem HS (yes no:Prop):Nc (some true) yes no=yes:=rfl
@[simp] theorem HU (yes no:Prop):Nc (some false) yes no=no:=rfl
def Ac.set (s:Ac) (d:Option Nat) (q:PV×Ab×Nat):Ac:=
 match d with
 | some k=>⟨(k,q.1)::s.env,q.2.1,q.2.2,s.n⟩
 | none=>⟨s.env,q.2.1,q.2.2,s.n⟩
theorem IZ (s:Ac) (d:Option Nat) (r:PV) (H:Ab) (nx:Nat):s.set d (r,H,nx)=({ s with H:=H,nx:=nx }:Ac).put d r:=by cases d<;>rfl
def G3 (Φ:AC) (s:Ac) (m:Av) (K:Ac->Prop):Prop:=
 Nc (m.wants s.env) (BP (Ah Φ s.H s.nx m.k (m.xs.map (·.ev s.env))) λq=>K (s.set m.dst q)) (K (s.set m.dst (.t (.v undef),s.H,s.nx)))
def DQ (Φ:AC):List Av->Ac->(Ac->Prop)->Prop
 | [],s,K=>K s
 | m::r,s,K=>G3 Φ s m λs'=>DQ Φ r s' K
def HV (Φ:AC) (s:Ac) (m:Av) (K:Ac->Prop):Prop:=
 if A2 m.k then Nc (m.wants s.env) (BP (Bb Φ s.H s.nx m.k (m.xs.map (·.ev s.env))) λv=>K (s.set m.dst (v,s.H,s.nx))) (K (s.set m.dst (.t (.v undef),s.H,s.nx)))
 else G3 Φ s m K
def Cz (Φ:AC):List Av->Ac->(Ac->Prop)->Prop
 | [],s,K=>K s
 | m::r,s,K=>HV Φ s m λs'=>Cz Φ r s' K
def Fp (Φ:AC) (pd:Ew) (H:Ab) (nx:Nat):List Nat->Prop->Prop
 | [],K=>K
 | i::r,K=>BP (Aa pd i) λx=>Bb Φ H nx x.1 x.2.1=some x.2.2/\Fp Φ pd H nx r K
def Df (Φ:AC) (k:Nat):Nat->Nat->Ew->List GI->Ac->(Ac->Prop)->Prop
 | _,_,_,[],s,K=>K s
 | n,b,pd,.o m kp ag::r,s,K=>BP (FZ Φ s m) λq=>Fp Φ pd q.2.1 q.2.2 ag (Df Φ k (n+1) b (Ga kp n m s q.1 pd) r (s.set m.dst q) K)
 | n,b,pd,.g j m::r,s,K=>BP (Ah Φ s.H ((if j=0 then s.nx else b)+k+j) m.k (m.xs.map (·.ev s.env))) λq=>Df Φ k (n+1) (if j=0 then s.nx else b) pd r (s.set m.dst (q.1,q.2.1,(if j=0 then s.nx else b)+2*k)) K
def Gb (K:Ac->Prop) (Q:Exit->Ac->Prop):Exit->Ac->Prop
 | .normal,s=>K s
 | e,s=>Q e s
@[simp] theorem A9g (K:Ac->Prop) (Q:Exit->Ac->Prop) (s:Ac):Gb K Q .normal s=K s:=rfl
@[simp] theorem A9h (K:Ac->Prop) (Q:Exit->Ac->Prop) (s:Ac):Gb K Q .ret s=Q .ret s:=rfl
@[simp] theorem A9i (K:Ac->Prop) (Q:Exit->Ac->Prop) (i:Nat) (s:Ac):Gb K Q (.exit i) s=Q (.exit i) s:=rfl
@[simp] theorem A9j (i:Nat) (Q:Exit->Ac->Prop) (s:Ac):F8 i Q .normal s=Q .normal s:=rfl
@[simp] theorem A9k (i:Nat) (Q:Exit->Ac->Prop) (s:Ac):F8 i Q .ret s=Q .ret s:=rfl
@[simp] theorem Kd (i j:Nat) (Q:Exit->Ac->Prop) (s:Ac):F8 i Q (.exit j) s=if j=i then Q .normal s else Q (.exit j) s:=rfl
@[simp] theorem A9l (Q:Exit->Ac->Prop) (s:Ac):HQ Q .normal s=Q .normal s:=rfl
@[simp] theorem A9m (Q:Exit->Ac->Prop) (s:Ac):HQ Q .ret s=Q .ret s:=rfl
@[simp] theorem A9n (i:Nat) (Q:Exit->Ac->Prop) (s:Ac):HQ Q (.exit i) s=Q (.exit i) s:=rfl
def LG (p:PV) (yes no:Prop):Prop:=
 match p with
 | .t (.v (.bool true))=>yes
 | .t (.v (.bool false))=>no
 | _=>False
@[simp] theorem UZ (yes no:Prop):LG (.t (.v (.bool true))) yes no=yes:=rfl
@[simp] theorem Va (yes no:Prop):LG (.t (.v (.bool false))) yes no=no:=rfl
def Ca (Φ:AC):Ak->Ac->(Exit->Ac->Prop)->Prop
 | .skip,s,Q=>Q .normal s
 | .ops l,s,Q=>DQ Φ l s (Q .normal)
 | .draw l,s,Q=>Cz Φ l s (Q .normal)
 | .drawG k l,s,Q=>Df Φ k 0 0 [] l s (Q .normal)
 | .drawE l,s,Q=>Df Φ 0 0 0 [] l s (Q .normal)
 | .seq a b,s,Q=>Ca Φ a s (Gb (λs1=>Ca Φ b s1 Q) Q)
 | .cond c a b,s,Q=>LG (c.ev s.env) (Ca Φ a s Q) (Ca Φ b s Q)
 | .block id b,s,Q=>Ca Φ b s (F8 id Q)
 | .loop _,_,_=>False
 | .exit id,s,Q=>Q (.exit id) s
 | .ret,s,Q=>Q .ret s
 | .scope b,s,Q=>Ca Φ b s (HQ Q)
section
variable {P : Program} {G : Ay} {B N : Nat} {Φ : AC}
theorem Vb {s:Ac} {m:Av} {K:Ac->Prop} (h:G3 Φ s m K):∃s',IX Φ s m=some s'/\K s':=by
 unfold G3 at h;unfold IX
 cases hw:m.wants s.env with
 | none=>rw[hw]at h;exact h.elim
 | some b=>
  rw[hw]at h
  cases b with
  | true=>
   obtain⟨⟨r,H',nx'⟩,hq,hk⟩:=G1 h;exact⟨_,by simp only[hq];rfl,by rw[IZ]at hk;exact hk⟩
  | false=>exact⟨_,rfl,by simp only[HU,IZ]at h;exact h⟩
theorem Vc:∀{l:List Av} {s:Ac} {K:Ac->Prop},DQ Φ l s K->∃s',GR Φ l s=some s'/\K s'
 | [],s,K,h=>⟨s,rfl,h⟩
 | m::r,s,K,h=>by
  obtain⟨s1,h1,h2⟩:=Vb h;obtain⟨s2,h3,h4⟩:=Vc h2;exact⟨s2,by simp only[GR,h1,h3],h4⟩
theorem mV {s:Ac} {m:Av} {K:Ac->Prop} (h:HV Φ s m K):∃s',MV Φ s m=some s'/\K s':=by
 unfold HV at h;unfold MV;split at h
 .rename_i hq;rw[zy hq];unfold HN
  cases hw:m.wants s.env with
  | none=>rw[hw]at h;exact h.elim
  | some b=>
   rw[hw]at h
   cases b with
   | true=>
    obtain⟨v,hv,hk⟩:=G1 h;exact⟨_,by simp only[hv];rfl,by rw[IZ]at hk;exact hk⟩
   | false=>exact⟨_,rfl,by simp only[HU,IZ]at h;exact h⟩
 .rename_i hq;rw[zz hq];exact Vb h
theorem Vd:∀{l:List Av} {s:Ac} {K:Ac->Prop},Cz Φ l s K->∃s',Gy Φ l s=some s'/\K s'
 | [],s,K,h=>⟨s,rfl,h⟩
 | m::r,s,K,h=>by
  obtain⟨s1,h1,h2⟩:=mV h;obtain⟨s2,h3,h4⟩:=Vd h2;exact⟨s2,by simp only[Gy,h1,h3],h4⟩
theorem Ri {pd:Ew} {H:Ab} {nx:Nat} {K:Prop}:∀{ks:List Nat},Fp Φ pd H nx ks K->OH Φ pd H nx ks/\K
 | [],h=>⟨λi hi=>by simp at hi,h⟩
 | i::r,h=>by
  obtain⟨x,hx,he,hr⟩:=G1 h;obtain⟨h1,h2⟩:=Ri hr;refine⟨λj hj=>?_,h2⟩;rcases List.mem_cons.1 hj with rfl | hj
  .exact⟨x,hx,he⟩
  .exact h1 j hj
theorem Nd {k:Nat}:∀(l:List GI) {n b:Nat} {pd:Ew} {s:Ac} {K:Ac->Prop},Df Φ k n b pd l s K->∃s',Ex Φ k n b pd l s=some s'/\K s'
 | [],n,b,pd,s,K,h=>⟨s,rfl,h⟩
 | .o m kp ag::r,n,b,pd,s,K,h=>by
  obtain⟨⟨v,H',nx'⟩,hv,hk⟩:=G1 h;obtain⟨h1,h2⟩:=Ri hk;rw[IZ]at h2;obtain⟨s',h3,h4⟩:=Nd r h2;exact⟨s',by simp only[Ex,hv,zy h1,h3],h4⟩
 | .g j m::r,n,b,pd,s,K,h=>by
  obtain⟨⟨v,H',nx'⟩,hv,hk⟩:=G1 h;rw[IZ]at hk;obtain⟨s',h3,h4⟩:=Nd r hk;exact⟨s',by simp only[Ex,hv,h3],h4⟩
theorem Fq:∀(M:Ak) {s:Ac} {Q:Exit->Ac->Prop},Ca Φ M s Q->∃e s',BE Φ M s=some (e,s')/\Q e s'
 | .skip,s,Q,h=>⟨_,_,rfl,h⟩
 | .ops l,s,Q,h=>by
  obtain⟨s1,h1,h2⟩:=Vc h;exact⟨_,s1,by simp only[BE,h1],h2⟩
 | .draw l,s,Q,h=>by
  obtain⟨s1,h1,h2⟩:=Vd h;exact⟨_,s1,by simp only[BE,h1],h2⟩
 | .drawG k l,s,Q,h=>by
  obtain⟨s1,h1,h2⟩:=Nd l h;exact⟨_,s1,by simp only[BE,h1],h2⟩
 | .drawE l,s,Q,h=>by
  obtain⟨s1,h1,h2⟩:=Nd l h;exact⟨_,s1,by simp only[BE,h1],h2⟩
 | .seq a b,s,Q,h=>by
  obtain⟨e,s1,h1,h2⟩:=Fq a h;cases e
  case normal=>
   obtain⟨e2,s2,h3,h4⟩:=Fq b h2;exact⟨e2,s2,by simp only[BE,h1,h3],h4⟩
  all_goals exact⟨_,s1,by simp only[BE,h1],h2⟩
 | .cond c a b,s,Q,h=>by
  simp only[Ca]at h;unfold LG at h;split at h
  .rename_i hc;obtain⟨e,s1,h1,h2⟩:=Fq a h;exact⟨e,s1,by simp only[BE,hc,cond_true,h1],h2⟩
  .rename_i hc;obtain⟨e,s1,h1,h2⟩:=Fq b h;exact⟨e,s1,by simp only[BE,hc,cond_false,h1],h2⟩
  .exact h.elim
 | .block id b,s,Q,h=>by
  obtain⟨e,s1,h1,h2⟩:=Fq b h;cases e
  case exit i=>
   simp only[Kd]at h2;by_cases hi:i=id
   .rw[zy hi]at h2;exact⟨.normal,s1,by simp only[BE,h1,zy hi],h2⟩
   .rw[zz hi]at h2;exact⟨.exit i,s1,by simp only[BE,h1,zz hi],h2⟩
  all_goals exact⟨_,s1,by simp only[BE,h1],h2⟩
 | .loop _,s,Q,h=>h.elim
 | .exit id,s,Q,h=>⟨_,_,rfl,h⟩
 | .ret,s,Q,h=>⟨_,_,rfl,h⟩
 | .scope b,s,Q,h=>by
  obtain⟨e,s1,h1,h2⟩:=Fq b h;cases e
  case goto l=>exact h2.elim
  all_goals exact⟨_,s1,by simp only[BE,h1],h2⟩
theorem Aw (hΦ:Ctx P G Φ) {M:Ak} {s:Ac} {Q:Exit->Ac->Prop} (h:Ca Φ M s Q):MC P G B N M Q s:=by
 obtain⟨e,s',h1,h2⟩:=Fq M h;exact Eh hΦ M h1 h2
theorem Az (hΦ:Ctx P G Φ) {a b:Ak} {s:Ac} {Q:Exit->Ac->Prop} (h:Ca Φ a s (Gb (λs1=>MC P G B N b Q s1) Q)):MC P G B N (.seq a b) Q s:=by
 obtain⟨e,s',h1,h2⟩:=Fq a h;intro c hc hn;refine JY ?_ c hc hn;refine Eh hΦ a h1 ?_;cases e
 case normal=>exact⟨(Ey a h1).trans hn,h2⟩
 all_goals exact h2
theorem A0.runs {f:FuncId} {k:Nat} {M:Ak} {vs:List RV} (h:A0 P G f k N M vs) (hΦ:Ctx P G Φ) {args:List T} (hk:args.length=k) {R:T->Prop}
 (hm:Ca Φ M (IY N args) (FC vs R)):AA P G f args R:=h.call hk (Aw hΦ hm)
theorem Ve {vs:List RV} {R:T->Prop} {s:Ac} {ps:List PV} {r:T} {F:List Nat} (h1:CH s vs=some ps) (h2:toT s.H (CF ps)=some (r,F)) (h3:R r):FC vs R .ret s:=⟨.inr rfl,ps,r,F,h1,h2,h3⟩
def Rj (vs:List RV) (R:T->Prop) (s:Ac):Prop:=BP (CH s vs) λps=>BP (toT s.H (CF ps)) λq=>R q.1
@[simp] theorem EB {vs:List RV} {R:T->Prop} {s:Ac}:FC vs R .ret s=Rj vs R s:=by
 apply propext;constructor
 .rintro⟨_,ps,r,F,h1,h2,h3⟩;unfold Rj;rw[h1,FE,h2];exact h3
 .intro h;obtain⟨ps,h1,h⟩:=G1 h;obtain⟨q,h2,h3⟩:=G1 h;exact⟨.inr rfl,ps,q.1,q.2,h1,h2,h3⟩
end
section
variable {Φ : AC} {H : Ab} {nx : Nat}
@[simp] theorem A9o  (x:PV):Ah Φ H nx .mv [x]=some (x,H,nx):=rfl
@[simp] theorem A9p  : A2 .mv=true:=rfl
@[simp] theorem A9q  (ps:List PV):Bb Φ H nx .mv ps=(Ah Φ H nx .mv ps).map (·.1):=rfl
@[simp] theorem A9r (op:UnOp) (a:Value):Ah Φ H nx (.un op) [.t (.v a)]=(unV op a).map λv=>(.t (.v v),H,nx):=rfl
@[simp] theorem A9s (op:UnOp):A2 (.un op)=true:=rfl
@[simp] theorem A9t (op:UnOp) (ps:List PV):Bb Φ H nx (.un op) ps=(Ah Φ H nx (.un op) ps).map (·.1):=rfl
@[simp] theorem A9u (k:Option IntKind) (x:PV):Ah Φ H nx (.conv k) [x]=(OE k x).map λr=>(r,H,nx):=rfl
@[simp] theorem A9v (k:Option IntKind):A2 (.conv k)=true:=rfl
@[simp] theorem A9w (k:Option IntKind) (ps:List PV):Bb Φ H nx (.conv k) ps=(Ah Φ H nx (.conv k) ps).map (·.1):=rfl
@[simp] theorem A9x (agg:Bool) (n:Nat) (x:PV):Ah Φ H nx (.load agg n) [x]=(Ao agg n H x).map λr=>(r,H,nx):=rfl
@[simp] theorem A9y (agg:Bool) (n:Nat):A2 (.load agg n)=true:=rfl
@[simp] theorem A9z (agg:Bool) (n:Nat) (ps:List PV):Bb Φ H nx (.load agg n) ps=(Ah Φ H nx (.load agg n) ps).map (·.1):=rfl
@[simp] theorem B0a (off:Nat) (x:PV):Ah Φ H nx (.faddr off) [x]=(OC off x).map λr=>(r,H,nx):=rfl
@[simp] theorem B0b (off:Nat):A2 (.faddr off)=true:=rfl
@[simp] theorem B0c (off:Nat) (ps:List PV):Bb Φ H nx (.faddr off) ps=(Ah Φ H nx (.faddr off) ps).map (·.1):=rfl
@[simp] theorem B0d (off:Nat) (agg:Bool) (n:Nat) (x:PV):Ah Φ H nx (.field off agg n) [x]=(OD off agg n x).map λr=>(r,H,nx):=rfl
@[simp] theorem B0e (off:Nat) (agg:Bool) (n:Nat):A2 (.field off agg n)=true:=rfl
@[simp] theorem B0f (off:Nat) (agg:Bool) (n:Nat) (ps:List PV):Bb Φ H nx (.field off agg n) ps=(Ah Φ H nx (.field off agg n) ps).map (·.1):=rfl
@[simp] theorem B0g (z:Nat) (x:PV) (i:PV):Ah Φ H nx (.iaddr z) [x,i]=(Bm z x i).map λr=>(r,H,nx):=rfl
@[simp] theorem B0h (z:Nat):A2 (.iaddr z)=true:=rfl
@[simp] theorem B0i (z:Nat) (ps:List PV):Bb Φ H nx (.iaddr z) ps=(Ah Φ H nx (.iaddr z) ps).map (·.1):=rfl
@[simp] theorem B0j (n z:Nat) (x:PV) (i:PV):Ah Φ H nx (.aaddr n z) [x,i]=(OB n z x i).map λr=>(r,H,nx):=rfl
@[simp] theorem B0k (n z:Nat):A2 (.aaddr n z)=true:=rfl
@[simp] theorem B0l (n z:Nat) (ps:List PV):Bb Φ H nx (.aaddr n z) ps=(Ah Φ H nx (.aaddr n z) ps).map (·.1):=rfl
@[simp] theorem B0m  (x:PV) (i:PV):Ah Φ H nx .index [x,i]=(Lv x i).map λr=>(r,H,nx):=rfl
@[simp] theorem B0n  : A2 .index=true:=rfl
@[simp] theorem B0o  (ps:List PV):Bb Φ H nx .index ps=(Ah Φ H nx .index ps).map (·.1):=rfl
@[simp] theorem B0p  (x:PV):Ah Φ H nx (.slstr false false) [x]=(Dn x none none).map λr=>(r,H,nx):=rfl
@[simp] theorem B0q  : A2 (.slstr false false)=true:=rfl
@[simp] theorem B0r  (ps:List PV):Bb Φ H nx (.slstr false false) ps=(Ah Φ H nx (.slstr false false) ps).map (·.1):=rfl
@[simp] theorem B0s  (x:PV) (i:PV):Ah Φ H nx (.slstr true false) [x,i]=(Dn x (some i) none).map λr=>(r,H,nx):=rfl
@[simp] theorem B0t  : A2 (.slstr true false)=true:=rfl
@[simp] theorem B0u  (ps:List PV):Bb Φ H nx (.slstr true false) ps=(Ah Φ H nx (.slstr true false) ps).map (·.1):=rfl
@[simp] theorem B0v  (x:PV) (i:PV):Ah Φ H nx (.slstr false true) [x,i]=(Dn x none (some i)).map λr=>(r,H,nx):=rfl
@[simp] theorem B0w  : A2 (.slstr false true)=true:=rfl
@[simp] theorem B0x  (ps:List PV):Bb Φ H nx (.slstr false true) ps=(Ah Φ H nx (.slstr false true) ps).map (·.1):=rfl
@[simp] theorem B0y  (x:PV) (i:PV) (j:PV):Ah Φ H nx (.slstr true true) [x,i,j]=(Dn x (some i) (some j)).map λr=>(r,H,nx):=rfl
@[simp] theorem B0z  : A2 (.slstr true true)=true:=rfl
@[simp] theorem B1a  (ps:List PV):Bb Φ H nx (.slstr true true) ps=(Ah Φ H nx (.slstr true true) ps).map (·.1):=rfl
@[simp] theorem B1b (z:Nat) (x:PV):Ah Φ H nx (.slice z false false) [x]=(FY z x none none).map λr=>(r,H,nx):=rfl
@[simp] theorem B1c (z:Nat):A2 (.slice z false false)=true:=rfl
@[simp] theorem B1d (z:Nat) (ps:List PV):Bb Φ H nx (.slice z false false) ps=(Ah Φ H nx (.slice z false false) ps).map (·.1):=rfl
@[simp] theorem B1e (z:Nat) (x:PV) (i:PV):Ah Φ H nx (.slice z true false) [x,i]=(FY z x (some i) none).map λr=>(r,H,nx):=rfl
@[simp] theorem B1f (z:Nat):A2 (.slice z true false)=true:=rfl
@[simp] theorem B1g (z:Nat) (ps:List PV):Bb Φ H nx (.slice z true false) ps=(Ah Φ H nx (.slice z true false) ps).map (·.1):=rfl
@[simp] theorem B1h (z:Nat) (x:PV) (i:PV):Ah Φ H nx (.slice z false true) [x,i]=(FY z x none (some i)).map λr=>(r,H,nx):=rfl
@[simp] theorem B1i (z:Nat):A2 (.slice z false true)=true:=rfl
@[simp] theorem B1j (z:Nat) (ps:List PV):Bb Φ H nx (.slice z false true) ps=(Ah Φ H nx (.slice z false true) ps).map (·.1):=rfl
@[simp] theorem B1k (z:Nat) (x:PV) (i:PV) (j:PV):Ah Φ H nx (.slice z true true) [x,i,j]=(FY z x (some i) (some j)).map λr=>(r,H,nx):=rfl
@[simp] theorem B1l (z:Nat):A2 (.slice z true true)=true:=rfl
@[simp] theorem B1m (z:Nat) (ps:List PV):Bb Φ H nx (.slice z true true) ps=(Ah Φ H nx (.slice z true true) ps).map (·.1):=rfl
@[simp] theorem B1n (n:Nat) (x:PV):Ah Φ H nx (.ext n) [x]=(Bv x n).map λr=>(r,H,nx):=rfl
@[simp] theorem B1o (n:Nat):A2 (.ext n)=true:=rfl
@[simp] theorem B1p (n:Nat) (ps:List PV):Bb Φ H nx (.ext n) ps=(Ah Φ H nx (.ext n) ps).map (·.1):=rfl
@[simp] theorem B1q  (x:PV):Ah Φ H nx .chk [x]=(QQ x).map λr=>(r,H,nx):=rfl
@[simp] theorem B1r  : A2 .chk=true:=rfl
@[simp] theorem B1s  (ps:List PV):Bb Φ H nx .chk ps=(Ah Φ H nx .chk ps).map (·.1):=rfl
@[simp] theorem B1t  (x:PV):Ah Φ H nx .lenstr [x]=(QP x).map λr=>(r,H,nx):=rfl
@[simp] theorem B1u  : A2 .lenstr=true:=rfl
@[simp] theorem B1v  (ps:List PV):Bb Φ H nx .lenstr ps=(Ah Φ H nx .lenstr ps).map (·.1):=rfl
@[simp] theorem B1w  (x:PV):Ah Φ H nx .lensl [x]=(Bd x).map λr=>(r,H,nx):=rfl
@[simp] theorem B1x  : A2 .lensl=true:=rfl
@[simp] theorem B1y  (ps:List PV):Bb Φ H nx .lensl ps=(Ah Φ H nx .lensl ps).map (·.1):=rfl
@[simp] theorem B1z  (x:PV) (i:PV):Ah Φ H nx .min [x,i]=(MI x i).map λr=>(r,H,nx):=rfl
@[simp] theorem B2a  : A2 .min=true:=rfl
@[simp] theorem B2b  (ps:List PV):Bb Φ H nx .min ps=(Ah Φ H nx .min ps).map (·.1):=rfl
@[simp] theorem B2c  (x:PV) (i:PV):Ah Φ H nx .max [x,i]=(MJ x i).map λr=>(r,H,nx):=rfl
@[simp] theorem B2d  : A2 .max=true:=rfl
@[simp] theorem B2e  (ps:List PV):Bb Φ H nx .max ps=(Ah Φ H nx .max ps).map (·.1):=rfl
@[simp] theorem B2f (n:Nat) (x:PV) (i:PV):Ah Φ H nx (.store n) [x,i]=(A8 n H x i).map λH'=>(.t (.v undef),H',nx):=rfl
@[simp] theorem B2g (n:Nat):A2 (.store n)=false:=rfl
@[simp] theorem B2h (e n b:Nat) (zc:List Value) (x:PV) (i:PV):Ah Φ H nx (.make e n b zc) [x,i]=(Lw e n b zc x i nx).map λq=>(q.1,(nx,q.2)::H,nx+1):=rfl
@[simp] theorem B2i (e n b:Nat) (zc:List Value):A2 (.make e n b zc)=false:=rfl
@[simp] theorem B2j (e n:Nat) (zc:List Value) (len:Nat) (idx:List Nat) (ps:List PV):Ah Φ H nx (.bslice e n zc len idx) ps=(De e n zc len (idx.zip ps) nx).map λq=>(q.1,(nx,q.2)::H,nx+1):=rfl
@[simp] theorem B2k (e n:Nat) (zc:List Value) (len:Nat) (idx:List Nat)  : A2 (.bslice e n zc len idx)=false:=rfl
@[simp] theorem AF (places:List (Nat×Nat)) (zc:List Value) (idx:List Nat) (ps:List PV):Ah Φ H nx (.build places zc idx) ps=(DA (λk=>places[k]?) (zc.map λx=>.t (.v x)) (idx.zip ps)).map λcs=>(AN cs,H,nx):=rfl
@[simp] theorem B2l (places:List (Nat×Nat)) (zc:List Value) (idx:List Nat)  : A2 (.build places zc idx)=true:=rfl
@[simp] theorem Ja (places:List (Nat×Nat)) (zc:List Value) (idx:List Nat)  (ps:List PV):Bb Φ H nx (.build places zc idx) ps=(Ah Φ H nx (.build places zc idx) ps).map (·.1):=rfl
@[simp] theorem B2m (n:Nat) (zc:List Value) (idx:List Nat) (ps:List PV):Ah Φ H nx (.barr n zc idx) ps=(DA (λk=>some (k*n,n)) (zc.map λx=>.t (.v x)) (idx.zip ps)).map λcs=>(AN cs,H,nx):=rfl
@[simp] theorem B2n (n:Nat) (zc:List Value) (idx:List Nat)  : A2 (.barr n zc idx)=true:=rfl
@[simp] theorem B2o (n:Nat) (zc:List Value) (idx:List Nat)  (ps:List PV):Bb Φ H nx (.barr n zc idx) ps=(Ah Φ H nx (.barr n zc idx) ps).map (·.1):=rfl
@[simp] theorem B2p (t:Nat) (x:PV):Ah Φ H nx (.box t) [x]=(B7 x).map λps=>(.ptr nx 0,(nx,.cells t ps)::H,nx+1):=rfl
@[simp] theorem B2q (t:Nat):A2 (.box t)=false:=rfl
@[simp] theorem B2r (t:Nat) (zc:List Value)  : Ah Φ H nx (.alloc t zc) []=some (.ptr nx 0,(nx,.cells t (zc.map λx=>.t (.v x)))::H,nx+1):=rfl
@[simp] theorem B2s (t:Nat) (zc:List Value):A2 (.alloc t zc)=false:=rfl
@[simp] theorem B2t (e z b:Nat) (x:PV) (i:PV):Ah Φ H nx (.app e z b) [x,i]=B1 e z b H nx x i:=rfl
@[simp] theorem B2u (e z b:Nat):A2 (.app e z b)=false:=rfl
@[simp] theorem B2v (isB:Bool) (op:BinOp) (nk:Option NK):A2 (.bin isB op nk)=true:=rfl
@[simp] theorem B2w (isB:Bool) (op:BinOp) (nk:Option NK) (ps:List PV):Bb Φ H nx (.bin isB op nk) ps=(Ah Φ H nx (.bin isB op nk) ps).map (·.1):=rfl
@[simp] theorem B2x  : A2 .pick=true:=rfl
@[simp] theorem B2y  (ps:List PV):Bb Φ H nx .pick ps=(Ah Φ H nx .pick ps).map (·.1):=rfl
@[simp] theorem B2z (f:Nat):A2 (.call f)=true:=rfl
@[simp] theorem B3a (t:Bool) (a b:PV):Ah Φ H nx .pick [.t (.v (.bool t)),a,b]=some (bif t then a else b,H,nx):=rfl
@[simp] theorem B3b (isB:Bool) (nk:Option NK) (k:IntKind) (a b:Int):Ah Φ H nx (.bin isB .add nk) [.t (.v (.int k a)),.t (.v (.int k b))]=some (.t (.v (.int k (k.wrap (a+b)))),H,nx):=by simp[Ah,DC]
@[simp] theorem B3c (isB:Bool) (nk:Option NK) (k:IntKind) (a b:Int):Ah Φ H nx (.bin isB .sub nk) [.t (.v (.int k a)),.t (.v (.int k b))]=some (.t (.v (.int k (k.wrap (a-b)))),H,nx):=by simp[Ah,DC]
@[simp] theorem B3d (isB:Bool) (nk:Option NK) (k:IntKind) (a b:Int):Ah Φ H nx (.bin isB .mul nk) [.t (.v (.int k a)),.t (.v (.int k b))]=some (.t (.v (.int k (k.wrap (a*b)))),H,nx):=by simp[Ah,DC]
@[simp] theorem B3e (isB:Bool) (nk:Option NK) (k:IntKind) (a b:Int):Ah Φ H nx (.bin isB .and nk) [.t (.v (.int k a)),.t (.v (.int k b))]=some (.t (.v (.int k (k.wrap (Xa k.bits a&&&Xa k.bits b).toNat))),H,nx):=by simp[Ah,DC]
@[simp] theorem B3f (isB:Bool) (nk:Option NK) (k:IntKind) (a b:Int):Ah Φ H nx (.bin isB .or nk) [.t (.v (.int k a)),.t (.v (.int k b))]=some (.t (.v (.int k (k.wrap (Xa k.bits a|||Xa k.bits b).toNat))),H,nx):=by simp[Ah,DC]
@[simp] theorem B3g (isB:Bool) (nk:Option NK) (k:IntKind) (a b:Int):Ah Φ H nx (.bin isB .xor nk) [.t (.v (.int k a)),.t (.v (.int k b))]=some (.t (.v (.int k (k.wrap (Xa k.bits a ^^^ Xa k.bits b).toNat))),H,nx):=by simp[Ah,DC]
@[simp] theorem B3h (isB:Bool) (nk:Option NK) (k:IntKind) (a b:Int):Ah Φ H nx (.bin isB .andNot nk) [.t (.v (.int k a)),.t (.v (.int k b))]=some (.t (.v (.int k (k.wrap (Xa k.bits a &&& ~~~ (Xa k.bits b)).toNat))),H,nx):=by simp[Ah,DC]
@[simp] theorem B3i (isB:Bool) (nk:Option NK) (k:IntKind) (a b:Int):Ah Φ H nx (.bin isB .eql nk) [.t (.v (.int k a)),.t (.v (.int k b))]=some (.t (.v (.bool (a==b))),H,nx):=by simp[Ah,DC]
@[simp] theorem B3j (isB:Bool) (nk:Option NK) (k:IntKind) (a b:Int):Ah Φ H nx (.bin isB .neq nk) [.t (.v (.int k a)),.t (.v (.int k b))]=some (.t (.v (.bool (a != b))),H,nx):=by simp[Ah,DC]
@[simp] theorem B3k (isB:Bool) (nk:Option NK) (k:IntKind) (a b:Int):Ah Φ H nx (.bin isB .lss nk) [.t (.v (.int k a)),.t (.v (.int k b))]=some (.t (.v (.bool (decide (a<b)))),H,nx):=by simp[Ah,DC]
@[simp] theorem B3l (isB:Bool) (nk:Option NK) (k:IntKind) (a b:Int):Ah Φ H nx (.bin isB .leq nk) [.t (.v (.int k a)),.t (.v (.int k b))]=some (.t (.v (.bool (decide (a<=b)))),H,nx):=by simp[Ah,DC]
@[simp] theorem B3m (isB:Bool) (nk:Option NK) (k:IntKind) (a b:Int):Ah Φ H nx (.bin isB .gtr nk) [.t (.v (.int k a)),.t (.v (.int k b))]=some (.t (.v (.bool (decide (b<a)))),H,nx):=by simp[Ah,DC]
@[simp] theorem B3n (isB:Bool) (nk:Option NK) (k:IntKind) (a b:Int):Ah Φ H nx (.bin isB .geq nk) [.t (.v (.int k a)),.t (.v (.int k b))]=some (.t (.v (.bool (decide (b<=a)))),H,nx):=by simp[Ah,DC]
@[simp] theorem B3o (isB:Bool) (nk:Option NK) (k:IntKind) (a b:Int) (h:¬b=0):Ah Φ H nx (.bin isB .quo nk) [.t (.v (.int k a)),.t (.v (.int k b))]=some (.t (.v (.int k (k.wrap (a.tdiv b)))),H,nx):=by simp[Ah,DC,h]
@[simp] theorem B3p (isB:Bool) (nk:Option NK) (k:IntKind) (a b:Int) (h:¬b=0):Ah Φ H nx (.bin isB .rem nk) [.t (.v (.int k a)),.t (.v (.int k b))]=some (.t (.v (.int k (a.tmod b))),H,nx):=by simp[Ah,DC,h]
@[simp] theorem B3q (isB:Bool) (nk:Option NK) (k k':IntKind) (a b:Int) (h:¬b<0):Ah Φ H nx (.bin isB .shl nk) [.t (.v (.int k a)),.t (.v (.int k' b))]=some (.t (.v (.int k (k.wrap (a*2^(min b.toNat k.bits))))),H,nx):=by simp[Ah,DC,h]
@[simp] theorem B3r (isB:Bool) (nk:Option NK) (k k':IntKind) (a b:Int) (h:¬b<0):Ah Φ H nx (.bin isB .shr nk) [.t (.v (.int k a)),.t (.v (.int k' b))]=some (.t (.v (.int k (a.fdiv (2^(min b.toNat k.bits))))),H,nx):=by simp[Ah,DC,h]
@[simp] theorem B3s (isB:Bool) (nk:Option NK) (a b:ByteArray):Ah Φ H nx (.bin isB .eql nk) [.t (.v (.string a)),.t (.v (.string b))]=some (.t (.v (.bool (a.toList==b.toList))),H,nx):=rfl
@[simp] theorem B3t (isB:Bool) (nk:Option NK) (a b:ByteArray):Ah Φ H nx (.bin isB .neq nk) [.t (.v (.string a)),.t (.v (.string b))]=some (.t (.v (.bool (!(a.toList==b.toList)))),H,nx):=rfl
@[simp] theorem B3u (nk:Option NK) (a b:Bool):Ah Φ H nx (.bin true .eql nk) [.t (.v (.bool a)),.t (.v (.bool b))]=some (.t (.v (.bool (a==b))),H,nx):=rfl
@[simp] theorem B3v (nk:Option NK) (a b:Bool):Ah Φ H nx (.bin true .neq nk) [.t (.v (.bool a)),.t (.v (.bool b))]=some (.t (.v (.bool (!(a==b)))),H,nx):=rfl
@[simp] theorem B3w (f:Nat) (ps:List PV):Ah Φ H nx (.call f) ps=(Cx H ps).bind λq=>(Φ f q.1).map λr=>(.t r,if q.2.isEmpty then H else if CE r then H else Dl H q.2,nx):=by
 simp only[Ah]
 cases Cx H ps with
 | none=>rfl
 | some q=>obtain⟨a,b⟩:=q;simp only[Xc];cases Φ f a<;>rfl
@[simp] theorem B3x (f:Nat) (ps:List PV):Bb Φ H nx (.call f) ps=(Cx H ps).bind λq=>(Φ f q.1).bind λr=>if q.2.isEmpty||CE r then some (.t r)else none:=by
 simp only[Bb,A2,if_true]
 cases Cx H ps with
 | none=>rfl
 | some q=>obtain⟨a,b⟩:=q;simp only[Xc];cases Φ f a<;>rfl
@[simp] theorem B3y (e n:Nat) (zc:List Value) (len:Nat) (idx:List Nat) (ps:List PV):Ah Φ H nx (.tslice e n zc len idx) ps=(IW e n zc len (idx.zip ps)).map λr=>(r,H,nx):=rfl
@[simp] theorem B3z (e n:Nat) (zc:List Value) (len:Nat) (idx:List Nat):A2 (.tslice e n zc len idx)=true:=rfl
@[simp] theorem B4a (e n:Nat) (zc:List Value) (len:Nat) (idx:List Nat) (ps:List PV):Bb Φ H nx (.tslice e n zc len idx) ps=(Ah Φ H nx (.tslice e n zc len idx) ps).map (·.1):=rfl
@[simp] theorem B4b (f:Nat) (ps:List PV):Ah Φ H nx (.hcall f) ps=Φ.h f ps H nx:=rfl
@[simp] theorem B4c (f:Nat):A2 (.hcall f)=false:=rfl
@[simp] theorem B4d (f:Nat) (ps:List PV):Ah Φ H nx .callv (.t (.v (.func (.func f) #[] #[]))::ps)=Φ.h f ps H nx:=rfl
@[simp] theorem B4e (f:Nat) (first cap ps:List PV):Ah Φ H nx .callv (.fn (.func f) first cap::ps)=Φ.h f (first++ps++cap) H nx:=rfl
@[simp] theorem B4f:A2 .callv=false:=rfl
@[simp] theorem B4g (e:EK) (ps:List PV):Ah Φ H nx (.ex e) ps=(exM e ps).map λr=>(r,H,nx):=rfl
@[simp] theorem B4h (e:EK):A2 (.ex e)=true:=rfl
@[simp] theorem B4i (e:EK) (ps:List PV):Bb Φ H nx (.ex e) ps=(Ah Φ H nx (.ex e) ps).map (·.1):=rfl
@[simp] theorem B4j (h:HK) (ps:List PV):Ah Φ H nx (.hx h) ps=hxM h H nx ps:=rfl
@[simp] theorem B4k (h:HK):A2 (.hx h)=false:=rfl
@[simp] theorem B4l (neg:Bool) (ks:List CK) (xs ys:List T):exM (.eqs neg ks) [.t (.ag xs),.t (.ag ys)]=(DW ks xs ys).map λr=>.t (.v (.bool (if neg then !r else r))):=rfl
@[simp] theorem B4m (s:ByteArray):hxM .range H nx [.t (.v (.string s))]=some (.ptr nx 0,(nx,.iter s 0)::H,nx+1):=rfl
@[simp] theorem B4n {α β:Type} (x:Option α) (f:α->Option β) (K:β->Prop):BP (x.bind f) K=BP x λa=>BP (f a) K:=by cases x<;>rfl
end
@[simp] theorem B4o (x:Value):CE (.v x)=true:=rfl
@[simp] theorem B4p (n:Nat) (cs:List T):CE (.sl n cs)=false:=rfl
@[simp] theorem B4q (cs:List T):CE (.pt cs)=false:=rfl
@[simp] theorem B4r {α:Type} (k:Nat):Aa ([]:List (Nat×α)) k=none:=rfl
@[simp] theorem A1 {α:Type} (k j:Nat) (x:α) (r:List (Nat×α)):Aa ((k,x)::r) j=if k=j then some x else Aa r j:=rfl
@[simp] theorem Ke (ts:List T):Ee (ts.map PV.t)=some ts:=by
 induction ts with
 | nil=>rfl
 | cons x r ih=>simp[ih]
section
variable {Φ : AC} {env : List (Nat × PV)} {H : Ab} {nx n : Nat} {K : Ac -> Prop} {Q : Exit -> Ac -> Prop} {d : Option Nat} {k : MK} {xs : List Opd} {r : List Av}
@[simp] theorem B4s (j:Nat) (p:PV) (H':Ab) (nx':Nat):Ac.set ⟨env,H,nx,n⟩ (some j) (p,H',nx')=⟨(j,p)::env,H',nx',n⟩:=rfl
@[simp] theorem B4t (p:PV) (H':Ab) (nx':Nat):Ac.set ⟨env,H,nx,n⟩ none (p,H',nx')=⟨env,H',nx',n⟩:=rfl
@[simp] theorem B4u {s:Ac}:DQ Φ [] s K=K s:=rfl
@[simp] theorem B4v:DQ Φ (⟨d,k,xs,none⟩::r) ⟨env,H,nx,n⟩ K=BP (Ah Φ H nx k (xs.map (·.ev env))) λq=>DQ Φ r (Ac.set ⟨env,H,nx,n⟩ d q) K:=rfl
@[simp] theorem B4w {g:Nat} {want:Bool} (h:Aa env g=some (.t (.v (.bool want)))) :
  DQ Φ (⟨d,k,xs,some (g,want)⟩::r) ⟨env,H,nx,n⟩ K=BP (Ah Φ H nx k (xs.map (·.ev env))) λq=>DQ Φ r (Ac.set ⟨env,H,nx,n⟩ d q) K:=by
 simp only[DQ,G3,Av.wants,h,beq_self_eq_true,HS]
theorem Vf {g:Nat} {want b:Bool} (h:Aa env g=some (.t (.v (.bool b)))) (hb:(b==want)=false) :
  DQ Φ (⟨d,k,xs,some (g,want)⟩::r) ⟨env,H,nx,n⟩ K=DQ Φ r (Ac.set ⟨env,H,nx,n⟩ d (.t (.v undef),H,nx)) K:=by
 simp only[DQ,G3,Av.wants,h,hb,HU]
@[simp] theorem B4x {g:Nat} (h:Aa env g=some (.t (.v (.bool false)))) :
 DQ Φ (⟨d,k,xs,some (g,true)⟩::r) ⟨env,H,nx,n⟩ K=DQ Φ r (Ac.set ⟨env,H,nx,n⟩ d (.t (.v undef),H,nx)) K:=Vf h rfl
@[simp] theorem B4y {g:Nat} (h:Aa env g=some (.t (.v (.bool true)))) :
 DQ Φ (⟨d,k,xs,some (g,false)⟩::r) ⟨env,H,nx,n⟩ K=DQ Φ r (Ac.set ⟨env,H,nx,n⟩ d (.t (.v undef),H,nx)) K:=Vf h rfl
@[simp] theorem B4z {g:Nat} {want:Bool} (h:Aa env g=some (.t (.v undef))) :
  DQ Φ (⟨d,k,xs,some (g,want)⟩::r) ⟨env,H,nx,n⟩ K=DQ Φ r (Ac.set ⟨env,H,nx,n⟩ d (.t (.v undef),H,nx)) K:=by
 simp only[DQ,G3,Av.wants,h,undef,HU]
@[simp] theorem B5a {s:Ac}:Cz Φ [] s K=K s:=rfl
@[simp] theorem B5b (hk:A2 k=true):Cz Φ (⟨d,k,xs,none⟩::r) ⟨env,H,nx,n⟩ K=BP (Bb Φ H nx k (xs.map (·.ev env))) λv=>Cz Φ r (Ac.set ⟨env,H,nx,n⟩ d (v,H,nx)) K:=by
 simp only[Cz,HV,hk,if_true,Av.wants,HS]
@[simp] theorem B5c (hk:A2 k=false):Cz Φ (⟨d,k,xs,none⟩::r) ⟨env,H,nx,n⟩ K=BP (Ah Φ H nx k (xs.map (·.ev env))) λq=>Cz Φ r (Ac.set ⟨env,H,nx,n⟩ d q) K:=by
 simp only[Cz,HV,hk,Xb,if_false,G3,Av.wants,HS]
@[simp] theorem B5d {g:Nat} {want:Bool} (hk:A2 k=true) (h:Aa env g=some (.t (.v (.bool want)))) :
  Cz Φ (⟨d,k,xs,some (g,want)⟩::r) ⟨env,H,nx,n⟩ K=BP (Bb Φ H nx k (xs.map (·.ev env))) λv=>Cz Φ r (Ac.set ⟨env,H,nx,n⟩ d (v,H,nx)) K:=by
 simp only[Cz,HV,hk,if_true,Av.wants,h,beq_self_eq_true,HS]
@[simp] theorem B5e {g:Nat} {want:Bool} (hk:A2 k=false) (h:Aa env g=some (.t (.v (.bool want)))) :
  Cz Φ (⟨d,k,xs,some (g,want)⟩::r) ⟨env,H,nx,n⟩ K=BP (Ah Φ H nx k (xs.map (·.ev env))) λq=>Cz Φ r (Ac.set ⟨env,H,nx,n⟩ d q) K:=by
 simp only[Cz,HV,hk,Xb,if_false,G3,Av.wants,h,beq_self_eq_true,HS]
theorem Vg {g:Nat} {want b:Bool} (h:Aa env g=some (.t (.v (.bool b)))) (hb:(b==want)=false) :
  Cz Φ (⟨d,k,xs,some (g,want)⟩::r) ⟨env,H,nx,n⟩ K=Cz Φ r (Ac.set ⟨env,H,nx,n⟩ d (.t (.v undef),H,nx)) K:=by
 simp only[Cz,HV,G3,Av.wants,h,hb,HU,ite_self]
@[simp] theorem B5f {g:Nat} (h:Aa env g=some (.t (.v (.bool false)))) :
 Cz Φ (⟨d,k,xs,some (g,true)⟩::r) ⟨env,H,nx,n⟩ K=Cz Φ r (Ac.set ⟨env,H,nx,n⟩ d (.t (.v undef),H,nx)) K:=Vg h rfl
@[simp] theorem B5g {g:Nat} (h:Aa env g=some (.t (.v (.bool true)))) :
 Cz Φ (⟨d,k,xs,some (g,false)⟩::r) ⟨env,H,nx,n⟩ K=Cz Φ r (Ac.set ⟨env,H,nx,n⟩ d (.t (.v undef),H,nx)) K:=Vg h rfl
@[simp] theorem B5h {g:Nat} {want:Bool} (h:Aa env g=some (.t (.v undef))) :
  Cz Φ (⟨d,k,xs,some (g,want)⟩::r) ⟨env,H,nx,n⟩ K=Cz Φ r (Ac.set ⟨env,H,nx,n⟩ d (.t (.v undef),H,nx)) K:=by
 simp only[Cz,HV,G3,Av.wants,h,undef,HU,ite_self]
variable {κ j b : Nat} {pd : Ew} {gr : List GI} {kp : Bool} {ag : List Nat}
@[simp] theorem B5i {C:Prop}:Fp Φ pd H nx [] C=C:=rfl
@[simp] theorem B5j {i:Nat} {r:List Nat} {C:Prop}:Fp Φ pd H nx (i::r) C=BP (Aa pd i) λx=>Bb Φ H nx x.1 x.2.1=some x.2.2/\Fp Φ pd H nx r C:=rfl
@[simp] theorem B5k {m:Av} {v:PV}:Ga true j m ⟨env,H,nx,n⟩ v pd=(j,m.k,m.xs.map (·.ev env),v)::pd:=rfl
@[simp] theorem B5l {m:Av} {s:Ac} {v:PV}:Ga false j m s v pd=pd:=rfl
@[simp] theorem B5m {s:Ac}:Df Φ κ j b pd [] s K=K s:=rfl
@[simp] theorem B5n (hk:A2 k=true):Df Φ κ j b pd (.o ⟨d,k,xs,none⟩ kp ag::gr) ⟨env,H,nx,n⟩ K =
  BP (Bb Φ H nx k (xs.map (·.ev env))) λv=>Fp Φ pd H nx ag (Df Φ κ (j+1) b (Ga kp j ⟨d,k,xs,none⟩ ⟨env,H,nx,n⟩ v pd) gr (Ac.set ⟨env,H,nx,n⟩ d (v,H,nx)) K):=by
 simp only[Df,FZ,hk,if_true,HN,Av.wants,UY]
@[simp] theorem B5o (hk:A2 k=false):Df Φ κ j b pd (.o ⟨d,k,xs,none⟩ kp ag::gr) ⟨env,H,nx,n⟩ K =
  BP (Ah Φ H nx k (xs.map (·.ev env))) λq=>Fp Φ pd q.2.1 q.2.2 ag (Df Φ κ (j+1) b (Ga kp j ⟨d,k,xs,none⟩ ⟨env,H,nx,n⟩ q.1 pd) gr (Ac.set ⟨env,H,nx,n⟩ d q) K):=by
 simp only[Df,FZ,hk,Xb,if_false,Av.wants]
@[simp] theorem B5p {m:Av}:Df Φ κ j b pd (.g 0 m::gr) ⟨env,H,nx,n⟩ K =
 BP (Ah Φ H (nx+κ) m.k (m.xs.map (·.ev env))) λq=>Df Φ κ (j+1) nx pd gr (Ac.set ⟨env,H,nx,n⟩ m.dst (q.1,q.2.1,nx+2*κ)) K:=rfl
@[simp] theorem B5q {m:Av} {i:Nat} (hi:i≠0):Df Φ κ j b pd (.g i m::gr) ⟨env,H,nx,n⟩ K =
  BP (Ah Φ H (b+κ+i) m.k (m.xs.map (·.ev env))) λq=>Df Φ κ (j+1) b pd gr (Ac.set ⟨env,H,nx,n⟩ m.dst (q.1,q.2.1,b+2*κ)) K:=by
 simp only[Df,zz hi]
@[simp] theorem B5r {l:List GI}:Ca Φ (.drawG κ l) ⟨env,H,nx,n⟩ Q=Df Φ κ 0 0 [] l ⟨env,H,nx,n⟩ (Q .normal):=rfl
@[simp] theorem B5s {l:List GI}:Ca Φ (.drawE l) ⟨env,H,nx,n⟩ Q=Df Φ 0 0 0 [] l ⟨env,H,nx,n⟩ (Q .normal):=rfl
@[simp] theorem B5t {s:Ac}:Ca Φ .skip s Q=Q .normal s:=rfl
@[simp] theorem B5u {l:List Av}:Ca Φ (.ops l) ⟨env,H,nx,n⟩ Q=DQ Φ l ⟨env,H,nx,n⟩ (Q .normal):=rfl
@[simp] theorem B5v {l:List Av}:Ca Φ (.draw l) ⟨env,H,nx,n⟩ Q=Cz Φ l ⟨env,H,nx,n⟩ (Q .normal):=rfl
@[simp] theorem B5w {a b:Ak}:Ca Φ (.seq a b) ⟨env,H,nx,n⟩ Q=Ca Φ a ⟨env,H,nx,n⟩ (Gb (λs1=>Ca Φ b s1 Q) Q):=rfl
@[simp] theorem B5x {c:Opd} {a b:Ak} (h:c.ev env = .t (.v (.bool true))):Ca Φ (.cond c a b) ⟨env,H,nx,n⟩ Q=Ca Φ a ⟨env,H,nx,n⟩ Q:=by simp only[Ca,h,UZ]
@[simp] theorem B5y {c:Opd} {a b:Ak} (h:c.ev env = .t (.v (.bool false))):Ca Φ (.cond c a b) ⟨env,H,nx,n⟩ Q=Ca Φ b ⟨env,H,nx,n⟩ Q:=by simp only[Ca,h,Va]
@[simp] theorem B5z {i:Nat} {a:Ak}:Ca Φ (.block i a) ⟨env,H,nx,n⟩ Q=Ca Φ a ⟨env,H,nx,n⟩ (F8 i Q):=rfl
@[simp] theorem B6a {i:Nat} {s:Ac}:Ca Φ (.exit i) s Q=Q (.exit i) s:=rfl
@[simp] theorem B6b {a:Ak}:Ca Φ (.scope a) ⟨env,H,nx,n⟩ Q=Ca Φ a ⟨env,H,nx,n⟩ (HQ Q):=rfl
@[simp] theorem B6c {s:Ac}:Ca Φ .ret s Q=Q .ret s:=rfl
@[simp] theorem B6d {vs:List RV} {R:T->Prop}:Rj vs R ⟨env,H,nx,n⟩=BP (CH ⟨env,H,nx,n⟩ vs) λps=>BP (toT H (CF ps)) λq=>R q.1:=rfl
end
end Go.Abs
