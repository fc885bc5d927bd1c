/- Auxiliary facts. -/
import Derived.Test.YtobnacghaamfoaaGreatDoorVGQ24
set_option linter.unusedSimpArgs false
set_option linter.unusedVariables false
open Nat renaming le_succ->Xa,le_trans->Xc,lt_succ_self->Xf
open Go.Abs renaming rowP->Xb
open Option renaming map_eq_some_iff->Xd
open List renaming mem_map->Xe
namespace Go.Abs
open Go
section
variable {P : Program} {G : A2} {B N : Nat} {Φ : A7} {s : Ad}
def MCX (P:Program) (G:A2) (B N:Nat) (M:An) (R:(Exit->Ad->Prop)->Prop) (s:Ad):Prop:=∃Q,R Q/\MC P G B N M Q s
def PX (R:(Exit->Ad->Prop)->Prop) (e:Exit) (s:Ad):Prop:=∃Q,R Q/\Q e s
def dS (P:Program) (G:A2) (B:Nat) (S:Ad):Exit->Ad->Prop
 | .normal,s=>Sub P G B s S
 | _,_=>False
def RWh (P:Program) (G:A2) (B:Nat) {α:Type} (S:α->Ad) (Ok:α->Prop) (R:(Exit->Ad->Prop)->Prop) (Q':Exit->Ad->Prop):Prop:=
 (∃a,Ok a/\Q'=dS P G B (S a))\/∃Q,R Q/\Q'=JG Q
def RBl (id:Nat) (R:(Exit->Ad->Prop)->Prop) (Q':Exit->Ad->Prop):Prop:=∃Q,R Q/\Q'=FX id Q
structure Fin where
 r:PV
 H:Ab
 nx:Nat
def dU (P:Program) (G:A2) (B:Nat) (vs:List RV) (BT:Fin->Prop) (Q:Exit->Ad->Prop):Prop:=∃f,BT f/\Q=F7 P G B vs λr0 H0 nx0=>r0=f.r/\H0=f.H/\nx0=f.nx
section
variable {α : Type} {S : α -> Ad} {Ok : α -> Prop} {R : (Exit -> Ad -> Prop) -> Prop} {i j : Nat} {vs : List RV} {BT : Fin -> Prop}
@[simp] theorem C6w:PX (RWh P G B S Ok R) .normal s=Am P G B S Ok s:=by
 apply propext;constructor
 .rintro⟨Q,⟨a,ha,rfl⟩ | ⟨Q1,_,rfl⟩,h⟩
  .exact⟨a,ha,h⟩
  .exact h.elim
 .rintro⟨a,ha,h⟩;exact⟨_,.inl ⟨a,ha,rfl⟩,h⟩
theorem dV {e:Exit} (he:e ≠ .normal):PX (RWh P G B S Ok R) e s=PX R e s:=by
 apply propext;constructor
 .rintro⟨Q,⟨a,ha,rfl⟩ | ⟨Q1,h1,rfl⟩,h⟩
  .cases e<;>first | exact absurd rfl he | exact h.elim
  .cases e<;>first | exact absurd rfl he | exact⟨Q1,h1,h⟩
 .rintro⟨Q,h1,h⟩;refine⟨JG Q,.inr ⟨Q,h1,rfl⟩,?_⟩
  cases e<;>first | exact absurd rfl he | exact h
@[simp] theorem C6x:PX (RWh P G B S Ok R) .ret s=PX R .ret s:=dV (by simp)
@[simp] theorem C6y:PX (RWh P G B S Ok R) (.exit i) s=PX R (.exit i) s:=dV (by simp)
@[simp] theorem C6z:PX (RBl j R) .normal s=PX R .normal s:=by
 apply propext;constructor
 .rintro⟨_,⟨Q,h1,rfl⟩,h⟩;exact⟨Q,h1,h⟩
 .rintro⟨Q,h1,h⟩;exact⟨_,⟨Q,h1,rfl⟩,h⟩
@[simp] theorem C7a:PX (RBl j R) .ret s=PX R .ret s:=by
 apply propext;constructor
 .rintro⟨_,⟨Q,h1,rfl⟩,h⟩;exact⟨Q,h1,h⟩
 .rintro⟨Q,h1,h⟩;exact⟨_,⟨Q,h1,rfl⟩,h⟩
@[simp] theorem C7b:PX (RBl j R) (.exit i) s=if i=j then PX R .normal s else PX R (.exit i) s:=by
 apply propext;by_cases hij:i=j
 .rw[zy hij];constructor
  .rintro⟨_,⟨Q,h1,rfl⟩,h⟩;simp only[M1,zy hij]at h;exact⟨Q,h1,h⟩
  .rintro⟨Q,h1,h⟩;exact⟨_,⟨Q,h1,rfl⟩,by simp only[M1,zy hij];exact h⟩
 .rw[zz hij];constructor
  .rintro⟨_,⟨Q,h1,rfl⟩,h⟩;simp only[M1,zz hij]at h;exact⟨Q,h1,h⟩
  .rintro⟨Q,h1,h⟩;exact⟨_,⟨Q,h1,rfl⟩,by simp only[M1,zz hij];exact h⟩
theorem A0 (f:Fin) (hp:BT f) (h:BJ (Ez s vs) λps=>Ei ps=f.r/\s.H=f.H/\s.nx=f.nx):PX (dU P G B vs BT) .ret s:=⟨_,⟨f,hp,rfl⟩,bW h⟩
theorem Ar (hΦ:Ctx P G Φ) {M:An} (h:Cf Φ M s (PX R)):MCX P G B N M R s:=by
 obtain⟨e,s',h1,Q,h2,h3⟩:=Gb M h;exact⟨Q,h2,Fs hΦ M h1 h3⟩
theorem Ae (hΦ:Ctx P G Φ) {a b:An} (h:Cf Φ a s (Gu (λs1=>MCX P G B N b R s1) (PX R))):MCX P G B N (.seq a b) R s:=by
 obtain⟨e,s',h1,h2⟩:=Gb a h;cases e
 case normal=>
  obtain⟨Q,h3,h4⟩:=h2;refine⟨Q,h3,λc hc hn=>Mz ?_ c hc hn⟩;refine Fs hΦ a h1 ?_;exact⟨(F6 a h1).trans hn,h4⟩
 all_goals
  obtain⟨Q,h3,h4⟩:=h2;refine⟨Q,h3,λc hc hn=>Mz ?_ c hc hn⟩;exact Fs hΦ a h1 h4
theorem AG {id:Nat} {x:An} (h:MCX P G B N x (RBl id R) s):MCX P G B N (.block id x) R s:=by
 obtain⟨_,⟨Q,h1,rfl⟩,h2⟩:=h;exact⟨Q,h1,BD h2⟩
theorem QW {k:Opd} {x y:An} {t:Bool} (hk:k.ev s.env = .t (.v (.bool t))) (h:MCX P G B N (if t then x else y) R s):MCX P G B N (.cond k x y) R s:=by
 obtain⟨Q,h1,h2⟩:=h;exact⟨Q,h1,Cr hk h2⟩
theorem Bg {s':Ad} {M:An} (hs:Sub P G B s s') (hn:s'.n=s.n) (h:MCX P G B N M R s'):MCX P G B N M R s:=by
 obtain⟨Q,h1,h2⟩:=h;exact⟨Q,h1,MC.sub hs hn h2⟩
theorem AE {x y:An} (S:α->Ad) (Ok:α->Prop) (hN:∀a,(S a).n=N) (h1:MCX P G B N x (RWh P G B S Ok R) s) (h2:∀a,Ok a->MCX P G B N y R (S a)):MCX P G B N (.seq x y) R s:=by
 obtain⟨_,⟨a,ha,rfl⟩ | ⟨Q,hQ,rfl⟩,hx⟩:=h1
 .obtain⟨Q,hQ,hy⟩:=h2 a ha;refine⟨Q,hQ,BF (α:=Unit) (λ_=>S a) (λ_=>True) (λ_=>hN a) (hx.mono λe s1 q=>?_) λ_ _=>hy⟩;cases e
  case normal=>exact⟨(),trivial,q⟩
  all_goals exact q.elim
 .refine⟨Q,hQ,BF (α:=α) S (λ_=>False) hN (hx.mono λe s1 q=>?_) λ_ h=>h.elim⟩;cases e
  case normal=>exact q.elim
  all_goals exact q
def MV (P:Program) (G:A2) (B N:Nat) (x:An) (Q:Exit->Ad->Prop):Nat->Ad->Prop
 | 0,s=>s.n=N/\MC P G B N x (JG Q) s
 | n+1,s=>s.n=N/\∃s',MC P G B N x (dS P G B s') s/\MV P G B N x Q n s'
theorem MV.n {x:An} {Q:Exit->Ad->Prop}:∀{n:Nat} {s:Ad},MV P G B N x Q n s->s.n=N
 | 0,_,h=>h.1
 | _+1,_,h=>h.1
theorem A1g {x:An} {Q:Exit->Ad->Prop} {n:Nat} (h:MV P G B N x Q n s):MC P G B N (.loop x) Q s:=by
 refine S8 (λn s=>MV P G B N x Q n s) n h (λn s h=>h.n) λn s h=>?_
 cases n with
 | zero=>
  refine h.2.mono λe s1 q=>?_;cases e
  case normal=>exact q.elim
  all_goals exact q
 | succ n=>
  obtain⟨_,s',h1,h2⟩:=h;refine h1.mono λe s1 q=>?_;cases e
  case normal=>exact⟨n,by omega,s',q,h2⟩
  all_goals exact q.elim
theorem BV {x:An} (S:α->Ad) (μ:α->Nat) (Ok:α->Prop) (a0:α) (hN:∀a,(S a).n=N) (hok:Ok a0) (h0:Sub P G B s (S a0)) (hs:s.n=N)
  (round:∀a,Ok a->MCX P G B N x (RWh P G B S (λa'=>Ok a'/\μ a'<μ a) R) (S a)):MCX P G B N (.loop x) R s:=by
 have key:∀(k:Nat) (a:α),μ a<=k->Ok a->∃Q,R Q/\∃n,MV P G B N x Q n (S a):=by
  intro k
  induction k with
  | zero=>
   intro a hk ha;obtain⟨_,⟨a',⟨_,h2⟩,rfl⟩ | ⟨Q,hQ,rfl⟩,hx⟩:=round a ha
   .omega
   .exact⟨Q,hQ,0,hN a,hx⟩
  | succ k ih=>
   intro a hk ha;obtain⟨_,⟨a',⟨h1,h2⟩,rfl⟩ | ⟨Q,hQ,rfl⟩,hx⟩:=round a ha
   .obtain⟨Q,hQ,n,hn⟩:=ih a' (by omega) h1;exact⟨Q,hQ,n+1,hN a,S a',hx,hn⟩
   .exact⟨Q,hQ,0,hN a,hx⟩
 obtain⟨Q,hQ,n,hn⟩:=key (μ a0) a0 (Nat.le_refl _) hok;exact⟨Q,hQ,MC.sub h0 ((hN a0).trans hs.symm) (A1g hn)⟩
theorem A6.callX {f:FuncId} {k:Nat} {M:An} {vs:List RV} (h:A6 P G f k N M vs) {ps:List PV} {H:Ab} {nx:Nat} {BT:Fin->Prop} (hk:ps.length=k)
  (hm:MCX P G nx N M (dU P G nx vs BT) ⟨Gt 0 ps,H,nx,N⟩):∃f':Fin,BT f'/\AH P G f ps H nx f'.r f'.H f'.nx:=by
 obtain⟨_,⟨f',hp,rfl⟩,h2⟩:=hm;exact⟨f',hp,h.callP hk h2⟩
end
end
def ClP (n:Nat) (p:PV):Prop:=∀H F,(∀b∈F,n<=b)->BI H F p=p
def ClR (n:Nat) (x:Row):Prop:=∀H F,(∀b∈F,n<=b)->De H F x=x
def Cl (H:Ab) (nx:Nat):Prop:=∀c x,Aa H c=some x->ClR nx x
theorem ClP.t (n:Nat) (x:T):ClP n (.t x):=λ_ _ _=>rfl
theorem ClP.ptr (n b o:Nat):ClP n (.ptr b o):=λ_ _ _=>rfl
theorem ClP.row {n b o m z:Nat} (h:b<n):ClP n (.row b o m z):=λH F hF=>by
 unfold BI;simp only[toT];split
 .rename_i x F' hx;split at hx
  .split at hx
   .obtain⟨ts,_,e⟩:=Xd.1 hx;injection e with _ e;subst e;rw[zz];intro h2
    have h3:b∈F:=by simpa using h2
    have:=hF b h3;omega
   .cases hx
  .cases hx
 .rfl
theorem ClP.rowP {α:Type} {e:Enc α} {n b:Nat} {l:List α} (h:l≠[]->b<n):ClP n (Xb e b l):=by
 cases l with
 | nil=>exact ClP.t n _
 | cons x r=>exact ClP.row (h (by simp))
theorem ClP.mono {n m:Nat} {p:PV} (h:ClP n p) (hm:n<=m):ClP m p:=λH F hF=>h H F λb hb=>Xc hm (hF b hb)
theorem ClR.mono {n m:Nat} {x:Row} (h:ClR n x) (hm:n<=m):ClR m x:=λH F hF=>h H F λb hb=>Xc hm (hF b hb)
theorem ClR.cells {n ty:Nat} {cs:List PV} (h:∀p∈cs,ClP n p):ClR n (.cells ty cs):=λH F hF=>by
 simp only[De];congr 1
 conv=>rhs;rw[<-List.map_id cs]
 exact List.map_congr_left λp hp=>h p hp H F hF
theorem ClR.trees (n ty:Nat) (cs:List T):ClR n (.cells ty (cs.map .t)):=ClR.cells λp hp=>by
 obtain⟨t,_,rfl⟩:=Xe.1 hp;exact ClP.t n t
theorem ClR.rowOf {α:Type} (n:Nat) (e:Enc α) (ty:Nat) (l:List α):ClR n (Abs.rowOf e ty l):=ClR.trees n ty _
theorem A1h (H:Ab) (F:List Nat) (p:PV):(∃x,BI H F p = .t x)\/BI H F p=p:=by
 unfold BI;split
 .split
  .exact .inl ⟨_,rfl⟩
  .exact .inr rfl
 .exact .inr rfl
theorem ClR.frz {n:Nat} {x:Row} (h:ClR n x) (H:Ab) (F:List Nat):ClR n (De H F x):=by
 cases x with
 | cells ty cs=>
  refine ClR.cells λp hp=>?_;obtain⟨p0,hp0,rfl⟩:=Xe.1 hp;rcases A1h H F p0 with⟨y,hy⟩ | hy
  .rw[hy];exact ClP.t n y
  .rw[hy];intro H2 F2 hF2;have h2:=h H2 F2 hF2;simp only[De]at h2;injection h2 with _ h2
   have h3:cs.map (BI H2 F2)=cs.map id:=by rw[h2,List.map_id]
   exact List.map_inj_left.1 h3 p0 hp0
 | _=>exact h
theorem Cl.cons {H:Ab} {nx k m:Nat} {r:Row} (h:Cl H nx) (hr:ClR m r) (hm:nx<=m):Cl ((k,r)::H) m:=λc x hx=>by
 rw[Az]at hx;split at hx
 .injection hx with hx;subst hx;exact hr
 .exact(h c x hx).mono hm
theorem Cl.upd {H:Ab} {nx k:Nat} {r:Row} (h:Cl H nx) (hr:ClR nx r):Cl (Abs.upd H k r) nx:=λc x hx=>by
 rw[AN]at hx;split at hx
 .obtain⟨y,_,rfl⟩:=Xd.1 hx;exact hr
 .exact h c x hx
theorem Cl.rem {H:Ab} {nx k:Nat} (h:Cl H nx):Cl (Abs.rem H k) nx:=λc x hx=>by
 rw[CJ]at hx;split at hx
 .cases hx
 .exact h c x hx
theorem Cl.mono {H:Ab} {nx m:Nat} (h:Cl H nx) (hm:nx<=m):Cl H m:=λc x hx=>(h c x hx).mono hm
theorem Ud (H:Ab) (F:List Nat) (c:Nat):Aa (B1 H F) c=(Aa (Dy H F) c).map (De H F):=by
 unfold B1;rw[FI]
theorem Cl.frz {H:Ab} {nx:Nat} (h:Cl H nx) (F:List Nat):Cl (B1 H F) nx:=λc x hx=>by
 rw[Ud]at hx;obtain⟨y,hy,rfl⟩:=Xd.1 hx;exact(h c y (EB F H c y hy).1).frz H F
theorem Frs.frzH {H:Ab} {nx:Nat} (h:Frs H nx) (F:List Nat):Frs (B1 H F) nx:=λb x hb=>by
 rw[Ud]at hb;obtain⟨y,hy,_⟩:=Xd.1 hb;exact h b y (EB F H b y hy).1
theorem QX {H:Ab} {F:List Nat} {c:Nat} {o:Option Row} (hc:c∉F) (h:Aa H c=o) (hr:∀x,o=some x->De H F x=x):Aa (B1 H F) c=o:=by
 rw[Ud,Tt F H c hc,h]
 cases o with
 | none=>rfl
 | some x=>rw[Option.map_some,hr x rfl]
section
variable {α : Type} {e : Enc α} {ty b : Nat} {H : Ab} {l : List α}
theorem Cl.appH {nx:Nat} {m:List α} (h:Cl H nx):Cl (Abs.appH e ty H nx b l m) (nx+1):=by
 unfold Abs.appH;split
 .exact h.mono (Xa _)
 .split
  .exact h.cons (ClR.rowOf _ e ty _) (Xa _)
  .exact h.rem.cons (ClR.rowOf _ e ty _) (Xa _)
theorem dW {by' nx:Nat} (x:α) (z:Nat) (hz:e.z=z) (cs:List PV) (hcs:cs=(e.enc x).map .t) (h:Ay e ty H b l) (hb:b<nx)
  (hl:(l.length+1)*by'<=140737488355328) (hl2:l.length<=1000000000000) :
  ∃H',Cc ty z by' ((nx,.cells ty cs)::H) (nx+1) (Xb e b l) (.row nx 0 1 z)=some (Xb e (nx+1) (l++[x]),H',nx+2)/\Ay e ty H' (nx+1) (l++[x]) /\
   (∀c,c<nx->c≠b->Aa H' c=Aa H c)/\(Frs H nx->Frs H' (nx+2))/\(Cl H nx->Cl H' (nx+2)):=by
 subst hz;subst hcs;have hs:=Lf (e:=e) (H:=(nx,.cells ty ((e.enc x).map .t))::H) (b:=nx) (ty:=ty) x (by rw[Az,zy rfl]);have ap:=Od (nx:=nx+1) (by':=by') (m:=[x]) (h.cons (k:=nx) (r:=.cells ty ((e.enc x).map .t)) (by omega)) hs (by simpa using hl) (by simp;omega)
 have hn:EG (nx+1) l [x]=nx+2:=by unfold EG;simp
 rw[hn]at ap
 exact⟨_,ap,Ay.app,λc h1 h2=>by rw[SC (by omega) h2,Az,zz (by omega)],λh=>(h.cons (Xf _) (Xa _)).appH,
  λh=>(h.cons (ClR.trees _ ty _) (Xa _)).appH⟩
theorem A1i {by' nx:Nat} (x:α) (z:Nat) (hz:e.z=z) (cs:List T) (hcs:cs=e.enc x) (h:Ay e ty H b l) (hb:b<nx)
  (hl:(l.length+1)*by'<=140737488355328) (hl2:l.length<=1000000000000) :
  ∃H',Cc ty z by' H nx (Xb e b l) (.t (.sl 1 cs))=some (Xb e nx (l++[x]),H',nx+1)/\Ay e ty H' nx (l++[x])/\(∀c,c<nx->c≠b->Aa H' c=Aa H c)/\(Frs H nx->Frs H' (nx+1))/\(Cl H nx->Cl H' (nx+1)):=by
 subst hz;subst hcs
 have hs:Ew H e.z (.t (.sl 1 (e.enc x)))=some ([x].length,([x].flatMap e.enc).map .t):=by
  have:T.sl 1 (e.enc x)=slT e [x]:=by simp[slT]
  rw[this];exact Ql (.inr rfl)
 have ap:=Od (nx:=nx) (by':=by') (m:=[x]) h hs (by simpa using hl) (by simp;omega)
 have hn:EG nx l [x]=nx+1:=by unfold EG;simp
 rw[hn]at ap;exact⟨_,ap,Ay.app,λc h1 h2=>SC (by omega) h2,λh=>h.appH,λh=>h.appH⟩
end
structure IsF (r:PV) (H:Ab) (nx:Nat) (f:Fin):Prop where
 r:f.r=r
 h:f.H=H
 n:f.nx=nx
theorem Ue {P:Program} {G:A2} {fn:FuncId} {xs:List PV} {H H':Ab} {nx nx':Nat} {r:PV} (h:∃f:Fin,IsF r H' nx' f/\AH P G fn xs H nx f.r f.H f.nx):AH P G fn xs H nx r H' nx':=by
 obtain⟨⟨fr,fH,fn'⟩,⟨rfl,rfl,rfl⟩,hc⟩:=h;exact hc
theorem dX {P:Program} {L:Loc} {w:World}:∀{args:List T} {us:List Value},Bf L.I w args us->A5 P L w (args.map .t) us
 | [],us,h=>by simp only[Bf]at h;simp only[List.map_nil,A5];exact h
 | a::r,us,h=>by
  simp only[Bf]at h;obtain⟨x,xs,e,h1,h2⟩:=h;simp only[List.map_cons,A5];exact⟨x,xs,e,by simp only[Af];exact h1,dX h2⟩
theorem AH.callT {P:Program} {G:A2} {f:FuncId} {args:List T} {r:T} {H':Ab} {nx':Nat} (h:AH P G f (args.map .t) [] 0 (.t r) H' nx'):A1 P G f args (· = r):=by
 refine⟨h.1,λI w us hI hG hr=>?_⟩;refine(h.2 ⟨I,λ_=>0,0⟩ w us ⟨hI,λb x hb=>(by cases hb),λb x hb=>(by cases hb),λb b' x y hb=>(by cases hb),λb x hb=>(by cases hb),hG⟩ rfl (dX hr)).mono ?_;rintro e w' ⟨v,L',rfl,hv,hok,_,hm,hext⟩
 have nm:∀g,¬FW ⟨I,λ_=>0,0⟩ ([]:Ab) g:=λg ⟨b,x,hb,_⟩=>by cases hb
 refine⟨v,r,L'.I,rfl,rfl,by simpa only[Af]using hv,hext.outer,hext.size,λg hg=>hext.same g hg (nm g),hext.more,λg hg=>?_,hok.lt⟩;rcases hext.new g hg with h | h | h
 .exact .inl h
 .exact .inr h
 .exact absurd h (nm g)
structure IsT (r:T) (f:Fin):Prop where
 r:f.r = .t r
theorem CG {P:Program} {G:A2} {fn:FuncId} {args:List T} {r:T} (h:∃f:Fin,IsT r f/\AH P G fn (args.map .t) [] 0 f.r f.H f.nx):A1 P G fn args (· = r):=by
 obtain⟨⟨fr,fH,fn'⟩,⟨hr⟩,hc⟩:=h;simp only at hr hc;subst hr;exact AH.callT hc
structure Kr (k0:Nat) (H:Ab) (nx:Nat) (H':Ab) (nx':Nat):Prop where
 k:∀c,c<nx->c≠k0->Aa H' c=Aa H c
 n:nx<=nx'
 fr:Frs H nx->Frs H' nx'
 cl:Cl H nx->Cl H' nx'
section
variable {k0 nx nx' nx'' : Nat} {H H' H'' : Ab}
theorem Kr.refl:Kr k0 H nx H nx:=⟨λ_ _ _=>rfl,Nat.le_refl _,λh=>h,λh=>h⟩
theorem Kr.trans (a:Kr k0 H nx H' nx') (b:Kr k0 H' nx' H'' nx''):Kr k0 H nx H'' nx'':=
 ⟨λc h1 h2=>(b.k c (Nat.lt_of_lt_of_le h1 a.n) h2).trans (a.k c h1 h2),Xc a.n b.n,λh=>b.fr (a.fr h),λh=>b.cl (a.cl h)⟩
theorem Kr.cons (a:Kr k0 H nx H' nx') {x:Row} (hx:ClR (nx'+1) x):Kr k0 H nx ((nx',x)::H') (nx'+1):=
 ⟨λc h1 h2=>by have:=a.n;rw[Az,zz (by omega)];exact a.k c h1 h2,Nat.le_succ_of_le a.n,λh=>(a.fr h).cons (Xf _) (Xa _),λh=>(a.cl h).cons hx (Xa _)⟩
theorem Kr.upd (a:Kr k0 H nx H' nx') {b:Nat} (hb:b=k0\/nx<=b) {x:Row} (hx:ClR nx' x):Kr k0 H nx (Abs.upd H' b x) nx':=
 ⟨λc h1 h2=>by rw[AN,zz (by omega)];exact a.k c h1 h2,a.n,λh=>(a.fr h).upd,λh=>(a.cl h).upd hx⟩
theorem Kr.mono (a:Kr k0 H nx H' nx') (h:nx'<=nx''):Kr k0 H nx H' nx'':=⟨a.k,Xc a.n h,λh1=>(a.fr h1).mono h,λh1=>(a.cl h1).mono h⟩
theorem Kr.app (a:Kr k0 H nx H' nx') {b:Nat} (hb:nx<=b) (hk:∀c,c<nx'->c≠b->Aa H'' c=Aa H' c) (hn:nx'<=nx'') (hf:Frs H' nx'->Frs H'' nx'') (hc:Cl H' nx'->Cl H'' nx''):Kr k0 H nx H'' nx'':=
 ⟨λc h1 h2=>by have:=a.n;rw[hk c (by omega) (by omega)];exact a.k c h1 h2,Xc a.n hn,λh=>hf (a.fr h),λh=>hc (a.cl h)⟩
theorem Kr.frz (a:Kr k0 H nx H' nx') (hC:Cl H nx) {F:List Nat} (hF:∀b∈F,nx<=b):Kr k0 H nx (B1 H' F) nx':=
 ⟨λc h1 h2=>by
  refine QX (λh=>by have:=hF c h;omega) (a.k c h1 h2) λx hx=>?_
  exact hC c x hx H' F hF,a.n,λh=>(a.fr h).frzH F,λh=>(a.cl h).frz F⟩
end
end Go.Abs
