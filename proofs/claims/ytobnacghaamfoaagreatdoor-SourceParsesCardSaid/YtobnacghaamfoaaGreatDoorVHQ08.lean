/- Auxiliary facts. -/
import Derived.Test.YtobnacghaamfoaaGreatDoorVHQ07
import Derived.IntWalk
set_option linter.unusedSimpArgs false
set_option linter.unusedVariables false
open Bool renaming and_eq_true->Xa,false_eq_true->Xk,and_self->Xv,or_eq_true->X2
open Nat renaming le_refl->Xb
open Option renaming bind_eq_some_iff->Xc,map_some->Xm,map_eq_some_iff->Xq,bind_some->Xz
open List renaming length_append->Xd,map_cons->Xe,flatMap_cons->Xf,length->Xh,mem_cons->Xi,mem_singleton->Xl,append_inj->Xn,getElem?_eq_some_iff->Xo,length_map->Xp,drop_drop->Xw,drop_left'->Xx,isEmpty_cons->X0,take_of_length_le->X1,mem_append->X3
open ByteArray renaming toList->Xg
open Go.IntKind renaming i64->Xj,wrap->Xr,bits->Xs,signed->Xt,u64->Xu
open Int renaming toNat_natCast->Xy
namespace Go.Abs
open Go
def GOK (P:Program) (G:Ay) (f:FuncId) (g:List T->Option T):Prop:=∀args r,g args=some r->AA P G f args (· = r)
abbrev Tbl:=List (Nat×(List T->Option T))
def Kf (tbl:Tbl) (f:FuncId) (args:List T):Option T:=
 match Aa tbl f with
 | some g=>g args
 | none=>none
structure HOK (P:Program) (G:Ay) (f:FuncId) (h:List PV->Ab->Nat->Option (PV×Ab×Nat)):Prop where
 call:∀ps H nx r H' nx',h ps H nx=some (r,H',nx')->AB P G f ps H nx r H' nx'
 fresh:∀ps H nx r H' nx',h ps H nx=some (r,H',nx')->(∀b x,Aa H b=some x->b<nx)->∀b x,Aa H' b=some x->b<nx'
abbrev Ez:=List (Nat×(List PV->Ab->Nat->Option (PV×Ab×Nat)))
def HW (tbl:Ez) (f:FuncId) (ps:List PV) (H:Ab) (nx:Nat):Option (PV×Ab×Nat):=
 match Aa tbl f with
 | some g=>g ps H nx
 | none=>none
def orh (tbl:Tbl) (htbl:Ez):AC:=⟨Kf tbl,HW htbl⟩
abbrev orc (tbl:Tbl):AC:=orh tbl []
@[simp] theorem B6e (tbl:Tbl) (htbl:Ez) (f:FuncId) (args:List T):(orh tbl htbl).t f args=Kf tbl f args:=rfl
@[simp] theorem B6f (tbl:Tbl) (htbl:Ez) (f:FuncId) (ps:List PV) (H:Ab) (nx:Nat):(orh tbl htbl).h f ps H nx=HW htbl f ps H nx:=rfl
@[simp] theorem B6g (k f:Nat) (g:List T->Option T) (r:Tbl) (args:List T):Kf ((k,g)::r) f args=if k=f then g args else Kf r f args:=by
 unfold Kf;rw[A1];by_cases h:k=f
 .rw[zy h,zy h]
 .rw[zz h,zz h]
@[simp] theorem B6h (f:Nat) (args:List T):Kf [] f args=none:=rfl
@[simp] theorem mW (k f:Nat) (g:List PV->Ab->Nat->Option (PV×Ab×Nat)) (r:Ez) (ps:List PV) (H:Ab) (nx:Nat):HW ((k,g)::r) f ps H nx=if k=f then g ps H nx else HW r f ps H nx:=by
 unfold HW;rw[A1];by_cases h:k=f
 .rw[zy h,zy h]
 .rw[zz h,zz h]
@[simp] theorem B6i (f:Nat) (ps:List PV) (H:Ab) (nx:Nat):HW [] f ps H nx=none:=rfl
def A5 (P:Program) (G:Ay) (tbl:Tbl):Prop:=∀q∈tbl,GOK P G q.1 q.2
theorem A5.nil {P:Program} {G:Ay}:A5 P G []:=λ_ h=>by cases h
theorem A5.cons {P:Program} {G:Ay} {f:Nat} {g:List T->Option T} {r:Tbl} (h:GOK P G f g) (hr:A5 P G r):A5 P G ((f,g)::r):=λq hq=>by
 rcases Xi.1 hq with rfl | hq
 .exact h
 .exact hr q hq
def B6 (P:Program) (G:Ay) (tbl:Ez):Prop:=∀q∈tbl,HOK P G q.1 q.2
theorem B6.nil {P:Program} {G:Ay}:B6 P G []:=λ_ h=>by cases h
theorem B6.cons {P:Program} {G:Ay} {f:Nat} {g:List PV->Ab->Nat->Option (PV×Ab×Nat)} {r:Ez} (h:HOK P G f g) (hr:B6 P G r):B6 P G ((f,g)::r):=λq hq=>by
 rcases Xi.1 hq with rfl | hq
 .exact h
 .exact hr q hq
theorem A5.soundH {P:Program} {G:Ay} {tbl:Tbl} {htbl:Ez} (h:A5 P G tbl) (hh:B6 P G htbl):(orh tbl htbl).Sound P G where
 t:=λf args r hr=>by
  simp only[orh,Kf]at hr;split at hr
  .rename_i g hg;exact h _ (BF hg) args r hr
  .cases hr
 h:=λf ps H nx r H' nx' hr=>by
  simp only[orh,HW]at hr;split at hr
  .rename_i g hg;exact(hh _ (BF hg)).call ps H nx r H' nx' hr
  .cases hr
 fresh:=λf ps H nx r H' nx' hr=>by
  simp only[orh,HW]at hr;split at hr
  .rename_i g hg;exact(hh _ (BF hg)).fresh ps H nx r H' nx' hr
  .cases hr
theorem A5.ctxH {P:Program} {G:Ay} {tbl:Tbl} {htbl:Ez} (h:A5 P G tbl) (hh:B6 P G htbl) (hm:P.follows .mixedOrders=true):Ctx P G (orh tbl htbl):=⟨hm,h.soundH hh⟩
theorem A5.ctx {P:Program} {G:Ay} {tbl:Tbl} (h:A5 P G tbl) (hm:P.follows .mixedOrders=true):Ctx P G (orc tbl):=h.ctxH B6.nil hm
def HX (g:List T->Option T) (ps:List PV) (H:Ab) (nx:Nat):Option (PV×Ab×Nat):=
 (Cx H ps).bind λq=>(g q.1).map λr=>(.t r,if CE r then H else Dl H q.2,nx)
theorem GOK.hok {P:Program} {G:Ay} {f:FuncId} {g:List T->Option T} (h:GOK P G f g):HOK P G f (HX g) where
 call:=λps H nx r H' nx' hr=>by
  unfold HX at hr;obtain⟨⟨targs,F⟩,hT,hr⟩:=Xc.1 hr;obtain⟨r0,hg,e⟩:=AR hr;injection e with e1 e2;injection e2 with e2 e3;subst e1;subst e2;subst e3;exact(h _ _ hg).callP hT
 fresh:=λps H nx r H' nx' hr hf b x hb=>by
  unfold HX at hr;obtain⟨⟨targs,F⟩,hT,hr⟩:=Xc.1 hr;obtain⟨r0,hg,e⟩:=AR hr;injection e with e1 e2;injection e2 with e2 e3;subst e1;subst e2;subst e3;split at hb
  .exact hf b x hb
  .exact hf b x (Ef F H b x hb).1
section
variable {P : Program} {G : Ay} {B N : Nat} {Q : Exit -> Ac -> Prop} {s : Ac}
def Nf (P:Program) (G:Ay) (B:Nat) (S:Ac) (Q:Exit->Ac->Prop):Exit->Ac->Prop
 | .normal,s=>Sub P G B s S/\s.n=S.n
 | e,s=>Q e s
@[simp] theorem B6j (S:Ac) (s:Ac):Nf P G B S Q .normal s=(Sub P G B s S/\s.n=S.n):=rfl
@[simp] theorem B6k (S:Ac) (s:Ac):Nf P G B S Q .ret s=Q .ret s:=rfl
@[simp] theorem B6l (S:Ac) (i:Nat) (s:Ac):Nf P G B S Q (.exit i) s=Q (.exit i) s:=rfl
def Jb (Q:Exit->Ac->Prop):Exit->Ac->Prop
 | .normal,_=>False
 | e,s=>Q e s
@[simp] theorem B6m (s:Ac):Jb Q .normal s=False:=rfl
@[simp] theorem B6n (s:Ac):Jb Q .ret s=Q .ret s:=rfl
@[simp] theorem B6o (i:Nat) (s:Ac):Jb Q (.exit i) s=Q (.exit i) s:=rfl
theorem GW {x:Ak} (S:Nat->Ac) (n:Nat) (hN:∀j,(S j).n=N) (h0:Sub P G B s (S 0)) (hs:s.n=N) (round:∀j,j<n->MC P G B N x (Nf P G B (S (j+1)) Q) (S j)) (last:MC P G B N x (Jb Q) (S n)):MC P G B N (.loop x) Q s:=by
 refine MC.sub h0 ((hN 0).trans hs.symm) ?_;refine OP (λk s=>∃j,j+k=n/\s=S j) n ⟨0,by omega,rfl⟩ (λk s ⟨j,_,e⟩=>by rw[e];exact hN j) ?_;rintro k s ⟨j,hj,rfl⟩;by_cases hlt:j<n
 .refine(round j hlt).mono λe s1 q=>?_;cases e
  case normal=>exact⟨k-1,by omega,S (j+1),q.1,j+1,by omega,rfl⟩
  all_goals exact q
 .have:j=n:=by omega
  subst this;refine last.mono λe s1 q=>?_;cases e
  case normal=>exact q.elim
  all_goals exact q
def Aq (P:Program) (G:Ay) (B:Nat) {α:Type} (S:α->Ac) (Ok:α->Prop) (s:Ac):Prop:=∃a,Ok a/\Sub P G B s (S a)
theorem Aq.mk {α:Type} {S:α->Ac} {Ok:α->Prop} {s:Ac} (a:α) (h:Ok a) (hs:Sub P G B s (S a)):Aq P G B S Ok s:=⟨a,h,hs⟩
def Kg (P:Program) (G:Ay) (B:Nat) {α:Type} (S:α->Ac) (Ok:α->Prop) (Q:Exit->Ac->Prop):Exit->Ac->Prop
 | .normal,s=>Aq P G B S Ok s
 | e,s=>Q e s
@[simp] theorem B6p {α:Type} (S:α->Ac) (Ok:α->Prop) (s:Ac):Kg P G B S Ok Q .normal s=Aq P G B S Ok s:=rfl
@[simp] theorem B6q {α:Type} (S:α->Ac) (Ok:α->Prop) (s:Ac):Kg P G B S Ok Q .ret s=Q .ret s:=rfl
@[simp] theorem B6r {α:Type} (S:α->Ac) (Ok:α->Prop) (i:Nat) (s:Ac):Kg P G B S Ok Q (.exit i) s=Q (.exit i) s:=rfl
theorem CV {x:Ak} {α:Type} (S:α->Ac) (μ:α->Nat) (Ok:α->Prop) (a0:α) (hN:∀a,(S a).n=N) (hok:Ok a0) (h0:Sub P G B s (S a0)) (hs:s.n=N)
  (round:∀a,Ok a->MC P G B N x (Kg P G B S (λa'=>Ok a'/\μ a'<μ a) Q) (S a)):MC P G B N (.loop x) Q s:=by
 refine MC.sub h0 ((hN a0).trans hs.symm) ?_;refine OP (λk s=>∃a,Ok a/\μ a=k/\s=S a) (μ a0) ⟨a0,hok,rfl,rfl⟩ (λk s ⟨a,_,_,e⟩=>by rw[e];exact hN a) ?_;rintro k s ⟨a,ha,rfl,rfl⟩;refine(round a ha).mono λe s1 q=>?_;cases e
 case normal=>obtain⟨a',h1,h2⟩:=q;exact⟨μ a',h1.2,S a',h2,a',h1.1,rfl,rfl⟩
 all_goals exact q
theorem BM {x y:Ak} {α:Type} (S:α->Ac) (Ok:α->Prop) (hN:∀a,(S a).n=N) (h1:MC P G B N x (Kg P G B S Ok Q) s) (h2:∀a,Ok a->MC P G B N y Q (S a)):MC P G B N (.seq x y) Q s:=by
 intro c hc hn;obtain⟨a,b,rfl,ha,hb⟩:=Eg hc;refine Oz (Cd.post (h1 a ha hn) λe s1 q=>?_);cases e
 case normal=>
  obtain⟨d,hd,hs⟩:=q;exact⟨S d,hs,h2 d hd b hb (hN d)⟩
 all_goals exact⟨s1,Sub.refl s1,q⟩
end
theorem Fs {z:Int} (h1:-9223372036854775808<=z) (h2:z<=9223372036854775807):Xj.wrap z=z:=by
 unfold Xr Xs Xt;simp only[Bool.true_and,Nat.reduceSub]
 have e1:(2:Int)^64=18446744073709551616:=by decide
 have e2:(2:Int)^63=9223372036854775808:=by decide
 simp only[e1,e2,ge_iff_le,decide_eq_true_eq];split<;>omega
theorem AH {z:Int} {n:Nat} (e:z=n) (h:n<=9223372036854775807):Xj.wrap z=(n:Int):=by
 rw[Fs (by omega) (by omega),e]
theorem Ng {z:Int} (h1:0<=z) (h2:z<18446744073709551616):Xu.wrap z=z:=by
 unfold Xr Xs Xt;simp only[Bool.false_and,Xk,if_false]
 have e1:(2:Int)^64=18446744073709551616:=by decide
 rw[e1];omega
@[simp] theorem B6s:Xu.bits=64:=rfl
@[simp] theorem B6t:Xj.bits=64:=rfl
section
variable {P : Program} {G : Ay}
mutual
theorem Nh {L L':Loc} {w:World} {σ:Nat->Nat} {n:Nat} (hI:L'.I=L.I) (hμ:∀b,b<n->L'.μ (σ b)=L.μ b/\σ b<L'.nx):∀(p:PV) {u:Value},under n p=true->Ae P L w p u->Ae P L' w (ren σ p) u
 | .t x,u,_,h=>by simp only[ren,Ae,hI]at h ⊢;exact h
 | .row b o m z,u,hu,h=>by
  simp only[ren,Ae,under,decide_eq_true_eq]at h hu ⊢;obtain⟨h1,h2⟩:=hμ b hu;rw[h1];exact⟨h2,h.2⟩
 | .ptr b o,u,hu,h=>by
  simp only[ren,Ae,under,decide_eq_true_eq]at h hu ⊢;obtain⟨h1,h2⟩:=hμ b hu;rw[h1];exact⟨h2,h.2⟩
 | .ag cs,u,hu,h=>by
  simp only[ren,Ae,under]at h hu ⊢;obtain⟨us,e,h1,hl⟩:=h;exact⟨us,e,h1,Ni hI hμ cs hu hl⟩
 | .tu cs,u,hu,h=>by
  simp only[ren,Ae,under]at h hu ⊢;obtain⟨us,e,hl⟩:=h;exact⟨us,e,Ni hI hμ cs hu hl⟩
 | .fn f a c,u,hu,h=>by
  simp only[ren,Ae,under,Xa]at h hu ⊢;obtain⟨us,vs,e,h1,h2⟩:=h;exact⟨us,vs,e,Ni hI hμ a hu.1 h1,Ni hI hμ c hu.2 h2⟩
 | .ic t x,u,hu,h=>by
  simp only[ren,Ae,under]at h hu ⊢;obtain⟨y,e,hy⟩:=h;exact⟨y,e,Nh hI hμ x hu hy⟩
 | .mp b,u,hu,h=>by
  simp only[ren,Ae,under,decide_eq_true_eq]at h hu ⊢;obtain⟨h1,h2⟩:=hμ b hu;rw[h1];exact⟨h2,h.2⟩
 | .dead,u,_,_=>by simp only[ren,Ae]
theorem Ni {L L':Loc} {w:World} {σ:Nat->Nat} {n:Nat} (hI:L'.I=L.I) (hμ:∀b,b<n->L'.μ (σ b)=L.μ b/\σ b<L'.nx):∀(ps:List PV) {us:List Value},Bl n ps=true->A3 P L w ps us->A3 P L' w (AX σ ps) us
 | [],us,_,h=>by simpa only[AX,A3]using h
 | p::ps,us,hu,h=>by
  simp only[AX,A3,Bl,Xa]at h hu ⊢;obtain⟨x,xs,e,hx,hxs⟩:=h;exact⟨x,xs,e,Nh hI hμ p hu.1 hx,Ni hI hμ ps hu.2 hxs⟩
end
theorem mX {L L':Loc} {w:World} {σ:Nat->Nat} {n g:Nat} (hI:L'.I=L.I) (hμ:∀b,b<n->L'.μ (σ b)=L.μ b/\σ b<L'.nx) {x:Row} (hu:BU n x=true) (h:C9 P L w g x):C9 P L' w g (BG σ x):=by
 cases x with
 | cells ty cs=>
  obtain⟨arr,ha,hl,hc⟩:=h;refine⟨arr,ha,by rw[Na];exact hl,λj c hj=>?_⟩;rw[MY]at hj;obtain⟨c0,hc0,rfl⟩:=AR hj;obtain⟨v,hv,h1,hr⟩:=hc j c0 hc0;exact⟨v,hv,h1,Nh hI hμ c0 (MZ hu hc0) hr⟩
 | iter t pos=>exact h
 | map kk es=>exact h
 | lp l x k p=>exact⟨h.1,h.2.1,Nh hI hμ p hu h.2.2⟩
 | blk l o=>exact h
def Ei (σ:Nat->Nat) (nx NX:Nat) (b:Nat):Nat:=if b<nx then σ b else NX+(b-nx)
theorem AB.lift {f:FuncId} {ps:List PV} {H H':Ab} {nx nx':Nat} {r:PV} (h:AB P G f ps H nx r H' nx') (σ:Nat->Nat) (NX:Nat) (Hb Hb':Ab)
  (hσ:∀b,b<nx->σ b<NX) (hinj:∀b c,b<nx->c<nx->σ b=σ c->b=c) (hle:nx<=nx')
  (hH:∀q∈H,Aa Hb (σ q.1)=some (BG σ q.2)/\q.1<nx/\BU nx q.2=true) (hps:Bl nx ps=true)
  (hr:under nx' r=true) (hH':∀q∈H',q.1<nx'/\BU nx' q.2=true)
  (hb':∀b x,Aa Hb' b=some x->(∃b0 x0,Aa H' b0=some x0/\b=Ei σ nx NX b0/\x=BG (Ei σ nx NX) x0)\/(Aa Hb b=some x/\∀b0 x0,Aa H b0=some x0->σ b0≠b)) :
  AB P G f (AX σ ps) Hb NX (ren (Ei σ nx NX) r) Hb' (NX+(nx'-nx)):=by
 refine⟨h.1,λL w us hok hnx hargs=>?_⟩
 let L0:Loc:=⟨L.I,λb=>L.μ (σ b),nx⟩
 have hok0:Bx P G L0 H w:=by
  refine⟨hok.lt,λb x hb=>?_,λb x hb=>?_,λb b' x x' hb hb' e=>?_,λb x hb=>(hH _ (BF hb)).2.1,hok.glob⟩
  .obtain⟨h1,h2,h3⟩:=hH _ (BF hb);have:=hok.rep _ _ h1
   cases x with
   | cells ty cs=>
    obtain⟨arr,ha,hl,hc⟩:=this;refine⟨arr,ha,by rw[Na]at hl;exact hl,λj c hj=>?_⟩;obtain⟨v,hv,h1v,hrv⟩:=hc j (ren σ c) (by rw[MY,hj];rfl);exact⟨v,hv,h1v,HR c (MZ h3 hj) hrv⟩
   | iter t pos=>exact this
   | map kk es=>exact this
   | lp l x k p=>exact⟨this.1,this.2.1,HR p h3 this.2.2⟩
   | blk l o=>exact this
  .exact hok.apart _ _ (hH _ (BF hb)).1
  .exact hinj b b' (hH _ (BF hb)).2.1 (hH _ (BF hb')).2.1 (hok.inj _ _ _ _ (hH _ (BF hb)).1 (hH _ (BF hb')).1 e)
 have mine0:∀g,Fl L0 H g->Fl L Hb g:=λg ⟨b,x,hb,e⟩=>⟨σ b,_,(hH _ (BF hb)).1,e⟩
 refine(h.2 L0 w us hok0 rfl (Kb ps hps hargs)).mono ?_;rintro e w' ⟨v,L1,rfl,hv,hok1,hnx1,hm1,hx1⟩
 let L':Loc:=⟨L1.I,λb=>if b<NX then L.μ b else L1.μ (b-NX+nx),NX+(nx'-nx)⟩
 have hμ:∀b,b<nx'->L'.μ (Ei σ nx NX b)=L1.μ b/\Ei σ nx NX b<L'.nx:=by
  intro b hb;unfold Ei;by_cases hlt:b<nx
  .rw[zy hlt];have h1:=hσ b hlt;refine⟨?_,by show σ b<NX+(nx'-nx);omega⟩;show(if σ b<NX then L.μ (σ b)else _)=_;rw[zy h1];exact(hm1.μ b hlt).symm
  .rw[zz hlt];refine⟨?_,by show NX+(b-nx)<NX+(nx'-nx);omega⟩;show(if NX+(b-nx)<NX then _ else L1.μ (NX+(b-nx)-NX+nx))=_;rw[zz (by omega)];congr 1;omega
 have hmono:AO L w L' w':=by
  refine⟨hm1.keeps,by show L.nx<=NX+(nx'-nx);omega,λb hb=>?_,hm1.size,hm1.shape⟩;show(if b<NX then L.μ b else _)=_;rw[zy (by omega)]
 have old:∀b x,Aa Hb b=some x->(∀b0 x0,Aa H b0=some x0->σ b0≠b)->¬Fl L0 H (L.μ b):=by
  intro b x hb hne ⟨b0,x0,h0,e⟩;exact hne b0 x0 h0 (hok.inj _ _ _ _ (hH _ (BF h0)).1 hb e)
 have oldμ:∀b x,Aa Hb b=some x->L'.μ b=L.μ b:=by
  intro b x hb;have:=hok.nx b x hb;show(if b<NX then L.μ b else _)=_;rw[zy (by omega)]
 have newμ:∀b0 x0,Aa H' b0=some x0->L'.μ (Ei σ nx NX b0)=L1.μ b0:=λb0 x0 h0=>(hμ b0 (hH' _ (BF h0)).1).1;refine⟨v,L',rfl,Nh (L:=L1) (L':=L') rfl hμ r hr hv,?_,rfl,hmono,?_⟩
 .refine⟨hok1.lt,λb x hb=>?_,λb x hb hI=>?_,λb b2 x x2 hb hb2 e=>?_,λb x hb=>?_,hok1.glob⟩
  .rcases hb' b x hb with⟨b0,x0,h0,rfl,rfl⟩ | ⟨h0,hne⟩
   .rw[newμ b0 x0 h0];exact mX (L:=L1) (L':=L') rfl hμ (hH' _ (BF h0)).2 (hok1.rep b0 x0 h0)
   .rw[oldμ b x h0];exact(hok.rep b x h0).keep hmono (hx1.same _ (hok.rep b x h0).lt (old b x h0 hne))
  .rcases hb' b x hb with⟨b0,x0,h0,rfl,rfl⟩ | ⟨h0,hne⟩
   .rw[newμ b0 x0 h0]at hI;exact hok1.apart b0 x0 h0 hI
   .rw[oldμ b x h0]at hI;rcases hx1.new _ hI with h2 | h2 | h2
    .exact hok.apart b x h0 h2
    .have:=(hok.rep b x h0).lt;omega
    .exact old b x h0 hne h2
  .rcases hb' b x hb with⟨b0,x0,h0,rfl,rfl⟩ | ⟨h0,hne⟩<;>rcases hb' b2 x2 hb2 with⟨c0,y0,k0,rfl,rfl⟩ | ⟨k0,kne⟩
   .rw[newμ b0 x0 h0,newμ c0 y0 k0]at e;rw[hok1.inj b0 c0 x0 y0 h0 k0 e]
   .rw[newμ b0 x0 h0,oldμ _ _ k0]at e;rcases hx1.mine (L.μ b2) ⟨b0,x0,h0,e⟩with h2 | h2
    .have:=(hok.rep b2 x2 k0).lt;omega
    .exact absurd h2 (old b2 x2 k0 kne)
   .rw[oldμ _ _ h0,newμ c0 y0 k0]at e;rcases hx1.mine (L.μ b) ⟨c0,y0,k0,e.symm⟩with h2 | h2
    .have:=(hok.rep b x h0).lt;omega
    .exact absurd h2 (old b x h0 hne)
   .rw[oldμ _ _ h0,oldμ _ _ k0]at e;exact hok.inj b b2 x x2 h0 k0 e
  .rcases hb' b x hb with⟨b0,x0,h0,rfl,rfl⟩ | ⟨h0,hne⟩
   .exact(hμ b0 (hH' _ (BF h0)).1).2
   .have:=hok.nx b x h0;show b<NX+(nx'-nx);omega
 .refine⟨hx1.size,λg hg hm=>hx1.same g hg (λh2=>hm (mine0 g h2)),hx1.more,λg hg=>?_,λg ⟨b,x,hb,e⟩=>?_,hx1.shape,hx1.outer⟩
  .rcases hx1.new g hg with h2 | h2 | h2
   .exact .inl h2
   .exact .inr (.inl h2)
   .exact .inr (.inr (mine0 g h2))
  .rcases hb' b x hb with⟨b0,x0,h0,rfl,rfl⟩ | ⟨h0,hne⟩
   .rw[newμ b0 x0 h0]at e;rcases hx1.mine g ⟨b0,x0,h0,e⟩with h2 | h2
    .exact .inl h2
    .exact .inr (mine0 g h2)
   .rw[oldμ _ _ h0]at e;exact .inr ⟨b,x,h0,e⟩
theorem AB.lift1 {f:FuncId} {ty:TypeId} {cs cs':List T} {args:List T} {r:T} (h:AB P G f (.ptr 0 0::args.map .t) [(0,.cells ty (cs.map .t))] 1 (.t r) [(0,.cells ty (cs'.map .t))] 1)
  {b NX:Nat} {Hb:Ab} (hb:Aa Hb b=some (.cells ty (cs.map .t))) (hlt:b<NX) :
  AB P G f (.ptr b 0::args.map .t) Hb NX (.t r) (upd Hb b (.cells ty (cs'.map .t))) NX:=by
 have rt:∀(σ:Nat->Nat) (l:List T),AX σ (l.map .t)=l.map .t:=by
  intro σ l
  induction l with
  | nil=>rfl
  | cons x l ih=>simp only[Xe,AX,ren,ih]
 have ut:∀(n:Nat) (l:List T),Bl n (l.map .t)=true:=by
  intro n l
  induction l with
  | nil=>rfl
  | cons x l ih=>simp only[Xe,Bl,under,ih,Xv]
 have:=h.lift (λ_=>b) NX Hb (upd Hb b (.cells ty (cs'.map .t))) (λ_ _=>hlt) (λx y hx hy _=>by omega) (Xb _) (λq hq=>by
  simp only[Xl]at hq;subst hq;simp only[BG,rt,BU,ut]
  exact⟨hb,by omega,trivial⟩) (by simp only[Bl,under,ut];rfl) rfl (λq hq=>by
  simp only[Xl]at hq;subst hq
  exact⟨by omega,ut _ _⟩) (λc x hc=>by
  rw[A9]at hc;split at hc
  .rename_i e;subst e;left;refine⟨0,_,rfl,by simp[Ei],?_⟩;rw[hb]at hc;simp only[Xm,Option.some.injEq]at hc;simp only[BG,rt];exact hc.symm
  .rename_i e;right
   refine⟨hc,λb0 x0 _ e2=>e e2.symm⟩)
 simp only[AX,ren,rt,Nat.sub_self,Nat.add_zero]at this;exact this
end
structure Ty (α:Type) where
 is:T->α->Prop
 uniq:∀t a b,is t a->is t b->a=b
noncomputable def Ty.dec {α:Type} (τ:Ty α) (t:T):Option α:=
 open Classical in if h : ∃ a, τ.is t a then some h.choose else none
theorem Ty.dec_is {α:Type} {τ:Ty α} {t:T} {a:α} (h:τ.is t a):τ.dec t=some a:=by
 unfold Ty.dec
 have hx:∃a,τ.is t a:=⟨a,h⟩
 rw[dif_pos hx];rw[τ.uniq t _ _ hx.choose_spec h]
theorem Ty.is_dec {α:Type} {τ:Ty α} {t:T} {a:α} (h:τ.dec t=some a):τ.is t a:=by
 unfold Ty.dec at h;split at h
 .rename_i hx;injection h with h;subst h;exact hx.choose_spec
 .cases h
abbrev iv (n:Int):T:=.v (.int .i64 n)
abbrev bv (b:Bool):T:=.v (.bool b)
abbrev sv (s:ByteArray):T:=.v (.string s)
abbrev Ad:T:=.v (.slice none 0 0)
def OT:Ty Int:=⟨λt n=>t=iv n,λt a b h h'=>by rw[h]at h';injection h' with h';injection h'⟩
def OU:Ty Bool:=⟨λt n=>t=bv n,λt a b h h'=>by rw[h]at h';injection h' with h';injection h'⟩
def BX:Ty ByteArray:=⟨λt n=>t=sv n,λt a b h h'=>by rw[h]at h';injection h' with h';injection h'⟩
structure Enc (α:Type) where
 z:Nat
 enc:α->List T
 len:∀a,(enc a).length=z
 pos:0<z
 inj:∀a b,enc a=enc b->a=b
def slT {α:Type} (e:Enc α) (l:List α):T:=.sl l.length (l.flatMap e.enc)
def IsS {α:Type} (e:Enc α) (t:T) (l:List α):Prop:=(t=Ad/\l=[])\/t=slT e l
theorem Vh {α:Type} (e:Enc α):∀(l m:List α),l.length=m.length->l.flatMap e.enc=m.flatMap e.enc->l=m
 | [],[],_,_=>rfl
 | [],_::_,h,_=>by simp at h
 | _::_,[],h,_=>by simp at h
 | a::l,b::m,h,he=>by
  simp only[Xf]at he;have h1:=Xn he (by rw[e.len,e.len]);rw[e.inj a b h1.1,Vh e l m (by simpa using h) h1.2]
def tSl {α:Type} (e:Enc α):Ty (List α):=⟨IsS e,λt a b h h'=>by
 rcases h with⟨rfl,rfl⟩ | rfl
 .rcases h' with⟨_,rfl⟩ | h'
  .rfl
  .cases h'
 .rcases h' with⟨h',_⟩ | h'
  .cases h'
  .unfold slT at h';injection h' with h1 h2
   exact Vh e a b h1 h2⟩
def Aj:Enc ByteArray:=⟨1,λn=>[sv n],λ_=>rfl,by omega,λa b h=>by injection h with h;injection h with h;injection h⟩
section
variable {α : Type} {e : Enc α} {t : T} {l : List α}
theorem IsS.len (h:IsS e t l):Bd (.t t)=some (.t (iv (l.length:Int))):=by
 rcases h with⟨rfl,rfl⟩ | rfl<;>rfl
def AY (e:Enc α) (l:List α) (i:Nat):List T:=(l.drop (i+1)).flatMap e.enc
theorem Vi (e:Enc α):∀(l:List α) (i:Nat) (x:α),l[i]?=some x->(l.flatMap e.enc).drop (i*e.z)=e.enc x++AY e l i
 | [],i,x,h=>by simp at h
 | a::l,0,x,h=>by
  simp at h;subst h;simp[AY]
 | a::l,i+1,x,h=>by
  have ih:=Vi e l i x (by simpa using h);rw[Xf,Nat.succ_mul,Nat.add_comm,<-Xw,Xx (e.len a),ih];simp[AY]
theorem IsS.iaddr (h:IsS e t l) {i:Nat} {x:α} (hx:l[i]?=some x) (k:IntKind):Bm e.z (.t t) (.t (.v (.int k (i:Int))))=some (.t (.pt (e.enc x++AY e l i))):=by
 have hi:i<l.length:=(Xo.1 hx).1;rcases h with⟨rfl,rfl⟩ | rfl
 .simp at hi
 .simp only[Bm,slT];rw[zy ⟨by omega,by omega⟩,Xy,Vi e l i x hx]
theorem IsS.mk (l:List α):IsS e (slT e l) l:=.inr rfl
end
noncomputable def g1 {α:Type} (τ:Ty α) (f:α->Option T):List T->Option T
 | [a]=>(τ.dec a).bind f
 | _=>none
noncomputable def g2 {α β:Type} (τ:Ty α) (σ:Ty β) (f:α->β->Option T):List T->Option T
 | [a,b]=>(τ.dec a).bind λx=>(σ.dec b).bind λy=>f x y
 | _=>none
noncomputable def g3 {α β γ:Type} (τ:Ty α) (σ:Ty β) (ρ:Ty γ) (f:α->β->γ->Option T):List T->Option T
 | [a,b,c]=>(τ.dec a).bind λx=>(σ.dec b).bind λy=>(ρ.dec c).bind λz=>f x y z
 | _=>none
noncomputable def g4 {α β γ δ:Type} (τ:Ty α) (σ:Ty β) (ρ:Ty γ) (π:Ty δ) (f:α->β->γ->δ->Option T):List T->Option T
 | [a,b,c,d]=>(τ.dec a).bind λx=>(σ.dec b).bind λy=>(ρ.dec c).bind λz=>(π.dec d).bind λu=>f x y z u
 | _=>none
section
variable {P : Program} {G : Ay} {F : FuncId} {α β γ δ : Type} {τ : Ty α} {σ : Ty β} {ρ : Ty γ} {π : Ty δ}
theorem GX {f:α->Option T} (h:∀a x r,τ.is a x->f x=some r->AA P G F [a] (· = r)):GOK P G F (g1 τ f):=by
 intro args r e;unfold g1 at e;split at e
 .obtain⟨x,hx,e⟩:=Xc.1 e;exact h _ x r (Ty.is_dec hx) e
 .cases e
theorem HY {f:α->Option T} {a:T} {x:α} (h:τ.is a x):g1 τ f [a]=f x:=by
 simp only[g1,Ty.dec_is h,Xz]
theorem DY {f:α->β->Option T} (h:∀a b x y r,τ.is a x->σ.is b y->f x y=some r->AA P G F [a,b] (· = r)):GOK P G F (g2 τ σ f):=by
 intro args r e;unfold g2 at e;split at e
 .obtain⟨x,hx,e⟩:=Xc.1 e;obtain⟨y,hy,e⟩:=Xc.1 e;exact h _ _ x y r (Ty.is_dec hx) (Ty.is_dec hy) e
 .cases e
theorem E2 {f:α->β->Option T} {a b:T} {x:α} {y:β} (h:τ.is a x) (h':σ.is b y):g2 τ σ f [a,b]=f x y:=by
 simp only[g2,Ty.dec_is h,Ty.dec_is h',Xz]
end
section
variable {α : Type}
def rowP (e:Enc α) (b:Nat):List α->PV
 | []=>.t Ad
 | l=>.row b 0 l.length e.z
def Ax (e:Enc α) (ty b:Nat):List α->Ab
 | []=>[]
 | l=>[(b,.cells ty ((l.flatMap e.enc).map .t))]
def Am (e:Enc α):List α->T
 | []=>Ad
 | l=>slT e l
def FF (b:Nat):List α->List Nat
 | []=>[]
 | _=>[b]
theorem IsS.tree (e:Enc α) (l:List α):IsS e (Am e l) l:=by
 cases l with
 | nil=>exact .inl ⟨rfl,rfl⟩
 | cons x r=>exact .inr rfl
theorem Jc (e:Enc α):∀l:List α,(l.flatMap e.enc).length=l.length*e.z
 | []=>by simp
 | a::l=>by rw[Xf,Xd,e.len,Jc e l,List.length_cons,Nat.succ_mul,Nat.add_comm]
theorem Cs (e:Enc α) (σ:Nat->Nat) (b:Nat) (l:List α):ren σ (rowP e b l)=rowP e (σ b) l:=by cases l<;>rfl
theorem Ct (e:Enc α) (n b:Nat) (l:List α) (h:b<n):under n (rowP e b l)=true:=by
 cases l with
 | nil=>rfl
 | cons x r=>simp[rowP,under,h]
end
section
variable {α : Type} {P : Program} {G : Ay} {B : Nat}
def rowOf (e:Enc α) (ty:Nat) (l:List α):Row:=.cells ty ((l.flatMap e.enc).map .t)
def Ar (e:Enc α) (ty:Nat) (H:Ab) (b:Nat) (l:List α):Prop:=l=[]\/Aa H b=some (rowOf e ty l)
theorem Ar.nil (e:Enc α) (ty:Nat) (H:Ab) (b:Nat):Ar e ty H b []:=.inl rfl
theorem Ar.cons {e:Enc α} {ty:Nat} {H:Ab} {b:Nat} {l:List α} (h:Ar e ty H b l) {k:Nat} {r:Row} (hk:k≠b):Ar e ty ((k,r)::H) b l:=
 h.imp id λh=>by rw[A1,zz hk];exact h
theorem Ar.head (e:Enc α) (ty:Nat) (H:Ab) (b:Nat) (l:List α):Ar e ty (Ax e ty b l++H) b l:=by
 cases l with
 | nil=>exact .inl rfl
 | cons x r=>right;simp[Ax,rowOf]
theorem Ar.head' (e:Enc α) (ty b:Nat) (l:List α):Ar e ty (Ax e ty b l) b l:=by
 have h:=Ar.head e ty [] b l;rwa[List.append_nil]at h
def appH (e:Enc α) (ty:Nat) (H:Ab) (nx b:Nat) (l m:List α):Ab:=
 if(l++m).isEmpty then H else(nx,rowOf e ty (l++m))::(if l.isEmpty then H else rem H b)
def Ej (nx:Nat) (l m:List α):Nat:=if(l++m).isEmpty then nx else nx+1
theorem Nj {e:Enc α} {ty by':Nat} {H:Ab} {nx b:Nat} {l m:List α} {src:PV} (h:Ar e ty H b l) (hs:DB H e.z src=some (m.length,(m.flatMap e.enc).map .t))
  (hb:(l.length+m.length)*by'<=140737488355328) (hb2:l.length+m.length<=9223372036854775807) :
  B1 ty e.z by' H nx (rowP e b l) src=some (rowP e nx (l++m),appH e ty H nx b l m,Ej nx l m):=by
 cases l with
 | nil=>
  cases m with
  | nil=>simp[B1,hs,rowP,appH,Ej]
  | cons y m=>
   simp only[List.length_nil,Nat.zero_add]at hb hb2
   have h0:¬(y::m).length=0:=by simp
   simp only[B1,hs,rowP,List.nil_append,appH,Ej,X0,List.isEmpty_nil,Xk,if_false,if_true,and_self,h0,hb,hb2,rowOf]
 | cons x l=>
  rcases h with h | h
  .cases h
  .have hl:(((x::l).flatMap e.enc).map PV.t).length=(x::l).length*e.z:=by rw[Xp,Jc]
   simp only[B1,hs,rowP,h,rowOf,hl,true_and,zy (And.intro hb hb2),List.cons_append,appH,Ej,X0,Xk,if_false];simp;omega
theorem Rk {e:Enc α} {ty:Nat} {H:Ab} {nx b:Nat} {l m:List α} {c:Nat} (hc:c≠nx) (hb:c≠b):Aa (appH e ty H nx b l m) c=Aa H c:=by
 unfold appH;split
 .rfl
 .rw[A1,zz (Ne.symm hc)];split
  .rfl
  .rw[Cr,zz hb]
theorem Ar.app {e:Enc α} {ty:Nat} {H:Ab} {nx b:Nat} {l m:List α}:Ar e ty (appH e ty H nx b l m) nx (l++m):=by
 unfold appH;split
 .rename_i h;left;simpa using h
 .right;rw[A1,zy rfl]
theorem Ar.toT {e:Enc α} {ty:Nat} {H:Ab} {b:Nat} {l:List α} (h:Ar e ty H b l):toT H (rowP e b l)=some (Am e l,FF b l):=by
 cases l with
 | nil=>rfl
 | cons x r=>
  rcases h with h | h
  .cases h
  .have hl:(((x::r).flatMap e.enc).map PV.t).length=(x::r).length*e.z:=by rw[Xp,Jc]
   have tk:List.take ((x::r).length*e.z) (((x::r).flatMap e.enc).map PV.t)=((x::r).flatMap e.enc).map PV.t:=X1 (by rw[hl];exact Xb _);simp only[rowP,Abs.toT,h,rowOf,List.drop_zero,Nat.zero_add,hl,Xb,if_true,tk,Ke,Xm];rfl
theorem ED (e:Enc α) (b:Nat) (l:List α):Bd (rowP e b l)=some (.t (iv (l.length:Int))):=by cases l<;>rfl
theorem Gc {e:Enc α} {H:Ab} {b ty:Nat} (x:α) (h:Aa H b=some (.cells ty ((e.enc x).map .t))):DB H e.z (.row b 0 1 e.z)=some ([x].length,([x].flatMap e.enc).map .t):=by
 have hl:((e.enc x).map PV.t).length=e.z:=by rw[Xp,e.len]
 have tk:List.take e.z ((e.enc x).map PV.t)=(e.enc x).map PV.t:=X1 (by rw[hl];exact Xb _);simp[DB,h,e.len,tk]
theorem OV {e:Enc α} {H:Ab} {t:T} {l:List α} (h:IsS e t l):DB H e.z (.t t)=some (l.length,(l.flatMap e.enc).map .t):=by
 rcases h with⟨rfl,rfl⟩ | rfl
 .rfl
 .simp only[DB,slT,Jc,if_true]
theorem HZ (σ:Nat->Nat) (e:Enc α) (ty:Nat) (l:List α):BG σ (rowOf e ty l)=rowOf e ty l:=by
 have:∀m:List T,AX σ (m.map .t)=m.map .t:=by
  intro m
  induction m with
  | nil=>rfl
  | cons x m ih=>simp only[Xe,AX,ren,ih]
 simp only[rowOf,BG,this]
theorem Ia (n:Nat) (e:Enc α) (ty:Nat) (l:List α):BU n (rowOf e ty l)=true:=by
 have:∀m:List T,Bl n (m.map .t)=true:=by
  intro m
  induction m with
  | nil=>rfl
  | cons x m ih=>simp only[Xe,Bl,under,ih,Xv]
 simp only[rowOf,BU,this]
theorem EU {e:Enc α} {ty b:Nat} {l:List α} {q:Nat×Row} (h:q∈Ax e ty b l):l≠[]/\q=(b,rowOf e ty l):=by
 cases l with
 | nil=>simp[Ax]at h
 | cons x r=>simp only[Ax,Xl]at h;exact⟨by simp,h⟩
theorem Jd {e:Enc α} {ty b k nx nx' n:Nat} {l:List α} {env env':List (Nat×PV)} {H:Ab} (h:Ar e ty H k l) (hb:b<nx') (hB:B<=b)
  (he:∀q∈env',Aa env q.1=some (ren (λc=>if c=b then k else c) q.2)/\under nx' q.2=true) :
  Sub P G B ⟨env,H,nx,n⟩ ⟨env',Ax e ty b l,nx',n⟩:=by
 refine Kc (λc=>if c=b then k else c) rfl (by show B<=nx';omega) (λc hc=>by show(if c=b then k else c)=c;rw[zz (by omega)]) he (λq hq=>?_) (λq hq q' hq' _=>?_)
 .obtain⟨hne,rfl⟩:=EU hq;simp only[if_true,HZ,Ia];rcases h with h | h
  .exact absurd h hne
  .exact⟨h,hb,trivial⟩
 .obtain⟨_,rfl⟩:=EU hq;obtain⟨_,rfl⟩:=EU hq';rfl
theorem Rm {nx nx' n:Nat} {env env':List (Nat×PV)} {H:Ab} (hB:B<=nx') (he:∀q∈env',Aa env q.1=some q.2/\under 0 q.2=true) :
  Sub P G B ⟨env,H,nx,n⟩ ⟨env',[],nx',n⟩:=by
 have key:∀(p:PV),under 0 p=true->ren id p=p/\under nx' p=true:=by
  intro p hp;constructor
  .have:(∀p:PV,ren id p=p)/\(∀ps:List PV,AX id ps=ps):=by
    constructor
    .intro p
     exact PV.rec (motive_1:=λp=>ren id p=p) (motive_2:=λps=>AX id ps=ps) (λx=>rfl) (λb o n z=>rfl) (λb o=>rfl) (λcs ih=>by simp only[ren,ih]) (λcs ih=>by simp only[ren,ih])
      (λf a c ih1 ih2=>by simp only[ren,ih1,ih2]) (λt x ih=>by simp only[ren,ih]) (λb=>rfl) rfl rfl (λp ps h1 h2=>by simp only[AX,h1,h2]) p
    .intro ps
     exact PV.rec_1 (motive_1:=λp=>ren id p=p) (motive_2:=λps=>AX id ps=ps) (λx=>rfl) (λb o n z=>rfl) (λb o=>rfl) (λcs ih=>by simp only[ren,ih]) (λcs ih=>by simp only[ren,ih])
      (λf a c ih1 ih2=>by simp only[ren,ih1,ih2]) (λt x ih=>by simp only[ren,ih]) (λb=>rfl) rfl rfl (λp ps h1 h2=>by simp only[AX,h1,h2]) ps
   exact this.1 p
  .exact(PV.rec (motive_1:=λp=>under 0 p=true->under nx' p=true) (motive_2:=λps=>Bl 0 ps=true->Bl nx' ps=true) (λx _=>rfl) (λb o n z h=>by simp[under]at h) (λb o h=>by simp[under]at h)
    (λcs ih h=>by simp only[under]at h ⊢;exact ih h) (λcs ih h=>by simp only[under]at h ⊢;exact ih h) (λf a c ih1 ih2 h=>by simp only[under,Xa]at h ⊢;exact⟨ih1 h.1,ih2 h.2⟩)
    (λt x ih h=>by simp only[under]at h ⊢;exact ih h) (λb h=>by simp[under]at h) (λ_=>rfl) (λ_=>rfl) (λp ps h1 h2 h=>by simp only[Bl,Xa]at h ⊢;exact⟨h1 h.1,h2 h.2⟩) p) hp
 refine Kc id rfl hB (λ_ _=>rfl) (λq hq=>?_) (λq hq=>by simp at hq) (λq hq=>by simp at hq);obtain⟨h1,h2⟩:=he q hq;obtain⟨h3,h4⟩:=key q.2 h2;rw[h3];exact⟨h1,h4⟩
end
theorem Vj (bs:ByteArray):∀(n i:Nat) (r:List UInt8),bs.size-i=n->Xg.loop bs i r=r.reverse++bs.data.toList.drop i
 | 0,i,r,h=>by
  unfold Xg.loop
  have hi:¬i<bs.size:=by omega
  have hs:bs.data.toList.length=bs.size:=rfl;rw[zz hi,List.drop_eq_nil_of_le (by omega)];simp
 | n+1,i,r,h=>by
  unfold Xg.loop
  have hi:i<bs.size:=by omega
  rw[zy hi,Vj bs n (i+1) _ (by omega)];have hs:bs.data.toList.length=bs.size:=rfl
  have hl:i<bs.data.toList.length:=by omega
  rw[List.drop_eq_getElem_cons hl,List.reverse_cons,List.append_assoc];congr 2
  have hl':i<bs.data.size:=by simpa using hl
  show bs.data[i]! :: _=_;rw[getElem!_pos bs.data i hl'];rfl
theorem Ft (bs:ByteArray):bs.toList=bs.data.toList:=by
 unfold Xg;rw[Vj bs bs.size 0 [] (by omega)];simp
theorem toList_inj {a b:ByteArray} (h:a.toList=b.toList):a=b:=by
 rw[Ft,Ft]at h;cases a;cases b;congr;exact Array.toList_inj.1 h
theorem mY (a b:ByteArray):(a.toList==b.toList)=decide (a=b):=by
 by_cases h:a=b
 .subst h;simp
 .rw[zx h,zu];exact λe=>h (toList_inj e)
def EE (a b:ByteArray):Bool:=Op.bytesLess a.toList b.toList
theorem mZ (a b:ByteArray):Op.bytesLess a.toList b.toList=EE a b:=rfl
@[simp] theorem B6u {Φ:AC} {H:Ab} {nx:Nat} (isB:Bool) (nk:Option NK) (a b:ByteArray):Ah Φ H nx (.bin isB .lss nk) [.t (.v (.string a)),.t (.v (.string b))]=some (.t (.v (.bool (EE a b))),H,nx):=rfl
theorem n9 {Φ:AC} {H:Ab} {nx:Nat} (isB:Bool) (nk:Option NK) (a b:ByteArray) (h:a.size+b.size<=9223372036854775807):Ah Φ H nx (.bin isB .add nk) [.t (.v (.string a)),.t (.v (.string b))]=some (.t (.v (.string (a++b))),H,nx):=by simp[Ah,DC,h]
theorem Vk:∀l:List UInt8,Op.bytesLess l l=false
 | []=>rfl
 | x::l=>by
  have:=Vk l;simp[Op.bytesLess,this]
theorem Vl:∀{a b c:List UInt8},Op.bytesLess a b=true->Op.bytesLess b c=true->Op.bytesLess a c=true
 | [],[],c,h,_=>by simp[Op.bytesLess]at h
 | [],_::_,[],_,h=>by simp[Op.bytesLess]at h
 | [],_::_,_::_,_,_=>by simp[Op.bytesLess]
 | _::_,[],_,h,_=>by simp[Op.bytesLess]at h
 | _::_,_::_,[],_,h=>by simp[Op.bytesLess]at h
 | x::a,y::b,z::c,h,h'=>by
  simp only[Op.bytesLess,X2,Xa,decide_eq_true_eq,beq_iff_eq]at h h' ⊢;rcases h with h | ⟨rfl,h⟩
  .rcases h' with h' | ⟨rfl,h'⟩
   .exact .inl (UInt8.lt_trans h h')
   .exact .inl h
  .rcases h' with h' | ⟨rfl,h'⟩
   .exact .inl h'
   .exact .inr ⟨rfl,Vl h h'⟩
theorem Vm:∀(a b:List UInt8),Op.bytesLess a b=false->a≠b->Op.bytesLess b a=true
 | [],[],_,h=>absurd rfl h
 | [],_::_,h,_=>by simp[Op.bytesLess]at h
 | _::_,[],_,_=>by simp[Op.bytesLess]
 | x::a,y::b,h,hne=>by
  simp only[Op.bytesLess,Bool.or_eq_false_iff,Bool.and_eq_false_iff,decide_eq_false_iff_not,zu,X2,Xa,decide_eq_true_eq,beq_iff_eq]at h ⊢;by_cases e:x=y
  .subst e;rcases h.2 with h2 | h2
   .exact absurd rfl h2
   .exact .inr ⟨rfl,Vm a b h2 (λe=>hne (by rw[e]))⟩
  .left;rcases UInt8.lt_or_lt_of_ne e with h1 | h1
   .exact absurd h1 h.1
   .exact h1
theorem Vn (a:ByteArray):EE a a=false:=Vk _
theorem nB {a b c:ByteArray} (h:EE a b=true) (h':EE b c=true):EE a c=true:=Vl h h'
theorem nC {a b:ByteArray} (h:EE a b=false) (hne:a≠b):EE b a=true:=Vm _ _ h λe=>hne (toList_inj e)
theorem nF {a b:ByteArray} (h:EE a b=true):EE b a=false:=by
 cases h':EE b a with
 | false=>rfl
 | true=>rw[<-Vn a];exact(nB h h').symm
section
variable {α : Type}
theorem Gd {e:Enc α} {ty by':Nat} {H:Ab} {nx b:Nat} {l m:List α} {src:PV} (h:Ar e ty H b l) (hs:DB H e.z src=some (m.length,(m.flatMap e.enc).map .t))
  (hb:(l.length+m.length)*by'<=140737488355328) (hb2:l.length+m.length<=9223372036854775807) :
  ∃b' H' nx',B1 ty e.z by' H nx (rowP e b l) src=some (rowP e b' (l++m),H',nx')/\Ar e ty H' b' (l++m)/\b'≠nx'/\nx<=nx'/\(∀c,c≠b->c<nx->Aa H' c=Aa H c)/\nx<=b':=by
 have ap:=Nj (nx:=nx) h hs hb hb2
 by_cases he:l++m=[]
 .refine⟨nx+1,appH e ty H nx b l m,Ej nx l m,?_,by rw[he];exact Ar.nil _ _ _ _,?_,?_,?_,by omega⟩
  .rw[ap]
   have:∀b',rowP e b' (l++m) = .t Ad:=by intro b';rw[he];rfl
   rw[this,this]
  .unfold Ej;rw[he];simp
  .unfold Ej;rw[he];simp
  .intro c hc hlt;unfold appH;rw[he];simp
 .have hne:(l++m).isEmpty=false:=by
   cases hx:l++m with
   | nil=>exact absurd hx he
   | cons _ _=>rfl
  refine⟨nx,appH e ty H nx b l m,Ej nx l m,ap,Ar.app,?_,?_,?_,Xb _⟩
  .unfold Ej;rw[hne];simp
  .unfold Ej;rw[hne];simp
  .intro c hc hlt;exact Rk (by omega) hc
variable {e : Enc α} {t : T} {l : List α}
end
section
variable {α : Type} {e : Enc α} {ty b : Nat} {H : Ab} {l : List α}
theorem nG {i:Nat} {x:α} (hx:l[i]?=some x) (k:IntKind):Bm e.z (rowP e b l) (.t (.v (.int k (i:Int))))=some (.ptr b (i*e.z)):=by
 have hi:i<l.length:=(Xo.1 hx).1
 cases l with
 | nil=>simp at hi
 | cons a r=>
  simp only[rowP,Bm];rw[zy ⟨by omega,by omega⟩];simp
end
section
variable {P : Program} {G : Ay}
theorem AB.keep1 {f:FuncId} {ps:List PV} {R0:Row} {r:T} {H':Ab} {nx':Nat} {ty:TypeId} {cs:List T} (h:AB P G f ps [(0,R0)] 1 (.t r) H' nx') (hl:Aa H' 0=some (.cells ty (cs.map .t))) :
  AB P G f ps [(0,R0)] 1 (.t r) [(0,.cells ty (cs.map .t))] 1:=by
 refine⟨h.1,λL w us hok hnx hargs=>(h.2 L w us hok hnx hargs).mono ?_⟩;rintro e w' ⟨v,L',rfl,hv,hok',hnx',hm,hx⟩
 have one:∀b r,Aa [(0,Row.cells ty (cs.map .t))] b=some r->b=0/\r = .cells ty (cs.map .t):=by
  intro b r hb;simp only[Aa]at hb;split at hb
  .rename_i e;injection hb with hb;exact⟨e.symm,hb.symm⟩
  .cases hb
 refine⟨v,{ L' with nx:=1 },rfl,by simp only[Ae]at hv ⊢;exact hv,⟨hok'.lt,λb r hb=>?_,λb r hb=>?_,λb b' r r' hb hb' _=>?_,λb r hb=>?_,hok'.glob⟩,rfl,
  ⟨hm.keeps,by rw[hnx];exact Xb _,hm.μ,hm.size,hm.shape⟩,⟨hx.size,hx.same,hx.more,hx.new,λg ⟨b,r,hb,e⟩=>?_,hx.shape,hx.outer⟩⟩
 .obtain⟨rfl,rfl⟩:=one b r hb;obtain⟨arr,ha,hl2,hc⟩:=hok'.rep 0 _ hl;refine⟨arr,ha,hl2,λj c hj=>?_⟩;obtain⟨x,hx1,hx2,hx3⟩:=hc j c hj;refine⟨x,hx1,hx2,?_⟩;rw[List.getElem?_map]at hj;obtain⟨c0,_,rfl⟩:=Xq.1 hj;simp only[Ae]at hx3 ⊢;exact hx3
 .obtain⟨rfl,rfl⟩:=one b r hb;exact hok'.apart 0 _ hl
 .rw[(one b r hb).1,(one b' r' hb').1]
 .rw[(one b r hb).1];exact Nat.lt_succ_self _
 .obtain⟨rfl,rfl⟩:=one b r hb;exact hx.mine g ⟨0,_,hl,e⟩
def Je (ty:TypeId) (g:List T->List T->Option (T×List T)) (ps:List PV) (H:Ab) (nx:Nat):Option (PV×Ab×Nat):=
 match ps with
 | .ptr b 0::args=>match Aa H b,Ee args with
  | some (.cells ty' cs),some ts=>match Ee cs with
   | some cs'=>if ty'=ty/\b<nx then(g cs' ts).map λo=>(.t o.1,upd H b (.cells ty (o.2.map .t)),nx)else none
   | none=>none
  | _,_=>none
 | _=>none
theorem nI {f:FuncId} {ty:TypeId} {g:List T->List T->Option (T×List T)}
  (h:∀cs ts r cs',g cs ts=some (r,cs')->AB P G f (.ptr 0 0::ts.map .t) [(0,.cells ty (cs.map .t))] 1 (.t r) [(0,.cells ty (cs'.map .t))] 1):HOK P G f (Je ty g) where
 call:=λps H nx r H' nx' hr=>by
  unfold Je at hr;split at hr
  .rename_i b args;split at hr
   .rename_i ty' cs ts hl ha;split at hr
    .rename_i cs' hc;split at hr
     .rename_i hcond;obtain⟨rfl,hb⟩:=hcond;obtain⟨o,ho,e⟩:=Xq.1 hr;injection e with e1 e2;injection e2 with e2 e3;subst e1;subst e2;subst e3;have:=(h cs' ts o.1 o.2 ho).lift1 (b:=b) (NX:=nx) (Hb:=H) (by rw[hl,Gu hc]) hb;rw[<-Gu ha]at this;exact this
     .cases hr
    .cases hr
   .cases hr
  .cases hr
 fresh:=λps H nx r H' nx' hr hf=>by
  unfold Je at hr;split at hr
  .rename_i b args;split at hr
   .rename_i ty' cs ts hl ha;split at hr
    .rename_i cs' hc;split at hr
     .rename_i hcond;obtain⟨o,ho,e⟩:=Xq.1 hr;injection e with e1 e2;injection e2 with e2 e3;subst e1;subst e2;subst e3;intro j x hj;rw[A9]at hj;split at hj
      .rename_i e;subst e;exact hcond.2
      .exact hf j x hj
     .cases hr
    .cases hr
   .cases hr
  .cases hr
theorem nJ {ty:TypeId} {g:List T->List T->Option (T×List T)} {b nx:Nat} {H:Ab} {cs ts:List T} {o:T×List T} (hl:Aa H b=some (.cells ty (cs.map .t))) (hb:b<nx) (ho:g cs ts=some o) :
  Je ty g (.ptr b 0::ts.map .t) H nx=some (.t o.1,upd H b (.cells ty (o.2.map .t)),nx):=by
 simp only[Je,hl,Ke,hb,and_self,if_true,ho,Xm]
end
noncomputable def Ge (ps0:List PV) (H0:Ab) (nx0:Nat) (out:PV×Ab×Nat) (ps:List PV) (H:Ab) (nx:Nat):Option (PV×Ab×Nat):=
 open Classical in if ps = ps0 /\ H = H0 /\ nx = nx0 then some out else none
theorem EF (ps:List PV) (H:Ab) (nx:Nat) (out:PV×Ab×Nat):Ge ps H nx out ps H nx=some out:=by
 unfold Ge;rw[zy ⟨rfl,rfl,rfl⟩]
theorem Fu {P:Program} {G:Ay} {f:FuncId} {ps:List PV} {H:Ab} {nx:Nat} {r:PV} {H':Ab} {nx':Nat} (h:AB P G f ps H nx r H' nx') (hf:(∀b x,Aa H b=some x->b<nx)->∀b x,Aa H' b=some x->b<nx'):HOK P G f (Ge ps H nx (r,H',nx')) where
 call:=λps1 H1 nx1 r1 H1' nx1' h1=>by
  unfold Ge at h1;split at h1
  .rename_i hc;obtain⟨rfl,rfl,rfl⟩:=hc;injection h1 with h1;injection h1 with h1 h2;injection h2 with h2 h3;subst h1;subst h2;subst h3;exact h
  .cases h1
 fresh:=λps1 H1 nx1 r1 H1' nx1' h1=>by
  unfold Ge at h1;split at h1
  .rename_i hc;obtain⟨rfl,rfl,rfl⟩:=hc;injection h1 with h1;injection h1 with h1 h2;injection h2 with h2 h3;subst h1;subst h2;subst h3;exact hf
  .cases h1
section
variable {α : Type} {P : Program} {G : Ay} {B : Nat}
theorem Dv {e:Enc α} {ty b k nx nx' n:Nat} {l:List α} {env env':List (Nat×PV)} {H R:Ab} (h:Ar e ty H k l) (hb:b<nx') (hB:B<=b)
  (hR:∀q∈R,Aa H q.1=some (BG (λx=>if x=b then k else x) q.2)/\q.1<nx'/\q.1≠b/\q.1≠k/\BU nx' q.2=true)
  (he:∀q∈env',Aa env q.1=some (ren (λx=>if x=b then k else x) q.2)/\under nx' q.2=true) :
  Sub P G B ⟨env,H,nx,n⟩ ⟨env',R++Ax e ty b l,nx',n⟩:=by
 refine Kc (λx=>if x=b then k else x) rfl (by show B<=nx';omega) (λx hx=>by show(if x=b then k else x)=x;rw[zz (by omega)]) he (λq hq=>?_) (λq hq q' hq' eqn=>?_)
 .rcases X3.1 hq with hq | hq
  .obtain⟨h1,h2,h3,h4,h5⟩:=hR q hq;refine⟨?_,h2,h5⟩;show Aa H (if q.1=b then k else q.1)=_;rw[zz h3];exact h1
  .obtain⟨hn,rfl⟩:=EU hq;simp only[if_true,HZ,Ia];exact⟨h.resolve_left hn,hb,trivial⟩
 .have key:∀q∈R++Ax e ty b l,q.1=b\/(q.1≠b/\q.1≠k):=by
   intro q hq;rcases X3.1 hq with hq | hq
   .obtain⟨h1,h2,h3,h4,h5⟩:=hR q hq;exact .inr ⟨h3,h4⟩
   .obtain⟨hn,rfl⟩:=EU hq;exact .inl rfl
  have e:(if q.1=b then k else q.1)=(if q'.1=b then k else q'.1):=eqn;rcases key q hq with h1 | ⟨h1,h2⟩<;>rcases key q' hq' with h1' | ⟨h1',h2'⟩
  .rw[h1,h1']
  .rw[zy h1,zz h1']at e;exact absurd e.symm h2'
  .rw[zz h1,zy h1']at e;exact absurd e h2
  .rw[zz h1,zz h1']at e;exact e
end
inductive Ds where
 | mk (op:Int) (name:ByteArray) (path:List ByteArray) (kids:List Ds)
def Ds.op:Ds->Int | .mk o _ _ _=>o
def nK:Nat->List T->T
 | 0,_=>Ad
 | n+1,cs=>.sl (n+1) cs
mutual
def A4:Ds->List T
 | .mk op name path kids=>[iv op,sv name,Am Aj path,nK kids.length (EV kids)]
def EV:List Ds->List T
 | []=>[]
 | d::r=>A4 d++EV r
end
theorem Gf (d:Ds):(A4 d).length=4:=by cases d;rw[A4];rfl
theorem nL {a b:List ByteArray} (h:Am Aj a=Am Aj b):a=b:=(tSl Aj).uniq _ _ _ (IsS.tree Aj a) (h▸IsS.tree Aj b)
mutual
theorem OW:∀(a b:Ds),A4 a=A4 b->a=b
 | .mk o n p k,.mk o' n' p' k',h=>by
  rw[A4,A4]at h;injection h with h1 h;injection h with h2 h;injection h with h3 h;injection h with h4 _;injection h1 with h1;injection h1 with _ h1;injection h2 with h2;injection h2 with h2;have h3':=nL h3;subst h1;subst h2;subst h3'
  have:k=k':=by
   cases k with
   | nil=>
    cases k' with
    | nil=>rfl
    | cons _ _=>cases h4
   | cons x r=>
    cases k' with
    | nil=>cases h4
    | cons y r'=>
     injection h4 with _ h4;exact Vo (x::r) (y::r') h4
  rw[this]
theorem Vo:∀(a b:List Ds),EV a=EV b->a=b
 | [],[],_=>rfl
 | [],d::r,h=>by
  rw[EV,EV]at h;have:=congrArg Xh h;rw[Xd,Gf]at this;simp at this;omega
 | d::r,[],h=>by
  rw[EV,EV]at h;have:=congrArg Xh h;rw[Xd,Gf]at this;simp at this
 | a::l,b::m,h=>by
  rw[EV,EV]at h;have h1:=Xn h (by rw[Gf,Gf]);rw[OW a b h1.1,Vo l m h1.2]
end
def eD:Enc Ds:=⟨4,A4,Gf,by omega,OW⟩
theorem Ro:∀l:List Ds,EV l=l.flatMap eD.enc
 | []=>rfl
 | d::r=>by rw[EV,Xf,Ro r];rfl
theorem FG (op:Int) (name:ByteArray) (path:List ByteArray) (kids:List Ds):A4 (.mk op name path kids)=[iv op,sv name,Am Aj path,Am eD kids]:=by
 rw[A4]
 cases kids with
 | nil=>rfl
 | cons k r=>
  have e:Am eD (k::r) = .sl (k::r).length ((k::r).flatMap eD.enc):=rfl;rw[e,<-Ro];rfl
mutual
def Cm:Ds->List T->Prop
 | .mk op name path kids,cs=>∃tp tk,cs=[iv op,sv name,tp,tk]/\IsS Aj tp path/\((tk=Ad/\kids=[])\/∃c,tk = .sl kids.length c/\Dp kids c)
def Dp:List Ds->List T->Prop
 | [],cs=>cs=[]
 | d::r,cs=>∃c c',cs=c++c'/\Cm d c/\Dp r c'
end
def IsK (t:T) (kids:List Ds):Prop:=(t=Ad/\kids=[])\/∃c,t = .sl kids.length c/\Dp kids c
theorem Cm.len:∀{d:Ds} {c:List T},Cm d c->c.length=4
 | .mk _ _ _ _,c,h=>by
  simp only[Cm]at h;obtain⟨tp,tk,rfl,_⟩:=h;rfl
theorem Cm.parts {op:Int} {name:ByteArray} {path:List ByteArray} {kids:List Ds} {c:List T} (h:Cm (.mk op name path kids) c):∃tp tk,c=[iv op,sv name,tp,tk]/\IsS Aj tp path/\IsK tk kids:=by
 simp only[Cm]at h;exact h
mutual
theorem Cm.uniq:∀(a b:Ds) (c:List T),Cm a c->Cm b c->a=b
 | .mk o n p k,.mk o' n' p' k',c,h,h'=>by
  obtain⟨tp,tk,rfl,hp,hk⟩:=h.parts;obtain⟨tp',tk',e,hp',hk'⟩:=h'.parts;injection e with h1 e;injection e with h2 e;injection e with h3 e;injection e with h4 _;injection h1 with h1;injection h1 with _ h1;injection h2 with h2;injection h2 with h2;subst h1;subst h2;subst h3;subst h4;have e1:=(tSl Aj).uniq _ _ _ hp hp';subst e1
  have:k=k':=by
   rcases hk with⟨rfl,rfl⟩ | ⟨cs,rfl,hc⟩
   .rcases hk' with⟨_,rfl⟩ | ⟨cs',e,_⟩
    .rfl
    .cases e
   .rcases hk' with⟨e,_⟩ | ⟨cs',e,hc'⟩
    .cases e
    .injection e with e1 e2;subst e2;exact Dp.uniq k k' cs hc hc'
  rw[this]
theorem Dp.uniq:∀(a b:List Ds) (c:List T),Dp a c->Dp b c->a=b
 | [],[],_,_,_=>rfl
 | [],d::r,c,h,h'=>by
  simp only[Dp]at h h';obtain⟨c1,c2,e,h1,_⟩:=h';have:=h1.len;rw[h]at e;have:=congrArg Xh e;rw[Xd]at this;simp at this;omega
 | d::r,[],c,h,h'=>by
  simp only[Dp]at h h';obtain⟨c1,c2,e,h1,_⟩:=h;have:=h1.len;rw[h']at e;have:=congrArg Xh e;rw[Xd]at this;simp at this;omega
 | a::l,b::m,c,h,h'=>by
  simp only[Dp]at h h';obtain⟨c1,c2,e,h1,h2⟩:=h;obtain⟨c1',c2',e',h1',h2'⟩:=h';rw[e]at e';have h3:=Xn e' (by rw[h1.len,h1'.len]);obtain⟨rfl,rfl⟩:=h3;rw[Cm.uniq a b c1 h1 h1',Dp.uniq l m c2 h2 h2']
end
mutual
theorem Cm.enc:∀d:Ds,Cm d (A4 d)
 | .mk o n p k=>by
  rw[Cm,A4];refine⟨_,_,rfl,IsS.tree Aj p,?_⟩
  cases k with
  | nil=>exact .inl ⟨rfl,rfl⟩
  | cons x r=>exact .inr ⟨_,rfl,Dp.enc (x::r)⟩
theorem Dp.enc:∀l:List Ds,Dp l (EV l)
 | []=>by rw[Dp,EV]
 | d::r=>by
  rw[Dp,EV];exact⟨_,_,rfl,Cm.enc d,Dp.enc r⟩
end
theorem IsK.tree (l:List Ds):IsK (Am eD l) l:=by
 cases l with
 | nil=>exact .inl ⟨rfl,rfl⟩
 | cons x r=>exact .inr ⟨_,rfl,by rw[<-Ro];exact Dp.enc (x::r)⟩
theorem Dp.at_:∀{l:List Ds} {c:List T} {i:Nat} {x:Ds},Dp l c->l[i]?=some x->∃ci r,c.drop (i*4)=ci++r/\Cm x ci
 | [],c,i,x,_,h=>by simp at h
 | d::l,c,0,x,h,hx=>by
  simp only[Dp]at h;obtain⟨c1,c2,rfl,h1,_⟩:=h
  have e:d=x:=by simpa using hx
  subst e;exact⟨c1,c2,rfl,h1⟩
 | d::l,c,i+1,x,h,hx=>by
  simp only[Dp]at h;obtain⟨c1,c2,rfl,h1,h2⟩:=h;obtain⟨ci,r,e,h3⟩:=h2.at_ (i:=i) (x:=x) (by simpa using hx);refine⟨ci,r,?_,h3⟩;rw[show(i+1)*4=4+i*4 by omega,<-Xw,Xx h1.len,e]
theorem IsK.len {t:T} {l:List Ds} (h:IsK t l):Bd (.t t)=some (.t (iv (l.length:Int))):=by
 rcases h with⟨rfl,rfl⟩ | ⟨c,rfl,_⟩<;>rfl
theorem IsK.iaddr {t:T} {l:List Ds} (h:IsK t l) {i:Nat} {x:Ds} (hx:l[i]?=some x) (k:IntKind):∃ci r,Bm 4 (.t t) (.t (.v (.int k (i:Int))))=some (.t (.pt (ci++r)))/\Cm x ci:=by
 have hi:i<l.length:=(Xo.1 hx).1;rcases h with⟨rfl,rfl⟩ | ⟨c,rfl,hc⟩
 .simp at hi
 .obtain⟨ci,r,e,h3⟩:=hc.at_ hx;refine⟨ci,r,?_,h3⟩;simp only[Bm];rw[zy ⟨by omega,by omega⟩,Xy,e]
def tD:Ty Ds:=⟨λt d=>∃c,t = .ag c/\Cm d c,λt a b ⟨c,e,h⟩ ⟨c',e',h'⟩=>by
 rw[e]at e';injection e' with e';subst e';exact Cm.uniq a b c h h'⟩
def tK:Ty (List Ds):=⟨IsK,λt a b h h'=>by
 rcases h with⟨rfl,rfl⟩ | ⟨c,rfl,hc⟩
 .rcases h' with⟨_,rfl⟩ | ⟨c',e,_⟩
  .rfl
  .cases e
 .rcases h' with⟨e,_⟩ | ⟨c',e,hc'⟩
  .cases e
  .injection e with _ e;subst e
   exact Dp.uniq a b c hc hc'⟩
mutual
def Ds.depth:Ds->Nat
 | .mk _ _ _ kids=>Jf kids+1
def Jf:List Ds->Nat
 | []=>0
 | d::r=>max d.depth (Jf r)
end
theorem Vp:∀{l:List Ds} {x:Ds},x∈l->x.depth<=Jf l
 | [],x,h=>by cases h
 | d::r,x,h=>by
  rw[Jf];rcases Xi.1 h with e | e
  .rw[e];exact Nat.le_max_left _ _
  .exact Nat.le_trans (Vp e) (Nat.le_max_right _ _)
end Go.Abs
