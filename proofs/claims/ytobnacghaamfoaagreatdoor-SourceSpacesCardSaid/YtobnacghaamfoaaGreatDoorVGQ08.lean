/- Auxiliary facts. -/
import Derived.Test.YtobnacghaamfoaaGreatDoorVGQ07
import Derived.IntWalk
set_option linter.unusedSimpArgs false
set_option linter.unusedVariables false
open Nat renaming le_refl->Xa
open Option renaming bind_eq_some_iff->Xb,map_some->Xl,map_eq_some_iff->Xp,bind_some->Xu
open List renaming length_append->Xc,map_cons->Xe,flatMap_cons->Xf,length->Xh,mem_cons->Xi,mem_singleton->Xk,append_inj->Xm,getElem?_eq_some_iff->Xn,length_map->Xo,drop_drop->Xr,drop_left'->Xs,isEmpty_cons->Xv,take_of_length_le->Xx,mem_append->Xz
open Bool renaming and_eq_true->Xd,and_self->Xq,false_eq_true->Xw,or_eq_true->Xy
open ByteArray renaming toList->Xg
open Go.IntKind renaming i64->Xj
open Int renaming toNat_natCast->Xt
namespace Go.Abs
open Go
def GOK (P:Program) (G:A2) (f:FuncId) (g:List T->Option T):Prop:=∀args r,g args=some r->A1 P G f args (· = r)
abbrev Tbl:=List (Nat×(List T->Option T))
def Ld (tbl:Tbl) (f:FuncId) (args:List T):Option T:=
 match Aa tbl f with
 | some g=>g args
 | none=>none
structure HOK (P:Program) (G:A2) (f:FuncId) (h:List PV->Ab->Nat->Option (PV×Ab×Nat)):Prop where
 call:∀ps H nx r H' nx',h ps H nx=some (r,H',nx')->AH P G f ps H nx r H' nx'
 fresh:∀ps H nx r H' nx',h ps H nx=some (r,H',nx')->(∀b x,Aa H b=some x->b<nx)->∀b x,Aa H' b=some x->b<nx'
abbrev EF:=List (Nat×(List PV->Ab->Nat->Option (PV×Ab×Nat)))
def IG (tbl:EF) (f:FuncId) (ps:List PV) (H:Ab) (nx:Nat):Option (PV×Ab×Nat):=
 match Aa tbl f with
 | some g=>g ps H nx
 | none=>none
def orh (tbl:Tbl) (htbl:EF):A7:=⟨Ld tbl,IG htbl⟩
abbrev orc (tbl:Tbl):A7:=orh tbl []
@[simp] theorem C3b (tbl:Tbl) (htbl:EF) (f:FuncId) (args:List T):(orh tbl htbl).t f args=Ld tbl f args:=rfl
@[simp] theorem C3c (tbl:Tbl) (htbl:EF) (f:FuncId) (ps:List PV) (H:Ab) (nx:Nat):(orh tbl htbl).h f ps H nx=IG htbl f ps H nx:=rfl
@[simp] theorem C3d (k f:Nat) (g:List T->Option T) (r:Tbl) (args:List T):Ld ((k,g)::r) f args=if k=f then g args else Ld r f args:=by
 unfold Ld;rw[Az];by_cases h:k=f
 .rw[zy h,zy h]
 .rw[zz h,zz h]
@[simp] theorem C3e (f:Nat) (args:List T):Ld [] f args=none:=rfl
@[simp] theorem qX (k f:Nat) (g:List PV->Ab->Nat->Option (PV×Ab×Nat)) (r:EF) (ps:List PV) (H:Ab) (nx:Nat):IG ((k,g)::r) f ps H nx=if k=f then g ps H nx else IG r f ps H nx:=by
 unfold IG;rw[Az];by_cases h:k=f
 .rw[zy h,zy h]
 .rw[zz h,zz h]
@[simp] theorem C3f (f:Nat) (ps:List PV) (H:Ab) (nx:Nat):IG [] f ps H nx=none:=rfl
def As (P:Program) (G:A2) (tbl:Tbl):Prop:=∀q∈tbl,GOK P G q.1 q.2
theorem As.nil {P:Program} {G:A2}:As P G []:=λ_ h=>by cases h
theorem As.cons {P:Program} {G:A2} {f:Nat} {g:List T->Option T} {r:Tbl} (h:GOK P G f g) (hr:As P G r):As P G ((f,g)::r):=λq hq=>by
 rcases Xi.1 hq with rfl | hq
 .exact h
 .exact hr q hq
def AF (P:Program) (G:A2) (tbl:EF):Prop:=∀q∈tbl,HOK P G q.1 q.2
theorem AF.nil {P:Program} {G:A2}:AF P G []:=λ_ h=>by cases h
theorem AF.cons {P:Program} {G:A2} {f:Nat} {g:List PV->Ab->Nat->Option (PV×Ab×Nat)} {r:EF} (h:HOK P G f g) (hr:AF P G r):AF P G ((f,g)::r):=λq hq=>by
 rcases Xi.1 hq with rfl | hq
 .exact h
 .exact hr q hq
theorem As.soundH {P:Program} {G:A2} {tbl:Tbl} {htbl:EF} (h:As P G tbl) (hh:AF P G htbl):(orh tbl htbl).Sound P G where
 t:=λf args r hr=>by
  simp only[orh,Ld]at hr;split at hr
  .rename_i g hg;exact h _ (BK hg) args r hr
  .cases hr
 h:=λf ps H nx r H' nx' hr=>by
  simp only[orh,IG]at hr;split at hr
  .rename_i g hg;exact(hh _ (BK hg)).call ps H nx r H' nx' hr
  .cases hr
 fresh:=λf ps H nx r H' nx' hr=>by
  simp only[orh,IG]at hr;split at hr
  .rename_i g hg;exact(hh _ (BK hg)).fresh ps H nx r H' nx' hr
  .cases hr
theorem As.ctxH {P:Program} {G:A2} {tbl:Tbl} {htbl:EF} (h:As P G tbl) (hh:AF P G htbl) (hm:P.follows .mixedOrders=true):Ctx P G (orh tbl htbl):=⟨hm,h.soundH hh⟩
theorem As.ctx {P:Program} {G:A2} {tbl:Tbl} (h:As P G tbl) (hm:P.follows .mixedOrders=true):Ctx P G (orc tbl):=h.ctxH AF.nil hm
def Ct (g:List T->Option T) (ps:List PV) (H:Ab) (nx:Nat):Option (PV×Ab×Nat):=
 (BQ H ps).bind λq=>(g q.1).map λr=>(.t r,if DI r then H else Dy H q.2,nx)
theorem GOK.hok {P:Program} {G:A2} {f:FuncId} {g:List T->Option T} (h:GOK P G f g):HOK P G f (Ct g) where
 call:=λps H nx r H' nx' hr=>by
  unfold Ct at hr;obtain⟨⟨targs,F⟩,hT,hr⟩:=Xb.1 hr;obtain⟨r0,hg,e⟩:=AZ hr;injection e with e1 e2;injection e2 with e2 e3;subst e1;subst e2;subst e3;exact(h _ _ hg).callP hT
 fresh:=λps H nx r H' nx' hr hf b x hb=>by
  unfold Ct at hr;obtain⟨⟨targs,F⟩,hT,hr⟩:=Xb.1 hr;obtain⟨r0,hg,e⟩:=AZ hr;injection e with e1 e2;injection e2 with e2 e3;subst e1;subst e2;subst e3;split at hb
  .exact hf b x hb
  .exact hf b x (EB F H b x hb).1
section
variable {P : Program} {G : A2} {B N : Nat} {Q : Exit -> Ad -> Prop} {s : Ad}
def Oa (P:Program) (G:A2) (B:Nat) (S:Ad) (Q:Exit->Ad->Prop):Exit->Ad->Prop
 | .normal,s=>Sub P G B s S/\s.n=S.n
 | e,s=>Q e s
@[simp] theorem C3g (S:Ad) (s:Ad):Oa P G B S Q .normal s=(Sub P G B s S/\s.n=S.n):=rfl
@[simp] theorem C3h (S:Ad) (s:Ad):Oa P G B S Q .ret s=Q .ret s:=rfl
@[simp] theorem C3i (S:Ad) (i:Nat) (s:Ad):Oa P G B S Q (.exit i) s=Q (.exit i) s:=rfl
def JG (Q:Exit->Ad->Prop):Exit->Ad->Prop
 | .normal,_=>False
 | e,s=>Q e s
@[simp] theorem C3j (s:Ad):JG Q .normal s=False:=rfl
@[simp] theorem C3k (s:Ad):JG Q .ret s=Q .ret s:=rfl
@[simp] theorem C3l (i:Nat) (s:Ad):JG Q (.exit i) s=Q (.exit i) s:=rfl
theorem Gv {x:An} (S:Nat->Ad) (n:Nat) (hN:∀j,(S j).n=N) (h0:Sub P G B s (S 0)) (hs:s.n=N) (round:∀j,j<n->MC P G B N x (Oa P G B (S (j+1)) Q) (S j)) (last:MC P G B N x (JG Q) (S n)):MC P G B N (.loop x) Q s:=by
 refine MC.sub h0 ((hN 0).trans hs.symm) ?_;refine S8 (λk s=>∃j,j+k=n/\s=S j) n ⟨0,by omega,rfl⟩ (λk s ⟨j,_,e⟩=>by rw[e];exact hN j) ?_;rintro k s ⟨j,hj,rfl⟩;by_cases hlt:j<n
 .refine(round j hlt).mono λe s1 q=>?_;cases e
  case normal=>exact⟨k-1,by omega,S (j+1),q.1,j+1,by omega,rfl⟩
  all_goals exact q
 .have:j=n:=by omega
  subst this;refine last.mono λe s1 q=>?_;cases e
  case normal=>exact q.elim
  all_goals exact q
def Am (P:Program) (G:A2) (B:Nat) {α:Type} (S:α->Ad) (Ok:α->Prop) (s:Ad):Prop:=∃a,Ok a/\Sub P G B s (S a)
theorem Am.mk {α:Type} {S:α->Ad} {Ok:α->Prop} {s:Ad} (a:α) (h:Ok a) (hs:Sub P G B s (S a)):Am P G B S Ok s:=⟨a,h,hs⟩
def Le (P:Program) (G:A2) (B:Nat) {α:Type} (S:α->Ad) (Ok:α->Prop) (Q:Exit->Ad->Prop):Exit->Ad->Prop
 | .normal,s=>Am P G B S Ok s
 | e,s=>Q e s
@[simp] theorem C3m {α:Type} (S:α->Ad) (Ok:α->Prop) (s:Ad):Le P G B S Ok Q .normal s=Am P G B S Ok s:=rfl
@[simp] theorem C3n {α:Type} (S:α->Ad) (Ok:α->Prop) (s:Ad):Le P G B S Ok Q .ret s=Q .ret s:=rfl
@[simp] theorem C3o {α:Type} (S:α->Ad) (Ok:α->Prop) (i:Nat) (s:Ad):Le P G B S Ok Q (.exit i) s=Q (.exit i) s:=rfl
theorem D5 {x:An} {α:Type} (S:α->Ad) (μ:α->Nat) (Ok:α->Prop) (a0:α) (hN:∀a,(S a).n=N) (hok:Ok a0) (h0:Sub P G B s (S a0)) (hs:s.n=N)
  (round:∀a,Ok a->MC P G B N x (Le P G B S (λa'=>Ok a'/\μ a'<μ a) Q) (S a)):MC P G B N (.loop x) Q s:=by
 refine MC.sub h0 ((hN a0).trans hs.symm) ?_;refine S8 (λk s=>∃a,Ok a/\μ a=k/\s=S a) (μ a0) ⟨a0,hok,rfl,rfl⟩ (λk s ⟨a,_,_,e⟩=>by rw[e];exact hN a) ?_;rintro k s ⟨a,ha,rfl,rfl⟩;refine(round a ha).mono λe s1 q=>?_;cases e
 case normal=>obtain⟨a',h1,h2⟩:=q;exact⟨μ a',h1.2,S a',h2,a',h1.1,rfl,rfl⟩
 all_goals exact q
theorem BF {x y:An} {α:Type} (S:α->Ad) (Ok:α->Prop) (hN:∀a,(S a).n=N) (h1:MC P G B N x (Le P G B S Ok Q) s) (h2:∀a,Ok a->MC P G B N y Q (S a)):MC P G B N (.seq x y) Q s:=by
 intro c hc hn;obtain⟨a,b,rfl,ha,hb⟩:=Fb hc;refine PE (Cq.post (h1 a ha hn) λe s1 q=>?_);cases e
 case normal=>
  obtain⟨d,hd,hs⟩:=q;exact⟨S d,hs,h2 d hd b hb (hN d)⟩
 all_goals exact⟨s1,Sub.refl s1,q⟩
end
theorem H9 {z:Int} (h1:-9223372036854775808<=z) (h2:z<=9223372036854775807):Xj.wrap z=z:=by
 unfold IntKind.wrap IntKind.bits IntKind.signed;simp only[Bool.true_and,Nat.reduceSub]
 have e1:(2:Int)^64=18446744073709551616:=by decide
 have e2:(2:Int)^63=9223372036854775808:=by decide
 simp only[e1,e2,ge_iff_le,decide_eq_true_eq];split<;>omega
theorem AP {z:Int} {n:Nat} (e:z=n) (h:n<=9223372036854775807):Xj.wrap z=(n:Int):=by
 rw[H9 (by omega) (by omega),e]
@[simp] theorem C3p:IntKind.u64.bits=64:=rfl
@[simp] theorem C3q:Xj.bits=64:=rfl
section
variable {P : Program} {G : A2}
mutual
theorem Ob {L L':Loc} {w:World} {σ:Nat->Nat} {n:Nat} (hI:L'.I=L.I) (hμ:∀b,b<n->L'.μ (σ b)=L.μ b/\σ b<L'.nx):∀(p:PV) {u:Value},under n p=true->Af P L w p u->Af P L' w (ren σ p) u
 | .t x,u,_,h=>by simp only[ren,Af,hI]at h ⊢;exact h
 | .row b o m z,u,hu,h=>by
  simp only[ren,Af,under,decide_eq_true_eq]at h hu ⊢;obtain⟨h1,h2⟩:=hμ b hu;rw[h1];exact⟨h2,h.2⟩
 | .ptr b o,u,hu,h=>by
  simp only[ren,Af,under,decide_eq_true_eq]at h hu ⊢;obtain⟨h1,h2⟩:=hμ b hu;rw[h1];exact⟨h2,h.2⟩
 | .ag cs,u,hu,h=>by
  simp only[ren,Af,under]at h hu ⊢;obtain⟨us,e,h1,hl⟩:=h;exact⟨us,e,h1,Oc hI hμ cs hu hl⟩
 | .tu cs,u,hu,h=>by
  simp only[ren,Af,under]at h hu ⊢;obtain⟨us,e,hl⟩:=h;exact⟨us,e,Oc hI hμ cs hu hl⟩
 | .fn f a c,u,hu,h=>by
  simp only[ren,Af,under,Xd]at h hu ⊢;obtain⟨us,vs,e,h1,h2⟩:=h;exact⟨us,vs,e,Oc hI hμ a hu.1 h1,Oc hI hμ c hu.2 h2⟩
 | .ic t x,u,hu,h=>by
  simp only[ren,Af,under]at h hu ⊢;obtain⟨y,e,hy⟩:=h;exact⟨y,e,Ob hI hμ x hu hy⟩
 | .mp b,u,hu,h=>by
  simp only[ren,Af,under,decide_eq_true_eq]at h hu ⊢;obtain⟨h1,h2⟩:=hμ b hu;rw[h1];exact⟨h2,h.2⟩
 | .dead,u,_,_=>by simp only[ren,Af]
theorem Oc {L L':Loc} {w:World} {σ:Nat->Nat} {n:Nat} (hI:L'.I=L.I) (hμ:∀b,b<n->L'.μ (σ b)=L.μ b/\σ b<L'.nx):∀(ps:List PV) {us:List Value},B8 n ps=true->A5 P L w ps us->A5 P L' w (Bn σ ps) us
 | [],us,_,h=>by simpa only[Bn,A5]using h
 | p::ps,us,hu,h=>by
  simp only[Bn,A5,B8,Xd]at h hu ⊢;obtain⟨x,xs,e,hx,hxs⟩:=h;exact⟨x,xs,e,Ob hI hμ p hu.1 hx,Oc hI hμ ps hu.2 hxs⟩
end
theorem qY {L L':Loc} {w:World} {σ:Nat->Nat} {n g:Nat} (hI:L'.I=L.I) (hμ:∀b,b<n->L'.μ (σ b)=L.μ b/\σ b<L'.nx) {x:Row} (hu:Cm n x=true) (h:EV P L w g x):EV P L' w g (BE σ x):=by
 cases x with
 | cells ty cs=>
  obtain⟨arr,ha,hl,hc⟩:=h;refine⟨arr,ha,by rw[NV];exact hl,λj c hj=>?_⟩;rw[NT]at hj;obtain⟨c0,hc0,rfl⟩:=AZ hj;obtain⟨v,hv,h1,hr⟩:=hc j c0 hc0;exact⟨v,hv,h1,Ob hI hμ c0 (NU hu hc0) hr⟩
 | iter t pos=>exact h
 | map kk es=>exact h
 | lp l x k p=>exact⟨h.1,h.2.1,Ob hI hμ p hu h.2.2⟩
 | blk l o=>exact h
def CO (σ:Nat->Nat) (nx NX:Nat) (b:Nat):Nat:=if b<nx then σ b else NX+(b-nx)
theorem AH.lift {f:FuncId} {ps:List PV} {H H':Ab} {nx nx':Nat} {r:PV} (h:AH P G f ps H nx r H' nx') (σ:Nat->Nat) (NX:Nat) (Hb Hb':Ab)
  (hσ:∀b,b<nx->σ b<NX) (hinj:∀b c,b<nx->c<nx->σ b=σ c->b=c) (hle:nx<=nx')
  (hH:∀q∈H,Aa Hb (σ q.1)=some (BE σ q.2)/\q.1<nx/\Cm nx q.2=true) (hps:B8 nx ps=true)
  (hr:under nx' r=true) (hH':∀q∈H',q.1<nx'/\Cm nx' q.2=true)
  (hb':∀b x,Aa Hb' b=some x->(∃b0 x0,Aa H' b0=some x0/\b=CO σ nx NX b0/\x=BE (CO σ nx NX) x0)\/(Aa Hb b=some x/\∀b0 x0,Aa H b0=some x0->σ b0≠b)) :
  AH P G f (Bn σ ps) Hb NX (ren (CO σ nx NX) r) Hb' (NX+(nx'-nx)):=by
 refine⟨h.1,λL w us hok hnx hargs=>?_⟩
 let L0:Loc:=⟨L.I,λb=>L.μ (σ b),nx⟩
 have hok0:BA P G L0 H w:=by
  refine⟨hok.lt,λb x hb=>?_,λb x hb=>?_,λb b' x x' hb hb' e=>?_,λb x hb=>(hH _ (BK hb)).2.1,hok.glob⟩
  .obtain⟨h1,h2,h3⟩:=hH _ (BK hb);have:=hok.rep _ _ h1
   cases x with
   | cells ty cs=>
    obtain⟨arr,ha,hl,hc⟩:=this;refine⟨arr,ha,by rw[NV]at hl;exact hl,λj c hj=>?_⟩;obtain⟨v,hv,h1v,hrv⟩:=hc j (ren σ c) (by rw[NT,hj];rfl);exact⟨v,hv,h1v,I7 c (NU h3 hj) hrv⟩
   | iter t pos=>exact this
   | map kk es=>exact this
   | lp l x k p=>exact⟨this.1,this.2.1,I7 p h3 this.2.2⟩
   | blk l o=>exact this
  .exact hok.apart _ _ (hH _ (BK hb)).1
  .exact hinj b b' (hH _ (BK hb)).2.1 (hH _ (BK hb')).2.1 (hok.inj _ _ _ _ (hH _ (BK hb)).1 (hH _ (BK hb')).1 e)
 have mine0:∀g,FW L0 H g->FW L Hb g:=λg ⟨b,x,hb,e⟩=>⟨σ b,_,(hH _ (BK hb)).1,e⟩
 refine(h.2 L0 w us hok0 rfl (Lb ps hps hargs)).mono ?_;rintro e w' ⟨v,L1,rfl,hv,hok1,hnx1,hm1,hx1⟩
 let L':Loc:=⟨L1.I,λb=>if b<NX then L.μ b else L1.μ (b-NX+nx),NX+(nx'-nx)⟩
 have hμ:∀b,b<nx'->L'.μ (CO σ nx NX b)=L1.μ b/\CO σ nx NX b<L'.nx:=by
  intro b hb;unfold CO;by_cases hlt:b<nx
  .rw[zy hlt];have h1:=hσ b hlt;refine⟨?_,by show σ b<NX+(nx'-nx);omega⟩;show(if σ b<NX then L.μ (σ b)else _)=_;rw[zy h1];exact(hm1.μ b hlt).symm
  .rw[zz hlt];refine⟨?_,by show NX+(b-nx)<NX+(nx'-nx);omega⟩;show(if NX+(b-nx)<NX then _ else L1.μ (NX+(b-nx)-NX+nx))=_;rw[zz (by omega)];congr 1;omega
 have hmono:Bh L w L' w':=by
  refine⟨hm1.keeps,by show L.nx<=NX+(nx'-nx);omega,λb hb=>?_,hm1.size,hm1.shape⟩;show(if b<NX then L.μ b else _)=_;rw[zy (by omega)]
 have old:∀b x,Aa Hb b=some x->(∀b0 x0,Aa H b0=some x0->σ b0≠b)->¬FW L0 H (L.μ b):=by
  intro b x hb hne ⟨b0,x0,h0,e⟩;exact hne b0 x0 h0 (hok.inj _ _ _ _ (hH _ (BK h0)).1 hb e)
 have oldμ:∀b x,Aa Hb b=some x->L'.μ b=L.μ b:=by
  intro b x hb;have:=hok.nx b x hb;show(if b<NX then L.μ b else _)=_;rw[zy (by omega)]
 have newμ:∀b0 x0,Aa H' b0=some x0->L'.μ (CO σ nx NX b0)=L1.μ b0:=λb0 x0 h0=>(hμ b0 (hH' _ (BK h0)).1).1;refine⟨v,L',rfl,Ob (L:=L1) (L':=L') rfl hμ r hr hv,?_,rfl,hmono,?_⟩
 .refine⟨hok1.lt,λb x hb=>?_,λb x hb hI=>?_,λb b2 x x2 hb hb2 e=>?_,λb x hb=>?_,hok1.glob⟩
  .rcases hb' b x hb with⟨b0,x0,h0,rfl,rfl⟩ | ⟨h0,hne⟩
   .rw[newμ b0 x0 h0];exact qY (L:=L1) (L':=L') rfl hμ (hH' _ (BK h0)).2 (hok1.rep b0 x0 h0)
   .rw[oldμ b x h0];exact(hok.rep b x h0).keep hmono (hx1.same _ (hok.rep b x h0).lt (old b x h0 hne))
  .rcases hb' b x hb with⟨b0,x0,h0,rfl,rfl⟩ | ⟨h0,hne⟩
   .rw[newμ b0 x0 h0]at hI;exact hok1.apart b0 x0 h0 hI
   .rw[oldμ b x h0]at hI;rcases hx1.new _ hI with h2 | h2 | h2
    .exact hok.apart b x h0 h2
    .have:=(hok.rep b x h0).lt;omega
    .exact old b x h0 hne h2
  .rcases hb' b x hb with⟨b0,x0,h0,rfl,rfl⟩ | ⟨h0,hne⟩<;>rcases hb' b2 x2 hb2 with⟨c0,y0,k0,rfl,rfl⟩ | ⟨k0,kne⟩
   .rw[newμ b0 x0 h0,newμ c0 y0 k0]at e;rw[hok1.inj b0 c0 x0 y0 h0 k0 e]
   .rw[newμ b0 x0 h0,oldμ _ _ k0]at e;rcases hx1.mine (L.μ b2) ⟨b0,x0,h0,e⟩with h2 | h2
    .have:=(hok.rep b2 x2 k0).lt;omega
    .exact absurd h2 (old b2 x2 k0 kne)
   .rw[oldμ _ _ h0,newμ c0 y0 k0]at e;rcases hx1.mine (L.μ b) ⟨c0,y0,k0,e.symm⟩with h2 | h2
    .have:=(hok.rep b x h0).lt;omega
    .exact absurd h2 (old b x h0 hne)
   .rw[oldμ _ _ h0,oldμ _ _ k0]at e;exact hok.inj b b2 x x2 h0 k0 e
  .rcases hb' b x hb with⟨b0,x0,h0,rfl,rfl⟩ | ⟨h0,hne⟩
   .exact(hμ b0 (hH' _ (BK h0)).1).2
   .have:=hok.nx b x h0;show b<NX+(nx'-nx);omega
 .refine⟨hx1.size,λg hg hm=>hx1.same g hg (λh2=>hm (mine0 g h2)),hx1.more,λg hg=>?_,λg ⟨b,x,hb,e⟩=>?_,hx1.shape,hx1.outer⟩
  .rcases hx1.new g hg with h2 | h2 | h2
   .exact .inl h2
   .exact .inr (.inl h2)
   .exact .inr (.inr (mine0 g h2))
  .rcases hb' b x hb with⟨b0,x0,h0,rfl,rfl⟩ | ⟨h0,hne⟩
   .rw[newμ b0 x0 h0]at e;rcases hx1.mine g ⟨b0,x0,h0,e⟩with h2 | h2
    .exact .inl h2
    .exact .inr (mine0 g h2)
   .rw[oldμ _ _ h0]at e;exact .inr ⟨b,x,h0,e⟩
theorem AH.lift1 {f:FuncId} {ty:TypeId} {cs cs':List T} {args:List T} {r:T} (h:AH P G f (.ptr 0 0::args.map .t) [(0,.cells ty (cs.map .t))] 1 (.t r) [(0,.cells ty (cs'.map .t))] 1)
  {b NX:Nat} {Hb:Ab} (hb:Aa Hb b=some (.cells ty (cs.map .t))) (hlt:b<NX) :
  AH P G f (.ptr b 0::args.map .t) Hb NX (.t r) (upd Hb b (.cells ty (cs'.map .t))) NX:=by
 have rt:∀(σ:Nat->Nat) (l:List T),Bn σ (l.map .t)=l.map .t:=by
  intro σ l
  induction l with
  | nil=>rfl
  | cons x l ih=>simp only[Xe,Bn,ren,ih]
 have ut:∀(n:Nat) (l:List T),B8 n (l.map .t)=true:=by
  intro n l
  induction l with
  | nil=>rfl
  | cons x l ih=>simp only[Xe,B8,under,ih,Xq]
 have:=h.lift (λ_=>b) NX Hb (upd Hb b (.cells ty (cs'.map .t))) (λ_ _=>hlt) (λx y hx hy _=>by omega) (Xa _) (λq hq=>by
  simp only[Xk]at hq;subst hq;simp only[BE,rt,Cm,ut]
  exact⟨hb,by omega,trivial⟩) (by simp only[B8,under,ut];rfl) rfl (λq hq=>by
  simp only[Xk]at hq;subst hq
  exact⟨by omega,ut _ _⟩) (λc x hc=>by
  rw[AN]at hc;split at hc
  .rename_i e;subst e;left;refine⟨0,_,rfl,by simp[CO],?_⟩;rw[hb]at hc;simp only[Xl,Option.some.injEq]at hc;simp only[BE,rt];exact hc.symm
  .rename_i e;right
   refine⟨hc,λb0 x0 _ e2=>e e2.symm⟩)
 simp only[Bn,ren,rt,Nat.sub_self,Nat.add_zero]at this;exact this
end
structure Ty (α:Type) where
 is:T->α->Prop
 uniq:∀t a b,is t a->is t b->a=b
noncomputable def Ty.dec {α:Type} (τ:Ty α) (t:T):Option α:=
 open Classical in if h : ∃ a, τ.is t a then some h.choose else none
theorem Ty.dec_is {α:Type} {τ:Ty α} {t:T} {a:α} (h:τ.is t a):τ.dec t=some a:=by
 unfold Ty.dec
 have hx:∃a,τ.is t a:=⟨a,h⟩
 rw[dif_pos hx];rw[τ.uniq t _ _ hx.choose_spec h]
theorem Ty.is_dec {α:Type} {τ:Ty α} {t:T} {a:α} (h:τ.dec t=some a):τ.is t a:=by
 unfold Ty.dec at h;split at h
 .rename_i hx;injection h with h;subst h;exact hx.choose_spec
 .cases h
abbrev iv (n:Int):T:=.v (.int .i64 n)
abbrev bv (b:Bool):T:=.v (.bool b)
abbrev sv (s:ByteArray):T:=.v (.string s)
abbrev Ah:T:=.v (.slice none 0 0)
def JH:Ty Int:=⟨λt n=>t=iv n,λt a b h h'=>by rw[h]at h';injection h' with h';injection h'⟩
def BU:Ty ByteArray:=⟨λt n=>t=sv n,λt a b h h'=>by rw[h]at h';injection h' with h';injection h'⟩
structure Enc (α:Type) where
 z:Nat
 enc:α->List T
 len:∀a,(enc a).length=z
 pos:0<z
 inj:∀a b,enc a=enc b->a=b
def slT {α:Type} (e:Enc α) (l:List α):T:=.sl l.length (l.flatMap e.enc)
def IsS {α:Type} (e:Enc α) (t:T) (l:List α):Prop:=(t=Ah/\l=[])\/t=slT e l
theorem XC {α:Type} (e:Enc α):∀(l m:List α),l.length=m.length->l.flatMap e.enc=m.flatMap e.enc->l=m
 | [],[],_,_=>rfl
 | [],_::_,h,_=>by simp at h
 | _::_,[],h,_=>by simp at h
 | a::l,b::m,h,he=>by
  simp only[Xf]at he;have h1:=Xm he (by rw[e.len,e.len]);rw[e.inj a b h1.1,XC e l m (by simpa using h) h1.2]
def tSl {α:Type} (e:Enc α):Ty (List α):=⟨IsS e,λt a b h h'=>by
 rcases h with⟨rfl,rfl⟩ | rfl
 .rcases h' with⟨_,rfl⟩ | h'
  .rfl
  .cases h'
 .rcases h' with⟨h',_⟩ | h'
  .cases h'
  .unfold slT at h';injection h' with h1 h2
   exact XC e a b h1 h2⟩
def Ak:Enc ByteArray:=⟨1,λn=>[sv n],λ_=>rfl,by omega,λa b h=>by injection h with h;injection h with h;injection h⟩
section
variable {α : Type} {e : Enc α} {t : T} {l : List α}
theorem IsS.len (h:IsS e t l):AO (.t t)=some (.t (iv (l.length:Int))):=by
 rcases h with⟨rfl,rfl⟩ | rfl<;>rfl
def AU (e:Enc α) (l:List α) (i:Nat):List T:=(l.drop (i+1)).flatMap e.enc
theorem XD (e:Enc α):∀(l:List α) (i:Nat) (x:α),l[i]?=some x->(l.flatMap e.enc).drop (i*e.z)=e.enc x++AU e l i
 | [],i,x,h=>by simp at h
 | a::l,0,x,h=>by
  simp at h;subst h;simp[AU]
 | a::l,i+1,x,h=>by
  have ih:=XD e l i x (by simpa using h);rw[Xf,Nat.succ_mul,Nat.add_comm,<-Xr,Xs (e.len a),ih];simp[AU]
theorem IsS.iaddr (h:IsS e t l) {i:Nat} {x:α} (hx:l[i]?=some x) (k:IntKind):Bd e.z (.t t) (.t (.v (.int k (i:Int))))=some (.t (.pt (e.enc x++AU e l i))):=by
 have hi:i<l.length:=(Xn.1 hx).1;rcases h with⟨rfl,rfl⟩ | rfl
 .simp at hi
 .simp only[Bd,slT];rw[zy ⟨by omega,by omega⟩,Xt,XD e l i x hx]
theorem IsS.mk (l:List α):IsS e (slT e l) l:=.inr rfl
end
noncomputable def g1 {α:Type} (τ:Ty α) (f:α->Option T):List T->Option T
 | [a]=>(τ.dec a).bind f
 | _=>none
noncomputable def g2 {α β:Type} (τ:Ty α) (σ:Ty β) (f:α->β->Option T):List T->Option T
 | [a,b]=>(τ.dec a).bind λx=>(σ.dec b).bind λy=>f x y
 | _=>none
noncomputable def g3 {α β γ:Type} (τ:Ty α) (σ:Ty β) (ρ:Ty γ) (f:α->β->γ->Option T):List T->Option T
 | [a,b,c]=>(τ.dec a).bind λx=>(σ.dec b).bind λy=>(ρ.dec c).bind λz=>f x y z
 | _=>none
noncomputable def g4 {α β γ δ:Type} (τ:Ty α) (σ:Ty β) (ρ:Ty γ) (π:Ty δ) (f:α->β->γ->δ->Option T):List T->Option T
 | [a,b,c,d]=>(τ.dec a).bind λx=>(σ.dec b).bind λy=>(ρ.dec c).bind λz=>(π.dec d).bind λu=>f x y z u
 | _=>none
section
variable {P : Program} {G : A2} {F : FuncId} {α β γ δ : Type} {τ : Ty α} {σ : Ty β} {ρ : Ty γ} {π : Ty δ}
theorem D6 {f:α->Option T} (h:∀a x r,τ.is a x->f x=some r->A1 P G F [a] (· = r)):GOK P G F (g1 τ f):=by
 intro args r e;unfold g1 at e;split at e
 .obtain⟨x,hx,e⟩:=Xb.1 e;exact h _ x r (Ty.is_dec hx) e
 .cases e
theorem D8 {f:α->Option T} {a:T} {x:α} (h:τ.is a x):g1 τ f [a]=f x:=by
 simp only[g1,Ty.dec_is h,Xu]
theorem Do {f:α->β->Option T} (h:∀a b x y r,τ.is a x->σ.is b y->f x y=some r->A1 P G F [a,b] (· = r)):GOK P G F (g2 τ σ f):=by
 intro args r e;unfold g2 at e;split at e
 .obtain⟨x,hx,e⟩:=Xb.1 e;obtain⟨y,hy,e⟩:=Xb.1 e;exact h _ _ x y r (Ty.is_dec hx) (Ty.is_dec hy) e
 .cases e
theorem Dz {f:α->β->Option T} {a b:T} {x:α} {y:β} (h:τ.is a x) (h':σ.is b y):g2 τ σ f [a,b]=f x y:=by
 simp only[g2,Ty.dec_is h,Ty.dec_is h',Xu]
end
section
variable {α : Type}
def rowP (e:Enc α) (b:Nat):List α->PV
 | []=>.t Ah
 | l=>.row b 0 l.length e.z
def A4 (e:Enc α) (ty b:Nat):List α->Ab
 | []=>[]
 | l=>[(b,.cells ty ((l.flatMap e.enc).map .t))]
def Aq (e:Enc α):List α->T
 | []=>Ah
 | l=>slT e l
def GV (b:Nat):List α->List Nat
 | []=>[]
 | _=>[b]
theorem IsS.tree (e:Enc α) (l:List α):IsS e (Aq e l) l:=by
 cases l with
 | nil=>exact .inl ⟨rfl,rfl⟩
 | cons x r=>exact .inr rfl
theorem IH (e:Enc α):∀l:List α,(l.flatMap e.enc).length=l.length*e.z
 | []=>by simp
 | a::l=>by rw[Xf,Xc,e.len,IH e l,List.length_cons,Nat.succ_mul,Nat.add_comm]
theorem Ek (e:Enc α) (σ:Nat->Nat) (b:Nat) (l:List α):ren σ (rowP e b l)=rowP e (σ b) l:=by cases l<;>rfl
theorem Em (e:Enc α) (n b:Nat) (l:List α) (h:b<n):under n (rowP e b l)=true:=by
 cases l with
 | nil=>rfl
 | cons x r=>simp[rowP,under,h]
end
section
variable {α : Type} {P : Program} {G : A2} {B : Nat}
def rowOf (e:Enc α) (ty:Nat) (l:List α):Row:=.cells ty ((l.flatMap e.enc).map .t)
def Ay (e:Enc α) (ty:Nat) (H:Ab) (b:Nat) (l:List α):Prop:=l=[]\/Aa H b=some (rowOf e ty l)
theorem Ay.nil (e:Enc α) (ty:Nat) (H:Ab) (b:Nat):Ay e ty H b []:=.inl rfl
theorem Ay.cons {e:Enc α} {ty:Nat} {H:Ab} {b:Nat} {l:List α} (h:Ay e ty H b l) {k:Nat} {r:Row} (hk:k≠b):Ay e ty ((k,r)::H) b l:=
 h.imp id λh=>by rw[Az,zz hk];exact h
theorem Ay.head (e:Enc α) (ty:Nat) (H:Ab) (b:Nat) (l:List α):Ay e ty (A4 e ty b l++H) b l:=by
 cases l with
 | nil=>exact .inl rfl
 | cons x r=>right;simp[A4,rowOf]
theorem Ay.head' (e:Enc α) (ty b:Nat) (l:List α):Ay e ty (A4 e ty b l) b l:=by
 have h:=Ay.head e ty [] b l;rwa[List.append_nil]at h
def appH (e:Enc α) (ty:Nat) (H:Ab) (nx b:Nat) (l m:List α):Ab:=
 if(l++m).isEmpty then H else(nx,rowOf e ty (l++m))::(if l.isEmpty then H else rem H b)
def EG (nx:Nat) (l m:List α):Nat:=if(l++m).isEmpty then nx else nx+1
theorem Od {e:Enc α} {ty by':Nat} {H:Ab} {nx b:Nat} {l m:List α} {src:PV} (h:Ay e ty H b l) (hs:Ew H e.z src=some (m.length,(m.flatMap e.enc).map .t))
  (hb:(l.length+m.length)*by'<=140737488355328) (hb2:l.length+m.length<=9223372036854775807) :
  Cc ty e.z by' H nx (rowP e b l) src=some (rowP e nx (l++m),appH e ty H nx b l m,EG nx l m):=by
 cases l with
 | nil=>
  cases m with
  | nil=>simp[Cc,hs,rowP,appH,EG]
  | cons y m=>
   simp only[List.length_nil,Nat.zero_add]at hb hb2
   have h0:¬(y::m).length=0:=by simp
   simp only[Cc,hs,rowP,List.nil_append,appH,EG,Xv,List.isEmpty_nil,Xw,if_false,if_true,and_self,h0,hb,hb2,rowOf]
 | cons x l=>
  rcases h with h | h
  .cases h
  .have hl:(((x::l).flatMap e.enc).map PV.t).length=(x::l).length*e.z:=by rw[Xo,IH]
   simp only[Cc,hs,rowP,h,rowOf,hl,true_and,zy (And.intro hb hb2),List.cons_append,appH,EG,Xv,Xw,if_false];simp;omega
theorem SC {e:Enc α} {ty:Nat} {H:Ab} {nx b:Nat} {l m:List α} {c:Nat} (hc:c≠nx) (hb:c≠b):Aa (appH e ty H nx b l m) c=Aa H c:=by
 unfold appH;split
 .rfl
 .rw[Az,zz (Ne.symm hc)];split
  .rfl
  .rw[CJ,zz hb]
theorem Ay.app {e:Enc α} {ty:Nat} {H:Ab} {nx b:Nat} {l m:List α}:Ay e ty (appH e ty H nx b l m) nx (l++m):=by
 unfold appH;split
 .rename_i h;left;simpa using h
 .right;rw[Az,zy rfl]
theorem Ay.toT {e:Enc α} {ty:Nat} {H:Ab} {b:Nat} {l:List α} (h:Ay e ty H b l):toT H (rowP e b l)=some (Aq e l,GV b l):=by
 cases l with
 | nil=>rfl
 | cons x r=>
  rcases h with h | h
  .cases h
  .have hl:(((x::r).flatMap e.enc).map PV.t).length=(x::r).length*e.z:=by rw[Xo,IH]
   have tk:List.take ((x::r).length*e.z) (((x::r).flatMap e.enc).map PV.t)=((x::r).flatMap e.enc).map PV.t:=Xx (by rw[hl];exact Xa _);simp only[rowP,Abs.toT,h,rowOf,List.drop_zero,Nat.zero_add,hl,Xa,if_true,tk,JF,Xl];rfl
theorem HD (e:Enc α) (b:Nat) (l:List α):AO (rowP e b l)=some (.t (iv (l.length:Int))):=by cases l<;>rfl
theorem Lf {e:Enc α} {H:Ab} {b ty:Nat} (x:α) (h:Aa H b=some (.cells ty ((e.enc x).map .t))):Ew H e.z (.row b 0 1 e.z)=some ([x].length,([x].flatMap e.enc).map .t):=by
 have hl:((e.enc x).map PV.t).length=e.z:=by rw[Xo,e.len]
 have tk:List.take e.z ((e.enc x).map PV.t)=(e.enc x).map PV.t:=Xx (by rw[hl];exact Xa _);simp[Ew,h,e.len,tk]
theorem Ql {e:Enc α} {H:Ab} {t:T} {l:List α} (h:IsS e t l):Ew H e.z (.t t)=some (l.length,(l.flatMap e.enc).map .t):=by
 rcases h with⟨rfl,rfl⟩ | rfl
 .rfl
 .simp only[Ew,slT,IH,if_true]
theorem HG (σ:Nat->Nat) (e:Enc α) (ty:Nat) (l:List α):BE σ (rowOf e ty l)=rowOf e ty l:=by
 have:∀m:List T,Bn σ (m.map .t)=m.map .t:=by
  intro m
  induction m with
  | nil=>rfl
  | cons x m ih=>simp only[Xe,Bn,ren,ih]
 simp only[rowOf,BE,this]
theorem HH (n:Nat) (e:Enc α) (ty:Nat) (l:List α):Cm n (rowOf e ty l)=true:=by
 have:∀m:List T,B8 n (m.map .t)=true:=by
  intro m
  induction m with
  | nil=>rfl
  | cons x m ih=>simp only[Xe,B8,under,ih,Xq]
 simp only[rowOf,Cm,this]
theorem Fc {e:Enc α} {ty b:Nat} {l:List α} {q:Nat×Row} (h:q∈A4 e ty b l):l≠[]/\q=(b,rowOf e ty l):=by
 cases l with
 | nil=>simp[A4]at h
 | cons x r=>simp only[A4,Xk]at h;exact⟨by simp,h⟩
end
theorem XE (bs:ByteArray):∀(n i:Nat) (r:List UInt8),bs.size-i=n->Xg.loop bs i r=r.reverse++bs.data.toList.drop i
 | 0,i,r,h=>by
  unfold Xg.loop
  have hi:¬i<bs.size:=by omega
  have hs:bs.data.toList.length=bs.size:=rfl;rw[zz hi,List.drop_eq_nil_of_le (by omega)];simp
 | n+1,i,r,h=>by
  unfold Xg.loop
  have hi:i<bs.size:=by omega
  rw[zy hi,XE bs n (i+1) _ (by omega)];have hs:bs.data.toList.length=bs.size:=rfl
  have hl:i<bs.data.toList.length:=by omega
  rw[List.drop_eq_getElem_cons hl,List.reverse_cons,List.append_assoc];congr 2
  have hl':i<bs.data.size:=by simpa using hl
  show bs.data[i]! :: _=_;rw[getElem!_pos bs.data i hl'];rfl
theorem HI (bs:ByteArray):bs.toList=bs.data.toList:=by
 unfold Xg;rw[XE bs bs.size 0 [] (by omega)];simp
theorem toList_inj {a b:ByteArray} (h:a.toList=b.toList):a=b:=by
 rw[HI,HI]at h;cases a;cases b;congr;exact Array.toList_inj.1 h
theorem qZ (a b:ByteArray):(a.toList==b.toList)=decide (a=b):=by
 by_cases h:a=b
 .subst h;simp
 .rw[zx h,zu];exact λe=>h (toList_inj e)
def Ft (a b:ByteArray):Bool:=Op.bytesLess a.toList b.toList
theorem r8 (a b:ByteArray):Op.bytesLess a.toList b.toList=Ft a b:=rfl
@[simp] theorem C3r {Φ:A7} {H:Ab} {nx:Nat} (isB:Bool) (nk:Option NK) (a b:ByteArray):Ai Φ H nx (.bin isB .lss nk) [.t (.v (.string a)),.t (.v (.string b))]=some (.t (.v (.bool (Ft a b))),H,nx):=rfl
theorem XF:∀l:List UInt8,Op.bytesLess l l=false
 | []=>rfl
 | x::l=>by
  have:=XF l;simp[Op.bytesLess,this]
theorem XG:∀{a b c:List UInt8},Op.bytesLess a b=true->Op.bytesLess b c=true->Op.bytesLess a c=true
 | [],[],c,h,_=>by simp[Op.bytesLess]at h
 | [],_::_,[],_,h=>by simp[Op.bytesLess]at h
 | [],_::_,_::_,_,_=>by simp[Op.bytesLess]
 | _::_,[],_,h,_=>by simp[Op.bytesLess]at h
 | _::_,_::_,[],_,h=>by simp[Op.bytesLess]at h
 | x::a,y::b,z::c,h,h'=>by
  simp only[Op.bytesLess,Xy,Xd,decide_eq_true_eq,beq_iff_eq]at h h' ⊢;rcases h with h | ⟨rfl,h⟩
  .rcases h' with h' | ⟨rfl,h'⟩
   .exact .inl (UInt8.lt_trans h h')
   .exact .inl h
  .rcases h' with h' | ⟨rfl,h'⟩
   .exact .inl h'
   .exact .inr ⟨rfl,XG h h'⟩
theorem XH:∀(a b:List UInt8),Op.bytesLess a b=false->a≠b->Op.bytesLess b a=true
 | [],[],_,h=>absurd rfl h
 | [],_::_,h,_=>by simp[Op.bytesLess]at h
 | _::_,[],_,_=>by simp[Op.bytesLess]
 | x::a,y::b,h,hne=>by
  simp only[Op.bytesLess,Bool.or_eq_false_iff,Bool.and_eq_false_iff,decide_eq_false_iff_not,zu,Xy,Xd,decide_eq_true_eq,beq_iff_eq]at h ⊢;by_cases e:x=y
  .subst e;rcases h.2 with h2 | h2
   .exact absurd rfl h2
   .exact .inr ⟨rfl,XH a b h2 (λe=>hne (by rw[e]))⟩
  .left;rcases UInt8.lt_or_lt_of_ne e with h1 | h1
   .exact absurd h1 h.1
   .exact h1
theorem XI (a:ByteArray):Ft a a=false:=XF _
theorem r9 {a b c:ByteArray} (h:Ft a b=true) (h':Ft b c=true):Ft a c=true:=XG h h'
theorem rA {a b:ByteArray} (h:Ft a b=false) (hne:a≠b):Ft b a=true:=XH _ _ h λe=>hne (toList_inj e)
theorem rB {a b:ByteArray} (h:Ft a b=true):Ft b a=false:=by
 cases h':Ft b a with
 | false=>rfl
 | true=>rw[<-XI a];exact(r9 h h').symm
section
variable {α : Type}
theorem M4 {e:Enc α} {ty by':Nat} {H:Ab} {nx b:Nat} {l m:List α} {src:PV} (h:Ay e ty H b l) (hs:Ew H e.z src=some (m.length,(m.flatMap e.enc).map .t))
  (hb:(l.length+m.length)*by'<=140737488355328) (hb2:l.length+m.length<=9223372036854775807) :
  ∃b' H' nx',Cc ty e.z by' H nx (rowP e b l) src=some (rowP e b' (l++m),H',nx')/\Ay e ty H' b' (l++m)/\b'≠nx'/\nx<=nx'/\(∀c,c≠b->c<nx->Aa H' c=Aa H c)/\nx<=b':=by
 have ap:=Od (nx:=nx) h hs hb hb2
 by_cases he:l++m=[]
 .refine⟨nx+1,appH e ty H nx b l m,EG nx l m,?_,by rw[he];exact Ay.nil _ _ _ _,?_,?_,?_,by omega⟩
  .rw[ap]
   have:∀b',rowP e b' (l++m) = .t Ah:=by intro b';rw[he];rfl
   rw[this,this]
  .unfold EG;rw[he];simp
  .unfold EG;rw[he];simp
  .intro c hc hlt;unfold appH;rw[he];simp
 .have hne:(l++m).isEmpty=false:=by
   cases hx:l++m with
   | nil=>exact absurd hx he
   | cons _ _=>rfl
  refine⟨nx,appH e ty H nx b l m,EG nx l m,ap,Ay.app,?_,?_,?_,Xa _⟩
  .unfold EG;rw[hne];simp
  .unfold EG;rw[hne];simp
  .intro c hc hlt;exact SC (by omega) hc
variable {e : Enc α} {t : T} {l : List α}
end
section
variable {α : Type} {e : Enc α} {ty b : Nat} {H : Ab} {l : List α}
theorem rD {i:Nat} {x:α} (hx:l[i]?=some x) (k:IntKind):Bd e.z (rowP e b l) (.t (.v (.int k (i:Int))))=some (.ptr b (i*e.z)):=by
 have hi:i<l.length:=(Xn.1 hx).1
 cases l with
 | nil=>simp at hi
 | cons a r=>
  simp only[rowP,Bd];rw[zy ⟨by omega,by omega⟩];simp
end
section
variable {P : Program} {G : A2}
theorem AH.keep1 {f:FuncId} {ps:List PV} {R0:Row} {r:T} {H':Ab} {nx':Nat} {ty:TypeId} {cs:List T} (h:AH P G f ps [(0,R0)] 1 (.t r) H' nx') (hl:Aa H' 0=some (.cells ty (cs.map .t))) :
  AH P G f ps [(0,R0)] 1 (.t r) [(0,.cells ty (cs.map .t))] 1:=by
 refine⟨h.1,λL w us hok hnx hargs=>(h.2 L w us hok hnx hargs).mono ?_⟩;rintro e w' ⟨v,L',rfl,hv,hok',hnx',hm,hx⟩
 have one:∀b r,Aa [(0,Row.cells ty (cs.map .t))] b=some r->b=0/\r = .cells ty (cs.map .t):=by
  intro b r hb;simp only[Aa]at hb;split at hb
  .rename_i e;injection hb with hb;exact⟨e.symm,hb.symm⟩
  .cases hb
 refine⟨v,{ L' with nx:=1 },rfl,by simp only[Af]at hv ⊢;exact hv,⟨hok'.lt,λb r hb=>?_,λb r hb=>?_,λb b' r r' hb hb' _=>?_,λb r hb=>?_,hok'.glob⟩,rfl,
  ⟨hm.keeps,by rw[hnx];exact Xa _,hm.μ,hm.size,hm.shape⟩,⟨hx.size,hx.same,hx.more,hx.new,λg ⟨b,r,hb,e⟩=>?_,hx.shape,hx.outer⟩⟩
 .obtain⟨rfl,rfl⟩:=one b r hb;obtain⟨arr,ha,hl2,hc⟩:=hok'.rep 0 _ hl;refine⟨arr,ha,hl2,λj c hj=>?_⟩;obtain⟨x,hx1,hx2,hx3⟩:=hc j c hj;refine⟨x,hx1,hx2,?_⟩;rw[List.getElem?_map]at hj;obtain⟨c0,_,rfl⟩:=Xp.1 hj;simp only[Af]at hx3 ⊢;exact hx3
 .obtain⟨rfl,rfl⟩:=one b r hb;exact hok'.apart 0 _ hl
 .rw[(one b r hb).1,(one b' r' hb').1]
 .rw[(one b r hb).1];exact Nat.lt_succ_self _
 .obtain⟨rfl,rfl⟩:=one b r hb;exact hx.mine g ⟨0,_,hl,e⟩
def JI (ty:TypeId) (g:List T->List T->Option (T×List T)) (ps:List PV) (H:Ab) (nx:Nat):Option (PV×Ab×Nat):=
 match ps with
 | .ptr b 0::args=>match Aa H b,Eh args with
  | some (.cells ty' cs),some ts=>match Eh cs with
   | some cs'=>if ty'=ty/\b<nx then(g cs' ts).map λo=>(.t o.1,upd H b (.cells ty (o.2.map .t)),nx)else none
   | none=>none
  | _,_=>none
 | _=>none
theorem rE {f:FuncId} {ty:TypeId} {g:List T->List T->Option (T×List T)}
  (h:∀cs ts r cs',g cs ts=some (r,cs')->AH P G f (.ptr 0 0::ts.map .t) [(0,.cells ty (cs.map .t))] 1 (.t r) [(0,.cells ty (cs'.map .t))] 1):HOK P G f (JI ty g) where
 call:=λps H nx r H' nx' hr=>by
  unfold JI at hr;split at hr
  .rename_i b args;split at hr
   .rename_i ty' cs ts hl ha;split at hr
    .rename_i cs' hc;split at hr
     .rename_i hcond;obtain⟨rfl,hb⟩:=hcond;obtain⟨o,ho,e⟩:=Xp.1 hr;injection e with e1 e2;injection e2 with e2 e3;subst e1;subst e2;subst e3;have:=(h cs' ts o.1 o.2 ho).lift1 (b:=b) (NX:=nx) (Hb:=H) (by rw[hl,GO hc]) hb;rw[<-GO ha]at this;exact this
     .cases hr
    .cases hr
   .cases hr
  .cases hr
 fresh:=λps H nx r H' nx' hr hf=>by
  unfold JI at hr;split at hr
  .rename_i b args;split at hr
   .rename_i ty' cs ts hl ha;split at hr
    .rename_i cs' hc;split at hr
     .rename_i hcond;obtain⟨o,ho,e⟩:=Xp.1 hr;injection e with e1 e2;injection e2 with e2 e3;subst e1;subst e2;subst e3;intro j x hj;rw[AN]at hj;split at hj
      .rename_i e;subst e;exact hcond.2
      .exact hf j x hj
     .cases hr
    .cases hr
   .cases hr
  .cases hr
theorem rF {ty:TypeId} {g:List T->List T->Option (T×List T)} {b nx:Nat} {H:Ab} {cs ts:List T} {o:T×List T} (hl:Aa H b=some (.cells ty (cs.map .t))) (hb:b<nx) (ho:g cs ts=some o) :
  JI ty g (.ptr b 0::ts.map .t) H nx=some (.t o.1,upd H b (.cells ty (o.2.map .t)),nx):=by
 simp only[JI,hl,JF,hb,and_self,if_true,ho,Xl]
end
noncomputable def Fe (ps0:List PV) (H0:Ab) (nx0:Nat) (out:PV×Ab×Nat) (ps:List PV) (H:Ab) (nx:Nat):Option (PV×Ab×Nat):=
 open Classical in if ps = ps0 /\ H = H0 /\ nx = nx0 then some out else none
theorem DL (ps:List PV) (H:Ab) (nx:Nat) (out:PV×Ab×Nat):Fe ps H nx out ps H nx=some out:=by
 unfold Fe;rw[zy ⟨rfl,rfl,rfl⟩]
theorem E0 {P:Program} {G:A2} {f:FuncId} {ps:List PV} {H:Ab} {nx:Nat} {r:PV} {H':Ab} {nx':Nat} (h:AH P G f ps H nx r H' nx') (hf:(∀b x,Aa H b=some x->b<nx)->∀b x,Aa H' b=some x->b<nx'):HOK P G f (Fe ps H nx (r,H',nx')) where
 call:=λps1 H1 nx1 r1 H1' nx1' h1=>by
  unfold Fe at h1;split at h1
  .rename_i hc;obtain⟨rfl,rfl,rfl⟩:=hc;injection h1 with h1;injection h1 with h1 h2;injection h2 with h2 h3;subst h1;subst h2;subst h3;exact h
  .cases h1
 fresh:=λps1 H1 nx1 r1 H1' nx1' h1=>by
  unfold Fe at h1;split at h1
  .rename_i hc;obtain⟨rfl,rfl,rfl⟩:=hc;injection h1 with h1;injection h1 with h1 h2;injection h2 with h2 h3;subst h1;subst h2;subst h3;exact hf
  .cases h1
section
variable {α : Type} {P : Program} {G : A2} {B : Nat}
theorem FK {e:Enc α} {ty b k nx nx' n:Nat} {l:List α} {env env':List (Nat×PV)} {H R:Ab} (h:Ay e ty H k l) (hb:b<nx') (hB:B<=b)
  (hR:∀q∈R,Aa H q.1=some (BE (λx=>if x=b then k else x) q.2)/\q.1<nx'/\q.1≠b/\q.1≠k/\Cm nx' q.2=true)
  (he:∀q∈env',Aa env q.1=some (ren (λx=>if x=b then k else x) q.2)/\under nx' q.2=true) :
  Sub P G B ⟨env,H,nx,n⟩ ⟨env',R++A4 e ty b l,nx',n⟩:=by
 refine JD (λx=>if x=b then k else x) rfl (by show B<=nx';omega) (λx hx=>by show(if x=b then k else x)=x;rw[zz (by omega)]) he (λq hq=>?_) (λq hq q' hq' eqn=>?_)
 .rcases Xz.1 hq with hq | hq
  .obtain⟨h1,h2,h3,h4,h5⟩:=hR q hq;refine⟨?_,h2,h5⟩;show Aa H (if q.1=b then k else q.1)=_;rw[zz h3];exact h1
  .obtain⟨hn,rfl⟩:=Fc hq;simp only[if_true,HG,HH];exact⟨h.resolve_left hn,hb,trivial⟩
 .have key:∀q∈R++A4 e ty b l,q.1=b\/(q.1≠b/\q.1≠k):=by
   intro q hq;rcases Xz.1 hq with hq | hq
   .obtain⟨h1,h2,h3,h4,h5⟩:=hR q hq;exact .inr ⟨h3,h4⟩
   .obtain⟨hn,rfl⟩:=Fc hq;exact .inl rfl
  have e:(if q.1=b then k else q.1)=(if q'.1=b then k else q'.1):=eqn;rcases key q hq with h1 | ⟨h1,h2⟩<;>rcases key q' hq' with h1' | ⟨h1',h2'⟩
  .rw[h1,h1']
  .rw[zy h1,zz h1']at e;exact absurd e.symm h2'
  .rw[zz h1,zy h1']at e;exact absurd e h2
  .rw[zz h1,zz h1']at e;exact e
end
inductive Ds where
 | mk (op:Int) (name:ByteArray) (path:List ByteArray) (kids:List Ds)
def Ds.op:Ds->Int | .mk o _ _ _=>o
def Ds.name:Ds->ByteArray | .mk _ n _ _=>n
def Ds.path:Ds->List ByteArray | .mk _ _ p _=>p
def Ds.kids:Ds->List Ds | .mk _ _ _ k=>k
def rG:Nat->List T->T
 | 0,_=>Ah
 | n+1,cs=>.sl (n+1) cs
mutual
def Ba:Ds->List T
 | .mk op name path kids=>[iv op,sv name,Aq Ak path,rG kids.length (F8 kids)]
def F8:List Ds->List T
 | []=>[]
 | d::r=>Ba d++F8 r
end
theorem HJ (d:Ds):(Ba d).length=4:=by cases d;rw[Ba];rfl
theorem rH {a b:List ByteArray} (h:Aq Ak a=Aq Ak b):a=b:=(tSl Ak).uniq _ _ _ (IsS.tree Ak a) (h▸IsS.tree Ak b)
mutual
theorem Qm:∀(a b:Ds),Ba a=Ba b->a=b
 | .mk o n p k,.mk o' n' p' k',h=>by
  rw[Ba,Ba]at h;injection h with h1 h;injection h with h2 h;injection h with h3 h;injection h with h4 _;injection h1 with h1;injection h1 with _ h1;injection h2 with h2;injection h2 with h2;have h3':=rH h3;subst h1;subst h2;subst h3'
  have:k=k':=by
   cases k with
   | nil=>
    cases k' with
    | nil=>rfl
    | cons _ _=>cases h4
   | cons x r=>
    cases k' with
    | nil=>cases h4
    | cons y r'=>
     injection h4 with _ h4;exact XJ (x::r) (y::r') h4
  rw[this]
theorem XJ:∀(a b:List Ds),F8 a=F8 b->a=b
 | [],[],_=>rfl
 | [],d::r,h=>by
  rw[F8,F8]at h;have:=congrArg Xh h;rw[Xc,HJ]at this;simp at this;omega
 | d::r,[],h=>by
  rw[F8,F8]at h;have:=congrArg Xh h;rw[Xc,HJ]at this;simp at this
 | a::l,b::m,h=>by
  rw[F8,F8]at h;have h1:=Xm h (by rw[HJ,HJ]);rw[Qm a b h1.1,XJ l m h1.2]
end
def eD:Enc Ds:=⟨4,Ba,HJ,by omega,Qm⟩
theorem SD:∀l:List Ds,F8 l=l.flatMap eD.enc
 | []=>rfl
 | d::r=>by rw[F8,Xf,SD r];rfl
theorem II (op:Int) (name:ByteArray) (path:List ByteArray) (kids:List Ds):Ba (.mk op name path kids)=[iv op,sv name,Aq Ak path,Aq eD kids]:=by
 rw[Ba]
 cases kids with
 | nil=>rfl
 | cons k r=>
  have e:Aq eD (k::r) = .sl (k::r).length ((k::r).flatMap eD.enc):=rfl;rw[e,<-SD];rfl
mutual
def BG:Ds->List T->Prop
 | .mk op name path kids,cs=>∃tp tk,cs=[iv op,sv name,tp,tk]/\IsS Ak tp path/\((tk=Ah/\kids=[])\/∃c,tk = .sl kids.length c/\BO kids c)
def BO:List Ds->List T->Prop
 | [],cs=>cs=[]
 | d::r,cs=>∃c c',cs=c++c'/\BG d c/\BO r c'
end
def IsK (t:T) (kids:List Ds):Prop:=(t=Ah/\kids=[])\/∃c,t = .sl kids.length c/\BO kids c
theorem BG.len:∀{d:Ds} {c:List T},BG d c->c.length=4
 | .mk _ _ _ _,c,h=>by
  simp only[BG]at h;obtain⟨tp,tk,rfl,_⟩:=h;rfl
theorem BG.parts {op:Int} {name:ByteArray} {path:List ByteArray} {kids:List Ds} {c:List T} (h:BG (.mk op name path kids) c):∃tp tk,c=[iv op,sv name,tp,tk]/\IsS Ak tp path/\IsK tk kids:=by
 simp only[BG]at h;exact h
mutual
theorem BG.uniq:∀(a b:Ds) (c:List T),BG a c->BG b c->a=b
 | .mk o n p k,.mk o' n' p' k',c,h,h'=>by
  obtain⟨tp,tk,rfl,hp,hk⟩:=h.parts;obtain⟨tp',tk',e,hp',hk'⟩:=h'.parts;injection e with h1 e;injection e with h2 e;injection e with h3 e;injection e with h4 _;injection h1 with h1;injection h1 with _ h1;injection h2 with h2;injection h2 with h2;subst h1;subst h2;subst h3;subst h4;have e1:=(tSl Ak).uniq _ _ _ hp hp';subst e1
  have:k=k':=by
   rcases hk with⟨rfl,rfl⟩ | ⟨cs,rfl,hc⟩
   .rcases hk' with⟨_,rfl⟩ | ⟨cs',e,_⟩
    .rfl
    .cases e
   .rcases hk' with⟨e,_⟩ | ⟨cs',e,hc'⟩
    .cases e
    .injection e with e1 e2;subst e2;exact BO.uniq k k' cs hc hc'
  rw[this]
theorem BO.uniq:∀(a b:List Ds) (c:List T),BO a c->BO b c->a=b
 | [],[],_,_,_=>rfl
 | [],d::r,c,h,h'=>by
  simp only[BO]at h h';obtain⟨c1,c2,e,h1,_⟩:=h';have:=h1.len;rw[h]at e;have:=congrArg Xh e;rw[Xc]at this;simp at this;omega
 | d::r,[],c,h,h'=>by
  simp only[BO]at h h';obtain⟨c1,c2,e,h1,_⟩:=h;have:=h1.len;rw[h']at e;have:=congrArg Xh e;rw[Xc]at this;simp at this;omega
 | a::l,b::m,c,h,h'=>by
  simp only[BO]at h h';obtain⟨c1,c2,e,h1,h2⟩:=h;obtain⟨c1',c2',e',h1',h2'⟩:=h';rw[e]at e';have h3:=Xm e' (by rw[h1.len,h1'.len]);obtain⟨rfl,rfl⟩:=h3;rw[BG.uniq a b c1 h1 h1',BO.uniq l m c2 h2 h2']
end
mutual
theorem BG.enc:∀d:Ds,BG d (Ba d)
 | .mk o n p k=>by
  rw[BG,Ba];refine⟨_,_,rfl,IsS.tree Ak p,?_⟩
  cases k with
  | nil=>exact .inl ⟨rfl,rfl⟩
  | cons x r=>exact .inr ⟨_,rfl,BO.enc (x::r)⟩
theorem BO.enc:∀l:List Ds,BO l (F8 l)
 | []=>by rw[BO,F8]
 | d::r=>by
  rw[BO,F8];exact⟨_,_,rfl,BG.enc d,BO.enc r⟩
end
theorem IsK.tree (l:List Ds):IsK (Aq eD l) l:=by
 cases l with
 | nil=>exact .inl ⟨rfl,rfl⟩
 | cons x r=>exact .inr ⟨_,rfl,by rw[<-SD];exact BO.enc (x::r)⟩
theorem BO.at_:∀{l:List Ds} {c:List T} {i:Nat} {x:Ds},BO l c->l[i]?=some x->∃ci r,c.drop (i*4)=ci++r/\BG x ci
 | [],c,i,x,_,h=>by simp at h
 | d::l,c,0,x,h,hx=>by
  simp only[BO]at h;obtain⟨c1,c2,rfl,h1,_⟩:=h
  have e:d=x:=by simpa using hx
  subst e;exact⟨c1,c2,rfl,h1⟩
 | d::l,c,i+1,x,h,hx=>by
  simp only[BO]at h;obtain⟨c1,c2,rfl,h1,h2⟩:=h;obtain⟨ci,r,e,h3⟩:=h2.at_ (i:=i) (x:=x) (by simpa using hx);refine⟨ci,r,?_,h3⟩;rw[show(i+1)*4=4+i*4 by omega,<-Xr,Xs h1.len,e]
theorem IsK.len {t:T} {l:List Ds} (h:IsK t l):AO (.t t)=some (.t (iv (l.length:Int))):=by
 rcases h with⟨rfl,rfl⟩ | ⟨c,rfl,_⟩<;>rfl
theorem IsK.iaddr {t:T} {l:List Ds} (h:IsK t l) {i:Nat} {x:Ds} (hx:l[i]?=some x) (k:IntKind):∃ci r,Bd 4 (.t t) (.t (.v (.int k (i:Int))))=some (.t (.pt (ci++r)))/\BG x ci:=by
 have hi:i<l.length:=(Xn.1 hx).1;rcases h with⟨rfl,rfl⟩ | ⟨c,rfl,hc⟩
 .simp at hi
 .obtain⟨ci,r,e,h3⟩:=hc.at_ hx;refine⟨ci,r,?_,h3⟩;simp only[Bd];rw[zy ⟨by omega,by omega⟩,Xt,e]
def tD:Ty Ds:=⟨λt d=>∃c,t = .ag c/\BG d c,λt a b ⟨c,e,h⟩ ⟨c',e',h'⟩=>by
 rw[e]at e';injection e' with e';subst e';exact BG.uniq a b c h h'⟩
def tK:Ty (List Ds):=⟨IsK,λt a b h h'=>by
 rcases h with⟨rfl,rfl⟩ | ⟨c,rfl,hc⟩
 .rcases h' with⟨_,rfl⟩ | ⟨c',e,_⟩
  .rfl
  .cases e
 .rcases h' with⟨e,_⟩ | ⟨c',e,hc'⟩
  .cases e
  .injection e with _ e;subst e
   exact BO.uniq a b c hc hc'⟩
mutual
def Ds.depth:Ds->Nat
 | .mk _ _ _ kids=>JJ kids+1
def JJ:List Ds->Nat
 | []=>0
 | d::r=>max d.depth (JJ r)
end
theorem SE:∀{l:List Ds} {x:Ds},x∈l->x.depth<=JJ l
 | [],x,h=>by cases h
 | d::r,x,h=>by
  rw[JJ];rcases Xi.1 h with e | e
  .rw[e];exact Nat.le_max_left _ _
  .exact Nat.le_trans (SE e) (Nat.le_max_right _ _)
end Go.Abs
