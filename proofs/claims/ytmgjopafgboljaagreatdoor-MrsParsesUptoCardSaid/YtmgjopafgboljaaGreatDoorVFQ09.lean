/- Auxiliary facts. -/
import Derived.Test.YtmgjopafgboljaaGreatDoorVFQ08
import Derived.IntWalk
set_option linter.unusedSimpArgs false
set_option linter.unusedVariables false
open Nat renaming le_refl->Xc
open List renaming mem_cons->Xd,getElem?_eq_some_iff->Xf,flatMap_cons->Xk,length_cons->Xl,length_map->Xm,mem_append->Xn,length_append->Xt,length_nil->Xu,isEmpty_cons->Xv,take_of_length_le->Xw,map_cons->Xx,mem_singleton->Xy,getElem?_eq_getElem->X0
open Option renaming bind_eq_some_iff->Xe,bind_some->Xs
open Bool renaming and_eq_true->Xg,false_eq_true->Xj,or_eq_true->Xz
open ByteArray renaming toList->Xh
open Go.IntKind renaming i64->Xi,wrap->Xo,bits->Xp,signed->Xq,u64->Xr
namespace Go.Abs
open Go
def GOK (P:Program) (G:AM) (f:FuncId) (g:List T->Option T):Prop:=∀args r,g args=some r->Bc P G f args (· = r)
abbrev Tbl:=List (Nat×(List T->Option T))
def IL (tbl:Tbl) (f:FuncId) (args:List T):Option T:=
 match Aj tbl f with
 | some g=>g args
 | none=>none
structure HOK (P:Program) (G:AM) (f:FuncId) (h:List PV->Ak->Nat->Option (PV×Ak×Nat)):Prop where
 call:∀ps H nx r H' nx',h ps H nx=some (r,H',nx')->B3 P G f ps H nx r H' nx'
 fresh:∀ps H nx r H' nx',h ps H nx=some (r,H',nx')->(∀b x,Aj H b=some x->b<nx)->∀b x,Aj H' b=some x->b<nx'
abbrev FS:=List (Nat×(List PV->Ak->Nat->Option (PV×Ak×Nat)))
def Hk (tbl:FS) (f:FuncId) (ps:List PV) (H:Ak) (nx:Nat):Option (PV×Ak×Nat):=
 match Aj tbl f with
 | some g=>g ps H nx
 | none=>none
def orh (tbl:Tbl) (htbl:FS):AP:=⟨IL tbl,Hk htbl⟩
abbrev orc (tbl:Tbl):AP:=orh tbl []
@[simp] theorem A9p (tbl:Tbl) (htbl:FS) (f:FuncId) (args:List T):(orh tbl htbl).t f args=IL tbl f args:=rfl
@[simp] theorem A9q (tbl:Tbl) (htbl:FS) (f:FuncId) (ps:List PV) (H:Ak) (nx:Nat):(orh tbl htbl).h f ps H nx=Hk htbl f ps H nx:=rfl
@[simp] theorem A9r (k f:Nat) (g:List T->Option T) (r:Tbl) (args:List T):IL ((k,g)::r) f args=if k=f then g args else IL r f args:=by
 unfold IL;rw[A9];by_cases h:k=f
 .rw[zu h,zu h]
 .rw[zw h,zw h]
@[simp] theorem A9s (f:Nat) (args:List T):IL [] f args=none:=rfl
@[simp] theorem j9 (k f:Nat) (g:List PV->Ak->Nat->Option (PV×Ak×Nat)) (r:FS) (ps:List PV) (H:Ak) (nx:Nat):Hk ((k,g)::r) f ps H nx=if k=f then g ps H nx else Hk r f ps H nx:=by
 unfold Hk;rw[A9];by_cases h:k=f
 .rw[zu h,zu h]
 .rw[zw h,zw h]
@[simp] theorem A9t (f:Nat) (ps:List PV) (H:Ak) (nx:Nat):Hk [] f ps H nx=none:=rfl
def AB (P:Program) (G:AM) (tbl:Tbl):Prop:=∀q∈tbl,GOK P G q.1 q.2
theorem AB.nil {P:Program} {G:AM}:AB P G []:=λ_ h=>by cases h
theorem AB.cons {P:Program} {G:AM} {f:Nat} {g:List T->Option T} {r:Tbl} (h:GOK P G f g) (hr:AB P G r):AB P G ((f,g)::r):=λq hq=>by
 rcases Xd.1 hq with rfl | hq
 .exact h
 .exact hr q hq
def AG (P:Program) (G:AM) (tbl:FS):Prop:=∀q∈tbl,HOK P G q.1 q.2
theorem AG.nil {P:Program} {G:AM}:AG P G []:=λ_ h=>by cases h
theorem AG.cons {P:Program} {G:AM} {f:Nat} {g:List PV->Ak->Nat->Option (PV×Ak×Nat)} {r:FS} (h:HOK P G f g) (hr:AG P G r):AG P G ((f,g)::r):=λq hq=>by
 rcases Xd.1 hq with rfl | hq
 .exact h
 .exact hr q hq
theorem AB.soundH {P:Program} {G:AM} {tbl:Tbl} {htbl:FS} (h:AB P G tbl) (hh:AG P G htbl):(orh tbl htbl).Sound P G where
 t:=λf args r hr=>by
  simp only[orh,IL]at hr;split at hr
  .rename_i g hg;exact h _ (Eo hg) args r hr
  .cases hr
 h:=λf ps H nx r H' nx' hr=>by
  simp only[orh,Hk]at hr;split at hr
  .rename_i g hg;exact(hh _ (Eo hg)).call ps H nx r H' nx' hr
  .cases hr
 fresh:=λf ps H nx r H' nx' hr=>by
  simp only[orh,Hk]at hr;split at hr
  .rename_i g hg;exact(hh _ (Eo hg)).fresh ps H nx r H' nx' hr
  .cases hr
theorem AB.ctxH {P:Program} {G:AM} {tbl:Tbl} {htbl:FS} (h:AB P G tbl) (hh:AG P G htbl) (hm:P.follows .mixedOrders=true):Ctx P G (orh tbl htbl):=⟨hm,h.soundH hh⟩
theorem AB.ctx {P:Program} {G:AM} {tbl:Tbl} (h:AB P G tbl) (hm:P.follows .mixedOrders=true):Ctx P G (orc tbl):=h.ctxH AG.nil hm
def Hl (g:List T->Option T) (ps:List PV) (H:Ak) (nx:Nat):Option (PV×Ak×Nat):=
 (Bn H ps).bind λq=>(g q.1).map λr=>(.t r,if De r then H else Ez H q.2,nx)
theorem GOK.hok {P:Program} {G:AM} {f:FuncId} {g:List T->Option T} (h:GOK P G f g):HOK P G f (Hl g) where
 call:=λps H nx r H' nx' hr=>by
  unfold Hl at hr;obtain⟨⟨targs,F⟩,hT,hr⟩:=Xe.1 hr;obtain⟨r0,hg,e⟩:=Bf hr;injection e with e1 e2;injection e2 with e2 e3;subst e1;subst e2;subst e3;exact(h _ _ hg).callP hT
 fresh:=λps H nx r H' nx' hr hf b x hb=>by
  unfold Hl at hr;obtain⟨⟨targs,F⟩,hT,hr⟩:=Xe.1 hr;obtain⟨r0,hg,e⟩:=Bf hr;injection e with e1 e2;injection e2 with e2 e3;subst e1;subst e2;subst e3;split at hb
  .exact hf b x hb
  .exact hf b x (DY F H b x hb).1
section
variable {P : Program} {G : AM} {B N : Nat} {Q : Exit -> Am -> Prop} {s : Am}
def Lw (P:Program) (G:AM) (B:Nat) (S:Am) (Q:Exit->Am->Prop):Exit->Am->Prop
 | .normal,s=>Sub P G B s S/\s.n=S.n
 | e,s=>Q e s
@[simp] theorem A9u (S:Am) (s:Am):Lw P G B S Q .normal s=(Sub P G B s S/\s.n=S.n):=rfl
@[simp] theorem A9v (S:Am) (s:Am):Lw P G B S Q .ret s=Q .ret s:=rfl
@[simp] theorem A9w (S:Am) (i:Nat) (s:Am):Lw P G B S Q (.exit i) s=Q (.exit i) s:=rfl
def Ia (Q:Exit->Am->Prop):Exit->Am->Prop
 | .normal,_=>False
 | e,s=>Q e s
@[simp] theorem A9x (s:Am):Ia Q .normal s=False:=rfl
@[simp] theorem A9y (s:Am):Ia Q .ret s=Q .ret s:=rfl
@[simp] theorem A9z (i:Nat) (s:Am):Ia Q (.exit i) s=Q (.exit i) s:=rfl
theorem jA {x:AE} (S:Nat->Am) (n:Nat) (hN:∀j,(S j).n=N) (h0:Sub P G B s (S 0)) (hs:s.n=N) (round:∀j,j<n->MC P G B N x (Lw P G B (S (j+1)) Q) (S j)) (last:MC P G B N x (Ia Q) (S n)):MC P G B N (.loop x) Q s:=by
 refine MC.sub h0 ((hN 0).trans hs.symm) ?_;refine Pu (λk s=>∃j,j+k=n/\s=S j) n ⟨0,by omega,rfl⟩ (λk s ⟨j,_,e⟩=>by rw[e];exact hN j) ?_;rintro k s ⟨j,hj,rfl⟩;by_cases hlt:j<n
 .refine(round j hlt).mono λe s1 q=>?_;cases e
  case normal=>exact⟨k-1,by omega,S (j+1),q.1,j+1,by omega,rfl⟩
  all_goals exact q
 .have:j=n:=by omega
  subst this;refine last.mono λe s1 q=>?_;cases e
  case normal=>exact q.elim
  all_goals exact q
def A4 (P:Program) (G:AM) (B:Nat) {α:Type} (S:α->Am) (Ok:α->Prop) (s:Am):Prop:=∃a,Ok a/\Sub P G B s (S a)
theorem A4.mk {α:Type} {S:α->Am} {Ok:α->Prop} {s:Am} (a:α) (h:Ok a) (hs:Sub P G B s (S a)):A4 P G B S Ok s:=⟨a,h,hs⟩
def JI (P:Program) (G:AM) (B:Nat) {α:Type} (S:α->Am) (Ok:α->Prop) (Q:Exit->Am->Prop):Exit->Am->Prop
 | .normal,s=>A4 P G B S Ok s
 | e,s=>Q e s
@[simp] theorem B0a {α:Type} (S:α->Am) (Ok:α->Prop) (s:Am):JI P G B S Ok Q .normal s=A4 P G B S Ok s:=rfl
@[simp] theorem B0b {α:Type} (S:α->Am) (Ok:α->Prop) (s:Am):JI P G B S Ok Q .ret s=Q .ret s:=rfl
@[simp] theorem B0c {α:Type} (S:α->Am) (Ok:α->Prop) (i:Nat) (s:Am):JI P G B S Ok Q (.exit i) s=Q (.exit i) s:=rfl
theorem Bj {x:AE} {α:Type} (S:α->Am) (μ:α->Nat) (Ok:α->Prop) (a0:α) (hN:∀a,(S a).n=N) (hok:Ok a0) (h0:Sub P G B s (S a0)) (hs:s.n=N)
  (round:∀a,Ok a->MC P G B N x (JI P G B S (λa'=>Ok a'/\μ a'<μ a) Q) (S a)):MC P G B N (.loop x) Q s:=by
 refine MC.sub h0 ((hN a0).trans hs.symm) ?_;refine Pu (λk s=>∃a,Ok a/\μ a=k/\s=S a) (μ a0) ⟨a0,hok,rfl,rfl⟩ (λk s ⟨a,_,_,e⟩=>by rw[e];exact hN a) ?_;rintro k s ⟨a,ha,rfl,rfl⟩;refine(round a ha).mono λe s1 q=>?_;cases e
 case normal=>obtain⟨a',h1,h2⟩:=q;exact⟨μ a',h1.2,S a',h2,a',h1.1,rfl,rfl⟩
 all_goals exact q
theorem AZ {x y:AE} {α:Type} (S:α->Am) (Ok:α->Prop) (hN:∀a,(S a).n=N) (h1:MC P G B N x (JI P G B S Ok Q) s) (h2:∀a,Ok a->MC P G B N y Q (S a)):MC P G B N (.seq x y) Q s:=by
 intro c hc hn;obtain⟨a,b,rfl,ha,hb⟩:=E4 hc;refine RA (Cm.post (h1 a ha hn) λe s1 q=>?_);cases e
 case normal=>
  obtain⟨d,hd,hs⟩:=q;exact⟨S d,hs,h2 d hd b hb (hN d)⟩
 all_goals exact⟨s1,Sub.refl s1,q⟩
end
theorem Nj {z:Int} (h1:-9223372036854775808<=z) (h2:z<=9223372036854775807):Xi.wrap z=z:=by
 unfold Xo Xp Xq;simp only[Bool.true_and,Nat.reduceSub]
 have e1:(2:Int)^64=18446744073709551616:=by decide
 have e2:(2:Int)^63=9223372036854775808:=by decide
 simp only[e1,e2,ge_iff_le,decide_eq_true_eq];split<;>omega
theorem Bb {z:Int} {n:Nat} (e:z=n) (h:n<=9223372036854775807):Xi.wrap z=(n:Int):=by
 rw[Nj (by omega) (by omega),e]
theorem FT {z:Int} (h1:0<=z) (h2:z<18446744073709551616):Xr.wrap z=z:=by
 unfold Xo Xp Xq;simp only[Bool.false_and,Xj,if_false]
 have e1:(2:Int)^64=18446744073709551616:=by decide
 rw[e1];omega
@[simp] theorem B0d:Xr.bits=64:=rfl
@[simp] theorem B0e:Xi.bits=64:=rfl
section
variable {P : Program} {G : AM}
def TC (σ:Nat->Nat) (nx NX:Nat) (b:Nat):Nat:=if b<nx then σ b else NX+(b-nx)
end
structure Ty (α:Type) where
 is:T->α->Prop
 uniq:∀t a b,is t a->is t b->a=b
noncomputable def Ty.dec {α:Type} (τ:Ty α) (t:T):Option α:=
 open Classical in if h : ∃ a, τ.is t a then some h.choose else none
theorem Ty.dec_is {α:Type} {τ:Ty α} {t:T} {a:α} (h:τ.is t a):τ.dec t=some a:=by
 unfold Ty.dec
 have hx:∃a,τ.is t a:=⟨a,h⟩
 rw[dif_pos hx];rw[τ.uniq t _ _ hx.choose_spec h]
theorem Ty.is_dec {α:Type} {τ:Ty α} {t:T} {a:α} (h:τ.dec t=some a):τ.is t a:=by
 unfold Ty.dec at h;split at h
 .rename_i hx;injection h with h;subst h;exact hx.choose_spec
 .cases h
abbrev iv (n:Int):T:=.v (.int .i64 n)
abbrev bv (b:Bool):T:=.v (.bool b)
abbrev sv (s:ByteArray):T:=.v (.string s)
abbrev Au:T:=.v (.slice none 0 0)
def Nk:Ty Int:=⟨λt n=>t=iv n,λt a b h h'=>by rw[h]at h';injection h' with h';injection h'⟩
def L5:Ty Bool:=⟨λt n=>t=bv n,λt a b h h'=>by rw[h]at h';injection h' with h';injection h'⟩
def CX:Ty ByteArray:=⟨λt n=>t=sv n,λt a b h h'=>by rw[h]at h';injection h' with h';injection h'⟩
structure Enc (α:Type) where
 z:Nat
 enc:α->List T
 len:∀a,(enc a).length=z
 pos:0<z
 inj:∀a b,enc a=enc b->a=b
def slT {α:Type} (e:Enc α) (l:List α):T:=.sl l.length (l.flatMap e.enc)
def IsS {α:Type} (e:Enc α) (t:T) (l:List α):Prop:=(t=Au/\l=[])\/t=slT e l
theorem TD {α:Type} (e:Enc α):∀(l m:List α),l.length=m.length->l.flatMap e.enc=m.flatMap e.enc->l=m
 | [],[],_,_=>rfl
 | [],_::_,h,_=>by simp at h
 | _::_,[],h,_=>by simp at h
 | a::l,b::m,h,he=>by
  simp only[Xk]at he;have h1:=List.append_inj he (by rw[e.len,e.len]);rw[e.inj a b h1.1,TD e l m (by simpa using h) h1.2]
def tSl {α:Type} (e:Enc α):Ty (List α):=⟨IsS e,λt a b h h'=>by
 rcases h with⟨rfl,rfl⟩ | rfl
 .rcases h' with⟨_,rfl⟩ | h'
  .rfl
  .cases h'
 .rcases h' with⟨h',_⟩ | h'
  .cases h'
  .unfold slT at h';injection h' with h1 h2
   exact TD e a b h1 h2⟩
def A6:Enc Int:=⟨1,λn=>[iv n],λ_=>rfl,by omega,λa b h=>by injection h with h;injection h with h;injection h⟩
def Ar:Enc ByteArray:=⟨1,λn=>[sv n],λ_=>rfl,by omega,λa b h=>by injection h with h;injection h with h;injection h⟩
def Er:Enc Bool:=⟨1,λn=>[bv n],λ_=>rfl,by omega,λa b h=>by injection h with h;injection h with h;injection h⟩
section
variable {α : Type} {e : Enc α} {t : T} {l : List α}
theorem IsS.len (h:IsS e t l):CV (.t t)=some (.t (iv (l.length:Int))):=by
 rcases h with⟨rfl,rfl⟩ | rfl<;>rfl
def rest (e:Enc α) (l:List α) (i:Nat):List T:=(l.drop (i+1)).flatMap e.enc
theorem Nl (e:Enc α):∀(l:List α) (i:Nat) (x:α),l[i]?=some x->(l.flatMap e.enc).drop (i*e.z)=e.enc x++rest e l i
 | [],i,x,h=>by simp at h
 | a::l,0,x,h=>by
  simp at h;subst h;simp[rest]
 | a::l,i+1,x,h=>by
  have ih:=Nl e l i x (by simpa using h);rw[Xk,Nat.succ_mul,Nat.add_comm,<-List.drop_drop,List.drop_left' (e.len a),ih];simp[rest]
theorem IsS.iaddr (h:IsS e t l) {i:Nat} {x:α} (hx:l[i]?=some x) (k:IntKind):BN e.z (.t t) (.t (.v (.int k (i:Int))))=some (.t (.pt (e.enc x++rest e l i))):=by
 have hi:i<l.length:=(Xf.1 hx).1;rcases h with⟨rfl,rfl⟩ | rfl
 .simp at hi
 .simp only[BN,slT];rw[zu ⟨by omega,by omega⟩,Int.toNat_natCast,Nl e l i x hx]
theorem IsS.mk (l:List α):IsS e (slT e l) l:=.inr rfl
end
noncomputable def g1 {α:Type} (τ:Ty α) (f:α->Option T):List T->Option T
 | [a]=>(τ.dec a).bind f
 | _=>none
noncomputable def g2 {α β:Type} (τ:Ty α) (σ:Ty β) (f:α->β->Option T):List T->Option T
 | [a,b]=>(τ.dec a).bind λx=>(σ.dec b).bind λy=>f x y
 | _=>none
noncomputable def g3 {α β γ:Type} (τ:Ty α) (σ:Ty β) (ρ:Ty γ) (f:α->β->γ->Option T):List T->Option T
 | [a,b,c]=>(τ.dec a).bind λx=>(σ.dec b).bind λy=>(ρ.dec c).bind λz=>f x y z
 | _=>none
noncomputable def g4 {α β γ δ:Type} (τ:Ty α) (σ:Ty β) (ρ:Ty γ) (π:Ty δ) (f:α->β->γ->δ->Option T):List T->Option T
 | [a,b,c,d]=>(τ.dec a).bind λx=>(σ.dec b).bind λy=>(ρ.dec c).bind λz=>(π.dec d).bind λu=>f x y z u
 | _=>none
section
variable {P : Program} {G : AM} {F : FuncId} {α β γ δ : Type} {τ : Ty α} {σ : Ty β} {ρ : Ty γ} {π : Ty δ}
theorem JJ {f:α->Option T} (h:∀a x r,τ.is a x->f x=some r->Bc P G F [a] (· = r)):GOK P G F (g1 τ f):=by
 intro args r e;unfold g1 at e;split at e
 .obtain⟨x,hx,e⟩:=Xe.1 e;exact h _ x r (Ty.is_dec hx) e
 .cases e
theorem JK {f:α->Option T} {a:T} {x:α} (h:τ.is a x):g1 τ f [a]=f x:=by
 simp only[g1,Ty.dec_is h,Xs]
theorem Ib {f:α->β->Option T} (h:∀a b x y r,τ.is a x->σ.is b y->f x y=some r->Bc P G F [a,b] (· = r)):GOK P G F (g2 τ σ f):=by
 intro args r e;unfold g2 at e;split at e
 .obtain⟨x,hx,e⟩:=Xe.1 e;obtain⟨y,hy,e⟩:=Xe.1 e;exact h _ _ x y r (Ty.is_dec hx) (Ty.is_dec hy) e
 .cases e
theorem Hn {f:α->β->Option T} {a b:T} {x:α} {y:β} (h:τ.is a x) (h':σ.is b y):g2 τ σ f [a,b]=f x y:=by
 simp only[g2,Ty.dec_is h,Ty.dec_is h',Xs]
end
section
variable {α : Type}
def Ax (e:Enc α) (b:Nat):List α->PV
 | []=>.t Au
 | l=>.row b 0 l.length e.z
def G3 (e:Enc α) (ty b:Nat):List α->Ak
 | []=>[]
 | l=>[(b,.cells ty ((l.flatMap e.enc).map .t))]
def Ba (e:Enc α):List α->T
 | []=>Au
 | l=>slT e l
def FU (b:Nat):List α->List Nat
 | []=>[]
 | _=>[b]
theorem IsS.tree (e:Enc α) (l:List α):IsS e (Ba e l) l:=by
 cases l with
 | nil=>exact .inl ⟨rfl,rfl⟩
 | cons x r=>exact .inr rfl
theorem G4 (e:Enc α):∀l:List α,(l.flatMap e.enc).length=l.length*e.z
 | []=>by simp
 | a::l=>by rw[Xk,Xt,e.len,G4 e l,Xl,Nat.succ_mul,Nat.add_comm]
theorem TE (e:Enc α) (σ:Nat->Nat) (b:Nat) (l:List α):ren σ (Ax e b l)=Ax e (σ b) l:=by cases l<;>rfl
theorem TF (e:Enc α) (n b:Nat) (l:List α) (h:b<n):under n (Ax e b l)=true:=by
 cases l with
 | nil=>rfl
 | cons x r=>simp[Ax,under,h]
end
section
variable {α : Type} {P : Program} {G : AM} {B : Nat}
def A5 (e:Enc α) (ty:Nat) (l:List α):Row:=.cells ty ((l.flatMap e.enc).map .t)
def AK (e:Enc α) (ty:Nat) (H:Ak) (b:Nat) (l:List α):Prop:=l=[]\/Aj H b=some (A5 e ty l)
theorem AK.nil (e:Enc α) (ty:Nat) (H:Ak) (b:Nat):AK e ty H b []:=.inl rfl
theorem AK.cons {e:Enc α} {ty:Nat} {H:Ak} {b:Nat} {l:List α} (h:AK e ty H b l) {k:Nat} {r:Row} (hk:k≠b):AK e ty ((k,r)::H) b l:=
 h.imp id λh=>by rw[A9,zw hk];exact h
def appH (e:Enc α) (ty:Nat) (H:Ak) (nx b:Nat) (l m:List α):Ak:=
 if(l++m).isEmpty then H else(nx,A5 e ty (l++m))::(if l.isEmpty then H else rem H b)
def EH (nx:Nat) (l m:List α):Nat:=if(l++m).isEmpty then nx else nx+1
theorem Nm {e:Enc α} {ty by':Nat} {H:Ak} {nx b:Nat} {l m:List α} {src:PV} (h:AK e ty H b l) (hs:CM H e.z src=some (m.length,(m.flatMap e.enc).map .t))
  (hb:(l.length+m.length)*by'<=140737488355328) (hb2:l.length+m.length<=9223372036854775807) :
  Dp ty e.z by' H nx (Ax e b l) src=some (Ax e nx (l++m),appH e ty H nx b l m,EH nx l m):=by
 cases l with
 | nil=>
  cases m with
  | nil=>simp[Dp,hs,Ax,appH,EH]
  | cons y m=>
   simp only[Xu,Nat.zero_add]at hb hb2
   have h0:¬(y::m).length=0:=by simp
   simp only[Dp,hs,Ax,List.nil_append,appH,EH,Xv,List.isEmpty_nil,Xj,if_false,if_true,and_self,h0,hb,hb2,A5]
 | cons x l=>
  rcases h with h | h
  .cases h
  .have hl:(((x::l).flatMap e.enc).map PV.t).length=(x::l).length*e.z:=by rw[Xm,G4]
   simp only[Dp,hs,Ax,h,A5,hl,true_and,zu (And.intro hb hb2),List.cons_append,appH,EH,Xv,Xj,if_false];simp;omega
theorem Pw {e:Enc α} {ty:Nat} {H:Ak} {nx b:Nat} {l m:List α} {c:Nat} (hc:c≠nx) (hb:c≠b):Aj (appH e ty H nx b l m) c=Aj H c:=by
 unfold appH;split
 .rfl
 .rw[A9,zw (Ne.symm hc)];split
  .rfl
  .rw[BZ,zw hb]
theorem AK.app {e:Enc α} {ty:Nat} {H:Ak} {nx b:Nat} {l m:List α}:AK e ty (appH e ty H nx b l m) nx (l++m):=by
 unfold appH;split
 .rename_i h;left;simpa using h
 .right;rw[A9,zu rfl]
theorem AK.toT {e:Enc α} {ty:Nat} {H:Ak} {b:Nat} {l:List α} (h:AK e ty H b l):toT H (Ax e b l)=some (Ba e l,FU b l):=by
 cases l with
 | nil=>rfl
 | cons x r=>
  rcases h with h | h
  .cases h
  .have hl:(((x::r).flatMap e.enc).map PV.t).length=(x::r).length*e.z:=by rw[Xm,G4]
   have tk:List.take ((x::r).length*e.z) (((x::r).flatMap e.enc).map PV.t)=((x::r).flatMap e.enc).map PV.t:=Xw (by rw[hl];exact Xc _);simp only[Ax,Abs.toT,h,A5,List.drop_zero,Nat.zero_add,hl,Xc,if_true,tk,Lv,Option.map_some];rfl
theorem Nn (e:Enc α) (b:Nat) (l:List α):CV (Ax e b l)=some (.t (iv (l.length:Int))):=by cases l<;>rfl
theorem TG {e:Enc α} {H:Ak} {b ty:Nat} (x:α) (h:Aj H b=some (.cells ty ((e.enc x).map .t))):CM H e.z (.row b 0 1 e.z)=some ([x].length,([x].flatMap e.enc).map .t):=by
 have hl:((e.enc x).map PV.t).length=e.z:=by rw[Xm,e.len]
 have tk:List.take e.z ((e.enc x).map PV.t)=(e.enc x).map PV.t:=Xw (by rw[hl];exact Xc _);simp[CM,h,e.len,tk]
theorem JL {e:Enc α} {H:Ak} {t:T} {l:List α} (h:IsS e t l):CM H e.z (.t t)=some (l.length,(l.flatMap e.enc).map .t):=by
 rcases h with⟨rfl,rfl⟩ | rfl
 .rfl
 .simp only[CM,slT,G4,if_true]
theorem Px (σ:Nat->Nat) (e:Enc α) (ty:Nat) (l:List α):Gx σ (A5 e ty l)=A5 e ty l:=by
 have:∀m:List T,Cc σ (m.map .t)=m.map .t:=by
  intro m
  induction m with
  | nil=>rfl
  | cons x m ih=>simp only[Xx,Cc,ren,ih]
 simp only[A5,Gx,this]
theorem Py (n:Nat) (e:Enc α) (ty:Nat) (l:List α):HX n (A5 e ty l)=true:=by
 have:∀m:List T,DD n (m.map .t)=true:=by
  intro m
  induction m with
  | nil=>rfl
  | cons x m ih=>simp only[Xx,DD,under,ih,Bool.and_self]
 simp only[A5,HX,this]
theorem L6 {e:Enc α} {ty b:Nat} {l:List α} {q:Nat×Row} (h:q∈G3 e ty b l):l≠[]/\q=(b,A5 e ty l):=by
 cases l with
 | nil=>simp[G3]at h
 | cons x r=>simp only[G3,Xy]at h;exact⟨by simp,h⟩
theorem jC {e:Enc α} {ty b k nx nx' n:Nat} {l:List α} {env env':List (Nat×PV)} {H:Ak} (h:AK e ty H k l) (hb:b<nx') (hB:B<=b)
  (he:∀q∈env',Aj env q.1=some (ren (λc=>if c=b then k else c) q.2)/\under nx' q.2=true) :
  Sub P G B ⟨env,H,nx,n⟩ ⟨env',G3 e ty b l,nx',n⟩:=by
 refine Lp (λc=>if c=b then k else c) rfl (by show B<=nx';omega) (λc hc=>by show(if c=b then k else c)=c;rw[zw (by omega)]) he (λq hq=>?_) (λq hq q' hq' _=>?_)
 .obtain⟨hne,rfl⟩:=L6 hq;simp only[if_true,Px,Py];rcases h with h | h
  .exact absurd h hne
  .exact⟨h,hb,trivial⟩
 .obtain⟨_,rfl⟩:=L6 hq;obtain⟨_,rfl⟩:=L6 hq';rfl
theorem L7 {nx nx' n:Nat} {env env':List (Nat×PV)} {H:Ak} (hB:B<=nx') (he:∀q∈env',Aj env q.1=some q.2/\under 0 q.2=true) :
  Sub P G B ⟨env,H,nx,n⟩ ⟨env',[],nx',n⟩:=by
 have key:∀(p:PV),under 0 p=true->ren id p=p/\under nx' p=true:=by
  intro p hp;constructor
  .have:(∀p:PV,ren id p=p)/\(∀ps:List PV,Cc id ps=ps):=by
    constructor
    .intro p
     exact PV.rec (motive_1:=λp=>ren id p=p) (motive_2:=λps=>Cc id ps=ps) (λx=>rfl) (λb o n z=>rfl) (λb o=>rfl) (λcs ih=>by simp only[ren,ih]) (λcs ih=>by simp only[ren,ih])
      (λf a c ih1 ih2=>by simp only[ren,ih1,ih2]) (λt x ih=>by simp only[ren,ih]) (λb=>rfl) rfl rfl (λp ps h1 h2=>by simp only[Cc,h1,h2]) p
    .intro ps
     exact PV.rec_1 (motive_1:=λp=>ren id p=p) (motive_2:=λps=>Cc id ps=ps) (λx=>rfl) (λb o n z=>rfl) (λb o=>rfl) (λcs ih=>by simp only[ren,ih]) (λcs ih=>by simp only[ren,ih])
      (λf a c ih1 ih2=>by simp only[ren,ih1,ih2]) (λt x ih=>by simp only[ren,ih]) (λb=>rfl) rfl rfl (λp ps h1 h2=>by simp only[Cc,h1,h2]) ps
   exact this.1 p
  .exact(PV.rec (motive_1:=λp=>under 0 p=true->under nx' p=true) (motive_2:=λps=>DD 0 ps=true->DD nx' ps=true) (λx _=>rfl) (λb o n z h=>by simp[under]at h) (λb o h=>by simp[under]at h)
    (λcs ih h=>by simp only[under]at h ⊢;exact ih h) (λcs ih h=>by simp only[under]at h ⊢;exact ih h) (λf a c ih1 ih2 h=>by simp only[under,Xg]at h ⊢;exact⟨ih1 h.1,ih2 h.2⟩)
    (λt x ih h=>by simp only[under]at h ⊢;exact ih h) (λb h=>by simp[under]at h) (λ_=>rfl) (λ_=>rfl) (λp ps h1 h2 h=>by simp only[DD,Xg]at h ⊢;exact⟨h1 h.1,h2 h.2⟩) p) hp
 refine Lp id rfl hB (λ_ _=>rfl) (λq hq=>?_) (λq hq=>by simp at hq) (λq hq=>by simp at hq);obtain⟨h1,h2⟩:=he q hq;obtain⟨h3,h4⟩:=key q.2 h2;rw[h3];exact⟨h1,h4⟩
end
theorem TH (bs:ByteArray):∀(n i:Nat) (r:List UInt8),bs.size-i=n->Xh.loop bs i r=r.reverse++bs.data.toList.drop i
 | 0,i,r,h=>by
  unfold Xh.loop
  have hi:¬i<bs.size:=by omega
  have hs:bs.data.toList.length=bs.size:=rfl;rw[zw hi,List.drop_eq_nil_of_le (by omega)];simp
 | n+1,i,r,h=>by
  unfold Xh.loop
  have hi:i<bs.size:=by omega
  rw[zu hi,TH bs n (i+1) _ (by omega)];have hs:bs.data.toList.length=bs.size:=rfl
  have hl:i<bs.data.toList.length:=by omega
  rw[List.drop_eq_getElem_cons hl,List.reverse_cons,List.append_assoc];congr 2
  have hl':i<bs.data.size:=by simpa using hl
  show bs.data[i]! :: _=_;rw[getElem!_pos bs.data i hl'];rfl
theorem G5 (bs:ByteArray):bs.toList=bs.data.toList:=by
 unfold Xh;rw[TH bs bs.size 0 [] (by omega)];simp
theorem toList_inj {a b:ByteArray} (h:a.toList=b.toList):a=b:=by
 rw[G5,G5]at h;cases a;cases b;congr;exact Array.toList_inj.1 h
theorem Eb (a b:ByteArray):(a.toList==b.toList)=decide (a=b):=by
 by_cases h:a=b
 .subst h;simp
 .rw[zt h,zp];exact λe=>h (toList_inj e)
def DE (a b:ByteArray):Bool:=Op.bytesLess a.toList b.toList
theorem jD (a b:ByteArray):Op.bytesLess a.toList b.toList=DE a b:=rfl
@[simp] theorem B0f {Φ:AP} {H:Ak} {nx:Nat} (isB:Bool) (nk:Option NK) (a b:ByteArray):A0 Φ H nx (.bin isB .lss nk) [.t (.v (.string a)),.t (.v (.string b))]=some (.t (.v (.bool (DE a b))),H,nx):=rfl
theorem jE {Φ:AP} {H:Ak} {nx:Nat} (isB:Bool) (nk:Option NK) (a b:ByteArray) (h:a.size+b.size<=9223372036854775807):A0 Φ H nx (.bin isB .add nk) [.t (.v (.string a)),.t (.v (.string b))]=some (.t (.v (.string (a++b))),H,nx):=by simp[A0,D6,h]
theorem TI:∀l:List UInt8,Op.bytesLess l l=false
 | []=>rfl
 | x::l=>by
  have:=TI l;simp[Op.bytesLess,this]
theorem TJ:∀{a b c:List UInt8},Op.bytesLess a b=true->Op.bytesLess b c=true->Op.bytesLess a c=true
 | [],[],c,h,_=>by simp[Op.bytesLess]at h
 | [],_::_,[],_,h=>by simp[Op.bytesLess]at h
 | [],_::_,_::_,_,_=>by simp[Op.bytesLess]
 | _::_,[],_,h,_=>by simp[Op.bytesLess]at h
 | _::_,_::_,[],_,h=>by simp[Op.bytesLess]at h
 | x::a,y::b,z::c,h,h'=>by
  simp only[Op.bytesLess,Xz,Xg,decide_eq_true_eq,beq_iff_eq]at h h' ⊢;rcases h with h | ⟨rfl,h⟩
  .rcases h' with h' | ⟨rfl,h'⟩
   .exact .inl (UInt8.lt_trans h h')
   .exact .inl h
  .rcases h' with h' | ⟨rfl,h'⟩
   .exact .inl h'
   .exact .inr ⟨rfl,TJ h h'⟩
theorem TK:∀(a b:List UInt8),Op.bytesLess a b=false->a≠b->Op.bytesLess b a=true
 | [],[],_,h=>absurd rfl h
 | [],_::_,h,_=>by simp[Op.bytesLess]at h
 | _::_,[],_,_=>by simp[Op.bytesLess]
 | x::a,y::b,h,hne=>by
  simp only[Op.bytesLess,Bool.or_eq_false_iff,Bool.and_eq_false_iff,decide_eq_false_iff_not,zp,Xz,Xg,decide_eq_true_eq,beq_iff_eq]at h ⊢;by_cases e:x=y
  .subst e;rcases h.2 with h2 | h2
   .exact absurd rfl h2
   .exact .inr ⟨rfl,TK a b h2 (λe=>hne (by rw[e]))⟩
  .left;rcases UInt8.lt_or_lt_of_ne e with h1 | h1
   .exact absurd h1 h.1
   .exact h1
theorem TL (a:ByteArray):DE a a=false:=TI _
theorem jH {a b c:ByteArray} (h:DE a b=true) (h':DE b c=true):DE a c=true:=TJ h h'
theorem jJ {a b:ByteArray} (h:DE a b=false) (hne:a≠b):DE b a=true:=TK _ _ h λe=>hne (toList_inj e)
theorem jK {a b:ByteArray} (h:DE a b=true):DE b a=false:=by
 cases h':DE b a with
 | false=>rfl
 | true=>rw[<-TL a];exact(jH h h').symm
theorem TM {α:Type} {p:α->Bool} {l:List α} {j:Nat} {y:α} (h:j<l.findIdx p) (hy:l[j]?=some y):p y=false:=by
 have hj:j<l.length:=(Xf.1 hy).1;have:=List.not_of_lt_findIdx h;rw[(Xf.1 hy).2]at this;simpa using this
theorem TN {α:Type} {p:α->Bool} {l:List α} (h:l.findIdx p<l.length):∃x,l[l.findIdx p]?=some x/\p x=true:=
 ⟨l[l.findIdx p],X0 h,List.findIdx_getElem⟩
theorem jP {α:Type} (p:α->Bool) (l:List α):l.findIdx p<=l.length:=List.findIdx_le_length
theorem jQ {α:Type} {p:α->Bool} {l:List α} (h:l.findIdx p=l.length):∀x∈l,p x=false:=by
 intro x hx;obtain⟨i,hi,e⟩:=List.getElem_of_mem hx;have:=TM (p:=p) (l:=l) (j:=i) (y:=x) (by omega) (by rw[X0 hi,e]);exact this
section
variable {α : Type}
theorem jR {e:Enc α} {ty by':Nat} {H:Ak} {nx b:Nat} {l m:List α} {src:PV} (h:AK e ty H b l) (hs:CM H e.z src=some (m.length,(m.flatMap e.enc).map .t))
  (hb:(l.length+m.length)*by'<=140737488355328) (hb2:l.length+m.length<=9223372036854775807) :
  ∃b' H' nx',Dp ty e.z by' H nx (Ax e b l) src=some (Ax e b' (l++m),H',nx')/\AK e ty H' b' (l++m)/\b'≠nx'/\nx<=nx'/\(∀c,c≠b->c<nx->Aj H' c=Aj H c)/\nx<=b':=by
 have ap:=Nm (nx:=nx) h hs hb hb2
 by_cases he:l++m=[]
 .refine⟨nx+1,appH e ty H nx b l m,EH nx l m,?_,by rw[he];exact AK.nil _ _ _ _,?_,?_,?_,by omega⟩
  .rw[ap]
   have:∀b',Ax e b' (l++m) = .t Au:=by intro b';rw[he];rfl
   rw[this,this]
  .unfold EH;rw[he];simp
  .unfold EH;rw[he];simp
  .intro c hc hlt;unfold appH;rw[he];simp
 .have hne:(l++m).isEmpty=false:=by
   cases hx:l++m with
   | nil=>exact absurd hx he
   | cons _ _=>rfl
  refine⟨nx,appH e ty H nx b l m,EH nx l m,ap,AK.app,?_,?_,?_,Xc _⟩
  .unfold EH;rw[hne];simp
  .unfold EH;rw[hne];simp
  .intro c hc hlt;exact Pw (by omega) hc
variable {e : Enc α} {t : T} {l : List α}
end
section
variable {α : Type} {e : Enc α} {ty b : Nat} {H : Ak} {l : List α}
theorem Pz {i:Nat} {x:α} (hx:l[i]?=some x) (k:IntKind):BN e.z (Ax e b l) (.t (.v (.int k (i:Int))))=some (.ptr b (i*e.z)):=by
 have hi:i<l.length:=(Xf.1 hx).1
 cases l with
 | nil=>simp at hi
 | cons a r=>
  simp only[Ax,BN];rw[zu ⟨by omega,by omega⟩];simp
end
noncomputable def IM (ps0:List PV) (H0:Ak) (nx0:Nat) (out:PV×Ak×Nat) (ps:List PV) (H:Ak) (nx:Nat):Option (PV×Ak×Nat):=
 open Classical in if ps = ps0 /\ H = H0 /\ nx = nx0 then some out else none
theorem L8 (ps:List PV) (H:Ak) (nx:Nat) (out:PV×Ak×Nat):IM ps H nx out ps H nx=some out:=by
 unfold IM;rw[zu ⟨rfl,rfl,rfl⟩]
theorem L9 {P:Program} {G:AM} {f:FuncId} {ps:List PV} {H:Ak} {nx:Nat} {r:PV} {H':Ak} {nx':Nat} (h:B3 P G f ps H nx r H' nx') (hf:(∀b x,Aj H b=some x->b<nx)->∀b x,Aj H' b=some x->b<nx'):HOK P G f (IM ps H nx (r,H',nx')) where
 call:=λps1 H1 nx1 r1 H1' nx1' h1=>by
  unfold IM at h1;split at h1
  .rename_i hc;obtain⟨rfl,rfl,rfl⟩:=hc;injection h1 with h1;injection h1 with h1 h2;injection h2 with h2 h3;subst h1;subst h2;subst h3;exact h
  .cases h1
 fresh:=λps1 H1 nx1 r1 H1' nx1' h1=>by
  unfold IM at h1;split at h1
  .rename_i hc;obtain⟨rfl,rfl,rfl⟩:=hc;injection h1 with h1;injection h1 with h1 h2;injection h2 with h2 h3;subst h1;subst h2;subst h3;exact hf
  .cases h1
section
variable {α : Type} {P : Program} {G : AM} {B : Nat}
theorem TO {e:Enc α} {ty b k nx nx' n:Nat} {l:List α} {env env':List (Nat×PV)} {H R:Ak} (h:AK e ty H k l) (hb:b<nx') (hB:B<=b)
  (hR:∀q∈R,Aj H q.1=some (Gx (λx=>if x=b then k else x) q.2)/\q.1<nx'/\q.1≠b/\q.1≠k/\HX nx' q.2=true)
  (he:∀q∈env',Aj env q.1=some (ren (λx=>if x=b then k else x) q.2)/\under nx' q.2=true) :
  Sub P G B ⟨env,H,nx,n⟩ ⟨env',R++G3 e ty b l,nx',n⟩:=by
 refine Lp (λx=>if x=b then k else x) rfl (by show B<=nx';omega) (λx hx=>by show(if x=b then k else x)=x;rw[zw (by omega)]) he (λq hq=>?_) (λq hq q' hq' eqn=>?_)
 .rcases Xn.1 hq with hq | hq
  .obtain⟨h1,h2,h3,h4,h5⟩:=hR q hq;refine⟨?_,h2,h5⟩;show Aj H (if q.1=b then k else q.1)=_;rw[zw h3];exact h1
  .obtain⟨hn,rfl⟩:=L6 hq;simp only[if_true,Px,Py];exact⟨h.resolve_left hn,hb,trivial⟩
 .have key:∀q∈R++G3 e ty b l,q.1=b\/(q.1≠b/\q.1≠k):=by
   intro q hq;rcases Xn.1 hq with hq | hq
   .obtain⟨h1,h2,h3,h4,h5⟩:=hR q hq;exact .inr ⟨h3,h4⟩
   .obtain⟨hn,rfl⟩:=L6 hq;exact .inl rfl
  have e:(if q.1=b then k else q.1)=(if q'.1=b then k else q'.1):=eqn;rcases key q hq with h1 | ⟨h1,h2⟩<;>rcases key q' hq' with h1' | ⟨h1',h2'⟩
  .rw[h1,h1']
  .rw[zu h1,zw h1']at e;exact absurd e.symm h2'
  .rw[zw h1,zu h1']at e;exact absurd e h2
  .rw[zw h1,zw h1']at e;exact e
end
structure Ag where
 role:ByteArray
 var:Int
structure Ep where
 pred:ByteArray
 label:Int
 args:List Ag
structure Qq where
 high:Int
 low:Int
structure Mr where
 top:Int
 index:Int
 vars:List ByteArray
 rels:List Ep
 cons:List Qq
def eAg:Enc Ag:=⟨2,λa=>[sv a.role,iv a.var],λ_=>rfl,by omega,λa b h=>by
 obtain⟨_,_⟩:=a;obtain⟨_,_⟩:=b;injection h with h1 h;injection h with h2 _;injection h1 with h1;injection h1 with h1;injection h2 with h2;injection h2 with _ h2;simp only at h1 h2
 subst h1;subst h2;rfl⟩
def eQq:Enc Qq:=⟨2,λc=>[iv c.high,iv c.low],λ_=>rfl,by omega,λa b h=>by
 obtain⟨_,_⟩:=a;obtain⟨_,_⟩:=b;injection h with h1 h;injection h with h2 _;injection h1 with h1;injection h1 with _ h1;injection h2 with h2;injection h2 with _ h2;simp only at h1 h2
 subst h1;subst h2;rfl⟩
def IP (x:Ep) (cs:List T):Prop:=∃ta,cs=[sv x.pred,iv x.label,ta]/\IsS eAg ta x.args
theorem IP.len {x:Ep} {cs:List T} (h:IP x cs):cs.length=3:=by obtain⟨ta,rfl,_⟩:=h;rfl
theorem IP.uniq {x y:Ep} {cs:List T} (h:IP x cs) (k:IP y cs):x=y:=by
 obtain⟨ta,rfl,h1⟩:=h;obtain⟨tb,e,k1⟩:=k;obtain⟨p,l,as⟩:=x;obtain⟨p',l',as'⟩:=y;injection e with e1 e;injection e with e2 e;injection e with e3 _;injection e1 with e1;injection e1 with e1;injection e2 with e2;injection e2 with _ e2;simp only at e1 e2 h1 k1;subst e1;subst e2;subst e3;obtain rfl:=(tSl eAg).uniq ta as as' h1 k1;rfl
structure EC where
 x:Ep
 cs:List T
 ok:IP x cs
theorem EC.ext {a b:EC} (h:a.cs=b.cs):a=b:=by
 obtain⟨x,cs,ok⟩:=a;obtain⟨x',cs',ok'⟩:=b;simp only at h;subst h;obtain rfl:=ok.uniq ok';rfl
def eEC:Enc EC:=⟨3,EC.cs,λa=>a.ok.len,by omega,λ_ _ h=>EC.ext h⟩
def Fb (x:Ep):List T:=[sv x.pred,iv x.label,Ba eAg x.args]
def EC.of (x:Ep):EC:=⟨x,Fb x,_,rfl,IsS.tree _ _⟩
def tEp:Ty EC:=⟨λt c=>t = .ag c.cs,λt a b h h'=>by rw[h]at h';injection h' with h';exact EC.ext h'⟩
def BJ (m:Mr) (cs:List T):Prop:=∃(tv tr tc:T) (rl:List EC),cs=[iv m.top,iv m.index,tv,tr,tc]/\IsS Ar tv m.vars/\IsS eEC tr rl/\rl.map EC.x=m.rels/\IsS eQq tc m.cons
theorem BJ.uniq {m n:Mr} {cs:List T} (h:BJ m cs) (k:BJ n cs):m=n:=by
 obtain⟨tv,tr,tc,rl,rfl,h1,h2,h3,h4⟩:=h;obtain⟨tv',tr',tc',rl',e,k1,k2,k3,k4⟩:=k;obtain⟨a,b,c,d,f⟩:=m;obtain⟨a',b',c',d',f'⟩:=n;injection e with e1 e;injection e with e2 e;injection e with e3 e;injection e with e4 e;injection e with e5 _;injection e1 with e1;injection e1 with _ e1;injection e2 with e2;injection e2 with _ e2;simp only at e1 e2 h1 h3 h4 k1 k3 k4;subst e1;subst e2;subst e3;subst e4;subst e5;obtain rfl:=(tSl Ar).uniq tv c c' h1 k1;obtain rfl:=(tSl eEC).uniq tr rl rl' h2 k2;obtain rfl:=(tSl eQq).uniq tc f f' h4 k4;rw[<-h3,<-k3]
def Bm (m:Mr):List T:=[iv m.top,iv m.index,Ba Ar m.vars,Ba eEC (m.rels.map EC.of),Ba eQq m.cons]
theorem TP (l:List Ep):(l.map EC.of).map EC.x=l:=by rw[List.map_map,show(EC.x∘EC.of)=id from rfl,List.map_id]
theorem Ic (m:Mr):BJ m (Bm m):=⟨_,_,_,_,rfl,IsS.tree _ _,IsS.tree _ _,TP _,IsS.tree _ _⟩
def B7 (x:Ep):List Int:=x.label::x.args.map (·.var)
def BE (c:Qq):List Int:=[c.high,c.low]
def occ (m:Mr):List Int:=m.top::m.index::(m.rels.flatMap B7++m.cons.flatMap BE)
def hnd (m:Mr):List Int:=m.top::(m.rels.map Ep.label++m.cons.flatMap BE)
def plc (x:Int):Nat->List Int->Int
 | _,[]=>-1
 | i,y::r=>if y=x then(i:Int)else plc x (i+1) r
theorem P1 {x:Int}:∀{l:List Int} {i:Nat} {n:Nat},plc x i l=(n:Int)->i<=n/\l[n-i]?=some x
 | [],i,n,h=>by rw[plc]at h;omega
 | y::r,i,n,h=>by
  rw[plc]at h;split at h
  .rename_i e
   have:i=n:=by omega
   subst this;exact⟨Xc _,by simp[e]⟩
  .obtain⟨h1,h2⟩:=P1 h;refine⟨by omega,?_⟩;rw[show n-i=(n-(i+1))+1 by omega,List.getElem?_cons_succ];exact h2
theorem Np {x:Int}:∀{l:List Int} {i:Nat},x∈l->∃n:Nat,plc x i l=(n:Int)/\i<=n/\n<i+l.length
 | [],i,h=>by cases h
 | y::r,i,h=>by
  rw[plc];by_cases e:y=x
  .rw[zu e];exact⟨i,rfl,Xc _,by simp⟩
  .rw[zw e];obtain⟨n,h1,h2,h3⟩:=Np (i:=i+1) ((Xd.1 h).resolve_left λk=>e k.symm);exact⟨n,h1,by omega,by simp only[Xl];omega⟩
theorem Nq {x:Int}:∀{l:List Int} {i:Nat},x∉l->plc x i l = -1
 | [],i,_=>rfl
 | y::r,i,h=>by
  rw[plc,zw (λe=>h (by simp[e])),Nq (λk=>h (by simp[k]))]
theorem Nr {x:Int} {l:List Int} {i:Nat}:plc x i l<0 ↔ x∉l:=by
 constructor
 .intro h k;obtain⟨n,h1,_⟩:=Np (i:=i) k;omega
 .intro h;rw[Nq h];decide
def Bo:List Int->List Int->List Int
 | acc,[]=>acc
 | acc,x::r=>Bo (if x∈acc then acc else acc++[x]) r
theorem IQ:∀{l acc:List Int} {x:Int},x∈Bo acc l ↔ x∈acc\/x∈l
 | [],acc,x=>by simp[Bo]
 | y::r,acc,x=>by
  rw[Bo,IQ];by_cases h:y∈acc
  .rw[zu h];constructor
   .rintro(h1 | h1)
    .exact .inl h1
    .exact .inr (by simp[h1])
   .rintro(h1 | h1)
    .exact .inl h1
    .rcases Xd.1 h1 with rfl | h1
     .exact .inl h
     .exact .inr h1
  .rw[zw h];simp only[Xn,Xd,List.not_mem_nil,or_false,or_assoc]
theorem JM:∀{l acc:List Int},acc.Nodup->(Bo acc l).Nodup
 | [],acc,h=>h
 | y::r,acc,h=>by
  rw[Bo];by_cases hy:y∈acc
  .rw[zu hy];exact JM h
  .rw[zw hy];refine JM ?_;rw[List.nodup_append];exact⟨h,by simp,λa ha b hb=>by rw[Xy.1 hb];exact λe=>hy (e▸ha)⟩
theorem P6:∀{l acc:List Int},∃r,Bo acc l=acc++r
 | [],acc=>⟨[],by simp[Bo]⟩
 | y::r,acc=>by
  rw[Bo];obtain⟨s,hs⟩:=P6 (l:=r) (acc:=if y∈acc then acc else acc++[y]);rw[hs];by_cases hy:y∈acc
  .rw[zu hy];exact⟨s,rfl⟩
  .rw[zw hy];exact⟨y::s,by simp⟩
def BM (m:Mr):List Int:=Bo [] (occ m)
def upN (n:Nat):List Int:=(List.range n).map λi:Nat=>(i:Int)
theorem TQ (n:Nat):upN (n+1)=upN n++[(n:Int)]:=by simp[upN,List.range_succ]
theorem Cv (n:Nat):(upN n).length=n:=by simp[upN]
theorem DK {n:Nat} {x:Int}:x∈upN n ↔ 0<=x/\x<n:=by
 simp only[upN,List.mem_map,List.mem_range];constructor
 .rintro⟨i,h,rfl⟩;omega
 .rintro⟨h1,h2⟩;exact⟨x.toNat,by omega,by omega⟩
def Ie:Nat->List Int->Option Nat
 | n,[]=>some n
 | n,x::r=>if(n:Int)<x then none else if x=n then Ie (n+1) r else Ie n r
theorem P7:∀{l:List Int} {n:Nat},(∀x∈l,0<=x)->∀k,Ie n l=some k ↔ Bo (upN n) l=upN k
 | [],n,_,k=>by
  simp only[Ie,Bo,Option.some.injEq];constructor
  .rintro rfl;rfl
  .intro h;have:=congrArg List.length h;rwa[Cv,Cv]at this
 | x::r,n,h,k=>by
  have h0:0<=x:=h x (by simp);have hr:∀y∈r,0<=y:=λy hy=>h y (by simp[hy]);rw[Ie,Bo];by_cases h1:(n:Int)<x
  .rw[zu h1,zw (by rw[DK];omega)];constructor
   .intro e;cases e
   .intro e;exfalso;obtain⟨s,hs⟩:=P6 (l:=r) (acc:=upN n++[x]);rw[e]at hs;have hl:=congrArg List.length hs;simp only[Xt,Cv,Xl,Xu]at hl
    have h2:(upN k)[n]?=some x:=by rw[hs,List.getElem?_append_left (by simp[Cv]),List.getElem?_append_right (by simp[Cv])];simp[Cv]
    have h3:(upN k)[n]?=some (n:Int):=by
     rw[upN,List.getElem?_map,List.getElem?_range (by omega)];rfl
    rw[h2]at h3;injection h3 with h3;omega
  .rw[zw h1];by_cases h2:x=n
   .rw[zu h2,zw (by rw[DK];omega),h2,<-TQ];exact P7 hr k
   .rw[zw h2,zu (by rw[DK];omega)];exact P7 hr k
def Fc (m:Mr):Bool:=decide (BM m=upN m.vars.length)
def wH:ByteArray:=⟨#[104]⟩
def Cr (s:ByteArray):Bool:=decide (s=wH)||(decide (s=⟨#[101]⟩)||(decide (s=⟨#[120]⟩)||decide (s=⟨#[105]⟩)))
def Ig:ByteArray:=⟨#[76,65,66,69,76]⟩
end Go.Abs
