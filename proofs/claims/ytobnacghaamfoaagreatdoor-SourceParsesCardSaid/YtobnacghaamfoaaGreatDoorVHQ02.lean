/- Auxiliary facts. -/
import Derived.Test.YtobnacghaamfoaaGreatDoorVHQ01
import Derived.Orders
import Derived.Scope
set_option linter.unusedSimpArgs false
set_option linter.unusedVariables false
open Array renaming getD_eq_getD_getElem?->Xa
open Option renaming some->Xb
namespace Go.Abs
open Go
structure Ac where
 env:List (Nat×PV)
 H:Ab
 nx:Nat
 n:Nat
def Ac.put (s:Ac) (d:Option Tmp) (p:PV):Ac:=
 match d with
 | some k=>{ s with env:=(k,p)::s.env }
 | none=>s
def Oy:Value->PV
 | .agg us=>if us.toList.all (·.oneCell')then .t (.ag (us.toList.map .v))else .t (.v (.agg us))
 | x=>.t (.v x)
def Ac.ev (G:Ay) (s:Ac):Operand->PV
 | .tmp t=>(Aa s.env t).getD .dead
 | .const x=>Oy x
 | .global g=>match Aa G g with
  | some cs=>.t (.pt cs)
  | none=>.t (.v (.pointer (some ⟨g,0,none⟩)))
 | .func f=>.t (.v (.func (.func f) #[] #[]))
structure Interp (P:Program) (G:Ay) (B:Nat) (L:Loc) (s:Ac) (a:Act) (w:World):Prop where
 heap:Bx P G L s.H w
 nx:L.nx=s.nx
 base:B<=L.nx
 size:a.tmps.size=s.n
 defers:a.defers=[]
 env:∀k p,Aa s.env k=some p->Ae P L w p (a.tmps.getD k undef)
section
variable {P : Program} {G : Ay} {B : Nat} {L : Loc} {s : Ac} {a : Act} {w : World}
theorem Q6 (I:Nat->Prop) (w:World):∀us:List Value,Ba I w (us.map .v) us
 | []=>by simp only[List.map_nil,Ba]
 | u::us=>by simp only[List.map_cons,Ba];exact⟨u,us,rfl,by simp only[An],Q6 I w us⟩
theorem iT (x:Value):Ae P L w (Oy x) x:=by
 cases x<;>simp only[Oy,Ae,An]
 case agg us=>
  split
  .rename_i h1;simp only[Ae,An];exact⟨us,rfl,List.all_eq_true.1 h1,Q6 _ _ _⟩
  .simp only[Ae,An]
theorem Interp.ev (h:Interp P G B L s a w) (x:Operand):Ae P L w (s.ev G x) (a.eval x):=by
 cases x with
 | tmp t=>
  simp only[Ac.ev,Act.eval]
  cases hl:Aa s.env t with
  | none=>simp only[Option.getD_none,Ae]
  | some p=>exact h.env t p hl
 | const x=>exact iT x
 | global g=>
  simp only[Ac.ev,Act.eval];split
  .rename_i cs hl;simp only[Ae,An];exact⟨g,0,rfl,(h.heap.glob g cs hl).1,(h.heap.glob g cs hl).2.1⟩
  .simp only[Ae,An]
 | func f=>simp only[Ac.ev,Act.eval,Ae,An]
end
def BO (P:Program) (G:Ay) (B:Nat) (Q:Exit->Ac->Prop) (L:Loc) (H:Ab) (w:World):Exit->Act->World->Prop:=
 λe a' w'=>∃s' L',Q e s'/\Interp P G B L' s' a' w'/\Ext L H w L' s'.H w'/\∀b,b<B->L'.μ b=L.μ b
def Cd (P:Program) (G:Ay) (B:Nat) (c:Code) (Q:Exit->Ac->Prop) (s:Ac):Prop:=
 ∀L a w,Interp P G B L s a w->c.wp P (BO P G B Q L s.H w) a w
def Sub (P:Program) (G:Ay) (B:Nat) (s s':Ac):Prop:=
 ∀L a w,Interp P G B L s a w->∃L',Interp P G B L' s' a w/\Ext L s.H w L' s'.H w/\∀b,b<B->L'.μ b=L.μ b
section
variable {P : Program} {G : Ay} {B : Nat} {Q Q' : Exit -> Ac -> Prop} {s s' s1 : Ac} {L L1 : Loc} {w w1 : World} {a : Act}
theorem BO.later (hx:Ext L s.H w L1 s1.H w1) (hb:∀b,b<B->L1.μ b=L.μ b) {e:Exit} {a':Act} {w':World} (h:BO P G B Q L1 s1.H w1 e a' w') :
  BO P G B Q L s.H w e a' w':=by
 obtain⟨s2,L2,hq,hi,hx2,hb2⟩:=h;exact⟨s2,L2,hq,hi,hx.trans hx2,λb h=>(hb2 b h).trans (hb b h)⟩
theorem Sub.refl (s:Ac):Sub P G B s s:=λL _ w h=>⟨L,h,Ext.refl L s.H w,λ_ _=>rfl⟩
theorem Sub.trans (h:Sub P G B s s1) (h':Sub P G B s1 s'):Sub P G B s s':=λL a w hi=>by
 obtain⟨L1,h1,x1,b1⟩:=h L a w hi;obtain⟨L2,h2,x2,b2⟩:=h' L1 a w h1;exact⟨L2,h2,x1.trans x2,λb hb=>(b2 b hb).trans (b1 b hb)⟩
theorem Cd.sub {c:Code} (h:Sub P G B s s') (hc:Cd P G B c Q s'):Cd P G B c Q s:=λL a w hi=>by
 obtain⟨L',hi',hx,hb⟩:=h L a w hi;exact wp_mono (hc L' a w hi') λ_ _ _ hp=>BO.later hx hb hp
theorem Cd.post {c:Code} (h:Cd P G B c Q s) (hq:∀e s1,Q e s1->∃s2,Sub P G B s1 s2/\Q' e s2):Cd P G B c Q' s:=λL a w hi=>
 wp_mono (h L a w hi) λe a' w' ⟨s1,L1,q,hi1,hx,hb⟩=>by
  obtain⟨s2,hs,q2⟩:=hq e s1 q;obtain⟨L2,hi2,hx2,hb2⟩:=hs L1 a' w' hi1;exact⟨s2,L2,q2,hi2,hx.trans hx2,λb h=>(hb2 b h).trans (hb b h)⟩
theorem Cd.mono {c:Code} (h:Cd P G B c Q s) (hq:∀e s1,Q e s1->Q' e s1):Cd P G B c Q' s:=
 h.post λe s1 q=>⟨s1,Sub.refl s1,hq e s1 q⟩
def iU (P:Program) (G:Ay) (B:Nat) (y:Code) (Q:Exit->Ac->Prop):Exit->Ac->Prop
 | .normal,s=>Cd P G B y Q s
 | e,s=>Q e s
theorem Oz {x y:Code} (h:Cd P G B x (iU P G B y Q) s):Cd P G B (.seq x y) Q s:=λL a w hi=>
 wp_seq (wp_mono (h L a w hi) λe a' w' ⟨s1,L1,q,hi1,hx,hb⟩=>by
  cases e
  case normal=>exact wp_mono (q L1 a' w' hi1) λ_ _ _ hp=>BO.later hx hb hp
  all_goals exact⟨s1,L1,q,hi1,hx,hb⟩)
theorem Li (hi:Interp P G B L s a w) {e:Exit} (q:Q e s):BO P G B Q L s.H w e a w:=
 ⟨s,L,q,hi,Ext.refl _ _ _,λ_ _=>rfl⟩
theorem TU (h:Q .normal s):Cd P G B .skip Q s:=λ_ _ _ hi=>wp_skip (Li hi h)
theorem TV {l:Nat} (h:Q .normal s):Cd P G B (.label l) Q s:=λ_ _ _ hi=>wp_label (Li hi h)
theorem TW {i:Nat} (h:Q (.exit i) s):Cd P G B (.exit i) Q s:=λ_ _ _ hi=>wp_exit (Li hi h)
theorem TX (h:Q .ret s):Cd P G B .ret Q s:=λ_ _ _ hi=>wp_ret (Li hi h)
theorem iV {c:Operand} {x y:Code} {t:Bool} (hc:s.ev G c = .t (.v (.bool t))) (h:Cd P G B (if t then x else y) Q s):Cd P G B (.cond c x y) Q s:=λL a w hi=>by
 have:=hi.ev c;rw[hc]at this;simp only[Ae,An]at this;exact wp_cond this (h L a w hi)
def F8 (id:Nat) (Q:Exit->Ac->Prop):Exit->Ac->Prop
 | .exit id',s=>if id'=id then Q .normal s else Q (.exit id') s
 | e,s=>Q e s
theorem iW {id:Nat} {c:Code} (h:Cd P G B c (F8 id Q) s):Cd P G B (.block id c) Q s:=λL a w hi=>
 wp_block (wp_mono (h L a w hi) (by
  intro e a' w' hp;obtain⟨s1,L1,q,hi1,hx,hb⟩:=hp
  cases e with
  | exit i=>
   simp only[F8,Exit.inBlock]at q ⊢;by_cases hid:i=id
   .rw[zy hid]at q ⊢;exact⟨s1,L1,q,hi1,hx,hb⟩
   .rw[zz hid]at q ⊢;exact⟨s1,L1,q,hi1,hx,hb⟩
  | normal=>exact⟨s1,L1,q,hi1,hx,hb⟩
  | goto l=>exact⟨s1,L1,q,hi1,hx,hb⟩
  | ret=>exact⟨s1,L1,q,hi1,hx,hb⟩
  | panic ch=>exact⟨s1,L1,q,hi1,hx,hb⟩
  | outgrown=>exact⟨s1,L1,q,hi1,hx,hb⟩))
theorem TY {c:Code} {R R':Exit->Act->World->Prop} (h:∀e a w,R e a w->R' e a w):∀(n:Nat) (a:Act) (w:World),Code.rounds P c R n a w->Code.rounds P c R' n a w
 | 0,_,_,hr=>hr
 | n+1,a,w,hr=>by
  rw[rounds_succ]at hr ⊢;refine wp_mono hr λe a' w' q=>?_;cases e
  case normal=>exact TY h n a' w' q
  all_goals exact h _ _ _ q
def TZ (P:Program) (G:Ay) (B:Nat) (Inv:Nat->Ac->Prop) (n:Nat) (Q:Exit->Ac->Prop):Exit->Ac->Prop
 | .normal,s=>∃m,m<n/\∃s2,Sub P G B s s2/\Inv m s2
 | e,s=>Q e s
theorem iX {c:Code} (Inv:Nat->Ac->Prop) (n:Nat) (h0:Inv n s)
  (round:∀n s,Inv n s->Cd P G B c (TZ P G B Inv n Q) s):Cd P G B (.loop c) Q s:=by
 have key:∀N n s L a w,n<=N->Inv n s->Interp P G B L s a w->Code.rounds P c (BO P G B Q L s.H w) (N+1) a w:=by
  intro N
  induction N with
  | zero=>
   intro n s L a w hn hinv hi;rw[rounds_succ];refine wp_mono (round n s hinv L a w hi) λe a' w' ⟨s1,L1,q,hi1,hx,hb⟩=>?_;cases e
   case normal=>obtain⟨m,hm,_⟩:=q;omega
   all_goals exact⟨s1,L1,q,hi1,hx,hb⟩
  | succ N ih=>
   intro n s L a w hn hinv hi;rw[rounds_succ];refine wp_mono (round n s hinv L a w hi) λe a' w' ⟨s1,L1,q,hi1,hx,hb⟩=>?_;cases e
   case normal=>
    obtain⟨m,hm,s2,hs,hinv2⟩:=q;obtain⟨L2,hi2,hx2,hb2⟩:=hs L1 a' w' hi1;exact TY (λe a w hp=>BO.later (hx.trans hx2) (λb h=>(hb2 b h).trans (hb b h)) hp) _ _ _ (ih m s2 L2 a' w' (by omega) hinv2 hi2)
   all_goals exact⟨s1,L1,q,hi1,hx,hb⟩
 exact λL a w hi=>wp_loop_rounds (n+1) (key n n s L a w (Nat.le_refl _) h0 hi)
def AOp (P:Program) (G:Ay) (B:Nat) (o:Oper) (s:Ac) (r:PV) (H':Ab) (nx':Nat):Prop:=
 ∀L a w,Interp P G B L s a w->o.wp P a w (λa' w'=>∃v L',a'=a.put o.dst v/\Ae P L' w' r v/\Bx P G L' H' w'/\L'.nx=nx'/\AO L w L' w'/\Ext L s.H w L' H' w') (λ_ _ _=>False)
theorem EO {o:Oper} {K K':Act->World->Prop} {R R':Exit->Act->World->Prop} (h:∀a w,K a w->K' a w) (hr:∀e a w,R e a w->R' e a w)
  (hh:o.wp P a w K R):o.wp P a w K' R':=by
 unfold Oper.wp at *;generalize (execOp a.eval o).run P w=r at *
 cases r with
 | ok n w'=>
  cases n<;>simp only[Oper.upon]at hh ⊢
  case value=>exact h _ _ hh
  case skip=>exact h _ _ hh
  case defer=>exact h _ _ hh
  case enter=>
   refine Calls.mono hh λe w'' he=>?_;cases e
   case returned=>exact h _ _ he
   case panicked=>exact hr _ _ _ he
   case outgrown=>obtain⟨a0,w0,h0⟩:=he;exact⟨a0,w0,hr _ _ _ h0⟩
  case row=>exact Rows.mono hh (λ_ _ he=>h _ _ he)
 | halt x w'=>
  cases x<;>simp only[Oper.upon]at hh ⊢;exact hr _ _ _ hh
def Ac.wants (s:Ac) (ops:Array Oper) (o:Oper):Option Bool:=
 match o.guard with
 | none=>some true
 | some (j,want)=>
  match (ops[j]?).bind (·.dst)with
  | some d=>match Aa s.env d with
   | some (.t (.v (.bool b)))=>some (b==want)
   | some (.t (.v (.tuple _)))=>some false
   | _=>none
  | none=>some false
theorem Interp.wants (hi:Interp P G B L s a w) {ops:Array Oper} {o:Oper} {b:Bool} (h:s.wants ops o=some b):Region.wanted o (yielded ops a.tmps)=b:=by
 unfold Ac.wants at h;unfold Region.wanted
 cases hg:o.guard with
 | none=>simpa[hg]using h
 | some jw=>
  obtain⟨j,want⟩:=jw;simp only[hg]at h ⊢;unfold yielded
  cases hd:(ops[j]?).bind (·.dst)with
  | none=>
   simp only[hd,Xb.injEq]at h;simp[<-h]
  | some d=>
   simp only[hd]at h;simp only[Option.bind_some]
   cases hl:Aa s.env d with
   | none=>simp[hl]at h
   | some p=>
    have hr:=hi.env d p hl
    have key:∀x,a.tmps.getD d undef=x->x≠undef->a.tmps[d]?=some x:=by
     intro x hx hne;rw[Xa]at hx
     cases h2:a.tmps[d]? with
     | none=>rw[h2]at hx;exact absurd hx.symm hne
     | some y=>rw[h2]at hx;simpa using hx
    simp only[hl]at h;split at h
    .rename_i b' e;injection e with e;subst e;simp only[Ae,An]at hr;rw[key _ hr (by simp[undef])];simpa using h
    .rename_i us e;injection e with e;subst e;simp only[Ae,An]at hr
     have:b=false:=by simpa using h.symm
     subst this
     cases h2:a.tmps[d]? with
     | none=>simp
     | some y=>
      rw[Xa,h2]at hr;simp only[Option.getD_some]at hr;subst hr;simp
    .cases h
def JL (P:Program) (G:Ay) (B:Nat) (ops:Array Oper) (l:List Oper) (Q:Ac->Prop) (s:Ac):Prop:=
 ∀L a w,Interp P G B L s a w->wpList P ops (BO P G B (λe s'=>e = .normal/\Q s') L s.H w) l a w
theorem Q7 {s:Ac} {d:Option Tmp} {p q:PV} {k:Nat} (h:Aa (s.put d p).env k=some q):(d=some k/\q=p)\/(d≠some k/\Aa s.env k=some q):=by
 cases d with
 | none=>exact .inr ⟨by simp,h⟩
 | some d=>
  simp only[Ac.put,Aa]at h;by_cases e:d=k
  .rw[zy e]at h;exact .inl ⟨by rw[e],by simpa using h.symm⟩
  .rw[zz e]at h;exact .inr ⟨by simpa using e,h⟩
theorem D9 {s:Ac} {d:Option Tmp} {p:PV}:(s.put d p).H=s.H:=by cases d<;>rfl
theorem EP {s:Ac} {d:Option Tmp} {p:PV}:(s.put d p).nx=s.nx:=by cases d<;>rfl
theorem F9 {s:Ac} {d:Option Tmp} {p:PV}:(s.put d p).n=s.n:=by cases d<;>rfl
theorem FV (a:Act) (d:Option Tmp) (v:Value) (k:Nat) :
  (a.put d v).tmps.getD k undef=if d=some k/\k<a.tmps.size then v else a.tmps.getD k undef:=by
 cases d with
 | none=>simp[Act.put]
 | some d=>
  simp only[Act.put,Xa,Xb.injEq];by_cases e:d=k
  .subst e;by_cases hk:d<a.tmps.size
   .simp[hk]
   .simp[hk]
  .simp[e,Array.getElem?_setIfInBounds_ne e]
theorem MA (hi:Interp P G B L s a w) {d:Option Tmp} {v:Value} {r:PV} {H':Ab} {L':Loc} {w':World} (hd:∀k,d=some k->k<s.n)
  (hr:Ae P L' w' r v) (hok:Bx P G L' H' w') (hm:AO L w L' w') :
  Interp P G B L' (({ s with H:=H',nx:=L'.nx }:Ac).put d r) (a.put d v) w' where
 heap:=by rw[D9];exact hok
 nx:=by rw[EP]
 base:=Nat.le_trans hi.base hm.nx
 size:=by rw[F9,<-hi.size];cases d<;>simp[Act.put]
 defers:=by cases d<;>simp[Act.put,hi.defers]
 env:=λk p hl=>by
  rw[FV];rcases Q7 hl with⟨e,rfl⟩ | ⟨e,hl'⟩
  .rw[zy ⟨e,by rw[hi.size];exact hd k e⟩];exact hr
  .rw[zz (λh=>e h.1)];exact Ae.keep hm p (hi.env k p hl')
theorem iY {ops:Array Oper} {Q:Ac->Prop} (h:Q s):JL P G B ops [] Q s:=λ_ _ _ hi=>Li hi ⟨rfl,h⟩
theorem iZ {ops:Array Oper} {Q:Ac->Prop} {o:Oper} {AY:List Oper} {r:PV} {H':Ab} {nx':Nat} (hw:s.wants ops o=some true) (hd:∀k,o.dst=some k->k<s.n)
  (ho:AOp P G B o s r H' nx') (h:JL P G B ops AY Q (({ s with H:=H',nx:=nx' }:Ac).put o.dst r)):JL P G B ops (o::AY) Q s:=λL a w hi=>by
 unfold wpList;rw[zy (hi.wants hw)];refine .inl (EO ?_ (λ_ _ _ h=>h.elim) (ho L a w hi));rintro a' w' ⟨v,L',rfl,hr,hok,rfl,hm,hx⟩;have hp:=h L' _ w' (MA hi hd hr hok hm);rw[D9]at hp
 have:∀(l:List Oper) (a:Act) (w2:World),wpList P ops (BO P G B (λe s'=>e = .normal/\Q s') L' H' w') l a w2->wpList P ops (BO P G B (λe s'=>e = .normal/\Q s') L s.H w) l a w2:=by
  have hq:∀e a w2,BO P G B (λe s'=>e = .normal/\Q s') L' H' w' e a w2->BO P G B (λe s'=>e = .normal/\Q s') L s.H w e a w2:=by
   rintro e a w2 ⟨s2,L2,q,hi2,hx2,hb2⟩;exact⟨s2,L2,q,hi2,hx.trans hx2,λb hb=>(hb2 b hb).trans (hm.μ b (Nat.lt_of_lt_of_le hb hi.base))⟩
  intro l
  induction l with
  | nil=>intro a w2 h;exact hq _ _ _ h
  | cons o l ih=>
   intro a w2 h;unfold wpList at h ⊢;split
   .rename_i hw;rw[zy hw]at h;rcases h with h | ⟨h1,a0,w0,h2⟩
    .exact .inl (EO ih hq h)
    .exact .inr ⟨h1,a0,w0,hq _ _ _ h2⟩
   .rename_i hw;rw[zz hw]at h;exact ih _ _ h
 exact this _ _ _ hp
theorem j9 {ops:Array Oper} {Q:Ac->Prop} {o:Oper} {AY:List Oper} (hw:s.wants ops o=some false) (hd:∀k,o.dst=some k->k<s.n)
  (h:JL P G B ops AY Q (s.put o.dst (.t (.v undef)))):JL P G B ops (o::AY) Q s:=λL a w hi=>by
 unfold wpList;rw[zz (by rw[hi.wants hw];simp)];have hi':=MA hi (r:=.t (.v undef)) (v:=undef) hd (by simp only[Ae,An]) hi.heap (AO.refl L w)
 have e:({ s with H:=s.H,nx:=L.nx }:Ac)=s:=by rw[hi.nx]
 rw[e]at hi';have:=h L _ w hi';rw[D9]at this;exact this
theorem jC {id:Nat} {ops:Array Oper} (h:JL P G B ops ops.toList (Q .normal) s):Cd P G B (.region id ops false) Q s:=λL a w hi=>
 wp_region_list (by
  have:=h L a w hi;revert this;generalize ops.toList=l;intro this
  have hq:∀e a w2,BO P G B (λe s'=>e = .normal/\Q .normal s') L s.H w e a w2->BO P G B Q L s.H w e a w2:=by
   rintro e a w2 ⟨s2,L2,⟨rfl,q⟩,hi2,hx2,hb2⟩;exact⟨s2,L2,q,hi2,hx2,hb2⟩
  have key:∀(l:List Oper) (a:Act) (w2:World),wpList P ops (BO P G B (λe s'=>e = .normal/\Q .normal s') L s.H w) l a w2->wpList P ops (BO P G B Q L s.H w) l a w2:=by
   intro l
   induction l with
   | nil=>intro a w2 h;exact hq _ _ _ h
   | cons o l ih=>
    intro a w2 h;unfold wpList at h ⊢;split
    .rename_i hw;rw[zy hw]at h;rcases h with h | ⟨h1,a0,w0,h2⟩
     .exact .inl (EO ih hq h)
     .exact .inr ⟨h1,a0,w0,hq _ _ _ h2⟩
    .rename_i hw;rw[zz hw]at h;exact ih _ _ h
  exact key _ _ _ this)
end
end Go.Abs
