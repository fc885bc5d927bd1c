/- Auxiliary facts. -/
import Derived.Test.YtmgjopafgboljaaGreatDoorVFQ01
import Derived.Orders
import Derived.Scope
set_option linter.unusedSimpArgs false
set_option linter.unusedVariables false
open Array renaming getD_eq_getD_getElem?->Xc
open Option renaming some->Xd
namespace Go.Abs
open Go
structure Am where
 env:List (Nat×PV)
 H:Ak
 nx:Nat
 n:Nat
def Am.put (s:Am) (d:Option Tmp) (p:PV):Am:=
 match d with
 | some k=>{ s with env:=(k,p)::s.env }
 | none=>s
def M7:Value->PV
 | .agg us=>if us.toList.all (·.oneCell')then .t (.ag (us.toList.map .v))else .t (.v (.agg us))
 | x=>.t (.v x)
def Am.ev (G:AM) (s:Am):Operand->PV
 | .tmp t=>(Aj s.env t).getD .dead
 | .const x=>M7 x
 | .global g=>match Aj G g with
  | some cs=>.t (.pt cs)
  | none=>.t (.v (.pointer (some ⟨g,0,none⟩)))
 | .func f=>.t (.v (.func (.func f) #[] #[]))
structure Interp (P:Program) (G:AM) (B:Nat) (L:Loc) (s:Am) (a:Act) (w:World):Prop where
 heap:B1 P G L s.H w
 nx:L.nx=s.nx
 base:B<=L.nx
 size:a.tmps.size=s.n
 defers:a.defers=[]
 env:∀k p,Aj s.env k=some p->Aq P L w p (a.tmps.getD k undef)
section
variable {P : Program} {G : AM} {B : Nat} {L : Loc} {s : Am} {a : Act} {w : World}
theorem OC (I:Nat->Prop) (w:World):∀us:List Value,AX I w (us.map .v) us
 | []=>by simp only[List.map_nil,AX]
 | u::us=>by simp only[List.map_cons,AX];exact⟨u,us,rfl,by simp only[AA],OC I w us⟩
theorem cC (x:Value):Aq P L w (M7 x) x:=by
 cases x<;>simp only[M7,Aq,AA]
 case agg us=>
  split
  .rename_i h1;simp only[Aq,AA];exact⟨us,rfl,List.all_eq_true.1 h1,OC _ _ _⟩
  .simp only[Aq,AA]
theorem Interp.ev (h:Interp P G B L s a w) (x:Operand):Aq P L w (s.ev G x) (a.eval x):=by
 cases x with
 | tmp t=>
  simp only[Am.ev,Act.eval]
  cases hl:Aj s.env t with
  | none=>simp only[Option.getD_none,Aq]
  | some p=>exact h.env t p hl
 | const x=>exact cC x
 | global g=>
  simp only[Am.ev,Act.eval];split
  .rename_i cs hl;simp only[Aq,AA];exact⟨g,0,rfl,(h.heap.glob g cs hl).1,(h.heap.glob g cs hl).2.1⟩
  .simp only[Aq,AA]
 | func f=>simp only[Am.ev,Act.eval,Aq,AA]
end
def B8 (P:Program) (G:AM) (B:Nat) (Q:Exit->Am->Prop) (L:Loc) (H:Ak) (w:World):Exit->Act->World->Prop:=
 λe a' w'=>∃s' L',Q e s'/\Interp P G B L' s' a' w'/\Ext L H w L' s'.H w'/\∀b,b<B->L'.μ b=L.μ b
def Cm (P:Program) (G:AM) (B:Nat) (c:Code) (Q:Exit->Am->Prop) (s:Am):Prop:=
 ∀L a w,Interp P G B L s a w->c.wp P (B8 P G B Q L s.H w) a w
def Sub (P:Program) (G:AM) (B:Nat) (s s':Am):Prop:=
 ∀L a w,Interp P G B L s a w->∃L',Interp P G B L' s' a w/\Ext L s.H w L' s'.H w/\∀b,b<B->L'.μ b=L.μ b
section
variable {P : Program} {G : AM} {B : Nat} {Q Q' : Exit -> Am -> Prop} {s s' s1 : Am} {L L1 : Loc} {w w1 : World} {a : Act}
theorem B8.later (hx:Ext L s.H w L1 s1.H w1) (hb:∀b,b<B->L1.μ b=L.μ b) {e:Exit} {a':Act} {w':World} (h:B8 P G B Q L1 s1.H w1 e a' w') :
  B8 P G B Q L s.H w e a' w':=by
 obtain⟨s2,L2,hq,hi,hx2,hb2⟩:=h;exact⟨s2,L2,hq,hi,hx.trans hx2,λb h=>(hb2 b h).trans (hb b h)⟩
theorem Sub.refl (s:Am):Sub P G B s s:=λL _ w h=>⟨L,h,Ext.refl L s.H w,λ_ _=>rfl⟩
theorem Sub.trans (h:Sub P G B s s1) (h':Sub P G B s1 s'):Sub P G B s s':=λL a w hi=>by
 obtain⟨L1,h1,x1,b1⟩:=h L a w hi;obtain⟨L2,h2,x2,b2⟩:=h' L1 a w h1;exact⟨L2,h2,x1.trans x2,λb hb=>(b2 b hb).trans (b1 b hb)⟩
theorem Cm.sub {c:Code} (h:Sub P G B s s') (hc:Cm P G B c Q s'):Cm P G B c Q s:=λL a w hi=>by
 obtain⟨L',hi',hx,hb⟩:=h L a w hi;exact wp_mono (hc L' a w hi') λ_ _ _ hp=>B8.later hx hb hp
theorem Cm.post {c:Code} (h:Cm P G B c Q s) (hq:∀e s1,Q e s1->∃s2,Sub P G B s1 s2/\Q' e s2):Cm P G B c Q' s:=λL a w hi=>
 wp_mono (h L a w hi) λe a' w' ⟨s1,L1,q,hi1,hx,hb⟩=>by
  obtain⟨s2,hs,q2⟩:=hq e s1 q;obtain⟨L2,hi2,hx2,hb2⟩:=hs L1 a' w' hi1;exact⟨s2,L2,q2,hi2,hx.trans hx2,λb h=>(hb2 b h).trans (hb b h)⟩
theorem Cm.mono {c:Code} (h:Cm P G B c Q s) (hq:∀e s1,Q e s1->Q' e s1):Cm P G B c Q' s:=
 h.post λe s1 q=>⟨s1,Sub.refl s1,hq e s1 q⟩
def cD (P:Program) (G:AM) (B:Nat) (y:Code) (Q:Exit->Am->Prop):Exit->Am->Prop
 | .normal,s=>Cm P G B y Q s
 | e,s=>Q e s
theorem RA {x y:Code} (h:Cm P G B x (cD P G B y Q) s):Cm P G B (.seq x y) Q s:=λL a w hi=>
 wp_seq (wp_mono (h L a w hi) λe a' w' ⟨s1,L1,q,hi1,hx,hb⟩=>by
  cases e
  case normal=>exact wp_mono (q L1 a' w' hi1) λ_ _ _ hp=>B8.later hx hb hp
  all_goals exact⟨s1,L1,q,hi1,hx,hb⟩)
theorem KF (hi:Interp P G B L s a w) {e:Exit} (q:Q e s):B8 P G B Q L s.H w e a w:=
 ⟨s,L,q,hi,Ext.refl _ _ _,λ_ _=>rfl⟩
theorem cE (h:Q .normal s):Cm P G B .skip Q s:=λ_ _ _ hi=>wp_skip (KF hi h)
theorem cF {l:Nat} (h:Q .normal s):Cm P G B (.label l) Q s:=λ_ _ _ hi=>wp_label (KF hi h)
theorem cG {i:Nat} (h:Q (.exit i) s):Cm P G B (.exit i) Q s:=λ_ _ _ hi=>wp_exit (KF hi h)
theorem cI (h:Q .ret s):Cm P G B .ret Q s:=λ_ _ _ hi=>wp_ret (KF hi h)
theorem cJ {c:Operand} {x y:Code} {t:Bool} (hc:s.ev G c = .t (.v (.bool t))) (h:Cm P G B (if t then x else y) Q s):Cm P G B (.cond c x y) Q s:=λL a w hi=>by
 have:=hi.ev c;rw[hc]at this;simp only[Aq,AA]at this;exact wp_cond this (h L a w hi)
def EV (id:Nat) (Q:Exit->Am->Prop):Exit->Am->Prop
 | .exit id',s=>if id'=id then Q .normal s else Q (.exit id') s
 | e,s=>Q e s
theorem cK {id:Nat} {c:Code} (h:Cm P G B c (EV id Q) s):Cm P G B (.block id c) Q s:=λL a w hi=>
 wp_block (wp_mono (h L a w hi) (by
  intro e a' w' hp;obtain⟨s1,L1,q,hi1,hx,hb⟩:=hp
  cases e with
  | exit i=>
   simp only[EV,Exit.inBlock]at q ⊢;by_cases hid:i=id
   .rw[zu hid]at q ⊢;exact⟨s1,L1,q,hi1,hx,hb⟩
   .rw[zw hid]at q ⊢;exact⟨s1,L1,q,hi1,hx,hb⟩
  | normal=>exact⟨s1,L1,q,hi1,hx,hb⟩
  | goto l=>exact⟨s1,L1,q,hi1,hx,hb⟩
  | ret=>exact⟨s1,L1,q,hi1,hx,hb⟩
  | panic ch=>exact⟨s1,L1,q,hi1,hx,hb⟩
  | outgrown=>exact⟨s1,L1,q,hi1,hx,hb⟩))
theorem RB {c:Code} {R R':Exit->Act->World->Prop} (h:∀e a w,R e a w->R' e a w):∀(n:Nat) (a:Act) (w:World),Code.rounds P c R n a w->Code.rounds P c R' n a w
 | 0,_,_,hr=>hr
 | n+1,a,w,hr=>by
  rw[rounds_succ]at hr ⊢;refine wp_mono hr λe a' w' q=>?_;cases e
  case normal=>exact RB h n a' w' q
  all_goals exact h _ _ _ q
def RC (P:Program) (G:AM) (B:Nat) (Inv:Nat->Am->Prop) (n:Nat) (Q:Exit->Am->Prop):Exit->Am->Prop
 | .normal,s=>∃m,m<n/\∃s2,Sub P G B s s2/\Inv m s2
 | e,s=>Q e s
theorem cL {c:Code} (Inv:Nat->Am->Prop) (n:Nat) (h0:Inv n s)
  (round:∀n s,Inv n s->Cm P G B c (RC P G B Inv n Q) s):Cm P G B (.loop c) Q s:=by
 have key:∀N n s L a w,n<=N->Inv n s->Interp P G B L s a w->Code.rounds P c (B8 P G B Q L s.H w) (N+1) a w:=by
  intro N
  induction N with
  | zero=>
   intro n s L a w hn hinv hi;rw[rounds_succ];refine wp_mono (round n s hinv L a w hi) λe a' w' ⟨s1,L1,q,hi1,hx,hb⟩=>?_;cases e
   case normal=>obtain⟨m,hm,_⟩:=q;omega
   all_goals exact⟨s1,L1,q,hi1,hx,hb⟩
  | succ N ih=>
   intro n s L a w hn hinv hi;rw[rounds_succ];refine wp_mono (round n s hinv L a w hi) λe a' w' ⟨s1,L1,q,hi1,hx,hb⟩=>?_;cases e
   case normal=>
    obtain⟨m,hm,s2,hs,hinv2⟩:=q;obtain⟨L2,hi2,hx2,hb2⟩:=hs L1 a' w' hi1;exact RB (λe a w hp=>B8.later (hx.trans hx2) (λb h=>(hb2 b h).trans (hb b h)) hp) _ _ _ (ih m s2 L2 a' w' (by omega) hinv2 hi2)
   all_goals exact⟨s1,L1,q,hi1,hx,hb⟩
 exact λL a w hi=>wp_loop_rounds (n+1) (key n n s L a w (Nat.le_refl _) h0 hi)
def AOp (P:Program) (G:AM) (B:Nat) (o:Oper) (s:Am) (r:PV) (H':Ak) (nx':Nat):Prop:=
 ∀L a w,Interp P G B L s a w->o.wp P a w (λa' w'=>∃v L',a'=a.put o.dst v/\Aq P L' w' r v/\B1 P G L' H' w'/\L'.nx=nx'/\Bh L w L' w'/\Ext L s.H w L' H' w') (λ_ _ _=>False)
theorem Gm {o:Oper} {K K':Act->World->Prop} {R R':Exit->Act->World->Prop} (h:∀a w,K a w->K' a w) (hr:∀e a w,R e a w->R' e a w)
  (hh:o.wp P a w K R):o.wp P a w K' R':=by
 unfold Oper.wp at *;generalize (execOp a.eval o).run P w=r at *
 cases r with
 | ok n w'=>
  cases n<;>simp only[Oper.upon]at hh ⊢
  case value=>exact h _ _ hh
  case skip=>exact h _ _ hh
  case defer=>exact h _ _ hh
  case enter=>
   refine Calls.mono hh λe w'' he=>?_;cases e
   case returned=>exact h _ _ he
   case panicked=>exact hr _ _ _ he
   case outgrown=>obtain⟨a0,w0,h0⟩:=he;exact⟨a0,w0,hr _ _ _ h0⟩
  case row=>exact Rows.mono hh (λ_ _ he=>h _ _ he)
 | halt x w'=>
  cases x<;>simp only[Oper.upon]at hh ⊢;exact hr _ _ _ hh
def Am.wants (s:Am) (ops:Array Oper) (o:Oper):Option Bool:=
 match o.guard with
 | none=>some true
 | some (j,want)=>
  match (ops[j]?).bind (·.dst)with
  | some d=>match Aj s.env d with
   | some (.t (.v (.bool b)))=>some (b==want)
   | some (.t (.v (.tuple _)))=>some false
   | _=>none
  | none=>some false
theorem Interp.wants (hi:Interp P G B L s a w) {ops:Array Oper} {o:Oper} {b:Bool} (h:s.wants ops o=some b):Region.wanted o (yielded ops a.tmps)=b:=by
 unfold Am.wants at h;unfold Region.wanted
 cases hg:o.guard with
 | none=>simpa[hg]using h
 | some jw=>
  obtain⟨j,want⟩:=jw;simp only[hg]at h ⊢;unfold yielded
  cases hd:(ops[j]?).bind (·.dst)with
  | none=>
   simp only[hd,Xd.injEq]at h;simp[<-h]
  | some d=>
   simp only[hd]at h;simp only[Option.bind_some]
   cases hl:Aj s.env d with
   | none=>simp[hl]at h
   | some p=>
    have hr:=hi.env d p hl
    have key:∀x,a.tmps.getD d undef=x->x≠undef->a.tmps[d]?=some x:=by
     intro x hx hne;rw[Xc]at hx
     cases h2:a.tmps[d]? with
     | none=>rw[h2]at hx;exact absurd hx.symm hne
     | some y=>rw[h2]at hx;simpa using hx
    simp only[hl]at h;split at h
    .rename_i b' e;injection e with e;subst e;simp only[Aq,AA]at hr;rw[key _ hr (by simp[undef])];simpa using h
    .rename_i us e;injection e with e;subst e;simp only[Aq,AA]at hr
     have:b=false:=by simpa using h.symm
     subst this
     cases h2:a.tmps[d]? with
     | none=>simp
     | some y=>
      rw[Xc,h2]at hr;simp only[Option.getD_some]at hr;subst hr;simp
    .cases h
def Gn (P:Program) (G:AM) (B:Nat) (ops:Array Oper) (l:List Oper) (Q:Am->Prop) (s:Am):Prop:=
 ∀L a w,Interp P G B L s a w->wpList P ops (B8 P G B (λe s'=>e = .normal/\Q s') L s.H w) l a w
theorem RD {s:Am} {d:Option Tmp} {p q:PV} {k:Nat} (h:Aj (s.put d p).env k=some q):(d=some k/\q=p)\/(d≠some k/\Aj s.env k=some q):=by
 cases d with
 | none=>exact .inr ⟨by simp,h⟩
 | some d=>
  simp only[Am.put,Aj]at h;by_cases e:d=k
  .rw[zu e]at h;exact .inl ⟨by rw[e],by simpa using h.symm⟩
  .rw[zw e]at h;exact .inr ⟨by simpa using e,h⟩
theorem DV {s:Am} {d:Option Tmp} {p:PV}:(s.put d p).H=s.H:=by cases d<;>rfl
theorem EW {s:Am} {d:Option Tmp} {p:PV}:(s.put d p).nx=s.nx:=by cases d<;>rfl
theorem FM {s:Am} {d:Option Tmp} {p:PV}:(s.put d p).n=s.n:=by cases d<;>rfl
theorem Gp (a:Act) (d:Option Tmp) (v:Value) (k:Nat) :
  (a.put d v).tmps.getD k undef=if d=some k/\k<a.tmps.size then v else a.tmps.getD k undef:=by
 cases d with
 | none=>simp[Act.put]
 | some d=>
  simp only[Act.put,Xc,Xd.injEq];by_cases e:d=k
  .subst e;by_cases hk:d<a.tmps.size
   .simp[hk]
   .simp[hk]
  .simp[e,Array.getElem?_setIfInBounds_ne e]
theorem OD (hi:Interp P G B L s a w) {d:Option Tmp} {v:Value} {r:PV} {H':Ak} {L':Loc} {w':World} (hd:∀k,d=some k->k<s.n)
  (hr:Aq P L' w' r v) (hok:B1 P G L' H' w') (hm:Bh L w L' w') :
  Interp P G B L' (({ s with H:=H',nx:=L'.nx }:Am).put d r) (a.put d v) w' where
 heap:=by rw[DV];exact hok
 nx:=by rw[EW]
 base:=Nat.le_trans hi.base hm.nx
 size:=by rw[FM,<-hi.size];cases d<;>simp[Act.put]
 defers:=by cases d<;>simp[Act.put,hi.defers]
 env:=λk p hl=>by
  rw[Gp];rcases RD hl with⟨e,rfl⟩ | ⟨e,hl'⟩
  .rw[zu ⟨e,by rw[hi.size];exact hd k e⟩];exact hr
  .rw[zw (λh=>e h.1)];exact Aq.keep hm p (hi.env k p hl')
theorem cO {ops:Array Oper} {Q:Am->Prop} (h:Q s):Gn P G B ops [] Q s:=λ_ _ _ hi=>KF hi ⟨rfl,h⟩
theorem RE {ops:Array Oper} {Q:Am->Prop} {o:Oper} {rest:List Oper} {r:PV} {H':Ak} {nx':Nat} (hw:s.wants ops o=some true) (hd:∀k,o.dst=some k->k<s.n)
  (ho:AOp P G B o s r H' nx') (h:Gn P G B ops rest Q (({ s with H:=H',nx:=nx' }:Am).put o.dst r)):Gn P G B ops (o::rest) Q s:=λL a w hi=>by
 unfold wpList;rw[zu (hi.wants hw)];refine .inl (Gm ?_ (λ_ _ _ h=>h.elim) (ho L a w hi));rintro a' w' ⟨v,L',rfl,hr,hok,rfl,hm,hx⟩;have hp:=h L' _ w' (OD hi hd hr hok hm);rw[DV]at hp
 have:∀(l:List Oper) (a:Act) (w2:World),wpList P ops (B8 P G B (λe s'=>e = .normal/\Q s') L' H' w') l a w2->wpList P ops (B8 P G B (λe s'=>e = .normal/\Q s') L s.H w) l a w2:=by
  have hq:∀e a w2,B8 P G B (λe s'=>e = .normal/\Q s') L' H' w' e a w2->B8 P G B (λe s'=>e = .normal/\Q s') L s.H w e a w2:=by
   rintro e a w2 ⟨s2,L2,q,hi2,hx2,hb2⟩;exact⟨s2,L2,q,hi2,hx.trans hx2,λb hb=>(hb2 b hb).trans (hm.μ b (Nat.lt_of_lt_of_le hb hi.base))⟩
  intro l
  induction l with
  | nil=>intro a w2 h;exact hq _ _ _ h
  | cons o l ih=>
   intro a w2 h;unfold wpList at h ⊢;split
   .rename_i hw;rw[zu hw]at h;rcases h with h | ⟨h1,a0,w0,h2⟩
    .exact .inl (Gm ih hq h)
    .exact .inr ⟨h1,a0,w0,hq _ _ _ h2⟩
   .rename_i hw;rw[zw hw]at h;exact ih _ _ h
 exact this _ _ _ hp
theorem cP {ops:Array Oper} {Q:Am->Prop} {o:Oper} {rest:List Oper} (hw:s.wants ops o=some false) (hd:∀k,o.dst=some k->k<s.n)
  (h:Gn P G B ops rest Q (s.put o.dst (.t (.v undef)))):Gn P G B ops (o::rest) Q s:=λL a w hi=>by
 unfold wpList;rw[zw (by rw[hi.wants hw];simp)];have hi':=OD hi (r:=.t (.v undef)) (v:=undef) hd (by simp only[Aq,AA]) hi.heap (Bh.refl L w)
 have e:({ s with H:=s.H,nx:=L.nx }:Am)=s:=by rw[hi.nx]
 rw[e]at hi';have:=h L _ w hi';rw[DV]at this;exact this
theorem OE {id:Nat} {ops:Array Oper} (h:Gn P G B ops ops.toList (Q .normal) s):Cm P G B (.region id ops false) Q s:=λL a w hi=>
 wp_region_list (by
  have:=h L a w hi;revert this;generalize ops.toList=l;intro this
  have hq:∀e a w2,B8 P G B (λe s'=>e = .normal/\Q .normal s') L s.H w e a w2->B8 P G B Q L s.H w e a w2:=by
   rintro e a w2 ⟨s2,L2,⟨rfl,q⟩,hi2,hx2,hb2⟩;exact⟨s2,L2,q,hi2,hx2,hb2⟩
  have key:∀(l:List Oper) (a:Act) (w2:World),wpList P ops (B8 P G B (λe s'=>e = .normal/\Q .normal s') L s.H w) l a w2->wpList P ops (B8 P G B Q L s.H w) l a w2:=by
   intro l
   induction l with
   | nil=>intro a w2 h;exact hq _ _ _ h
   | cons o l ih=>
    intro a w2 h;unfold wpList at h ⊢;split
    .rename_i hw;rw[zu hw]at h;rcases h with h | ⟨h1,a0,w0,h2⟩
     .exact .inl (Gm ih hq h)
     .exact .inr ⟨h1,a0,w0,hq _ _ _ h2⟩
    .rename_i hw;rw[zw hw]at h;exact ih _ _ h
  exact key _ _ _ this)
end
end Go.Abs
