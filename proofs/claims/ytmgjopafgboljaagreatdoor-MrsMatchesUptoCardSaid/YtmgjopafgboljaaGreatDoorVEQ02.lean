/- Auxiliary facts. -/
import Derived.Test.YtmgjopafgboljaaGreatDoorVEQ01
import Derived.Orders
import Derived.Scope
set_option linter.unusedSimpArgs false
set_option linter.unusedVariables false
namespace Go.Abs
open Go
structure A0c where
 env:List (Nat×PV)
 H:Heap
 nx:Nat
 n:Nat
def A0c.put (s:A0c) (d:Option Tmp) (p:PV):A0c:=
 match d with
 | some k=>{ s with env:=(k,p)::s.env }
 | none=>s
def C6i:Value->PV
 | .agg us=>if us.toList.all (·.oneCell')then .t (.ag (us.toList.map .v))else .t (.v (.agg us))
 | x=>.t (.v x)
def A0c.ev (G:A1c) (s:A0c):Operand->PV
 | .tmp t=>(look s.env t).getD .dead
 | .const x=>C6i x
 | .global g=>match look G g with
  | some cs=>.t (.pt cs)
  | none=>.t (.v (.pointer (some ⟨g,0,none⟩)))
 | .func f=>.t (.v (.func (.func f) #[] #[]))
structure Interp (P:Program) (G:A1c) (B:Nat) (L:Loc) (s:A0c) (a:Act) (w:World):Prop where
 heap:A1o P G L s.H w
 nx:L.nx=s.nx
 base:B<=L.nx
 size:a.tmps.size=s.n
 defers:a.defers=[]
 env:∀k p,look s.env k=some p->RepV P L w p (a.tmps.getD k undef)
section
variable {P : Program} {G : A1c} {B : Nat} {L : Loc} {s : A0c} {a : Act} {w : World}
theorem C0b (I:Nat->Prop) (w:World):∀us:List Value,RepL I w (us.map .v) us
 | []=>by simp only[List.map_nil,RepL]
 | u::us=>by simp only[List.map_cons,RepL];exact⟨u,us,rfl,by simp only[RepT],C0b I w us⟩
theorem E4x (x:Value):RepV P L w (C6i x) x:=by
 cases x<;>simp only[C6i,RepV,RepT]
 case agg us=>
  split
  ·rename_i h1;simp only[RepV,RepT];exact⟨us,rfl,List.all_eq_true.1 h1,C0b _ _ _⟩
  ·simp only[RepV,RepT]
theorem Interp.ev (h:Interp P G B L s a w) (x:Operand):RepV P L w (s.ev G x) (a.eval x):=by
 cases x with
 | tmp t=>
  simp only[A0c.ev,Act.eval]
  cases hl:look s.env t with
  | none=>simp only[Option.getD_none,RepV]
  | some p=>exact h.env t p hl
 | const x=>exact E4x x
 | global g=>
  simp only[A0c.ev,Act.eval];split
  ·rename_i cs hl;simp only[RepV,RepT];exact⟨g,0,rfl,(h.heap.glob g cs hl).1,(h.heap.glob g cs hl).2.1⟩
  ·simp only[RepV,RepT]
 | func f=>simp only[A0c.ev,Act.eval,RepV,RepT]
end
def Post (P:Program) (G:A1c) (B:Nat) (Q:Exit->A0c->Prop) (L:Loc) (H:Heap) (w:World):Exit->Act->World->Prop:=
 fun e a' w'=>∃s' L',Q e s'/\Interp P G B L' s' a' w'/\Ext L H w L' s'.H w'/\∀b,b<B->L'.μ b=L.μ b
def A4y (P:Program) (G:A1c) (B:Nat) (c:Code) (Q:Exit->A0c->Prop) (s:A0c):Prop:=
 ∀L a w,Interp P G B L s a w->c.wp P (Post P G B Q L s.H w) a w
def Sub (P:Program) (G:A1c) (B:Nat) (s s':A0c):Prop:=
 ∀L a w,Interp P G B L s a w->∃L',Interp P G B L' s' a w/\Ext L s.H w L' s'.H w/\∀b,b<B->L'.μ b=L.μ b
section
variable {P : Program} {G : A1c} {B : Nat} {Q Q' : Exit -> A0c -> Prop} {s s' s1 : A0c} {L L1 : Loc} {w w1 : World} {a : Act}
theorem Post.later (hx:Ext L s.H w L1 s1.H w1) (hb:∀b,b<B->L1.μ b=L.μ b) {e:Exit} {a':Act} {w':World} (h:Post P G B Q L1 s1.H w1 e a' w') :
  Post P G B Q L s.H w e a' w':=by
 obtain⟨s2,L2,hq,hi,hx2,hb2⟩:=h;exact⟨s2,L2,hq,hi,hx.trans hx2,fun b h=>(hb2 b h).trans (hb b h)⟩
theorem Sub.refl (s:A0c):Sub P G B s s:=fun L _ w h=>⟨L,h,Ext.refl L s.H w,fun _ _=>rfl⟩
theorem Sub.trans (h:Sub P G B s s1) (h':Sub P G B s1 s'):Sub P G B s s':=fun L a w hi=>by
 obtain⟨L1,h1,x1,b1⟩:=h L a w hi;obtain⟨L2,h2,x2,b2⟩:=h' L1 a w h1;exact⟨L2,h2,x1.trans x2,fun b hb=>(b2 b hb).trans (b1 b hb)⟩
theorem A4y.sub {c:Code} (h:Sub P G B s s') (hc:A4y P G B c Q s'):A4y P G B c Q s:=fun L a w hi=>by
 obtain⟨L',hi',hx,hb⟩:=h L a w hi;exact wp_mono (hc L' a w hi') fun _ _ _ hp=>Post.later hx hb hp
theorem A4y.post {c:Code} (h:A4y P G B c Q s) (hq:∀e s1,Q e s1->∃s2,Sub P G B s1 s2/\Q' e s2):A4y P G B c Q' s:=fun L a w hi=>
 wp_mono (h L a w hi) fun e a' w' ⟨s1,L1,q,hi1,hx,hb⟩=>by
  obtain⟨s2,hs,q2⟩:=hq e s1 q;obtain⟨L2,hi2,hx2,hb2⟩:=hs L1 a' w' hi1;exact⟨s2,L2,q2,hi2,hx.trans hx2,fun b h=>(hb2 b h).trans (hb b h)⟩
theorem A4y.mono {c:Code} (h:A4y P G B c Q s) (hq:∀e s1,Q e s1->Q' e s1):A4y P G B c Q' s:=
 h.post fun e s1 q=>⟨s1,Sub.refl s1,hq e s1 q⟩
def Then (P:Program) (G:A1c) (B:Nat) (y:Code) (Q:Exit->A0c->Prop):Exit->A0c->Prop
 | .normal,s=>A4y P G B y Q s
 | e,s=>Q e s
theorem C9i {x y:Code} (h:A4y P G B x (Then P G B y Q) s):A4y P G B (.seq x y) Q s:=fun L a w hi=>
 wp_seq (wp_mono (h L a w hi) fun e a' w' ⟨s1,L1,q,hi1,hx,hb⟩=>by
  cases e
  case normal=>exact wp_mono (q L1 a' w' hi1) fun _ _ _ hp=>Post.later hx hb hp
  all_goals exact⟨s1,L1,q,hi1,hx,hb⟩)
theorem B0t (hi:Interp P G B L s a w) {e:Exit} (q:Q e s):Post P G B Q L s.H w e a w:=
 ⟨s,L,q,hi,Ext.refl _ _ _,fun _ _=>rfl⟩
theorem E1j (h:Q .normal s):A4y P G B .skip Q s:=fun _ _ _ hi=>wp_skip (B0t hi h)
theorem D3w {l:Nat} (h:Q .normal s):A4y P G B (.label l) Q s:=fun _ _ _ hi=>wp_label (B0t hi h)
theorem E1k {i:Nat} (h:Q (.exit i) s):A4y P G B (.exit i) Q s:=fun _ _ _ hi=>wp_exit (B0t hi h)
theorem E4y (h:Q .ret s):A4y P G B .ret Q s:=fun _ _ _ hi=>wp_ret (B0t hi h)
theorem E1l {c:Operand} {x y:Code} {t:Bool} (hc:s.ev G c = .t (.v (.bool t))) (h:A4y P G B (if t then x else y) Q s):A4y P G B (.cond c x y) Q s:=fun L a w hi=>by
 have:=hi.ev c;rw[hc]at this;simp only[RepV,RepT]at this;exact wp_cond this (h L a w hi)
def A5n (id:Nat) (Q:Exit->A0c->Prop):Exit->A0c->Prop
 | .exit id',s=>if id'=id then Q .normal s else Q (.exit id') s
 | e,s=>Q e s
theorem D3x {id:Nat} {c:Code} (h:A4y P G B c (A5n id Q) s):A4y P G B (.block id c) Q s:=fun L a w hi=>
 wp_block (wp_mono (h L a w hi) (by
  intro e a' w' hp;obtain⟨s1,L1,q,hi1,hx,hb⟩:=hp
  cases e with
  | exit i=>
   simp only[A5n,Exit.inBlock]at q ⊢;by_cases hid:i=id
   ·rw[if_pos hid]at q ⊢;exact⟨s1,L1,q,hi1,hx,hb⟩
   ·rw[if_neg hid]at q ⊢;exact⟨s1,L1,q,hi1,hx,hb⟩
  | normal=>exact⟨s1,L1,q,hi1,hx,hb⟩
  | goto l=>exact⟨s1,L1,q,hi1,hx,hb⟩
  | ret=>exact⟨s1,L1,q,hi1,hx,hb⟩
  | panic ch=>exact⟨s1,L1,q,hi1,hx,hb⟩
  | outgrown=>exact⟨s1,L1,q,hi1,hx,hb⟩))
theorem C0c {c:Code} {R R':Exit->Act->World->Prop} (h:∀e a w,R e a w->R' e a w):∀(n:Nat) (a:Act) (w:World),Code.rounds P c R n a w->Code.rounds P c R' n a w
 | 0,_,_,hr=>hr
 | n+1,a,w,hr=>by
  rw[rounds_succ]at hr ⊢;refine wp_mono hr fun e a' w' q=>?_;cases e
  case normal=>exact C0c h n a' w' q
  all_goals exact h _ _ _ q
def F9x (P:Program) (G:A1c) (B:Nat) (Inv:Nat->A0c->Prop) (n:Nat) (Q:Exit->A0c->Prop):Exit->A0c->Prop
 | .normal,s=>∃m,m<n/\∃s2,Sub P G B s s2/\Inv m s2
 | e,s=>Q e s
theorem E1m {c:Code} (Inv:Nat->A0c->Prop) (n:Nat) (h0:Inv n s)
  (round:∀n s,Inv n s->A4y P G B c (F9x P G B Inv n Q) s):A4y P G B (.loop c) Q s:=by
 have key:∀N n s L a w,n<=N->Inv n s->Interp P G B L s a w->Code.rounds P c (Post P G B Q L s.H w) (N+1) a w:=by
  intro N
  induction N with
  | zero=>
   intro n s L a w hn hinv hi;rw[rounds_succ];refine wp_mono (round n s hinv L a w hi) fun e a' w' ⟨s1,L1,q,hi1,hx,hb⟩=>?_;cases e
   case normal=>obtain⟨m,hm,_⟩:=q;omega
   all_goals exact⟨s1,L1,q,hi1,hx,hb⟩
  | succ N ih=>
   intro n s L a w hn hinv hi;rw[rounds_succ];refine wp_mono (round n s hinv L a w hi) fun e a' w' ⟨s1,L1,q,hi1,hx,hb⟩=>?_;cases e
   case normal=>
    obtain⟨m,hm,s2,hs,hinv2⟩:=q;obtain⟨L2,hi2,hx2,hb2⟩:=hs L1 a' w' hi1;exact C0c (fun e a w hp=>Post.later (hx.trans hx2) (fun b h=>(hb2 b h).trans (hb b h)) hp) _ _ _ (ih m s2 L2 a' w' (by omega) hinv2 hi2)
   all_goals exact⟨s1,L1,q,hi1,hx,hb⟩
 exact fun L a w hi=>wp_loop_rounds (n+1) (key n n s L a w (Nat.le_refl _) h0 hi)
def AOp (P:Program) (G:A1c) (B:Nat) (o:Oper) (s:A0c) (r:PV) (H':Heap) (nx':Nat):Prop:=
 ∀L a w,Interp P G B L s a w->o.wp P a w (fun a' w'=>∃v L',a'=a.put o.dst v/\RepV P L' w' r v/\A1o P G L' H' w'/\L'.nx=nx'/\Mono L w L' w'/\Ext L s.H w L' H' w') (fun _ _ _=>False)
theorem A2j {o:Oper} {K K':Act->World->Prop} {R R':Exit->Act->World->Prop} (h:∀a w,K a w->K' a w) (hr:∀e a w,R e a w->R' e a w)
  (hh:o.wp P a w K R):o.wp P a w K' R':=by
 unfold Oper.wp at *;generalize (execOp a.eval o).run P w=r at *
 cases r with
 | ok n w'=>
  cases n<;>simp only[Oper.upon]at hh ⊢
  case value=>exact h _ _ hh
  case skip=>exact h _ _ hh
  case defer=>exact h _ _ hh
  case enter=>
   refine Calls.mono hh fun e w'' he=>?_;cases e
   case returned=>exact h _ _ he
   case panicked=>exact hr _ _ _ he
   case outgrown=>obtain⟨a0,w0,h0⟩:=he;exact⟨a0,w0,hr _ _ _ h0⟩
  case row=>exact Rows.mono hh (fun _ _ he=>h _ _ he)
 | halt x w'=>
  cases x<;>simp only[Oper.upon]at hh ⊢;exact hr _ _ _ hh
def A0c.wants (s:A0c) (ops:Array Oper) (o:Oper):Option Bool:=
 match o.guard with
 | none=>some true
 | some (j,want)=>
  match (ops[j]?).bind (·.dst)with
  | some d=>match look s.env d with
   | some (.t (.v (.bool b)))=>some (b==want)
   | some (.t (.v (.tuple _)))=>some false
   | _=>none
  | none=>some false
theorem Interp.wants (hi:Interp P G B L s a w) {ops:Array Oper} {o:Oper} {b:Bool} (h:s.wants ops o=some b):Region.wanted o (yielded ops a.tmps)=b:=by
 unfold A0c.wants at h;unfold Region.wanted
 cases hg:o.guard with
 | none=>simpa[hg]using h
 | some jw=>
  obtain⟨j,want⟩:=jw;simp only[hg]at h ⊢;unfold yielded
  cases hd:(ops[j]?).bind (·.dst)with
  | none=>
   simp only[hd,Option.some.injEq]at h;simp[<-h]
  | some d=>
   simp only[hd]at h;simp only[Option.bind_some]
   cases hl:look s.env d with
   | none=>simp[hl]at h
   | some p=>
    have hr:=hi.env d p hl
    have key:∀x,a.tmps.getD d undef=x->x≠undef->a.tmps[d]?=some x:=by
     intro x hx hne;rw[Array.getD_eq_getD_getElem?]at hx
     cases h2:a.tmps[d]? with
     | none=>rw[h2]at hx;exact absurd hx.symm hne
     | some y=>rw[h2]at hx;simpa using hx
    simp only[hl]at h;split at h
    ·rename_i b' e;injection e with e;subst e;simp only[RepV,RepT]at hr;rw[key _ hr (by simp[undef])];simpa using h
    ·rename_i us e;injection e with e;subst e;simp only[RepV,RepT]at hr
     have:b=false:=by simpa using h.symm
     subst this
     cases h2:a.tmps[d]? with
     | none=>simp
     | some y=>
      rw[Array.getD_eq_getD_getElem?,h2]at hr;simp only[Option.getD_some]at hr;subst hr;simp
    ·cases h
def AOps (P:Program) (G:A1c) (B:Nat) (ops:Array Oper) (l:List Oper) (Q:A0c->Prop) (s:A0c):Prop:=
 ∀L a w,Interp P G B L s a w->wpList P ops (Post P G B (fun e s'=>e = .normal/\Q s') L s.H w) l a w
theorem D7e {s:A0c} {d:Option Tmp} {p q:PV} {k:Nat} (h:look (s.put d p).env k=some q):(d=some k/\q=p)\/(d≠some k/\look s.env k=some q):=by
 cases d with
 | none=>exact .inr ⟨by simp,h⟩
 | some d=>
  simp only[A0c.put,look]at h;by_cases e:d=k
  ·rw[if_pos e]at h;exact .inl ⟨by rw[e],by simpa using h.symm⟩
  ·rw[if_neg e]at h;exact .inr ⟨by simpa using e,h⟩
theorem B0u {s:A0c} {d:Option Tmp} {p:PV}:(s.put d p).H=s.H:=by cases d<;>rfl
theorem A8p {s:A0c} {d:Option Tmp} {p:PV}:(s.put d p).nx=s.nx:=by cases d<;>rfl
theorem C0d {s:A0c} {d:Option Tmp} {p:PV}:(s.put d p).n=s.n:=by cases d<;>rfl
theorem A5x (a:Act) (d:Option Tmp) (v:Value) (k:Nat) :
  (a.put d v).tmps.getD k undef=if d=some k/\k<a.tmps.size then v else a.tmps.getD k undef:=by
 cases d with
 | none=>simp[Act.put]
 | some d=>
  simp only[Act.put,Array.getD_eq_getD_getElem?,Option.some.injEq];by_cases e:d=k
  ·subst e;by_cases hk:d<a.tmps.size
   ·simp[hk]
   ·simp[hk]
  ·simp[e,Array.getElem?_setIfInBounds_ne e]
theorem B6m (hi:Interp P G B L s a w) {d:Option Tmp} {v:Value} {r:PV} {H':Heap} {L':Loc} {w':World} (hd:∀k,d=some k->k<s.n)
  (hr:RepV P L' w' r v) (hok:A1o P G L' H' w') (hm:Mono L w L' w') :
  Interp P G B L' (({ s with H:=H',nx:=L'.nx }:A0c).put d r) (a.put d v) w' where
 heap:=by rw[B0u];exact hok
 nx:=by rw[A8p]
 base:=Nat.le_trans hi.base hm.nx
 size:=by rw[C0d,<-hi.size];cases d<;>simp[Act.put]
 defers:=by cases d<;>simp[Act.put,hi.defers]
 env:=fun k p hl=>by
  rw[A5x];rcases D7e hl with⟨e,rfl⟩ | ⟨e,hl'⟩
  ·rw[if_pos ⟨e,by rw[hi.size];exact hd k e⟩];exact hr
  ·rw[if_neg (fun h=>e h.1)];exact RepV.keep hm p (hi.env k p hl')
theorem F1n {ops:Array Oper} {Q:A0c->Prop} (h:Q s):AOps P G B ops [] Q s:=fun _ _ _ hi=>B0t hi ⟨rfl,h⟩
theorem C9j {ops:Array Oper} {Q:A0c->Prop} {o:Oper} {rest:List Oper} {r:PV} {H':Heap} {nx':Nat} (hw:s.wants ops o=some true) (hd:∀k,o.dst=some k->k<s.n)
  (ho:AOp P G B o s r H' nx') (h:AOps P G B ops rest Q (({ s with H:=H',nx:=nx' }:A0c).put o.dst r)):AOps P G B ops (o::rest) Q s:=fun L a w hi=>by
 unfold wpList;rw[if_pos (hi.wants hw)];refine .inl (A2j ?_ (fun _ _ _ h=>h.elim) (ho L a w hi));rintro a' w' ⟨v,L',rfl,hr,hok,rfl,hm,hx⟩;have hp:=h L' _ w' (B6m hi hd hr hok hm);rw[B0u]at hp
 have:∀(l:List Oper) (a:Act) (w2:World),wpList P ops (Post P G B (fun e s'=>e = .normal/\Q s') L' H' w') l a w2->wpList P ops (Post P G B (fun e s'=>e = .normal/\Q s') L s.H w) l a w2:=by
  have hq:∀e a w2,Post P G B (fun e s'=>e = .normal/\Q s') L' H' w' e a w2->Post P G B (fun e s'=>e = .normal/\Q s') L s.H w e a w2:=by
   rintro e a w2 ⟨s2,L2,q,hi2,hx2,hb2⟩;exact⟨s2,L2,q,hi2,hx.trans hx2,fun b hb=>(hb2 b hb).trans (hm.μ b (Nat.lt_of_lt_of_le hb hi.base))⟩
  intro l
  induction l with
  | nil=>intro a w2 h;exact hq _ _ _ h
  | cons o l ih=>
   intro a w2 h;unfold wpList at h ⊢;split
   ·rename_i hw;rw[if_pos hw]at h;rcases h with h | ⟨h1,a0,w0,h2⟩
    ·exact .inl (A2j ih hq h)
    ·exact .inr ⟨h1,a0,w0,hq _ _ _ h2⟩
   ·rename_i hw;rw[if_neg hw]at h;exact ih _ _ h
 exact this _ _ _ hp
theorem E4z {ops:Array Oper} {Q:A0c->Prop} {o:Oper} {rest:List Oper} (hw:s.wants ops o=some false) (hd:∀k,o.dst=some k->k<s.n)
  (h:AOps P G B ops rest Q (s.put o.dst (.t (.v undef)))):AOps P G B ops (o::rest) Q s:=fun L a w hi=>by
 unfold wpList;rw[if_neg (by rw[hi.wants hw];simp)];have hi':=B6m hi (r:=.t (.v undef)) (v:=undef) hd (by simp only[RepV,RepT]) hi.heap (Mono.refl L w)
 have e:({ s with H:=s.H,nx:=L.nx }:A0c)=s:=by rw[hi.nx]
 rw[e]at hi';have:=h L _ w hi';rw[B0u]at this;exact this
theorem B0v {id:Nat} {ops:Array Oper} (h:AOps P G B ops ops.toList (Q .normal) s):A4y P G B (.region id ops false) Q s:=fun L a w hi=>
 wp_region_list (by
  have:=h L a w hi;revert this;generalize ops.toList=l;intro this
  have hq:∀e a w2,Post P G B (fun e s'=>e = .normal/\Q .normal s') L s.H w e a w2->Post P G B Q L s.H w e a w2:=by
   rintro e a w2 ⟨s2,L2,⟨rfl,q⟩,hi2,hx2,hb2⟩;exact⟨s2,L2,q,hi2,hx2,hb2⟩
  have key:∀(l:List Oper) (a:Act) (w2:World),wpList P ops (Post P G B (fun e s'=>e = .normal/\Q .normal s') L s.H w) l a w2->wpList P ops (Post P G B Q L s.H w) l a w2:=by
   intro l
   induction l with
   | nil=>intro a w2 h;exact hq _ _ _ h
   | cons o l ih=>
    intro a w2 h;unfold wpList at h ⊢;split
    ·rename_i hw;rw[if_pos hw]at h;rcases h with h | ⟨h1,a0,w0,h2⟩
     ·exact .inl (A2j ih hq h)
     ·exact .inr ⟨h1,a0,w0,hq _ _ _ h2⟩
    ·rename_i hw;rw[if_neg hw]at h;exact ih _ _ h
  exact key _ _ _ this)
end
end Go.Abs
