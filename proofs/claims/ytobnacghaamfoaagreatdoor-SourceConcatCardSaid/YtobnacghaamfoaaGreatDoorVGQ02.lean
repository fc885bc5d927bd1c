/- Auxiliary facts. -/
import Derived.Test.YtobnacghaamfoaaGreatDoorVGQ01
import Derived.Orders
import Derived.Scope
set_option linter.unusedSimpArgs false
set_option linter.unusedVariables false
open Array renaming getD_eq_getD_getElem?->Xa
open Option renaming some->Xb
namespace Go.Abs
open Go
structure Ad where
 env:List (Nat×PV)
 H:Ab
 nx:Nat
 n:Nat
def Ad.put (s:Ad) (d:Option Tmp) (p:PV):Ad:=
 match d with
 | some k=>{ s with env:=(k,p)::s.env }
 | none=>s
def PD:Value->PV
 | .agg us=>if us.toList.all (·.oneCell')then .t (.ag (us.toList.map .v))else .t (.v (.agg us))
 | x=>.t (.v x)
def Ad.ev (G:A2) (s:Ad):Operand->PV
 | .tmp t=>(Aa s.env t).getD .dead
 | .const x=>PD x
 | .global g=>match Aa G g with
  | some cs=>.t (.pt cs)
  | none=>.t (.v (.pointer (some ⟨g,0,none⟩)))
 | .func f=>.t (.v (.func (.func f) #[] #[]))
structure Interp (P:Program) (G:A2) (B:Nat) (L:Loc) (s:Ad) (a:Act) (w:World):Prop where
 heap:BA P G L s.H w
 nx:L.nx=s.nx
 base:B<=L.nx
 size:a.tmps.size=s.n
 defers:a.defers=[]
 env:∀k p,Aa s.env k=some p->Af P L w p (a.tmps.getD k undef)
section
variable {P : Program} {G : A2} {B : Nat} {L : Loc} {s : Ad} {a : Act} {w : World}
theorem RZ (I:Nat->Prop) (w:World):∀us:List Value,Bf I w (us.map .v) us
 | []=>by simp only[List.map_nil,Bf]
 | u::us=>by simp only[List.map_cons,Bf];exact⟨u,us,rfl,by simp only[Ao],RZ I w us⟩
theorem nN (x:Value):Af P L w (PD x) x:=by
 cases x<;>simp only[PD,Af,Ao]
 case agg us=>
  split
  .rename_i h1;simp only[Af,Ao];exact⟨us,rfl,List.all_eq_true.1 h1,RZ _ _ _⟩
  .simp only[Af,Ao]
theorem Interp.ev (h:Interp P G B L s a w) (x:Operand):Af P L w (s.ev G x) (a.eval x):=by
 cases x with
 | tmp t=>
  simp only[Ad.ev,Act.eval]
  cases hl:Aa s.env t with
  | none=>simp only[Option.getD_none,Af]
  | some p=>exact h.env t p hl
 | const x=>exact nN x
 | global g=>
  simp only[Ad.ev,Act.eval];split
  .rename_i cs hl;simp only[Af,Ao];exact⟨g,0,rfl,(h.heap.glob g cs hl).1,(h.heap.glob g cs hl).2.1⟩
  .simp only[Af,Ao]
 | func f=>simp only[Ad.ev,Act.eval,Af,Ao]
end
def BT (P:Program) (G:A2) (B:Nat) (Q:Exit->Ad->Prop) (L:Loc) (H:Ab) (w:World):Exit->Act->World->Prop:=
 λe a' w'=>∃s' L',Q e s'/\Interp P G B L' s' a' w'/\Ext L H w L' s'.H w'/\∀b,b<B->L'.μ b=L.μ b
def Cq (P:Program) (G:A2) (B:Nat) (c:Code) (Q:Exit->Ad->Prop) (s:Ad):Prop:=
 ∀L a w,Interp P G B L s a w->c.wp P (BT P G B Q L s.H w) a w
def Sub (P:Program) (G:A2) (B:Nat) (s s':Ad):Prop:=
 ∀L a w,Interp P G B L s a w->∃L',Interp P G B L' s' a w/\Ext L s.H w L' s'.H w/\∀b,b<B->L'.μ b=L.μ b
section
variable {P : Program} {G : A2} {B : Nat} {Q Q' : Exit -> Ad -> Prop} {s s' s1 : Ad} {L L1 : Loc} {w w1 : World} {a : Act}
theorem BT.later (hx:Ext L s.H w L1 s1.H w1) (hb:∀b,b<B->L1.μ b=L.μ b) {e:Exit} {a':Act} {w':World} (h:BT P G B Q L1 s1.H w1 e a' w') :
  BT P G B Q L s.H w e a' w':=by
 obtain⟨s2,L2,hq,hi,hx2,hb2⟩:=h;exact⟨s2,L2,hq,hi,hx.trans hx2,λb h=>(hb2 b h).trans (hb b h)⟩
theorem Sub.refl (s:Ad):Sub P G B s s:=λL _ w h=>⟨L,h,Ext.refl L s.H w,λ_ _=>rfl⟩
theorem Sub.trans (h:Sub P G B s s1) (h':Sub P G B s1 s'):Sub P G B s s':=λL a w hi=>by
 obtain⟨L1,h1,x1,b1⟩:=h L a w hi;obtain⟨L2,h2,x2,b2⟩:=h' L1 a w h1;exact⟨L2,h2,x1.trans x2,λb hb=>(b2 b hb).trans (b1 b hb)⟩
theorem Cq.sub {c:Code} (h:Sub P G B s s') (hc:Cq P G B c Q s'):Cq P G B c Q s:=λL a w hi=>by
 obtain⟨L',hi',hx,hb⟩:=h L a w hi;exact wp_mono (hc L' a w hi') λ_ _ _ hp=>BT.later hx hb hp
theorem Cq.post {c:Code} (h:Cq P G B c Q s) (hq:∀e s1,Q e s1->∃s2,Sub P G B s1 s2/\Q' e s2):Cq P G B c Q' s:=λL a w hi=>
 wp_mono (h L a w hi) λe a' w' ⟨s1,L1,q,hi1,hx,hb⟩=>by
  obtain⟨s2,hs,q2⟩:=hq e s1 q;obtain⟨L2,hi2,hx2,hb2⟩:=hs L1 a' w' hi1;exact⟨s2,L2,q2,hi2,hx.trans hx2,λb h=>(hb2 b h).trans (hb b h)⟩
theorem Cq.mono {c:Code} (h:Cq P G B c Q s) (hq:∀e s1,Q e s1->Q' e s1):Cq P G B c Q' s:=
 h.post λe s1 q=>⟨s1,Sub.refl s1,hq e s1 q⟩
def nO (P:Program) (G:A2) (B:Nat) (y:Code) (Q:Exit->Ad->Prop):Exit->Ad->Prop
 | .normal,s=>Cq P G B y Q s
 | e,s=>Q e s
theorem PE {x y:Code} (h:Cq P G B x (nO P G B y Q) s):Cq P G B (.seq x y) Q s:=λL a w hi=>
 wp_seq (wp_mono (h L a w hi) λe a' w' ⟨s1,L1,q,hi1,hx,hb⟩=>by
  cases e
  case normal=>exact wp_mono (q L1 a' w' hi1) λ_ _ _ hp=>BT.later hx hb hp
  all_goals exact⟨s1,L1,q,hi1,hx,hb⟩)
theorem Mg (hi:Interp P G B L s a w) {e:Exit} (q:Q e s):BT P G B Q L s.H w e a w:=
 ⟨s,L,q,hi,Ext.refl _ _ _,λ_ _=>rfl⟩
theorem Vv (h:Q .normal s):Cq P G B .skip Q s:=λ_ _ _ hi=>wp_skip (Mg hi h)
theorem Vw {l:Nat} (h:Q .normal s):Cq P G B (.label l) Q s:=λ_ _ _ hi=>wp_label (Mg hi h)
theorem Vx {i:Nat} (h:Q (.exit i) s):Cq P G B (.exit i) Q s:=λ_ _ _ hi=>wp_exit (Mg hi h)
theorem Vy (h:Q .ret s):Cq P G B .ret Q s:=λ_ _ _ hi=>wp_ret (Mg hi h)
theorem nP {c:Operand} {x y:Code} {t:Bool} (hc:s.ev G c = .t (.v (.bool t))) (h:Cq P G B (if t then x else y) Q s):Cq P G B (.cond c x y) Q s:=λL a w hi=>by
 have:=hi.ev c;rw[hc]at this;simp only[Af,Ao]at this;exact wp_cond this (h L a w hi)
def FX (id:Nat) (Q:Exit->Ad->Prop):Exit->Ad->Prop
 | .exit id',s=>if id'=id then Q .normal s else Q (.exit id') s
 | e,s=>Q e s
theorem nQ {id:Nat} {c:Code} (h:Cq P G B c (FX id Q) s):Cq P G B (.block id c) Q s:=λL a w hi=>
 wp_block (wp_mono (h L a w hi) (by
  intro e a' w' hp;obtain⟨s1,L1,q,hi1,hx,hb⟩:=hp
  cases e with
  | exit i=>
   simp only[FX,Exit.inBlock]at q ⊢;by_cases hid:i=id
   .rw[zy hid]at q ⊢;exact⟨s1,L1,q,hi1,hx,hb⟩
   .rw[zz hid]at q ⊢;exact⟨s1,L1,q,hi1,hx,hb⟩
  | normal=>exact⟨s1,L1,q,hi1,hx,hb⟩
  | goto l=>exact⟨s1,L1,q,hi1,hx,hb⟩
  | ret=>exact⟨s1,L1,q,hi1,hx,hb⟩
  | panic ch=>exact⟨s1,L1,q,hi1,hx,hb⟩
  | outgrown=>exact⟨s1,L1,q,hi1,hx,hb⟩))
theorem Vz {c:Code} {R R':Exit->Act->World->Prop} (h:∀e a w,R e a w->R' e a w):∀(n:Nat) (a:Act) (w:World),Code.rounds P c R n a w->Code.rounds P c R' n a w
 | 0,_,_,hr=>hr
 | n+1,a,w,hr=>by
  rw[rounds_succ]at hr ⊢;refine wp_mono hr λe a' w' q=>?_;cases e
  case normal=>exact Vz h n a' w' q
  all_goals exact h _ _ _ q
def V0 (P:Program) (G:A2) (B:Nat) (Inv:Nat->Ad->Prop) (n:Nat) (Q:Exit->Ad->Prop):Exit->Ad->Prop
 | .normal,s=>∃m,m<n/\∃s2,Sub P G B s s2/\Inv m s2
 | e,s=>Q e s
theorem nR {c:Code} (Inv:Nat->Ad->Prop) (n:Nat) (h0:Inv n s)
  (round:∀n s,Inv n s->Cq P G B c (V0 P G B Inv n Q) s):Cq P G B (.loop c) Q s:=by
 have key:∀N n s L a w,n<=N->Inv n s->Interp P G B L s a w->Code.rounds P c (BT P G B Q L s.H w) (N+1) a w:=by
  intro N
  induction N with
  | zero=>
   intro n s L a w hn hinv hi;rw[rounds_succ];refine wp_mono (round n s hinv L a w hi) λe a' w' ⟨s1,L1,q,hi1,hx,hb⟩=>?_;cases e
   case normal=>obtain⟨m,hm,_⟩:=q;omega
   all_goals exact⟨s1,L1,q,hi1,hx,hb⟩
  | succ N ih=>
   intro n s L a w hn hinv hi;rw[rounds_succ];refine wp_mono (round n s hinv L a w hi) λe a' w' ⟨s1,L1,q,hi1,hx,hb⟩=>?_;cases e
   case normal=>
    obtain⟨m,hm,s2,hs,hinv2⟩:=q;obtain⟨L2,hi2,hx2,hb2⟩:=hs L1 a' w' hi1;exact Vz (λe a w hp=>BT.later (hx.trans hx2) (λb h=>(hb2 b h).trans (hb b h)) hp) _ _ _ (ih m s2 L2 a' w' (by omega) hinv2 hi2)
   all_goals exact⟨s1,L1,q,hi1,hx,hb⟩
 exact λL a w hi=>wp_loop_rounds (n+1) (key n n s L a w (Nat.le_refl _) h0 hi)
def AOp (P:Program) (G:A2) (B:Nat) (o:Oper) (s:Ad) (r:PV) (H':Ab) (nx':Nat):Prop:=
 ∀L a w,Interp P G B L s a w->o.wp P a w (λa' w'=>∃v L',a'=a.put o.dst v/\Af P L' w' r v/\BA P G L' H' w'/\L'.nx=nx'/\Bh L w L' w'/\Ext L s.H w L' H' w') (λ_ _ _=>False)
theorem FY {o:Oper} {K K':Act->World->Prop} {R R':Exit->Act->World->Prop} (h:∀a w,K a w->K' a w) (hr:∀e a w,R e a w->R' e a w)
  (hh:o.wp P a w K R):o.wp P a w K' R':=by
 unfold Oper.wp at *;generalize (execOp a.eval o).run P w=r at *
 cases r with
 | ok n w'=>
  cases n<;>simp only[Oper.upon]at hh ⊢
  case value=>exact h _ _ hh
  case skip=>exact h _ _ hh
  case defer=>exact h _ _ hh
  case enter=>
   refine Calls.mono hh λe w'' he=>?_;cases e
   case returned=>exact h _ _ he
   case panicked=>exact hr _ _ _ he
   case outgrown=>obtain⟨a0,w0,h0⟩:=he;exact⟨a0,w0,hr _ _ _ h0⟩
  case row=>exact Rows.mono hh (λ_ _ he=>h _ _ he)
 | halt x w'=>
  cases x<;>simp only[Oper.upon]at hh ⊢;exact hr _ _ _ hh
def Ad.wants (s:Ad) (ops:Array Oper) (o:Oper):Option Bool:=
 match o.guard with
 | none=>some true
 | some (j,want)=>
  match (ops[j]?).bind (·.dst)with
  | some d=>match Aa s.env d with
   | some (.t (.v (.bool b)))=>some (b==want)
   | some (.t (.v (.tuple _)))=>some false
   | _=>none
  | none=>some false
theorem Interp.wants (hi:Interp P G B L s a w) {ops:Array Oper} {o:Oper} {b:Bool} (h:s.wants ops o=some b):Region.wanted o (yielded ops a.tmps)=b:=by
 unfold Ad.wants at h;unfold Region.wanted
 cases hg:o.guard with
 | none=>simpa[hg]using h
 | some jw=>
  obtain⟨j,want⟩:=jw;simp only[hg]at h ⊢;unfold yielded
  cases hd:(ops[j]?).bind (·.dst)with
  | none=>
   simp only[hd,Xb.injEq]at h;simp[<-h]
  | some d=>
   simp only[hd]at h;simp only[Option.bind_some]
   cases hl:Aa s.env d with
   | none=>simp[hl]at h
   | some p=>
    have hr:=hi.env d p hl
    have key:∀x,a.tmps.getD d undef=x->x≠undef->a.tmps[d]?=some x:=by
     intro x hx hne;rw[Xa]at hx
     cases h2:a.tmps[d]? with
     | none=>rw[h2]at hx;exact absurd hx.symm hne
     | some y=>rw[h2]at hx;simpa using hx
    simp only[hl]at h;split at h
    .rename_i b' e;injection e with e;subst e;simp only[Af,Ao]at hr;rw[key _ hr (by simp[undef])];simpa using h
    .rename_i us e;injection e with e;subst e;simp only[Af,Ao]at hr
     have:b=false:=by simpa using h.symm
     subst this
     cases h2:a.tmps[d]? with
     | none=>simp
     | some y=>
      rw[Xa,h2]at hr;simp only[Option.getD_some]at hr;subst hr;simp
    .cases h
def KO (P:Program) (G:A2) (B:Nat) (ops:Array Oper) (l:List Oper) (Q:Ad->Prop) (s:Ad):Prop:=
 ∀L a w,Interp P G B L s a w->wpList P ops (BT P G B (λe s'=>e = .normal/\Q s') L s.H w) l a w
theorem Sa {s:Ad} {d:Option Tmp} {p q:PV} {k:Nat} (h:Aa (s.put d p).env k=some q):(d=some k/\q=p)\/(d≠some k/\Aa s.env k=some q):=by
 cases d with
 | none=>exact .inr ⟨by simp,h⟩
 | some d=>
  simp only[Ad.put,Aa]at h;by_cases e:d=k
  .rw[zy e]at h;exact .inl ⟨by rw[e],by simpa using h.symm⟩
  .rw[zz e]at h;exact .inr ⟨by simpa using e,h⟩
theorem EA {s:Ad} {d:Option Tmp} {p:PV}:(s.put d p).H=s.H:=by cases d<;>rfl
theorem Gn {s:Ad} {d:Option Tmp} {p:PV}:(s.put d p).nx=s.nx:=by cases d<;>rfl
theorem FZ {s:Ad} {d:Option Tmp} {p:PV}:(s.put d p).n=s.n:=by cases d<;>rfl
theorem Iq (a:Act) (d:Option Tmp) (v:Value) (k:Nat) :
  (a.put d v).tmps.getD k undef=if d=some k/\k<a.tmps.size then v else a.tmps.getD k undef:=by
 cases d with
 | none=>simp[Act.put]
 | some d=>
  simp only[Act.put,Xa,Xb.injEq];by_cases e:d=k
  .subst e;by_cases hk:d<a.tmps.size
   .simp[hk]
   .simp[hk]
  .simp[e,Array.getElem?_setIfInBounds_ne e]
theorem N5 (hi:Interp P G B L s a w) {d:Option Tmp} {v:Value} {r:PV} {H':Ab} {L':Loc} {w':World} (hd:∀k,d=some k->k<s.n)
  (hr:Af P L' w' r v) (hok:BA P G L' H' w') (hm:Bh L w L' w') :
  Interp P G B L' (({ s with H:=H',nx:=L'.nx }:Ad).put d r) (a.put d v) w' where
 heap:=by rw[EA];exact hok
 nx:=by rw[Gn]
 base:=Nat.le_trans hi.base hm.nx
 size:=by rw[FZ,<-hi.size];cases d<;>simp[Act.put]
 defers:=by cases d<;>simp[Act.put,hi.defers]
 env:=λk p hl=>by
  rw[Iq];rcases Sa hl with⟨e,rfl⟩ | ⟨e,hl'⟩
  .rw[zy ⟨e,by rw[hi.size];exact hd k e⟩];exact hr
  .rw[zz (λh=>e h.1)];exact Af.keep hm p (hi.env k p hl')
theorem nS {ops:Array Oper} {Q:Ad->Prop} (h:Q s):KO P G B ops [] Q s:=λ_ _ _ hi=>Mg hi ⟨rfl,h⟩
theorem nT {ops:Array Oper} {Q:Ad->Prop} {o:Oper} {AU:List Oper} {r:PV} {H':Ab} {nx':Nat} (hw:s.wants ops o=some true) (hd:∀k,o.dst=some k->k<s.n)
  (ho:AOp P G B o s r H' nx') (h:KO P G B ops AU Q (({ s with H:=H',nx:=nx' }:Ad).put o.dst r)):KO P G B ops (o::AU) Q s:=λL a w hi=>by
 unfold wpList;rw[zy (hi.wants hw)];refine .inl (FY ?_ (λ_ _ _ h=>h.elim) (ho L a w hi));rintro a' w' ⟨v,L',rfl,hr,hok,rfl,hm,hx⟩;have hp:=h L' _ w' (N5 hi hd hr hok hm);rw[EA]at hp
 have:∀(l:List Oper) (a:Act) (w2:World),wpList P ops (BT P G B (λe s'=>e = .normal/\Q s') L' H' w') l a w2->wpList P ops (BT P G B (λe s'=>e = .normal/\Q s') L s.H w) l a w2:=by
  have hq:∀e a w2,BT P G B (λe s'=>e = .normal/\Q s') L' H' w' e a w2->BT P G B (λe s'=>e = .normal/\Q s') L s.H w e a w2:=by
   rintro e a w2 ⟨s2,L2,q,hi2,hx2,hb2⟩;exact⟨s2,L2,q,hi2,hx.trans hx2,λb hb=>(hb2 b hb).trans (hm.μ b (Nat.lt_of_lt_of_le hb hi.base))⟩
  intro l
  induction l with
  | nil=>intro a w2 h;exact hq _ _ _ h
  | cons o l ih=>
   intro a w2 h;unfold wpList at h ⊢;split
   .rename_i hw;rw[zy hw]at h;rcases h with h | ⟨h1,a0,w0,h2⟩
    .exact .inl (FY ih hq h)
    .exact .inr ⟨h1,a0,w0,hq _ _ _ h2⟩
   .rename_i hw;rw[zz hw]at h;exact ih _ _ h
 exact this _ _ _ hp
theorem nU {ops:Array Oper} {Q:Ad->Prop} {o:Oper} {AU:List Oper} (hw:s.wants ops o=some false) (hd:∀k,o.dst=some k->k<s.n)
  (h:KO P G B ops AU Q (s.put o.dst (.t (.v undef)))):KO P G B ops (o::AU) Q s:=λL a w hi=>by
 unfold wpList;rw[zz (by rw[hi.wants hw];simp)];have hi':=N5 hi (r:=.t (.v undef)) (v:=undef) hd (by simp only[Af,Ao]) hi.heap (Bh.refl L w)
 have e:({ s with H:=s.H,nx:=L.nx }:Ad)=s:=by rw[hi.nx]
 rw[e]at hi';have:=h L _ w hi';rw[EA]at this;exact this
theorem nV {id:Nat} {ops:Array Oper} (h:KO P G B ops ops.toList (Q .normal) s):Cq P G B (.region id ops false) Q s:=λL a w hi=>
 wp_region_list (by
  have:=h L a w hi;revert this;generalize ops.toList=l;intro this
  have hq:∀e a w2,BT P G B (λe s'=>e = .normal/\Q .normal s') L s.H w e a w2->BT P G B Q L s.H w e a w2:=by
   rintro e a w2 ⟨s2,L2,⟨rfl,q⟩,hi2,hx2,hb2⟩;exact⟨s2,L2,q,hi2,hx2,hb2⟩
  have key:∀(l:List Oper) (a:Act) (w2:World),wpList P ops (BT P G B (λe s'=>e = .normal/\Q .normal s') L s.H w) l a w2->wpList P ops (BT P G B Q L s.H w) l a w2:=by
   intro l
   induction l with
   | nil=>intro a w2 h;exact hq _ _ _ h
   | cons o l ih=>
    intro a w2 h;unfold wpList at h ⊢;split
    .rename_i hw;rw[zy hw]at h;rcases h with h | ⟨h1,a0,w0,h2⟩
     .exact .inl (FY ih hq h)
     .exact .inr ⟨h1,a0,w0,hq _ _ _ h2⟩
    .rename_i hw;rw[zz hw]at h;exact ih _ _ h
  exact key _ _ _ this)
end
end Go.Abs
