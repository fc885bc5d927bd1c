/-
 Auxiliary facts. No statement of the program stands here.
-/
import Derived.Test.YtmplckgbeaifkaaGreatDoorVBQ28
namespace Go.Abs
set_option linter.unusedSimpArgs false
set_option linter.unusedVariables false
open Go
section
variable {P : Program} {G : A0u} {B N : Nat} {Φ : A0v} {E : Pans} {ops : Array Oper} {l : List Mini} {π : List Nat} {pa : Nat} {R : List (Nat × Nat)}
structure F7m (Φ:A0v) (ms:List Mini) (R:List (Nat×Nat)) (s:A0b) (pe:Nat) (st:Nat->A0b) (vals:Nat->PV):Prop where
 start:st 0=s
 norm:∀(p:Nat) m,p<pe->ms[p]?=some m->Did Φ (st p) m (vals p) (st (p+1))
 again:∀(p p':Nat) m,p<pe->p'<pe->(p,p')∈R->ms[p]?=some m->A1z Φ (st (p'+1)).H (st (p'+1)).nx m.k (m.xs.map (·.ev (st p).env))=some (vals p)
structure InvP (P:Program) (G:A0u) (B:Nat) (q:List (Nat×Mini)) (pe i0:Nat) (st:Nat->A0b) (vals:Nat->PV) (s:A0b) (L0:Loc) (w0:World) (S:Array Bool) (p0:Nat) (L:Loc) (a:Act) (w:World):Prop where
 le:p0<=pe
 notyet:S.getD i0 false=false
 bound:∀(p:Nat) x,q[p]?=some x->S.getD x.1 false=true->p<pe
 done:∀(p:Nat) x,q[p]?=some x->A0l x.2.k=false->(S.getD x.1 false=true ↔ p<p0)
 heap:A1l P G L (st p0).H w
 nx:L.nx=(st p0).nx
 base:B<=L.nx
 size:a.tmps.size=s.n
 defers:a.defers=[]
 vals:∀(p:Nat) x,q[p]?=some x->S.getD x.1 false=true->∀k,x.2.dst=some k->RepV P L w (vals p) (a.tmps.getD k undef)
 old:∀k u,(∀(p:Nat) x,q[p]?=some x->S.getD x.1 false=true->x.2.dst≠some k)->look s.env k=some u->RepV P L w u (a.tmps.getD k undef)
 ext:Ext L0 s.H w0 L (st p0).H w
 μ:∀b,b<B->L.μ b=L0.μ b
set_option maxHeartbeats 1000000 in
theorem C1z (hmix:P.follows .mixedOrders=true) (hΦ:Φ.Sound P G) {Q:Exit->A0b->Prop} {s:A0b} {st:Nat->A0b} {vals:Nat->PV} {id pe:Nat} {x0:Nat×Mini} {ch:A2q}
  (ha0:ops.toList.mapM (A3y P G N true ops)=some l) (hd0:C4u ops l π pa 0 R=true) (hn:s.n=N)
  (hx0:(A1x l π)[pe]?=some x0) (hlate:∀(p:Nat) y,pe<p->(A1x l π)[p]?=some y->((ancs ops.toList []).getD y.1 0).testBit x0.1=true) (hk0:A0l x0.2.k=false)
  (hrun:F7m Φ ((A1x l π).map Prod.snd) R s pe st vals) (hw0:x0.2.wants (st pe).env=some true)
  (hpan:∀(o:Oper) (s':A0b),opK P G true o.op=(x0.2.k,x0.2.xs)->s'.H=(st pe).H->s'.nx=(st pe).nx->x0.2.xs.map (·.ev s'.env)=x0.2.xs.map (·.ev (st pe).env)->APan P G B o s' ch)
  (hq:anyP Q ch):A5g P G B (.region id ops true) Q s:=by
 intro L0 a0 w0 hi0;have ha:=A3z ha0
 have hlen:ops.size=l.length:=by have:=(ha.at_ 0).2;simpa using this
 obtain⟨hd,hql,hnodup⟩:=C2t hlen hd0;have h0:=hrun.start;generalize hq':A1x l π=q at *
 have hmem:∀(p:Nat) x,q[p]?=some x->l[x.1]?=some x.2:=by intro p x hx;rw[<-hq']at hx;exact B6p l π p x hx
 have hms:∀(p:Nat) x,q[p]?=some x->(q.map Prod.snd)[p]?=some x.2:=by intro p x hx;simp[hx]
 have hpe:pe<q.length:=(List.getElem?_eq_some_iff.1 hx0).1;have step:∀(p:Nat) x,p<pe->q[p]?=some x->Did Φ (st p) x.2 (vals p) (st (p+1)):=fun p x hp hx=>hrun.norm p x.2 hp (hms p x hx)
 have uniq:∀(p p':Nat) x y,q[p]?=some x->q[p']?=some y->x.1=y.1->p=p':=by
  intro p p' x y hx hy e
  have h1:(q.map Prod.fst)[p]?=some x.1:=by simp[hx]
  have h2:(q.map Prod.fst)[p']?=some x.1:=by simp[hy,e]
  have hp:=(List.getElem?_eq_some_iff.1 h1).1;exact(List.getElem?_inj hp hnodup).1 (h1.trans h2.symm)
 have fresh:∀p,p<=pe->C8c (st p):=by
  intro p
  induction p with
  | zero=>intro _;rw[h0];exact fun b r hb=>by have:=hi0.heap.nx b r hb;rw[hi0.nx]at this;exact this
  | succ p ih=>
   intro hp;have hx:q[p]?=some q[p]:=List.getElem?_eq_getElem (by omega);exact(B3x hΦ (step p _ (by omega) hx) (ih (by omega))).1
 have flat:∀(a b:Nat),a<=b->b<=pe->(∀(p:Nat) x,a<=p->p<b->q[p]?=some x->A0l x.2.k=true)->(st b).H=(st a).H/\(st b).nx=(st a).nx:=by
  intro a b hab
  induction b with
  | zero=>
   intro _ _
   have:a=0:=by omega
   subst this;exact⟨rfl,rfl⟩
  | succ b ih=>
   intro hb hno;by_cases e:a=b+1
   ·subst e;exact⟨rfl,rfl⟩
   ·have hx:q[b]?=some q[b]:=List.getElem?_eq_getElem (by omega);have h1:=B3w (step b _ (by omega) hx) (hno b _ (by omega) (by omega) hx);have h2:=ih (by omega) (by omega) (fun p x h1 h2 h3=>hno p x h1 (by omega) h3);exact⟨h1.1.trans h2.1,h1.2.trans h2.2⟩
 have nconst:∀p,p<=pe->(st p).n=s.n:=by
  intro p
  induction p with
  | zero=>intro _;rw[h0]
  | succ p ih=>
   intro hp;have hx:q[p]?=some q[p]:=List.getElem?_eq_getElem (by omega);rw[(C4v (step p _ (by omega) hx)).2,ih (by omega)]
 have trace:∀(p:Nat),p<=pe->∀k u,look (st p).env k=some u->(∃(j:Nat) (y:Nat×Mini),j<p/\q[j]?=some y/\y.2.dst=some k/\u=vals j)\/((∀(j:Nat) y,j<p->q[j]?=some y->y.2.dst≠some k)/\look s.env k=some u):=by
  intro p
  induction p with
  | zero=>intro _ k u hl;rw[h0]at hl;exact .inr ⟨fun j y h=>by omega,hl⟩
  | succ p ih=>
   intro hp k u hl;have hx:q[p]?=some q[p]:=List.getElem?_eq_getElem (by omega);rw[(C4v (step p _ (by omega) hx)).1]at hl;rcases C4n hl with⟨e,rfl⟩ | ⟨e,hl'⟩
   ·exact .inl ⟨p,_,by omega,hx,e,rfl⟩
   ·rcases ih (by omega) k u hl' with⟨j,y,hj,hy,hd,rfl⟩ | ⟨hno,hs⟩
    ·exact .inl ⟨j,y,by omega,hy,hd,rfl⟩
    ·refine .inr ⟨fun j y hj hy=>?_,hs⟩;by_cases ej:j=p
     ·subst ej;rw[hx]at hy;injection hy with hy;subst hy;exact e
     ·exact hno j y (by omega) hy
 refine wp_region_any hmix ?_
 have main:∀(fuel:Nat) (S:Array Bool) (p0:Nat) (L:Loc) (a:Act) (w:World),S.size=ops.size->C2n ops S->ops.size<=cnt S+fuel ->
   InvP P G B q pe x0.1 st vals s L0 w0 S p0 L a w->wpAny P .any ops (Post P G B Q L0 s.H w0) fuel S a w:=by
  have i0lt:x0.1<ops.size:=by have:=(List.getElem?_eq_some_iff.1 (hmem pe x0 hx0)).1;omega
  intro fuel
  induction fuel with
  | zero=>
   intro S p0 L a w hs hS hc inv;have hall':=D5a (S:=S) (by omega);have:=hall' x0.1 (by omega);rw[inv.notyet]at this;cases this
  | succ fuel ih=>
   intro S p0 L a w hs hS hc inv;refine⟨fun hr=>?_,fun i hi=>?_⟩
   ·exfalso
    have all:∀i,i<ops.size->S.getD i false=true:=by
     intro i
     induction i using Nat.strongRecOn with
     | _ i ihi=>
      intro hi
      cases hS':S.getD i false with
      | true=>rfl
      | false=>
       exfalso
       have:i∈Region.ready .any ops S:=D4z (o:=ops[i]) (Array.getElem?_eq_getElem hi) (by rw[B0j (by omega)];exact hS')
        (fun e he hb=>by
         have:=hd.back i _ (Array.getElem?_eq_getElem hi) e he hb
         exact ihi _ this (by omega))
       rw[hr]at this;cases this
    have:=all x0.1 i0lt;rw[inv.notyet]at this;cases this
   ·obtain⟨hi1,hun,o,ho,hp⟩:=B5k hi;rw[B0j (by omega)]at hun;obtain⟨p,mi,hx⟩:=hd.all i hi1;have hpl:p<q.length:=(List.getElem?_eq_some_iff.1 hx).1;obtain⟨mi',hmi',hcomp⟩:=(ha.at_ i).1 o (by simpa using ho)
    have emi:mi'=mi:=by have:=hmem p _ hx;simp only at this;rw[this]at hmi';injection hmi' with h;exact h.symm
    subst emi;obtain⟨hcop,hdst,hdlt,hwants⟩:=A4z hcomp;have bef:∀j,((ancs ops.toList []).getD i 0).testBit j=true->S.getD j false=true:=fun j hb=>A6p hS ho hb hp
    have aft:∀j,j<ops.size->((ancs ops.toList []).getD j 0).testBit i=true->S.getD j false=false:=by
     intro j hj hb
     cases hSj:S.getD j false with
     | false=>rfl
     | true=>
      have hjo:ops[j]?=some ops[j]:=Array.getElem?_eq_getElem hj;have:=A6p hS hjo hb (hS j _ hjo hSj);rw[this]at hun;cases hun
    have idx:∀(p':Nat) y,q[p']?=some y->y.1<ops.size:=fun p' y hy=>by have:=(List.getElem?_eq_some_iff.1 (hmem p' y hy)).1;omega
    have idx:∀(p':Nat) y,q[p']?=some y->y.1<ops.size:=fun p' y hy=>by have:=(List.getElem?_eq_some_iff.1 (hmem p' y hy)).1;omega
    have hple:p<=pe:=by
     rcases Nat.lt_or_ge pe p with h | h
     ·have:=bef x0.1 (hlate p _ h hx);rw[inv.notyet]at this;cases this
     ·exact h
    have hbefore':∀(p':Nat) y,p'<p->q[p']?=some y->A0l y.2.k=false->p'<p0:=by
     intro p' y hlt hy hyk;refine(inv.done p' y hy hyk).1 (bef _ ?_);have hok:=hd.pair p' p _ _ hlt hy hx;unfold A4k at hok;simp only[Bool.and_eq_true]at hok;have h1:=hok.1.1.1;rw[hyk]at h1;simp only[Bool.false_and,Bool.false_or,Bool.or_eq_true,Bool.and_eq_true,decide_eq_true_eq]at h1;rcases h1 with h1 | h1
     ·exact h1
     ·omega
    have eye:∀k u,k∈mi'.eyes->look (st p).env k=some u->RepV P L w u (a.tmps.getD k undef):=by
     intro k' u hke hl;rcases trace p hple k' u hl with⟨j,y,hj,hy,hdj,rfl⟩ | ⟨hno,hs'⟩
     ·have hok:=hd.pair j p _ _ hj hy hx;unfold A4k at hok;simp only[Bool.and_eq_true]at hok;have h2:=hok.1.1.2;rw[hdj]at h2;simp only[Bool.or_eq_true,Bool.not_eq_true',Bool.and_eq_true]at h2;rcases h2 with h2 | ⟨h2,h3⟩
      ·exact absurd hke (by simpa using h2)
      ·exact inv.vals j _ hy (bef _ h2) k' hdj
     ·refine inv.old k' u (fun p' y hy hSy hdy=>?_) hs';rcases Nat.lt_trichotomy p' p with hlt | heq | hgt
      ·exact hno p' y hlt hy hdy
      ·subst heq;rw[hx]at hy;injection hy with hy;subst hy;simp only at hSy;rw[hSy]at hun;cases hun
      ·have hok:=hd.pair p p' _ _ hgt hx hy;unfold A4k at hok;simp only[Bool.and_eq_true]at hok;have h3:=hok.1.2;rw[hdy]at h3;simp only[Bool.or_eq_true,Bool.not_eq_true']at h3;rcases h3 with h3 | h3
       ·exact absurd hke (by simpa using h3)
       ·have:=aft y.1 (idx p' y hy) h3;rw[this]at hSy;cases hSy
    have hi':Interp P G B L ({ ((st p).only mi'.eyes)with H:=(st p0).H,nx:=(st p0).nx }:A0b) a w:=by
     refine⟨inv.heap,inv.nx,inv.base,by show a.tmps.size=(st p).n;rw[nconst p hple];exact inv.size,inv.defers,fun k u hl=>?_⟩;have hl':look ((st p).only mi'.eyes).env k=some u:=hl;rw[B0h]at hl';split at hl'
     ·rename_i hke;exact eye k u hke hl'
     ·cases hl'
    have hww:({ ((st p).only mi'.eyes)with H:=(st p0).H,nx:=(st p0).nx }:A0b).wants ops o=mi'.wants (st p).env:=by
     rw[hwants];exact C2q (st p) mi' mi'.eyes (fun _ h=>h)
    have hev:mi'.xs.map (·.ev ({ ((st p).only mi'.eyes)with H:=(st p0).H,nx:=(st p0).nx }:A0b).env)=mi'.xs.map (·.ev (st p).env):=E2h (st p) mi' mi'.eyes (fun _ h=>h);unfold wpOp;rw[ho];simp only;by_cases hpp:p=pe
    ·
     subst hpp;rw[hx]at hx0;injection hx0 with hx0;subst hx0
     have hf:=flat p0 p (by
      rcases Nat.lt_or_ge p p0 with h | h
      ·have:=inv.le;omega
      ·exact h) (Nat.le_refl _) (fun p' y h1 h2 h3=>by
      cases hyk:A0l y.2.k with
      | true=>rfl
      | false=>have:=hbefore' p' y h2 h3 hyk;omega)
     rw[if_pos (hi'.wants (hww.trans hw0))];have hap:=hpan o ({ ((st p).only mi'.eyes)with H:=(st p0).H,nx:=(st p0).nx }:A0b) hcop hf.1.symm hf.2.symm hev L a w hi';refine .inl (A1s (fun _ _ h=>h.elim) ?_ hap);rintro e a' w' ⟨rfl,rfl,L',h1,h2,h3,h4⟩;refine⟨⟨[],[],L'.nx,s.n⟩,L',hq _,⟨h1,rfl,Nat.le_trans inv.base (by rw[h2];exact Nat.le_of_eq inv.nx),inv.size,inv.defers,fun k p hl=>by cases hl⟩,inv.ext.trans h4,fun b hb=>(h3.μ b (Nat.lt_of_lt_of_le hb inv.base)).trans (inv.μ b hb)⟩
    have hplt:p<pe:=by omega
    have hS':C2n ops (S.setIfInBounds i true):=by
     intro j oj hoj hj e he hb;rw[A2r S i _ (by omega)]at hj ⊢;split
     ·rfl
     ·split at hj
      ·rename_i e1;subst e1;rw[ho]at hoj;injection hoj with hoj;subst hoj;exact hp e he hb
      ·exact hS j oj hoj hj e he hb
    have hc':ops.size<=cnt (S.setIfInBounds i true)+fuel:=by rw[E2j (by omega) hun];omega
    have dsts:∀(p':Nat) y k',q[p']?=some y->i≠y.1->y.2.dst=some k'->o.dst≠some k':=by
     intro p' y k' hy e hk;rw[<-hdst];intro hcon
     have epn:p≠p':=fun ep=>by subst ep;rw[hx]at hy;injection hy with hy;subst hy;exact e rfl
     rcases Nat.lt_or_gt_of_ne epn with hlt | hgt
     ·have hok:=hd.pair p p' _ _ hlt hx hy;unfold A4k at hok;simp only[Bool.and_eq_true]at hok;have h4:=hok.2;rw[hcon]at h4;simp only[bne_iff_ne]at h4;exact h4 hk
     ·have hok:=hd.pair p' p _ _ hgt hy hx;unfold A4k at hok;simp only[Bool.and_eq_true]at hok;have h4:=hok.2;rw[hk]at h4;simp only[bne_iff_ne]at h4;exact h4 hcon
    have ine:i≠x0.1:=fun e=>hpp (uniq p pe _ _ hx hx0 e)
    have next:∀(p1:Nat) (L':Loc) (w':World) (u:Value),p1<=pe ->
      (∀(p':Nat) y,q[p']?=some y->A0l y.2.k=false->((S.setIfInBounds i true).getD y.1 false=true ↔ p'<p1)) ->
      RepV P L' w' (vals p) u->A1l P G L' (st p1).H w'->L'.nx=(st p1).nx->Mono L w L' w'->Ext L (st p0).H w L' (st p1).H w' ->
      wpAny P .any ops (Post P G B Q L0 s.H w0) fuel (S.setIfInBounds i true) (a.put o.dst u) w':=by
     intro p1 L' w' u hp1 hdone hru hok' hnx' hm' hx';refine ih _ p1 L' _ w' (by simpa using hs) hS' hc' ⟨hp1,?_,fun p' y hy hSy=>?_,hdone,hok',hnx',Nat.le_trans inv.base hm'.nx,?_,?_,?_,?_,inv.ext.trans hx',fun b hb=>(hm'.μ b (Nat.lt_of_lt_of_le hb inv.base)).trans (inv.μ b hb)⟩
     ·rw[A2r S i _ (by omega),if_neg ine];exact inv.notyet
     ·rw[A2r S i _ (by omega)]at hSy;split at hSy
      ·rename_i e;have ep:=uniq p p' _ _ hx hy e;omega
      ·exact inv.bound p' y hy hSy
     ·rw[<-inv.size];cases o.dst<;>simp[Act.put]
     ·cases o.dst<;>simp[Act.put,inv.defers]
     ·intro p' y hy hSy k' hk;rw[A6m];by_cases e:i=y.1
      ·have ep:=uniq p p' _ _ hx hy e;subst ep;rw[hx]at hy;injection hy with hy;subst hy;rw[if_pos ⟨by rw[<-hdst];exact hk,by rw[inv.size,hn];exact hdlt k' (by rw[<-hdst];exact hk)⟩];exact hru
      ·rw[A2r S i _ (by omega),if_neg e]at hSy;rw[if_neg (fun h=>dsts p' y k' hy e hk h.1)];exact RepV.keep hm' _ (inv.vals p' y hy hSy k' hk)
     ·intro k' u' hno h0';rw[A6m];have hk:=hno p _ hx (by rw[A2r S i _ (by omega),if_pos rfl]);rw[if_neg (fun h=>hk (by rw[hdst];exact h.1))];refine RepV.keep hm' u' (inv.old k' u' (fun p' y hy hSy=>hno p' y hy ?_) h0');rw[A2r S i _ (by omega)];split
      ·rfl
      ·exact hSy
    have keepdone:A0l mi'.k=true->∀(p':Nat) y,q[p']?=some y->A0l y.2.k=false->((S.setIfInBounds i true).getD y.1 false=true ↔ p'<p0):=by
     intro hquiet p' y hy hyk;rw[A2r S i _ (by omega)];by_cases e:i=y.1
     ·have ep:=uniq p p' _ _ hx hy e;subst ep;rw[hx]at hy;injection hy with hy;subst hy;rw[hquiet]at hyk;cases hyk
     ·rw[if_neg e];exact inv.done p' y hy hyk
    have hdid:=step p _ hplt hx;simp only at hdid;rcases hdid with⟨hquiet,hval,hst⟩ | ⟨hheavy,hwf,hv,hst⟩ | ⟨hheavy,hwt,H',nx',hek,hst⟩
    ·unfold valQ at hval;split at hval
     ·rename_i hwt;rw[if_pos (hi'.wants (hww.trans hwt))]
      have hval0:A1z Φ (st p0).H (st p0).nx mi'.k (mi'.xs.map (·.ev (st p).env))=some (vals p):=by
       by_cases hpp:p0<=p
       ·have hf:=flat p0 p hpp hple (fun p' y h1 h2 h3=>by
         cases hyk:A0l y.2.k with
         | true=>rfl
         | false=>have:=hbefore' p' y h2 h3 hyk;omega)
        rw[<-hf.1,<-hf.2];exact hval
       ·have walk:∀p1,p<=p1->p1<=p0->A1z Φ (st p1).H (st p1).nx mi'.k (mi'.xs.map (·.ev (st p).env))=some (vals p):=by
         intro p1
         induction p1 with
         | zero=>
          intro h _
          have:p=0:=by omega
          subst this;exact hval
         | succ p1 ihp=>
          intro h1 h2;by_cases e:p=p1+1
          ·subst e;exact hval
          ·have hv1:=ihp (by omega) (by omega);have hle:=inv.le;have hy:q[p1]?=some q[p1]:=List.getElem?_eq_getElem (by omega);have hdy:=step p1 _ (by omega) hy
           cases hyk:A0l (q[p1]).2.k with
           | true=>
            have:=B3w hdy hyk;rw[this.1,this.2];exact hv1
           | false=>
            by_cases hind:B3u mi'.k=true
            ·exact B2p hind hv1
            ·have hlt:p<p1:=by
              rcases Nat.lt_or_ge p p1 with h | h
              ·exact h
              ·have:p1=p:=by omega
               subst this;rw[hx]at hy;injection hy with hy;rw[<-hy]at hyk;simp only at hyk;rw[hquiet]at hyk;cases hyk
             have hSy:=(inv.done p1 _ hy hyk).2 (by omega);have hok:=hd.pair p p1 _ _ hlt hx hy;unfold A4k at hok;simp only[Bool.and_eq_true]at hok;have h1':=hok.1.1.1;simp only[hquiet,hyk,Bool.true_and,Bool.false_or,Bool.or_eq_true,Bool.and_eq_true,decide_eq_true_eq]at h1';rcases h1' with(((h | h) | h) | h) | h
             ·exact absurd h hind
             ·exact B1s ((B3x hΦ hdy (fresh p1 (by omega))).2 (.inl h)) hv1
             ·exact hrun.again p p1 mi' hplt (by omega) (by simpa using h) (hms p _ hx)
             ·have:=aft _ (idx p1 _ hy) h;rw[this]at hSy;cases hSy
             ·omega
        exact walk p0 (by omega) (Nat.le_refl _)
      have hek':A0e Φ ({ ((st p).only mi'.eyes)with H:=(st p0).H,nx:=(st p0).nx }:A0b).H ({ ((st p).only mi'.eyes)with H:=(st p0).H,nx:=(st p0).nx }:A0b).nx mi'.k (mi'.xs.map (·.ev ({ ((st p).only mi'.eyes)with H:=(st p0).H,nx:=(st p0).nx }:A0b).env))=some (vals p,(st p0).H,(st p0).nx):=by
       rw[hev];exact B9g hval0
      have haop:=B0g (B:=B) hΦ hcop hek' L a w hi';refine .inl (A1s ?_ (fun _ _ _ h=>h.elim) haop);rintro a' w' ⟨u,L',rfl,hru,hok',hnx',hm',hx'⟩
      exact next p0 L' w' u inv.le (keepdone hquiet) hru hok' hnx' hm' hx'
     ·rename_i hwf;rw[if_neg (by rw[hi'.wants (hww.trans hwf)];simp)];injection hval with hval
      exact next p0 L w undef inv.le (keepdone hquiet) (by rw[<-hval];simp only[RepV,RepT]) inv.heap inv.nx (Mono.refl _ _) (Ext.refl _ _ _)
     ·cases hval
    all_goals
     have hp0p:p0<=p:=by
      rcases Nat.lt_or_ge p p0 with h | h
      ·have:=(inv.done p _ hx hheavy).2 h;simp only at this;rw[this]at hun;cases hun
      ·exact h
     have hf:=flat p0 p hp0p hple (fun p' y h1 h2 h3=>by
      cases hyk:A0l y.2.k with
      | true=>rfl
      | false=>have:=hbefore' p' y h2 h3 hyk;omega)
     have hdone':∀(p':Nat) y,q[p']?=some y->A0l y.2.k=false->((S.setIfInBounds i true).getD y.1 false=true ↔ p'<p+1):=by
      intro p' y hy hyk;rw[A2r S i _ (by omega)];by_cases e:i=y.1
      ·have ep:=uniq p p' _ _ hx hy e;subst ep;simp[e]
      ·rw[if_neg e,inv.done p' y hy hyk];constructor
       ·intro h;omega
       ·intro h
        have:p'≠p:=fun ep=>by subst ep;rw[hx]at hy;injection hy with hy;subst hy;exact e rfl
        exact hbefore' p' y (by omega) hy hyk
    ·rw[if_neg (by rw[hi'.wants (hww.trans hwf)];simp)]
     have e1:(st (p+1)).H=(st p0).H:=by rw[hst,B0b,hf.1]
     have e2:(st (p+1)).nx=(st p0).nx:=by rw[hst,A9m,hf.2]
     exact next (p+1) L w undef (by omega) hdone' (by rw[hv];simp only[RepV,RepT]) (by rw[e1];exact inv.heap) (by rw[e2];exact inv.nx) (Mono.refl _ _) (by rw[e1];exact Ext.refl _ _ _)
    ·rw[if_pos (hi'.wants (hww.trans hwt))]
     have hek':A0e Φ ({ ((st p).only mi'.eyes)with H:=(st p0).H,nx:=(st p0).nx }:A0b).H ({ ((st p).only mi'.eyes)with H:=(st p0).H,nx:=(st p0).nx }:A0b).nx mi'.k (mi'.xs.map (·.ev ({ ((st p).only mi'.eyes)with H:=(st p0).H,nx:=(st p0).nx }:A0b).env))=some (vals p,H',nx'):=by
      rw[hev];show A0e Φ (st p0).H (st p0).nx mi'.k _=_;rw[<-hf.1,<-hf.2];exact hek
     have haop:=B0g (B:=B) hΦ hcop hek' L a w hi';refine .inl (A1s ?_ (fun _ _ _ h=>h.elim) haop);rintro a' w' ⟨u,L',rfl,hru,hok',hnx',hm',hx'⟩
     have e1:(st (p+1)).H=H':=by rw[hst,B0b]
     have e2:(st (p+1)).nx=nx':=by rw[hst,A9m]
     exact next (p+1) L' w' u (by omega) hdone' hru (by rw[e1];exact hok') (by rw[e2];exact hnx') hm' (by rw[e1];exact hx')
 obtain⟨hok,hm,hx⟩:=hi0.heap.of_heap (w':={ w0 with drawn:=w0.drawn+1 }) ⟨rfl,rfl,rfl⟩ rfl
 have hfalse:∀i,(Array.replicate ops.size false).getD i false=false:=by
  intro i;simp only[Array.getD_eq_getD_getElem?,Array.getElem?_replicate];split<;>rfl
 refine main ops.size _ 0 L0 a0 _ (by simp) ?_ (by omega) ⟨Nat.zero_le _,hfalse _,fun p x _ h=>(by rw[hfalse]at h;cases h),?_,by rw[h0];exact hok,by rw[h0];exact hi0.nx,hi0.base,hi0.size,hi0.defers,?_,?_,by rw[h0];exact hx,fun _ _=>rfl⟩
 ·intro i o _ h;rw[hfalse]at h;cases h
 ·intro p x _ _;rw[hfalse];simp
 ·intro p x _ h;rw[hfalse]at h;cases h
 ·intro k u _ hu;exact RepV.keep hm u (hi0.env k u hu)
end
section
variable {P : Program} {G : A0u} {B N : Nat} {Φ : A0v} {E : Pans} {Q : Exit -> A0b -> Prop} {s : A0b}
def panM (E:Pans) (s:A0b) (m:Mini):Option A2q:=
 match m.k with
 | .hcall f=>match m.wants s.env with
  | some true=>E f (m.xs.map (·.ev s.env)) s.H s.nx
  | _=>none
 | _=>none
def A4h (Φ:A0v) (E:Pans):Nat->Pend->List GI->A0b->(A0b->Prop)->(A2q->Prop)->Prop
 | _,_,[],s,K,_=>K s
 | n,pd,.o m kp ag::r,s,K,X=>D3c (panM E s m) X (A1t (valD Φ s m) fun q=>A6g Φ pd q.2.1 q.2.2 ag (A4h Φ E (n+1) (B2o kp n m s q.1 pd) r (s.set m.dst q) K X))
 | _,_,.g _ _::_,_,_,_=>False
theorem B7i:∀(l:List GI) {n:Nat} {pd:Pend} {s:A0b} {K:A0b->Prop} {X:A2q->Prop},A4h Φ E n pd l s K X ->
  A7w Φ 0 n 0 pd l s K\/∃(pe:Nat) (m:Mini) (kp:Bool) (ag:List Nat) (ch:A2q),l[pe]?=some (.o m kp ag)/\A7w Φ 0 n 0 pd (l.take pe) s (fun s1=>panM E s1 m=some ch)/\X ch
 | [],n,pd,s,K,X,h=>.inl h
 | .g _ _::_,n,pd,s,K,X,h=>h.elim
 | .o m kp ag::r,n,pd,s,K,X,h=>by
  simp only[A4h]at h
  cases hp:panM E s m with
  | some ch=>
   rw[hp]at h;exact .inr ⟨0,m,kp,ag,ch,rfl,hp,h⟩
  | none=>
   rw[hp,onPan_none]at h;obtain⟨q,hv,hk⟩:=A2j h;obtain⟨h1,h2⟩:=B5o hk
   have back:∀C:Prop,C->A6g Φ pd q.2.1 q.2.2 ag C:=by
    intro C hC
    have:∀ks:List Nat,agnP Φ pd q.2.1 q.2.2 ks->A6g Φ pd q.2.1 q.2.2 ks C:=by
     intro ks
     induction ks with
     | nil=>intro _;exact hC
     | cons i r ih=>
      intro hh;obtain⟨x,hx,he⟩:=hh i (by simp);show A1t (look pd i) _;rw[hx];exact⟨he,ih fun j hj=>hh j (by simp[hj])⟩
    exact this ag h1
   rcases B7i r h2 with h3 | ⟨pe,m',kp',ag',ch,h3,h4,h5⟩
   ·left;show A1t (valD Φ s m) _;rw[hv];exact back _ h3
   ·right;refine⟨pe+1,m',kp',ag',ch,by simpa using h3,?_,h5⟩;rw[List.take_succ_cons];show A1t (valD Φ s m) _;rw[hv];exact back _ h4
theorem E4s (hΦ:Ctx P G Φ) (hE:POK P G E) {l:List GI} (h:A4h Φ E 0 [] l s (Q .normal) (anyP Q)):MC P G B N (.drawG 0 l) Q s:=by
 rcases B7i l h with h1 | ⟨pe,m,kp,ag,ch,h3,h4,h5⟩
 ·exact A0c hΦ h1
 ·intro c hc hn;obtain⟨id,ops,lt,π,pa,R,rfl,hl,hd,hsh,he,hlate⟩:=A1r hc;obtain⟨s1,hr,hp⟩:=B4b _ h4;unfold panM at hp;split at hp
  ·rename_i f hk;split at hp
   ·rename_i hw;have hple:pe<l.length:=(List.getElem?_eq_some_iff.1 h3).1
    have hshp:B9h pa 0 (R.filter fun r=>decide (r.2<pe)) (l.take pe)=true:=by
     unfold B9h at hsh ⊢;rw[Bool.and_eq_true]at hsh ⊢;refine⟨List.all_eq_true.2 fun x hx=>?_,List.all_eq_true.2 fun r hr=>?_⟩
     ·obtain⟨y,i⟩:=x;rw[List.mem_zipIdx_iff_getElem?]at hx
      have hx':l[i]?=some y:=by
       rw[List.getElem?_take]at hx;split at hx
       ·exact hx
       ·cases hx
      exact List.all_eq_true.1 hsh.1 (y,i) (by rw[List.mem_zipIdx_iff_getElem?];exact hx')
     ·obtain⟨h1,h2⟩:=List.mem_filter.1 hr;have:=List.all_eq_true.1 hsh.2 r h1;rw[List.getElem?_take,if_pos (of_decide_eq_true h2)];exact this
    obtain⟨st,vals,tr⟩:=C2w hr hshp
    have hlen:((l.take pe).map GI.mini).length=pe:=by rw[List.length_map,List.length_take];omega
    have hpre:∀(p:Nat) m',p<pe->((A1x lt π).map Prod.snd)[p]?=some m'->((l.take pe).map GI.mini)[p]?=some m':=by
     intro p m' hp hm;rw[List.map_take,List.getElem?_take,if_pos hp,he];exact hm
    have hstop:=tr.stop;rw[hlen]at hstop
    have hm0:((A1x lt π).map Prod.snd)[pe]?=some m:=by rw[<-he,List.getElem?_map,h3];rfl
    rw[List.getElem?_map]at hm0;obtain⟨x0,hx0,e0⟩:=A0m hm0;subst e0
    refine C1z (st:=st) (vals:=vals) (pe:=pe) (x0:=x0) hΦ.mix hΦ.sound hl hd hn hx0 (D8d hlate hx0 hk) (by rw[hk];rfl)
     ⟨tr.start,fun p m' hp hm=>tr.norm p m' (hpre p m' hp hm) (by omega),fun p p' m' hp hp' hR hm=>tr.again p p' m' (List.mem_filter.2 ⟨hR,decide_eq_true hp'⟩) (hpre p m' hp hm)⟩ (by rw[hstop];exact hw) ?_ h5
    intro o s' hop hH hnx hxs;refine D6e hE hop ?_;rw[hH,hnx,hxs,hstop,hk];exact hp
   ·cases hp
  ·cases hp
theorem B4q (hΦ:Ctx P G Φ) (hE:POK P G E) {l:List GI} {b:A0i} (hn:s.n=N) (h:A4h Φ E 0 [] l s (fun s1=>s1.n=N->MC P G B N b Q s1) (anyP Q)):MC P G B N (.seq (.drawG 0 l) b) Q s:=by
 refine A3m ?_
 have:A4h Φ E 0 [] l s ((B0k P G B N b Q) .normal) (anyP (B0k P G B N b Q)):=by
  have go:∀(l:List GI) (n:Nat) (pd:Pend) (s:A0b),s.n=N->A4h Φ E n pd l s (fun s1=>s1.n=N->MC P G B N b Q s1) (anyP Q)->A4h Φ E n pd l s ((B0k P G B N b Q) .normal) (anyP (B0k P G B N b Q)):=by
   intro l
   induction l with
   | nil=>intro n pd s hs h;exact⟨hs,h hs⟩
   | cons x r ih=>
    intro n pd s hs h
    cases x with
    | g j m=>exact h.elim
    | o m kp ag=>
     simp only[A4h]at h ⊢
     cases hp:panM E s m with
     | some ch=>rw[hp]at h;exact fun s1=>h s1
     | none=>
      rw[hp,onPan_none]at h;rw[onPan_none];obtain⟨q,hv,hk⟩:=A2j h;rw[hv]
      have e:(s.set m.dst q).n=N:=by rw[<-hs];unfold A0b.set;cases m.dst<;>rfl
      have:∀ks:List Nat,A6g Φ pd q.2.1 q.2.2 ks (A4h Φ E (n+1) (B2o kp n m s q.1 pd) r (s.set m.dst q) (fun s1=>s1.n=N->MC P G B N b Q s1) (anyP Q)) ->
        A6g Φ pd q.2.1 q.2.2 ks (A4h Φ E (n+1) (B2o kp n m s q.1 pd) r (s.set m.dst q) ((B0k P G B N b Q) .normal) (anyP (B0k P G B N b Q))):=by
       intro ks
       induction ks with
       | nil=>intro h;exact ih _ _ _ e h
       | cons i t iht=>
        intro h;obtain⟨x,hx,h1,h2⟩:=A2j h;show A1t (look pd i) _;rw[hx];exact⟨h1,iht h2⟩
      exact this ag hk
  exact go l 0 [] s hn h
 exact E4s hΦ hE this
theorem A1c (hΦ:Ctx P G Φ) (hE:POK P G E) {a b:A0i} (hn:s.n=N) (h:A5e Φ E a s (A5u (fun s1=>MC P G B N b Q s1) Q)):MC P G B N (.seq a b) Q s:=by
 refine A3m ((A7q hΦ hE a h hn).mono fun e s1 q=>?_);cases e
 case normal=>exact⟨q.2 (fun _ h=>(by cases h)),q.1⟩
 all_goals exact q.1
theorem A7e (hΦ:Ctx P G Φ) (hE:POK P G E) {a:A0i} (hn:s.n=N) (h:A5e Φ E a s Q):MC P G B N a Q s:=(A7q hΦ hE a h hn).mono fun _ _ q=>q.1
abbrev ETbl:=List (Nat×(List PV->Heap->Nat->Option A2q))
def orE (tbl:ETbl):Pans:=fun f ps H nx=>match look tbl f with
 | some g=>g ps H nx
 | none=>none
@[simp] theorem orE_cons (k f:Nat) (g:List PV->Heap->Nat->Option A2q) (r:ETbl) (ps:List PV) (H:Heap) (nx:Nat):orE ((k,g)::r) f ps H nx=if k=f then g ps H nx else orE r f ps H nx:=by
 unfold orE;rw[look_cons];by_cases h:k=f
 ·rw[if_pos h,if_pos h]
 ·rw[if_neg h,if_neg h]
@[simp] theorem orE_nil (f:Nat) (ps:List PV) (H:Heap) (nx:Nat):orE [] f ps H nx=none:=rfl
def EOK (P:Program) (G:A0u) (f:FuncId) (e:List PV->Heap->Nat->Option A2q):Prop:=∀ps H nx ch,e ps H nx=some ch->B6b P G f ps H nx ch []
def A9s (P:Program) (G:A0u) (tbl:ETbl):Prop:=∀q∈tbl,EOK P G q.1 q.2
theorem A9s.nil:A9s P G []:=fun _ h=>by cases h
theorem A9s.cons {f:Nat} {e:List PV->Heap->Nat->Option A2q} {r:ETbl} (h:EOK P G f e) (hr:A9s P G r):A9s P G ((f,e)::r):=fun q hq=>by
 rcases List.mem_cons.1 hq with rfl | hq
 ·exact h
 ·exact hr q hq
theorem A9s.ok {tbl:ETbl} (h:A9s P G tbl):POK P G (orE tbl):=fun f ps H nx ch hr=>by
 unfold orE at hr;split at hr
 ·rename_i g hg;exact h _ (A0n hg) ps H nx ch hr
 ·cases hr
abbrev Spec:=List T->List T->Option (Except A2q (T×List T))
def E4t (sp:Spec) (cs ts:List T):Option (T×List T):=match sp cs ts with
 | some (.ok x)=>some x
 | _=>none
def outOf (ty:TypeId):Except A2q (T×List T)->Out
 | .ok (r,cs')=>.ret (.t r) [(0,.cells ty (cs'.map .t))] 1
 | .error ch=>.pan ch
def eObj (ty:TypeId) (sp:Spec) (ps:List PV) (H:Heap) (nx:Nat):Option A2q:=
 match ps with
 | .ptr b 0::args=>match look H b,allT args with
  | some (.cells ty' cs),some ts=>match allT cs with
   | some cs'=>if ty'=ty/\b<nx then(match sp cs' ts with
    | some (.error ch)=>some ch
    | _=>none)else none
   | none=>none
  | _,_=>none
 | _=>none
def C9v (P:Program) (G:A0u) (f:FuncId) (ty:TypeId) (sp:Spec):Prop:=∀cs ts o,sp cs ts=some o->F0h P G f (.ptr 0 0::ts.map .t) [(0,.cells ty (cs.map .t))] 1 (outOf ty o)
theorem C9v.hok {f:FuncId} {ty:TypeId} {sp:Spec} (h:C9v P G f ty sp):HOK P G f (hObj ty (E4t sp)):=F3t fun cs ts r cs' hr=>by
 unfold E4t at hr;split at hr
 ·rename_i x hx;injection hr with hr;subst hr;exact h cs ts _ hx
 ·cases hr
theorem B6b.weak {f:FuncId} {ps:List PV} {H H':Heap} {nx:Nat} {ch:A2q} (h:B6b P G f ps H nx ch H'):B6b P G f ps H nx ch []:=
 ⟨h.1,fun L w us h1 h2 h3=>(h.2 L w us h1 h2 h3).mono fun e w' ⟨L',e1,e2,e3,e4,e5⟩=>
  ⟨L',e1,(B1b e2).1,e3,e4,⟨e5.size,e5.same,e5.more,e5.new,fun _ ⟨_,_,hb,_⟩=>(by cases hb),e5.shape,e5.outer⟩⟩⟩
theorem C9v.eok {f:FuncId} {ty:TypeId} {sp:Spec} (h:C9v P G f ty sp):EOK P G f (eObj ty sp):=fun ps H nx ch hr=>by
 unfold eObj at hr;split at hr
 ·rename_i b args;split at hr
  ·rename_i ty' cs ts hl ha;split at hr
   ·rename_i cs' hc;split at hr
    ·rename_i hcond;obtain⟨rfl,hb⟩:=hcond;split at hr
     ·rename_i ch' hsp;injection hr with hr;subst hr
      have:=(h cs' ts _ hsp)
      have h1:B6b P G f (.ptr 0 0::ts.map .t) [(0,.cells ty' (cs'.map .t))] 1 ch' []:=this;have h2:=h1.lift1 (b:=b) (NX:=nx) (Hb:=H) (by rw[hl,A5s hc]) hb;rw[<-A5s ha]at h2;exact h2.weak
     ·cases hr
    ·cases hr
   ·cases hr
  ·cases hr
 ·cases hr
theorem F0k {ty:TypeId} {sp:Spec} {b nx:Nat} {H:Heap} {cs ts:List T} {r:T} {cs':List T} (hl:look H b=some (.cells ty (cs.map .t))) (hb:b<nx) (ho:sp cs ts=some (.ok (r,cs'))) :
  hObj ty (E4t sp) (.ptr b 0::ts.map .t) H nx=some (.t r,upd H b (.cells ty (cs'.map .t)),nx):=F3u (o:=(r,cs')) hl hb (by unfold E4t;rw[ho])
theorem F0l {ty:TypeId} {sp:Spec} {b nx:Nat} {H:Heap} {cs ts:List T} {x:T×List T} (hl:look H b=some (.cells ty (cs.map .t))) (ho:sp cs ts=some (.ok x)) :
  eObj ty sp (.ptr b 0::ts.map .t) H nx=none:=by
 simp only[eObj,hl,allT_map_t,ho];split<;>rfl
theorem F0m {ty:TypeId} {sp:Spec} {b nx:Nat} {H:Heap} {cs ts:List T} {ch:A2q} (hl:look H b=some (.cells ty (cs.map .t))) (hb:b<nx) (ho:sp cs ts=some (.error ch)) :
  eObj ty sp (.ptr b 0::ts.map .t) H nx=some ch:=by
 simp only[eObj,hl,allT_map_t,hb,and_self,if_true,ho]
end
section
variable {P : Program} {G : A0u} {B : Nat} {Φ : A0v} {E : Pans} {env : List (Nat × PV)} {H : Heap} {nx n : Nat} {K : A0b -> Prop} {X : A2q -> Prop} {Q : Exit -> A0b -> Prop} {d : Option Nat} {k : MK} {xs : List Opd} {r : List Mini}
@[simp] theorem panK_hcall (f:Nat) (ps:List PV):panK E H nx (.hcall f) ps=E f ps H nx:=rfl
@[simp] theorem panK_pan (ps:List PV):panK E H nx (.hx .pan) ps=B3c ps:=rfl
@[simp] theorem chainOf_v (t:Nat) (x:Value):B3c [.t (.ic t (.v x))]=some [{ v:=.iface t x,recovered:=false }]:=rfl
@[simp] theorem chainOf_a (t:Nat) (x:Value):B3c [.t (.ic t (.ag [.v x]))]=some [{ v:=.iface t (.agg #[x]),recovered:=false }]:=rfl
@[simp] theorem exM_mki_t (t:Nat) (x:T):exM (.mki t) [.t x]=some (.t (.ic t x)):=rfl
def A3r:MK->Bool
 | .hcall _=>false
 | .hx .pan=>false
 | _=>true
@[simp] theorem calmK_mv:A3r (.mv)=true:=rfl
@[simp] theorem calmK_pick:A3r (.pick)=true:=rfl
@[simp] theorem calmK_bin (isB:Bool) (op:BinOp) (nk:Option NK):A3r (.bin isB op nk)=true:=rfl
@[simp] theorem calmK_un (op:UnOp):A3r (.un op)=true:=rfl
@[simp] theorem calmK_conv (k:Option IntKind):A3r (.conv k)=true:=rfl
@[simp] theorem calmK_load (agg:Bool) (n:Nat):A3r (.load agg n)=true:=rfl
@[simp] theorem calmK_faddr (off:Nat):A3r (.faddr off)=true:=rfl
@[simp] theorem calmK_field (off:Nat) (agg:Bool) (n:Nat):A3r (.field off agg n)=true:=rfl
@[simp] theorem calmK_iaddr (z:Nat):A3r (.iaddr z)=true:=rfl
@[simp] theorem calmK_aaddr (len:Nat) (z:Nat):A3r (.aaddr len z)=true:=rfl
@[simp] theorem calmK_index:A3r (.index)=true:=rfl
@[simp] theorem calmK_slstr (lo:Bool) (hi:Bool):A3r (.slstr lo hi)=true:=rfl
@[simp] theorem calmK_slice (z:Nat) (lo:Bool) (hi:Bool):A3r (.slice z lo hi)=true:=rfl
@[simp] theorem calmK_ext (i:Nat):A3r (.ext i)=true:=rfl
@[simp] theorem calmK_chk:A3r (.chk)=true:=rfl
@[simp] theorem calmK_lenstr:A3r (.lenstr)=true:=rfl
@[simp] theorem calmK_lensl:A3r (.lensl)=true:=rfl
@[simp] theorem calmK_min:A3r (.min)=true:=rfl
@[simp] theorem calmK_max:A3r (.max)=true:=rfl
@[simp] theorem calmK_store (n:Nat):A3r (.store n)=true:=rfl
@[simp] theorem calmK_make (e:Nat) (n:Nat) (b:Nat) (zc:List Value):A3r (.make e n b zc)=true:=rfl
@[simp] theorem calmK_bslice (e:Nat) (n:Nat) (zc:List Value) (len:Nat) (idx:List Nat):A3r (.bslice e n zc len idx)=true:=rfl
@[simp] theorem calmK_build (pl:List (Nat×Nat)) (zc:List Value) (idx:List Nat):A3r (.build pl zc idx)=true:=rfl
@[simp] theorem calmK_barr (n:Nat) (zc:List Value) (idx:List Nat):A3r (.barr n zc idx)=true:=rfl
@[simp] theorem calmK_box (t:Nat):A3r (.box t)=true:=rfl
@[simp] theorem calmK_alloc (t:Nat) (zc:List Value):A3r (.alloc t zc)=true:=rfl
@[simp] theorem calmK_app (e:Nat) (n:Nat) (b:Nat):A3r (.app e n b)=true:=rfl
@[simp] theorem calmK_call (f:Nat):A3r (.call f)=true:=rfl
@[simp] theorem calmK_callv:A3r (.callv)=true:=rfl
@[simp] theorem calmK_tslice (e:Nat) (n:Nat) (zc:List Value) (len:Nat) (idx:List Nat):A3r (.tslice e n zc len idx)=true:=rfl
@[simp] theorem calmK_bad:A3r (.bad)=true:=rfl
@[simp] theorem calmK_ex (e:EK):A3r (.ex e)=true:=rfl
theorem C9w {ps:List PV} (h:A3r k=true):panK E H nx k ps=none:=by
 cases k
 case hx h2=>cases h2<;>first | (cases h;done) | rfl
 all_goals first | (cases h;done) | rfl
@[simp] theorem runsLE_nil {s:A0b}:A2n Φ E [] s K X=K s:=rfl
@[simp] theorem runsLE_calm (hk:A3r k=true):A2n Φ E (⟨d,k,xs,none⟩::r) ⟨env,H,nx,n⟩ K X=A1t (A0e Φ H nx k (xs.map (·.ev env))) fun q=>A2n Φ E r (A0b.set ⟨env,H,nx,n⟩ d q) K X:=by
 simp only[A2n,Mini.wants,onWants_true,C9w hk,onPan_none]
@[simp] theorem runsLE_hcall {f:Nat}:A2n Φ E (⟨d,.hcall f,xs,none⟩::r) ⟨env,H,nx,n⟩ K X=D3c (E f (xs.map (·.ev env)) H nx) X (A1t (A0e Φ H nx (.hcall f) (xs.map (·.ev env))) fun q=>A2n Φ E r (A0b.set ⟨env,H,nx,n⟩ d q) K X):=rfl
@[simp] theorem runsLE_pan:A2n Φ E (⟨d,.hx .pan,xs,none⟩::r) ⟨env,H,nx,n⟩ K X=D3c (B3c (xs.map (·.ev env))) X (A1t (A0e Φ H nx (.hx .pan) (xs.map (·.ev env))) fun q=>A2n Φ E r (A0b.set ⟨env,H,nx,n⟩ d q) K X):=rfl
@[simp] theorem runsLE_yes {g:Nat} {want:Bool} (h:look env g=some (.t (.v (.bool want)))) (hk:A3r k=true) :
  A2n Φ E (⟨d,k,xs,some (g,want)⟩::r) ⟨env,H,nx,n⟩ K X=A1t (A0e Φ H nx k (xs.map (·.ev env))) fun q=>A2n Φ E r (A0b.set ⟨env,H,nx,n⟩ d q) K X:=by
 simp only[A2n,Mini.wants,h,beq_self_eq_true,onWants_true,C9w hk,onPan_none]
theorem C9x {g:Nat} {want b:Bool} (h:look env g=some (.t (.v (.bool b)))) (hb:(b==want)=false) :
  A2n Φ E (⟨d,k,xs,some (g,want)⟩::r) ⟨env,H,nx,n⟩ K X=A2n Φ E r (A0b.set ⟨env,H,nx,n⟩ d (.t (.v undef),H,nx)) K X:=by
 simp only[A2n,Mini.wants,h,hb,onWants_false]
@[simp] theorem runsLE_no_t {g:Nat} (h:look env g=some (.t (.v (.bool false)))) :
  A2n Φ E (⟨d,k,xs,some (g,true)⟩::r) ⟨env,H,nx,n⟩ K X=A2n Φ E r (A0b.set ⟨env,H,nx,n⟩ d (.t (.v undef),H,nx)) K X:=C9x h rfl
@[simp] theorem runsLE_no_f {g:Nat} (h:look env g=some (.t (.v (.bool true)))) :
  A2n Φ E (⟨d,k,xs,some (g,false)⟩::r) ⟨env,H,nx,n⟩ K X=A2n Φ E r (A0b.set ⟨env,H,nx,n⟩ d (.t (.v undef),H,nx)) K X:=C9x h rfl
@[simp] theorem runsLE_no_u {g:Nat} {want:Bool} (h:look env g=some (.t (.v undef))) :
  A2n Φ E (⟨d,k,xs,some (g,want)⟩::r) ⟨env,H,nx,n⟩ K X=A2n Φ E r (A0b.set ⟨env,H,nx,n⟩ d (.t (.v undef),H,nx)) K X:=by
 simp only[A2n,Mini.wants,h,undef,onWants_false]
@[simp] theorem runsE_skip {s:A0b}:A5e Φ E .skip s Q=Q .normal s:=rfl
@[simp] theorem runsE_ops {l:List Mini}:A5e Φ E (.ops l) ⟨env,H,nx,n⟩ Q=A2n Φ E l ⟨env,H,nx,n⟩ (Q .normal) (anyP Q):=rfl
@[simp] theorem runsE_draw {l:List Mini}:A5e Φ E (.draw l) ⟨env,H,nx,n⟩ Q=A5a Φ l ⟨env,H,nx,n⟩ (Q .normal):=rfl
@[simp] theorem runsE_drawG {κ:Nat} {l:List GI}:A5e Φ E (.drawG κ l) ⟨env,H,nx,n⟩ Q=A7w Φ κ 0 0 [] l ⟨env,H,nx,n⟩ (Q .normal):=rfl
@[simp] theorem runsE_seq {a b:A0i}:A5e Φ E (.seq a b) ⟨env,H,nx,n⟩ Q=A5e Φ E a ⟨env,H,nx,n⟩ (A5u (fun s1=>A5e Φ E b s1 Q) Q):=rfl
@[simp] theorem runsE_true {c:Opd} {a b:A0i} (h:c.ev env = .t (.v (.bool true))):A5e Φ E (.cond c a b) ⟨env,H,nx,n⟩ Q=A5e Φ E a ⟨env,H,nx,n⟩ Q:=by simp only[A5e,h,onBool_true]
@[simp] theorem runsE_false {c:Opd} {a b:A0i} (h:c.ev env = .t (.v (.bool false))):A5e Φ E (.cond c a b) ⟨env,H,nx,n⟩ Q=A5e Φ E b ⟨env,H,nx,n⟩ Q:=by simp only[A5e,h,onBool_false]
@[simp] theorem runsE_block {i:Nat} {a:A0i}:A5e Φ E (.block i a) ⟨env,H,nx,n⟩ Q=A5e Φ E a ⟨env,H,nx,n⟩ (A6d i Q):=rfl
@[simp] theorem runsE_exit {i:Nat} {s:A0b}:A5e Φ E (.exit i) s Q=Q (.exit i) s:=rfl
@[simp] theorem runsE_scope {a:A0i}:A5e Φ E (.scope a) ⟨env,H,nx,n⟩ Q=A5e Φ E a ⟨env,H,nx,n⟩ (B3z Q):=rfl
@[simp] theorem runsE_ret {s:A0b}:A5e Φ E .ret s Q=Q .ret s:=rfl
@[simp] theorem anyP_normal (K:A0b->Prop) (ch:A2q):anyP (A5u K Q) ch=anyP Q ch:=rfl
@[simp] theorem anyP_block (i:Nat) (ch:A2q):anyP (A6d i Q) ch=anyP Q ch:=rfl
@[simp] theorem anyP_scope (ch:A2q):anyP (B3z Q) ch=anyP Q ch:=rfl
@[simp] theorem anyP_while {α:Type} (S:α->A0b) (Ok:α->Prop) (ch:A2q):anyP (B5p P G B S Ok Q) ch=anyP Q ch:=rfl
@[simp] theorem anyP_round (S:A0b) (ch:A2q):anyP (B9k P G B S Q) ch=anyP Q ch:=rfl
@[simp] theorem anyP_last (ch:A2q):anyP (C8h Q) ch=anyP Q ch:=rfl
@[simp] theorem anyP_ends (vs:List RV) (o:Out) (ch:A2q):anyP (F7k P G B vs o) ch=(o = .pan ch):=by
 refine propext ⟨fun h=>?_,fun h s=>?_⟩
 ·have:=h ⟨[],[],0,0⟩
  cases o with
  | ret r H nx=>
   obtain⟨he,_⟩:=(show E9i P G B vs (fun r0 H0 nx0=>r0=r/\H0=H/\nx0=nx) (.panic ch) ⟨[],[],0,0⟩from this)
   rcases he with he | he<;>cases he
  | pan c=>
   have e:Exit.panic ch=Exit.panic c:=this;injection e with e;rw[e]
 ·subst h;exact rfl
end
def isHc:MK->Bool
 | .hcall _=>true
 | _=>false
@[simp] theorem isHc_mv:isHc .mv=false:=rfl
@[simp] theorem isHc_faddr (n:Nat):isHc (.faddr n)=false:=rfl
@[simp] theorem isHc_load (b:Bool) (n:Nat):isHc (.load b n)=false:=rfl
@[simp] theorem isHc_bin (b:Bool) (op:BinOp) (nk:Option NK):isHc (.bin b op nk)=false:=rfl
@[simp] theorem isHc_tslice (e n:Nat) (zc:List Value) (len:Nat) (idx:List Nat):isHc (.tslice e n zc len idx)=false:=rfl
@[simp] theorem isHc_app (e n b:Nat):isHc (.app e n b)=false:=rfl
@[simp] theorem isHc_store (n:Nat):isHc (.store n)=false:=rfl
section
variable {α : Type} {P : Program} {G : A0u} {B : Nat}
theorem E4u (H:Heap) (F:List Nat) (x:T):frzP H F (.t x) = .t x:=rfl
theorem F2p (σ:Nat->Nat):∀cs:List T,renL σ (cs.map .t)=cs.map .t
 | []=>rfl
 | c::cs=>by simp only[List.map_cons,renL,F2p σ cs,ren]
theorem A2f (n:Nat):∀cs:List T,A1w n (cs.map .t)=true
 | []=>rfl
 | c::cs=>by simp only[List.map_cons,A1w,A2f n cs,under,Bool.and_self]
end
section
variable {Φ : A0v} {E : Pans} {env : List (Nat × PV)} {H : Heap} {nx n j : Nat} {K : A0b -> Prop} {X : A2q -> Prop} {d : Option Nat} {k : MK} {xs : List Opd} {gr : List GI} {pd : Pend} {kp : Bool} {ag : List Nat}
@[simp] theorem runsGE_nil {s:A0b}:A4h Φ E j pd [] s K X=K s:=rfl
@[simp] theorem runsGE_quiet (hk:A0l k=true) (hc:isHc k=false):A4h Φ E j pd (.o ⟨d,k,xs,none⟩ kp ag::gr) ⟨env,H,nx,n⟩ K X =
  A1t (A1z Φ H nx k (xs.map (·.ev env))) fun v=>A6g Φ pd H nx ag (A4h Φ E (j+1) (B2o kp j ⟨d,k,xs,none⟩ ⟨env,H,nx,n⟩ v pd) gr (A0b.set ⟨env,H,nx,n⟩ d (v,H,nx)) K X):=by
 have hp:panM E ⟨env,H,nx,n⟩ ⟨d,k,xs,none⟩=none:=by
  unfold panM;split
  ·rename_i f e;simp only at e;subst e;cases hc
  ·rfl
 simp only[A4h,hp,onPan_none,valD,hk,if_true,valQ,Mini.wants,ifSome_map]
@[simp] theorem runsGE_heavy (hk:A0l k=false) (hc:isHc k=false):A4h Φ E j pd (.o ⟨d,k,xs,none⟩ kp ag::gr) ⟨env,H,nx,n⟩ K X =
  A1t (A0e Φ H nx k (xs.map (·.ev env))) fun q=>A6g Φ pd q.2.1 q.2.2 ag (A4h Φ E (j+1) (B2o kp j ⟨d,k,xs,none⟩ ⟨env,H,nx,n⟩ q.1 pd) gr (A0b.set ⟨env,H,nx,n⟩ d q) K X):=by
 have hp:panM E ⟨env,H,nx,n⟩ ⟨d,k,xs,none⟩=none:=by
  unfold panM;split
  ·rename_i f e;simp only at e;subst e;cases hc
  ·rfl
 simp only[A4h,hp,onPan_none,valD,hk,Bool.false_eq_true,if_false,Mini.wants]
@[simp] theorem runsGE_hcall {f:Nat}:A4h Φ E j pd (.o ⟨d,.hcall f,xs,none⟩ kp ag::gr) ⟨env,H,nx,n⟩ K X =
  D3c (E f (xs.map (·.ev env)) H nx) X (A1t (A0e Φ H nx (.hcall f) (xs.map (·.ev env))) fun q=>A6g Φ pd q.2.1 q.2.2 ag (A4h Φ E (j+1) (B2o kp j ⟨d,.hcall f,xs,none⟩ ⟨env,H,nx,n⟩ q.1 pd) gr (A0b.set ⟨env,H,nx,n⟩ d q) K X)):=by
 have hq:A0l (.hcall f)=false:=rfl;simp only[A4h,panM,valD,hq,Bool.false_eq_true,if_false,Mini.wants]
end
section
variable {P : Program} {G : A0u}
noncomputable def hO (ps0:List PV) (H0:Heap) (nx0:Nat):Out->List PV->Heap->Nat->Option (PV×Heap×Nat)
 | .ret r H' nx'=>hOne ps0 H0 nx0 (r,H',nx')
 | .pan _=>fun _ _ _=>none
end
end Go.Abs
