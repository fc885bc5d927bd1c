/-
 Auxiliary facts. No statement of the program stands here.
-/
import Derived.Test.YtbiadmfmjnoecaaVAQ26
import Derived.Test.YtbiadmfmjnoecaaVAQ17
namespace Go.Proofs.Ytbiadmfmjnoecaa
set_option linter.unusedSimpArgs false
set_option linter.unusedVariables false
open Go Go.Abs
structure Ap where
 feat:Int
 val:Int
def eAp:Enc Ap:=⟨2,fun x=>[iv x.feat,iv x.val],fun _=>rfl,by omega,fun a b h=>by
 obtain⟨a1,a2⟩:=a
 obtain⟨b1,b2⟩:=b
 simp at h
 simp[h]⟩
def eTr:Enc T:=⟨1,fun t=>[t],fun _=>rfl,by omega,fun a b h=>by injection h⟩
noncomputable def mkAp (d:List TD) (i k:Nat) (s:Str):Ap:=⟨k,D9w (A0p d) (A1y (A6p d (A0p d) i s d.length).2)⟩
noncomputable def apUp (d:List TD) (i:Nat):Nat->List Ap
 | 0=>[]
 | k+1=>match (feats d)[k]? with
  | some s=>if(A6p d (A0p d) i s d.length).1=true then apUp d i k++[mkAp d i k s]else apUp d i k
  | none=>apUp d i k
theorem C9t (d:List TD) (i:Nat):∀k,(apUp d i k).length<=k
 | 0=>Nat.le_refl _
 | k+1=>by
  have:=C9t d i k
  simp only[apUp]
  split
  ·split
   ·simp;omega
   ·omega
  ·omega
noncomputable def apT (d:List TD) (i:Nat):T:=A0m eAp (apUp d i (feats d).length)
noncomputable def A7e (d:List TD):Nat->List T
 | 0=>[]
 | i+1=>A7e d i++[apT d i]
theorem B5p (d:List TD):∀i,(A7e d i).length=i
 | 0=>rfl
 | i+1=>by simp[A7e,B5p d i]
noncomputable def C5y (d:List TD):T:=if A1g d≠0 then .tu [nilS,iv (A1g d)]else .tu [A0m eTr (A7e d (A0p d).length),iv 0]
noncomputable def E6w:List T->Option T:=g2 (tSl eCo) tB fun l b=>open Classical in if l.length<=cap/\(∀x∈l,x.code.length<=1000)/\b.length<=1000 then some (iv (D9w l (A1y b)))else none
theorem F6u:GOK Try.prog G 100 E6w:=A6z fun a b x y r ha hb hr=>by
 obtain rfl:b=encB y:=hb
 split at hr
 ·rename_i h;injection hr with hr;subst hr;exact F1h ha h.1 h.2.1 (A0x y) h.2.2
 ·cases hr
theorem F6v {t:T} {l:List Co} (ht:IsS eCo t l) (hl:l.length<=cap) (hs:∀x∈l,x.code.length<=1000) {b:List W} (hb:b.length<=1000):E6w [t,encB b]=some (iv (D9w l (A1y b))):=
 (A5x (τ:=tSl eCo) (σ:=tB) ht rfl).trans (if_pos ⟨hl,hs,hb⟩)
noncomputable def tb29:Tbl:=[(97,gD fun d=>iv (A1g d)),(76,gD A4d),(98,E0a),(99,gInh),(100,E6w)]
theorem B7d:Ctx Try.prog G (orc tb29):=(A1o.cons (B5i C9s) (.cons (B5i B6r) (.cons C9q (.cons F6r (.cons F6u .nil))))).ctx A1w
noncomputable def S75 (t u v:T) (d:List TD) (i:Nat):A0b:=⟨[(9,.t (iv (i:Int))),(8,rowP eTr 0 (A7e d i)),(7,.t v),(5,.t u),(0,.t t)],rowH eTr 103 0 (A7e d i),1,63⟩
noncomputable def S75e (t u v:T) (d:List TD) (i:Nat):A0b:=⟨[(9,.t (iv (i:Int))),(8,rowP eTr 0 (A7e d (i+1))),(7,.t v),(5,.t u),(0,.t t)],rowH eTr 103 0 (A7e d (i+1)),1,63⟩
noncomputable def S75i (t u v:T) (d:List TD) (i k:Nat):A0b:=⟨[(11,.t (iv (k:Int))),(10,rowP eAp 1 (apUp d i k)),(9,.t (iv (i:Int))),(8,rowP eTr 0 (A7e d i)),(7,.t v),(5,.t u),(0,.t t)],rowH eTr 103 0 (A7e d i)++rowH eAp 152 1 (apUp d i k),2,63⟩
noncomputable def S75m (t u v:T) (d:List TD) (i:Nat):A0b:=⟨[(10,.t (apT d i)),(9,.t (iv (i:Int))),(8,rowP eTr 0 (A7e d i)),(7,.t v),(5,.t u),(0,.t t)],rowH eTr 103 0 (A7e d i),1,63⟩
theorem E4d {t:T} {d:List TD} (ht:IsS eTD t d) (hd:DOK d):A0y Try.prog G 75 [t] (· = C5y d):=by
 have gK:gD (fun d=>iv (A1g d)) [t]=some (iv (A1g d)):=B3y ht hd
 have gC:gD A4d [t]=some (A4d d):=B3y ht hd
 refine C5a.call rfl ?_
 unfold B4z
 refine A0a B7d ?_
 simp -implicitDefEqProofs
 by_cases hE:A1g d=0
 ·have hF:=A2m hd hE
  have hg:=hF.good
  have hll:=hF.cod.len
  have hfl:=hF.fl
  have hs':∀x∈A0p d,x.code.length<=1000:=fun x hx=>by have:=hF.cod.size x hx;omega
  rw[hF.codes]at gC
  rw[hE]at gK
  obtain⟨u,hu⟩:∃u,u=A0m eCo (A0p d):=⟨_,rfl⟩
  rw[<-hu]at gC
  have hU:IsS eCo u (A0p d):=hu▸IsS.tree eCo _
  obtain⟨v,hv⟩:∃v,v=A0m eStr (feats d):=⟨_,rfl⟩
  have hV:IsS eStr v (feats d):=hv▸IsS.tree eStr _
  have gF:=C9r ht hg
  rw[<-hv]at gF
  refine A0a B7d ?_
  simp -implicitDefEqProofs [tb29,gK]
  refine A0a B7d ?_
  simp -implicitDefEqProofs [tb29,gC,extractV]
  refine A0a B7d ?_
  simp -implicitDefEqProofs [tb29,gF]
  refine A0a B7d ?_
  simp -implicitDefEqProofs
  refine A0r (fun _:Unit=>S75 t u v d (A0p d).length) (fun _=>True) (fun _=>rfl) ?_ ?_
  ·refine A0a B7d ?_
   simp -implicitDefEqProofs
   refine A0h ?_
   refine A1a (S75 t u v d) (A0p d).length (fun _=>rfl) ?_ rfl ?_ ?_
   ·exact A0j (k:=0) (A0i.nil _ _ _ _) (by omega) (by omega) (by simp -implicitDefEqProofs [A7e,rowP,ren,under])
   ·intro i hi
    have e1:IntKind.i64.wrap ((i:Int)+1)=((i+1:Nat):Int):=A0k (by omega) (by omega)
    have hvl:=B5p d i
    have r0:=A0i.head' eTr 103 0 (A7e d i)
    have e0:rowP eAp 1 (apUp d i 0) = .t nilS:=rfl
    refine A0a B7d ?_
    simp -implicitDefEqProofs [S75,hi,hU.len]
    refine A0r (fun _:Unit=>S75e t u v d i) (fun _=>True) (fun _=>rfl) ?_ ?_
    ·refine A0h ?_
     refine A0a B7d ?_
     simp -implicitDefEqProofs
     refine A0r (fun _:Unit=>S75m t u v d i) (fun _=>True) (fun _=>rfl) ?_ ?_
     ·refine A0a B7d ?_
      simp -implicitDefEqProofs
      refine A0h ?_
      refine A1a (S75i t u v d i) (feats d).length (fun _=>rfl) ?_ rfl ?_ ?_
      ·exact B2o (e:=eTr) (e':=eAp) (k:=0) (k':=1) r0 (A0i.nil _ _ _ _) (by omega) (by omega) (by omega) (by omega) (by omega) (by omega) (by simp -implicitDefEqProofs [e0,A0g,A0e,ren,under])
      ·intro k hk
       obtain⟨s,hs⟩:∃s,(feats d)[k]?=some s:=⟨_,List.getElem?_eq_getElem hk⟩
       have ia:=B5l hV hs
       have gi:=F6s ht hg hF.decls hU hF.cod hi s
       have e2:IntKind.i64.wrap ((k:Int)+1)=((k+1:Nat):Int):=A0k (by omega) (by omega)
       have hal:=C9t d i k
       have hcs:=C4a (d:=d) hF.cod.size i s d.length
       obtain⟨H0,hH0⟩:∃H0,H0=rowH eTr 103 0 (A7e d i)++rowH eAp 152 1 (apUp d i k):=⟨_,rfl⟩
       have a0:A0i eTr 103 H0 0 (A7e d i):=by rw[hH0];exact A0i.head _ _ _ _ _
       have a1:A0i eAp 152 H0 1 (apUp d i k):=by rw[hH0];exact(A0i.head' _ _ _ _).left (by omega)
       have lp:∀c cs,A0f false 1 H0 (.t (.pt (c::cs)))=some (.t c):=fun _ _=>rfl
       have us:apUp d i (k+1)=if(A6p d (A0p d) i s d.length).1=true then apUp d i k++[mkAp d i k s]else apUp d i k:=by simp only[apUp,hs]
       have gf:=F6v hU (by unfold cap;omega) hs' (b:=(A6p d (A0p d) i s d.length).2) (by omega)
       refine A0c B7d ?_
       cases z:(A6p d (A0p d) i s d.length).1 with
       | false=>
        rw[z]at gi us
        simp only[Bool.false_eq_true,if_false]at us
        simp -implicitDefEqProofs [S75i,<-hH0,hk,hV.len,ia,lp,tb29,gi,extractV,e2]
        rw[us]
        exact B2o (e:=eTr) (e':=eAp) (k:=0) (k':=1) a0 a1 (by omega) (by omega) (by omega) (by omega) (by omega) (by omega) (by simp -implicitDefEqProofs [A0g,A0e,ren,under])
       | true=>
        rw[z]at gi us
        simp only[if_true]at us
        have fl:A5r (fun k=>[(0,1),(1,1)][k]?) [.t (.v (.int .i64 0)),.t (.v (.int .i64 0))] [(0,.t (iv (k:Int))),(1,.t (iv (mkAp d i k s).val))]=some [.t (iv (k:Int)),.t (iv (mkAp d i k s).val)]:=rfl
        have ag:agOf [.t (iv (k:Int)),.t (iv (mkAp d i k s).val)] = .t (.ag [iv (k:Int),iv (mkAp d i k s).val]):=rfl
        have gf:E6w [u,encB (A6p d (A0p d) i s d.length).2]=some (iv (mkAp d i k s).val):=gf
        have bs:A1m 152 2 [.int .i64 0,.int .i64 0] 1 [(0,.t (.ag [iv (k:Int),iv (mkAp d i k s).val]))] 2=some (.row 2 0 1 2,.cells 152 ((eAp.enc (mkAp d i k s)).map .t)):=rfl
        obtain⟨b2,H2,n2,ap2,r2,ne2,le2,lk2,ge2⟩:=A1k (e:=eAp) (ty:=152) (by':=16) (nx:=3) (m:=[mkAp d i k s]) (a1.cons (k:=2) (r:=.cells 152 ((eAp.enc (mkAp d i k s)).map .t)) (by omega)) (A3d (b:=2) (ty:=152) (mkAp d i k s) (by simp)) (by simp;omega) (by simp;omega)
        have a0':A0i eTr 103 H2 0 (A7e d i):=a0.imp id fun h=>by
         rw[lk2 0 (by omega) (by omega),look_cons,if_neg (by omega)]
         exact h
        have hz:eAp.z=2:=rfl
        rw[hz,<-us]at ap2
        rw[<-us]at r2
        simp -implicitDefEqProofs [S75i,<-hH0,hk,hV.len,ia,lp,tb29,gi,extractV,gf,fl,ag,bs,ap2,e2]
        exact B2o (e:=eTr) (e':=eAp) (k:=0) (k':=b2) a0' r2 (by omega) (by omega) (by omega) (by omega) (by omega) (by omega) (by simp -implicitDefEqProofs [A0g,A0e,ren,under])
      ·refine A0c B7d ?_
       obtain⟨H0,hH0⟩:∃H0,H0=rowH eTr 103 0 (A7e d i)++rowH eAp 152 1 (apUp d i (feats d).length):=⟨_,rfl⟩
       have a0:A0i eTr 103 H0 0 (A7e d i):=by rw[hH0];exact A0i.head _ _ _ _ _
       have a1:A0i eAp 152 H0 1 (apUp d i (feats d).length):=by rw[hH0];exact(A0i.head' _ _ _ _).left (by omega)
       simp -implicitDefEqProofs [S75i,<-hH0,hV.len]
       refine Next.mk () trivial ((A9c [1]).trans ?_)
       unfold S75m A0b.frz
       refine A0j (k:=0) (A0i.frz a0 (c:=1) (by omega)) (by omega) (by omega) ?_
       simp -implicitDefEqProofs [B9c a1,A9p a0,B3d,A0g,A0e,ren,under,apT]
     ·rintro _ -
      refine A0c B7d ?_
      have bs:A1m 103 1 [.slice none 0 0] 1 [(0,.t (apT d i))] 1=some (.row 1 0 1 1,.cells 103 ((eTr.enc (apT d i)).map .t)):=by
       unfold apT
       cases apUp d i (feats d).length<;>rfl
      obtain⟨b2,H2,n2,ap2,r2,ne2,le2,lk2,ge2⟩:=A1k (e:=eTr) (ty:=103) (by':=24) (nx:=2) (m:=[apT d i]) (r0.cons (k:=1) (r:=.cells 103 ((eTr.enc (apT d i)).map .t)) (by omega)) (A3d (b:=1) (ty:=103) (apT d i) (by simp)) (by simp;omega) (by simp;omega)
      have hz:eTr.z=1:=rfl
      rw[hz]at ap2
      simp -implicitDefEqProofs [S75m,bs,ap2]
      exact Next.mk () trivial (A0j (k:=b2) r2 (by omega) (by omega) (by simp -implicitDefEqProofs [A0g,A0e,ren,under,A7e]))
    ·rintro _ -
     refine A0c B7d ?_
     simp -implicitDefEqProofs [S75e,e1]
     exact A0j (k:=0) (A0i.head' _ _ _ _) (by omega) (by omega) (by simp -implicitDefEqProofs [A0g,A0e,ren,under])
   ·refine A0c B7d ?_
    simp -implicitDefEqProofs [S75,hU.len]
    exact Next.mk () trivial (A0j (k:=0) (A0i.head' _ _ _ _) (by omega) (by omega) (by simp -implicitDefEqProofs [A0g,A0e,ren,under]))
  ·rintro _ -
   refine A0c B7d ?_
   have hres:C5y d = .tu [A0m eTr (A7e d (A0p d).length),iv 0]:=by unfold C5y;rw[if_neg (by rw[hE];simp)]
   have t2:=C9l (A0i.head' eTr 103 0 (A7e d (A0p d).length)) (iv 0)
   simp -implicitDefEqProofs [S75,-oneOf,t2,hres]
 ·have hE':=A7o hE
  have hres:C5y d = .tu [nilS,iv (A1g d)]:=by unfold C5y;rw[if_pos hE]
  refine A0c B7d ?_
  simp -implicitDefEqProofs [tb29,gK,hE,hE',hres]
abbrev VS:=List Int×List Int
def nAt (num:List Int) (i:Nat):Int:=num.getD i 0
def A7y (v:Nat->VS->VS) (st:VS) (a:Arc):VS:=if nAt st.1 a.to.toNat<0 then v a.to.toNat st else st
def A2s (l:List Nd) (n:Nat):List Arc:=match l[n]? with
 | some x=>A3g x.arcs
 | none=>[]
def visF (l:List Nd):Nat->Nat->VS->VS
 | 0,_,st=>st
 | k+1,n,st=>(A2s l n).foldl (A7y (visF l k)) (st.1.set n (st.2.length:Int),st.2++[(n:Int)])
def negs (num:List Int):Nat:=num.countP fun x=>decide (x<0)
theorem E0f {num:List Int} {n:Nat} (h:nAt num n<0):n<num.length:=by
 apply Classical.byContradiction
 intro hn
 unfold nAt at h
 rw[List.getD_eq_getElem?_getD,List.getElem?_eq_none (by omega)]at h
 simp at h
theorem D6e:∀{num:List Int} {n:Nat} {v:Int},nAt num n<0->0<=v->negs (num.set n v)+1=negs num
 | [],n,v,h,_=>by have:=E0f h;simp at this
 | x::r,0,v,h,hv=>by
  have h:x<0:=h
  have hv':¬v<0:=by omega
  simp[negs,List.countP_cons,h,hv']
 | x::r,n+1,v,h,hv=>by
  have h:nAt r n<0:=by simpa[nAt]using h
  have:=D6e h hv
  simp only[negs,List.set_cons_succ,List.countP_cons]at this ⊢
  omega
structure VI (l:List Nd) (st:VS):Prop where
 len:st.1.length=l.length
 sum:st.2.length+negs st.1=l.length
theorem C6m {l:List Nd} {st:VS} {n:Nat} (h:VI l st) (hn:nAt st.1 n<0):VI l (st.1.set n (st.2.length:Int),st.2++[(n:Int)])/\negs (st.1.set n (st.2.length:Int))+1=negs st.1:=by
 have:=D6e hn (v:=(st.2.length:Int)) (by omega)
 refine⟨⟨by simp[h.len],?_⟩,this⟩
 have:=h.sum
 simp only[List.length_append,List.length_cons,List.length_nil]
 omega
theorem D6f {l:List Nd} {v:Nat->VS->VS} (hv:∀n st,VI l st->nAt st.1 n<0->VI l (v n st)/\negs (v n st).1<=negs st.1):∀(ar:List Arc) (st:VS),VI l st->VI l (ar.foldl (A7y v) st)/\negs (ar.foldl (A7y v) st).1<=negs st.1
 | [],st,h=>⟨h,Nat.le_refl _⟩
 | a::ar,st,h=>by
  rw[List.foldl_cons]
  by_cases hc:nAt st.1 a.to.toNat<0
  ·have e:A7y v st a=v a.to.toNat st:=if_pos hc
   rw[e]
   obtain⟨h1,h2⟩:=hv _ st h hc
   obtain⟨h3,h4⟩:=D6f hv ar _ h1
   exact⟨h3,by omega⟩
  ·have e:A7y v st a=st:=if_neg hc
   rw[e]
   exact D6f hv ar st h
theorem F6w {l:List Nd}:∀(k n:Nat) (st:VS),VI l st->nAt st.1 n<0->VI l (visF l k n st)/\negs (visF l k n st).1<=negs st.1
 | 0,_,st,h,_=>⟨h,Nat.le_refl _⟩
 | k+1,n,st,h,hn=>by
  obtain⟨h1,h2⟩:=C6m h hn
  obtain⟨h3,h4⟩:=D6f (F6w k) (A2s l n) _ h1
  refine⟨h3,?_⟩
  have h4:negs ((A2s l n).foldl (A7y (visF l k)) (st.1.set n (st.2.length:Int),st.2++[(n:Int)])).1<=negs (st.1.set n (st.2.length:Int)):=h4
  show negs ((A2s l n).foldl (A7y (visF l k)) (st.1.set n (st.2.length:Int),st.2++[(n:Int)])).1<=_
  omega
theorem C4b (H:Heap) (F:List Nat) (b o:Nat):frzP H F (.ptr b o) = .ptr b o:=rfl
theorem A6k {α:Type} {b:Nat} {q:Nat×α}:∀{H:List (Nat×α)},q∈rem H b->q∈H
 | [],h=>by cases h
 | (k,x)::r,h=>by
  simp only[rem]at h
  split at h
  ·exact List.mem_cons_of_mem _ (A6k h)
  ·rcases List.mem_cons.1 h with h | h
   ·rw[h];exact List.mem_cons_self
   ·exact List.mem_cons_of_mem _ (A6k h)
theorem B0k {α:Type} (e:Enc α) (b:Nat) {l m:List α} (h:l.length=m.length):rowP e b l=rowP e b m:=by
 cases l with
 | nil=>cases m with
  | nil=>rfl
  | cons _ _=>simp at h
 | cons x l=>cases m with
  | nil=>simp at h
  | cons y m=>simp only[rowP,h]
theorem Walk.ld0 {t:T} {a b c:Nat} {num ord:List Int} {H:Heap} (w:Walk t a b c num ord H):A0f false 1 H (.ptr a 0)=some (.t t):=by simp[A0f,w.walk,A6b]
theorem Walk.ld1 {t:T} {a b c:Nat} {num ord:List Int} {H:Heap} (w:Walk t a b c num ord H):A0f false 1 H (.ptr a 1)=some (rowP eInt b num):=by simp[A0f,w.walk,A6b]
theorem Walk.ld2 {t:T} {a b c:Nat} {num ord:List Int} {H:Heap} (w:Walk t a b c num ord H):A0f false 1 H (.ptr a 2)=some (rowP eInt c ord):=by simp[A0f,w.walk,A6b]
theorem Walk.set {t:T} {a b c:Nat} {num ord:List Int} {H:Heap} (w:Walk t a b c num ord H) (n:Nat) (v:Int):Walk t a b c (num.set n v) ord (upd H b (A2r eInt 3 (num.set n v))) where
 walk:=by
  rw[A0n,if_neg w.ab,w.walk]
  simp only[A6b,B0k eInt b (show num.length=(num.set n v).length by simp)]
 num:=by
  rcases w.num with h | h
  ·left;simp[h]
  ·right;rw[A0n,if_pos rfl,h];rfl
 ord:=w.ord.imp id fun h=>by rw[A0n,if_neg (Ne.symm w.bc)];exact h
 ab:=w.ab
 ac:=w.ac
 bc:=w.bc
theorem Walk.keep {t:T} {a b c:Nat} {num ord:List Int} {H H':Heap} (w:Walk t a b c num ord H) (h:∀x,x=a\/x=b\/x=c->Abs.look H' x=Abs.look H x):Walk t a b c num ord H':=
 ⟨by rw[h a (.inl rfl)];exact w.walk,w.num.imp id fun q=>by rw[h b (.inr (.inl rfl))];exact q,w.ord.imp id fun q=>by rw[h c (.inr (.inr rfl))];exact q,w.ab,w.ac,w.bc⟩
theorem Walk.put {t:T} {a b c k:Nat} {num ord ord':List Int} {H H2:Heap} (w:Walk t a b c num ord H) (ha:Abs.look H2 a=Abs.look H a) (hb:Abs.look H2 b=Abs.look H b) (hr:A0i eInt 3 H2 k ord') (hk:a≠k) (hk':b≠k) :
  A0v 1 H2 (.ptr a 2) (rowP eInt k ord')=some (upd H2 a (A6b t b k num ord'))/\Walk t a b k num ord' (upd H2 a (A6b t b k num ord')):=by
 have h2:Abs.look H2 a=some (A6b t b c num ord):=ha.trans w.walk
 refine⟨?_,⟨by rw[A0n,if_pos rfl,h2];rfl,w.num.imp id fun q=>by rw[A0n,if_neg (Ne.symm w.ab),hb];exact q,hr.imp id fun q=>by rw[A0n,if_neg (Ne.symm hk)];exact q,w.ab,hk,hk'⟩⟩
 simp only[A0v,A7a,h2,A6b]
 rfl
theorem Walk.frz {t:T} {a b c k:Nat} {num ord:List Int} {H:Heap} (w:Walk t a b c num ord H) (ha:a≠k) (hb:b≠k) (hc:c≠k):Walk t a b c num ord ((remAll H [k]).map fun q=>(q.1,A3c H [k] q.2)) where
 walk:=by
  have h1:Abs.look (remAll H [k]) a=some (A6b t b c num ord):=by
   show Abs.look (rem H k) a=_
   rw[A1n,if_neg ha,w.walk]
  rw[A7l,h1]
  simp only[A6b,Option.map_some,A3c,List.map_cons,List.map_nil,B3d,A9p w.num hb,A9p w.ord hc]
 num:=A0i.frz w.num hb
 ord:=A0i.frz w.ord hc
 ab:=w.ab
 ac:=w.ac
 bc:=w.bc
theorem Walk.app {t:T} {a b c:Nat} {num ord:List Int} {H:Heap} (w:Walk t a b c num ord H) (l:List Arc) (k:Nat) (ha:a≠k) (hb:b≠k) (hc:c≠k):Walk t a b c num ord (rowH eArc 81 k l++H):=by
 refine w.keep fun x hx=>?_
 cases l with
 | nil=>rfl
 | cons y r=>
  simp only[rowH,List.cons_append,List.nil_append,look_cons]
  rw[if_neg]
  rcases hx with rfl | rfl | rfl
  ·exact Ne.symm ha
  ·exact Ne.symm hb
  ·exact Ne.symm hc
def visJ (l:List Nd) (k n:Nat) (st:VS) (j:Nat):VS:=((A2s l n).take j).foldl (A7y (visF l k)) (st.1.set n (st.2.length:Int),st.2++[(n:Int)])
def S91 (t tr:T) (l:List Nd) (k n:Nat) (st:VS) (j:Nat):A0b:=⟨[(5,.t (iv (j:Int))),(4,.t tr),(1,.t (iv (n:Int))),(0,.ptr 0 0)],B0u t 0 1 3 (visJ l k n st j).1 (visJ l k n st j).2 [],4,62⟩
noncomputable def hw5:HTbl:=[(92,C3g)]
theorem cth5:Ctx Try.prog G (orh [] hw5):=A1o.nil.ctxH (B1j.cons F0l .nil) A1w
theorem D3w {t:T} {l:List Nd} (ht:IsS eNd t l) (hl:l.length<=100000) (ha:∀x∈l,x.arcs.length<=1000000) (hto:∀x∈l,∀a∈x.arcs,0<=a.to/\a.to<(l.length:Int)):∀(k n:Nat) (num ord:List Int),VI l (num,ord)->nAt num n<0->negs num<=k ->
  A8z Try.prog G 91 [.ptr 0 0,.t (iv (n:Int))] (B0u t 0 1 2 num ord []) 3 (.t (.tu [])) (B0u t 0 1 3 (visF l k n (num,ord)).1 (visF l k n (num,ord)).2 []) 4
 | 0,n,num,ord,hi,hn,hk=>by have:=(C6m hi hn).2;simp only at this;omega
 | k+1,n,num,ord,hi,hn,hk=>by
  have IH:=D3w ht hl ha hto k
  obtain⟨hi1,hng⟩:=C6m hi hn
  have hlen:=hi.len
  have hsum:=hi.sum
  simp only at hlen hsum hi1 hng
  have hnl:n<num.length:=E0f hn
  obtain⟨x,hx⟩:∃x,l[n]?=some x:=⟨_,List.getElem?_eq_getElem (by omega)⟩
  have hxm:=List.mem_of_getElem? hx
  have hgn:num[n]?=some num[n]:=List.getElem?_eq_getElem hnl
  have hs:A2s l n=A3g x.arcs:=by simp only[A2s,hx]
  have hsl:(A3g x.arcs).length=x.arcs.length:=C8b _
  have hxa:=ha x hxm
  have hz:eInt.z=1:=rfl
  obtain⟨H0,hH0⟩:∃H0,H0=B0u t 0 1 2 num ord []:=⟨_,rfl⟩
  have w0:Walk t 0 1 2 num ord H0:=by rw[hH0];exact Walk.mk' _ _ _ _ (by omega) (by omega) (by omega)
  rw[<-hH0]
  refine B3r.callP rfl ?_
  unfold A8d
  have w1:=w0.set n (ord.length:Int)
  have st1:=C0u (e:=eInt) (ty:=3) (b:=1) (H:=H0) (off:=0) (y:=(ord.length:Int)) (c:=iv (ord.length:Int)) (w0.num.resolve_left (by intro h;rw[h]at hnl;simp at hnl)) hgn (by decide) rfl rfl
  rw[Nat.add_zero,hz,Nat.mul_one]at st1
  obtain⟨H1,hH1⟩:∃H1,H1=upd H0 1 (A2r eInt 3 (num.set n (ord.length:Int))):=⟨_,rfl⟩
  rw[<-hH1]at st1 w1
  have ia:=A2h (e:=eInt) (b:=1) hgn .i64
  rw[hz,Nat.mul_one]at ia
  refine A0a cth5 ?_
  simp -implicitDefEqProofs [w0.ld1,w0.ld2,A1q,ia,st1]
  have bs:A1m 3 1 [.int .i64 0] 1 [(0,.t (iv (n:Int)))] 3=some (.row 3 0 1 1,.cells 3 ((eInt.enc (n:Int)).map .t)):=rfl
  obtain⟨b2,H2,n2,ap2,r2,ne2,le2,lk2,ge2⟩:=A1k (e:=eInt) (ty:=3) (by':=8) (nx:=4) (m:=[(n:Int)]) (w1.ord.cons (k:=3) (r:=.cells 3 ((eInt.enc (n:Int)).map .t)) (by omega)) (A3d (b:=3) (ty:=3) (n:Int) (by simp)) (by simp;omega) (by simp;omega)
  rw[hz]at ap2
  obtain⟨st2,w2⟩:=w1.put (ha:=(lk2 0 (by omega) (by omega)).trans (by rw[look_cons,if_neg (by omega)])) (hb:=(lk2 1 (by omega) (by omega)).trans (by rw[look_cons,if_neg (by omega)])) r2 (by omega) (by omega)
  obtain⟨H3,hH3⟩:∃H3,H3=upd H2 0 (A6b t 1 b2 (num.set n (ord.length:Int)) (ord++[(n:Int)])):=⟨_,rfl⟩
  rw[<-hH3]at st2 w2
  refine A0a cth5 ?_
  simp -implicitDefEqProofs [w1.ld2,bs,ap2,st2]
  have in0:=B3w ht hx
  have lp:∀c cs,A0f false 1 H3 (.t (.pt (c::cs)))=some (.t c):=fun _ _=>rfl
  have hso:=D2w x.ok hxa H3 n2
  refine A0a cth5 ?_
  simp -implicitDefEqProofs [w2.ld0,in0,lp,hw5,hso]
  refine A0a cth5 ?_
  simp -implicitDefEqProofs
  obtain⟨tr,htr⟩:∃tr,tr=A0m eArc (A3g x.arcs):=⟨_,rfl⟩
  have hT:IsS eArc tr (A3g x.arcs):=htr▸IsS.tree _ _
  have w3:=w2.app (A3g x.arcs) n2 (by omega) (by omega) ne2
  refine A0h ?_
  refine A1a (S91 t tr l k n (num,ord)) (A3g x.arcs).length (fun _=>rfl) ?_ rfl ?_ ?_
  ·refine(A9c [n2]).trans ?_
   unfold S91 A0b.frz
   refine D5l (w3.frz (by omega) (by omega) ne2) (by omega) (by omega) (by omega) (by omega) (by omega) (by omega) (fun q hq=>by cases hq) ?_
   simp -implicitDefEqProofs [B9c (A0i.head eArc 81 H3 n2 (A3g x.arcs)),B3d,C4b,ren,under,<-htr]
  ·intro j hj
   obtain⟨a,hax⟩:∃a,(A3g x.arcs)[j]?=some a:=⟨_,List.getElem?_eq_getElem hj⟩
   have ham:a∈x.arcs:=A9f.1 (List.mem_of_getElem? hax)
   obtain⟨h0,h1⟩:=hto x hxm a ham
   obtain⟨m,hm⟩:∃m:Nat,a.to=(m:Int):=⟨a.to.toNat,by omega⟩
   have hm':a.to.toNat=m:=by omega
   have e1:IntKind.i64.wrap ((j:Int)+1)=((j+1:Nat):Int):=A0k (by omega) (by omega)
   obtain⟨hij,hnj⟩:=D6f (l:=l) (F6w k) ((A2s l n).take j) _ hi1
   have hsucc:visJ l k n (num,ord) (j+1)=A7y (visF l k) (visJ l k n (num,ord) j) a:=by
    unfold visJ
    rw[hs,List.take_add_one,hax]
    simp
   obtain⟨st,hst⟩:∃st,st=visJ l k n (num,ord) j:=⟨_,rfl⟩
   have hij:VI l st:=by rw[hst];exact hij
   have hnj:negs st.1<=k:=by
    have:negs st.1<=negs (num.set n (ord.length:Int)):=by rw[hst];exact hnj
    omega
   rw[<-hst]at hsucc
   have hml:m<st.1.length:=by rw[hij.len];omega
   have hgm:st.1[m]?=some (nAt st.1 m):=by
    unfold nAt
    rw[List.getD_eq_getElem?_getD,List.getElem?_eq_getElem hml]
    rfl
   have ib:=A5h hT hax
   rw[hm]at ib
   obtain⟨Hj,hHj⟩:∃Hj,Hj=B0u t 0 1 3 st.1 st.2 []:=⟨_,rfl⟩
   have wj:Walk t 0 1 3 st.1 st.2 Hj:=by rw[hHj];exact Walk.mk' _ _ _ _ (by omega) (by omega) (by omega)
   have lq:∀c cs,A0f false 1 Hj (.t (.pt (c::cs)))=some (.t c):=fun _ _=>rfl
   have ic:=A2h (e:=eInt) (b:=1) hgm .i64
   rw[hz,Nat.mul_one]at ic
   have ld:=wj.num.load (off:=0) (c:=iv (nAt st.1 m)) hgm rfl
   rw[hz,Nat.mul_one,Nat.add_zero]at ld
   by_cases hc:nAt st.1 m<0
   ·have hv:A7y (visF l k) st a=visF l k m st:=by unfold A7y;rw[hm',if_pos hc]
    have cp:=D8z (IH m st.1 st.2 hij hc hnj) wj (NX:=4) (by omega) (by omega) (by omega)
    have cv:Ctx Try.prog G (orh [] [(91,hOne [.ptr 0 0,.t (iv (m:Int))] Hj 4 (.t (.tu []),B0u t 0 1 4 (visF l k m (st.1,st.2)).1 (visF l k m (st.1,st.2)).2 (rem (rem (rem Hj 0) 1) 3),4+1))]):=by
     refine A1o.nil.ctxH (B1j.cons (D5k cp fun hf b y hb=>?_) .nil) A1w
     rcases A7u (A0t hb)with e | ⟨_,e⟩ | ⟨_,e⟩ | hq
     ·injection e with e _;omega
     ·injection e with e _;omega
     ·injection e with e _;omega
     ·have:=A6k (A6k (A6k hq))
      rw[hHj]at this
      rcases A7u this with e | ⟨_,e⟩ | ⟨_,e⟩ | hq
      ·injection e with e _;omega
      ·injection e with e _;omega
      ·injection e with e _;omega
      ·cases hq
    refine A0c cv ?_
    unfold S91
    rw[<-hst,<-hHj,hsucc,hv]
    simp -implicitDefEqProofs [hj,hT.len,wj.ld1,ib,lq,ic,ld,hc,D5j,e1]
    exact D5l (Walk.mk' _ _ _ _ (by omega) (by omega) (by omega)) (by omega) (by omega) (by omega) (by omega) (by omega) (by omega) (fun q hq=>by cases hq) (by simp -implicitDefEqProofs [ren,under])
   ·have hv:A7y (visF l k) st a=st:=by unfold A7y;rw[hm',if_neg hc]
    refine A0c cth5 ?_
    unfold S91
    rw[<-hst,<-hHj,hsucc,hv]
    simp -implicitDefEqProofs [hj,hT.len,wj.ld1,ib,lq,ic,ld,hc,e1]
    exact D5l wj (by omega) (by omega) (by omega) (by omega) (by omega) (by omega) (fun q hq=>by cases hq) (by simp -implicitDefEqProofs [ren,under])
  ·refine A0c cth5 ?_
   simp -implicitDefEqProofs [S91,hT.len]
   have he:visJ l k n (num,ord) (A3g x.arcs).length=visF l (k+1) n (num,ord):=by
    unfold visJ visF
    rw[hs,List.take_length]
   rw[he]
   exact⟨.inl rfl,_,[],Sub.refl _,rfl,rfl,rfl,rfl⟩
structure VJ (l:List Nd) (st:VS):Prop where
 at':∀(j:Nat) (n:Int),st.2[j]?=some n->0<=n/\n<(l.length:Int)/\nAt st.1 n.toNat=(j:Int)
 par:∀(j:Nat) (n:Int),0<j->st.2[j]?=some n->∃(i:Nat) (m:Int) (a:Arc),i<j/\st.2[i]?=some m/\a∈A2s l m.toNat/\a.to=n
def Par (l:List Nd) (st:VS) (n:Nat):Prop:=st.2=[]\/∃(i:Nat) (m:Int) (a:Arc),st.2[i]?=some m/\a∈A2s l m.toNat/\a.to=(n:Int)
theorem B3g {num:List Int} {n m:Nat} {v:Int} (hn:n<num.length):nAt (num.set n v) m=if m=n then v else nAt num m:=by
 unfold nAt
 rw[List.getD_eq_getElem?_getD,List.getD_eq_getElem?_getD,List.getElem?_set]
 by_cases e:n=m
 ·subst e
  simp[hn]
 ·rw[if_neg e,if_neg (Ne.symm e)]
theorem G3f {l:List Nd} {st:VS} {n:Nat} (hl:st.1.length=l.length) (h:VJ l st) (hn:nAt st.1 n<0) (hp:Par l st n):VJ l (st.1.set n (st.2.length:Int),st.2++[(n:Int)]):=by
 have hnl:=E0f hn
 refine⟨fun j m hj=>?_,fun j m h0 hj=>?_⟩
 ·simp only at hj ⊢
  rw[List.getElem?_append]at hj
  split at hj
  ·obtain⟨h1,h2,h3⟩:=h.at' j m hj
   refine⟨h1,h2,?_⟩
   rw[B3g hnl,if_neg]
   ·exact h3
   ·intro e
    rw[e]at h3
    omega
  ·rename_i hlt
   have hj0:j-st.2.length=0:=by
    have:=(List.getElem?_eq_some_iff.1 hj).1
    simp at this
    omega
   rw[hj0]at hj
   have hj':j=st.2.length:=by omega
   simp at hj
   subst hj
   refine⟨by omega,by omega,?_⟩
   rw[B3g hnl,Int.toNat_natCast,if_pos rfl,hj']
 ·simp only at hj ⊢
  rw[List.getElem?_append]at hj
  split at hj
  ·obtain⟨i,m',a,h1,h2,h3,h4⟩:=h.par j m h0 hj
   exact⟨i,m',a,h1,by rw[List.getElem?_append_left (by omega)];exact h2,h3,h4⟩
  ·rename_i hlt
   have hj0:j-st.2.length=0:=by
    have:=(List.getElem?_eq_some_iff.1 hj).1
    simp at this
    omega
   rw[hj0]at hj
   simp at hj
   subst hj
   rcases hp with hp | ⟨i,m',a,h1,h2,h3⟩
   ·rw[hp]at hj0
    simp at hj0
    omega
   ·have hi:=(List.getElem?_eq_some_iff.1 h1).1
    exact⟨i,m',a,by omega,by rw[List.getElem?_append_left hi];exact h1,h2,h3⟩
theorem E4e {l:List Nd} {v:Nat->VS->VS} {n:Nat}
  (hv:∀m st,VI l st->VJ l st->nAt st.1 m<0->Par l st m->VI l (v m st)/\VJ l (v m st)/\∃r,(v m st).2=st.2++r) :
  ∀(ar:List Arc) (st:VS),(∀a∈ar,a∈A2s l n/\0<=a.to)->VI l st->VJ l st->(∃i:Nat,st.2[i]?=some (n:Int))->VJ l (ar.foldl (A7y v) st)/\∃r,(ar.foldl (A7y v) st).2=st.2++r
 | [],st,_,_,h,_=>⟨h,[],by simp⟩
 | a::ar,st,ha,hi,h,hn=>by
  rw[List.foldl_cons]
  by_cases hc:nAt st.1 a.to.toNat<0
  ·have e:A7y v st a=v a.to.toNat st:=if_pos hc
   rw[e]
   obtain⟨i,hi'⟩:=hn
   have h0:=(ha a List.mem_cons_self)
   obtain⟨h1,h2,r,h3⟩:=hv _ st hi h hc (.inr ⟨i,_,a,hi',by rw[Int.toNat_natCast];exact h0.1,by omega⟩)
   obtain⟨h4,r',h5⟩:=E4e hv ar _ (fun b hb=>ha b (List.mem_cons_of_mem _ hb)) h1 h2 ⟨i,by rw[h3,List.getElem?_append_left (List.getElem?_eq_some_iff.1 hi').1];exact hi'⟩
   exact⟨h4,r++r',by rw[h5,h3,List.append_assoc]⟩
  ·have e:A7y v st a=st:=if_neg hc
   rw[e]
   exact E4e hv ar st (fun b hb=>ha b (List.mem_cons_of_mem _ hb)) hi h hn
theorem G5p {l:List Nd} (hto:∀x∈l,∀a∈x.arcs,0<=a.to/\a.to<(l.length:Int)):∀(k n:Nat) (st:VS),VI l st->VJ l st->nAt st.1 n<0->Par l st n->VI l (visF l k n st)/\VJ l (visF l k n st)/\∃r,(visF l k n st).2=st.2++r
 | 0,_,st,hi,h,_,_=>⟨hi,h,[],by simp[visF]⟩
 | k+1,n,st,hi,h,hn,hp=>by
  have h1:=G3f hi.len h hn hp
  have hi1:=(C6m hi hn).1
  obtain⟨h2,r,h3⟩:=E4e (n:=n) (G5p hto k) (A2s l n) _ (fun a ha=>⟨ha,by
   unfold A2s at ha
   split at ha
   ·rename_i x hx
    exact(hto x (List.mem_of_getElem? hx) a (A9f.1 ha)).1
   ·cases ha⟩) hi1 h1 ⟨st.2.length,by simp⟩
  refine⟨(F6w (k+1) n st hi hn).1,h2,[(n:Int)]++r,?_⟩
  show((A2s l n).foldl (A7y (visF l k)) _).2=_
  rw[h3]
  simp
def renA (num:List Int) (as':List Arc):List Arc:=as'.map fun a=>⟨a.feat,nAt num a.to.toNat⟩
def C4c (num:List Int) (x:Nd):Nd:=⟨x.type,A0m eArc (renA num (A3g x.arcs)),renA num (A3g x.arcs),IsS.tree _ _⟩
def noNd:Nd:=⟨0,nilS,[],IsS.nil⟩
def ndAt (l:List Nd) (n:Int):Nd:=(l[n.toNat]?).getD noNd
def start (l:List Nd):VS:=(List.replicate l.length (-1),[])
def visA (l:List Nd) (root:Nat):VS:=visF l l.length root (start l)
def A4n (l:List Nd) (root:Nat):List Nd:=(visA l root).2.map fun n=>C4c (visA l root).1 (ndAt l n)
theorem D6g (n:Nat):negs (List.replicate n (-1))=n:=by
 unfold negs
 rw[List.countP_replicate]
 simp
theorem B1c {n i:Nat} (h:i<n):nAt (List.replicate n (-1)) i = -1:=by
 unfold nAt
 rw[List.getD_eq_getElem?_getD,List.getElem?_eq_getElem (by simpa using h)]
 simp
theorem G5q (l:List Nd):VI l (start l):=⟨by simp[start],by simp[start,D6g]⟩
theorem G9y (l:List Nd):VJ l (start l):=⟨fun j n h=>by simp[start]at h,fun j n _ h=>by simp[start]at h⟩
theorem D6h {l:List Nd} (hto:∀x∈l,∀a∈x.arcs,0<=a.to/\a.to<(l.length:Int)) {root:Nat} (hr:root<l.length):VI l (visA l root)/\VJ l (visA l root):=by
 have hn:nAt (start l).1 root<0:=by
  show nAt (List.replicate l.length (-1)) root<0
  rw[B1c hr]
  omega
 obtain⟨h1,h2,_⟩:=G5p hto l.length root (start l) (G5q l) (G9y l) hn (.inl rfl)
 exact⟨h1,h2⟩
theorem G3g {l:List Nd} (hto:∀x∈l,∀a∈x.arcs,0<=a.to/\a.to<(l.length:Int)) {root:Nat} (hr:root<l.length) {j:Nat} {y:Nd} (h0:0<j) (hy:(A4n l root)[j]?=some y) :
  ∃(i:Nat) (z:Nd) (a:Arc),i<j/\(A4n l root)[i]?=some z/\a∈z.arcs/\a.to=(j:Int):=by
 obtain⟨_,hj⟩:=D6h hto hr
 unfold A4n at hy
 rw[List.getElem?_map]at hy
 obtain⟨n,hn,_⟩:=A0w hy
 obtain⟨i,m,a,h1,h2,h3,h4⟩:=hj.par j n h0 hn
 refine⟨i,C4c (visA l root).1 (ndAt l m),⟨a.feat,nAt (visA l root).1 a.to.toNat⟩,h1,by unfold A4n;rw[List.getElem?_map,h2];rfl,?_,?_⟩
 ·show _∈renA _ (A3g (ndAt l m).arcs)
  have:A3g (ndAt l m).arcs=A2s l m.toNat:=by
   unfold ndAt A2s
   cases hx:l[m.toNat]? with
   | none=>rfl
   | some x=>rfl
  rw[this]
  exact List.mem_map.2 ⟨a,h3,rfl⟩
 ·show nAt (visA l root).1 a.to.toNat=j
  rw[h4]
  exact(hj.at' j n hn).2.2
theorem A3e {P:Program} {B nx n:Nat} {env env':List (Nat×PV)} {H:Heap} (he:∀q∈env',Abs.look env q.1=some q.2):Sub P G B ⟨env,H,nx,n⟩ ⟨env',H,nx,n⟩:=by
 intro L a w hi
 refine⟨L,⟨hi.heap,hi.nx,hi.base,hi.size,hi.defers,fun k p h=>hi.env k p (he _ (A0t h))⟩,?_,fun _ _=>rfl⟩
 exact⟨Nat.le_refl _,fun _ _ _=>rfl,fun _ h=>h,fun _ h=>.inl h,fun g ⟨b,r,h,e⟩=>.inr ⟨b,r,h,e⟩,A4a.refl w,A7q.refl w⟩
section
variable {α β : Type} {P : Program} {B : Nat}
theorem A2e {e:Enc α} {ty b k nx nx' n:Nat} {l:List α} {env env':List (Nat×PV)} {H R:Heap} (h:A0i e ty H k l) (hb:b<nx') (hB:B<=b)
  (hR:∀q∈R,Abs.look H q.1=some (A1v (fun x=>if x=b then k else x) q.2)/\q.1<nx'/\q.1≠b/\q.1≠k/\A1b nx' q.2=true)
  (he:∀q∈env',Abs.look env q.1=some (ren (fun x=>if x=b then k else x) q.2)/\under nx' q.2=true) :
  Sub P G B ⟨env,H,nx,n⟩ ⟨env',R++rowH e ty b l,nx',n⟩:=by
 refine B2k (fun x=>if x=b then k else x) rfl (by show B<=nx';omega) (fun x hx=>by show(if x=b then k else x)=x;rw[if_neg (by omega)]) he (fun q hq=>?_) (fun q hq q' hq' eqn=>?_)
 ·rcases List.mem_append.1 hq with hq | hq
  ·obtain⟨h1,h2,h3,h4,h5⟩:=hR q hq
   refine⟨?_,h2,h5⟩
   show Abs.look H (if q.1=b then k else q.1)=_
   rw[if_neg h3]
   exact h1
  ·obtain⟨hn,rfl⟩:=A1r hq
   simp only[if_true,A1i,A1e]
   exact⟨h.resolve_left hn,hb,trivial⟩
 ·have key:∀q∈R++rowH e ty b l,q.1=b\/(q.1≠b/\q.1≠k):=by
   intro q hq
   rcases List.mem_append.1 hq with hq | hq
   ·obtain⟨h1,h2,h3,h4,h5⟩:=hR q hq
    exact .inr ⟨h3,h4⟩
   ·obtain⟨hn,rfl⟩:=A1r hq
    exact .inl rfl
  have e:(if q.1=b then k else q.1)=(if q'.1=b then k else q'.1):=eqn
  rcases key q hq with h1 | ⟨h1,h2⟩<;>rcases key q' hq' with h1' | ⟨h1',h2'⟩
  ·rw[h1,h1']
  ·rw[if_pos h1,if_neg h1']at e;exact absurd e.symm h2'
  ·rw[if_neg h1,if_pos h1']at e;exact absurd e h2
  ·rw[if_neg h1,if_neg h1']at e;exact e
theorem C9u {e:Enc α} {e':Enc β} {ty ty' b c k nx nx' n:Nat} {l:List α} {l':List β} {env env':List (Nat×PV)} {H R:Heap} (h:A0i e ty H k l) (h':A0i e' ty' H c l') (hb:b<nx') (hB:B<=b) (hc:c<nx') (cb:c≠b) (ck:c≠k)
  (hR:∀q∈R,Abs.look H q.1=some (A1v (fun x=>if x=b then k else x) q.2)/\q.1<nx'/\q.1≠b/\q.1≠k/\A1b nx' q.2=true)
  (he:∀q∈env',Abs.look env q.1=some (ren (fun x=>if x=b then k else x) q.2)/\under nx' q.2=true) :
  Sub P G B ⟨env,H,nx,n⟩ ⟨env',R++(rowH e' ty' c l'++rowH e ty b l),nx',n⟩:=by
 rw[<-List.append_assoc]
 refine A2e h hb hB (fun q hq=>?_) he
 rcases List.mem_append.1 hq with hq | hq
 ·exact hR q hq
 ·obtain⟨hn,rfl⟩:=A1r hq
  simp only[A1i,A1e]
  exact⟨h'.resolve_left hn,hc,cb,ck,trivial⟩
theorem A0i.right {e:Enc α} {ty b:Nat} {H R:Heap} {l:List α} (h:A0i e ty H b l) (hR:∀q∈R,q.1≠b):A0i e ty (R++H) b l:=by
 induction R with
 | nil=>exact h
 | cons q R ih=>exact A0i.cons (ih fun x hx=>hR x (List.mem_cons_of_mem _ hx)) (hR q List.mem_cons_self)
end
theorem E6x:∀p:PV,ren (fun x=>x) p=p:=by
 intro p
 exact PV.rec (motive_1:=fun p=>ren (fun x=>x) p=p) (motive_2:=fun ps=>renL (fun x=>x) ps=ps) (fun x=>rfl) (fun b o n z=>rfl) (fun b o=>rfl) (fun cs ih=>by simp only[ren,ih]) (fun cs ih=>by simp only[ren,ih])
  (fun f a c ih1 ih2=>by simp only[ren,ih1,ih2]) (fun t x ih=>by simp only[ren,ih]) (fun b=>rfl) rfl rfl (fun p ps h1 h2=>by simp only[renL,h1,h2]) p
theorem F6x:∀ps:List PV,renL (fun x=>x) ps=ps
 | []=>rfl
 | p::ps=>by simp only[renL,E6x p,F6x ps]
theorem F6y (r:Row):A1v (fun x=>x) r=r:=by
 cases r with
 | cells ty cs=>simp only[A1v,F6x]
 | iter t pos=>rfl
 | map kk es=>rfl
 | lp l x k p=>simp only[A1v,E6x]
theorem C4d {P:Program} {B nx nx' n:Nat} {env env':List (Nat×PV)} {H R:Heap} (hB:B<=nx') (hR:∀q∈R,Abs.look H q.1=some q.2/\q.1<nx'/\A1b nx' q.2=true)
  (he:∀q∈env',Abs.look env q.1=some q.2/\under nx' q.2=true):Sub P G B ⟨env,H,nx,n⟩ ⟨env',R,nx',n⟩:=by
 refine B2k (fun x=>x) rfl hB (fun _ _=>rfl) (fun q hq=>?_) (fun q hq=>?_) (fun q _ q' _ e=>e)
 ·rw[E6x];exact he q hq
 ·rw[F6y];exact hR q hq
def tFS:Ty (List Nd):=⟨fun t l=>∃u,t = .ag [u]/\IsS eNd u l,fun t a b h h'=>by
 obtain⟨u,e,h⟩:=h
 obtain⟨v,e',h'⟩:=h'
 rw[e]at e'
 injection e' with e'
 injection e' with e'
 subst e'
 exact(tSl eNd).uniq _ _ _ h h'⟩
def arcN (a:Arc):List Int:=[a.feat,a.to]
def D6i (x:Nd):List Int:=x.type::(x.arcs.length:Int)::x.arcs.flatMap arcN
def A8i (l:List Nd):List Int:=(l.length:Int)::l.flatMap D6i
def B5q (l:List Nd) (i:Nat):List Int:=(l.length:Int)::(l.take i).flatMap D6i
def B9h (l:List Nd) (i:Nat) (x:Nd) (k:Nat):List Int:=B5q l i++[x.type,(x.arcs.length:Int)]++(x.arcs.take k).flatMap arcN
theorem C1l (l:List Arc):(l.flatMap arcN).length=2*l.length:=by
 induction l with
 | nil=>rfl
 | cons a r ih=>simp only[List.flatMap_cons,List.length_append,ih,List.length_cons,arcN,List.length_nil];omega
theorem D3x {n:Nat}:∀(l:List Nd),(∀x∈l,x.arcs.length<=n)->(l.flatMap D6i).length<=l.length*(2+2*n)
 | [],_=>by simp
 | x::r,h=>by
  have ih:=D3x r fun y hy=>h y (List.mem_cons_of_mem _ hy)
  have hx:=h x List.mem_cons_self
  have e:(r.length+1)*(2+2*n)=r.length*(2+2*n)+(2+2*n):=Nat.succ_mul _ _
  simp only[List.flatMap_cons,List.length_append,D6i,List.length_cons,C1l]
  rw[e]
  omega
theorem E0g {l:List Nd} (hl:l.length<=100000) (h:∀x∈l,x.arcs.length<=1000000) (i:Nat):(B5q l i).length<=1+100000*2000002:=by
 have h1:=D3x (n:=1000000) (l.take i) fun x hx=>h x (List.mem_of_mem_take hx)
 have h2:(l.take i).length<=100000:=by rw[List.length_take];omega
 have h3:(l.take i).length*(2+2*1000000)<=100000*(2+2*1000000):=Nat.mul_le_mul_right _ h2
 simp only[B5q,List.length_cons]
 omega
theorem F1s {l:List Nd} {i:Nat} {x:Nd} (h:l[i]?=some x):B5q l (i+1)=B9h l i x x.arcs.length:=by
 unfold B9h B5q
 rw[List.take_add_one,h,List.take_length]
 simp[D6i]
theorem F1t {l:List Nd} {i:Nat} {x:Nd} {k:Nat} {a:Arc} (h:x.arcs[k]?=some a):B9h l i x (k+1)=B9h l i x k++[a.feat,a.to]:=by
 unfold B9h
 rw[List.take_add_one,h]
 simp[arcN]
theorem C9v (l:List Nd):B5q l l.length=A8i l:=by unfold B5q A8i;rw[List.take_length]
def S87R (t:T):Heap:=[(0,.cells 25 [.t t])]
def S87 (t:T) (l:List Nd) (i:Nat):A0b:=⟨[(4,.t (iv (i:Int))),(3,rowP eInt 1 (B5q l i)),(1,.ptr 0 0)],S87R t++rowH eInt 3 1 (B5q l i),2,55⟩
def S87e (t:T) (l:List Nd) (i:Nat):A0b:=⟨[(4,.t (iv (i:Int))),(3,rowP eInt 1 (B5q l (i+1))),(1,.ptr 0 0)],S87R t++rowH eInt 3 1 (B5q l (i+1)),2,55⟩
def S87i (t:T) (l:List Nd) (i:Nat) (x:Nd) (k:Nat):A0b:=⟨[(6,.t (iv (k:Int))),(5,.t x.tree),(4,.t (iv (i:Int))),(3,rowP eInt 1 (B9h l i x k)),(1,.ptr 0 0)],S87R t++rowH eInt 3 1 (B9h l i x k),2,55⟩
theorem F6z {t:T} {H:Heap} {k:Nat} (h:Abs.look H 0=some (.cells 25 [.t t])) (hk:k≠0):∀q∈S87R t,Abs.look H q.1=some (A1v (fun x=>if x=1 then k else x) q.2)/\q.1<2/\q.1≠1/\q.1≠k/\A1b 2 q.2=true:=by
 intro q hq
 simp only[S87R,List.mem_cons,List.not_mem_nil,or_false]at hq
 subst hq
 exact⟨h,by omega,by omega,by show 0≠k;omega,rfl⟩
theorem E0h {t:T} {l:List Nd} (ht:IsS eNd t l) (hl:l.length<=100000) (ha:∀x∈l,x.arcs.length<=1000000):A0y Try.prog G 87 [.ag [t]] (· = A0m eInt (A8i l)):=by
 have hz:eInt.z=1:=rfl
 have cp:A0q (.t (.ag [t]))=some [.t t]:=rfl
 refine C0s.call rfl ?_
 unfold B2s
 refine A0a ctx0 ?_
 simp -implicitDefEqProofs [cp]
 have bs0:A1m 3 1 [.int .i64 0] 1 [(0,.t (iv (l.length:Int)))] 1=some (.row 1 0 1 1,.cells 3 [.t (iv (l.length:Int))]):=rfl
 refine A0a ctx0 ?_
 simp -implicitDefEqProofs [A0f,ht.len,bs0]
 refine A0r (fun _:Unit=>S87 t l l.length) (fun _=>True) (fun _=>rfl) ?_ ?_
 ·refine A0a ctx0 ?_
  simp -implicitDefEqProofs
  refine A0h ?_
  refine A1a (S87 t l) l.length (fun _=>rfl) ?_ rfl ?_ ?_
  ·have h0:B5q l 0=[(l.length:Int)]:=rfl
   unfold S87
   rw[h0]
   refine A2e (k:=1) (.inr (by simp[A2r,eInt])) (by omega) (by omega) (F6z (by simp) (by omega)) (by simp -implicitDefEqProofs [rowP,ren,under,eInt])
  ·intro i hi
   obtain⟨x,hx⟩:∃x,l[i]?=some x:=⟨_,List.getElem?_eq_getElem hi⟩
   have hxa:=ha x (List.mem_of_getElem? hx)
   have e1:IntKind.i64.wrap ((i:Int)+1)=((i+1:Nat):Int):=A0k (by omega) (by omega)
   have ix:=B3w ht hx
   have hnl:=E0g hl ha i
   obtain⟨H0,hH0⟩:∃H0,H0=S87R t++rowH eInt 3 1 (B5q l i):=⟨_,rfl⟩
   have l0:Abs.look H0 0=some (.cells 25 [.t t]):=by rw[hH0];rfl
   have r1:A0i eInt 3 H0 1 (B5q l i):=by rw[hH0];exact A0i.right (A0i.head' _ _ _ _) (by simp[S87R])
   have ld0:A0f false 1 H0 (.ptr 0 0)=some (.t t):=by simp[A0f,l0]
   have lp:∀c cs,A0f false 1 H0 (.t (.pt (c::cs)))=some (.t c):=fun _ _=>rfl
   refine A0a ctx0 ?_
   simp -implicitDefEqProofs [S87,<-hH0,hi,ld0,ht.len]
   refine A0r (fun _:Unit=>S87e t l i) (fun _=>True) (fun _=>rfl) ?_ ?_
   ·refine A0h ?_
    refine A0a ctx0 ?_
    simp -implicitDefEqProofs [ld0,ix,lp]
    have bs:A1m 3 1 [.int .i64 0] 2 [(0,.t (iv x.type)),(1,.t (iv (x.arcs.length:Int)))] 2=some (.row 2 0 2 1,.cells 3 [.t (iv x.type),.t (iv (x.arcs.length:Int))]):=rfl
    obtain⟨b2,H2,n2,ap2,r2,ne2,le2,lk2,ge2⟩:=A1k (e:=eInt) (ty:=3) (by':=8) (nx:=3) (m:=[x.type,(x.arcs.length:Int)]) (src:=.row 2 0 2 1) (r1.cons (k:=2) (r:=.cells 3 [.t (iv x.type),.t (iv (x.arcs.length:Int))]) (by omega)) (by simp[srcP,eInt]) (by simp;omega) (by simp;omega)
    rw[hz]at ap2
    refine A0a ctx0 ?_
    simp -implicitDefEqProofs [ld0,ix,lp,x.ok.len,bs,ap2]
    refine A0a ctx0 ?_
    simp -implicitDefEqProofs
    refine A0h ?_
    refine A1a (S87i t l i x) x.arcs.length (fun _=>rfl) ?_ rfl ?_ ?_
    ·have h0:B9h l i x 0=B5q l i++[x.type,(x.arcs.length:Int)]:=by simp[B9h]
     unfold S87i
     rw[h0]
     exact A2e (k:=b2) r2 (by omega) (by omega) (F6z (by rw[lk2 0 (by omega) (by omega),look_cons,if_neg (by omega)];exact l0) (by omega)) (by simp -implicitDefEqProofs [A0g,A0e,ren,under])
    ·intro k hk
     obtain⟨a,hak⟩:∃a,x.arcs[k]?=some a:=⟨_,List.getElem?_eq_getElem hk⟩
     have e2:IntKind.i64.wrap ((k:Int)+1)=((k+1:Nat):Int):=A0k (by omega) (by omega)
     have ib:=A5h x.ok hak
     have hil:(B9h l i x k).length<=1+100000*2000002+2+2*1000000:=by
      have:(x.arcs.take k).length<=1000000:=by rw[List.length_take];omega
      simp only[B9h,List.length_append,C1l,List.length_cons,List.length_nil]
      omega
     obtain⟨Hk,hHk⟩:∃Hk,Hk=S87R t++rowH eInt 3 1 (B9h l i x k):=⟨_,rfl⟩
     have k0:Abs.look Hk 0=some (.cells 25 [.t t]):=by rw[hHk];rfl
     have k1:A0i eInt 3 Hk 1 (B9h l i x k):=by rw[hHk];exact A0i.right (A0i.head' _ _ _ _) (by simp[S87R])
     have lq:∀c cs,A0f false 1 Hk (.t (.pt (c::cs)))=some (.t c):=fun _ _=>rfl
     have ts:A9a 3 1 [.int .i64 0] 2 [(0,.t (iv a.feat)),(1,.t (iv a.to))]=some (.t (A0m eInt [a.feat,a.to])):=rfl
     have hsrc:srcP Hk eInt.z (.t (A0m eInt [a.feat,a.to]))=_:=A7m (IsS.tree eInt [a.feat,a.to])
     obtain⟨b3,H3,n3,ap3,r3,ne3,le3,lk3,ge3⟩:=A1k (e:=eInt) (ty:=3) (by':=8) (nx:=2) k1 hsrc (by simp;omega) (by simp;omega)
     rw[<-F1t hak]at ap3 r3
     rw[hz]at ap3
     refine A0c ctx0 ?_
     simp -implicitDefEqProofs [S87i,<-hHk,hk,x.ok.len,ib,lq,ts,ap3,e2]
     exact A2e (b:=1) (k:=b3) (nx':=2) r3 (by omega) (by omega) (F6z (by rw[lk3 0 (by omega) (by omega)];exact k0) (by omega)) (by simp -implicitDefEqProofs [A0g,A0e,ren,under])
    ·refine A0c ctx0 ?_
     rw[show S87e t l i=⟨[(4,.t (iv (i:Int))),(3,rowP eInt 1 (B9h l i x x.arcs.length)),(1,.ptr 0 0)],S87R t++rowH eInt 3 1 (B9h l i x x.arcs.length),2,55⟩by unfold S87e;rw[F1s hx]]
     simp -implicitDefEqProofs [S87i,x.ok.len]
     exact Next.mk () trivial (A3e (by simp -implicitDefEqProofs))
   ·rintro _ -
    refine A0c ctx0 ?_
    simp -implicitDefEqProofs [S87e,e1]
    exact A3e (by simp -implicitDefEqProofs)
  ·refine A0c ctx0 ?_
   have ld0:A0f false 1 (S87R t++rowH eInt 3 1 (B5q l l.length)) (.ptr 0 0)=some (.t t):=rfl
   simp -implicitDefEqProofs [S87,ld0,ht.len]
   exact Next.mk () trivial (A3e (by simp -implicitDefEqProofs))
 ·rintro _ -
  refine A0c ctx0 ?_
  have tt:=A0i.toT (A0i.right (R:=S87R t) (A0i.head' eInt 3 1 (B5q l l.length)) (by simp[S87R]))
  rw[C9v]at tt
  simp -implicitDefEqProofs [S87,tt,C9v]
structure A2t (l:List Nd):Prop where
 len:l.length<=100000
 arcs:∀x∈l,x.arcs.length<=1000000
theorem E0i {l:List Nd} (h:A2t l):(A8i l).length<=1+100000*2000002:=by
 rw[<-C9v]
 exact E0g h.len h.arcs _
noncomputable def G7u:List T->Option T:=g1 tFS fun l=>open Classical in if A2t l then some (A0m eInt (A8i l))else none
theorem G3h:GOK Try.prog G 87 G7u:=C7j fun a x r ha hr=>by
 obtain⟨u,rfl,hu⟩:=ha
 split at hr
 ·rename_i h;injection hr with hr;subst hr;exact E0h hu h.len h.arcs
 ·cases hr
theorem E6y {t:T} {l:List Nd} (ht:IsS eNd t l) (h:A2t l):G7u [.ag [t]]=some (A0m eInt (A8i l)):=
 (C7k (τ:=tFS) ⟨t,rfl,ht⟩).trans (if_pos h)
def cmpE (l m:List Int) (i:Nat):Int:=match l[i]?,m[i]? with
 | some a,some b=>if a<b then -1 else if b<a then 1 else 0
 | _,_=>0
def B6s (l m:List Int):Int:=fst (cmpE l m) (min l.length m.length)
noncomputable def tw9:Tbl:=[(87,G7u)]
theorem ctw9:Ctx Try.prog G (orc tw9):=(A1o.cons G3h .nil).ctx A1w
theorem E6z {t:T} {l:List Int} (h:IsS eInt t l) {i:Nat} {x:Int} (hx:l[i]?=some x):A2j 1 (.t t) (.t (iv (i:Int)))=some (.t (.pt (iv x::rest eInt l i))):=h.iaddr hx .i64
def S64 (u v:T) (j:Nat):A0b:=⟨[(7,.t (iv (j:Int))),(6,.t v),(5,.t u)],[],2,42⟩
theorem E0j {t t':T} {a b:List Nd} (ht:IsS eNd t a) (ht':IsS eNd t' b) (ha:A2t a) (hb:A2t b):A0y Try.prog G 64 [.ag [t],.ag [t']] (· = iv (B6s (A8i a) (A8i b))):=by
 have cp:A0q (.t (.ag [t]))=some [.t t]:=rfl
 have cp':A0q (.t (.ag [t']))=some [.t t']:=rfl
 have ag:agOf [.t t] = .t (.ag [t]):=rfl
 have ag':agOf [.t t'] = .t (.ag [t']):=rfl
 obtain⟨u,hu⟩:∃u,u=A0m eInt (A8i a):=⟨_,rfl⟩
 obtain⟨v,hv⟩:∃v,v=A0m eInt (A8i b):=⟨_,rfl⟩
 have hU:IsS eInt u (A8i a):=hu▸IsS.tree _ _
 have hV:IsS eInt v (A8i b):=hv▸IsS.tree _ _
 have ga:=E6y ht ha
 have gb:=E6y ht' hb
 rw[<-hu]at ga
 rw[<-hv]at gb
 have hal:=E0i ha
 have hbl:=E0i hb
 refine C0q.call rfl ?_
 unfold B2q
 refine A0a ctw9 ?_
 simp -implicitDefEqProofs [cp,cp']
 refine A0a ctw9 ?_
 simp -implicitDefEqProofs [A0f,ag,tw9,ga]
 refine A0a ctw9 ?_
 simp -implicitDefEqProofs [A0f,ag',tw9,gb]
 generalize A8i a=l at *
 generalize A8i b=m at *
 obtain⟨n,hle,h0,hn⟩:=A6a (cmpE l m) (min l.length m.length)
 refine A0r (fun _:Unit=>S64 u v (min l.length m.length)) (fun _=>n=min l.length m.length) (fun _=>rfl) ?_ ?_
 ·refine A0a ctw9 ?_
  simp -implicitDefEqProofs
  refine A0h ?_
  refine A1a (S64 u v) n (fun _=>rfl) ?_ rfl ?_ ?_
  ·refine A0d rfl rfl ?_ ?_<;>simp -implicitDefEqProofs [S64]
  ·intro j hj
   have hjl:j<l.length:=by omega
   have hjm:j<m.length:=by omega
   obtain⟨x,hx⟩:∃x,l[j]?=some x:=⟨_,List.getElem?_eq_getElem hjl⟩
   obtain⟨y,hy⟩:∃y,m[j]?=some y:=⟨_,List.getElem?_eq_getElem hjm⟩
   have e1:IntKind.i64.wrap ((j:Int)+1)=((j+1:Nat):Int):=A0k (by omega) (by omega)
   have ix:=E6z hU hx
   have iy:=E6z hV hy
   have hz:=h0 j hj
   simp only[cmpE,hx,hy]at hz
   have c1:¬x<y:=fun h=>by rw[if_pos h]at hz;cases hz
   rw[if_neg c1]at hz
   have c2:¬y<x:=fun h=>by rw[if_pos h]at hz;cases hz
   refine A0c ctw9 ?_
   simp -implicitDefEqProofs [S64,hjl,hjm,hU.len,hV.len,ix,iy,A0f,c1,c2,e1]
   refine A0d rfl rfl ?_ ?_<;>simp -implicitDefEqProofs
  ·refine A0c ctw9 ?_
   rcases hn with⟨e,_⟩ | ⟨hlt,hk,he⟩
   ·by_cases hl:n<l.length
    ·have hm:¬n<m.length:=by omega
     simp -implicitDefEqProofs [S64,hU.len,hV.len,hl,hm]
     exact Next.mk () e (A0d rfl rfl (by simp -implicitDefEqProofs [e]) (by simp -implicitDefEqProofs))
    ·simp -implicitDefEqProofs [S64,hU.len,hV.len,hl]
     exact Next.mk () e (A0d rfl rfl (by simp -implicitDefEqProofs [e]) (by simp -implicitDefEqProofs))
   ·have hjl:n<l.length:=by omega
    have hjm:n<m.length:=by omega
    obtain⟨x,hx⟩:∃x,l[n]?=some x:=⟨_,List.getElem?_eq_getElem hjl⟩
    obtain⟨y,hy⟩:∃y,m[n]?=some y:=⟨_,List.getElem?_eq_getElem hjm⟩
    have ix:=E6z hU hx
    have iy:=E6z hV hy
    have he:B6s l m=cmpE l m n:=he
    simp only[cmpE,hx,hy]at hk he
    by_cases c1:x<y
    ·rw[if_pos c1]at he
     simp -implicitDefEqProofs [S64,hjl,hjm,hU.len,hV.len,ix,iy,A0f,c1,he]
    ·rw[if_neg c1]at he hk
     have c2:y<x:=Classical.byContradiction fun h=>by rw[if_neg h]at hk;exact hk rfl
     rw[if_pos c2]at he
     simp -implicitDefEqProofs [S64,hjl,hjm,hU.len,hV.len,ix,iy,A0f,c1,c2,he]
 ·rintro _ e
  refine A0c ctw9 ?_
  have hr:B6s l m=0:=by
   rcases hn with⟨_,he⟩ | ⟨h,_⟩
   ·exact he
   ·omega
  simp -implicitDefEqProofs [S64,hr]
noncomputable def C9w:List T->Option T:=g2 tFS tFS fun a b=>open Classical in if A2t a/\A2t b then some (iv (B6s (A8i a) (A8i b)))else none
theorem E0k:GOK Try.prog G 64 C9w:=A6z fun a b x y r ha hb hr=>by
 obtain⟨u,rfl,hu⟩:=ha
 obtain⟨v,rfl,hv⟩:=hb
 split at hr
 ·rename_i h;injection hr with hr;subst hr;exact E0j hu hv h.1 h.2
 ·cases hr
theorem E0l {t t':T} {a b:List Nd} (ht:IsS eNd t a) (ht':IsS eNd t' b) (ha:A2t a) (hb:A2t b):C9w [.ag [t],.ag [t']]=some (iv (B6s (A8i a) (A8i b))):=
 (A5x (τ:=tFS) (σ:=tFS) ⟨t,rfl,ht⟩ ⟨t',rfl,ht'⟩).trans (if_pos ⟨ha,hb⟩)
noncomputable def tw9b:Tbl:=[(64,C9w)]
theorem ctw9b:Ctx Try.prog G (orc tw9b):=(A1o.cons E0k .nil).ctx A1w
def eqE (a b:List Nd):Bool:=B6s (A8i a) (A8i b)==0
theorem F1u {t t':T} {a b:List Nd} (ht:IsS eNd t a) (ht':IsS eNd t' b) (ha:A2t a) (hb:A2t b):A0y Try.prog G 33 [.ag [t],.ag [t']] (· = bv (eqE a b)):=by
 have cp:A0q (.t (.ag [t]))=some [.t t]:=rfl
 have cp':A0q (.t (.ag [t']))=some [.t t']:=rfl
 have ag:agOf [.t t] = .t (.ag [t]):=rfl
 have ag':agOf [.t t'] = .t (.ag [t']):=rfl
 have g:=E0l ht ht' ha hb
 refine C7o.runs ctw9b rfl ?_
 simp -implicitDefEqProofs [B8j,cp,cp',A0f,ag,ag',tw9b,g,eqE]
noncomputable def C9x:List T->Option T:=g2 tFS tFS fun a b=>open Classical in if A2t a/\A2t b then some (bv (eqE a b))else none
theorem C4e:GOK Try.prog G 33 C9x:=A6z fun a b x y r ha hb hr=>by
 obtain⟨u,rfl,hu⟩:=ha
 obtain⟨v,rfl,hv⟩:=hb
 split at hr
 ·rename_i h;injection hr with hr;subst hr;exact F1u hu hv h.1 h.2
 ·cases hr
theorem A7f {t t':T} {a b:List Nd} (ht:IsS eNd t a) (ht':IsS eNd t' b) (ha:A2t a) (hb:A2t b):C9x [.ag [t],.ag [t']]=some (bv (eqE a b)):=
 (A5x (τ:=tFS) (σ:=tFS) ⟨t,rfl,ht⟩ ⟨t',rfl,ht'⟩).trans (if_pos ⟨ha,hb⟩)
def Nd.key (x:Nd):Int×List Arc:=(x.type,x.arcs)
def E0m:List Int->List Int->Prop
 | a::l,b::m=>a=b/\E0m l m
 | _,_=>True
theorem E7a:∀{l m:List Int},(∀(i:Nat) a b,l[i]?=some a->m[i]?=some b->a=b)->E0m l m
 | [],_,_=>by unfold E0m;trivial
 | _::_,[],_=>by unfold E0m;trivial
 | a::l,b::m,h=>⟨h 0 a b rfl rfl,E7a fun i x y hx hy=>h (i+1) x y (by simpa using hx) (by simpa using hy)⟩
theorem C5m:∀{p q l m:List Int},p.length=q.length->E0m (p++l) (q++m)->p=q/\E0m l m
 | [],[],_,_,_,h=>⟨rfl,h⟩
 | [],_::_,_,_,e,_=>by simp at e
 | _::_,[],_,_,e,_=>by simp at e
 | a::p,b::q,l,m,e,h=>by
  have h:a=b/\E0m (p++l) (q++m):=h
  obtain⟨h1,h2⟩:=C5m (by simpa using e) h.2
  exact⟨by rw[h.1,h1],h2⟩
theorem E0n:∀{l m:List Arc},l.length=m.length->l.flatMap arcN=m.flatMap arcN->l=m
 | [],[],_,_=>rfl
 | [],_::_,e,_=>by simp at e
 | _::_,[],e,_=>by simp at e
 | ⟨a1,a2⟩::l,⟨b1,b2⟩::m,e,h=>by
  simp only[List.flatMap_cons,arcN,List.cons_append,List.nil_append,List.cons.injEq]at h
  rw[h.1,h.2.1,E0n (by simpa using e) h.2.2]
theorem C9y:∀{a b:List Nd},a.length=b.length->E0m (a.flatMap D6i) (b.flatMap D6i)->a.map Nd.key=b.map Nd.key
 | [],[],_,_=>rfl
 | [],_::_,e,_=>by simp at e
 | _::_,[],e,_=>by simp at e
 | x::a,y::b,e,h=>by
  simp only[List.flatMap_cons,D6i,List.cons_append]at h
  obtain⟨h1,h2,h3⟩:=h
  have hl:x.arcs.length=y.arcs.length:=by omega
  obtain⟨h4,h5⟩:=C5m (by rw[C1l,C1l,hl]) h3
  have h6:=E0n hl h4
  simp only[List.map_cons,Nd.key,h1,h6]
  rw[C9y (by simpa using e) h5]
theorem F7a {a b:List Nd} (h:a.map Nd.key=b.map Nd.key):A8i a=A8i b:=by
 have key:∀l:List Nd,l.flatMap D6i=(l.map Nd.key).flatMap fun k=>k.1::(k.2.length:Int)::k.2.flatMap arcN:=by
  intro l
  induction l with
  | nil=>rfl
  | cons x l ih=>simp only[List.flatMap_cons,List.map_cons,ih];rfl
 have hl:a.length=b.length:=by simpa using congrArg List.length h
 unfold A8i
 rw[key a,key b,h,hl]
theorem E4f {a b:List Nd}:eqE a b=true ↔ a.map Nd.key=b.map Nd.key:=by
 unfold eqE
 rw[beq_iff_eq]
 constructor
 ·intro h
  have hz:∀(i:Nat) x y,(A8i a)[i]?=some x->(A8i b)[i]?=some y->x=y:=by
   intro i x y hx hy
   have h1:=(List.getElem?_eq_some_iff.1 hx).1
   have h2:=(List.getElem?_eq_some_iff.1 hy).1
   have:=A4l h i (by omega)
   simp only[cmpE,hx,hy]at this
   split at this
   ·cases this
   ·split at this
    ·cases this
    ·omega
  obtain⟨h1,h2⟩:=E7a hz
  exact C9y (by omega) h2
 ·intro h
  rw[F7a h]
  refine D5g fun i hi=>?_
  simp only[Nat.min_self]at hi
  simp[cmpE,List.getElem?_eq_getElem hi]
end Go.Proofs.Ytbiadmfmjnoecaa
