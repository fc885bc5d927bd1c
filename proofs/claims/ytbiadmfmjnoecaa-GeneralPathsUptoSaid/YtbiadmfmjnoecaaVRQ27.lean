/-
 Auxiliary facts. No statement of the program stands here.
-/
import Derived.Test.YtbiadmfmjnoecaaVRQ26
import Derived.Test.YtbiadmfmjnoecaaVRQ17
namespace Go.Proofs.Ytbiadmfmjnoecaa
set_option linter.unusedSimpArgs false
set_option linter.unusedVariables false
open Go Go.Abs
structure Ap where
 feat:Int
 val:Int
def eAp:Enc Ap:=⟨2,fun x=>[iv x.feat,iv x.val],fun _=>rfl,by omega,fun a b h=>by
 obtain⟨a1,a2⟩:=a
 obtain⟨b1,b2⟩:=b
 simp at h
 simp[h]⟩
def eTr:Enc T:=⟨1,fun t=>[t],fun _=>rfl,by omega,fun a b h=>by injection h⟩
noncomputable def mkAp (d:List TD) (i k:Nat) (s:Str):Ap:=⟨k,D9r (A0q d) (A1x (A6l d (A0q d) i s d.length).2)⟩
noncomputable def apUp (d:List TD) (i:Nat):Nat->List Ap
 | 0=>[]
 | k+1=>match (feats d)[k]? with
  | some s=>if(A6l d (A0q d) i s d.length).1=true then apUp d i k++[mkAp d i k s]else apUp d i k
  | none=>apUp d i k
theorem C9a (d:List TD) (i:Nat):∀k,(apUp d i k).length<=k
 | 0=>Nat.le_refl _
 | k+1=>by
  have:=C9a d i k
  simp only[apUp]
  split
  ·split
   ·simp;omega
   ·omega
  ·omega
noncomputable def apT (d:List TD) (i:Nat):T:=A0k eAp (apUp d i (feats d).length)
noncomputable def A7a (d:List TD):Nat->List T
 | 0=>[]
 | i+1=>A7a d i++[apT d i]
theorem B4u (d:List TD):∀i,(A7a d i).length=i
 | 0=>rfl
 | i+1=>by simp[A7a,B4u d i]
noncomputable def C5d (d:List TD):T:=if A1i d≠0 then .tu [nilS,iv (A1i d)]else .tu [A0k eTr (A7a d (A0q d).length),iv 0]
noncomputable def E7i:List T->Option T:=g2 (tSl eCo) tB fun l b=>open Classical in if l.length<=cap/\(∀x∈l,x.code.length<=1000)/\b.length<=1000 then some (iv (D9r l (A1x b)))else none
theorem F7k:GOK Try.prog G 100 E7i:=A6w fun a b x y r ha hb hr=>by
 obtain rfl:b=encB y:=hb
 split at hr
 ·rename_i h;injection hr with hr;subst hr;exact F1w ha h.1 h.2.1 (A1h y) h.2.2
 ·cases hr
theorem F7l {t:T} {l:List Co} (ht:IsS eCo t l) (hl:l.length<=cap) (hs:∀x∈l,x.code.length<=1000) {b:List W} (hb:b.length<=1000):E7i [t,encB b]=some (iv (D9r l (A1x b))):=
 (A5y (τ:=tSl eCo) (σ:=tB) ht rfl).trans (if_pos ⟨hl,hs,hb⟩)
noncomputable def tb29:Tbl:=[(97,gD fun d=>iv (A1i d)),(76,gD A4c),(98,D9v),(99,gInh),(100,E7i)]
theorem B6o:Ctx Try.prog G (orc tb29):=(A1t.cons (B4m C8z) (.cons (B4m B6a) (.cons C8x (.cons F7h (.cons F7k .nil))))).ctx A1u
noncomputable def S75 (t u v:T) (d:List TD) (i:Nat):A0b:=⟨[(9,.t (iv (i:Int))),(8,rowP eTr 0 (A7a d i)),(7,.t v),(5,.t u),(0,.t t)],rowH eTr 103 0 (A7a d i),1,63⟩
noncomputable def S75e (t u v:T) (d:List TD) (i:Nat):A0b:=⟨[(9,.t (iv (i:Int))),(8,rowP eTr 0 (A7a d (i+1))),(7,.t v),(5,.t u),(0,.t t)],rowH eTr 103 0 (A7a d (i+1)),1,63⟩
noncomputable def S75i (t u v:T) (d:List TD) (i k:Nat):A0b:=⟨[(11,.t (iv (k:Int))),(10,rowP eAp 1 (apUp d i k)),(9,.t (iv (i:Int))),(8,rowP eTr 0 (A7a d i)),(7,.t v),(5,.t u),(0,.t t)],rowH eTr 103 0 (A7a d i)++rowH eAp 152 1 (apUp d i k),2,63⟩
noncomputable def S75m (t u v:T) (d:List TD) (i:Nat):A0b:=⟨[(10,.t (apT d i)),(9,.t (iv (i:Int))),(8,rowP eTr 0 (A7a d i)),(7,.t v),(5,.t u),(0,.t t)],rowH eTr 103 0 (A7a d i),1,63⟩
theorem E3x {t:T} {d:List TD} (ht:IsS eTD t d) (hd:DOK d):A0y Try.prog G 75 [t] (· = C5d d):=by
 have gK:gD (fun d=>iv (A1i d)) [t]=some (iv (A1i d)):=B3e ht hd
 have gC:gD A4c [t]=some (A4c d):=B3e ht hd
 refine C4d.call rfl ?_
 unfold B4d
 refine A0a B6o ?_
 simp -implicitDefEqProofs
 by_cases hE:A1i d=0
 ·have hF:=A2q hd hE
  have hg:=hF.good
  have hll:=hF.cod.len
  have hfl:=hF.fl
  have hs':∀x∈A0q d,x.code.length<=1000:=fun x hx=>by have:=hF.cod.size x hx;omega
  rw[hF.codes]at gC
  rw[hE]at gK
  obtain⟨u,hu⟩:∃u,u=A0k eCo (A0q d):=⟨_,rfl⟩
  rw[<-hu]at gC
  have hU:IsS eCo u (A0q d):=hu▸IsS.tree eCo _
  obtain⟨v,hv⟩:∃v,v=A0k eStr (feats d):=⟨_,rfl⟩
  have hV:IsS eStr v (feats d):=hv▸IsS.tree eStr _
  have gF:=C8y ht hg
  rw[<-hv]at gF
  refine A0a B6o ?_
  simp -implicitDefEqProofs [tb29,gK]
  refine A0a B6o ?_
  simp -implicitDefEqProofs [tb29,gC,extractV]
  refine A0a B6o ?_
  simp -implicitDefEqProofs [tb29,gF]
  refine A0a B6o ?_
  simp -implicitDefEqProofs
  refine A0s (fun _:Unit=>S75 t u v d (A0q d).length) (fun _=>True) (fun _=>rfl) ?_ ?_
  ·refine A0a B6o ?_
   simp -implicitDefEqProofs
   refine A0h ?_
   refine A1b (S75 t u v d) (A0q d).length (fun _=>rfl) ?_ rfl ?_ ?_
   ·exact A0i (k:=0) (A0j.nil _ _ _ _) (by omega) (by omega) (by simp -implicitDefEqProofs [A7a,rowP,ren,under])
   ·intro i hi
    have e1:IntKind.i64.wrap ((i:Int)+1)=((i+1:Nat):Int):=A0l (by omega) (by omega)
    have hvl:=B4u d i
    have r0:=A0j.head' eTr 103 0 (A7a d i)
    have e0:rowP eAp 1 (apUp d i 0) = .t nilS:=rfl
    refine A0a B6o ?_
    simp -implicitDefEqProofs [S75,hi,hU.len]
    refine A0s (fun _:Unit=>S75e t u v d i) (fun _=>True) (fun _=>rfl) ?_ ?_
    ·refine A0h ?_
     refine A0a B6o ?_
     simp -implicitDefEqProofs
     refine A0s (fun _:Unit=>S75m t u v d i) (fun _=>True) (fun _=>rfl) ?_ ?_
     ·refine A0a B6o ?_
      simp -implicitDefEqProofs
      refine A0h ?_
      refine A1b (S75i t u v d i) (feats d).length (fun _=>rfl) ?_ rfl ?_ ?_
      ·exact B1z (e:=eTr) (e':=eAp) (k:=0) (k':=1) r0 (A0j.nil _ _ _ _) (by omega) (by omega) (by omega) (by omega) (by omega) (by omega) (by simp -implicitDefEqProofs [e0,A0g,A0e,ren,under])
      ·intro k hk
       obtain⟨s,hs⟩:∃s,(feats d)[k]?=some s:=⟨_,List.getElem?_eq_getElem hk⟩
       have ia:=B4p hV hs
       have gi:=F7i ht hg hF.decls hU hF.cod hi s
       have e2:IntKind.i64.wrap ((k:Int)+1)=((k+1:Nat):Int):=A0l (by omega) (by omega)
       have hal:=C9a d i k
       have hcs:=C3f (d:=d) hF.cod.size i s d.length
       obtain⟨H0,hH0⟩:∃H0,H0=rowH eTr 103 0 (A7a d i)++rowH eAp 152 1 (apUp d i k):=⟨_,rfl⟩
       have a0:A0j eTr 103 H0 0 (A7a d i):=by rw[hH0];exact A0j.head _ _ _ _ _
       have a1:A0j eAp 152 H0 1 (apUp d i k):=by rw[hH0];exact(A0j.head' _ _ _ _).left (by omega)
       have lp:∀c cs,A0f false 1 H0 (.t (.pt (c::cs)))=some (.t c):=fun _ _=>rfl
       have us:apUp d i (k+1)=if(A6l d (A0q d) i s d.length).1=true then apUp d i k++[mkAp d i k s]else apUp d i k:=by simp only[apUp,hs]
       have gf:=F7l hU (by unfold cap;omega) hs' (b:=(A6l d (A0q d) i s d.length).2) (by omega)
       refine A0d B6o ?_
       cases z:(A6l d (A0q d) i s d.length).1 with
       | false=>
        rw[z]at gi us
        simp only[Bool.false_eq_true,if_false]at us
        simp -implicitDefEqProofs [S75i,<-hH0,hk,hV.len,ia,lp,tb29,gi,extractV,e2]
        rw[us]
        exact B1z (e:=eTr) (e':=eAp) (k:=0) (k':=1) a0 a1 (by omega) (by omega) (by omega) (by omega) (by omega) (by omega) (by simp -implicitDefEqProofs [A0g,A0e,ren,under])
       | true=>
        rw[z]at gi us
        simp only[if_true]at us
        have fl:A5q (fun k=>[(0,1),(1,1)][k]?) [.t (.v (.int .i64 0)),.t (.v (.int .i64 0))] [(0,.t (iv (k:Int))),(1,.t (iv (mkAp d i k s).val))]=some [.t (iv (k:Int)),.t (iv (mkAp d i k s).val)]:=rfl
        have ag:agOf [.t (iv (k:Int)),.t (iv (mkAp d i k s).val)] = .t (.ag [iv (k:Int),iv (mkAp d i k s).val]):=rfl
        have gf:E7i [u,encB (A6l d (A0q d) i s d.length).2]=some (iv (mkAp d i k s).val):=gf
        have bs:A1p 152 2 [.int .i64 0,.int .i64 0] 1 [(0,.t (.ag [iv (k:Int),iv (mkAp d i k s).val]))] 2=some (.row 2 0 1 2,.cells 152 ((eAp.enc (mkAp d i k s)).map .t)):=rfl
        obtain⟨b2,H2,n2,ap2,r2,ne2,le2,lk2,ge2⟩:=A1k (e:=eAp) (ty:=152) (by':=16) (nx:=3) (m:=[mkAp d i k s]) (a1.cons (k:=2) (r:=.cells 152 ((eAp.enc (mkAp d i k s)).map .t)) (by omega)) (A3r (b:=2) (ty:=152) (mkAp d i k s) (by simp)) (by simp;omega) (by simp;omega)
        have a0':A0j eTr 103 H2 0 (A7a d i):=a0.imp id fun h=>by
         rw[lk2 0 (by omega) (by omega),look_cons,if_neg (by omega)]
         exact h
        have hz:eAp.z=2:=rfl
        rw[hz,<-us]at ap2
        rw[<-us]at r2
        simp -implicitDefEqProofs [S75i,<-hH0,hk,hV.len,ia,lp,tb29,gi,extractV,gf,fl,ag,bs,ap2,e2]
        exact B1z (e:=eTr) (e':=eAp) (k:=0) (k':=b2) a0' r2 (by omega) (by omega) (by omega) (by omega) (by omega) (by omega) (by simp -implicitDefEqProofs [A0g,A0e,ren,under])
      ·refine A0d B6o ?_
       obtain⟨H0,hH0⟩:∃H0,H0=rowH eTr 103 0 (A7a d i)++rowH eAp 152 1 (apUp d i (feats d).length):=⟨_,rfl⟩
       have a0:A0j eTr 103 H0 0 (A7a d i):=by rw[hH0];exact A0j.head _ _ _ _ _
       have a1:A0j eAp 152 H0 1 (apUp d i (feats d).length):=by rw[hH0];exact(A0j.head' _ _ _ _).left (by omega)
       simp -implicitDefEqProofs [S75i,<-hH0,hV.len]
       refine Next.mk () trivial ((B0e [1]).trans ?_)
       unfold S75m A0b.frz
       refine A0i (k:=0) (A0j.frz a0 (c:=1) (by omega)) (by omega) (by omega) ?_
       simp -implicitDefEqProofs [C8q a1,B4t a0,B8t,A0g,A0e,ren,under,apT]
     ·rintro _ -
      refine A0d B6o ?_
      have bs:A1p 103 1 [.slice none 0 0] 1 [(0,.t (apT d i))] 1=some (.row 1 0 1 1,.cells 103 ((eTr.enc (apT d i)).map .t)):=by
       unfold apT
       cases apUp d i (feats d).length<;>rfl
      obtain⟨b2,H2,n2,ap2,r2,ne2,le2,lk2,ge2⟩:=A1k (e:=eTr) (ty:=103) (by':=24) (nx:=2) (m:=[apT d i]) (r0.cons (k:=1) (r:=.cells 103 ((eTr.enc (apT d i)).map .t)) (by omega)) (A3r (b:=1) (ty:=103) (apT d i) (by simp)) (by simp;omega) (by simp;omega)
      have hz:eTr.z=1:=rfl
      rw[hz]at ap2
      simp -implicitDefEqProofs [S75m,bs,ap2]
      exact Next.mk () trivial (A0i (k:=b2) r2 (by omega) (by omega) (by simp -implicitDefEqProofs [A0g,A0e,ren,under,A7a]))
    ·rintro _ -
     refine A0d B6o ?_
     simp -implicitDefEqProofs [S75e,e1]
     exact A0i (k:=0) (A0j.head' _ _ _ _) (by omega) (by omega) (by simp -implicitDefEqProofs [A0g,A0e,ren,under])
   ·refine A0d B6o ?_
    simp -implicitDefEqProofs [S75,hU.len]
    exact Next.mk () trivial (A0i (k:=0) (A0j.head' _ _ _ _) (by omega) (by omega) (by simp -implicitDefEqProofs [A0g,A0e,ren,under]))
  ·rintro _ -
   refine A0d B6o ?_
   have hres:C5d d = .tu [A0k eTr (A7a d (A0q d).length),iv 0]:=by unfold C5d;rw[if_neg (by rw[hE];simp)]
   have t2:=E3m (A0j.head' eTr 103 0 (A7a d (A0q d).length)) (iv 0)
   simp -implicitDefEqProofs [S75,-oneOf,t2,hres]
 ·have hE':=A7h hE
  have hres:C5d d = .tu [nilS,iv (A1i d)]:=by unfold C5d;rw[if_pos hE]
  refine A0d B6o ?_
  simp -implicitDefEqProofs [tb29,gK,hE,hE',hres]
abbrev VS:=List Int×List Int
def nAt (num:List Int) (i:Nat):Int:=num.getD i 0
def B1g (v:Nat->VS->VS) (st:VS) (a:Arc):VS:=if nAt st.1 a.to.toNat<0 then v a.to.toNat st else st
def A4d (l:List Nd) (n:Nat):List Arc:=match l[n]? with
 | some x=>A3s x.arcs
 | none=>[]
def visF (l:List Nd):Nat->Nat->VS->VS
 | 0,_,st=>st
 | k+1,n,st=>(A4d l n).foldl (B1g (visF l k)) (st.1.set n (st.2.length:Int),st.2++[(n:Int)])
def negs (num:List Int):Nat:=num.countP fun x=>decide (x<0)
theorem F7m {num:List Int} {n:Nat} (h:nAt num n<0):n<num.length:=by
 apply Classical.byContradiction
 intro hn
 unfold nAt at h
 rw[List.getD_eq_getElem?_getD,List.getElem?_eq_none (by omega)]at h
 simp at h
theorem E7j:∀{num:List Int} {n:Nat} {v:Int},nAt num n<0->0<=v->negs (num.set n v)+1=negs num
 | [],n,v,h,_=>by have:=F7m h;simp at this
 | x::r,0,v,h,hv=>by
  have h:x<0:=h
  have hv':¬v<0:=by omega
  simp[negs,List.countP_cons,h,hv']
 | x::r,n+1,v,h,hv=>by
  have h:nAt r n<0:=by simpa[nAt]using h
  have:=E7j h hv
  simp only[negs,List.set_cons_succ,List.countP_cons]at this ⊢
  omega
structure VI (l:List Nd) (st:VS):Prop where
 len:st.1.length=l.length
 sum:st.2.length+negs st.1=l.length
theorem C5s {l:List Nd} {st:VS} {n:Nat} (h:VI l st) (hn:nAt st.1 n<0):VI l (st.1.set n (st.2.length:Int),st.2++[(n:Int)])/\negs (st.1.set n (st.2.length:Int))+1=negs st.1:=by
 have:=E7j hn (v:=(st.2.length:Int)) (by omega)
 refine⟨⟨by simp[h.len],?_⟩,this⟩
 have:=h.sum
 simp only[List.length_append,List.length_cons,List.length_nil]
 omega
theorem D5p {l:List Nd} {v:Nat->VS->VS} (hv:∀n st,VI l st->nAt st.1 n<0->VI l (v n st)/\negs (v n st).1<=negs st.1):∀(ar:List Arc) (st:VS),VI l st->VI l (ar.foldl (B1g v) st)/\negs (ar.foldl (B1g v) st).1<=negs st.1
 | [],st,h=>⟨h,Nat.le_refl _⟩
 | a::ar,st,h=>by
  rw[List.foldl_cons]
  by_cases hc:nAt st.1 a.to.toNat<0
  ·have e:B1g v st a=v a.to.toNat st:=if_pos hc
   rw[e]
   obtain⟨h1,h2⟩:=hv _ st h hc
   obtain⟨h3,h4⟩:=D5p hv ar _ h1
   exact⟨h3,by omega⟩
  ·have e:B1g v st a=st:=if_neg hc
   rw[e]
   exact D5p hv ar st h
theorem F7n {l:List Nd}:∀(k n:Nat) (st:VS),VI l st->nAt st.1 n<0->VI l (visF l k n st)/\negs (visF l k n st).1<=negs st.1
 | 0,_,st,h,_=>⟨h,Nat.le_refl _⟩
 | k+1,n,st,h,hn=>by
  obtain⟨h1,h2⟩:=C5s h hn
  obtain⟨h3,h4⟩:=D5p (F7n k) (A4d l n) _ h1
  refine⟨h3,?_⟩
  have h4:negs ((A4d l n).foldl (B1g (visF l k)) (st.1.set n (st.2.length:Int),st.2++[(n:Int)])).1<=negs (st.1.set n (st.2.length:Int)):=h4
  show negs ((A4d l n).foldl (B1g (visF l k)) (st.1.set n (st.2.length:Int),st.2++[(n:Int)])).1<=_
  omega
theorem D5q (H:Heap) (F:List Nat) (b o:Nat):frzP H F (.ptr b o) = .ptr b o:=rfl
theorem A6j {α:Type} {b:Nat} {q:Nat×α}:∀{H:List (Nat×α)},q∈rem H b->q∈H
 | [],h=>by cases h
 | (k,x)::r,h=>by
  simp only[rem]at h
  split at h
  ·exact List.mem_cons_of_mem _ (A6j h)
  ·rcases List.mem_cons.1 h with h | h
   ·rw[h];exact List.mem_cons_self
   ·exact List.mem_cons_of_mem _ (A6j h)
theorem D5r {α:Type} (e:Enc α) (b:Nat) {l m:List α} (h:l.length=m.length):rowP e b l=rowP e b m:=by
 cases l with
 | nil=>cases m with
  | nil=>rfl
  | cons _ _=>simp at h
 | cons x l=>cases m with
  | nil=>simp at h
  | cons y m=>simp only[rowP,h]
theorem Walk.ld0 {t:T} {a b c:Nat} {num ord:List Int} {H:Heap} (w:Walk t a b c num ord H):A0f false 1 H (.ptr a 0)=some (.t t):=by simp[A0f,w.walk,A6a]
theorem Walk.ld1 {t:T} {a b c:Nat} {num ord:List Int} {H:Heap} (w:Walk t a b c num ord H):A0f false 1 H (.ptr a 1)=some (rowP eInt b num):=by simp[A0f,w.walk,A6a]
theorem Walk.ld2 {t:T} {a b c:Nat} {num ord:List Int} {H:Heap} (w:Walk t a b c num ord H):A0f false 1 H (.ptr a 2)=some (rowP eInt c ord):=by simp[A0f,w.walk,A6a]
theorem Walk.set {t:T} {a b c:Nat} {num ord:List Int} {H:Heap} (w:Walk t a b c num ord H) (n:Nat) (v:Int):Walk t a b c (num.set n v) ord (upd H b (A1g eInt 3 (num.set n v))) where
 walk:=by
  rw[A0u,if_neg w.ab,w.walk]
  simp only[A6a,D5r eInt b (show num.length=(num.set n v).length by simp)]
 num:=by
  rcases w.num with h | h
  ·left;simp[h]
  ·right;rw[A0u,if_pos rfl,h];rfl
 ord:=w.ord.imp id fun h=>by rw[A0u,if_neg (Ne.symm w.bc)];exact h
 ab:=w.ab
 ac:=w.ac
 bc:=w.bc
theorem Walk.keep {t:T} {a b c:Nat} {num ord:List Int} {H H':Heap} (w:Walk t a b c num ord H) (h:∀x,x=a\/x=b\/x=c->Abs.look H' x=Abs.look H x):Walk t a b c num ord H':=
 ⟨by rw[h a (.inl rfl)];exact w.walk,w.num.imp id fun q=>by rw[h b (.inr (.inl rfl))];exact q,w.ord.imp id fun q=>by rw[h c (.inr (.inr rfl))];exact q,w.ab,w.ac,w.bc⟩
theorem Walk.put {t:T} {a b c k:Nat} {num ord ord':List Int} {H H2:Heap} (w:Walk t a b c num ord H) (ha:Abs.look H2 a=Abs.look H a) (hb:Abs.look H2 b=Abs.look H b) (hr:A0j eInt 3 H2 k ord') (hk:a≠k) (hk':b≠k) :
  A1e 1 H2 (.ptr a 2) (rowP eInt k ord')=some (upd H2 a (A6a t b k num ord'))/\Walk t a b k num ord' (upd H2 a (A6a t b k num ord')):=by
 have h2:Abs.look H2 a=some (A6a t b c num ord):=ha.trans w.walk
 refine⟨?_,⟨by rw[A0u,if_pos rfl,h2];rfl,w.num.imp id fun q=>by rw[A0u,if_neg (Ne.symm w.ab),hb];exact q,hr.imp id fun q=>by rw[A0u,if_neg (Ne.symm hk)];exact q,w.ab,hk,hk'⟩⟩
 simp only[A1e,B0z,h2,A6a]
 rfl
theorem Walk.frz {t:T} {a b c k:Nat} {num ord:List Int} {H:Heap} (w:Walk t a b c num ord H) (ha:a≠k) (hb:b≠k) (hc:c≠k):Walk t a b c num ord ((remAll H [k]).map fun q=>(q.1,A4f H [k] q.2)) where
 walk:=by
  have h1:Abs.look (remAll H [k]) a=some (A6a t b c num ord):=by
   show Abs.look (rem H k) a=_
   rw[A1m,if_neg ha,w.walk]
  rw[A5v,h1]
  simp only[A6a,Option.map_some,A4f,List.map_cons,List.map_nil,B8t,B4t w.num hb,B4t w.ord hc]
 num:=A0j.frz w.num hb
 ord:=A0j.frz w.ord hc
 ab:=w.ab
 ac:=w.ac
 bc:=w.bc
theorem Walk.app {t:T} {a b c:Nat} {num ord:List Int} {H:Heap} (w:Walk t a b c num ord H) (l:List Arc) (k:Nat) (ha:a≠k) (hb:b≠k) (hc:c≠k):Walk t a b c num ord (rowH eArc 81 k l++H):=by
 refine w.keep fun x hx=>?_
 cases l with
 | nil=>rfl
 | cons y r=>
  simp only[rowH,List.cons_append,List.nil_append,look_cons]
  rw[if_neg]
  rcases hx with rfl | rfl | rfl
  ·exact Ne.symm ha
  ·exact Ne.symm hb
  ·exact Ne.symm hc
def visJ (l:List Nd) (k n:Nat) (st:VS) (j:Nat):VS:=((A4d l n).take j).foldl (B1g (visF l k)) (st.1.set n (st.2.length:Int),st.2++[(n:Int)])
def S91 (t tr:T) (l:List Nd) (k n:Nat) (st:VS) (j:Nat):A0b:=⟨[(5,.t (iv (j:Int))),(4,.t tr),(1,.t (iv (n:Int))),(0,.ptr 0 0)],B0f t 0 1 3 (visJ l k n st j).1 (visJ l k n st j).2 [],4,62⟩
noncomputable def hw5:HTbl:=[(92,C2n)]
theorem cth5:Ctx Try.prog G (orh [] hw5):=A1t.nil.ctxH (A8b.cons F0y .nil) A1u
theorem D3m {t:T} {l:List Nd} (ht:IsS eNd t l) (hl:l.length<=100000) (ha:∀x∈l,x.arcs.length<=1000000) (hto:∀x∈l,∀a∈x.arcs,0<=a.to/\a.to<(l.length:Int)):∀(k n:Nat) (num ord:List Int),VI l (num,ord)->nAt num n<0->negs num<=k ->
  A5s Try.prog G 91 [.ptr 0 0,.t (iv (n:Int))] (B0f t 0 1 2 num ord []) 3 (.t (.tu [])) (B0f t 0 1 3 (visF l k n (num,ord)).1 (visF l k n (num,ord)).2 []) 4
 | 0,n,num,ord,hi,hn,hk=>by have:=(C5s hi hn).2;simp only at this;omega
 | k+1,n,num,ord,hi,hn,hk=>by
  have IH:=D3m ht hl ha hto k
  obtain⟨hi1,hng⟩:=C5s hi hn
  have hlen:=hi.len
  have hsum:=hi.sum
  simp only at hlen hsum hi1 hng
  have hnl:n<num.length:=F7m hn
  obtain⟨x,hx⟩:∃x,l[n]?=some x:=⟨_,List.getElem?_eq_getElem (by omega)⟩
  have hxm:=List.mem_of_getElem? hx
  have hgn:num[n]?=some num[n]:=List.getElem?_eq_getElem hnl
  have hs:A4d l n=A3s x.arcs:=by simp only[A4d,hx]
  have hsl:(A3s x.arcs).length=x.arcs.length:=C7i _
  have hxa:=ha x hxm
  have hz:eInt.z=1:=rfl
  obtain⟨H0,hH0⟩:∃H0,H0=B0f t 0 1 2 num ord []:=⟨_,rfl⟩
  have w0:Walk t 0 1 2 num ord H0:=by rw[hH0];exact Walk.mk' _ _ _ _ (by omega) (by omega) (by omega)
  rw[<-hH0]
  refine B2x.callP rfl ?_
  unfold A7r
  have w1:=w0.set n (ord.length:Int)
  have st1:=B0y (e:=eInt) (ty:=3) (b:=1) (H:=H0) (off:=0) (y:=(ord.length:Int)) (c:=iv (ord.length:Int)) (w0.num.resolve_left (by intro h;rw[h]at hnl;simp at hnl)) hgn (by decide) rfl rfl
  rw[Nat.add_zero,hz,Nat.mul_one]at st1
  obtain⟨H1,hH1⟩:∃H1,H1=upd H0 1 (A1g eInt 3 (num.set n (ord.length:Int))):=⟨_,rfl⟩
  rw[<-hH1]at st1 w1
  have ia:=A1r (e:=eInt) (b:=1) hgn .i64
  rw[hz,Nat.mul_one]at ia
  refine A0a cth5 ?_
  simp -implicitDefEqProofs [w0.ld1,w0.ld2,A2f,ia,st1]
  have bs:A1p 3 1 [.int .i64 0] 1 [(0,.t (iv (n:Int)))] 3=some (.row 3 0 1 1,.cells 3 ((eInt.enc (n:Int)).map .t)):=rfl
  obtain⟨b2,H2,n2,ap2,r2,ne2,le2,lk2,ge2⟩:=A1k (e:=eInt) (ty:=3) (by':=8) (nx:=4) (m:=[(n:Int)]) (w1.ord.cons (k:=3) (r:=.cells 3 ((eInt.enc (n:Int)).map .t)) (by omega)) (A3r (b:=3) (ty:=3) (n:Int) (by simp)) (by simp;omega) (by simp;omega)
  rw[hz]at ap2
  obtain⟨st2,w2⟩:=w1.put (ha:=(lk2 0 (by omega) (by omega)).trans (by rw[look_cons,if_neg (by omega)])) (hb:=(lk2 1 (by omega) (by omega)).trans (by rw[look_cons,if_neg (by omega)])) r2 (by omega) (by omega)
  obtain⟨H3,hH3⟩:∃H3,H3=upd H2 0 (A6a t 1 b2 (num.set n (ord.length:Int)) (ord++[(n:Int)])):=⟨_,rfl⟩
  rw[<-hH3]at st2 w2
  refine A0a cth5 ?_
  simp -implicitDefEqProofs [w1.ld2,bs,ap2,st2]
  have in0:=B6m ht hx
  have lp:∀c cs,A0f false 1 H3 (.t (.pt (c::cs)))=some (.t c):=fun _ _=>rfl
  have hso:=D2m x.ok hxa H3 n2
  refine A0a cth5 ?_
  simp -implicitDefEqProofs [w2.ld0,in0,lp,hw5,hso]
  refine A0a cth5 ?_
  simp -implicitDefEqProofs
  obtain⟨tr,htr⟩:∃tr,tr=A0k eArc (A3s x.arcs):=⟨_,rfl⟩
  have hT:IsS eArc tr (A3s x.arcs):=htr▸IsS.tree _ _
  have w3:=w2.app (A3s x.arcs) n2 (by omega) (by omega) ne2
  refine A0h ?_
  refine A1b (S91 t tr l k n (num,ord)) (A3s x.arcs).length (fun _=>rfl) ?_ rfl ?_ ?_
  ·refine(B0e [n2]).trans ?_
   unfold S91 A0b.frz
   refine D4v (w3.frz (by omega) (by omega) ne2) (by omega) (by omega) (by omega) (by omega) (by omega) (by omega) (fun q hq=>by cases hq) ?_
   simp -implicitDefEqProofs [C8q (A0j.head eArc 81 H3 n2 (A3s x.arcs)),B8t,D5q,ren,under,<-htr]
  ·intro j hj
   obtain⟨a,hax⟩:∃a,(A3s x.arcs)[j]?=some a:=⟨_,List.getElem?_eq_getElem hj⟩
   have ham:a∈x.arcs:=B3z.1 (List.mem_of_getElem? hax)
   obtain⟨h0,h1⟩:=hto x hxm a ham
   obtain⟨m,hm⟩:∃m:Nat,a.to=(m:Int):=⟨a.to.toNat,by omega⟩
   have hm':a.to.toNat=m:=by omega
   have e1:IntKind.i64.wrap ((j:Int)+1)=((j+1:Nat):Int):=A0l (by omega) (by omega)
   obtain⟨hij,hnj⟩:=D5p (l:=l) (F7n k) ((A4d l n).take j) _ hi1
   have hsucc:visJ l k n (num,ord) (j+1)=B1g (visF l k) (visJ l k n (num,ord) j) a:=by
    unfold visJ
    rw[hs,List.take_add_one,hax]
    simp
   obtain⟨st,hst⟩:∃st,st=visJ l k n (num,ord) j:=⟨_,rfl⟩
   have hij:VI l st:=by rw[hst];exact hij
   have hnj:negs st.1<=k:=by
    have:negs st.1<=negs (num.set n (ord.length:Int)):=by rw[hst];exact hnj
    omega
   rw[<-hst]at hsucc
   have hml:m<st.1.length:=by rw[hij.len];omega
   have hgm:st.1[m]?=some (nAt st.1 m):=by
    unfold nAt
    rw[List.getD_eq_getElem?_getD,List.getElem?_eq_getElem hml]
    rfl
   have ib:=A7k hT hax
   rw[hm]at ib
   obtain⟨Hj,hHj⟩:∃Hj,Hj=B0f t 0 1 3 st.1 st.2 []:=⟨_,rfl⟩
   have wj:Walk t 0 1 3 st.1 st.2 Hj:=by rw[hHj];exact Walk.mk' _ _ _ _ (by omega) (by omega) (by omega)
   have lq:∀c cs,A0f false 1 Hj (.t (.pt (c::cs)))=some (.t c):=fun _ _=>rfl
   have ic:=A1r (e:=eInt) (b:=1) hgm .i64
   rw[hz,Nat.mul_one]at ic
   have ld:=wj.num.load (off:=0) (c:=iv (nAt st.1 m)) hgm rfl
   rw[hz,Nat.mul_one,Nat.add_zero]at ld
   by_cases hc:nAt st.1 m<0
   ·have hv:B1g (visF l k) st a=visF l k m st:=by unfold B1g;rw[hm',if_pos hc]
    have cp:=D8s (IH m st.1 st.2 hij hc hnj) wj (NX:=4) (by omega) (by omega) (by omega)
    have cv:Ctx Try.prog G (orh [] [(91,hOne [.ptr 0 0,.t (iv (m:Int))] Hj 4 (.t (.tu []),B0f t 0 1 4 (visF l k m (st.1,st.2)).1 (visF l k m (st.1,st.2)).2 (rem (rem (rem Hj 0) 1) 3),4+1))]):=by
     refine A1t.nil.ctxH (A8b.cons (hOne_ok cp fun hf b y hb=>?_) .nil) A1u
     rcases A7m (A0p hb)with e | ⟨_,e⟩ | ⟨_,e⟩ | hq
     ·injection e with e _;omega
     ·injection e with e _;omega
     ·injection e with e _;omega
     ·have:=A6j (A6j (A6j hq))
      rw[hHj]at this
      rcases A7m this with e | ⟨_,e⟩ | ⟨_,e⟩ | hq
      ·injection e with e _;omega
      ·injection e with e _;omega
      ·injection e with e _;omega
      ·cases hq
    refine A0d cv ?_
    unfold S91
    rw[<-hst,<-hHj,hsucc,hv]
    simp -implicitDefEqProofs [hj,hT.len,wj.ld1,ib,lq,ic,ld,hc,hOne_eq,e1]
    exact D4v (Walk.mk' _ _ _ _ (by omega) (by omega) (by omega)) (by omega) (by omega) (by omega) (by omega) (by omega) (by omega) (fun q hq=>by cases hq) (by simp -implicitDefEqProofs [ren,under])
   ·have hv:B1g (visF l k) st a=st:=by unfold B1g;rw[hm',if_neg hc]
    refine A0d cth5 ?_
    unfold S91
    rw[<-hst,<-hHj,hsucc,hv]
    simp -implicitDefEqProofs [hj,hT.len,wj.ld1,ib,lq,ic,ld,hc,e1]
    exact D4v wj (by omega) (by omega) (by omega) (by omega) (by omega) (by omega) (fun q hq=>by cases hq) (by simp -implicitDefEqProofs [ren,under])
  ·refine A0d cth5 ?_
   simp -implicitDefEqProofs [S91,hT.len]
   have he:visJ l k n (num,ord) (A3s x.arcs).length=visF l (k+1) n (num,ord):=by
    unfold visJ visF
    rw[hs,List.take_length]
   rw[he]
   exact⟨.inl rfl,_,[],Sub.refl _,rfl,rfl,rfl,rfl⟩
structure VJ (l:List Nd) (st:VS):Prop where
 at':∀(j:Nat) (n:Int),st.2[j]?=some n->0<=n/\n<(l.length:Int)/\nAt st.1 n.toNat=(j:Int)
 par:∀(j:Nat) (n:Int),0<j->st.2[j]?=some n->∃(i:Nat) (m:Int) (a:Arc),i<j/\st.2[i]?=some m/\a∈A4d l m.toNat/\a.to=n
def Par (l:List Nd) (st:VS) (n:Nat):Prop:=st.2=[]\/∃(i:Nat) (m:Int) (a:Arc),st.2[i]?=some m/\a∈A4d l m.toNat/\a.to=(n:Int)
theorem E3y {num:List Int} {n m:Nat} {v:Int} (hn:n<num.length):nAt (num.set n v) m=if m=n then v else nAt num m:=by
 unfold nAt
 rw[List.getD_eq_getElem?_getD,List.getD_eq_getElem?_getD,List.getElem?_set]
 by_cases e:n=m
 ·subst e
  simp[hn]
 ·rw[if_neg e,if_neg (Ne.symm e)]
theorem G3i {l:List Nd} {st:VS} {n:Nat} (hl:st.1.length=l.length) (h:VJ l st) (hn:nAt st.1 n<0) (hp:Par l st n):VJ l (st.1.set n (st.2.length:Int),st.2++[(n:Int)]):=by
 have hnl:=F7m hn
 refine⟨fun j m hj=>?_,fun j m h0 hj=>?_⟩
 ·simp only at hj ⊢
  rw[List.getElem?_append]at hj
  split at hj
  ·obtain⟨h1,h2,h3⟩:=h.at' j m hj
   refine⟨h1,h2,?_⟩
   rw[E3y hnl,if_neg]
   ·exact h3
   ·intro e
    rw[e]at h3
    omega
  ·rename_i hlt
   have hj0:j-st.2.length=0:=by
    have:=(List.getElem?_eq_some_iff.1 hj).1
    simp at this
    omega
   rw[hj0]at hj
   have hj':j=st.2.length:=by omega
   simp at hj
   subst hj
   refine⟨by omega,by omega,?_⟩
   rw[E3y hnl,Int.toNat_natCast,if_pos rfl,hj']
 ·simp only at hj ⊢
  rw[List.getElem?_append]at hj
  split at hj
  ·obtain⟨i,m',a,h1,h2,h3,h4⟩:=h.par j m h0 hj
   exact⟨i,m',a,h1,by rw[List.getElem?_append_left (by omega)];exact h2,h3,h4⟩
  ·rename_i hlt
   have hj0:j-st.2.length=0:=by
    have:=(List.getElem?_eq_some_iff.1 hj).1
    simp at this
    omega
   rw[hj0]at hj
   simp at hj
   subst hj
   rcases hp with hp | ⟨i,m',a,h1,h2,h3⟩
   ·rw[hp]at hj0
    simp at hj0
    omega
   ·have hi:=(List.getElem?_eq_some_iff.1 h1).1
    exact⟨i,m',a,by omega,by rw[List.getElem?_append_left hi];exact h1,h2,h3⟩
theorem E3z {l:List Nd} {v:Nat->VS->VS} {n:Nat}
  (hv:∀m st,VI l st->VJ l st->nAt st.1 m<0->Par l st m->VI l (v m st)/\VJ l (v m st)/\∃r,(v m st).2=st.2++r) :
  ∀(ar:List Arc) (st:VS),(∀a∈ar,a∈A4d l n/\0<=a.to)->VI l st->VJ l st->(∃i:Nat,st.2[i]?=some (n:Int))->VJ l (ar.foldl (B1g v) st)/\∃r,(ar.foldl (B1g v) st).2=st.2++r
 | [],st,_,_,h,_=>⟨h,[],by simp⟩
 | a::ar,st,ha,hi,h,hn=>by
  rw[List.foldl_cons]
  by_cases hc:nAt st.1 a.to.toNat<0
  ·have e:B1g v st a=v a.to.toNat st:=if_pos hc
   rw[e]
   obtain⟨i,hi'⟩:=hn
   have h0:=(ha a List.mem_cons_self)
   obtain⟨h1,h2,r,h3⟩:=hv _ st hi h hc (.inr ⟨i,_,a,hi',by rw[Int.toNat_natCast];exact h0.1,by omega⟩)
   obtain⟨h4,r',h5⟩:=E3z hv ar _ (fun b hb=>ha b (List.mem_cons_of_mem _ hb)) h1 h2 ⟨i,by rw[h3,List.getElem?_append_left (List.getElem?_eq_some_iff.1 hi').1];exact hi'⟩
   exact⟨h4,r++r',by rw[h5,h3,List.append_assoc]⟩
  ·have e:B1g v st a=st:=if_neg hc
   rw[e]
   exact E3z hv ar st (fun b hb=>ha b (List.mem_cons_of_mem _ hb)) hi h hn
theorem G5y {l:List Nd} (hto:∀x∈l,∀a∈x.arcs,0<=a.to/\a.to<(l.length:Int)):∀(k n:Nat) (st:VS),VI l st->VJ l st->nAt st.1 n<0->Par l st n->VI l (visF l k n st)/\VJ l (visF l k n st)/\∃r,(visF l k n st).2=st.2++r
 | 0,_,st,hi,h,_,_=>⟨hi,h,[],by simp[visF]⟩
 | k+1,n,st,hi,h,hn,hp=>by
  have h1:=G3i hi.len h hn hp
  have hi1:=(C5s hi hn).1
  obtain⟨h2,r,h3⟩:=E3z (n:=n) (G5y hto k) (A4d l n) _ (fun a ha=>⟨ha,by
   unfold A4d at ha
   split at ha
   ·rename_i x hx
    exact(hto x (List.mem_of_getElem? hx) a (B3z.1 ha)).1
   ·cases ha⟩) hi1 h1 ⟨st.2.length,by simp⟩
  refine⟨(F7n (k+1) n st hi hn).1,h2,[(n:Int)]++r,?_⟩
  show((A4d l n).foldl (B1g (visF l k)) _).2=_
  rw[h3]
  simp
def renA (num:List Int) (as':List Arc):List Arc:=as'.map fun a=>⟨a.feat,nAt num a.to.toNat⟩
def C3g (num:List Int) (x:Nd):Nd:=⟨x.type,A0k eArc (renA num (A3s x.arcs)),renA num (A3s x.arcs),IsS.tree _ _⟩
def noNd:Nd:=⟨0,nilS,[],IsS.nil⟩
def ndAt (l:List Nd) (n:Int):Nd:=(l[n.toNat]?).getD noNd
def start (l:List Nd):VS:=(List.replicate l.length (-1),[])
def visA (l:List Nd) (root:Nat):VS:=visF l l.length root (start l)
def A4x (l:List Nd) (root:Nat):List Nd:=(visA l root).2.map fun n=>C3g (visA l root).1 (ndAt l n)
theorem E7k (n:Nat):negs (List.replicate n (-1))=n:=by
 unfold negs
 rw[List.countP_replicate]
 simp
theorem E4a {n i:Nat} (h:i<n):nAt (List.replicate n (-1)) i = -1:=by
 unfold nAt
 rw[List.getD_eq_getElem?_getD,List.getElem?_eq_getElem (by simpa using h)]
 simp
theorem G5z (l:List Nd):VI l (start l):=⟨by simp[start],by simp[start,E7k]⟩
theorem H1b (l:List Nd):VJ l (start l):=⟨fun j n h=>by simp[start]at h,fun j n _ h=>by simp[start]at h⟩
theorem E4b {l:List Nd} (hto:∀x∈l,∀a∈x.arcs,0<=a.to/\a.to<(l.length:Int)) {root:Nat} (hr:root<l.length):VI l (visA l root)/\VJ l (visA l root):=by
 have hn:nAt (start l).1 root<0:=by
  show nAt (List.replicate l.length (-1)) root<0
  rw[E4a hr]
  omega
 obtain⟨h1,h2,_⟩:=G5y hto l.length root (start l) (G5z l) (H1b l) hn (.inl rfl)
 exact⟨h1,h2⟩
theorem G3j {l:List Nd} (hto:∀x∈l,∀a∈x.arcs,0<=a.to/\a.to<(l.length:Int)) {root:Nat} (hr:root<l.length) {j:Nat} {y:Nd} (h0:0<j) (hy:(A4x l root)[j]?=some y) :
  ∃(i:Nat) (z:Nd) (a:Arc),i<j/\(A4x l root)[i]?=some z/\a∈z.arcs/\a.to=(j:Int):=by
 obtain⟨_,hj⟩:=E4b hto hr
 unfold A4x at hy
 rw[List.getElem?_map]at hy
 obtain⟨n,hn,_⟩:=A0v hy
 obtain⟨i,m,a,h1,h2,h3,h4⟩:=hj.par j n h0 hn
 refine⟨i,C3g (visA l root).1 (ndAt l m),⟨a.feat,nAt (visA l root).1 a.to.toNat⟩,h1,by unfold A4x;rw[List.getElem?_map,h2];rfl,?_,?_⟩
 ·show _∈renA _ (A3s (ndAt l m).arcs)
  have:A3s (ndAt l m).arcs=A4d l m.toNat:=by
   unfold ndAt A4d
   cases hx:l[m.toNat]? with
   | none=>rfl
   | some x=>rfl
  rw[this]
  exact List.mem_map.2 ⟨a,h3,rfl⟩
 ·show nAt (visA l root).1 a.to.toNat=j
  rw[h4]
  exact(hj.at' j n hn).2.2
theorem A7w {P:Program} {B nx n:Nat} {env env':List (Nat×PV)} {H:Heap} (he:∀q∈env',Abs.look env q.1=some q.2):Sub P G B ⟨env,H,nx,n⟩ ⟨env',H,nx,n⟩:=by
 intro L a w hi
 refine⟨L,⟨hi.heap,hi.nx,hi.base,hi.size,hi.defers,fun k p h=>hi.env k p (he _ (A0p h))⟩,?_,fun _ _=>rfl⟩
 exact⟨Nat.le_refl _,fun _ _ _=>rfl,fun _ h=>h,fun _ h=>.inl h,fun g ⟨b,r,h,e⟩=>.inr ⟨b,r,h,e⟩,A3h.refl w,A6q.refl w⟩
section
variable {α β : Type} {P : Program} {B : Nat}
theorem sub_rowR {e:Enc α} {ty b k nx nx' n:Nat} {l:List α} {env env':List (Nat×PV)} {H R:Heap} (h:A0j e ty H k l) (hb:b<nx') (hB:B<=b)
  (hR:∀q∈R,Abs.look H q.1=some (A2d (fun x=>if x=b then k else x) q.2)/\q.1<nx'/\q.1≠b/\q.1≠k/\A0z nx' q.2=true)
  (he:∀q∈env',Abs.look env q.1=some (ren (fun x=>if x=b then k else x) q.2)/\under nx' q.2=true) :
  Sub P G B ⟨env,H,nx,n⟩ ⟨env',R++rowH e ty b l,nx',n⟩:=by
 refine B1t (fun x=>if x=b then k else x) rfl (by show B<=nx';omega) (fun x hx=>by show(if x=b then k else x)=x;rw[if_neg (by omega)]) he (fun q hq=>?_) (fun q hq q' hq' eqn=>?_)
 ·rcases List.mem_append.1 hq with hq | hq
  ·obtain⟨h1,h2,h3,h4,h5⟩:=hR q hq
   refine⟨?_,h2,h5⟩
   show Abs.look H (if q.1=b then k else q.1)=_
   rw[if_neg h3]
   exact h1
  ·obtain⟨hn,rfl⟩:=A1j hq
   simp only[if_true,A1l,A0t]
   exact⟨h.resolve_left hn,hb,trivial⟩
 ·have key:∀q∈R++rowH e ty b l,q.1=b\/(q.1≠b/\q.1≠k):=by
   intro q hq
   rcases List.mem_append.1 hq with hq | hq
   ·obtain⟨h1,h2,h3,h4,h5⟩:=hR q hq
    exact .inr ⟨h3,h4⟩
   ·obtain⟨hn,rfl⟩:=A1j hq
    exact .inl rfl
  have e:(if q.1=b then k else q.1)=(if q'.1=b then k else q'.1):=eqn
  rcases key q hq with h1 | ⟨h1,h2⟩<;>rcases key q' hq' with h1' | ⟨h1',h2'⟩
  ·rw[h1,h1']
  ·rw[if_pos h1,if_neg h1']at e;exact absurd e.symm h2'
  ·rw[if_neg h1,if_pos h1']at e;exact absurd e h2
  ·rw[if_neg h1,if_neg h1']at e;exact e
theorem C0w {e:Enc α} {e':Enc β} {ty ty' b c k nx nx' n:Nat} {l:List α} {l':List β} {env env':List (Nat×PV)} {H R:Heap} (h:A0j e ty H k l) (h':A0j e' ty' H c l') (hb:b<nx') (hB:B<=b) (hc:c<nx') (cb:c≠b) (ck:c≠k)
  (hR:∀q∈R,Abs.look H q.1=some (A2d (fun x=>if x=b then k else x) q.2)/\q.1<nx'/\q.1≠b/\q.1≠k/\A0z nx' q.2=true)
  (he:∀q∈env',Abs.look env q.1=some (ren (fun x=>if x=b then k else x) q.2)/\under nx' q.2=true) :
  Sub P G B ⟨env,H,nx,n⟩ ⟨env',R++(rowH e' ty' c l'++rowH e ty b l),nx',n⟩:=by
 rw[<-List.append_assoc]
 refine sub_rowR h hb hB (fun q hq=>?_) he
 rcases List.mem_append.1 hq with hq | hq
 ·exact hR q hq
 ·obtain⟨hn,rfl⟩:=A1j hq
  simp only[A1l,A0t]
  exact⟨h'.resolve_left hn,hc,cb,ck,trivial⟩
theorem A0j.right {e:Enc α} {ty b:Nat} {H R:Heap} {l:List α} (h:A0j e ty H b l) (hR:∀q∈R,q.1≠b):A0j e ty (R++H) b l:=by
 induction R with
 | nil=>exact h
 | cons q R ih=>exact A0j.cons (ih fun x hx=>hR x (List.mem_cons_of_mem _ hx)) (hR q List.mem_cons_self)
end
theorem C4p:∀p:PV,ren (fun x=>x) p=p:=by
 intro p
 exact PV.rec (motive_1:=fun p=>ren (fun x=>x) p=p) (motive_2:=fun ps=>renL (fun x=>x) ps=ps) (fun x=>rfl) (fun b o n z=>rfl) (fun b o=>rfl) (fun cs ih=>by simp only[ren,ih]) (fun cs ih=>by simp only[ren,ih])
  (fun f a c ih1 ih2=>by simp only[ren,ih1,ih2]) (fun t x ih=>by simp only[ren,ih]) (fun b=>rfl) rfl rfl (fun p ps h1 h2=>by simp only[renL,h1,h2]) p
theorem F7o:∀ps:List PV,renL (fun x=>x) ps=ps
 | []=>rfl
 | p::ps=>by simp only[renL,C4p p,F7o ps]
theorem F7p (r:Row):A2d (fun x=>x) r=r:=by
 cases r with
 | cells ty cs=>simp only[A2d,F7o]
 | iter t pos=>rfl
 | map kk es=>rfl
 | lp l x k p=>simp only[A2d,C4p]
theorem B8y {P:Program} {B nx nx' n:Nat} {env env':List (Nat×PV)} {H R:Heap} (hB:B<=nx') (hR:∀q∈R,Abs.look H q.1=some q.2/\q.1<nx'/\A0z nx' q.2=true)
  (he:∀q∈env',Abs.look env q.1=some q.2/\under nx' q.2=true):Sub P G B ⟨env,H,nx,n⟩ ⟨env',R,nx',n⟩:=by
 refine B1t (fun x=>x) rfl hB (fun _ _=>rfl) (fun q hq=>?_) (fun q hq=>?_) (fun q _ q' _ e=>e)
 ·rw[C4p];exact he q hq
 ·rw[F7p];exact hR q hq
def tFS:Ty (List Nd):=⟨fun t l=>∃u,t = .ag [u]/\IsS eNd u l,fun t a b h h'=>by
 obtain⟨u,e,h⟩:=h
 obtain⟨v,e',h'⟩:=h'
 rw[e]at e'
 injection e' with e'
 injection e' with e'
 subst e'
 exact(tSl eNd).uniq _ _ _ h h'⟩
def arcN (a:Arc):List Int:=[a.feat,a.to]
def D5s (x:Nd):List Int:=x.type::(x.arcs.length:Int)::x.arcs.flatMap arcN
def A7x (l:List Nd):List Int:=(l.length:Int)::l.flatMap D5s
def B4v (l:List Nd) (i:Nat):List Int:=(l.length:Int)::(l.take i).flatMap D5s
def B8z (l:List Nd) (i:Nat) (x:Nd) (k:Nat):List Int:=B4v l i++[x.type,(x.arcs.length:Int)]++(x.arcs.take k).flatMap arcN
theorem C0x (l:List Arc):(l.flatMap arcN).length=2*l.length:=by
 induction l with
 | nil=>rfl
 | cons a r ih=>simp only[List.flatMap_cons,List.length_append,ih,List.length_cons,arcN,List.length_nil];omega
theorem D3n {n:Nat}:∀(l:List Nd),(∀x∈l,x.arcs.length<=n)->(l.flatMap D5s).length<=l.length*(2+2*n)
 | [],_=>by simp
 | x::r,h=>by
  have ih:=D3n r fun y hy=>h y (List.mem_cons_of_mem _ hy)
  have hx:=h x List.mem_cons_self
  have e:(r.length+1)*(2+2*n)=r.length*(2+2*n)+(2+2*n):=Nat.succ_mul _ _
  simp only[List.flatMap_cons,List.length_append,D5s,List.length_cons,C0x]
  rw[e]
  omega
theorem E0a {l:List Nd} (hl:l.length<=100000) (h:∀x∈l,x.arcs.length<=1000000) (i:Nat):(B4v l i).length<=1+100000*2000002:=by
 have h1:=D3n (n:=1000000) (l.take i) fun x hx=>h x (List.mem_of_mem_take hx)
 have h2:(l.take i).length<=100000:=by rw[List.length_take];omega
 have h3:(l.take i).length*(2+2*1000000)<=100000*(2+2*1000000):=Nat.mul_le_mul_right _ h2
 simp only[B4v,List.length_cons]
 omega
theorem F2g {l:List Nd} {i:Nat} {x:Nd} (h:l[i]?=some x):B4v l (i+1)=B8z l i x x.arcs.length:=by
 unfold B8z B4v
 rw[List.take_add_one,h,List.take_length]
 simp[D5s]
theorem F2h {l:List Nd} {i:Nat} {x:Nd} {k:Nat} {a:Arc} (h:x.arcs[k]?=some a):B8z l i x (k+1)=B8z l i x k++[a.feat,a.to]:=by
 unfold B8z
 rw[List.take_add_one,h]
 simp[arcN]
theorem C9b (l:List Nd):B4v l l.length=A7x l:=by unfold B4v A7x;rw[List.take_length]
def S87R (t:T):Heap:=[(0,.cells 25 [.t t])]
def S87 (t:T) (l:List Nd) (i:Nat):A0b:=⟨[(4,.t (iv (i:Int))),(3,rowP eInt 1 (B4v l i)),(1,.ptr 0 0)],S87R t++rowH eInt 3 1 (B4v l i),2,55⟩
def S87e (t:T) (l:List Nd) (i:Nat):A0b:=⟨[(4,.t (iv (i:Int))),(3,rowP eInt 1 (B4v l (i+1))),(1,.ptr 0 0)],S87R t++rowH eInt 3 1 (B4v l (i+1)),2,55⟩
def S87i (t:T) (l:List Nd) (i:Nat) (x:Nd) (k:Nat):A0b:=⟨[(6,.t (iv (k:Int))),(5,.t x.tree),(4,.t (iv (i:Int))),(3,rowP eInt 1 (B8z l i x k)),(1,.ptr 0 0)],S87R t++rowH eInt 3 1 (B8z l i x k),2,55⟩
theorem F7q {t:T} {H:Heap} {k:Nat} (h:Abs.look H 0=some (.cells 25 [.t t])) (hk:k≠0):∀q∈S87R t,Abs.look H q.1=some (A2d (fun x=>if x=1 then k else x) q.2)/\q.1<2/\q.1≠1/\q.1≠k/\A0z 2 q.2=true:=by
 intro q hq
 simp only[S87R,List.mem_cons,List.not_mem_nil,or_false]at hq
 subst hq
 exact⟨h,by omega,by omega,by show 0≠k;omega,rfl⟩
theorem E0b {t:T} {l:List Nd} (ht:IsS eNd t l) (hl:l.length<=100000) (ha:∀x∈l,x.arcs.length<=1000000):A0y Try.prog G 87 [.ag [t]] (· = A0k eInt (A7x l)):=by
 have hz:eInt.z=1:=rfl
 have cp:A0w (.t (.ag [t]))=some [.t t]:=rfl
 refine C0g.call rfl ?_
 unfold B2c
 refine A0a ctx0 ?_
 simp -implicitDefEqProofs [cp]
 have bs0:A1p 3 1 [.int .i64 0] 1 [(0,.t (iv (l.length:Int)))] 1=some (.row 1 0 1 1,.cells 3 [.t (iv (l.length:Int))]):=rfl
 refine A0a ctx0 ?_
 simp -implicitDefEqProofs [A0f,ht.len,bs0]
 refine A0s (fun _:Unit=>S87 t l l.length) (fun _=>True) (fun _=>rfl) ?_ ?_
 ·refine A0a ctx0 ?_
  simp -implicitDefEqProofs
  refine A0h ?_
  refine A1b (S87 t l) l.length (fun _=>rfl) ?_ rfl ?_ ?_
  ·have h0:B4v l 0=[(l.length:Int)]:=rfl
   unfold S87
   rw[h0]
   refine sub_rowR (k:=1) (.inr (by simp[A1g,eInt])) (by omega) (by omega) (F7q (by simp) (by omega)) (by simp -implicitDefEqProofs [rowP,ren,under,eInt])
  ·intro i hi
   obtain⟨x,hx⟩:∃x,l[i]?=some x:=⟨_,List.getElem?_eq_getElem hi⟩
   have hxa:=ha x (List.mem_of_getElem? hx)
   have e1:IntKind.i64.wrap ((i:Int)+1)=((i+1:Nat):Int):=A0l (by omega) (by omega)
   have ix:=B6m ht hx
   have hnl:=E0a hl ha i
   obtain⟨H0,hH0⟩:∃H0,H0=S87R t++rowH eInt 3 1 (B4v l i):=⟨_,rfl⟩
   have l0:Abs.look H0 0=some (.cells 25 [.t t]):=by rw[hH0];rfl
   have r1:A0j eInt 3 H0 1 (B4v l i):=by rw[hH0];exact A0j.right (A0j.head' _ _ _ _) (by simp[S87R])
   have ld0:A0f false 1 H0 (.ptr 0 0)=some (.t t):=by simp[A0f,l0]
   have lp:∀c cs,A0f false 1 H0 (.t (.pt (c::cs)))=some (.t c):=fun _ _=>rfl
   refine A0a ctx0 ?_
   simp -implicitDefEqProofs [S87,<-hH0,hi,ld0,ht.len]
   refine A0s (fun _:Unit=>S87e t l i) (fun _=>True) (fun _=>rfl) ?_ ?_
   ·refine A0h ?_
    refine A0a ctx0 ?_
    simp -implicitDefEqProofs [ld0,ix,lp]
    have bs:A1p 3 1 [.int .i64 0] 2 [(0,.t (iv x.type)),(1,.t (iv (x.arcs.length:Int)))] 2=some (.row 2 0 2 1,.cells 3 [.t (iv x.type),.t (iv (x.arcs.length:Int))]):=rfl
    obtain⟨b2,H2,n2,ap2,r2,ne2,le2,lk2,ge2⟩:=A1k (e:=eInt) (ty:=3) (by':=8) (nx:=3) (m:=[x.type,(x.arcs.length:Int)]) (src:=.row 2 0 2 1) (r1.cons (k:=2) (r:=.cells 3 [.t (iv x.type),.t (iv (x.arcs.length:Int))]) (by omega)) (by simp[srcP,eInt]) (by simp;omega) (by simp;omega)
    rw[hz]at ap2
    refine A0a ctx0 ?_
    simp -implicitDefEqProofs [ld0,ix,lp,x.ok.len,bs,ap2]
    refine A0a ctx0 ?_
    simp -implicitDefEqProofs
    refine A0h ?_
    refine A1b (S87i t l i x) x.arcs.length (fun _=>rfl) ?_ rfl ?_ ?_
    ·have h0:B8z l i x 0=B4v l i++[x.type,(x.arcs.length:Int)]:=by simp[B8z]
     unfold S87i
     rw[h0]
     exact sub_rowR (k:=b2) r2 (by omega) (by omega) (F7q (by rw[lk2 0 (by omega) (by omega),look_cons,if_neg (by omega)];exact l0) (by omega)) (by simp -implicitDefEqProofs [A0g,A0e,ren,under])
    ·intro k hk
     obtain⟨a,hak⟩:∃a,x.arcs[k]?=some a:=⟨_,List.getElem?_eq_getElem hk⟩
     have e2:IntKind.i64.wrap ((k:Int)+1)=((k+1:Nat):Int):=A0l (by omega) (by omega)
     have ib:=A7k x.ok hak
     have hil:(B8z l i x k).length<=1+100000*2000002+2+2*1000000:=by
      have:(x.arcs.take k).length<=1000000:=by rw[List.length_take];omega
      simp only[B8z,List.length_append,C0x,List.length_cons,List.length_nil]
      omega
     obtain⟨Hk,hHk⟩:∃Hk,Hk=S87R t++rowH eInt 3 1 (B8z l i x k):=⟨_,rfl⟩
     have k0:Abs.look Hk 0=some (.cells 25 [.t t]):=by rw[hHk];rfl
     have k1:A0j eInt 3 Hk 1 (B8z l i x k):=by rw[hHk];exact A0j.right (A0j.head' _ _ _ _) (by simp[S87R])
     have lq:∀c cs,A0f false 1 Hk (.t (.pt (c::cs)))=some (.t c):=fun _ _=>rfl
     have ts:A6u 3 1 [.int .i64 0] 2 [(0,.t (iv a.feat)),(1,.t (iv a.to))]=some (.t (A0k eInt [a.feat,a.to])):=rfl
     have hsrc:srcP Hk eInt.z (.t (A0k eInt [a.feat,a.to]))=_:=A3f (IsS.tree eInt [a.feat,a.to])
     obtain⟨b3,H3,n3,ap3,r3,ne3,le3,lk3,ge3⟩:=A1k (e:=eInt) (ty:=3) (by':=8) (nx:=2) k1 hsrc (by simp;omega) (by simp;omega)
     rw[<-F2h hak]at ap3 r3
     rw[hz]at ap3
     refine A0d ctx0 ?_
     simp -implicitDefEqProofs [S87i,<-hHk,hk,x.ok.len,ib,lq,ts,ap3,e2]
     exact sub_rowR (b:=1) (k:=b3) (nx':=2) r3 (by omega) (by omega) (F7q (by rw[lk3 0 (by omega) (by omega)];exact k0) (by omega)) (by simp -implicitDefEqProofs [A0g,A0e,ren,under])
    ·refine A0d ctx0 ?_
     rw[show S87e t l i=⟨[(4,.t (iv (i:Int))),(3,rowP eInt 1 (B8z l i x x.arcs.length)),(1,.ptr 0 0)],S87R t++rowH eInt 3 1 (B8z l i x x.arcs.length),2,55⟩by unfold S87e;rw[F2g hx]]
     simp -implicitDefEqProofs [S87i,x.ok.len]
     exact Next.mk () trivial (A7w (by simp -implicitDefEqProofs))
   ·rintro _ -
    refine A0d ctx0 ?_
    simp -implicitDefEqProofs [S87e,e1]
    exact A7w (by simp -implicitDefEqProofs)
  ·refine A0d ctx0 ?_
   have ld0:A0f false 1 (S87R t++rowH eInt 3 1 (B4v l l.length)) (.ptr 0 0)=some (.t t):=rfl
   simp -implicitDefEqProofs [S87,ld0,ht.len]
   exact Next.mk () trivial (A7w (by simp -implicitDefEqProofs))
 ·rintro _ -
  refine A0d ctx0 ?_
  have tt:=A0j.toT (A0j.right (R:=S87R t) (A0j.head' eInt 3 1 (B4v l l.length)) (by simp[S87R]))
  rw[C9b]at tt
  simp -implicitDefEqProofs [S87,tt,C9b]
structure A3g (l:List Nd):Prop where
 len:l.length<=100000
 arcs:∀x∈l,x.arcs.length<=1000000
theorem E0c {l:List Nd} (h:A3g l):(A7x l).length<=1+100000*2000002:=by
 rw[<-C9b]
 exact E0a h.len h.arcs _
noncomputable def G8b:List T->Option T:=g1 tFS fun l=>open Classical in if A3g l then some (A0k eInt (A7x l))else none
theorem G3k:GOK Try.prog G 87 G8b:=C4w fun a x r ha hr=>by
 obtain⟨u,rfl,hu⟩:=ha
 split at hr
 ·rename_i h;injection hr with hr;subst hr;exact E0b hu h.len h.arcs
 ·cases hr
theorem E7l {t:T} {l:List Nd} (ht:IsS eNd t l) (h:A3g l):G8b [.ag [t]]=some (A0k eInt (A7x l)):=
 (C4x (τ:=tFS) ⟨t,rfl,ht⟩).trans (if_pos h)
def cmpE (l m:List Int) (i:Nat):Int:=match l[i]?,m[i]? with
 | some a,some b=>if a<b then -1 else if b<a then 1 else 0
 | _,_=>0
def B6b (l m:List Int):Int:=fst (cmpE l m) (min l.length m.length)
noncomputable def tw9:Tbl:=[(87,G8b)]
theorem ctw9:Ctx Try.prog G (orc tw9):=(A1t.cons G3k .nil).ctx A1u
theorem E7m {t:T} {l:List Int} (h:IsS eInt t l) {i:Nat} {x:Int} (hx:l[i]?=some x):A1q 1 (.t t) (.t (iv (i:Int)))=some (.t (.pt (iv x::rest eInt l i))):=h.iaddr hx .i64
def S64 (u v:T) (j:Nat):A0b:=⟨[(7,.t (iv (j:Int))),(6,.t v),(5,.t u)],[],2,42⟩
theorem E0d {t t':T} {a b:List Nd} (ht:IsS eNd t a) (ht':IsS eNd t' b) (ha:A3g a) (hb:A3g b):A0y Try.prog G 64 [.ag [t],.ag [t']] (· = iv (B6b (A7x a) (A7x b))):=by
 have cp:A0w (.t (.ag [t]))=some [.t t]:=rfl
 have cp':A0w (.t (.ag [t']))=some [.t t']:=rfl
 have ag:agOf [.t t] = .t (.ag [t]):=rfl
 have ag':agOf [.t t'] = .t (.ag [t']):=rfl
 obtain⟨u,hu⟩:∃u,u=A0k eInt (A7x a):=⟨_,rfl⟩
 obtain⟨v,hv⟩:∃v,v=A0k eInt (A7x b):=⟨_,rfl⟩
 have hU:IsS eInt u (A7x a):=hu▸IsS.tree _ _
 have hV:IsS eInt v (A7x b):=hv▸IsS.tree _ _
 have ga:=E7l ht ha
 have gb:=E7l ht' hb
 rw[<-hu]at ga
 rw[<-hv]at gb
 have hal:=E0c ha
 have hbl:=E0c hb
 refine C0e.call rfl ?_
 unfold B2a
 refine A0a ctw9 ?_
 simp -implicitDefEqProofs [cp,cp']
 refine A0a ctw9 ?_
 simp -implicitDefEqProofs [A0f,ag,tw9,ga]
 refine A0a ctw9 ?_
 simp -implicitDefEqProofs [A0f,ag',tw9,gb]
 generalize A7x a=l at *
 generalize A7x b=m at *
 obtain⟨n,hle,h0,hn⟩:=A7l (cmpE l m) (min l.length m.length)
 refine A0s (fun _:Unit=>S64 u v (min l.length m.length)) (fun _=>n=min l.length m.length) (fun _=>rfl) ?_ ?_
 ·refine A0a ctw9 ?_
  simp -implicitDefEqProofs
  refine A0h ?_
  refine A1b (S64 u v) n (fun _=>rfl) ?_ rfl ?_ ?_
  ·refine A0c rfl rfl ?_ ?_<;>simp -implicitDefEqProofs [S64]
  ·intro j hj
   have hjl:j<l.length:=by omega
   have hjm:j<m.length:=by omega
   obtain⟨x,hx⟩:∃x,l[j]?=some x:=⟨_,List.getElem?_eq_getElem hjl⟩
   obtain⟨y,hy⟩:∃y,m[j]?=some y:=⟨_,List.getElem?_eq_getElem hjm⟩
   have e1:IntKind.i64.wrap ((j:Int)+1)=((j+1:Nat):Int):=A0l (by omega) (by omega)
   have ix:=E7m hU hx
   have iy:=E7m hV hy
   have hz:=h0 j hj
   simp only[cmpE,hx,hy]at hz
   have c1:¬x<y:=fun h=>by rw[if_pos h]at hz;cases hz
   rw[if_neg c1]at hz
   have c2:¬y<x:=fun h=>by rw[if_pos h]at hz;cases hz
   refine A0d ctw9 ?_
   simp -implicitDefEqProofs [S64,hjl,hjm,hU.len,hV.len,ix,iy,A0f,c1,c2,e1]
   refine A0c rfl rfl ?_ ?_<;>simp -implicitDefEqProofs
  ·refine A0d ctw9 ?_
   rcases hn with⟨e,_⟩ | ⟨hlt,hk,he⟩
   ·by_cases hl:n<l.length
    ·have hm:¬n<m.length:=by omega
     simp -implicitDefEqProofs [S64,hU.len,hV.len,hl,hm]
     exact Next.mk () e (A0c rfl rfl (by simp -implicitDefEqProofs [e]) (by simp -implicitDefEqProofs))
    ·simp -implicitDefEqProofs [S64,hU.len,hV.len,hl]
     exact Next.mk () e (A0c rfl rfl (by simp -implicitDefEqProofs [e]) (by simp -implicitDefEqProofs))
   ·have hjl:n<l.length:=by omega
    have hjm:n<m.length:=by omega
    obtain⟨x,hx⟩:∃x,l[n]?=some x:=⟨_,List.getElem?_eq_getElem hjl⟩
    obtain⟨y,hy⟩:∃y,m[n]?=some y:=⟨_,List.getElem?_eq_getElem hjm⟩
    have ix:=E7m hU hx
    have iy:=E7m hV hy
    have he:B6b l m=cmpE l m n:=he
    simp only[cmpE,hx,hy]at hk he
    by_cases c1:x<y
    ·rw[if_pos c1]at he
     simp -implicitDefEqProofs [S64,hjl,hjm,hU.len,hV.len,ix,iy,A0f,c1,he]
    ·rw[if_neg c1]at he hk
     have c2:y<x:=Classical.byContradiction fun h=>by rw[if_neg h]at hk;exact hk rfl
     rw[if_pos c2]at he
     simp -implicitDefEqProofs [S64,hjl,hjm,hU.len,hV.len,ix,iy,A0f,c1,c2,he]
 ·rintro _ e
  refine A0d ctw9 ?_
  have hr:B6b l m=0:=by
   rcases hn with⟨_,he⟩ | ⟨h,_⟩
   ·exact he
   ·omega
  simp -implicitDefEqProofs [S64,hr]
noncomputable def C9c:List T->Option T:=g2 tFS tFS fun a b=>open Classical in if A3g a/\A3g b then some (iv (B6b (A7x a) (A7x b)))else none
theorem E0e:GOK Try.prog G 64 C9c:=A6w fun a b x y r ha hb hr=>by
 obtain⟨u,rfl,hu⟩:=ha
 obtain⟨v,rfl,hv⟩:=hb
 split at hr
 ·rename_i h;injection hr with hr;subst hr;exact E0d hu hv h.1 h.2
 ·cases hr
theorem E0f {t t':T} {a b:List Nd} (ht:IsS eNd t a) (ht':IsS eNd t' b) (ha:A3g a) (hb:A3g b):C9c [.ag [t],.ag [t']]=some (iv (B6b (A7x a) (A7x b))):=
 (A5y (τ:=tFS) (σ:=tFS) ⟨t,rfl,ht⟩ ⟨t',rfl,ht'⟩).trans (if_pos ⟨ha,hb⟩)
noncomputable def tw9b:Tbl:=[(64,C9c)]
theorem ctw9b:Ctx Try.prog G (orc tw9b):=(A1t.cons E0e .nil).ctx A1u
def eqE (a b:List Nd):Bool:=B6b (A7x a) (A7x b)==0
theorem F2i {t t':T} {a b:List Nd} (ht:IsS eNd t a) (ht':IsS eNd t' b) (ha:A3g a) (hb:A3g b):A0y Try.prog G 33 [.ag [t],.ag [t']] (· = bv (eqE a b)):=by
 have cp:A0w (.t (.ag [t]))=some [.t t]:=rfl
 have cp':A0w (.t (.ag [t']))=some [.t t']:=rfl
 have ag:agOf [.t t] = .t (.ag [t]):=rfl
 have ag':agOf [.t t'] = .t (.ag [t']):=rfl
 have g:=E0f ht ht' ha hb
 refine C6u.runs ctw9b rfl ?_
 simp -implicitDefEqProofs [B8a,cp,cp',A0f,ag,ag',tw9b,g,eqE]
noncomputable def E4c:List T->Option T:=g2 tFS tFS fun a b=>open Classical in if A3g a/\A3g b then some (bv (eqE a b))else none
theorem F2j:GOK Try.prog G 33 E4c:=A6w fun a b x y r ha hb hr=>by
 obtain⟨u,rfl,hu⟩:=ha
 obtain⟨v,rfl,hv⟩:=hb
 split at hr
 ·rename_i h;injection hr with hr;subst hr;exact F2i hu hv h.1 h.2
 ·cases hr
theorem F2k {t t':T} {a b:List Nd} (ht:IsS eNd t a) (ht':IsS eNd t' b) (ha:A3g a) (hb:A3g b):E4c [.ag [t],.ag [t']]=some (bv (eqE a b)):=
 (A5y (τ:=tFS) (σ:=tFS) ⟨t,rfl,ht⟩ ⟨t',rfl,ht'⟩).trans (if_pos ⟨ha,hb⟩)
def Nd.key (x:Nd):Int×List Arc:=(x.type,x.arcs)
def E0g:List Int->List Int->Prop
 | a::l,b::m=>a=b/\E0g l m
 | _,_=>True
theorem E7n:∀{l m:List Int},(∀(i:Nat) a b,l[i]?=some a->m[i]?=some b->a=b)->E0g l m
 | [],_,_=>by unfold E0g;trivial
 | _::_,[],_=>by unfold E0g;trivial
 | a::l,b::m,h=>⟨h 0 a b rfl rfl,E7n fun i x y hx hy=>h (i+1) x y (by simpa using hx) (by simpa using hy)⟩
theorem C4q:∀{p q l m:List Int},p.length=q.length->E0g (p++l) (q++m)->p=q/\E0g l m
 | [],[],_,_,_,h=>⟨rfl,h⟩
 | [],_::_,_,_,e,_=>by simp at e
 | _::_,[],_,_,e,_=>by simp at e
 | a::p,b::q,l,m,e,h=>by
  have h:a=b/\E0g (p++l) (q++m):=h
  obtain⟨h1,h2⟩:=C4q (by simpa using e) h.2
  exact⟨by rw[h.1,h1],h2⟩
theorem E0h:∀{l m:List Arc},l.length=m.length->l.flatMap arcN=m.flatMap arcN->l=m
 | [],[],_,_=>rfl
 | [],_::_,e,_=>by simp at e
 | _::_,[],e,_=>by simp at e
 | ⟨a1,a2⟩::l,⟨b1,b2⟩::m,e,h=>by
  simp only[List.flatMap_cons,arcN,List.cons_append,List.nil_append,List.cons.injEq]at h
  rw[h.1,h.2.1,E0h (by simpa using e) h.2.2]
theorem C9d:∀{a b:List Nd},a.length=b.length->E0g (a.flatMap D5s) (b.flatMap D5s)->a.map Nd.key=b.map Nd.key
 | [],[],_,_=>rfl
 | [],_::_,e,_=>by simp at e
 | _::_,[],e,_=>by simp at e
 | x::a,y::b,e,h=>by
  simp only[List.flatMap_cons,D5s,List.cons_append]at h
  obtain⟨h1,h2,h3⟩:=h
  have hl:x.arcs.length=y.arcs.length:=by omega
  obtain⟨h4,h5⟩:=C4q (by rw[C0x,C0x,hl]) h3
  have h6:=E0h hl h4
  simp only[List.map_cons,Nd.key,h1,h6]
  rw[C9d (by simpa using e) h5]
theorem F7r {a b:List Nd} (h:a.map Nd.key=b.map Nd.key):A7x a=A7x b:=by
 have key:∀l:List Nd,l.flatMap D5s=(l.map Nd.key).flatMap fun k=>k.1::(k.2.length:Int)::k.2.flatMap arcN:=by
  intro l
  induction l with
  | nil=>rfl
  | cons x l ih=>simp only[List.flatMap_cons,List.map_cons,ih];rfl
 have hl:a.length=b.length:=by simpa using congrArg List.length h
 unfold A7x
 rw[key a,key b,h,hl]
theorem G8c {a b:List Nd}:eqE a b=true ↔ a.map Nd.key=b.map Nd.key:=by
 unfold eqE
 rw[beq_iff_eq]
 constructor
 ·intro h
  have hz:∀(i:Nat) x y,(A7x a)[i]?=some x->(A7x b)[i]?=some y->x=y:=by
   intro i x y hx hy
   have h1:=(List.getElem?_eq_some_iff.1 hx).1
   have h2:=(List.getElem?_eq_some_iff.1 hy).1
   have:=A5c h i (by omega)
   simp only[cmpE,hx,hy]at this
   split at this
   ·cases this
   ·split at this
    ·cases this
    ·omega
  obtain⟨h1,h2⟩:=E7n hz
  exact C9d (by omega) h2
 ·intro h
  rw[F7r h]
  refine D4s fun i hi=>?_
  simp only[Nat.min_self]at hi
  simp[cmpE,List.getElem?_eq_getElem hi]
end Go.Proofs.Ytbiadmfmjnoecaa
