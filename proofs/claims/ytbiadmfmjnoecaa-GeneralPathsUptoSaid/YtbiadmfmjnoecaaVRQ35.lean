/-
 Auxiliary facts. No statement of the program stands here.
-/
import Derived.Test.YtbiadmfmjnoecaaVRQ31
import Derived.Test.YtbiadmfmjnoecaaVRQ01
namespace Go.Proofs.Ytbiadmfmjnoecaa
set_option linter.unusedSimpArgs false
set_option linter.unusedVariables false
open Go Go.Abs
theorem B9c {x y:W}:x &&& ~~~ y=0 ↔ ∀i,x.getLsbD i=true->y.getLsbD i=true:=by
 constructor
 ·intro h i hx
  have h1:=congrArg (fun v:W=>v.getLsbD i) h
  simp only[BitVec.getLsbD_and,BitVec.getLsbD_not,hx,Bool.true_and]at h1
  have hi:i<64:=by
   apply Classical.byContradiction
   intro hn
   rw[BitVec.getLsbD_of_ge _ _ (by omega)]at hx
   cases hx
  simp[hi]at h1
  exact h1
 ·intro h
  refine BitVec.eq_of_getLsbD_eq fun i hi=>?_
  simp only[BitVec.getLsbD_and,BitVec.getLsbD_not]
  cases hx:x.getLsbD i with
  | false=>simp
  | true=>simp[h i hx]
theorem F8s (l:List W):subL l l=true:=(A8j l l).2 fun i=>B9c.2 fun _ h=>h
theorem F8t {l m:List W} (h:subL l m=true) (h':subL m l=true) (i:Nat):wd l i=wd m i:=by
 refine BitVec.eq_of_getLsbD_eq fun j _=>?_
 have h1:=B9c.1 ((A8j l m).1 h i) j
 have h2:=B9c.1 ((A8j m l).1 h' i) j
 cases hx:(wd l i).getLsbD j with
 | true=>exact(h1 hx).symm
 | false=>
  cases hy:(wd m i).getLsbD j with
  | false=>rfl
  | true=>rw[h2 hy]at hx;cases hx
section
variable {nt nf : Nat} {ty : List Typ} {a b c : List Nd}
theorem D6i {l:List Nd} {k:Int} (h0:0<=k) (h:k<(l.length:Int)):l[k.toNat]?=some (ndAt l k):=by
 have:k.toNat<l.length:=by omega
 simp[ndAt,List.getElem?_eq_getElem this]
theorem F8u {x:Nd} (hx:∀(i j:Nat) p q,i<j->x.arcs[i]?=some p->x.arcs[j]?=some q->p.feat≠q.feat) {d:Arc} (hd:d∈x.arcs):tgt x d.feat=d.to:=by
 obtain⟨n,h1,h2,h3⟩:=E4e x d.feat
 obtain⟨j,hj,e⟩:=List.getElem_of_mem hd
 have hj':x.arcs[j]?=some d:=by rw[List.getElem?_eq_getElem hj,e]
 rcases h3 with⟨h4,h5,h6⟩ | ⟨q,h4,h5,h6,_⟩
 ·exact absurd rfl (h2 j d (by omega) hj')
 ·rw[h6]
  rcases Nat.lt_trichotomy j n with hlt | heq | hgt
  ·exact absurd rfl (h2 j d hlt hj')
  ·subst heq
   rw[h4]at hj'
   injection hj' with hj'
   rw[hj']
  ·exact absurd h5 (hx n j q d hgt h4 hj')
end
def D6j (l:List Arc):Prop:=l.Pairwise fun p q=>p.feat<=q.feat
def Asc (l:List Arc):Prop:=l.Pairwise fun p q=>p.feat<q.feat
theorem E0s (l:List Arc) (f:Int):∀k,k<=l.length->(∀(j:Nat) y,posA l f k<=j->j<k->l[j]?=some y->f<y.feat)/\(0<posA l f k->∃y,l[posA l f k-1]?=some y/\y.feat<=f)
 | 0,_=>⟨fun j y _ h=>by omega,fun h=>by simp[posA]at h⟩
 | k+1,hk=>by
  obtain⟨h1,h2⟩:=E0s l f k (by omega)
  obtain⟨y,hy⟩:∃y,l[k]?=some y:=⟨_,List.getElem?_eq_getElem (by omega)⟩
  by_cases hc:f<y.feat
  ·have e:posA l f (k+1)=posA l f k:=by simp only[posA,hy,if_pos hc]
   rw[e]
   refine⟨fun j z h3 h4 hz=>?_,h2⟩
   by_cases ej:j=k
   ·rw[ej,hy]at hz
    injection hz with hz
    rw[<-hz];exact hc
   ·exact h1 j z h3 (by omega) hz
  ·have e:posA l f (k+1)=k+1:=by simp only[posA,hy,if_neg hc]
   rw[e]
   exact⟨fun j z h3 h4=>by omega,fun _=>⟨y,by simpa using hy,by omega⟩⟩
theorem G4b {x:Arc} {l:List Arc} (h:D6j l):D6j (insA x l):=by
 obtain⟨h1,h2⟩:=E0s l x.feat l.length (Nat.le_refl _)
 have hle:=D4u l x.feat l.length
 have hp:=List.pairwise_iff_getElem.1 h
 unfold insA D6j
 obtain⟨p,hpe⟩:∃p,p=posA l x.feat l.length:=⟨_,rfl⟩
 rw[<-hpe]at h1 h2 hle ⊢
 have lo:∀y∈l.take p,y.feat<=x.feat:=by
  intro y hy
  obtain⟨j,hj,e⟩:=List.getElem_of_mem hy
  rw[List.length_take]at hj
  obtain⟨z,hz,hz'⟩:=h2 (by omega)
  have hj':l[j]?=some y:=by
   rw[<-e,List.getElem_take]
   exact List.getElem?_eq_getElem (by omega)
  by_cases ej:j=p-1
  ·rw[<-ej,hj']at hz
   injection hz with hz
   rw[hz];exact hz'
  ·have:=hp j (p-1) (by omega) (by omega) (by omega)
   rw[(List.getElem?_eq_some_iff.1 hj').2,(List.getElem?_eq_some_iff.1 hz).2]at this
   omega
 have hi:∀y∈l.drop p,x.feat<=y.feat:=by
  intro y hy
  obtain⟨j,hj,e⟩:=List.getElem_of_mem hy
  rw[List.length_drop]at hj
  have hj':l[p+j]?=some y:=by
   rw[<-e,List.getElem_drop]
   exact List.getElem?_eq_getElem (by omega)
  have:=h1 (p+j) y (by omega) (by omega) hj'
  omega
 have ht:(l.take p).Pairwise fun p q=>p.feat<=q.feat:=h.sublist (List.take_sublist _ _)
 have hd:(l.drop p).Pairwise fun p q=>p.feat<=q.feat:=h.sublist (List.drop_sublist _ _)
 rw[List.append_assoc,List.pairwise_append]
 refine⟨ht,?_,fun y hy z hz=>?_⟩
 ·simp only[List.singleton_append,List.pairwise_cons]
  exact⟨hi,hd⟩
 ·simp only[List.singleton_append,List.mem_cons]at hz
  rcases hz with rfl | hz
  ·exact lo y hy
  ·have:=lo y hy
   have:=hi z hz
   omega
theorem F8v (l:List Arc):D6j (A3s l):=by
 have:∀i,D6j (A4g l i):=by
  intro i
  induction i with
  | zero=>exact List.Pairwise.nil
  | succ i ih=>
   simp only[A4g]
   split
   ·exact G4b ih
   ·exact ih
 exact this _
section
variable {g : Arc -> Arc}
end
section
variable {nf : Nat} {ty : List Typ} {a b : List Nd}
theorem A1n.at' (ha:A1n ty.length nf a):(visA a 0).2.length=a.length/\∀(i:Nat) x,a[i]?=some x->∃n,(visA a 0).2[i]?=some n/\x.type=(ndAt a n).type/\x.arcs=renA (visA a 0).1 (A3s (ndAt a n).arcs):=by
 have hl:(visA a 0).2.length=a.length:=by
  have:=congrArg List.length ha.canon
  simp[A4x]at this
  exact this.symm
 refine⟨hl,fun i x hx=>?_⟩
 have hi:=(List.getElem?_eq_some_iff.1 hx).1
 obtain⟨n,hn⟩:∃n,(visA a 0).2[i]?=some n:=⟨_,List.getElem?_eq_getElem (by omega)⟩
 have h1:(a.map Nd.key)[i]?=some x.key:=by rw[List.getElem?_map,hx];rfl
 have h2:((A4x a 0).map Nd.key)[i]?=some (C3g (visA a 0).1 (ndAt a n)).key:=by
  unfold A4x
  rw[List.getElem?_map,List.getElem?_map,hn]
  rfl
 rw[ha.canon,h2]at h1
 injection h1 with h1
 injection h1 with h3 h4
 exact⟨n,hn,h3.symm,h4.symm⟩
theorem A1n.asc (ha:A1n ty.length nf a) {x:Nd} (hx:x∈a):Asc x.arcs:=by
 obtain⟨i,hi,e⟩:=List.getElem_of_mem hx
 obtain⟨n,_,_,h3⟩:=ha.at'.2 i x (by rw[List.getElem?_eq_getElem hi,e])
 have h4:D6j x.arcs:=by
  rw[h3]
  unfold renA D6j
  rw[List.pairwise_map]
  exact F8v _
 refine List.pairwise_iff_getElem.2 fun p q hp hq hpq=>?_
 have h5:=List.pairwise_iff_getElem.1 h4 p q hp hq hpq
 have h6:=ha.form.apart x hx p q _ _ hpq (List.getElem?_eq_getElem hp) (List.getElem?_eq_getElem hq)
 omega
def G8o (ty:List Typ):Prop:=∀(i j:Nat) x y,ty[i]?=some x->ty[j]?=some y->subL x.code y.code=true->subL y.code x.code=true->i=j
end
theorem F8w {l:List Str} {s:Str} (h:l.Nodup) (hs:s∉l):(put l s).Nodup:=by
 unfold put
 simp only
 split
 ·exact h
 ·rw[List.append_assoc]
  refine(List.Perm.nodup_iff List.perm_middle).2 ?_
  show(s::(l.take _++l.drop _)).Nodup
  rw[List.take_append_drop]
  exact List.nodup_cons.2 ⟨hs,h⟩
theorem E4l {d:List TD} (hg:Good d):(names d).Nodup:=by
 have key:∀j,j<=d.length->(A2a d j).Nodup/\∀s∈A2a d j,∃(i:Nat) (x:TD),i<j/\d[i]?=some x/\x.name=s:=by
  intro j
  induction j with
  | zero=>exact fun _=>⟨by simp[A2a],fun s hs=>by simp[A2a]at hs⟩
  | succ j ih=>
   intro hj
   obtain⟨h1,h2⟩:=ih (by omega)
   have hx:d[j]?=some d[j]:=List.getElem?_eq_getElem (by omega)
   rw[B0j hx]
   refine⟨F8w h1 fun hm=>?_,fun s hs=>?_⟩
   ·obtain⟨i,y,hi,hy,e⟩:=h2 _ hm
    have a1:=hg.idx i y hy
    have a2:=hg.idx j _ hx
    rw[e,a2]at a1
    omega
   ·rcases D5g.1 hs with hs | hs
    ·obtain⟨i,y,hi,hy,e⟩:=h2 s hs
     exact⟨i,y,by omega,hy,e⟩
    ·exact⟨j,_,by omega,hx,hs.symm⟩
 have:=(key d.length (Nat.le_refl _)).1
 unfold A2a at this
 rw[List.take_length]at this
 exact this
def D1g (l:List (List W)):Prop:=l.Nodup/\∀x∈l,Norm x
theorem D6k {d:List TD} (hg:Good d):D1g (A0o d):=by
 refine⟨?_,fun x hx=>?_⟩
 ·unfold A0o
  have hn:=E4l hg
  rw[List.nodup_iff_pairwise_ne,List.pairwise_map]
  refine List.Pairwise.imp_of_mem (fun {a b} ha hb hab e=>?_) hn
  refine hab (E7e hg ha hb ?_)
  rw[e]
  unfold eqS
  rw[F8s]
  rfl
 ·unfold A0o at hx
  obtain⟨s,_,rfl⟩:=List.mem_map.1 hx
  unfold A4p
  exact B5t _
theorem D6l {i:Nat} {l:List (List W)} {k:Nat} (h:D1g l):D1g (A6z i l k):=by
 unfold A6z
 split
 ·split
  ·exact h
  ·rename_i hc
   have hin:inB l (andN (l.getD i []) (l.getD k []))≠true:=fun e=>hc (.inr e)
   refine⟨?_,fun x hx=>?_⟩
   ·rw[List.nodup_append]
    refine⟨h.1,by simp,fun x hx y hy e=>?_⟩
    simp only[List.mem_singleton]at hy
    subst hy
    subst e
    exact hin (List.any_eq_true.2 ⟨_,hx,by simp⟩)
   ·rcases List.mem_append.1 hx with hx | hx
    ·exact h.2 x hx
    ·simp only[List.mem_singleton]at hx
     subst hx
     exact B5t _
 ·exact h
theorem E0t {l:List (List W)} (h:D1g l):D1g (A1s l):=by
 have h1:∀(i:Nat) (l:List (List W)) (k:Nat),D1g l->D1g (A3v i l k):=by
  intro i l k hl
  induction k with
  | zero=>exact hl
  | succ k ih=>exact D6l ih
 have h2:∀(f i:Nat) (l:List (List W)),D1g l->D1g (famF f i l):=by
  intro f
  induction f with
  | zero=>exact fun i l hl=>hl
  | succ f ih=>
   intro i l hl
   unfold famF
   split
   ·exact ih _ _ (h1 i l i hl)
   ·exact hl
 exact h2 300 0 l h
theorem G4c (x:Co) (out:List Co):((ins x out).map Co.code).Perm (x.code::out.map Co.code):=by
 unfold ins
 rw[List.append_assoc,List.map_append,List.map_append]
 refine List.perm_middle.trans ?_
 show(x.code::((out.take _).map Co.code++(out.drop _).map Co.code)).Perm _
 rw[<-List.map_append,List.take_append_drop]
theorem C9o (d:List TD) (all:List Str) (codes f:List (List W)):∀j,j<=f.length->((coUp d all codes f j).map Co.code).Perm (f.take j)
 | 0,_=>by simp[coUp]
 | j+1,hj=>by
  have hgd:f[j]?=some (f.getD j []):=by simp[List.getD_eq_getElem?_getD,show j<f.length by omega]
  simp only[coUp]
  refine(G4c _ _).trans ?_
  rw[List.take_add_one,hgd]
  refine List.Perm.trans (List.Perm.cons _ (C9o d all codes f j (by omega))) ?_
  exact(List.perm_append_singleton _ _).symm
theorem C9p {d:List TD} (hg:Good d):D1g ((A0q d).map Co.code):=by
 have h:=E0t (D6k hg)
 have hp:=C9o d (names d) (A0o d) (A1s (A0o d)) _ (Nat.le_refl _)
 rw[List.take_length]at hp
 exact⟨hp.nodup_iff.2 h.1,fun x hx=>h.2 x (hp.mem_iff.1 hx)⟩
theorem C9q (d:List TD):∀i,i<=(A0q d).length->(tyUp d i).map Typ.code=((A0q d).take i).map Co.code
 | 0,_=>by simp[tyUp]
 | i+1,h=>by
  have hx:(A0q d)[i]?=some (A0q d)[i]:=List.getElem?_eq_getElem (by omega)
  simp only[tyUp,hx]
  rw[List.map_append,C9q d i (by omega),List.take_add_one,hx,List.map_append]
  rfl
theorem E8b {d:List TD} (hg:Good d):G8o (A8m d):=by
 have h:=C9p hg
 have hc:=C9q d (A0q d).length (Nat.le_refl _)
 rw[List.take_length]at hc
 have hc:(A8m d).map Typ.code=(A0q d).map Co.code:=hc
 rw[<-hc]at h
 intro i j x y hx hy h1 h2
 have e:x.code=y.code:=Norm.ext (h.2 _ (List.mem_map_of_mem (List.mem_of_getElem? hx))) (h.2 _ (List.mem_map_of_mem (List.mem_of_getElem? hy))) (F8t h1 h2)
 have g1:((A8m d).map Typ.code)[i]?=some x.code:=by rw[List.getElem?_map,hx];rfl
 have g2:((A8m d).map Typ.code)[j]?=some x.code:=by rw[List.getElem?_map,hy,e];rfl
 obtain⟨hi,e1⟩:=List.getElem?_eq_some_iff.1 g1
 obtain⟨hj,e2⟩:=List.getElem?_eq_some_iff.1 g2
 have hp:=List.pairwise_iff_getElem.1 (List.nodup_iff_pairwise_ne.1 h.1)
 rcases Nat.lt_trichotomy i j with hlt | heq | hgt
 ·exact absurd (e1.trans e2.symm) (hp i j hi hj hlt)
 ·exact heq
 ·exact absurd (e2.trans e1.symm) (hp j i hj hi hgt)
theorem G8p {d:List TD} (hd:d.length<=12->DOK d):G8o (hOf d).1:=by
 unfold hOf
 split
 ·rename_i h
  exact E8b (A2q (hd h.1) h.2).good
 ·split
  ·rename_i h
   exact E8b (A2q C3j h).good
  ·intro i j x y hx
   simp at hx
section
variable {nf : Nat} {ty : List Typ} {a b : List Nd}
end
section
variable {K : Type} [DecidableEq K]
def A4l (v:K->List K->List K) (L:List K) (c:Int×K):List K:=if c.2∈L then L else v c.2 L
def dfs (succ:K->List (Int×K)):Nat->K->List K->List K
 | 0,_,L=>L
 | k+1,x,L=>(succ x).foldl (A4l (dfs succ k)) (L++[x])
def Closed (succ:K->List (Int×K)) (U:List K):Prop:=∀x∈U,∀c∈succ x,c.2∈U
def unv (U L:List K):Nat:=U.countP fun y=>decide (y∉L)
theorem E8c {U L L':List K} (h:∀y∈L,y∈L'):unv U L'<=unv U L:=
 List.countP_mono_left fun y _ hy=>by
  have:=of_decide_eq_true hy
  exact decide_eq_true fun hm=>this (h y hm)
theorem B9d {x:K} {L:List K}:∀{U:List K},x∈U->x∉L->unv U (L++[x])<unv U L
 | [],h,_=>by simp at h
 | y::U,h,hx=>by
  by_cases e:y=x
  ·subst e
   have h1:unv U (L++[y])<=unv U L:=E8c fun z hz=>by simp[hz]
   unfold unv at h1 ⊢
   rw[List.countP_cons,List.countP_cons,if_neg (by simp),if_pos (by simp[hx])]
   omega
  ·have h1:=B9d (U:=U) (by rcases List.mem_cons.1 h with h | h;exact absurd h.symm e;exact h) hx
   have e2:decide (y∉L++[x])=decide (y∉L):=by simp[e]
   unfold unv at h1 ⊢
   rw[List.countP_cons,List.countP_cons,e2]
   omega
theorem B5a (U:List K):unv U []=U.length:=by simp[unv]
theorem D6m {U L:List K} {x:K} (hx:x∈U) (hn:x∉L):0<unv U L:=by
 have:=B9d hx hn
 omega
structure Ran (succ:K->List (Int×K)) (U L L':List K):Prop where
 pre:∃r,L'=L++r
 nodup:L.Nodup->L'.Nodup
 sub:(∀y∈L,y∈U)->∀y∈L',y∈U
 closed:∀y∈L',y∉L->∀c∈succ y,c.2∈L'
 cnt:L'.length+unv U L'<=L.length+unv U L
theorem Ran.mem {succ:K->List (Int×K)} {U L L':List K} (h:Ran succ U L L') {y:K} (hy:y∈L):y∈L':=by
 obtain⟨r,e⟩:=h.pre
 rw[e]
 exact List.mem_append_left _ hy
theorem Ran.refl (succ:K->List (Int×K)) (U L:List K):Ran succ U L L:=⟨⟨[],by simp⟩,id,id,fun _ h h'=>absurd h h',Nat.le_refl _⟩
theorem Ran.trans {succ:K->List (Int×K)} {U L L1 L2:List K} (h:Ran succ U L L1) (h':Ran succ U L1 L2):Ran succ U L L2 where
 pre:=by
  obtain⟨r,e⟩:=h.pre
  obtain⟨r',e'⟩:=h'.pre
  exact⟨r++r',by rw[e',e,List.append_assoc]⟩
 nodup:=fun hn=>h'.nodup (h.nodup hn)
 sub:=fun hs=>h'.sub (h.sub hs)
 closed:=fun y hy hn c hc=>by
  by_cases h1:y∈L1
  ·exact h'.mem (h.closed y h1 hn c hc)
  ·exact h'.closed y hy h1 c hc
 cnt:=Nat.le_trans h'.cnt h.cnt
variable {succ : K -> List (Int × K)} {U : List K}
theorem D6n {v:K->List K->List K} {k:Nat} (hv:∀x L,x∈U->x∉L->unv U L<=k->Ran succ U L (v x L)/\x∈v x L) :
  ∀(ar:List (Int×K)) (L:List K),(∀c∈ar,c.2∈U)->unv U L<=k->Ran succ U L (ar.foldl (A4l v) L)/\∀c∈ar,c.2∈ar.foldl (A4l v) L
 | [],L,_,_=>⟨Ran.refl _ _ _,by simp⟩
 | c::ar,L,ha,hk=>by
  rw[List.foldl_cons]
  have step:Ran succ U L (A4l v L c)/\c.2∈A4l v L c:=by
   unfold A4l
   by_cases hc:c.2∈L
   ·rw[if_pos hc]
    exact⟨Ran.refl _ _ _,hc⟩
   ·rw[if_neg hc]
    exact hv _ _ (ha c List.mem_cons_self) hc hk
  have hk':unv U (A4l v L c)<=k:=Nat.le_trans (E8c fun y hy=>step.1.mem hy) hk
  obtain⟨h1,h2⟩:=D6n hv ar (A4l v L c) (fun d hd=>ha d (List.mem_cons_of_mem _ hd)) hk'
  refine⟨step.1.trans h1,fun d hd=>?_⟩
  rcases List.mem_cons.1 hd with rfl | hd
  ·exact h1.mem step.2
  ·exact h2 d hd
theorem B9e (hU:Closed succ U):∀(k:Nat) (x:K) (L:List K),x∈U->x∉L->unv U L<=k->Ran succ U L (dfs succ k x L)/\x∈dfs succ k x L
 | 0,x,L,hx,hn,hk=>by have:=D6m hx hn;omega
 | k+1,x,L,hx,hn,hk=>by
  have hk':unv U (L++[x])<=k:=by have:=B9d hx hn;omega
  obtain⟨h1,h2⟩:=D6n (B9e hU k) (succ x) (L++[x]) (hU x hx) hk'
  have hm:x∈dfs succ (k+1) x L:=h1.mem (by simp)
  refine⟨⟨?_,fun hd=>h1.nodup ?_,fun hs=>h1.sub fun y hy=>?_,fun y hy hyn=>?_,?_⟩,hm⟩
  ·obtain⟨r,e⟩:=h1.pre
   exact⟨[x]++r,by rw[<-List.append_assoc];exact e⟩
  ·rw[List.nodup_append]
   exact⟨hd,by simp,fun y hy z hz e=>by simp at hz;subst hz;subst e;exact hn hy⟩
  ·rcases List.mem_append.1 hy with hy | hy
   ·exact hs y hy
   ·simp at hy;rw[hy];exact hx
  ·by_cases e:y=x
   ·subst e
    exact h2
   ·exact h1.closed y hy (by simp[hyn,e])
  ·have h3:=h1.cnt
   have h4:=B9d hx hn
   simp only[List.length_append,List.length_cons,List.length_nil]at h3
   show((succ x).foldl (A4l (dfs succ k)) (L++[x])).length+unv U ((succ x).foldl (A4l (dfs succ k)) (L++[x]))<=_
   omega
theorem F8x {v v':K->List K->List K} {k:Nat} (hU:Closed succ U) (hr:∀x L,x∈U->x∉L->unv U L<=k->Ran succ U L (v x L)) (hv:∀x L,x∈U->x∉L->unv U L<=k->v' x L=v x L) :
  ∀(ar:List (Int×K)) (L:List K),(∀c∈ar,c.2∈U)->unv U L<=k->ar.foldl (A4l v') L=ar.foldl (A4l v) L
 | [],_,_,_=>rfl
 | c::ar,L,ha,hk=>by
  rw[List.foldl_cons,List.foldl_cons]
  have e:A4l v' L c=A4l v L c/\unv U (A4l v L c)<=k:=by
   unfold A4l
   by_cases hc:c.2∈L
   ·rw[if_pos hc,if_pos hc]
    exact⟨rfl,hk⟩
   ·rw[if_neg hc,if_neg hc]
    have h1:=hr _ L (ha c List.mem_cons_self) hc hk
    exact⟨hv _ _ (ha c List.mem_cons_self) hc hk,Nat.le_trans (E8c fun y hy=>h1.mem hy) hk⟩
  rw[e.1]
  exact F8x hU hr hv ar _ (fun d hd=>ha d (List.mem_cons_of_mem _ hd)) e.2
theorem E8d (hU:Closed succ U):∀(k:Nat) (x:K) (L:List K),x∈U->x∉L->unv U L<=k->∀m,dfs succ (k+m) x L=dfs succ k x L
 | 0,x,L,hx,hn,hk=>by have:=D6m hx hn;omega
 | k+1,x,L,hx,hn,hk=>fun m=>by
  have hk':unv U (L++[x])<=k:=by have:=B9d hx hn;omega
  rw[show k+1+m=(k+m)+1 by omega]
  exact F8x hU (fun x L a b c=>(B9e hU k x L a b c).1) (fun x L a b c=>E8d hU k x L a b c m) (succ x) (L++[x]) (hU x hx) hk'
theorem G4d (hU:Closed succ U) {x:K} {k k':Nat} (hx:x∈U) (hk:U.length<=k) (hk':U.length<=k'):dfs succ k x []=dfs succ k' x []:=by
 have h:=E8d hU U.length x [] hx (by simp) (by rw[B5a];exact Nat.le_refl _)
 rw[show k=U.length+(k-U.length)by omega,show k'=U.length+(k'-U.length)by omega,h,h]
theorem E8e (succ:K->List (Int×K)) (k:Nat) (x:K) (L:List K):∃r,dfs succ (k+1) x L=L++[x]++r:=by
 have key:∀(k:Nat) (x:K) (L:List K),∃r,dfs succ k x L=L++r:=by
  intro k
  induction k with
  | zero=>exact fun x L=>⟨[],by simp[dfs]⟩
  | succ k ih=>
   intro x L
   have:∀(ar:List (Int×K)) (L:List K),∃r,ar.foldl (A4l (dfs succ k)) L=L++r:=by
    intro ar
    induction ar with
    | nil=>exact fun L=>⟨[],by simp⟩
    | cons c ar iha=>
     intro L
     obtain⟨r,e⟩:=iha (A4l (dfs succ k) L c)
     have:∃r',A4l (dfs succ k) L c=L++r':=by
      unfold A4l
      split
      ·exact⟨[],by simp⟩
      ·exact ih _ _
     obtain⟨r',e'⟩:=this
     exact⟨r'++r,by rw[List.foldl_cons,e,e',List.append_assoc]⟩
   obtain⟨r,e⟩:=this (succ x) (L++[x])
   exact⟨[x]++r,by rw[<-List.append_assoc];exact e⟩
 have:∀(ar:List (Int×K)) (L:List K),∃r,ar.foldl (A4l (dfs succ k)) L=L++r:=by
  intro ar
  induction ar with
  | nil=>exact fun L=>⟨[],by simp⟩
  | cons c ar iha=>
   intro L
   obtain⟨r,e⟩:=iha (A4l (dfs succ k) L c)
   have:∃r',A4l (dfs succ k) L c=L++r':=by
    unfold A4l
    split
    ·exact⟨[],by simp⟩
    ·exact key _ _ _
   obtain⟨r',e'⟩:=this
   exact⟨r'++r,by rw[List.foldl_cons,e,e',List.append_assoc]⟩
 exact this (succ x) (L++[x])
end
section
variable {K K' : Type} [DecidableEq K] [DecidableEq K'] {succ : K -> List (Int × K)} {succ' : K' -> List (Int × K')} {φ : K -> K'} {S : K -> Prop}
omit [DecidableEq K] [DecidableEq K'] in
theorem E4m (hinj:∀x y,S x->S y->φ x=φ y->x=y) {x:K} {L:List K} (hx:S x) (hL:∀y∈L,S y):φ x∈L.map φ ↔ x∈L:=by
 constructor
 ·intro h
  obtain⟨y,hy,e⟩:=List.mem_map.1 h
  rw[<-hinj y x (hL y hy) hx e]
  exact hy
 ·intro h
  exact List.mem_map.2 ⟨x,h,rfl⟩
theorem F8y (hinj:∀x y,S x->S y->φ x=φ y->x=y) (hc:∀x,S x->∀c∈succ x,S c.2) (hs:∀x,S x->succ' (φ x)=(succ x).map fun c=>(c.1,φ c.2)) :
  ∀(k:Nat) (x:K) (L:List K),S x->(∀y∈L,S y)->dfs succ' k (φ x) (L.map φ)=(dfs succ k x L).map φ/\∀y∈dfs succ k x L,S y
 | 0,x,L,_,hL=>⟨rfl,hL⟩
 | k+1,x,L,hx,hL=>by
  have fold:∀(ar:List (Int×K)) (L:List K),(∀c∈ar,S c.2)->(∀y∈L,S y) ->
    (ar.map fun c=>(c.1,φ c.2)).foldl (A4l (dfs succ' k)) (L.map φ)=(ar.foldl (A4l (dfs succ k)) L).map φ/\∀y∈ar.foldl (A4l (dfs succ k)) L,S y:=by
   intro ar
   induction ar with
   | nil=>exact fun L _ hL=>⟨rfl,hL⟩
   | cons c ar ih=>
    intro L ha hL
    have hcS:=ha c List.mem_cons_self
    rw[List.map_cons,List.foldl_cons,List.foldl_cons]
    have e:A4l (dfs succ' k) (L.map φ) (c.1,φ c.2)=(A4l (dfs succ k) L c).map φ/\∀y∈A4l (dfs succ k) L c,S y:=by
     unfold A4l
     simp only[E4m hinj hcS hL]
     by_cases hm:c.2∈L
     ·rw[if_pos hm,if_pos hm]
      exact⟨rfl,hL⟩
     ·rw[if_neg hm,if_neg hm]
      exact F8y hinj hc hs k c.2 L hcS hL
    rw[e.1]
    exact ih _ (fun d hd=>ha d (List.mem_cons_of_mem _ hd)) e.2
  show(succ' (φ x)).foldl _ _=_/\_
  rw[hs x hx,show L.map φ++[φ x]=(L++[x]).map φ by simp]
  exact fold (succ x) (L++[x]) (hc x hx) fun y hy=>by
   rcases List.mem_append.1 hy with hy | hy
   ·exact hL y hy
   ·simp at hy;rw[hy];exact hx
end
def C5g (l:List Nd) (n:Nat):List (Int×Nat):=(A4d l n).map fun a=>(a.feat,a.to.toNat)
def typL (l:List Nd) (n:Nat):Int:=(ndAt l (n:Int)).type
def mkNd (t:Int) (as':List Arc):Nd:=⟨t,A0k eArc as',as',IsS.tree _ _⟩
def idxK {K:Type} [DecidableEq K] (L:List K) (x:K):Nat:=L.idxOf x
theorem G8q {K:Type} [DecidableEq K] {L:List K} {x:K} (h:x∈L):idxK L x<L.length:=List.idxOf_lt_length_of_mem h
theorem F8z {K:Type} [DecidableEq K] {L:List K} {x:K} (h:x∈L):L[idxK L x]?=some x:=by
 have hlt:=G8q h
 rw[List.getElem?_eq_getElem hlt]
 exact congrArg some (List.getElem_idxOf hlt)
def arcK {K:Type} [DecidableEq K] (L:List K) (c:Int×K):Arc:=⟨c.1,(idxK L c.2:Int)⟩
def ndK {K:Type} [DecidableEq K] (succ:K->List (Int×K)) (typ:K->Int) (L:List K) (x:K):Nd:=mkNd (typ x) ((succ x).map (arcK L))
def A4z {K:Type} [DecidableEq K] (succ:K->List (Int×K)) (typ:K->Int) (L:List K):List Nd:=L.map (ndK succ typ L)
structure Con (l:List Nd) (st:VS) (L:List Nat):Prop where
 len:st.1.length=l.length
 ord:st.2=L.map fun n:Nat=>(n:Int)
 num:∀n,n<l.length->(n∈L->nAt st.1 n=(L.idxOf n:Int))/\(n∉L->nAt st.1 n<0)
theorem Con.neg {l:List Nd} {st:VS} {L:List Nat} (h:Con l st L) {n:Nat} (hn:n<l.length):nAt st.1 n<0 ↔ n∉L:=by
 obtain⟨h1,h2⟩:=h.num n hn
 refine⟨fun hl hm=>?_,h2⟩
 rw[h1 hm]at hl
 omega
theorem F9a {l:List Nd} (hto:∀x∈l,∀a∈x.arcs,0<=a.to/\a.to<(l.length:Int)):∀(k n:Nat) (st:VS) (L:List Nat),Con l st L->n<l.length->n∉L->Con l (visF l k n st) (dfs (C5g l) k n L)
 | 0,_,_,_,h,_,_=>h
 | k+1,n,st,L,h,hn,hL=>by
  have fold:∀(ar:List Arc) (st:VS) (L:List Nat),(∀a∈ar,0<=a.to/\a.to<(l.length:Int))->Con l st L->Con l (ar.foldl (B1g (visF l k)) st) ((ar.map fun a=>(a.feat,a.to.toNat)).foldl (A4l (dfs (C5g l) k)) L):=by
   intro ar
   induction ar with
   | nil=>exact fun st L _ h=>h
   | cons a ar ih=>
    intro st L ha h
    obtain⟨a0,a1⟩:=ha a List.mem_cons_self
    rw[List.map_cons,List.foldl_cons,List.foldl_cons]
    refine ih _ _ (fun b hb=>ha b (List.mem_cons_of_mem _ hb)) ?_
    have hlt:a.to.toNat<l.length:=by omega
    unfold B1g A4l
    by_cases hm:a.to.toNat∈L
    ·rw[if_neg (fun hneg=>(h.neg hlt).1 hneg hm),if_pos hm]
     exact h
    ·rw[if_pos ((h.neg hlt).2 hm),if_neg hm]
     exact F9a hto k _ st L h hlt hm
  refine fold (A4d l n) _ _ (fun a ha=>?_) ?_
  ·unfold A4d at ha
   split at ha
   ·rename_i x hx
    exact hto x (List.mem_of_getElem? hx) a (B3z.1 ha)
   ·cases ha
  ·have hlen:st.2.length=L.length:=by rw[h.ord];simp
   refine⟨by simp[h.len],by simp[h.ord],fun m hm=>?_⟩
   have hn':n<st.1.length:=by rw[h.len];exact hn
   simp only[E3y hn',List.mem_append,List.mem_singleton]
   by_cases e:m=n
   ·subst e
    refine⟨fun _=>?_,fun hh=>absurd (Or.inr rfl) hh⟩
    rw[if_pos rfl,hlen,List.idxOf_append,if_neg hL]
    simp
   ·rw[if_neg e]
    obtain⟨h1,h2⟩:=h.num m hm
    refine⟨fun hh=>?_,fun hh=>h2 fun h'=>hh (.inl h')⟩
    have hmL:m∈L:=by
     rcases hh with hh | hh
     ·exact hh
     ·exact absurd hh e
    rw[h1 hmL,List.idxOf_append,if_pos hmL]
theorem E0u {l:List Nd} (hto:∀x∈l,∀a∈x.arcs,0<=a.to/\a.to<(l.length:Int)):Closed (C5g l) (List.range l.length):=by
 intro n _ c hc
 obtain⟨a,ha,rfl⟩:=List.mem_map.1 hc
 unfold A4d at ha
 split at ha
 ·rename_i x hx
  have:=hto x (List.mem_of_getElem? hx) a (B3z.1 ha)
  exact List.mem_range.2 (by show a.to.toNat<_;omega)
 ·cases ha
theorem F2v {l:List Nd} (hto:∀x∈l,∀a∈x.arcs,0<=a.to/\a.to<(l.length:Int)) (h0:0<l.length) :
  (A4x l 0).map Nd.key=(A4z (C5g l) (typL l) (dfs (C5g l) l.length 0 [])).map Nd.key:=by
 have hU:=E0u hto
 have h0U:0∈List.range l.length:=List.mem_range.2 h0
 obtain⟨hran,_⟩:=B9e hU l.length 0 [] h0U (by simp) (by rw[B5a];simp)
 have hc:Con l (visA l 0) (dfs (C5g l) l.length 0 []):=by
  refine F9a hto l.length 0 (start l) [] ⟨by simp[start],by simp[start],fun n hn=>⟨fun h=>by simp at h,fun _=>?_⟩⟩ h0 (by simp)
  show nAt (List.replicate l.length (-1)) n<0
  rw[E4a hn]
  omega
 generalize dfs (C5g l) l.length 0 []=L at hran hc
 unfold A4x A4z
 rw[hc.ord,List.map_map,List.map_map,List.map_map]
 refine List.map_congr_left fun n hn=>?_
 have hnl:n<l.length:=List.mem_range.1 (hran.sub (by simp) n hn)
 show(_,_)=(_,_)
 refine Prod.ext rfl ?_
 show renA _ (A3s (ndAt l (n:Int)).arcs)=((A4d l n).map fun a=>(a.feat,a.to.toNat)).map (arcK L)
 have e:A3s (ndAt l (n:Int)).arcs=A4d l n:=by
  unfold ndAt A4d
  rw[Int.toNat_natCast]
  cases hx:l[n]? with
  | none=>rfl
  | some x=>rfl
 rw[e]
 unfold renA
 rw[List.map_map]
 refine List.map_congr_left fun a ha=>?_
 have hm:a.to.toNat∈L:=hran.closed n hn (by simp) (a.feat,a.to.toNat) (List.mem_map.2 ⟨a,ha,rfl⟩)
 have hlt:a.to.toNat<l.length:=List.mem_range.1 (hran.sub (by simp) _ hm)
 show(⟨a.feat,nAt (visA l 0).1 a.to.toNat⟩:Arc)=⟨a.feat,_⟩
 rw[(hc.num _ hlt).1 hm]
 rfl
theorem F9b {l:List Arc} {f:Int} (h:∀x∈l,x.feat<=f):posA l f l.length=l.length:=by
 cases hl:l.length with
 | zero=>rfl
 | succ k=>
  unfold posA
  have hk:k<l.length:=by omega
  rw[List.getElem?_eq_getElem hk]
  simp only
  rw[if_neg]
  have:=h _ (List.getElem_mem hk)
  omega
theorem E0v {l:List Arc} (h:D6j l):∀i,i<=l.length->A4g l i=l.take i
 | 0,_=>rfl
 | i+1,hi=>by
  have hl:i<l.length:=by omega
  unfold A4g
  rw[List.getElem?_eq_getElem hl,E0v h i (by omega)]
  simp only
  have hp:posA (l.take i) l[i].feat (l.take i).length=(l.take i).length:=F9b fun x hx=>by
   obtain⟨j,hj,e⟩:=List.getElem_of_mem hx
   rw[List.length_take]at hj
   rw[List.getElem_take]at e
   rw[<-e]
   exact List.pairwise_iff_getElem.1 h j i (by omega) hl (by omega)
  unfold insA
  rw[hp,List.take_length,List.drop_length,List.append_nil,List.take_succ_eq_append_getElem hl]
theorem G4e {l:List Arc} (h:D6j l):A3s l=l:=by
 unfold A3s
 rw[E0v h _ (Nat.le_refl _),List.take_length]
section
variable {K : Type} [DecidableEq K] {succ : K -> List (Int × K)} {typ : K -> Int}
theorem C1g {K':Type} [DecidableEq K'] {φ:K'->K} {S:K'->Prop} (hinj:∀x y,S x->S y->φ x=φ y->x=y) {x:K'} (hx:S x):∀{L:List K'},(∀y∈L,S y)->(L.map φ).idxOf (φ x)=L.idxOf x
 | [],_=>rfl
 | y::L,hL=>by
  rw[List.map_cons,List.idxOf_cons,List.idxOf_cons,C1g hinj hx fun z hz=>hL z (List.mem_cons_of_mem _ hz)]
  by_cases e:y=x
  ·subst e;simp
  ·have:φ y≠φ x:=fun e'=>e (hinj y x (hL y List.mem_cons_self) hx e')
   have e1:(φ y==φ x)=false:=by simpa using this
   have e2:(y==x)=false:=by simpa using e
   rw[e1,e2]
def AscK (succ:K->List (Int×K)) (L:List K):Prop:=∀x∈L,(succ x).Pairwise fun c d=>c.1<d.1
theorem B5b (L:List K):(A4z succ typ L).length=L.length:=by simp[A4z]
theorem D6o {L:List K} {i:Nat} {x:K} (h:L[i]?=some x):(A4z succ typ L)[i]?=some (ndK succ typ L x):=by
 unfold A4z
 rw[List.getElem?_map,h]
 rfl
theorem B1i {L:List K} {y:Nd} (h:y∈A4z succ typ L):∃x∈L,y=ndK succ typ L x:=by
 obtain⟨x,hx,e⟩:=List.mem_map.1 h
 exact⟨x,hx,e.symm⟩
theorem E8f {L:List K} (hc:Closed succ L):∀x∈A4z succ typ L,∀a∈x.arcs,0<=a.to/\a.to<((A4z succ typ L).length:Int):=by
 intro y hy a ha
 obtain⟨x,hx,rfl⟩:=B1i hy
 obtain⟨c,hcm,rfl⟩:=List.mem_map.1 ha
 have:=List.idxOf_lt_length_of_mem (hc x hx c hcm)
 rw[B5b]
 show 0<=(L.idxOf c.2:Int)/\(L.idxOf c.2:Int)<_
 omega
theorem E0w {L:List K} (ha:AscK succ L) {x:K} (hx:x∈L):Asc (ndK succ typ L x).arcs:=by
 show List.Pairwise _ ((succ x).map (arcK L))
 rw[List.pairwise_map]
 exact ha x hx
theorem F9c {L:List K} {r:K} (hn:L.Nodup) (hc:Closed succ L) (h0:L[0]?=some r) (ha:AscK succ L) :
  (A4x (A4z succ typ L) 0).map Nd.key=(A4z succ typ (dfs succ L.length r [])).map Nd.key:=by
 have hlen:=(List.getElem?_eq_some_iff.1 h0).1
 rw[F2v (E8f hc) (by rw[B5b];exact hlen),B5b]
 have hat:∀i,i<L.length->L[i]?=some (L.getD i r):=fun i hi=>by simp[List.getD_eq_getElem?_getD,hi]
 have hinj:∀i j,i<L.length->j<L.length->L.getD i r=L.getD j r->i=j:=fun i j hi hj e=>by
  have h1:L[i]=L[j]:=by simpa[List.getD_eq_getElem?_getD,hi,hj]using e
  rcases Nat.lt_trichotomy i j with h | h | h
  ·exact absurd h1 (List.pairwise_iff_getElem.1 hn i j hi hj h)
  ·exact h
  ·exact absurd h1.symm (List.pairwise_iff_getElem.1 hn j i hj hi h)
 have hidx:∀y∈L,L.getD (L.idxOf y) r=y:=fun y hy=>by
  have hlt:=List.idxOf_lt_length_of_mem hy
  simp[List.getD_eq_getElem?_getD,hlt,List.getElem_idxOf hlt]
 have hsucc:∀i,i<L.length->C5g (A4z succ typ L) i=(succ (L.getD i r)).map fun c=>(c.1,L.idxOf c.2):=fun i hi=>by
  have hm:L.getD i r∈L:=List.mem_of_getElem? (hat i hi)
  unfold C5g A4d
  rw[D6o (hat i hi)]
  simp only
  rw[G4e ((E0w ha hm).imp fun h=>by omega)]
  show((succ (L.getD i r)).map (arcK L)).map _=_
  rw[List.map_map]
  exact List.map_congr_left fun c _=>rfl
 obtain⟨hm,hS⟩:=F8y (φ:=fun i=>L.getD i r) (S:=fun i=>i<L.length) (succ:=C5g (A4z succ typ L)) (succ':=succ) hinj
  (fun i hi c hcm=>by
   rw[hsucc i hi]at hcm
   obtain⟨d,hd,rfl⟩:=List.mem_map.1 hcm
   exact List.idxOf_lt_length_of_mem (hc _ (List.mem_of_getElem? (hat i hi)) d hd))
  (fun i hi=>by
   rw[hsucc i hi,List.map_map]
   conv=>lhs;rw[<-List.map_id (succ (L.getD i r))]
   refine List.map_congr_left fun d hd=>?_
   show d=(d.1,L.getD (L.idxOf d.2) r)
   rw[hidx _ (hc _ (List.mem_of_getElem? (hat i hi)) d hd)])
  L.length 0 [] hlen (by simp)
 have e0:L.getD 0 r=r:=by simp[List.getD_eq_getElem?_getD,h0]
 simp only[List.map_nil]at hm
 rw[e0]at hm
 rw[hm]
 generalize dfs (C5g (A4z succ typ L)) L.length 0 []=D at hS
 unfold A4z
 rw[List.map_map,List.map_map,List.map_map]
 refine List.map_congr_left fun i hi=>?_
 have hil:=hS i hi
 show(_,_)=(_,_)
 refine Prod.ext ?_ ?_
 ·show(ndAt (A4z succ typ L) (i:Int)).type=typ (L.getD i r)
  rw[D5u (D6o (hat i hil))]
  rfl
 ·show(C5g (A4z succ typ L) i).map (arcK D)=(succ (L.getD i r)).map (arcK (D.map fun i=>L.getD i r))
  rw[hsucc i hil,List.map_map]
  refine List.map_congr_left fun c hcm=>?_
  have hcL:=hc _ (List.mem_of_getElem? (hat i hil)) c hcm
  have:=C1g (φ:=fun i=>L.getD i r) (S:=fun i=>i<L.length) hinj (List.idxOf_lt_length_of_mem hcL) hS
  simp only[hidx _ hcL]at this
  show(⟨c.1,((List.idxOf (List.idxOf c.2 L) D:Nat):Int)⟩:Arc)=⟨c.1,((List.idxOf c.2 (D.map fun i=>L.getD i r):Nat):Int)⟩
  rw[this]
theorem E4n {U:List K} {r:K} {k nt nf:Nat} (hU:Closed succ U) (hr:r∈U) (hk:U.length<=k) (hb:U.length<=4096) (ht:∀x∈U,0<=typ x/\typ x<(nt:Int)) (hf:∀x∈U,∀c∈succ x,0<=c.1/\c.1<(nf:Int))
  (ha:AscK succ U):A1n nt nf (A4z succ typ (dfs succ k r [])):=by
 obtain⟨hran,hrm⟩:=B9e hU k r [] hr (by simp) (by rw[B5a];exact hk)
 obtain⟨m,hm⟩:∃m,k=m+1:=⟨k-1,by have:=D6m hr (List.not_mem_nil (a:=r));rw[B5a]at this;omega⟩
 have h0:(dfs succ k r [])[0]?=some r:=by
  obtain⟨q,e⟩:=E8e succ m r []
  rw[hm,e]
  rfl
 have hn:=hran.nodup List.nodup_nil
 have hc:Closed succ (dfs succ k r []):=fun x hx c hcm=>hran.closed x hx (by simp) c hcm
 have hsub:=hran.sub (by simp)
 have hlen:(dfs succ k r []).length<=U.length:=by
  have:=hran.cnt
  rw[B5a]at this
  simp only[List.length_nil]at this
  omega
 have hfix:dfs succ (dfs succ k r []).length r []=dfs succ k r []:=G4d hc hrm (Nat.le_refl _) (by omega)
 have hasc:AscK succ (dfs succ k r []):=fun x hx=>ha x (hsub x hx)
 have hl:=F9c (typ:=typ) hn hc h0 hasc
 rw[hfix]at hl
 generalize dfs succ k r []=L at *
 refine⟨⟨by rw[B5b];exact(List.getElem?_eq_some_iff.1 h0).1,by rw[B5b];omega,fun y hy=>?_,fun y hy a hay=>?_,E8f hc,fun y hy i j a b hij hi hj=>?_⟩,fun y hy=>?_,fun y hy a hay=>?_,hl.symm⟩
 ·obtain⟨x,hx,rfl⟩:=B1i hy
  exact(ht x (hsub x hx)).1
 ·obtain⟨x,hx,rfl⟩:=B1i hy
  obtain⟨c,hcm,rfl⟩:=List.mem_map.1 hay
  exact(hf x (hsub x hx) c hcm).1
 ·obtain⟨x,hx,rfl⟩:=B1i hy
  have h1:=E0w (typ:=typ) hasc hx
  obtain⟨hi',e1⟩:=List.getElem?_eq_some_iff.1 hi
  obtain⟨hj',e2⟩:=List.getElem?_eq_some_iff.1 hj
  have:=List.pairwise_iff_getElem.1 h1 i j hi' hj' hij
  rw[e1,e2]at this
  omega
 ·obtain⟨x,hx,rfl⟩:=B1i hy
  exact(ht x (hsub x hx)).2
 ·obtain⟨x,hx,rfl⟩:=B1i hy
  obtain⟨c,hcm,rfl⟩:=List.mem_map.1 hay
  exact(hf x (hsub x hx) c hcm).2
end
structure B5c (ty:List Typ) (jn:Int->Int->Int):Prop where
 rng:∀s t,0<=s->s<(ty.length:Int)->0<=t->t<(ty.length:Int)->0<=jn s t/\jn s t<(ty.length:Int)
 left:∀s t,0<=s->s<(ty.length:Int)->0<=t->t<(ty.length:Int)->hsub ty (jn s t) s=true
 right:∀s t,0<=s->s<(ty.length:Int)->0<=t->t<(ty.length:Int)->hsub ty (jn s t) t=true
 least:∀s t u,0<=s->s<(ty.length:Int)->0<=t->t<(ty.length:Int)->0<=u->u<(ty.length:Int)->hsub ty u s=true->hsub ty u t=true->hsub ty u (jn s t)=true
def A2s (l:List Nd) (i:Nat):List Arc:=(ndAt l (i:Int)).arcs
def both (s:Arc) (l:List Arc):List (Int×(Nat×Nat)):=l.filterMap fun t=>if s.feat=t.feat then some (s.feat,(s.to.toNat,t.to.toNat))else none
def A2l (a b:List Nd) (p:Nat×Nat):List (Int×(Nat×Nat)):=(A2s a p.1).flatMap fun s=>both s (A2s b p.2)
def typP (jn:Int->Int->Int) (a b:List Nd) (p:Nat×Nat):Int:=jn (ndAt a (p.1:Int)).type (ndAt b (p.2:Int)).type
def C3l (a b:List Nd):List (Nat×Nat):=(List.range a.length).flatMap fun i=>(List.range b.length).map fun j=>(i,j)
def genO (a b:List Nd):List (Nat×Nat):=dfs (A2l a b) (a.length*b.length) (0,0) []
def genL (jn:Int->Int->Int) (a b:List Nd):List Nd:=A4z (A2l a b) (typP jn a b) (genO a b)
theorem C1h {s:Arc} {l:List Arc} {c:Int×(Nat×Nat)}:c∈both s l ↔ ∃t∈l,s.feat=t.feat/\c=(s.feat,(s.to.toNat,t.to.toNat)):=by
 unfold both
 rw[List.mem_filterMap]
 constructor
 ·rintro⟨t,ht,h⟩
  split at h
  ·rename_i e
   injection h with h
   exact⟨t,ht,e,h.symm⟩
  ·cases h
 ·rintro⟨t,ht,e,rfl⟩
  exact⟨t,ht,by rw[if_pos e]⟩
theorem B1j {a b:List Nd} {p:Nat×Nat} {c:Int×(Nat×Nat)}:c∈A2l a b p ↔ ∃s∈A2s a p.1,∃t∈A2s b p.2,s.feat=t.feat/\c=(s.feat,(s.to.toNat,t.to.toNat)):=by
 unfold A2l
 rw[List.mem_flatMap]
 constructor
 ·rintro⟨s,hs,h⟩
  exact⟨s,hs,C1h.1 h⟩
 ·rintro⟨s,hs,h⟩
  exact⟨s,hs,C1h.2 h⟩
theorem A7p {a b:List Nd} {p:Nat×Nat}:p∈C3l a b ↔ p.1<a.length/\p.2<b.length:=by
 unfold C3l
 simp only[List.mem_flatMap,List.mem_map,List.mem_range]
 constructor
 ·rintro⟨i,hi,j,hj,rfl⟩
  exact⟨hi,hj⟩
 ·rintro⟨hi,hj⟩
  exact⟨p.1,hi,p.2,hj,rfl⟩
theorem B5d (a b:List Nd):(C3l a b).length=a.length*b.length:=by
 unfold C3l
 rw[List.length_flatMap]
 simp only[List.length_map,List.length_range]
 have:∀n:Nat,(List.map (fun _:Nat=>b.length) (List.range n)).sum=n*b.length:=by
  intro n
  induction n with
  | zero=>simp
  | succ n ih=>rw[List.range_succ,List.map_append,List.sum_append,ih];simp[Nat.succ_mul]
 exact this _
section
variable {nf : Nat} {ty : List Typ} {jn : Int -> Int -> Int} {a b c : List Nd}
theorem A1n.nd (ha:A1n ty.length nf a) {i:Nat} (hi:i<a.length):ndAt a (i:Int)∈a/\a[i]?=some (ndAt a (i:Int)):=by
 have h:a[i]?=some (ndAt a (i:Int)):=by
  have:=D6i (l:=a) (k:=(i:Int)) (by omega) (by omega)
  rwa[Int.toNat_natCast]at this
 exact⟨List.mem_of_getElem? h,h⟩
theorem A1n.tyr (ha:A1n ty.length nf a) {i:Nat} (hi:i<a.length):0<=(ndAt a (i:Int)).type/\(ndAt a (i:Int)).type<(ty.length:Int):=
 ⟨ha.form.type _ (ha.nd hi).1,ha.type _ (ha.nd hi).1⟩
theorem A1n.tor (ha:A1n ty.length nf a) {i:Nat} (hi:i<a.length) {s:Arc} (hs:s∈A2s a i):0<=s.to/\s.to.toNat<a.length:=by
 have:=ha.form.to _ (ha.nd hi).1 s hs
 omega
theorem B9f (ha:A1n ty.length nf a) (hb:A1n ty.length nf b):Closed (A2l a b) (C3l a b):=by
 intro p hp c hc
 obtain⟨h1,h2⟩:=A7p.1 hp
 obtain⟨s,hs,t,ht,_,rfl⟩:=B1j.1 hc
 exact A7p.2 ⟨(ha.tor h1 hs).2,(hb.tor h2 ht).2⟩
theorem C9r (ha:A1n ty.length nf a) (hb:A1n ty.length nf b):(0,0)∈C3l a b:=A7p.2 ⟨ha.form.pos,hb.form.pos⟩
theorem G4f (ha:A1n ty.length nf a) (hb:A1n ty.length nf b):AscK (A2l a b) (C3l a b):=by
 intro p hp
 obtain⟨h1,h2⟩:=A7p.1 hp
 have a1:=ha.asc (ha.nd h1).1
 have b1:=hb.asc (hb.nd h2).1
 unfold A2l
 rw[List.pairwise_flatMap]
 refine⟨fun s hs=>?_,?_⟩
 ·unfold both
  rw[List.pairwise_filterMap]
  refine b1.imp fun {t u} htu x hx y hy=>?_
  split at hx
  ·split at hy
   ·rename_i e1 e2;omega
   ·cases hy
  ·cases hx
 ·refine a1.imp fun {s t} hst x hx y hy=>?_
  obtain⟨_,_,_,rfl⟩:=C1h.1 hx
  obtain⟨_,_,_,rfl⟩:=C1h.1 hy
  exact hst
theorem D6p (ha:A1n ty.length nf a) (hb:A1n ty.length nf b):Ran (A2l a b) (C3l a b) [] (genO a b)/\(0,0)∈genO a b:=
 B9e (B9f ha hb) _ _ [] (C9r ha hb) (by simp) (by rw[B5a,B5d];exact Nat.le_refl _)
theorem E8g (ha:A1n ty.length nf a) (hb:A1n ty.length nf b):(genO a b)[0]?=some (0,0):=by
 obtain⟨m,hm⟩:∃m,a.length*b.length=m+1:=⟨a.length*b.length-1,by have:=Nat.mul_pos ha.form.pos hb.form.pos;omega⟩
 obtain⟨q,e⟩:=E8e (A2l a b) m (0,0) []
 unfold genO
 rw[hm,e]
 rfl
theorem F9d (ha:A1n ty.length nf a) (hb:A1n ty.length nf b) {p:Nat×Nat} (hp:p∈genO a b):p.1<a.length/\p.2<b.length:=A7p.1 ((D6p ha hb).1.sub (by simp) p hp)
theorem C1i (hj:B5c ty jn) (ha:A1n ty.length nf a) (hb:A1n ty.length nf b) (hl:a.length*b.length<=4096):A1n ty.length nf (genL jn a b):=by
 refine E4n (B9f ha hb) (C9r ha hb) (by rw[B5d];exact Nat.le_refl _) (by rw[B5d];exact hl) (fun p hp=>?_) (fun p hp c hc=>?_) (G4f ha hb)
 ·obtain⟨h1,h2⟩:=A7p.1 hp
  exact hj.rng _ _ (ha.tyr h1).1 (ha.tyr h1).2 (hb.tyr h2).1 (hb.tyr h2).2
 ·obtain⟨h1,h2⟩:=A7p.1 hp
  obtain⟨s,hs,t,ht,_,rfl⟩:=B1j.1 hc
  exact⟨ha.form.feat _ (ha.nd h1).1 s hs,ha.feat _ (ha.nd h1).1 s hs⟩
theorem F9e (ha:A1n ty.length nf a) (hb:A1n ty.length nf b) (hl:a.length*b.length<=4096) (hj:B5c ty jn) (hf:nf<=1000000):A3g (genL jn a b):=by
 have hv:=C1i hj ha hb hl
 refine⟨by have:=hv.form.le;omega,fun x hx=>?_⟩
 have h1:=hv.asc hx
 have:∀(l:List Arc) (n:Int),Asc l->(∀y∈l,n<=y.feat/\y.feat<(nf:Int))->n<=nf->(l.length:Int)<=nf-n:=by
  intro l
  induction l with
  | nil=>intro n _ _ _;simp;omega
  | cons y l ih=>
   intro n ha hy hn
   have h2:=List.pairwise_cons.1 ha
   have h3:=hy y List.mem_cons_self
   have:=ih (y.feat+1) h2.2 (fun z hz=>⟨by have:=h2.1 z hz;omega,(hy z (List.mem_cons_of_mem _ hz)).2⟩) (by omega)
   rw[List.length_cons]
   omega
 have:=this x.arcs 0 h1 (fun y hy=>⟨hv.form.feat x hx y hy,hv.feat x hx y hy⟩) (by omega)
 omega
theorem H1m {i:Nat} {p:Nat×Nat} (h:(genO a b)[i]?=some p):(genL jn a b)[i]?=some (ndK (A2l a b) (typP jn a b) (genO a b) p):=D6o h
theorem D6q {i:Nat} {x:Nd} (h:(genL jn a b)[i]?=some x):∃p,(genO a b)[i]?=some p/\x=ndK (A2l a b) (typP jn a b) (genO a b) p:=by
 unfold genL A4z at h
 rw[List.getElem?_map]at h
 obtain⟨p,hp,e⟩:=A0v h
 exact⟨p,hp,e.symm⟩
theorem G8r {p:Nat×Nat} {c:Arc} (h:c∈(ndK (A2l a b) (typP jn a b) (genO a b) p).arcs):∃s∈A2s a p.1,∃t∈A2s b p.2,s.feat=t.feat/\(s.feat,(s.to.toNat,t.to.toNat))∈A2l a b p/\c=⟨s.feat,(idxK (genO a b) (s.to.toNat,t.to.toNat):Int)⟩:=by
 obtain⟨d,hd,rfl⟩:=List.mem_map.1 h
 obtain⟨s,hs,t,ht,e,rfl⟩:=B1j.1 hd
 exact⟨s,hs,t,ht,e,hd,rfl⟩
theorem B9g {K:Type} {f:K->Nat} {L:List K} {i:Nat} {p:K} (h:L[i]?=some p):nAt (L.map fun q=>(f q:Int)) i=(f p:Int):=G8e (by rw[List.getElem?_map,h];rfl)
theorem F9f {x:List Nd} {f:Nat×Nat->Nat} (ha:A1n ty.length nf a) (hb:A1n ty.length nf b) (hx:A1n ty.length nf x) (hr:∀p,p.1<a.length->p.2<b.length->f p<x.length/\hsub ty (typP jn a b p) (ndAt x (f p:Int)).type=true) (h00:f (0,0)=0)
  (hc:∀p,p.1<a.length->p.2<b.length->∀s∈A2s a p.1,∀t∈A2s b p.2,s.feat=t.feat->∃u∈A2s x (f p),u.feat=s.feat/\u.to=(f (s.to.toNat,t.to.toNat):Int)) :
  Mor ty (genL jn a b) x ((genO a b).map fun p=>(f p:Int)):=by
 have hcl:=(D6p ha hb).1
 refine⟨by simp[genL,A4z],?_,fun i hi=>?_,fun i y hy=>?_,fun i y hy d hd=>?_⟩
 ·rw[B9g (E8g ha hb),h00]
  rfl
 ·obtain⟨p,hp,_⟩:=D6q (List.getElem?_eq_getElem hi)
  obtain⟨h1,h2⟩:=F9d ha hb (List.mem_of_getElem? hp)
  rw[B9g hp]
  have:=(hr p h1 h2).1
  omega
 ·obtain⟨p,hp,rfl⟩:=D6q hy
  obtain⟨h1,h2⟩:=F9d ha hb (List.mem_of_getElem? hp)
  rw[B9g hp]
  exact(hr p h1 h2).2
 ·obtain⟨p,hp,rfl⟩:=D6q hy
  have hpm:=List.mem_of_getElem? hp
  obtain⟨h1,h2⟩:=F9d ha hb hpm
  obtain⟨s,hs,t,ht,e,hm,rfl⟩:=G8r hd
  rw[B9g hp]
  have hmem:(s.to.toNat,t.to.toNat)∈genO a b:=hcl.closed p hpm (by simp) _ hm
  have hidx:=F8z hmem
  simp only[Int.toNat_natCast]
  rw[B9g hidx]
  obtain⟨u,hu,e1,e2⟩:=hc p h1 h2 s hs t ht e
  obtain⟨hfx,_⟩:=hr p h1 h2
  have:=F8u (hx.form.apart _ (hx.nd hfx).1) hu
  rw[e1]at this
  rw[this,e2]
theorem G4g (hj:B5c ty jn) (ha:A1n ty.length nf a) (hb:A1n ty.length nf b):Mor ty (genL jn a b) a ((genO a b).map fun p=>(p.1:Int)):=
 F9f ha hb ha (fun p h1 h2=>⟨h1,hj.left _ _ (ha.tyr h1).1 (ha.tyr h1).2 (hb.tyr h2).1 (hb.tyr h2).2⟩) rfl fun p h1 h2 s hs t ht e=>⟨s,hs,rfl,by have:=ha.tor h1 hs;simp only;omega⟩
theorem F9g (hj:B5c ty jn) (ha:A1n ty.length nf a) (hb:A1n ty.length nf b):Mor ty (genL jn a b) b ((genO a b).map fun p=>(p.2:Int)):=
 F9f ha hb hb (fun p h1 h2=>⟨h2,hj.right _ _ (ha.tyr h1).1 (ha.tyr h1).2 (hb.tyr h2).1 (hb.tyr h2).2⟩) rfl fun p h1 h2 s hs t ht e=>⟨t,ht,e.symm,by have:=hb.tor h2 ht;simp only;omega⟩
end
end Go.Proofs.Ytbiadmfmjnoecaa
