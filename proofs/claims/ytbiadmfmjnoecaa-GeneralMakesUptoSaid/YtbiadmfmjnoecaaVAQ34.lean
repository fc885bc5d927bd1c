/-
 Auxiliary facts. No statement of the program stands here.
-/
import Derived.Test.YtbiadmfmjnoecaaVAQ01
namespace Go.Proofs.Ytbiadmfmjnoecaa
set_option linter.unusedSimpArgs false
set_option linter.unusedVariables false
open Go Go.Abs
section
variable {K : Type} [DecidableEq K]
def A4j (v:K->List K->List K) (L:List K) (c:Int×K):List K:=if c.2∈L then L else v c.2 L
def dfs (succ:K->List (Int×K)):Nat->K->List K->List K
 | 0,_,L=>L
 | k+1,x,L=>(succ x).foldl (A4j (dfs succ k)) (L++[x])
def Closed (succ:K->List (Int×K)) (U:List K):Prop:=∀x∈U,∀c∈succ x,c.2∈U
def unv (U L:List K):Nat:=U.countP fun y=>decide (y∉L)
theorem E7y {U L L':List K} (h:∀y∈L,y∈L'):unv U L'<=unv U L:=
 List.countP_mono_left fun y _ hy=>by
  have:=of_decide_eq_true hy
  exact decide_eq_true fun hm=>this (h y hm)
theorem B9o {x:K} {L:List K}:∀{U:List K},x∈U->x∉L->unv U (L++[x])<unv U L
 | [],h,_=>by simp at h
 | y::U,h,hx=>by
  by_cases e:y=x
  ·subst e
   have h1:unv U (L++[y])<=unv U L:=E7y fun z hz=>by simp[hz]
   unfold unv at h1 ⊢
   rw[List.countP_cons,List.countP_cons,if_neg (by simp),if_pos (by simp[hx])]
   omega
  ·have h1:=B9o (U:=U) (by rcases List.mem_cons.1 h with h | h;exact absurd h.symm e;exact h) hx
   have e2:decide (y∉L++[x])=decide (y∉L):=by simp[e]
   unfold unv at h1 ⊢
   rw[List.countP_cons,List.countP_cons,e2]
   omega
theorem B3l (U:List K):unv U []=U.length:=by simp[unv]
theorem D6x {U L:List K} {x:K} (hx:x∈U) (hn:x∉L):0<unv U L:=by
 have:=B9o hx hn
 omega
structure Ran (succ:K->List (Int×K)) (U L L':List K):Prop where
 pre:∃r,L'=L++r
 nodup:L.Nodup->L'.Nodup
 sub:(∀y∈L,y∈U)->∀y∈L',y∈U
 closed:∀y∈L',y∉L->∀c∈succ y,c.2∈L'
 cnt:L'.length+unv U L'<=L.length+unv U L
theorem Ran.mem {succ:K->List (Int×K)} {U L L':List K} (h:Ran succ U L L') {y:K} (hy:y∈L):y∈L':=by
 obtain⟨r,e⟩:=h.pre
 rw[e]
 exact List.mem_append_left _ hy
theorem Ran.refl (succ:K->List (Int×K)) (U L:List K):Ran succ U L L:=⟨⟨[],by simp⟩,id,id,fun _ h h'=>absurd h h',Nat.le_refl _⟩
theorem Ran.trans {succ:K->List (Int×K)} {U L L1 L2:List K} (h:Ran succ U L L1) (h':Ran succ U L1 L2):Ran succ U L L2 where
 pre:=by
  obtain⟨r,e⟩:=h.pre
  obtain⟨r',e'⟩:=h'.pre
  exact⟨r++r',by rw[e',e,List.append_assoc]⟩
 nodup:=fun hn=>h'.nodup (h.nodup hn)
 sub:=fun hs=>h'.sub (h.sub hs)
 closed:=fun y hy hn c hc=>by
  by_cases h1:y∈L1
  ·exact h'.mem (h.closed y h1 hn c hc)
  ·exact h'.closed y hy h1 c hc
 cnt:=Nat.le_trans h'.cnt h.cnt
variable {succ : K -> List (Int × K)} {U : List K}
theorem D6y {v:K->List K->List K} {k:Nat} (hv:∀x L,x∈U->x∉L->unv U L<=k->Ran succ U L (v x L)/\x∈v x L) :
  ∀(ar:List (Int×K)) (L:List K),(∀c∈ar,c.2∈U)->unv U L<=k->Ran succ U L (ar.foldl (A4j v) L)/\∀c∈ar,c.2∈ar.foldl (A4j v) L
 | [],L,_,_=>⟨Ran.refl _ _ _,by simp⟩
 | c::ar,L,ha,hk=>by
  rw[List.foldl_cons]
  have step:Ran succ U L (A4j v L c)/\c.2∈A4j v L c:=by
   unfold A4j
   by_cases hc:c.2∈L
   ·rw[if_pos hc]
    exact⟨Ran.refl _ _ _,hc⟩
   ·rw[if_neg hc]
    exact hv _ _ (ha c List.mem_cons_self) hc hk
  have hk':unv U (A4j v L c)<=k:=Nat.le_trans (E7y fun y hy=>step.1.mem hy) hk
  obtain⟨h1,h2⟩:=D6y hv ar (A4j v L c) (fun d hd=>ha d (List.mem_cons_of_mem _ hd)) hk'
  refine⟨step.1.trans h1,fun d hd=>?_⟩
  rcases List.mem_cons.1 hd with rfl | hd
  ·exact h1.mem step.2
  ·exact h2 d hd
theorem B9p (hU:Closed succ U):∀(k:Nat) (x:K) (L:List K),x∈U->x∉L->unv U L<=k->Ran succ U L (dfs succ k x L)/\x∈dfs succ k x L
 | 0,x,L,hx,hn,hk=>by have:=D6x hx hn;omega
 | k+1,x,L,hx,hn,hk=>by
  have hk':unv U (L++[x])<=k:=by have:=B9o hx hn;omega
  obtain⟨h1,h2⟩:=D6y (B9p hU k) (succ x) (L++[x]) (hU x hx) hk'
  have hm:x∈dfs succ (k+1) x L:=h1.mem (by simp)
  refine⟨⟨?_,fun hd=>h1.nodup ?_,fun hs=>h1.sub fun y hy=>?_,fun y hy hyn=>?_,?_⟩,hm⟩
  ·obtain⟨r,e⟩:=h1.pre
   exact⟨[x]++r,by rw[<-List.append_assoc];exact e⟩
  ·rw[List.nodup_append]
   exact⟨hd,by simp,fun y hy z hz e=>by simp at hz;subst hz;subst e;exact hn hy⟩
  ·rcases List.mem_append.1 hy with hy | hy
   ·exact hs y hy
   ·simp at hy;rw[hy];exact hx
  ·by_cases e:y=x
   ·subst e
    exact h2
   ·exact h1.closed y hy (by simp[hyn,e])
  ·have h3:=h1.cnt
   have h4:=B9o hx hn
   simp only[List.length_append,List.length_cons,List.length_nil]at h3
   show((succ x).foldl (A4j (dfs succ k)) (L++[x])).length+unv U ((succ x).foldl (A4j (dfs succ k)) (L++[x]))<=_
   omega
theorem F8r {v v':K->List K->List K} {k:Nat} (hU:Closed succ U) (hr:∀x L,x∈U->x∉L->unv U L<=k->Ran succ U L (v x L)) (hv:∀x L,x∈U->x∉L->unv U L<=k->v' x L=v x L) :
  ∀(ar:List (Int×K)) (L:List K),(∀c∈ar,c.2∈U)->unv U L<=k->ar.foldl (A4j v') L=ar.foldl (A4j v) L
 | [],_,_,_=>rfl
 | c::ar,L,ha,hk=>by
  rw[List.foldl_cons,List.foldl_cons]
  have e:A4j v' L c=A4j v L c/\unv U (A4j v L c)<=k:=by
   unfold A4j
   by_cases hc:c.2∈L
   ·rw[if_pos hc,if_pos hc]
    exact⟨rfl,hk⟩
   ·rw[if_neg hc,if_neg hc]
    have h1:=hr _ L (ha c List.mem_cons_self) hc hk
    exact⟨hv _ _ (ha c List.mem_cons_self) hc hk,Nat.le_trans (E7y fun y hy=>h1.mem hy) hk⟩
  rw[e.1]
  exact F8r hU hr hv ar _ (fun d hd=>ha d (List.mem_cons_of_mem _ hd)) e.2
theorem E7z (hU:Closed succ U):∀(k:Nat) (x:K) (L:List K),x∈U->x∉L->unv U L<=k->∀m,dfs succ (k+m) x L=dfs succ k x L
 | 0,x,L,hx,hn,hk=>by have:=D6x hx hn;omega
 | k+1,x,L,hx,hn,hk=>fun m=>by
  have hk':unv U (L++[x])<=k:=by have:=B9o hx hn;omega
  rw[show k+1+m=(k+m)+1 by omega]
  exact F8r hU (fun x L a b c=>(B9p hU k x L a b c).1) (fun x L a b c=>E7z hU k x L a b c m) (succ x) (L++[x]) (hU x hx) hk'
theorem E8a (hU:Closed succ U) {x:K} {k k':Nat} (hx:x∈U) (hk:U.length<=k) (hk':U.length<=k'):dfs succ k x []=dfs succ k' x []:=by
 have h:=E7z hU U.length x [] hx (by simp) (by rw[B3l];exact Nat.le_refl _)
 rw[show k=U.length+(k-U.length)by omega,show k'=U.length+(k'-U.length)by omega,h,h]
theorem E8b (succ:K->List (Int×K)) (k:Nat) (x:K) (L:List K):∃r,dfs succ (k+1) x L=L++[x]++r:=by
 have key:∀(k:Nat) (x:K) (L:List K),∃r,dfs succ k x L=L++r:=by
  intro k
  induction k with
  | zero=>exact fun x L=>⟨[],by simp[dfs]⟩
  | succ k ih=>
   intro x L
   have:∀(ar:List (Int×K)) (L:List K),∃r,ar.foldl (A4j (dfs succ k)) L=L++r:=by
    intro ar
    induction ar with
    | nil=>exact fun L=>⟨[],by simp⟩
    | cons c ar iha=>
     intro L
     obtain⟨r,e⟩:=iha (A4j (dfs succ k) L c)
     have:∃r',A4j (dfs succ k) L c=L++r':=by
      unfold A4j
      split
      ·exact⟨[],by simp⟩
      ·exact ih _ _
     obtain⟨r',e'⟩:=this
     exact⟨r'++r,by rw[List.foldl_cons,e,e',List.append_assoc]⟩
   obtain⟨r,e⟩:=this (succ x) (L++[x])
   exact⟨[x]++r,by rw[<-List.append_assoc];exact e⟩
 have:∀(ar:List (Int×K)) (L:List K),∃r,ar.foldl (A4j (dfs succ k)) L=L++r:=by
  intro ar
  induction ar with
  | nil=>exact fun L=>⟨[],by simp⟩
  | cons c ar iha=>
   intro L
   obtain⟨r,e⟩:=iha (A4j (dfs succ k) L c)
   have:∃r',A4j (dfs succ k) L c=L++r':=by
    unfold A4j
    split
    ·exact⟨[],by simp⟩
    ·exact key _ _ _
   obtain⟨r',e'⟩:=this
   exact⟨r'++r,by rw[List.foldl_cons,e,e',List.append_assoc]⟩
 exact this (succ x) (L++[x])
end
section
variable {K K' : Type} [DecidableEq K] [DecidableEq K'] {succ : K -> List (Int × K)} {succ' : K' -> List (Int × K')} {φ : K -> K'} {S : K -> Prop}
omit [DecidableEq K] [DecidableEq K'] in
theorem E4s (hinj:∀x y,S x->S y->φ x=φ y->x=y) {x:K} {L:List K} (hx:S x) (hL:∀y∈L,S y):φ x∈L.map φ ↔ x∈L:=by
 constructor
 ·intro h
  obtain⟨y,hy,e⟩:=List.mem_map.1 h
  rw[<-hinj y x (hL y hy) hx e]
  exact hy
 ·intro h
  exact List.mem_map.2 ⟨x,h,rfl⟩
theorem F8s (hinj:∀x y,S x->S y->φ x=φ y->x=y) (hc:∀x,S x->∀c∈succ x,S c.2) (hs:∀x,S x->succ' (φ x)=(succ x).map fun c=>(c.1,φ c.2)) :
  ∀(k:Nat) (x:K) (L:List K),S x->(∀y∈L,S y)->dfs succ' k (φ x) (L.map φ)=(dfs succ k x L).map φ/\∀y∈dfs succ k x L,S y
 | 0,x,L,_,hL=>⟨rfl,hL⟩
 | k+1,x,L,hx,hL=>by
  have fold:∀(ar:List (Int×K)) (L:List K),(∀c∈ar,S c.2)->(∀y∈L,S y) ->
    (ar.map fun c=>(c.1,φ c.2)).foldl (A4j (dfs succ' k)) (L.map φ)=(ar.foldl (A4j (dfs succ k)) L).map φ/\∀y∈ar.foldl (A4j (dfs succ k)) L,S y:=by
   intro ar
   induction ar with
   | nil=>exact fun L _ hL=>⟨rfl,hL⟩
   | cons c ar ih=>
    intro L ha hL
    have hcS:=ha c List.mem_cons_self
    rw[List.map_cons,List.foldl_cons,List.foldl_cons]
    have e:A4j (dfs succ' k) (L.map φ) (c.1,φ c.2)=(A4j (dfs succ k) L c).map φ/\∀y∈A4j (dfs succ k) L c,S y:=by
     unfold A4j
     simp only[E4s hinj hcS hL]
     by_cases hm:c.2∈L
     ·rw[if_pos hm,if_pos hm]
      exact⟨rfl,hL⟩
     ·rw[if_neg hm,if_neg hm]
      exact F8s hinj hc hs k c.2 L hcS hL
    rw[e.1]
    exact ih _ (fun d hd=>ha d (List.mem_cons_of_mem _ hd)) e.2
  show(succ' (φ x)).foldl _ _=_/\_
  rw[hs x hx,show L.map φ++[φ x]=(L++[x]).map φ by simp]
  exact fold (succ x) (L++[x]) (hc x hx) fun y hy=>by
   rcases List.mem_append.1 hy with hy | hy
   ·exact hL y hy
   ·simp at hy;rw[hy];exact hx
end
end Go.Proofs.Ytbiadmfmjnoecaa
