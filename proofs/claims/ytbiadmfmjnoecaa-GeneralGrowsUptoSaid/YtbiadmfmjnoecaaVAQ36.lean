/-
 Auxiliary facts. No statement of the program stands here.
-/
import Derived.Test.YtbiadmfmjnoecaaVAQ35
import Derived.Test.YtbiadmfmjnoecaaVAQ33
import Derived.Test.YtbiadmfmjnoecaaVAQ14
import Derived.Test.YtbiadmfmjnoecaaVAQ12
namespace Go.Proofs.Ytbiadmfmjnoecaa
set_option linter.unusedSimpArgs false
set_option linter.unusedVariables false
open Go Go.Abs
section
variable {K : Type} [DecidableEq K] {succ : K -> List (Int × K)} {typ : K -> Int}
theorem E8g {L r:List K} {x:K} (h:x∈L):idxK (L++r) x=idxK L x:=by
 unfold idxK
 rw[List.idxOf_append,if_pos h]
theorem E1p {L:List K} {x y:K}:idxK (y::L) x=if y=x then 0 else idxK L x+1:=by
 unfold idxK
 rw[List.idxOf_cons]
 by_cases e:y=x
 ·subst e;simp
 ·rw[if_neg e,show(y==x)=false by simpa using e]
  rfl
theorem G4p {L:List K} {x:K} (h:x∉L):idxK (L++[x]) x=L.length:=by
 unfold idxK
 rw[List.idxOf_append,if_neg h]
 simp
theorem D7d {L r:List K} {ar:List (Int×K)} (h:∀c∈ar,c.2∈L):ar.map (arcK (L++r))=ar.map (arcK L):=
 List.map_congr_left fun c hc=>by unfold arcK;rw[E8g (h c hc)]
theorem F9f {L r:List K} {x:K} (h:∀c∈succ x,c.2∈L):ndK succ typ (L++r) x=ndK succ typ L x:=by
 unfold ndK
 rw[D7d h]
def B4d (succ:K->List (Int×K)) (typ:K->Int) (n:Nat) (L:List K):List Nd:=(L.drop n).map (ndK succ typ L)
theorem F9g {n:Nat} {L1 L2:List K} (h:∃r,L2=L1++r) (hc:∀x∈L1.drop n,∀c∈succ x,c.2∈L1) (hn:n<=L1.length):B4d succ typ n L2=B4d succ typ n L1++B4d succ typ L1.length L2:=by
 obtain⟨r,rfl⟩:=h
 unfold B4d
 rw[List.drop_append_of_le_length hn,List.map_append,List.drop_left]
 congr 1
 exact List.map_congr_left fun x hx=>F9f (hc x hx)
theorem F9h (L:List K):B4d succ typ L.length L=[]:=by simp[B4d]
def B5y (L:List K) (c:Int×K):List K:=if c.2∈L then L else L++[c.2]
def A7j (succ:K->List (Int×K)) (r:K):Nat->List K
 | 0=>[r]
 | n+1=>match (A7j succ r n)[n]? with
  | some x=>(succ x).foldl B5y (A7j succ r n)
  | none=>A7j succ r n
structure BRan (U L L':List K):Prop where
 pre:∃r,L'=L++r
 nodup:L.Nodup->L'.Nodup
 sub:(∀y∈L,y∈U)->∀y∈L',y∈U
omit [DecidableEq K] in
theorem BRan.refl (U L:List K):BRan U L L:=⟨⟨[],by simp⟩,id,id⟩
omit [DecidableEq K] in
theorem BRan.trans {U L L1 L2:List K} (h:BRan U L L1) (h':BRan U L1 L2):BRan U L L2 where
 pre:=by
  obtain⟨r,e⟩:=h.pre
  obtain⟨r',e'⟩:=h'.pre
  exact⟨r++r',by rw[e',e,List.append_assoc]⟩
 nodup:=fun hn=>h'.nodup (h.nodup hn)
 sub:=fun hs=>h'.sub (h.sub hs)
omit [DecidableEq K] in
theorem BRan.mem {U L L':List K} (h:BRan U L L') {y:K} (hy:y∈L):y∈L':=by
 obtain⟨r,e⟩:=h.pre
 rw[e]
 exact List.mem_append_left _ hy
theorem F9i {U L:List K} {c:Int×K} (hc:c.2∈U):BRan U L (B5y L c)/\c.2∈B5y L c:=by
 unfold B5y
 by_cases hm:c.2∈L
 ·rw[if_pos hm]
  exact⟨BRan.refl _ _,hm⟩
 ·rw[if_neg hm]
  refine⟨⟨⟨_,rfl⟩,fun hn=>?_,fun hs y hy=>?_⟩,by simp⟩
  ·rw[List.nodup_append]
   exact⟨hn,by simp,fun y hy z hz e=>by simp at hz;subst hz;subst e;exact hm hy⟩
  ·rcases List.mem_append.1 hy with hy | hy
   ·exact hs y hy
   ·rw[List.mem_singleton]at hy;rw[hy];exact hc
theorem C1w {U:List K}:∀(ar:List (Int×K)) (L:List K),(∀c∈ar,c.2∈U)->BRan U L (ar.foldl B5y L)/\∀c∈ar,c.2∈ar.foldl B5y L
 | [],L,_=>⟨BRan.refl _ _,by simp⟩
 | c::ar,L,h=>by
  obtain⟨h1,h2⟩:=F9i (L:=L) (h c List.mem_cons_self)
  obtain⟨h3,h4⟩:=C1w ar (B5y L c) fun d hd=>h d (List.mem_cons_of_mem _ hd)
  rw[List.foldl_cons]
  refine⟨h1.trans h3,fun d hd=>?_⟩
  rcases List.mem_cons.1 hd with rfl | hd
  ·exact h3.mem h2
  ·exact h4 d hd
structure BInv (succ:K->List (Int×K)) (U:List K) (r:K) (n:Nat) (L:List K):Prop where
 nodup:L.Nodup
 sub:∀y∈L,y∈U
 head:L[0]?=some r
 done:∀x∈L.take n,∀c∈succ x,c.2∈L
theorem G4q {U:List K} {r:K} (hr:r∈U):BInv succ U r 0 (A7j succ r 0):=
 ⟨by simp[A7j],fun y hy=>by rw[show y=r by simpa[A7j]using hy];exact hr,rfl,fun x hx=>by simp at hx⟩
theorem G4r {U:List K} {r x:K} (hU:Closed succ U) {n:Nat} {L:List K} (h:BInv succ U r n L) (hx:L[n]?=some x):BInv succ U r (n+1) ((succ x).foldl B5y L):=by
 have hxU:=h.sub x (List.mem_of_getElem? hx)
 obtain⟨h1,h2⟩:=C1w (succ x) L (hU x hxU)
 obtain⟨q,e⟩:=h1.pre
 have hn:=(List.getElem?_eq_some_iff.1 hx).1
 refine⟨h1.nodup h.nodup,h1.sub h.sub,?_,fun y hy c hc=>?_⟩
 ·rw[e,List.getElem?_append_left (by omega)]
  exact h.head
 ·rw[e,List.take_append_of_le_length (by omega),List.take_add_one,hx]at hy
  rcases List.mem_append.1 hy with hy | hy
  ·exact h1.mem (h.done y hy c hc)
  ·have hyx:y=x:=by simpa using hy
   rw[hyx]at hc
   exact h2 c hc
theorem F9j {U:List K} {r:K} (hU:Closed succ U) (hr:r∈U):∀n,BInv succ U r n (A7j succ r n)
 | 0=>G4q hr
 | n+1=>by
  have ih:=F9j hU hr n
  unfold A7j
  split
  ·rename_i x hx
   exact G4r hU ih hx
  ·rename_i hx
   refine⟨ih.nodup,ih.sub,ih.head,fun y hy=>ih.done y ?_⟩
   have hl:=List.getElem?_eq_none_iff.1 hx
   rw[List.take_of_length_le hl]
   exact List.mem_of_mem_take hy
theorem C1x {U:List K}:∀{L:List K},L.Nodup->(∀y∈L,y∈U)->L.length+unv U L<=U.length
 | L,hn,hs=>by
  have key:∀(L M:List K),(L++M).Nodup->(∀y∈L++M,y∈U)->M.length+unv U (L++M)<=unv U L:=by
   intro L M
   induction M generalizing L with
   | nil=>intro _ _;simp
   | cons y M ih=>
    intro hn hs
    have e:L++y::M=(L++[y])++M:=by simp
    rw[e]at hn hs ⊢
    have h1:=ih (L++[y]) hn hs
    have hy:y∉L:=by
     have:=(List.nodup_append.1 hn).1
     have:=(List.nodup_append.1 this).2.2
     exact fun hm=>this y hm y (by simp) rfl
    have h2:=B9o (hs y (by simp)) hy
    rw[List.length_cons]
    omega
  have:=key [] L (by simpa using hn) (by simpa using hs)
  rw[B3l]at this
  simpa using this
theorem G4s {U:List K} {r:K} {n k:Nat} {L:List K} (h:BInv succ U r n L) (hn:L.length<=n) (hk:U.length<=k) (ha:AscK succ U) :
  (A4n (A3z succ typ L) 0).map Nd.key=(A3z succ typ (dfs succ k r [])).map Nd.key:=by
 have hc:Closed succ L:=fun x hx c hcm=>h.done x (by rw[List.take_of_length_le hn];exact hx) c hcm
 have hl:=C1x h.nodup h.sub
 rw[E1l h.nodup hc h.head fun x hx=>ha x (h.sub x hx),E8a (k:=L.length) (k':=k) hc (List.mem_of_getElem? h.head) (Nat.le_refl _) (by omega)]
end
def mapF (n:Nat):List (Nat×Nat)->List (Key×Value)
 | []=>[]
 | p::r=>(.n [(p.1:Int),(p.2:Int)],.int .i64 (n:Int))::mapF (n+1) r
theorem E8h {p q:Nat×Nat}:(Key.n [(p.1:Int),(p.2:Int)] = .n [(q.1:Int),(q.2:Int)]) ↔ p=q:=by
 obtain⟨a,b⟩:=p
 obtain⟨c,d⟩:=q
 simp
 omega
theorem E1q (p:Nat×Nat):∀(L:List (Nat×Nat)) (n:Nat),getK (mapF n L) (.n [(p.1:Int),(p.2:Int)])=if p∈L then some (.int .i64 ((n+idxK L p:Nat):Int))else none
 | [],n=>by simp[mapF,getK]
 | q::L,n=>by
  unfold mapF getK
  have ih:=E1q p L (n+1)
  by_cases e:q=p
  ·subst e
   rw[if_pos rfl,if_pos (by simp),E1p,if_pos rfl]
   rfl
  ·rw[if_neg (fun h=>e (E8h.1 h)),ih]
   have e':¬p=q:=fun h=>e h.symm
   by_cases hm:p∈L
   ·have hi:idxK (q::L) p=idxK L p+1:=by rw[E1p,if_neg e]
    rw[if_pos hm,if_pos (by simp[hm]),hi,show n+1+idxK L p=n+(idxK L p+1)by omega]
   ·rw[if_neg hm,if_neg (by simp[hm,e'])]
theorem E1r (p:Nat×Nat):∀(L:List (Nat×Nat)) (n:Nat),p∉L->setK (mapF n L) (.n [(p.1:Int),(p.2:Int)]) (.int .i64 ((n+L.length:Nat):Int))=mapF n (L++[p])
 | [],n,_=>by simp[mapF,setK]
 | q::L,n,h=>by
  have e:¬q=p:=fun e=>h (by simp[e])
  show setK ((.n [(q.1:Int),(q.2:Int)],.int .i64 (n:Int))::mapF (n+1) L) _ _=(.n [(q.1:Int),(q.2:Int)],.int .i64 (n:Int))::mapF (n+1) (L++[p])
  unfold setK
  rw[if_neg (fun h'=>e (E8h.1 h'))]
  have ih:=E1r p L (n+1) fun hm=>h (by simp[hm])
  rw[List.length_cons,show n+(L.length+1)=n+1+L.length by omega,ih]
theorem F9k {s:Arc} {x:Nd} (hx:∀(i j:Nat) p q,i<j->x.arcs[i]?=some p->x.arcs[j]?=some q->p.feat≠q.feat) (h0:∀t∈x.arcs,0<=t.to) :
  both s x.arcs=if 0<=tgt x s.feat then [(s.feat,(s.to.toNat,(tgt x s.feat).toNat))]else []:=by
 have key:∀l:List Arc,l.Pairwise (fun p q=>p.feat≠q.feat)->both s l=match l.find? (fun a=>decide (a.feat=s.feat))with
   | some a=>[(s.feat,(s.to.toNat,a.to.toNat))]
   | none=>[]:=by
  intro l
  induction l with
  | nil=>intro _;rfl
  | cons t l ih=>
   intro hp
   obtain⟨h1,h2⟩:=List.pairwise_cons.1 hp
   unfold both at ih ⊢
   rw[List.filterMap_cons,List.find?_cons]
   by_cases e:s.feat=t.feat
   ·rw[if_pos e,decide_eq_true e.symm]
    simp only
    have:l.filterMap (fun t=>if s.feat=t.feat then some (s.feat,(s.to.toNat,t.to.toNat))else none)=[]:=by
     rw[List.filterMap_eq_nil_iff]
     intro u hu
     rw[if_neg]
     have:=h1 u hu
     rw[e]
     exact this
    rw[this]
   ·rw[if_neg e,decide_eq_false (fun h=>e h.symm)]
    simp only
    exact ih h2
 have hp:x.arcs.Pairwise (fun p q=>p.feat≠q.feat):=List.pairwise_iff_getElem.2 fun i j hi hj hij=>hx i j _ _ hij (List.getElem?_eq_getElem hi) (List.getElem?_eq_getElem hj)
 rw[key _ hp]
 unfold tgt
 cases hf:x.arcs.find? (fun a=>decide (a.feat=s.feat))with
 | none=>simp
 | some a=>
  have:=h0 a (List.mem_of_find?_eq_some hf)
  simp only
  rw[if_pos this]
section
variable {K : Type} [DecidableEq K] {succ : K -> List (Int × K)} {typ : K -> Int} {U : List K}
def vis (succ:K->List (Int×K)) (k:Nat) (x:K) (L:List K):List K:=if x∈L then L else dfs succ k x L
theorem G8k (hU:Closed succ U) {k:Nat} {x:K} {L:List K} (hx:x∈U) (hk:unv U L<=k):Ran succ U L (vis succ k x L)/\x∈vis succ k x L:=by
 unfold vis
 by_cases h:x∈L
 ·rw[if_pos h]
  exact⟨Ran.refl _ _ _,h⟩
 ·rw[if_neg h]
  exact B9p hU k x L hx h hk
def midK (succ:K->List (Int×K)) (k:Nat) (x:K) (L:List K) (D:List (Int×K)):List K:=D.foldl (A4j (dfs succ k)) (L++[x])
theorem G8l {k:Nat} {x:K} {L:List K} (h:x∉L):midK succ k x L (succ x)=vis succ (k+1) x L:=by
 unfold vis
 rw[if_neg h]
 rfl
theorem E8i {k:Nat} {x:K} {L:List K} {D:List (Int×K)} {c:Int×K}:midK succ k x L (D++[c])=vis succ k c.2 (midK succ k x L D):=by
 unfold midK
 rw[List.foldl_append]
 rfl
theorem F9l (hU:Closed succ U) {k:Nat} {x:K} {L:List K} (hx:x∈U) (hn:x∉L) (hk:unv U L<=k+1) {D:List (Int×K)} (hD:∀c∈D,c.2∈U) :
  Ran succ U (L++[x]) (midK succ k x L D)/\(∀c∈D,c.2∈midK succ k x L D)/\unv U (midK succ k x L D)<=k/\L.length+1<=(midK succ k x L D).length:=by
 have hk':unv U (L++[x])<=k:=by have:=B9o hx hn;omega
 obtain⟨h1,h2⟩:=D6y (B9p hU k) D (L++[x]) hD hk'
 refine⟨h1,h2,Nat.le_trans (E7y fun y hy=>h1.mem hy) hk',?_⟩
 obtain⟨r,e⟩:=h1.pre
 show _<=(D.foldl (A4j (dfs succ k)) (L++[x])).length
 rw[e]
 simp
theorem G4t (hU:Closed succ U) {k:Nat} {x:K} {L:List K} (hL:L.Nodup) (hx:x∈U) (hn:x∉L) (hk:unv U L<=k+1) {D:List (Int×K)} (hD:∀c∈D,c.2∈U) {c:Int×K} (hc:c.2∈U) :
  B4d succ typ (L.length+1) (midK succ k x L (D++[c]))=B4d succ typ (L.length+1) (midK succ k x L D)++B4d succ typ (midK succ k x L D).length (midK succ k x L (D++[c])) /\
  (D++[c]).map (arcK (midK succ k x L (D++[c])))=D.map (arcK (midK succ k x L D))++[⟨c.1,(idxK (midK succ k x L (D++[c])) c.2:Int)⟩]:=by
 obtain⟨h1,h2,h3,h4⟩:=F9l hU hx hn hk hD
 rw[E8i]
 obtain⟨g1,g2⟩:=G8k hU hc h3
 refine⟨F9g g1.pre (fun y hy d hd=>?_) h4,?_⟩
 ·have hym:=List.mem_of_mem_drop hy
  obtain⟨r,e⟩:=h1.pre
  have hnd:(midK succ k x L D).Nodup:=h1.nodup (by
   rw[List.nodup_append]
   exact⟨hL,by simp,fun y hy z hz e'=>by rw[List.mem_singleton]at hz;rw[e',hz]at hy;exact hn hy⟩)
  rw[e,show L.length+1=(L++[x]).length by simp,List.drop_left]at hy
  have hyL:y∉L++[x]:=fun hm=>by
   rw[e]at hnd
   exact(List.nodup_append.1 hnd).2.2 y hm y hy rfl
  exact h1.closed y hym hyL d hd
 ·obtain⟨r,e⟩:=g1.pre
  rw[List.map_append,e,D7d h2]
  rfl
end
def gzR (tt tf ta tb:T) (m n:Nat) (N:List Nd):Row:=.cells 88 [.t tt,.t tf,.t ta,.t tb,.mp m,rowP eNd n N]
def mapR (L:List (Nat×Nat)):Row:=.map (.ints 2) (mapF 0 L)
def gzH (tt tf ta tb:T) (g m n:Nat) (L:List (Nat×Nat)) (N:List Nd) (R:Heap):Heap:=(g,gzR tt tf ta tb m n N)::(m,mapR L)::(rowH eNd 61 n N++R)
structure Gz (tt tf ta tb:T) (g m n:Nat) (L:List (Nat×Nat)) (N:List Nd) (H:Heap):Prop where
 gz:Abs.look H g=some (gzR tt tf ta tb m n N)
 mp:Abs.look H m=some (mapR L)
 nd:A0i eNd 61 H n N
 gm:g≠m
 gn:g≠n
 mn:m≠n
section
variable {tt tf ta tb : T} {nx : Nat}
theorem Gz.mk' {g m n:Nat} (L:List (Nat×Nat)) (N:List Nd) (R:Heap) (gm:g≠m) (gn:g≠n) (mn:m≠n):Gz tt tf ta tb g m n L N (gzH tt tf ta tb g m n L N R):=
 ⟨by simp[gzH],by simp[gzH,gm],((A0i.head _ _ _ _ _).cons mn).cons gn,gm,gn,mn⟩
theorem B5z {g m n:Nat} {L:List (Nat×Nat)} {N:List Nd} {R:Heap} {q:Nat×Row} (h:q∈gzH tt tf ta tb g m n L N R):q=(g,gzR tt tf ta tb m n N)\/q=(m,mapR L)\/(N≠[]/\q=(n,A2r eNd 61 N))\/q∈R:=by
 unfold gzH at h
 rcases List.mem_cons.1 h with h | h
 ·exact .inl h
 ·rcases List.mem_cons.1 h with h | h
  ·exact .inr (.inl h)
  ·rcases List.mem_append.1 h with h | h
   ·exact .inr (.inr (.inl (A1r h)))
   ·exact .inr (.inr (.inr h))
theorem C4k (σ:Nat->Nat) (m n:Nat) (N:List Nd):A1v σ (gzR tt tf ta tb m n N)=gzR tt tf ta tb (σ m) (σ n) N:=by
 simp only[gzR,A1v,renL,ren,A0g]
theorem B6a {nx:Nat} {m n:Nat} (N:List Nd) (hm:m<nx) (hn:n<nx):A1b nx (gzR tt tf ta tb m n N)=true:=by
 simp only[gzR,A1b,A2c,under,A0e _ _ _ _ hn,Bool.and_self,Bool.and_true,Bool.true_and,decide_eq_true_eq]
 exact hm
theorem D0n (σ:Nat->Nat) (L:List (Nat×Nat)):A1v σ (mapR L)=mapR L:=rfl
theorem E8j {P:Program} {B nx nx' n:Nat} (σ:Nat->Nat) {L:List (Nat×Nat)} {N:List Nd} {env env':List (Nat×PV)} {H R:Heap} (hσ:∀x,x<3->σ x=x) (hB:B<=3) (hn:4<=nx') (w:Gz tt tf ta tb 0 1 (σ 3) L N H)
  (hR:∀q∈R,Abs.look H (σ q.1)=some (A1v σ q.2)/\q.1<nx'/\A1b nx' q.2=true)
  (hi:∀x y,(x=0\/x=1\/x=3\/∃q∈R,q.1=x)->(y=0\/y=1\/y=3\/∃q∈R,q.1=y)->σ x=σ y->x=y)
  (he:∀q∈env',Abs.look env q.1=some (ren σ q.2)/\under nx' q.2=true) :
  Sub P G B ⟨env,H,nx,n⟩ ⟨env',gzH tt tf ta tb 0 1 3 L N R,nx',n⟩:=by
 have s0:σ 0=0:=hσ 0 (by omega)
 have s1:σ 1=1:=hσ 1 (by omega)
 refine B2k σ rfl (by show B<=nx';omega) (fun x hx=>hσ x (by omega)) he (fun q hq=>?_) (fun q hq q' hq' e=>?_)
 ·rcases B5z hq with rfl | rfl | ⟨hn',rfl⟩ | hq
  ·simp only[C4k,s0,s1]
   exact⟨w.gz,by omega,B6a _ (by omega) (by omega)⟩
  ·simp only[D0n,s1]
   exact⟨w.mp,by omega,rfl⟩
  ·simp only[A1i,A1e]
   exact⟨w.nd.resolve_left hn',by omega,trivial⟩
  ·exact hR q hq
 ·have key:∀q∈gzH tt tf ta tb 0 1 3 L N R,q.1=0\/q.1=1\/q.1=3\/∃q'∈R,q'.1=q.1:=by
   intro q hq
   rcases B5z hq with rfl | rfl | ⟨_,rfl⟩ | hq
   ·exact .inl rfl
   ·exact .inr (.inl rfl)
   ·exact .inr (.inr (.inl rfl))
   ·exact .inr (.inr (.inr ⟨q,hq,rfl⟩))
  exact hi _ _ (key q hq) (key q' hq') e
theorem Gz.keep {g m n:Nat} {L:List (Nat×Nat)} {N:List Nd} {H H':Heap} (w:Gz tt tf ta tb g m n L N H) (h:∀x,x=g\/x=m\/x=n->Abs.look H' x=Abs.look H x):Gz tt tf ta tb g m n L N H':=
 ⟨by rw[h g (.inl rfl)];exact w.gz,by rw[h m (.inr (.inl rfl))];exact w.mp,w.nd.imp id fun q=>by rw[h n (.inr (.inr rfl))];exact q,w.gm,w.gn,w.mn⟩
theorem Gz.cons {g m n k:Nat} {L:List (Nat×Nat)} {N:List Nd} {H:Heap} {r:Row} (w:Gz tt tf ta tb g m n L N H) (hg:k≠g) (hm:k≠m) (hn:k≠n):Gz tt tf ta tb g m n L N ((k,r)::H):=
 w.keep fun x hx=>by
  rw[look_cons,if_neg]
  rcases hx with rfl | rfl | rfl<;>assumption
theorem Gz.ld {g m n:Nat} {L:List (Nat×Nat)} {N:List Nd} {H:Heap} (w:Gz tt tf ta tb g m n L N H):A0f true 2 H (.ptr g 0)=some (.t (.ag [tt,tf]))/\A0f false 1 H (.ptr g 2)=some (.t ta)/\A0f false 1 H (.ptr g 3)=some (.t tb)/\A0f false 1 H (.ptr g 4)=some (.mp m)/\A0f false 1 H (.ptr g 5)=some (rowP eNd n N):=by
 refine⟨?_,?_,?_,?_,?_⟩<;>simp only[A0f,w.gz,gzR]<;>rfl
theorem Gz.put {g m n:Nat} {L:List (Nat×Nat)} {N:List Nd} {H:Heap} (w:Gz tt tf ta tb g m n L N H) {p:Nat×Nat} (hp:p∉L):hxM (.mset (.ints 2)) H nx [.mp m,.t (.ag [iv (p.1:Int),iv (p.2:Int)]),.t (iv (L.length:Int))]=some (.t (.v undef),upd H m (mapR (L++[p])),nx)/\Gz tt tf ta tb g m n (L++[p]) N (upd H m (mapR (L++[p]))):=by
 have e:=E1r p L 0 hp
 rw[Nat.zero_add]at e
 refine⟨?_,?_,?_,w.nd.imp id fun q=>?_,w.gm,w.gn,w.mn⟩
 ·rw[show iv (L.length:Int) = .v (.int .i64 (L.length:Int))from rfl,hxM_mset w.mp (keyT_two _ _),e]
  rfl
 ·rw[A0n,if_neg w.gm]
  exact w.gz
 ·rw[A0n,if_pos rfl,w.mp]
  rfl
 ·rw[A0n,if_neg (Ne.symm w.mn)]
  exact q
theorem Gz.get {g m n:Nat} {L:List (Nat×Nat)} {N:List Nd} {H:Heap} (w:Gz tt tf ta tb g m n L N H) (p:Nat×Nat):hxM (.mget (.ints 2) (.int .i64 0) true) H nx [.mp m,.t (.ag [iv (p.1:Int),iv (p.2:Int)])]=some (.t (.tu [if p∈L then iv (idxK L p:Int)else iv 0,bv (decide (p∈L))]),H,nx):=by
 rw[hxM_mget w.mp (keyT_two _ _),E1q]
 by_cases h:p∈L
 ·rw[if_pos h,if_pos h,decide_eq_true h,Nat.zero_add]
  rfl
 ·rw[if_neg h,if_neg h,decide_eq_false h]
  rfl
theorem Gz.nodes {g m n k:Nat} {L:List (Nat×Nat)} {N N':List Nd} {H H2:Heap} (w:Gz tt tf ta tb g m n L N H) (h:∀x,x=g\/x=m->Abs.look H2 x=Abs.look H x) (hr:A0i eNd 61 H2 k N') (hg:g≠k) (hm:m≠k) :
  A0v 1 H2 (.ptr g 5) (rowP eNd k N')=some (upd H2 g (gzR tt tf ta tb m k N'))/\Gz tt tf ta tb g m k L N' (upd H2 g (gzR tt tf ta tb m k N')):=by
 have h2:Abs.look H2 g=some (gzR tt tf ta tb m n N):=(h g (.inl rfl)).trans w.gz
 refine⟨?_,?_,?_,hr.imp id fun q=>?_,w.gm,hg,hm⟩
 ·simp only[A0v,A7a,h2,gzR]
  rfl
 ·rw[A0n,if_pos rfl,h2]
  rfl
 ·rw[A0n,if_neg (Ne.symm w.gm),h m (.inr rfl)]
  exact w.mp
 ·rw[A0n,if_neg (Ne.symm hg)]
  exact q
theorem F9m {P:Program} {f:FuncId} {L L':List (Nat×Nat)} {N N':List Nd} {u r:T} (h:A8z P G f [.ptr 0 0,.t u] (gzH tt tf ta tb 0 1 2 L N []) 3 (.t r) (gzH tt tf ta tb 0 1 3 L' N' []) 4)
  {a b c NX:Nat} {Hb:Heap} (w:Gz tt tf ta tb a b c L N Hb) (ha:a<NX) (hb:b<NX) (hc:c<NX) :
  A8z P G f [.ptr a 0,.t u] Hb NX (.t r) (gzH tt tf ta tb a b NX L' N' (rem (rem (rem Hb a) b) c)) (NX+1):=by
 let σ:Nat->Nat:=fun x=>if x=0 then a else if x=1 then b else c
 have s0:σ 0=a:=rfl
 have s1:σ 1=b:=rfl
 have s2:σ 2=c:=rfl
 have l0:A3l σ 3 NX 0=a:=rfl
 have l1:A3l σ 3 NX 1=b:=rfl
 have l3:A3l σ 3 NX 3=NX:=rfl
 have cs:∀x,x<3->x=0\/x=1\/x=2:=fun x hx=>by omega
 have ab:=w.gm
 have ac:=w.gn
 have bc:=w.mn
 have:=h.lift σ NX Hb (gzH tt tf ta tb a b NX L' N' (rem (rem (rem Hb a) b) c)) ?_ ?_ (by omega) ?_ rfl rfl ?_ ?_
 ·simpa[renL,ren,s0]using this
 ·intro x hx
  rcases cs x hx with rfl | rfl | rfl
  ·exact ha
  ·exact hb
  ·exact hc
 ·intro x y hx hy e
  rcases cs x hx with rfl | rfl | rfl<;>rcases cs y hy with rfl | rfl | rfl<;>simp only[s0,s1,s2]at e<;>first | rfl | omega
 ·intro q hq
  rcases B5z hq with rfl | rfl | ⟨hn,rfl⟩ | hq
  ·simp only[C4k,s0,s1,s2]
   exact⟨w.gz,by omega,B6a _ (by omega) (by omega)⟩
  ·simp only[D0n,s1]
   exact⟨w.mp,by omega,rfl⟩
  ·simp only[A1i,A1e,s2]
   exact⟨w.nd.resolve_left hn,by omega,trivial⟩
  ·cases hq
 ·intro q hq
  rcases B5z hq with rfl | rfl | ⟨hn,rfl⟩ | hq
  ·exact⟨by omega,B6a _ (by omega) (by omega)⟩
  ·exact⟨by omega,rfl⟩
  ·exact⟨by omega,A1e _ _ _ _⟩
  ·cases hq
 ·intro x y hx
  have w':=Gz.mk' (tt:=tt) (tf:=tf) (ta:=ta) (tb:=tb) (g:=0) (m:=1) (n:=3) L' N' [] (by omega) (by omega) (by omega)
  have hrem:Abs.look (rem (rem (rem Hb a) b) c) x=some y->Abs.look Hb x=some y/\x≠a/\x≠b/\x≠c:=by
   intro h
   rw[A1n]at h
   split at h
   ·cases h
   ·rw[A1n]at h
    split at h
    ·cases h
    ·rw[A1n]at h
     split at h
     ·cases h
     ·exact⟨h,by assumption,by assumption,by assumption⟩
  have hother:Abs.look (rem (rem (rem Hb a) b) c) x=some y->Abs.look Hb x=some y/\∀b0 x0,Abs.look (gzH tt tf ta tb 0 1 2 L N []) b0=some x0->σ b0≠x:=by
   intro h
   obtain⟨h1,h2,h3,h4⟩:=hrem h
   refine⟨h1,fun b0 x0 h0 e=>?_⟩
   rcases B5z (A0t h0)with e' | e' | ⟨_,e'⟩ | hq
   ·injection e' with e1 _
    rw[e1,s0]at e
    exact h2 e.symm
   ·injection e' with e1 _
    rw[e1,s1]at e
    exact h3 e.symm
   ·injection e' with e1 _
    rw[e1,s2]at e
    exact h4 e.symm
   ·cases hq
  unfold gzH at hx
  rw[look_cons]at hx
  by_cases xa:a=x
  ·rw[if_pos xa]at hx
   injection hx with hx
   subst hx
   exact .inl ⟨0,_,w'.gz,xa.symm.trans l0.symm,by rw[C4k,l1,l3]⟩
  ·rw[if_neg xa,look_cons]at hx
   by_cases xb:b=x
   ·rw[if_pos xb]at hx
    injection hx with hx
    subst hx
    exact .inl ⟨1,_,w'.mp,xb.symm.trans l1.symm,rfl⟩
   ·rw[if_neg xb]at hx
    have hnd:Abs.look (rowH eNd 61 NX N'++rem (rem (rem Hb a) b) c) x=some y->(N'≠[]/\x=NX/\y=A2r eNd 61 N')\/Abs.look (rem (rem (rem Hb a) b) c) x=some y:=by
     intro h
     cases N' with
     | nil=>exact .inr h
     | cons z r=>
      simp only[rowH,List.cons_append,List.nil_append,look_cons]at h
      by_cases e:NX=x
      ·rw[if_pos e]at h
       injection h with h
       exact .inl ⟨by simp,e.symm,h.symm⟩
      ·rw[if_neg e]at h
       exact .inr h
    rcases hnd hx with⟨hn,e1,e2⟩ | hx
    ·exact .inl ⟨3,_,w'.nd.resolve_left hn,e1.trans l3.symm,by rw[A1i,e2]⟩
    ·exact .inr (hother hx)
end
end Go.Proofs.Ytbiadmfmjnoecaa
