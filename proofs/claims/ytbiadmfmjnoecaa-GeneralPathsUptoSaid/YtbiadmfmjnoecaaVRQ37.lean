/-
 Auxiliary facts. No statement of the program stands here.
-/
import Derived.Test.YtbiadmfmjnoecaaVRQ36
namespace Go.Proofs.Ytbiadmfmjnoecaa
set_option linter.unusedSimpArgs false
set_option linter.unusedVariables false
open Go Go.Abs
abbrev PSt:=List Nat×List (List Int)
def arcP (p:List Int) (st:PSt) (c:Arc):PSt:=if c.to.toNat∈st.1 then st else(st.1++[c.to.toNat],st.2++[p++[c.feat]])
def midP (p:List Int) (st:PSt) (l:List Arc):PSt:=l.foldl (arcP p) st
def C1l (st:PSt) (i:Nat):Nat:=st.1.getD i 0
def C9w (st:PSt) (i:Nat):List Int:=st.2.getD i []
def bfsP (a:List Nd):Nat->PSt
 | 0=>([0],[[]])
 | i+1=>if i<(bfsP a i).1.length then midP (C9w (bfsP a i) i) (bfsP a i) (A2s a (C1l (bfsP a i) i))else bfsP a i
def outP (a:List Nd):Nat->List (List Int)
 | 0=>List.replicate a.length []
 | i+1=>if i<(bfsP a i).1.length then(outP a i).set (C1l (bfsP a i) i) (C9w (bfsP a i) i)else outP a i
def A1d (a:List Nd):List (List Int):=outP a a.length
structure PInv (a:List Nd) (st:PSt):Prop where
 len:st.2.length=st.1.length
 nodup:st.1.Nodup
 lt:∀n∈st.1,n<a.length
 root:st.1[0]?=some 0/\st.2[0]?=some []
 at_:∀(k:Nat) p n,st.2[k]?=some p->st.1[k]?=some n->atL a p=some n
 short:∀(k:Nat) p,st.2[k]?=some p->p.length<=k
theorem E8o:∀(n:Nat) (l:List Nat),l.Nodup->(∀x∈l,x<n)->l.length<=n
 | 0,l,_,h=>by
  cases l with
  | nil=>simp
  | cons x l=>have:=h x List.mem_cons_self;omega
 | n+1,l,hn,h=>by
  have h1:=E8o n (l.erase n) (hn.erase n) (fun x hx=>by
   obtain⟨h2,h3⟩:=hn.mem_erase_iff.1 hx
   have:=h x h3
   omega)
  have h2:l.length<=(l.erase n).length+1:=by
   rw[List.length_erase]
   split<;>omega
  omega
theorem D3t {α:Type} {l r:List α} {i:Nat} {x:α} (h:l[i]?=some x):(l++r)[i]?=some x:=by
 rw[List.getElem?_append_left (List.getElem?_eq_some_iff.1 h).1]
 exact h
section
variable {nf : Nat} {ty : List Typ} {a : List Nd} {st : PSt} {i n : Nat} {p : List Int}
theorem PInv.le (h:PInv a st):st.1.length<=a.length:=E8o _ _ h.nodup h.lt
theorem PInv.get (h:PInv a st) (hi:i<st.1.length):st.1[i]?=some (C1l st i)/\st.2[i]?=some (C9w st i):=by
 have h2:i<st.2.length:=by rw[h.len];exact hi
 refine⟨?_,?_⟩
 ·unfold C1l
  rw[List.getD_eq_getElem?_getD,List.getElem?_eq_getElem hi]
  rfl
 ·unfold C9w
  rw[List.getD_eq_getElem?_getD,List.getElem?_eq_getElem h2]
  rfl
structure PExt (st st':PSt):Prop where
 fst:∃r,st'.1=st.1++r
 snd:∃r,st'.2=st.2++r
theorem PExt.refl (st:PSt):PExt st st:=⟨⟨[],by simp⟩,⟨[],by simp⟩⟩
theorem PExt.trans {st st' st'':PSt} (h:PExt st st') (h':PExt st' st''):PExt st st'':=by
 obtain⟨⟨r,e⟩,⟨q,f⟩⟩:=h
 obtain⟨⟨r',e'⟩,⟨q',f'⟩⟩:=h'
 exact⟨⟨r++r',by rw[e',e,List.append_assoc]⟩,⟨q++q',by rw[f',f,List.append_assoc]⟩⟩
theorem PExt.mem {st st':PSt} (h:PExt st st') {x:Nat} (hx:x∈st.1):x∈st'.1:=by
 obtain⟨⟨r,e⟩,_⟩:=h
 rw[e]
 exact List.mem_append_left _ hx
theorem PInv.arc (ha:A1n ty.length nf a) (h:PInv a st) (hn:st.1[i]?=some n) (hp:st.2[i]?=some p) {c:Arc} (hc:c∈A2s a n):PInv a (arcP p st c)/\PExt st (arcP p st c)/\c.to.toNat∈(arcP p st c).1:=by
 have hnl:=h.lt n (List.mem_of_getElem? hn)
 unfold arcP
 split
 ·rename_i hin
  exact⟨h,PExt.refl st,hin⟩
 ·rename_i hin
  have ht:=ha.tor hnl hc
  have hi:=(List.getElem?_eq_some_iff.1 hn).1
  refine⟨⟨by simp[h.len],?_,fun x hx=>?_,⟨D3t h.root.1,D3t h.root.2⟩,fun k q m hq hm=>?_,fun k q hq=>?_⟩,⟨⟨_,rfl⟩,⟨_,rfl⟩⟩,by simp⟩
  ·rw[List.nodup_append]
   refine⟨h.nodup,by simp,fun x hx y hy=>?_⟩
   rw[List.mem_singleton]at hy
   rw[hy]
   exact fun e=>hin (e▸hx)
  ·rcases List.mem_append.1 hx with hx | hx
   ·exact h.lt x hx
   ·rw[List.mem_singleton]at hx
    rw[hx]
    exact ht.2
  ·simp only at hq hm
   rw[List.getElem?_append]at hq hm
   rw[h.len]at hq
   split at hm
   ·rename_i hk
    rw[if_pos hk]at hq
    exact h.at_ k q m hq hm
   ·rename_i hk
    rw[if_neg hk]at hq
    have hk0:k-st.1.length=0:=by
     have:=(List.getElem?_eq_some_iff.1 hm).1
     simp only[List.length_singleton]at this
     omega
    rw[hk0]at hq hm
    simp only[List.getElem?_cons_zero,Option.some.injEq]at hq hm
    rw[<-hq,<-hm,B2t,h.at_ i p n hp hn,Option.bind_some]
    exact ha.stp' hnl hc
  ·simp only at hq
   rw[List.getElem?_append]at hq
   split at hq
   ·exact h.short k q hq
   ·rename_i hk
    have hk0:k-st.2.length=0:=by
     have:=(List.getElem?_eq_some_iff.1 hq).1
     simp only[List.length_singleton]at this
     omega
    rw[hk0]at hq
    simp only[List.getElem?_cons_zero,Option.some.injEq]at hq
    have:=h.short i p hp
    rw[<-hq,List.length_append,List.length_singleton]
    have h2:=h.len
    omega
theorem PInv.mid (ha:A1n ty.length nf a):∀(l:List Arc) {st:PSt},PInv a st->st.1[i]?=some n->st.2[i]?=some p->(∀c∈l,c∈A2s a n)->PInv a (midP p st l)/\PExt st (midP p st l)/\∀c∈l,c.to.toNat∈(midP p st l).1
 | [],st,h,_,_,_=>⟨h,PExt.refl st,fun c hc=>by cases hc⟩
 | c::l,st,h,hn,hp,hl=>by
  obtain⟨h1,h2,h3⟩:=h.arc ha hn hp (hl c List.mem_cons_self)
  obtain⟨⟨r,e⟩,⟨q,f⟩⟩:=h2
  obtain⟨h4,h5,h6⟩:=PInv.mid ha l h1 (by rw[e];exact D3t hn) (by rw[f];exact D3t hp) (fun d hd=>hl d (List.mem_cons_of_mem _ hd))
  refine⟨h4,PExt.trans ⟨⟨r,e⟩,⟨q,f⟩⟩ h5,fun d hd=>?_⟩
  rcases List.mem_cons.1 hd with rfl | hd
  ·exact h5.mem h3
  ·exact h6 d hd
theorem F9q {l:List Arc} {j:Nat} {c:Arc} (h:l[j]?=some c):midP p st (l.take (j+1))=arcP p (midP p st (l.take j)) c:=by
 unfold midP
 rw[List.take_add_one,h,List.foldl_append]
 rfl
theorem B6f (ha:A1n ty.length nf a):∀i,PInv a (bfsP a i)/\∀k n,k<i->(bfsP a i).1[k]?=some n->∀c∈A2s a n,c.to.toNat∈(bfsP a i).1
 | 0=>by
  refine⟨⟨rfl,by simp[bfsP],fun n hn=>?_,⟨rfl,rfl⟩,fun k p n hp hn=>?_,fun k p hp=>?_⟩,fun k n hk=>by omega⟩
  ·simp only[bfsP,List.mem_singleton]at hn
   rw[hn]
   exact ha.form.pos
  ·cases k with
   | zero=>injection hp with hp;injection hn with hn;rw[<-hp,<-hn];rfl
   | succ k=>simp[bfsP]at hp
  ·cases k with
   | zero=>injection hp with hp;rw[<-hp];simp
   | succ k=>simp[bfsP]at hp
 | i+1=>by
  obtain⟨h,hc⟩:=B6f ha i
  unfold bfsP
  split
  ·rename_i hi
   obtain⟨h1,h2⟩:=h.get hi
   obtain⟨h3,h4,h5⟩:=PInv.mid ha (A2s a (C1l (bfsP a i) i)) h h1 h2 (fun c hc=>hc)
   refine⟨h3,fun k n hk hn c hcc=>?_⟩
   have h4':=h4
   obtain⟨⟨r,e⟩,_⟩:=h4
   by_cases hki:k=i
   ·subst hki
    have:n=C1l (bfsP a k) k:=by
     have:=D3t (r:=r) h1
     rw[<-e,hn]at this
     injection this
    rw[this]at hcc
    exact h5 c hcc
   ·have hkl:k<(bfsP a i).1.length:=by omega
    have hn':(bfsP a i).1[k]?=some n:=by
     rw[e,List.getElem?_append_left hkl]at hn
     exact hn
    exact PExt.mem h4' (hc k n (by omega) hn' c hcc)
  ·rename_i hi
   refine⟨h,fun k n hk hn c hcc=>hc k n ?_ hn c hcc⟩
   have:=(List.getElem?_eq_some_iff.1 hn).1
   omega
theorem E1g (h:(bfsP a i).1.length<=i):∀j,bfsP a (i+j)=bfsP a i/\outP a (i+j)=outP a i
 | 0=>⟨rfl,rfl⟩
 | j+1=>by
  obtain⟨h1,h2⟩:=E1g h j
  have hj:¬i+j<(bfsP a (i+j)).1.length:=by rw[h1];omega
  refine⟨?_,?_⟩
  ·show(if i+j<(bfsP a (i+j)).1.length then midP (C9w (bfsP a (i+j)) (i+j)) (bfsP a (i+j)) (A2s a (C1l (bfsP a (i+j)) (i+j)))else bfsP a (i+j))=_
   rw[if_neg hj]
   exact h1
  ·show(if i+j<(bfsP a (i+j)).1.length then(outP a (i+j)).set (C1l (bfsP a (i+j)) (i+j)) (C9w (bfsP a (i+j)) (i+j))else outP a (i+j))=_
   rw[if_neg hj]
   exact h2
theorem E8p (ha:A1n ty.length nf a) (i:Nat):PExt (bfsP a i) (bfsP a (i+1)):=by
 obtain⟨h,_⟩:=B6f ha i
 show PExt (bfsP a i) (if i<(bfsP a i).1.length then midP (C9w (bfsP a i) i) (bfsP a i) (A2s a (C1l (bfsP a i) i))else bfsP a i)
 split
 ·rename_i hi
  obtain⟨h1,h2⟩:=h.get hi
  exact(PInv.mid ha _ h h1 h2 (fun c hc=>hc)).2.1
 ·exact PExt.refl _
theorem B6g (a:List Nd):∀i,(outP a i).length=a.length
 | 0=>by simp[outP]
 | i+1=>by
  unfold outP
  split
  ·rw[List.length_set];exact B6g a i
  ·exact B6g a i
theorem D6v (ha:A1n ty.length nf a):∀(i k n:Nat) (p:List Int),k<i->(bfsP a i).1[k]?=some n->(bfsP a i).2[k]?=some p->(outP a i)[n]?=some p
 | 0,k,n,p,hk,_,_=>by omega
 | i+1,k,n,p,hk,hn,hp=>by
  obtain⟨h,_⟩:=B6f ha i
  obtain⟨⟨r,e⟩,⟨q,f⟩⟩:=E8p ha i
  by_cases hi:i<(bfsP a i).1.length
  ·have ho:outP a (i+1)=(outP a i).set (C1l (bfsP a i) i) (C9w (bfsP a i) i):=by
    show(if _ then _ else _)=_
    rw[if_pos hi]
   rw[ho]
   have hkl:k<(bfsP a i).1.length:=by omega
   rw[e,List.getElem?_append_left hkl]at hn
   rw[f,List.getElem?_append_left (by rw[h.len];exact hkl)]at hp
   obtain⟨g1,g2⟩:=h.get hi
   by_cases hki:k=i
   ·subst hki
    rw[g1]at hn
    rw[g2]at hp
    injection hn with hn
    injection hp with hp
    rw[hn,hp,List.getElem?_set_self (by rw[B6g];exact h.lt n (hn▸List.mem_of_getElem? g1))]
   ·have hne:C1l (bfsP a i) i≠n:=fun e=>hki (((List.getElem?_inj hkl h.nodup).1 (hn.trans (e▸g1.symm))))
    rw[List.getElem?_set_ne hne]
    exact D6v ha i k n p (by omega) hn hp
  ·have hb:bfsP a (i+1)=bfsP a i:=by
    show(if _ then _ else _)=_
    rw[if_neg hi]
   have ho:outP a (i+1)=outP a i:=by
    show(if _ then _ else _)=_
    rw[if_neg hi]
   rw[hb]at hn hp
   rw[ho]
   have:=(List.getElem?_eq_some_iff.1 hn).1
   exact D6v ha i k n p (by omega) hn hp
theorem C3n (ha:A1n ty.length nf a):∀(i:Nat) p,p∈outP a i->p.length<=a.length
 | 0,p,h=>by
  unfold outP at h
  rw[List.eq_of_mem_replicate h]
  simp
 | i+1,p,h=>by
  unfold outP at h
  split at h
  ·rename_i hi
   rcases List.mem_or_eq_of_mem_set h with h | h
   ·exact C3n ha i p h
   ·obtain⟨hv,_⟩:=B6f ha i
    have:=hv.short i _ (hv.get hi).2
    have h2:=hv.le
    rw[h]
    omega
  ·exact C3n ha i p h
theorem C9x (ha:A1n ty.length nf a) {p:List Int} (h:p∈A1d a):p.length<=a.length:=C3n ha _ p h
theorem G4q (ha:A1n ty.length nf a):C3m a (A1d a):=by
 obtain⟨h,hc⟩:=B6f ha a.length
 have hall:∀j,j<a.length->j∈(bfsP a a.length).1:=by
  intro j
  induction j using Nat.strongRecOn with
  | ind j ih=>
   intro hj
   by_cases h0:j=0
   ·rw[h0]
    exact List.mem_of_getElem? h.root.1
   ·obtain⟨i,z,c,h1,h2,h3,h4⟩:=ha.par (by omega:0<j) hj
    have hi:=(List.getElem?_eq_some_iff.1 h2).1
    obtain⟨k,hk,e⟩:=List.getElem_of_mem (ih i h1 hi)
    have:=hc k i (by have:=h.le;omega) (by rw[List.getElem?_eq_getElem hk,e]) c (by unfold A2s;rw[D5u h2];exact h3)
    have e2:c.to.toNat=j:=by omega
    rwa[e2]at this
 have key:∀n,n<a.length->∃k p,(bfsP a a.length).1[k]?=some n/\(bfsP a a.length).2[k]?=some p/\(A1d a)[n]?=some p:=fun n hn=>by
  obtain⟨k,hk,e⟩:=List.getElem_of_mem (hall n hn)
  obtain⟨g1,g2⟩:=h.get hk
  have hn':(bfsP a a.length).1[k]?=some n:=by rw[List.getElem?_eq_getElem hk,e]
  exact⟨k,_,hn',g2,D6v ha a.length k n _ (by have:=h.le;omega) hn' g2⟩
 refine⟨B6g a _,?_,fun n p hp=>?_⟩
 ·exact D6v ha a.length 0 0 [] ha.form.pos h.root.1 h.root.2
 ·have hn:n<a.length:=by have:=(List.getElem?_eq_some_iff.1 hp).1;unfold A1d at this;rwa[B6g]at this
  obtain⟨k,q,h1,h2,h3⟩:=key n hn
  rw[hp]at h3
  injection h3 with h3
  rw[h3]
  exact h.at_ k q n h2 h1
end
end Go.Proofs.Ytbiadmfmjnoecaa
