/- Auxiliary facts. -/
import Derived.Test.YtmgjopafgboljaaGreatDoorVEQ10
set_option linter.unusedSimpArgs false
set_option linter.unusedVariables false
namespace Go.Abs
open Go
theorem A8e {α:Type} [DecidableEq α]:∀{l m:List α},l.Nodup->(∀x∈l,x∈m)->m.length<=l.length->l.Perm m
 | [],m,_,_,h=>by
  have:m=[]:=List.length_eq_zero_iff.1 (by simpa using h);rw[this]
 | x::l,m,hn,hs,h=>by
  obtain⟨h1,h2⟩:=List.nodup_cons.1 hn;have hx:x∈m:=hs x (by simp);have hp:=List.perm_cons_erase hx
  have hl:(m.erase x).length+1=m.length:=by have:=hp.length_eq;simpa using this.symm
  refine(List.Perm.cons x (A8e h2 (fun y hy=>?_) ?_)).trans hp.symm
  ·refine(List.mem_erase_of_ne fun e=>?_).2 (hs y (by simp[hy]));subst e;exact h1 hy
  ·simp only[List.length_cons]at h;omega
theorem A4q {α β:Type} {f:α->β}:∀{l:List α},l.Nodup->(∀x∈l,∀y∈l,f x=f y->x=y)->(l.map f).Nodup
 | [],_,_=>List.nodup_nil
 | x::l,h,hi=>by
  obtain⟨h1,h2⟩:=List.nodup_cons.1 h;rw[List.map_cons,List.nodup_cons];refine⟨fun hm=>?_,A4q h2 fun y hy z hz=>hi y (by simp[hy]) z (by simp[hz])⟩;obtain⟨y,hy,e⟩:=List.mem_map.1 hm;exact h1 (hi y (by simp[hy]) x (by simp) e▸hy)
def pick {α:Type} (m:List α) (ks:List Nat):List (Option α):=ks.map fun k=>m[k]?
theorem C4z {α:Type} (m:List α):pick m (List.range m.length)=m.map some:=by
 refine List.ext_getElem? fun i=>?_;simp only[pick,List.getElem?_map];by_cases h:i<m.length
 ·rw[List.getElem?_range h];simp[h]
 ·simp[h]
theorem E6r {α:Type} {l m:List α} (h:l.Perm m):∃ks:List Nat,ks.Perm (List.range m.length)/\pick m ks=l.map some:=by
 induction h with
 | nil=>exact⟨[],.refl _,rfl⟩
 | cons x _ ih=>
  rename_i l m _;obtain⟨ks,h1,h2⟩:=ih;refine⟨0::ks.map (· + 1),?_,?_⟩
  ·rw[List.length_cons,List.range_succ_eq_map];exact(h1.map _).cons 0
  ·simp only[pick,List.map_cons,List.map_map]at h2 ⊢;rw[<-h2];rfl
 | swap x y l=>
  refine⟨1::0::(List.range l.length).map (· + 2),?_,?_⟩
  ·rw[List.length_cons,List.length_cons,List.range_succ_eq_map,List.range_succ_eq_map,List.map_cons,List.map_map];exact List.Perm.swap 0 1 _
  ·have:=C4z l;simp only[pick,List.map_cons,List.map_map]at this ⊢;rw[<-this];rfl
 | trans _ _ ih1 ih2=>
  rename_i l1 l2 l3 _ _;obtain⟨k1,a1,a2⟩:=ih1;obtain⟨k2,b1,b2⟩:=ih2;refine⟨k1.map fun i=>k2.getD i 0,?_,?_⟩
  ·have hl:k2.length=l2.length:=by have:=congrArg List.length b2;simpa[pick]using this
   have e:(List.range l2.length).map (fun i=>k2.getD i 0)=k2:=by
    refine List.ext_getElem? fun i=>?_;rw[List.getElem?_map];by_cases h:i<l2.length
    ·rw[List.getElem?_range h];simp[hl,h]
    ·simp[hl,h]
   have:=a1.map fun i=>k2.getD i 0;rw[e]at this;exact this.trans b1
  ·have hb:∀i,i<l2.length->l3[k2.getD i 0]?=l2[i]?:=fun i hi=>by
    have:=congrArg (·[i]?) b2;simp only[pick,List.getElem?_map]at this
    have hl:k2.length=l2.length:=by have:=congrArg List.length b2;simpa[pick]using this
    rw[List.getElem?_eq_getElem hi,List.getElem?_eq_getElem (by omega:i<k2.length)]at this;simp only[Option.map_some,Option.some.injEq]at this;rw[List.getD_eq_getElem?_getD,List.getElem?_eq_getElem (by omega:i<k2.length),Option.getD_some,this,List.getElem?_eq_getElem hi]
   rw[<-a2];unfold pick;rw[List.map_map];refine List.map_congr_left fun i hi=>?_;exact hb i (List.mem_range.1 (a1.mem_iff.1 hi))
theorem D0w {α:Type} {l m:List α} {ks:List Nat} (hn:ks.Nodup) (hl:ks.length=m.length) (h:pick m ks=l.map some):l.Perm m:=by
 have hlt:∀k∈ks,k∈List.range m.length:=fun k hk=>by
  obtain⟨i,hi⟩:=List.getElem?_of_mem hk;have:=congrArg (·[i]?) h;simp only[pick,List.getElem?_map,hi,Option.map_some]at this
  cases hx:l[i]? with
  | none=>rw[hx]at this;cases this
  | some x=>
   rw[hx]at this;injection this with this;exact List.mem_range.2 (List.getElem?_eq_some_iff.1 this).1
 have hp:=A8e hn hlt (by rw[List.length_range];omega);have h2:=hp.map fun k=>m[k]?;have h3:=C4z m;unfold pick at h h3;rw[h,h3]at h2;have h4:=h2.filterMap id;simpa using h4
def mapE (σ:Int->Int) (x:Ep):Ep:=⟨x.pred,σ x.label,x.args.map fun a=>⟨a.role,σ a.var⟩⟩
def mapQ (σ:Int->Int) (c:Qq):Qq:=⟨σ c.high,σ c.low⟩
def inR (n:Nat) (x:Int):Prop:=0<=x/\x<n
instance (n:Nat) (x:Int):Decidable (inR n x):=by unfold inR;exact inferInstance
def okV (m:Mr):Prop:=∀x∈occ m,inR m.vars.length x
theorem okV.top {m:Mr} (h:okV m):inR m.vars.length m.top:=h _ (by simp[occ])
theorem okV.index {m:Mr} (h:okV m):inR m.vars.length m.index:=h _ (by simp[occ])
theorem okV.rel {m:Mr} (h:okV m) {x:Ep} (hx:x∈m.rels) {v:Int} (hv:v∈occE x):inR m.vars.length v:=h _ (by
 simp only[occ,List.mem_cons,List.mem_append,List.mem_flatMap]
 exact .inr (.inr (.inl ⟨x,hx,hv⟩)))
theorem okV.con {m:Mr} (h:okV m) {c:Qq} (hc:c∈m.cons) {v:Int} (hv:v∈occC c):inR m.vars.length v:=h _ (by
 simp only[occ,List.mem_cons,List.mem_append,List.mem_flatMap]
 exact .inr (.inr (.inr ⟨c,hc,hv⟩)))
structure Iso (a b:Mr) (σ:Int->Int):Prop where
 len:a.vars.length=b.vars.length
 rng:∀x,inR a.vars.length x->inR a.vars.length (σ x)
 inj:∀x y,inR a.vars.length x->inR a.vars.length y->σ x=σ y->x=y
 sort:∀x,inR a.vars.length x->a.vars.getD x.toNat ⟨#[]⟩=b.vars.getD (σ x).toNat ⟨#[]⟩
 top:σ a.top=b.top
 index:σ a.index=b.index
 rels:(a.rels.map (mapE σ)).Perm b.rels
 cons:(a.cons.map (mapQ σ)).Perm b.cons
def Corr (a b:Mr):Prop:=∃σ,Iso a b σ
def bnd (v:List Int) (x:Int):Int:=v.getD x.toNat (-1)
section
variable (ok : Int -> Int -> Bool)
def A4a (v:List Int) (x y:Int):Option (List Int):=
 if bnd v x=y then some v
 else if 0<=bnd v x\/y∈v\/ok x y=false then none
 else some (v.set x.toNat y)
def A2x:List Int->List (Int×Int)->Option (List Int)
 | v,[]=>some v
 | v,p::r=>match A4a ok v p.1 p.2 with
  | some w=>A2x w r
  | none=>none
end
def A4i (x y:Ep):Option (List (Int×Int)):=if x.pred=y.pred/\x.args.map (·.role)=y.args.map (·.role)then some ((x.label,y.label)::(x.args.map (·.var)).zip (y.args.map (·.var)))else none
def A5r (c d:Qq):List (Int×Int):=[(c.high,d.high),(c.low,d.low)]
section
variable (ok : Int -> Int -> Bool) (bc : List Qq)
def A4r:List Qq->List Int->List Nat->Bool
 | [],_,_=>true
 | c::r,v,used=>(List.range bc.length).any fun k=>if k∈used then false else match A2x ok v (A5r c (bc.getD k ⟨0,0⟩))with
  | some w=>A4r r w (k::used)
  | none=>false
variable (ac : List Qq) (br : List Ep)
def A4b:List Ep->List Int->List Nat->Option (List Nat)
 | [],v,p=>if A4r ok bc ac v []then some p else none
 | x::r,v,p=>(List.range br.length).findSome? fun k=>if k∈p then none else match A4i x (br.getD k ⟨⟨#[]⟩,0,[]⟩)with
  | none=>none
  | some l=>match A2x ok v l with
   | none=>none
   | some w=>A4b r w (p++[k])
end
def A1r (ok:Int->Int->Bool) (a b:Mr):Option (List Nat):=
 if a.rels.length≠b.rels.length\/a.cons.length≠b.cons.length\/a.vars.length≠b.vars.length then none else
 match A2x ok (List.replicate a.vars.length (-1)) [(a.top,b.top),(a.index,b.index)]with
 | none=>none
 | some w=>A4b ok b.cons a.cons b.rels a.rels w []
structure PMv (ok:Int->Int->Bool) (n:Nat) (v:List Int):Prop where
 len:v.length=n
 rng:∀x,inR n x->bnd v x = -1\/inR n (bnd v x)
 inj:∀x y,inR n x->inR n y->0<=bnd v x->bnd v x=bnd v y->x=y
 ok:∀x,inR n x->0<=bnd v x->ok x (bnd v x)=true
def Lev (n:Nat) (v w:List Int):Prop:=∀x,inR n x->0<=bnd v x->bnd w x=bnd v x
theorem Lev.refl (n:Nat) (v:List Int):Lev n v v:=fun _ _ _=>rfl
theorem Lev.trans {n:Nat} {u v w:List Int} (h:Lev n u v) (k:Lev n v w):Lev n u w:=fun x hx h0=>by
 have h1:=h x hx h0;rw[k x hx (by omega),h1]
theorem D4v {n:Nat} {v:List Int} (hl:v.length=n) {x y z:Int} (hx:inR n x) (hz:inR n z):bnd (v.set x.toNat y) z=if z=x then y else bnd v z:=by
 unfold bnd;rw[List.getD_eq_getElem?_getD,List.getD_eq_getElem?_getD,List.getElem?_set];have h1:=hx.1;have h2:=hx.2;have h3:=hz.1;have h4:=hz.2;by_cases e:z=x
 ·subst e;rw[if_pos rfl,if_pos rfl,if_pos (by omega)];rfl
 ·rw[if_neg (by omega),if_neg e]
theorem E6s {n:Nat} {v:List Int} (hl:v.length=n) {x:Int} (hx:inR n x):bnd v x∈v:=by
 unfold bnd;have h1:=hx.1;have h2:=hx.2;rw[List.getD_eq_getElem?_getD,List.getElem?_eq_getElem (by omega),Option.getD_some];exact List.getElem_mem _
theorem F6t {n:Nat} {v:List Int} (hl:v.length=n) {y:Int} (hy:y∈v):∃x,inR n x/\bnd v x=y:=by
 obtain⟨i,hi⟩:=List.getElem?_of_mem hy;have hlt:=(List.getElem?_eq_some_iff.1 hi).1;refine⟨i,⟨by omega,by omega⟩,?_⟩;unfold bnd;rw[List.getD_eq_getElem?_getD,Int.toNat_natCast,hi];rfl
section
variable {ok : Int -> Int -> Bool} {n : Nat}
theorem C7c {v w:List Int} {x y:Int} (h:PMv ok n v) (hx:inR n x) (hy:inR n y) (e:A4a ok v x y=some w):PMv ok n w/\Lev n v w/\bnd w x=y:=by
 unfold A4a at e;split at e
 ·rename_i hb;injection e with e;subst e;exact⟨h,Lev.refl _ _,hb⟩
 split at e
 ·cases e
 rename_i h1 h2;injection e with e;subst e;have h2a:¬0<=bnd v x:=fun k=>h2 (.inl k);have h2b:y∉v:=fun k=>h2 (.inr (.inl k))
 have h2c:ok x y=true:=by
  cases ho:ok x y with
  | true=>rfl
  | false=>exact absurd (.inr (.inr ho)) h2
 have hb:=fun z hz=>D4v h.len (y:=y) hx (z:=z) hz;refine⟨⟨by rw[List.length_set];exact h.len,fun z hz=>?_,fun z u hz hu h0 e=>?_,fun z hz h0=>?_⟩,fun z hz h0=>?_,?_⟩
 ·rw[hb z hz];split
  ·exact .inr hy
  ·exact h.rng z hz
 ·rw[hb z hz]at h0 e;rw[hb u hu]at e;by_cases e1:z=x
  ·by_cases e2:u=x
   ·rw[e1,e2]
   ·rw[if_pos e1,if_neg e2]at e;exact absurd (e▸E6s h.len hu) h2b
  ·by_cases e2:u=x
   ·rw[if_neg e1,if_pos e2]at e;exact absurd (e▸E6s h.len hz) h2b
   ·rw[if_neg e1,if_neg e2]at e;rw[if_neg e1]at h0;exact h.inj z u hz hu h0 e
 ·rw[hb z hz]at h0 ⊢;split
  ·rename_i e1;rw[e1];exact h2c
  ·rename_i e1;rw[if_neg e1]at h0;exact h.ok z hz h0
 ·rw[hb z hz,if_neg];intro e1;subst e1;exact h2a h0
 ·rw[hb x hx,if_pos rfl]
theorem A4m:∀{l:List (Int×Int)} {v w:List Int},PMv ok n v->(∀p∈l,inR n p.1/\inR n p.2)->A2x ok v l=some w->PMv ok n w/\Lev n v w/\∀p∈l,bnd w p.1=p.2
 | [],v,w,h,_,e=>by cases e;exact⟨h,Lev.refl _ _,fun p hp=>by cases hp⟩
 | p::r,v,w,h,hl,e=>by
  rw[A2x]at e
  cases hb:A4a ok v p.1 p.2 with
  | none=>rw[hb]at e;cases e
  | some u=>
   rw[hb]at e;obtain⟨h1,h2,h3⟩:=C7c h (hl p (by simp)).1 (hl p (by simp)).2 hb;obtain⟨h4,h5,h6⟩:=A4m h1 (fun q hq=>hl q (by simp[hq])) e;refine⟨h4,h2.trans h5,fun q hq=>?_⟩;rcases List.mem_cons.1 hq with rfl | hq
   ·have:=(hl q (by simp)).2.1;rw[h5 _ (hl q (by simp)).1 (by omega),h3]
   ·exact h6 q hq
structure Good (ok:Int->Int->Bool) (n:Nat) (σ:Int->Int):Prop where
 rng:∀x,inR n x->inR n (σ x)
 inj:∀x y,inR n x->inR n y->σ x=σ y->x=y
 ok:∀x,inR n x->ok x (σ x)=true
def Says (n:Nat) (v:List Int) (σ:Int->Int):Prop:=∀x,inR n x->0<=bnd v x->σ x=bnd v x
theorem E2v {σ:Int->Int} (hg:Good ok n σ) {v:List Int} (hl:v.length=n) (hr:∀x,inR n x->bnd v x = -1\/inR n (bnd v x)) (he:Says n v σ) {x:Int} (hx:inR n x) :
  ∃w,A4a ok v x (σ x)=some w/\w.length=n/\(∀x,inR n x->bnd w x = -1\/inR n (bnd w x))/\Says n w σ:=by
 unfold A4a;by_cases hb:bnd v x=σ x
 ·rw[if_pos hb];exact⟨v,rfl,hl,hr,he⟩
 rw[if_neg hb];have h0:¬0<=bnd v x:=fun h=>hb (he x hx h).symm
 have hm:σ x∉v:=fun h=>by
  obtain⟨z,hz,e⟩:=F6t hl h;have h1:=(hg.rng x hx).1;have:=he z hz (by omega);have:=hg.inj z x hz hx (by omega);subst this;exact hb e
 rw[if_neg (by rintro(h | h | h);exact h0 h;exact hm h;rw[hg.ok x hx]at h;cases h)];refine⟨_,rfl,by rw[List.length_set];exact hl,fun z hz=>?_,fun z hz h=>?_⟩
 ·rw[D4v hl hx hz];split
  ·exact .inr (hg.rng x hx)
  ·exact hr z hz
 ·rw[D4v hl hx hz]at h ⊢;split
  ·rename_i e;rw[e]
  ·rename_i e;rw[if_neg e]at h;exact he z hz h
theorem B2h {σ:Int->Int} (hg:Good ok n σ):∀{l:List (Int×Int)} {v:List Int},v.length=n->(∀x,inR n x->bnd v x = -1\/inR n (bnd v x))->Says n v σ->(∀p∈l,inR n p.1/\σ p.1=p.2) ->
  ∃w,A2x ok v l=some w/\w.length=n/\(∀x,inR n x->bnd w x = -1\/inR n (bnd w x))/\Says n w σ
 | [],v,hl,hr,he,_=>⟨v,rfl,hl,hr,he⟩
 | p::r,v,hl,hr,he,hp=>by
  obtain⟨h1,h2⟩:=hp p (by simp);obtain⟨u,e1,a1,a2,a3⟩:=E2v hg hl hr he h1;obtain⟨w,e2,b1,b2,b3⟩:=B2h (l:=r) hg a1 a2 a3 (fun q hq=>hp q (by simp[hq]));refine⟨w,?_,b1,b2,b3⟩;rw[A2x,<-h2,e1];exact e2
theorem E2w {ok':Int->Int->Bool} (hle:∀x y,ok' x y=true->ok x y=true) {v w:List Int} {x y:Int} (h:A4a ok' v x y=some w):A4a ok v x y=some w:=by
 unfold A4a at h ⊢;split at h
 ·rename_i hb;rw[if_pos hb];exact h
 ·rename_i hb;rw[if_neg hb];split at h
  ·cases h
  ·rename_i h2;rw[if_neg]
   ·exact h
   ·rintro(k | k | k)
    ·exact h2 (.inl k)
    ·exact h2 (.inr (.inl k))
    ·refine h2 (.inr (.inr ?_))
     cases ho:ok' x y with
     | false=>rfl
     | true=>rw[hle x y ho]at k;cases k
theorem B2i {ok':Int->Int->Bool} (hle:∀x y,ok' x y=true->ok x y=true):∀{l:List (Int×Int)} {v w:List Int},A2x ok' v l=some w->A2x ok v l=some w
 | [],v,w,h=>h
 | p::r,v,w,h=>by
  rw[A2x]at h ⊢
  cases hb:A4a ok' v p.1 p.2 with
  | none=>rw[hb]at h;cases h
  | some u=>
   rw[hb]at h;rw[E2w hle hb];exact B2i hle h
theorem B2j {ok':Int->Int->Bool}:∀{l:List (Int×Int)} {v w:List Int},PMv ok n v->(∀p∈l,inR n p.1/\inR n p.2)->A2x ok v l=some w->A2x ok' v l=none->∃p∈l,ok' p.1 p.2=false
 | [],v,w,_,_,h,k=>by cases k
 | p::r,v,w,hv,hl,h,k=>by
  rw[A2x]at h k
  cases hb:A4a ok v p.1 p.2 with
  | none=>rw[hb]at h;cases h
  | some u=>
   rw[hb]at h
   cases hb':A4a ok' v p.1 p.2 with
   | none=>
    refine⟨p,by simp,?_⟩;unfold A4a at hb hb';split at hb'
    ·cases hb'
    ·rename_i h1;rw[if_neg h1]at hb;split at hb
     ·cases hb
     ·rename_i h2;split at hb'
      ·rename_i h3;rcases h3 with h3 | h3 | h3
       ·exact absurd (.inl h3) h2
       ·exact absurd (.inr (.inl h3)) h2
       ·exact h3
      ·cases hb'
   | some u'=>
    rw[hb']at k
    have:u'=u:=by
     unfold A4a at hb hb';split at hb'
     ·rename_i h1;rw[if_pos h1]at hb;injection hb with hb;injection hb' with hb';rw[<-hb,<-hb']
     ·rename_i h1;rw[if_neg h1]at hb;split at hb
      ·cases hb
      ·split at hb'
       ·cases hb'
       ·injection hb with hb;injection hb' with hb';rw[<-hb,<-hb']
    subst this;obtain⟨h1,_,_⟩:=C7c hv (hl p (by simp)).1 (hl p (by simp)).2 hb;obtain⟨q,hq,hf⟩:=B2j h1 (fun q hq=>hl q (by simp[hq])) h k;exact⟨q,by simp[hq],hf⟩
end
inductive All2 {α β:Type} (R:α->β->Prop):List α->List β->Prop
 | nil:All2 R [] []
 | cons {a:α} {b:β} {l:List α} {m:List β}:R a b->All2 R l m->All2 R (a::l) (b::m)
theorem All2.mono {α β:Type} {R S:α->β->Prop} (h:∀a b,R a b->S a b) {l:List α} {m:List β} (k:All2 R l m):All2 S l m:=by
 induction k with
 | nil=>exact .nil
 | cons h1 _ ih=>exact .cons (h _ _ h1) ih
theorem All2.len {α β:Type} {R:α->β->Prop} {l:List α} {m:List β} (k:All2 R l m):l.length=m.length:=by
 induction k with
 | nil=>rfl
 | cons _ _ ih=>simp[ih]
theorem All2.left {α β:Type} {R:α->β->Prop} {l:List α} {m:List β} (k:All2 R l m):∀a∈l,∃b∈m,R a b:=by
 induction k with
 | nil=>intro a ha;cases ha
 | cons h1 _ ih=>
  intro a ha;rcases List.mem_cons.1 ha with rfl | ha
  ·exact⟨_,by simp,h1⟩
  ·obtain⟨b,hb,hr⟩:=ih a ha;exact⟨b,by simp[hb],hr⟩
theorem D8i {α:Type} {f g:α->Bool}:∀{l:List α},(∀x∈l,f x=g x)->l.any f=l.any g
 | [],_=>rfl
 | a::l,h=>by rw[List.any_cons,List.any_cons,h a (by simp),D8i fun x hx=>h x (by simp[hx])]
theorem B5l {α β:Type} {f g:α->Option β}:∀{l:List α},(∀x∈l,f x=g x)->l.findSome? f=l.findSome? g
 | [],_=>rfl
 | a::l,h=>by rw[List.findSome?_cons,List.findSome?_cons,h a (by simp),B5l fun x hx=>h x (by simp[hx])]
def RelB (br:List Ep) (w:List Int) (x:Ep) (k:Nat):Prop:=k<br.length/\∃l,A4i x (br.getD k ⟨⟨#[]⟩,0,[]⟩)=some l/\∀p∈l,bnd w p.1=p.2
def ConB (bc:List Qq) (w:List Int) (c:Qq) (k:Nat):Prop:=k<bc.length/\∀p∈A5r c (bc.getD k ⟨0,0⟩),bnd w p.1=p.2
def inE (n:Nat) (x:Ep):Prop:=∀v∈occE x,inR n v
def inQ (n:Nat) (c:Qq):Prop:=∀v∈occC c,inR n v
theorem A7f {α:Type} {l:List α} {k:Nat} (d:α) (h:k<l.length):l.getD k d∈l:=by
 rw[List.getD_eq_getElem?_getD,List.getElem?_eq_getElem h,Option.getD_some];exact List.getElem_mem _
theorem B9l {n:Nat} {c d:Qq} (hc:inQ n c) (hd:inQ n d):∀p∈A5r c d,inR n p.1/\inR n p.2:=by
 intro p hp;simp only[A5r,List.mem_cons,List.not_mem_nil,or_false]at hp;rcases hp with rfl | rfl
 ·exact⟨hc _ (by simp[occC]),hd _ (by simp[occC])⟩
 ·exact⟨hc _ (by simp[occC]),hd _ (by simp[occC])⟩
theorem B9m {n:Nat} {x y:Ep} {l:List (Int×Int)} (hx:inE n x) (hy:inE n y) (h:A4i x y=some l):∀p∈l,inR n p.1/\inR n p.2:=by
 intro p hp;unfold A4i at h;split at h
 ·injection h with h;subst h;rcases List.mem_cons.1 hp with rfl | hp
  ·exact⟨hx _ (by simp[occE]),hy _ (by simp[occE])⟩
  ·obtain⟨h1,h2⟩:=List.of_mem_zip (show(p.1,p.2)∈_ from hp);exact⟨hx _ (by simp only[occE,List.mem_cons];exact .inr h1),hy _ (by simp only[occE,List.mem_cons];exact .inr h2)⟩
 ·cases h
theorem E6t {x y:Ep} {l:List (Int×Int)} (h:A4i x y=some l):∀v∈occE x,∃p∈l,p.1=v:=by
 intro v hv;unfold A4i at h;split at h
 ·rename_i hc;injection h with h;subst h;rcases List.mem_cons.1 hv with rfl | hv
  ·exact⟨_,List.mem_cons_self,rfl⟩
  ·obtain⟨i,hi⟩:=List.getElem?_of_mem hv
   have hl:(x.args.map (·.var)).length=(y.args.map (·.var)).length:=by
    have:=congrArg List.length hc.2;simpa using this
   have hlt:=(List.getElem?_eq_some_iff.1 hi).1;refine⟨((x.args.map (·.var))[i],(y.args.map (·.var))[i]'(by omega)),List.mem_cons_of_mem _ ?_,by rw[(List.getElem?_eq_some_iff.1 hi).2]⟩
   have:((x.args.map (·.var)).zip (y.args.map (·.var)))[i]?=some ((x.args.map (·.var))[i],(y.args.map (·.var))[i]'(by omega)):=by
    rw[List.getElem?_zip_eq_some];exact⟨List.getElem?_eq_getElem hlt,List.getElem?_eq_getElem (by omega)⟩
   exact List.mem_of_getElem? this
 ·cases h
theorem E6u {x y:Ep} {l:List (Int×Int)} {σ:Int->Int} (h:A4i x y=some l) (hb:∀p∈l,σ p.1=p.2):mapE σ x=y:=by
 unfold A4i at h;split at h
 ·rename_i hc;injection h with h;subst h;obtain⟨p,lb,as⟩:=x;obtain⟨p',lb',as'⟩:=y;simp only at hc hb ⊢;have h1:σ lb=lb':=hb (lb,lb') (by simp);have h2:∀p∈(as.map (·.var)).zip (as'.map (·.var)),σ p.1=p.2:=fun p hp=>hb p (by simp[hp])
  have key:∀(as as':List Ag),as.map (·.role)=as'.map (·.role)->(∀p∈(as.map (·.var)).zip (as'.map (·.var)),σ p.1=p.2)->as.map (fun a=>(⟨a.role,σ a.var⟩:Ag))=as':=by
   intro as
   induction as with
   | nil=>intro as' h _;cases as' with
    | nil=>rfl
    | cons _ _=>cases h
   | cons a as ih=>
    intro as' h hb
    cases as' with
    | nil=>cases h
    | cons b as'=>
     simp only[List.map_cons]at h hb ⊢;injection h with h1 h2;rw[ih as' h2 fun p hp=>hb p (by simp only[List.zip_cons_cons,List.mem_cons];exact .inr hp)];have:=hb (a.var,b.var) (by simp);obtain⟨r,v⟩:=b;simp only at this h1 ⊢;rw[this,h1]
  unfold mapE;simp only;rw[hc.1,h1,key as as' hc.2 h2]
 ·cases h
theorem F2o {x y:Ep} {σ:Int->Int} (h:mapE σ x=y):∃l,A4i x y=some l/\∀p∈l,σ p.1=p.2:=by
 subst h;unfold A4i mapE;simp only[List.map_map];rw[if_pos ⟨trivial,rfl⟩];refine⟨_,rfl,fun p hp=>?_⟩;rcases List.mem_cons.1 hp with rfl | hp
 ·rfl
 ·have key:∀(as:List Ag) p,p∈(as.map (·.var)).zip (as.map ((fun a:Ag=>a.var)∘fun a:Ag=>(⟨a.role,σ a.var⟩:Ag)))->σ p.1=p.2:=by
   intro as
   induction as with
   | nil=>intro p hp;simp at hp
   | cons a as ih=>
    intro p hp;simp only[List.map_cons,List.zip_cons_cons,List.mem_cons]at hp;rcases hp with rfl | hp
    ·rfl
    ·exact ih p hp
  exact key x.args p (by simpa[List.map_map]using hp)
section
variable {ok : Int -> Int -> Bool} {n : Nat} {bc ac : List Qq} {br : List Ep}
theorem A5f {v w:List Int} (h:Lev n v w) {l:List (Int×Int)} (hl:∀p∈l,inR n p.1/\inR n p.2) (hb:∀p∈l,bnd v p.1=p.2):∀p∈l,bnd w p.1=p.2:=fun p hp=>by
 have h1:=hl p hp;have h2:=hb p hp;have:=h1.2.1;rw[h p.1 h1.1 (by omega),h2]
theorem C7d (hbc:∀c∈bc,inQ n c):∀{l:List Qq} {v:List Int} {used:List Nat},(∀c∈l,inQ n c)->PMv ok n v->A4r ok bc l v used=true ->
  ∃ks w,All2 (ConB bc w) l ks/\ks.Nodup/\(∀k∈ks,k∉used)/\PMv ok n w/\Lev n v w
 | [],v,used,_,hv,_=>⟨[],v,.nil,List.nodup_nil,fun k hk=>(by cases hk),hv,Lev.refl _ _⟩
 | c::r,v,used,hl,hv,h=>by
  rw[A4r,List.any_eq_true]at h;obtain⟨k,hk,h⟩:=h;have hk:=List.mem_range.1 hk;split at h
  ·cases h
  rename_i hu;split at h
  ·rename_i w1 hb;have hin:=B9l (hl c (by simp)) (hbc _ (A7f ⟨0,0⟩ hk));obtain⟨h1,h2,h3⟩:=A4m hv hin hb;obtain⟨ks,w,i1,i2,i3,i4,i5⟩:=C7d hbc (fun d hd=>hl d (by simp[hd])) h1 h;refine⟨k::ks,w,.cons ⟨hk,A5f i5 hin h3⟩ i1,List.nodup_cons.2 ⟨fun e=>i3 k e (by simp),i2⟩,fun j hj=>?_,i4,h2.trans i5⟩;rcases List.mem_cons.1 hj with rfl | hj
   ·exact hu
   ·exact fun e=>i3 j hj (by simp[e])
  ·cases h
theorem B9n (hbc:∀c∈bc,inQ n c) (hac:∀c∈ac,inQ n c) (hbr:∀x∈br,inE n x):∀{l:List Ep} {v:List Int} {p q:List Nat},(∀x∈l,inE n x)->PMv ok n v->A4b ok bc ac br l v p=some q ->
  ∃ks w cs,q=p++ks/\All2 (RelB br w) l ks/\ks.Nodup/\(∀k∈ks,k∉p)/\PMv ok n w/\Lev n v w/\All2 (ConB bc w) ac cs/\cs.Nodup
 | [],v,p,q,_,hv,h=>by
  rw[A4b]at h;split at h
  ·rename_i hc;injection h with h;obtain⟨cs,w,i1,i2,_,i4,i5⟩:=C7d hbc hac hv hc;exact⟨[],w,cs,by simp[h],.nil,List.nodup_nil,fun k hk=>(by cases hk),i4,i5,i1,i2⟩
  ·cases h
 | x::r,v,p,q,hl,hv,h=>by
  rw[A4b]at h;obtain⟨k,hk,h⟩:=List.exists_of_findSome?_eq_some h;have hk:=List.mem_range.1 hk;split at h
  ·cases h
  rename_i hu;split at h
  ·cases h
  rename_i l hp;split at h
  ·cases h
  rename_i w1 hb;have hin:=B9m (hl x (by simp)) (hbr _ (A7f _ hk)) hp;obtain⟨h1,h2,h3⟩:=A4m hv hin hb;obtain⟨ks,w,cs,i0,i1,i2,i3,i4,i5,i6,i7⟩:=B9n hbc hac hbr (fun y hy=>hl y (by simp[hy])) h1 h;refine⟨k::ks,w,cs,by rw[i0];simp,.cons ⟨hk,l,hp,A5f i5 hin h3⟩ i1,List.nodup_cons.2 ⟨fun e=>i3 k e (by simp),i2⟩,fun j hj=>?_,i4,h2.trans i5,i6,i7⟩;rcases List.mem_cons.1 hj with rfl | hj
  ·exact hu
  ·exact fun e=>i3 j hj (by simp[e])
theorem C5a {σ:Int->Int} (hg:Good ok n σ):∀{l:List Qq} {v:List Int} {used ks:List Nat},(∀c∈l,inQ n c)->v.length=n->(∀x,inR n x->bnd v x = -1\/inR n (bnd v x))->Says n v σ ->
  All2 (fun c k=>k<bc.length/\mapQ σ c=bc.getD k ⟨0,0⟩) l ks->ks.Nodup->(∀k∈ks,k∉used)->A4r ok bc l v used=true
 | [],v,used,ks,_,_,_,_,_,_,_=>rfl
 | c::r,v,used,ks,hl,hv,hr,he,h,hn,hu=>by
  cases h with
  | cons h1 h2=>
   rename_i k ks;obtain⟨g1,g2⟩:=h1;rw[A4r,List.any_eq_true];refine⟨k,List.mem_range.2 g1,?_⟩;rw[if_neg (hu k (by simp))]
   have hp:∀p∈A5r c (bc.getD k ⟨0,0⟩),inR n p.1/\σ p.1=p.2:=by
    rw[<-g2];intro p hp;simp only[A5r,mapQ,List.mem_cons,List.not_mem_nil,or_false]at hp;rcases hp with rfl | rfl
    ·exact⟨hl c (by simp) _ (by simp[occC]),rfl⟩
    ·exact⟨hl c (by simp) _ (by simp[occC]),rfl⟩
   obtain⟨w,e,a1,a2,a3⟩:=B2h hg hv hr he hp;rw[e];obtain⟨n1,n2⟩:=List.nodup_cons.1 hn;refine C5a hg (fun d hd=>hl d (by simp[hd])) a1 a2 a3 h2 n2 fun j hj e=>?_;rcases List.mem_cons.1 e with rfl | e
   ·exact n1 hj
   ·exact hu j (by simp[hj]) e
theorem C5b {σ:Int->Int} (hg:Good ok n σ) (hac:∀c∈ac,inQ n c) {cs:List Nat} (hcs:All2 (fun c k=>k<bc.length/\mapQ σ c=bc.getD k ⟨0,0⟩) ac cs) (hcn:cs.Nodup) :
  ∀{l:List Ep} {v:List Int} {p ks:List Nat},(∀x∈l,inE n x)->v.length=n->(∀x,inR n x->bnd v x = -1\/inR n (bnd v x))->Says n v σ ->
  All2 (fun x k=>k<br.length/\mapE σ x=br.getD k ⟨⟨#[]⟩,0,[]⟩) l ks->ks.Nodup->(∀k∈ks,k∉p)->(A4b ok bc ac br l v p).isSome=true
 | [],v,p,ks,_,hv,hr,he,_,_,_=>by
  rw[A4b,C5a hg hac hv hr he hcs hcn (fun _ _ h=>by cases h)];rfl
 | x::r,v,p,ks,hl,hv,hr,he,h,hn,hu=>by
  cases h with
  | cons h1 h2=>
   rename_i k ks;obtain⟨g1,g2⟩:=h1;rw[A4b,List.findSome?_isSome_iff];refine⟨k,List.mem_range.2 g1,?_⟩;rw[if_neg (hu k (by simp))];obtain⟨l,hp1,hp2⟩:=F2o g2;rw[hp1]
   have hp:∀p∈l,inR n p.1/\σ p.1=p.2:=fun p hp=>by
    refine⟨?_,hp2 p hp⟩;unfold A4i at hp1;split at hp1
    ·injection hp1 with hp1;subst hp1;rcases List.mem_cons.1 hp with rfl | hp
     ·exact hl x (by simp) _ (by simp[occE])
     ·obtain⟨h1,_⟩:=List.of_mem_zip (show(p.1,p.2)∈_ from hp);exact hl x (by simp) _ (by simp only[occE,List.mem_cons];exact .inr h1)
    ·cases hp1
   obtain⟨w,e,a1,a2,a3⟩:=B2h hg hv hr he hp;simp only;rw[e];obtain⟨n1,n2⟩:=List.nodup_cons.1 hn;refine C5b hg hac hcs hcn (fun d hd=>hl d (by simp[hd])) a1 a2 a3 h2 n2 fun j hj e=>?_;rcases List.mem_append.1 e with e | e
   ·exact hu j (by simp[hj]) e
   ·rw[List.mem_singleton.1 e]at hj;exact n1 hj
theorem D8j {ok':Int->Int->Bool} (hle:∀x y,ok' x y=true->ok x y=true) (hbc:∀c∈bc,inQ n c):∀{l:List Qq} {v:List Int} {used:List Nat},(∀c∈l,inQ n c)->PMv ok n v->PMv ok' n v ->
  (∀ks w,All2 (ConB bc w) l ks->ks.Nodup->(∀k∈ks,k∉used)->PMv ok n w->Lev n v w->∀x,inR n x->0<=bnd w x->ok' x (bnd w x)=true)->A4r ok' bc l v used=A4r ok bc l v used
 | [],v,used,_,_,_,_=>rfl
 | c::r,v,used,hl,hv,hv',H=>by
  rw[A4r,A4r];refine D8i fun k hk=>?_;have hk:=List.mem_range.1 hk;by_cases hu:k∈used
  ·rw[if_pos hu,if_pos hu]
  rw[if_neg hu,if_neg hu];have hin:=B9l (hl c (by simp)) (hbc _ (A7f ⟨0,0⟩ hk))
  cases hb':A2x ok' v (A5r c (bc.getD k ⟨0,0⟩))with
  | some w=>
   have hb:=B2i hle hb';rw[hb];obtain⟨h1,h2,h3⟩:=A4m hv hin hb;obtain⟨h1',_,_⟩:=A4m hv' hin hb';refine D8j hle hbc (fun d hd=>hl d (by simp[hd])) h1 h1' fun ks w' a1 a2 a3 a4 a5=>?_
   exact H (k::ks) w' (.cons ⟨hk,A5f a5 hin h3⟩ a1) (List.nodup_cons.2 ⟨fun e=>a3 k e (by simp),a2⟩) (fun j hj=>by
    rcases List.mem_cons.1 hj with rfl | hj
    ·exact hu
    ·exact fun e=>a3 j hj (by simp[e])) a4 (h2.trans a5)
  | none=>
   cases hb:A2x ok v (A5r c (bc.getD k ⟨0,0⟩))with
   | none=>rfl
   | some u=>
    simp only;obtain⟨p,hp,hf⟩:=B2j hv hin hb hb';obtain⟨h1,h2,h3⟩:=A4m hv hin hb
    cases hc:A4r ok bc r u (k::used)with
    | false=>rfl
    | true=>
     obtain⟨ks,w,a1,a2,a3,a4,a5⟩:=C7d hbc (fun d hd=>hl d (by simp[hd])) h1 hc;have hq:=A5f a5 hin h3
     have:=H (k::ks) w (.cons ⟨hk,hq⟩ a1) (List.nodup_cons.2 ⟨fun e=>a3 k e (by simp),a2⟩) (fun j hj=>by
      rcases List.mem_cons.1 hj with rfl | hj
      ·exact hu
      ·exact fun e=>a3 j hj (by simp[e])) a4 (h2.trans a5) p.1 (hin p hp).1 (by rw[hq p hp];exact(hin p hp).2.1)
     rw[hq p hp,hf]at this;cases this
theorem D8k {ok':Int->Int->Bool} (hle:∀x y,ok' x y=true->ok x y=true) (hbc:∀c∈bc,inQ n c) (hac:∀c∈ac,inQ n c) (hbr:∀x∈br,inE n x):∀{l:List Ep} {v:List Int} {p:List Nat},(∀x∈l,inE n x)->PMv ok n v->PMv ok' n v ->
  (∀ks w cs,All2 (RelB br w) l ks->ks.Nodup->(∀k∈ks,k∉p)->PMv ok n w->Lev n v w->All2 (ConB bc w) ac cs->cs.Nodup->∀x,inR n x->0<=bnd w x->ok' x (bnd w x)=true)->A4b ok' bc ac br l v p=A4b ok bc ac br l v p
 | [],v,p,_,hv,hv',H=>by
  rw[A4b,A4b,D8j hle hbc hac hv hv' fun ks w a1 a2 _ a4 a5=>H [] w ks .nil List.nodup_nil (fun k hk=>by cases hk) a4 a5 a1 a2]
 | x::r,v,p,hl,hv,hv',H=>by
  rw[A4b,A4b];refine B5l fun k hk=>?_;have hk:=List.mem_range.1 hk;by_cases hu:k∈p
  ·rw[if_pos hu,if_pos hu]
  rw[if_neg hu,if_neg hu]
  cases hp:A4i x (br.getD k ⟨⟨#[]⟩,0,[]⟩)with
  | none=>rfl
  | some l=>
  simp only;have hin:=B9m (hl x (by simp)) (hbr _ (A7f _ hk)) hp
  cases hb':A2x ok' v l with
  | some w=>
   have hb:=B2i hle hb';rw[hb];obtain⟨h1,h2,h3⟩:=A4m hv hin hb;obtain⟨h1',_,_⟩:=A4m hv' hin hb';refine D8k hle hbc hac hbr (fun d hd=>hl d (by simp[hd])) h1 h1' fun ks w' cs a1 a2 a3 a4 a5 a6 a7=>?_
   exact H (k::ks) w' cs (.cons ⟨hk,l,hp,A5f a5 hin h3⟩ a1) (List.nodup_cons.2 ⟨fun e=>a3 k e (by simp),a2⟩) (fun j hj=>by
    rcases List.mem_cons.1 hj with rfl | hj
    ·exact hu
    ·exact fun e=>a3 j hj (by simp[e])) a4 (h2.trans a5) a6 a7
  | none=>
   cases hb:A2x ok v l with
   | none=>rfl
   | some u=>
    simp only;obtain⟨pr,hpr,hf⟩:=B2j hv hin hb hb';obtain⟨h1,h2,h3⟩:=A4m hv hin hb
    cases hc:A4b ok bc ac br r u (p++[k])with
    | none=>rfl
    | some q=>
     obtain⟨ks,w,cs,_,a1,a2,a3,a4,a5,a6,a7⟩:=B9n hbc hac hbr (fun d hd=>hl d (by simp[hd])) h1 hc;have hq:=A5f a5 hin h3
     have:=H (k::ks) w cs (.cons ⟨hk,l,hp,hq⟩ a1) (List.nodup_cons.2 ⟨fun e=>a3 k e (by simp),a2⟩) (fun j hj=>by
      rcases List.mem_cons.1 hj with rfl | hj
      ·exact hu
      ·exact fun e=>a3 j hj (by simp[e])) a4 (h2.trans a5) a6 a7 pr.1 (hin pr hpr).1 (by rw[hq pr hpr];exact(hin pr hpr).2.1)
     rw[hq pr hpr,hf]at this;cases this
end
def A1l (a b:Mr) (x y:Int):Bool:=decide (a.vars.getD x.toNat ⟨#[]⟩=b.vars.getD y.toNat ⟨#[]⟩)
def full (m:Mr):Prop:=∀x,inR m.vars.length x->x∈occ m
theorem okV.inE {m:Mr} (h:okV m):∀x∈m.rels,inE m.vars.length x:=fun _ hx _ hv=>h.rel hx hv
theorem okV.inQ {m:Mr} (h:okV m):∀c∈m.cons,inQ m.vars.length c:=fun _ hc _ hv=>h.con hc hv
theorem B1g (ok:Int->Int->Bool) (n:Nat):PMv ok n (List.replicate n (-1)):=by
 have hb:∀x,inR n x->bnd (List.replicate n (-1)) x = -1:=fun x hx=>by
  unfold bnd;have h1:=hx.1;have h2:=hx.2;rw[List.getD_eq_getElem?_getD,List.getElem?_replicate,if_pos (by omega)];rfl
 exact⟨by simp,fun x hx=>.inl (hb x hx),fun x y hx _ h _=>by rw[hb x hx]at h;omega,fun x hx h=>by rw[hb x hx]at h;omega⟩
theorem E6v (n:Nat) (σ:Int->Int):Says n (List.replicate n (-1)) σ:=fun x hx h=>by
 rcases (B1g (fun _ _=>true) n).rng x hx with h1 | h1
 ·omega
 ·have:=h1.1;exfalso;unfold bnd at h;have h1:=hx.1;have h2:=hx.2;rw[List.getD_eq_getElem?_getD,List.getElem?_replicate,if_pos (by omega)]at h;simp at h
structure Sol (ok:Int->Int->Bool) (a b:Mr) (p:List Nat) (w:List Int):Prop where
 vl:a.vars.length=b.vars.length
 rl:a.rels.length=b.rels.length
 cl:a.cons.length=b.cons.length
 pm:PMv ok a.vars.length w
 top:bnd w a.top=b.top
 index:bnd w a.index=b.index
 rels:All2 (RelB b.rels w) a.rels p
 nd:p.Nodup
 cons:∃cs:List Nat,All2 (ConB b.cons w) a.cons cs/\cs.Nodup
section
variable {a b : Mr} {ok : Int -> Int -> Bool}
theorem B1h (ha:okV a) (hb:okV b) {p:List Nat} (h:A1r ok a b=some p):∃w,Sol ok a b p w:=by
 unfold A1r at h;split at h
 ·cases h
 rename_i hl
 have h1:a.rels.length=b.rels.length:=by
  by_cases e:a.rels.length=b.rels.length
  ·exact e
  ·exact absurd (.inl e) hl
 have h2:a.cons.length=b.cons.length:=by
  by_cases e:a.cons.length=b.cons.length
  ·exact e
  ·exact absurd (.inr (.inl e)) hl
 have h3:a.vars.length=b.vars.length:=by
  by_cases e:a.vars.length=b.vars.length
  ·exact e
  ·exact absurd (.inr (.inr e)) hl
 split at h
 ·cases h
 rename_i w hw
 have hin:∀q∈[(a.top,b.top),(a.index,b.index)],inR a.vars.length q.1/\inR a.vars.length q.2:=by
  intro q hq;simp only[List.mem_cons,List.not_mem_nil,or_false]at hq;rcases hq with rfl | rfl
  ·exact⟨ha.top,by rw[h3];exact hb.top⟩
  ·exact⟨ha.index,by rw[h3];exact hb.index⟩
 obtain⟨g1,g2,g3⟩:=A4m (B1g ok _) hin hw;have hb1:=hb.inE;have hb2:=hb.inQ;rw[<-h3]at hb1 hb2;obtain⟨ks,w2,cs,i0,i1,i2,i3,i4,i5,i6,i7⟩:=B9n hb2 ha.inQ hb1 ha.inE g1 h;rw[List.nil_append]at i0;subst i0;have g4:=A5f i5 hin g3;exact⟨w2,h3,h1,h2,i4,g4 (a.top,b.top) (by simp),g4 (a.index,b.index) (by simp),i1,i2,cs,i6,i7⟩
theorem D0x {α β:Type} {f:α->β} {m:List β} {l:List α} {ks:List Nat} {d:β} (h:All2 (fun x k=>k<m.length/\f x=m.getD k d) l ks):pick m ks=(l.map f).map some:=by
 unfold pick
 induction h with
 | nil=>rfl
 | cons h1 _ ih=>
  obtain⟨h2,h3⟩:=h1;rw[List.map_cons,List.map_cons,List.map_cons,ih,h3,List.getD_eq_getElem?_getD,List.getElem?_eq_getElem h2];rfl
theorem Sol.relE {p:List Nat} {w:List Int} (h:Sol ok a b p w):All2 (fun x k=>k<b.rels.length/\mapE (bnd w) x=b.rels.getD k ⟨⟨#[]⟩,0,[]⟩) a.rels p:=
 h.rels.mono fun x k ⟨h1,l,h2,h3⟩=>⟨h1,E6u h2 h3⟩
theorem E6w {c d:Qq} {w:List Int} (h:∀p∈A5r c d,bnd w p.1=p.2):mapQ (bnd w) c=d:=by
 obtain⟨x,y⟩:=d;have h1:=h (c.high,x) (by simp[A5r]);have h2:=h (c.low,y) (by simp[A5r]);unfold mapQ;simp only at h1 h2;rw[h1,h2]
theorem Sol.bound (ha:okV a) (hb:okV b) (hf:full a) {p:List Nat} {w:List Int} (h:Sol ok a b p w):∀x,inR a.vars.length x->inR a.vars.length (bnd w x):=by
 intro x hx;have ho:=hf x hx;have key:0<=bnd w x->inR a.vars.length (bnd w x):=fun h0=>(h.pm.rng x hx).resolve_left (by omega);simp only[occ,List.mem_cons,List.mem_append,List.mem_flatMap]at ho;rcases ho with rfl | rfl | ⟨r,hr,hv⟩ | ⟨c,hc,hv⟩
 ·rw[h.top,h.vl];exact hb.top
 ·rw[h.index,h.vl];exact hb.index
 ·obtain⟨k,_,h1,l,h2,h3⟩:=h.rels.left r hr;obtain⟨q,hq,rfl⟩:=E6t h2 x hv;have hb1:=hb.inE;rw[<-h.vl]at hb1;have:=(B9m (ha.inE r hr) (hb1 _ (A7f _ h1)) h2 q hq).2;rw[h3 q hq];exact this
 ·obtain⟨cs,h1,_⟩:=h.cons;obtain⟨k,_,h2,h3⟩:=h1.left c hc;have hb1:=hb.inQ;rw[<-h.vl]at hb1;have hin:=B9l (ha.inQ c hc) (hb1 _ (A7f ⟨0,0⟩ h2));simp only[occC,List.mem_cons,List.not_mem_nil,or_false]at hv;rcases hv with rfl | rfl
  ·have:=h3 (c.high,(b.cons.getD k ⟨0,0⟩).high) (by simp[A5r]);rw[this];exact(hin (c.high,(b.cons.getD k ⟨0,0⟩).high) (by simp[A5r])).2
  ·have:=h3 (c.low,(b.cons.getD k ⟨0,0⟩).low) (by simp[A5r]);rw[this];exact(hin (c.low,(b.cons.getD k ⟨0,0⟩).low) (by simp[A5r])).2
theorem Sol.iso (ha:okV a) (hb:okV b) (hf:full a) (hok:∀x y,ok x y=true->A1l a b x y=true) {p:List Nat} {w:List Int} (h:Sol ok a b p w):Iso a b (bnd w):=by
 have hbd:=h.bound ha hb hf;refine⟨h.vl,hbd,fun x y hx hy e=>h.pm.inj x y hx hy (hbd x hx).1 e,fun x hx=>?_,h.top,h.index,?_,?_⟩
 ·exact of_decide_eq_true (hok _ _ (h.pm.ok x hx (hbd x hx).1))
 ·exact D0w h.nd (by rw[<-h.rels.len];exact h.rl) (D0x h.relE)
 ·obtain⟨cs,h1,h2⟩:=h.cons;exact D0w h2 (by rw[<-h1.len];exact h.cl) (D0x (d:=⟨0,0⟩) (h1.mono fun c k ⟨g1,g2⟩=>⟨g1,E6w g2⟩))
theorem D0y {α β:Type} {f:α->β} {m:List β} {l:List α} {d:β} (h:(l.map f).Perm m):∃ks:List Nat,ks.Nodup/\All2 (fun x k=>k<m.length/\f x=m.getD k d) l ks:=by
 obtain⟨ks,h1,h2⟩:=E6r h;refine⟨ks,h1.nodup_iff.2 List.nodup_range,?_⟩
 have key:∀(l:List α) (ks:List Nat),pick m ks=(l.map f).map some->All2 (fun x k=>k<m.length/\f x=m.getD k d) l ks:=by
  intro l
  induction l with
  | nil=>intro ks h;cases ks with
   | nil=>exact .nil
   | cons _ _=>cases h
  | cons x l ih=>
   intro ks h
   cases ks with
   | nil=>cases h
   | cons k ks=>
    unfold pick at h ih;rw[List.map_cons,List.map_cons,List.map_cons]at h;injection h with e1 e2;have hk:=(List.getElem?_eq_some_iff.1 e1).1;refine .cons ⟨hk,?_⟩ (ih ks e2);rw[List.getD_eq_getElem?_getD,e1];rfl
 exact key l ks h2
theorem C1e (ha:okV a) {σ:Int->Int} (h:Iso a b σ) (hok:∀x,inR a.vars.length x->ok x (σ x)=true):(A1r ok a b).isSome=true:=by
 unfold A1r
 have h1:a.rels.length=b.rels.length:=by have:=h.rels.length_eq;simpa using this
 have h2:a.cons.length=b.cons.length:=by have:=h.cons.length_eq;simpa using this
 rw[if_neg (by rintro(e | e | e);exact e h1;exact e h2;exact e h.len)]
 have hg:Good ok a.vars.length σ:=⟨h.rng,h.inj,hok⟩
 obtain⟨w,e,a1,a2,a3⟩:=B2h (l:=[(a.top,b.top),(a.index,b.index)]) hg (B1g ok _).len (B1g ok _).rng (E6v _ _) (fun q hq=>by
  simp only[List.mem_cons,List.not_mem_nil,or_false]at hq;rcases hq with rfl | rfl
  ·exact⟨ha.top,h.top⟩
  ·exact⟨ha.index,h.index⟩)
 rw[e];simp only;obtain⟨ks,k1,k2⟩:=D0y (d:=(⟨⟨#[]⟩,0,[]⟩:Ep)) h.rels;obtain⟨cs,c1,c2⟩:=D0y (d:=(⟨0,0⟩:Qq)) h.cons;exact C5b hg ha.inQ c2 c1 ha.inE a1 a2 a3 k2 k1 (fun _ _ h=>by cases h)
theorem E6x {ok':Int->Int->Bool} (ha:okV a) (hb:okV b) (hf:full a) (hle:∀x y,ok' x y=true->ok x y=true) (hok:∀x y,ok x y=true->A1l a b x y=true)
  (hp:∀σ,Iso a b σ->∀x,inR a.vars.length x->ok' x (σ x)=true):A1r ok' a b=A1r ok a b:=by
 cases hm:A1r ok a b with
 | none=>
  cases hm':A1r ok' a b with
  | none=>rfl
  | some p=>
   obtain⟨w,hs⟩:=B1h ha hb hm';have hi:=hs.iso ha hb hf (fun x y h=>hok x y (hle x y h));have:=C1e (ok:=ok) ha hi fun x hx=>hle _ _ (hp _ hi x hx);rw[hm]at this;cases this
 | some p=>
  obtain⟨w0,hs0⟩:=B1h ha hb hm;have h1:=hs0.rl;have h2:=hs0.cl;have h3:=hs0.vl
  have hneg:¬(a.rels.length≠b.rels.length\/a.cons.length≠b.cons.length\/a.vars.length≠b.vars.length):=by
   rintro(e | e | e)
   ·exact e h1
   ·exact e h2
   ·exact e h3
  have hin:∀q∈[(a.top,b.top),(a.index,b.index)],inR a.vars.length q.1/\inR a.vars.length q.2:=by
   intro q hq;simp only[List.mem_cons,List.not_mem_nil,or_false]at hq;rcases hq with rfl | rfl
   ·exact⟨ha.top,by rw[h3];exact hb.top⟩
   ·exact⟨ha.index,by rw[h3];exact hb.index⟩
  have hb1:=hb.inE;have hb2:=hb.inQ;rw[<-h3]at hb1 hb2;unfold A1r at hm ⊢;rw[if_neg hneg]at hm ⊢
  cases hw:A2x ok (List.replicate a.vars.length (-1)) [(a.top,b.top),(a.index,b.index)]with
  | none=>rw[hw]at hm;cases hm
  | some w=>
   rw[hw]at hm;simp only at hm;obtain⟨g1,g2,g3⟩:=A4m (B1g ok _) hin hw
   have sol:∀ks w' cs,All2 (RelB b.rels w') a.rels ks->ks.Nodup->PMv ok a.vars.length w'->Lev a.vars.length w w'->All2 (ConB b.cons w') a.cons cs->cs.Nodup->∀x,inR a.vars.length x->0<=bnd w' x->ok' x (bnd w' x)=true:=fun ks w' cs k1 k2 k3 k4 k5 k6 x hx _=>by
    have g4:=A5f k4 hin g3
    have hs:Sol ok a b ks w':=⟨h3,h1,h2,k3,g4 (a.top,b.top) (by simp),g4 (a.index,b.index) (by simp),k1,k2,cs,k5,k6⟩
    exact hp _ (hs.iso ha hb hf hok) x hx
   obtain⟨ks,w2,cs,_,i1,i2,_,i4,i5,i6,i7⟩:=B9n hb2 ha.inQ hb1 ha.inE g1 hm;have hall:=sol ks w2 cs i1 i2 i4 i5 i6 i7
   cases hw':A2x ok' (List.replicate a.vars.length (-1)) [(a.top,b.top),(a.index,b.index)]with
   | none=>
    exfalso;obtain⟨q,hq,hfq⟩:=B2j (B1g ok _) hin hw hw';have hq2:=A5f i5 hin g3 q hq;have:=hall q.1 (hin q hq).1 (by rw[hq2];exact(hin q hq).2.1);rw[hq2,hfq]at this;cases this
   | some u=>
    have:=B2i hle hw';rw[hw]at this;injection this with this;subst this;simp only;rw[<-hm];obtain⟨g1',_,_⟩:=A4m (B1g ok' _) hin hw';exact D8k hle hb2 ha.inQ hb1 ha.inE g1 g1' fun ks w' cs k1 k2 _ k4 k5 k6 k7=>sol ks w' cs k1 k2 k4 k5 k6 k7
theorem B4g (ha:okV a) (hb:okV b) (hf:full a):(A1r (A1l a b) a b).isSome=true ↔ Corr a b:=by
 constructor
 ·intro h
  cases hm:A1r (A1l a b) a b with
  | none=>rw[hm]at h;cases h
  | some p=>
   obtain⟨w,hs⟩:=B1h ha hb hm;exact⟨_,hs.iso ha hb hf fun _ _ h=>h⟩
 ·rintro⟨σ,h⟩;exact C1e ha h fun x hx=>decide_eq_true (h.sort x hx)
end
abbrev wb (s:ByteArray):List UInt8:=s.data.toList
abbrev ob (l:List UInt8):ByteArray:=⟨l.toArray⟩
def vS (out:List ByteArray) (x:Int):ByteArray:=out.getD x.toNat ⟨#[]⟩
def argS (out:List ByteArray) (a:Ag):List UInt8:=32::(wb a.role++32::wb (vS out a.var))
def preS (out:List ByteArray) (x:Ep):List UInt8:=wb x.pred++40::(wb (vS out x.label)++(x.args.flatMap (argS out)++[41]))
def wTop:ByteArray:=⟨#[116,111,112]⟩
def D8l:ByteArray:=⟨#[105,110,100,101,120]⟩
def C7e:List UInt8:=[108,97,98,101,108,32]
def E6y:List UInt8:=[104,105,103,104,32]
def F6u:List UInt8:=[108,111,119,32]
def addE (out:List ByteArray) (x:Ep):List (Int×ByteArray):=(x.label,ob (C7e++preS out x))::x.args.map fun a=>(a.var,ob (wb a.role++32::preS out x))
def addQ (out:List ByteArray) (c:Qq):List (Int×ByteArray):=[(c.high,ob (E6y++wb (vS out c.low))),(c.low,ob (F6u++wb (vS out c.high)))]
def adds (out:List ByteArray) (m:Mr):List (Int×ByteArray):=(m.top,wTop)::(m.index,D8l)::(m.rels.flatMap (addE out)++m.cons.flatMap (addQ out))
def nxt (l:List (Int×ByteArray)) (v:Int):List ByteArray:=(l.filter fun p=>decide (p.1=v)).map (·.2)
section
variable (Hs : ByteArray -> List ByteArray -> ByteArray) (srt : List ByteArray -> List ByteArray)
def rnd (m:Mr) (out:List ByteArray):List ByteArray:=(upN m.vars.length).map fun v=>Hs (vS out v) (srt (nxt (adds out m) v))
def prof (m:Mr):List ByteArray:=rnd Hs srt m (rnd Hs srt m (rnd Hs srt m m.vars))
end
theorem A6e {α β:Type} {f g:α->List β}:∀{l:List α},(∀x∈l,f x=g x)->l.flatMap f=l.flatMap g
 | [],_=>rfl
 | a::l,h=>by rw[List.flatMap_cons,List.flatMap_cons,h a (by simp),A6e fun x hx=>h x (by simp[hx])]
theorem D8m {n:Nat} (f:Int->ByteArray) {x:Int} (hx:inR n x):vS ((upN n).map f) x=f x:=by
 unfold vS upN;have h1:=hx.1;have h2:=hx.2;rw[List.getD_eq_getElem?_getD,List.getElem?_map,List.getElem?_map,List.getElem?_range (by omega)];show f ((x.toNat:Nat):Int)=_;rw[Int.toNat_of_nonneg h1]
section
variable {Hs : ByteArray -> List ByteArray -> ByteArray} {srt : List ByteArray -> List ByteArray} {a b : Mr} {σ : Int -> Int}
def Eqv (n:Nat) (σ:Int->Int) (out out':List ByteArray):Prop:=∀x,inR n x->vS out x=vS out' (σ x)
theorem F2p {n:Nat} {out out':List ByteArray} (he:Eqv n σ out out') {x:Ep} (hx:inE n x):preS out' (mapE σ x)=preS out x:=by
 unfold preS mapE;simp only;rw[<-he x.label (hx _ (by simp[occE])),List.flatMap_map];congr 4;refine A6e fun a ha=>?_;unfold argS;simp only;rw[<-he a.var (hx _ (by simp only[occE,List.mem_cons,List.mem_map];exact .inr ⟨a,ha,rfl⟩))]
theorem F2q {n:Nat} {out out':List ByteArray} (he:Eqv n σ out out') {x:Ep} (hx:inE n x):addE out' (mapE σ x)=(addE out x).map fun p=>(σ p.1,p.2):=by
 unfold addE;rw[F2p he hx];unfold mapE;simp only[List.map_cons,List.map_map];rfl
theorem F2r {n:Nat} {out out':List ByteArray} (he:Eqv n σ out out') {c:Qq} (hc:inQ n c):addQ out' (mapQ σ c)=(addQ out c).map fun p=>(σ p.1,p.2):=by
 unfold addQ mapQ;simp only[List.map_cons,List.map_nil];rw[<-he c.low (hc _ (by simp[occC])),<-he c.high (hc _ (by simp[occC]))]
theorem B8i {α β:Type} (f:α->List β) {l m:List α} (h:l.Perm m):(l.flatMap f).Perm (m.flatMap f):=by
 induction h with
 | nil=>exact .refl _
 | cons x _ ih=>rw[List.flatMap_cons,List.flatMap_cons];exact ih.append_left _
 | swap x y l=>
  rw[List.flatMap_cons,List.flatMap_cons,List.flatMap_cons,List.flatMap_cons,<-List.append_assoc,<-List.append_assoc];exact List.perm_append_comm.append_right _
 | trans _ _ h1 h2=>exact h1.trans h2
theorem E6z (ha:okV a) (hi:Iso a b σ) {out out':List ByteArray} (he:Eqv a.vars.length σ out out'):((adds out a).map fun p=>(σ p.1,p.2)).Perm (adds out' b):=by
 unfold adds;simp only[List.map_cons,List.map_append];rw[hi.top,hi.index];refine .cons _ (.cons _ (List.Perm.append ?_ ?_))
 ·have h1:=B8i (addE out') hi.rels;rw[List.flatMap_map]at h1
  have e:(a.rels.flatMap fun x=>addE out' (mapE σ x))=(a.rels.flatMap (addE out)).map fun p=>(σ p.1,p.2):=by
   rw[List.map_flatMap];exact A6e fun x hx=>F2q he (ha.inE x hx)
  rw[e]at h1;exact h1
 ·have h1:=B8i (addQ out') hi.cons;rw[List.flatMap_map]at h1
  have e:(a.cons.flatMap fun x=>addQ out' (mapQ σ x))=(a.cons.flatMap (addQ out)).map fun p=>(σ p.1,p.2):=by
   rw[List.map_flatMap];exact A6e fun x hx=>F2r he (ha.inQ x hx)
  rw[e]at h1;exact h1
theorem F6v (ha:okV a) (out:List ByteArray):∀p∈adds out a,inR a.vars.length p.1:=by
 intro p hp;simp only[adds,List.mem_cons,List.mem_append,List.mem_flatMap]at hp;rcases hp with rfl | rfl | ⟨x,hx,hp⟩ | ⟨c,hc,hp⟩
 ·exact ha.top
 ·exact ha.index
 ·unfold addE at hp;rcases List.mem_cons.1 hp with rfl | hp
  ·exact ha.rel hx (by simp[occE])
  ·obtain⟨g,hg,rfl⟩:=List.mem_map.1 hp;exact ha.rel hx (by simp only[occE,List.mem_cons,List.mem_map];exact .inr ⟨g,hg,rfl⟩)
 ·unfold addQ at hp;simp only[List.mem_cons,List.not_mem_nil,or_false]at hp;rcases hp with rfl | rfl
  ·exact ha.con hc (by simp[occC])
  ·exact ha.con hc (by simp[occC])
theorem F2s (ha:okV a) (hi:Iso a b σ) {out out':List ByteArray} (he:Eqv a.vars.length σ out out') {x:Int} (hx:inR a.vars.length x):(nxt (adds out a) x).Perm (nxt (adds out' b) (σ x)):=by
 have h1:=((E6z ha hi he).filter fun p=>decide (p.1=σ x)).map (·.2)
 have e:nxt (adds out a) x=(((adds out a).map fun p=>(σ p.1,p.2)).filter fun p=>decide (p.1=σ x)).map (·.2):=by
  unfold nxt;rw[List.filter_map,List.map_map];show List.map (fun p:Int×ByteArray=>p.2) _=List.map (fun p:Int×ByteArray=>p.2) _;congr 1;refine List.filter_congr fun p hp=>?_;have hp:=F6v ha out p hp;show decide (p.1=x)=decide (σ p.1=σ x);by_cases e:p.1=x
  ·rw[e];simp
  ·rw[decide_eq_false e,decide_eq_false fun h=>e (hi.inj _ _ hp hx h)]
 rw[e];exact h1
variable (hsrt : ∀ l m : List ByteArray, l.Perm m -> srt l = srt m)
include hsrt
theorem D4w (ha:okV a) (hi:Iso a b σ) {out out':List ByteArray} (he:Eqv a.vars.length σ out out'):Eqv a.vars.length σ (rnd Hs srt a out) (rnd Hs srt b out'):=fun x hx=>by
 unfold rnd;rw[D8m _ hx,<-hi.len,D8m _ (hi.rng x hx),he x hx,hsrt _ _ (F2s ha hi he hx)]
theorem D8n (ha:okV a) (hi:Iso a b σ):Eqv a.vars.length σ (prof Hs srt a) (prof Hs srt b):=
 D4w hsrt ha hi (D4w hsrt ha hi (D4w hsrt ha hi fun x hx=>hi.sort x hx))
theorem E7a (ha:okV a) (hi:Iso a b σ):(prof Hs srt a).Perm (prof Hs srt b):=by
 have he:=D8n (Hs:=Hs) hsrt ha hi;have hn:((upN a.vars.length).map σ).Nodup:=A4q (A4q List.nodup_range fun i _ j _ e=>by omega) fun x hx y hy e=>hi.inj x y (A2h.1 hx) (A2h.1 hy) e
 have hp:=A8e hn (m:=upN a.vars.length) (fun z hz=>by
  obtain⟨x,hx,rfl⟩:=List.mem_map.1 hz
  exact A2h.2 (hi.rng x (A2h.1 hx))) (by simp)
 have self1:∀(n:Nat) (f:Int->ByteArray),(upN n).map f=(upN n).map fun v=>vS ((upN n).map f) v:=fun n f=>
  List.map_congr_left fun v hv=>(D8m f (A2h.1 hv)).symm
 have self:∀(m:Mr),prof Hs srt m=(upN m.vars.length).map fun v=>vS (prof Hs srt m) v:=fun m=>self1 _ _;rw[self a,self b,<-hi.len]
 have e:((upN a.vars.length).map fun v=>vS (prof Hs srt a) v)=((upN a.vars.length).map σ).map fun v=>vS (prof Hs srt b) v:=by
  rw[List.map_map];exact List.map_congr_left fun v hv=>he v (A2h.1 hv)
 rw[e];exact hp.map _
end
def D0z (pa pb:List ByteArray) (a b:Mr) (x y:Int):Bool:=A1l a b x y&&decide (vS pa x=vS pb y)
def C5c (Hs:ByteArray->List ByteArray->ByteArray) (srt:List ByteArray->List ByteArray) (a b:Mr):Option (List Nat):=
 if a.vars.length≠b.vars.length\/a.rels.length≠b.rels.length\/a.cons.length≠b.cons.length then none else
 if srt (prof Hs srt a)≠srt (prof Hs srt b)then none else
 match A2x (D0z (prof Hs srt a) (prof Hs srt b) a b) (List.replicate a.vars.length (-1)) [(a.top,b.top),(a.index,b.index)]with
 | none=>none
 | some w=>A4b (D0z (prof Hs srt a) (prof Hs srt b) a b) b.cons a.cons b.rels a.rels w []
theorem E7b {Hs:ByteArray->List ByteArray->ByteArray} {srt:List ByteArray->List ByteArray} (hsrt:∀l m:List ByteArray,l.Perm m->srt l=srt m) {a b:Mr} (ha:okV a) (hb:okV b) (hf:full a):C5c Hs srt a b=A1r (A1l a b) a b:=by
 have h1:A1r (D0z (prof Hs srt a) (prof Hs srt b) a b) a b=A1r (A1l a b) a b:=by
  refine E6x ha hb hf (fun x y h=>?_) (fun _ _ h=>h) fun σ hi x hx=>?_
  ·unfold D0z at h;rw[Bool.and_eq_true]at h;exact h.1
  ·unfold D0z;rw[Bool.and_eq_true];exact⟨decide_eq_true (hi.sort x hx),decide_eq_true (D8n hsrt ha hi x hx)⟩
 have hperm:Corr a b->srt (prof Hs srt a)=srt (prof Hs srt b):=fun⟨σ,hi⟩=>hsrt _ _ (E7a hsrt ha hi);rw[<-h1];unfold C5c;by_cases hl:a.vars.length≠b.vars.length\/a.rels.length≠b.rels.length\/a.cons.length≠b.cons.length
 ·rw[if_pos hl];unfold A1r;rw[if_pos];rcases hl with h | h | h
  ·exact .inr (.inr h)
  ·exact .inl h
  ·exact .inr (.inl h)
 rw[if_neg hl]
 have hl2:¬(a.rels.length≠b.rels.length\/a.cons.length≠b.cons.length\/a.vars.length≠b.vars.length):=by
  rintro(h | h | h)
  ·exact hl (.inr (.inl h))
  ·exact hl (.inr (.inr h))
  ·exact hl (.inl h)
 by_cases hs:srt (prof Hs srt a)=srt (prof Hs srt b)
 ·rw[if_neg (fun h=>h hs)];unfold A1r
  (rw[if_neg hl2])<;>rfl
 ·rw[if_pos hs]
  cases hm:A1r (D0z (prof Hs srt a) (prof Hs srt b) a b) a b with
  | none=>rfl
  | some p=>
   rw[h1]at hm;exact absurd (hperm ((B4g ha hb hf).1 (by rw[hm];rfl))) hs
theorem D4x {w a:Int} (hwa:w≠a):∀{v:List Int} {x:Nat} {i:Nat},(∀b,v[x]?=some b->b≠w)->plc w i (v.set x a)=plc w i v
 | [],_,_,_=>rfl
 | b::r,0,i,h=>by
  have hb:b≠w:=h b rfl;rw[List.set_cons_zero,plc,plc,if_neg (fun e=>hwa e.symm),if_neg hb]
 | b::r,x+1,i,h=>by
  rw[List.set_cons_succ,plc,plc];by_cases hb:b=w
  ·rw[if_pos hb,if_pos hb]
  ·rw[if_neg hb,if_neg hb];exact D4x hwa (fun c hc=>h c (by simpa using hc))
theorem E7c {w:Int}:∀{v:List Int} {x:Nat} {i:Nat},w∉v->x<v.length->plc w i (v.set x w)=((i+x:Nat):Int)
 | [],_,_,_,h=>by simp at h
 | b::r,0,i,h,_=>by rw[List.set_cons_zero,plc,if_pos rfl];rfl
 | b::r,x+1,i,h,hx=>by
  have hb:b≠w:=fun e=>h (by simp[e]);rw[List.set_cons_succ,plc,if_neg hb,E7c (fun k=>h (by simp[k])) (by simpa using hx)];congr 1;omega
def frm (n:Nat) (v:List Int):List Int:=(upN n).map fun w=>plc w 0 v
theorem A9z (n:Nat) (v:List Int):(frm n v).length=n:=by unfold frm;rw[List.length_map,A2u]
theorem G0h {n i:Nat} (h:i<n):(upN n)[i]?=some (i:Int):=by
 unfold upN;rw[List.getElem?_map,List.getElem?_range h];rfl
theorem C5d {n:Nat} {v:List Int} {i:Nat} (h:i<n):(frm n v)[i]?=some (plc (i:Int) 0 v):=by
 unfold frm;rw[List.getElem?_map,G0h h];rfl
theorem C1f {v:List Int} {x:Nat} (h:x<v.length):v[x]?=some (bnd v (x:Int)):=by
 unfold bnd;rw[Int.toNat_natCast,List.getD_eq_getElem?_getD,List.getElem?_eq_getElem h];rfl
theorem F6w {n:Nat} {v:List Int} {x y:Nat} (hl:v.length=n) (hx:x<n) (hy:y<n) (h0:bnd v (x:Int)<0) (hn:(y:Int)∉v):frm n (v.set x (y:Int))=(frm n v).set y (x:Int):=by
 refine List.ext_getElem? fun i=>?_;by_cases hi:i<n
 ·rw[C5d hi,List.getElem?_set];by_cases e:y=i
  ·subst e;rw[if_pos rfl,if_pos (by rw[A9z];exact hi),E7c hn (by omega),Nat.zero_add]
  ·rw[if_neg e,C5d hi,D4x (by omega) (fun b hb=>?_)];rw[C1f (by omega)]at hb;injection hb with hb;omega
 ·rw[List.getElem?_eq_none (by rw[A9z];omega),List.getElem?_eq_none (by rw[List.length_set,A9z];omega)]
theorem E7d {n:Nat} {v:List Int} {x y:Nat} (hl:v.length=n) (hx:x<n) (hy:y<n) (h0:bnd v (x:Int)=(y:Int)) (hi:∀z,z<n->bnd v (z:Int)=(y:Int)->z=x):frm n (v.set x (-1))=(frm n v).set y (-1):=by
 refine List.ext_getElem? fun i=>?_;by_cases hin:i<n
 ·rw[C5d hin,List.getElem?_set];by_cases e:y=i
  ·subst e;rw[if_pos rfl,if_pos (by rw[A9z];exact hin),D4u];intro hm;obtain⟨j,hj⟩:=List.getElem?_of_mem hm;rw[List.getElem?_set]at hj;split at hj
   ·split at hj
    ·injection hj with hj;omega
    ·cases hj
   ·rename_i hxj;have hjl:j<v.length:=(List.getElem?_eq_some_iff.1 hj).1;rw[C1f hjl]at hj;injection hj with hj;exact hxj (hi j (by omega) hj).symm
  ·rw[if_neg e,C5d hin,D4x (by omega) (fun b hb=>?_)];rw[C1f (by omega)]at hb;injection hb with hb;omega
 ·rw[List.getElem?_eq_none (by rw[A9z];omega),List.getElem?_eq_none (by rw[List.length_set,A9z];omega)]
section
variable (ok : Int -> Int -> Bool)
def B1i (st:List Int×List Int) (x y:Int):(List Int×List Int)×Bool:=
 if bnd st.1 x=y then(st,true)else if 0<=bnd st.1 x\/y∈st.1\/ok x y=false then(st,false)else((st.1.set x.toNat y,st.2++[x]),true)
def B1j:List Int×List Int->List (Int×Int)->(List Int×List Int)×Bool
 | st,[]=>(st,true)
 | st,p::r=>if(B1i ok st p.1 p.2).2 then B1j (B1i ok st p.1 p.2).1 r else((B1i ok st p.1 p.2).1,false)
end
def unb (v:List Int) (bd:List Int):List Int:=bd.foldl (fun v x=>v.set x.toNat (-1)) v
section
variable {ok : Int -> Int -> Bool} {n : Nat}
theorem F2t (st:List Int×List Int) (x y:Int):A4a ok st.1 x y=if(B1i ok st x y).2 then some (B1i ok st x y).1.1 else none:=by
 unfold A4a B1i;split
 ·rfl
 ·split<;>rfl
theorem B9o:∀(l:List (Int×Int)) (st:List Int×List Int),A2x ok st.1 l=if(B1j ok st l).2 then some (B1j ok st l).1.1 else none
 | [],st=>rfl
 | p::r,st=>by
  rw[A2x,B1j,F2t]
  cases h:(B1i ok st p.1 p.2).2 with
  | true=>simp only[if_true];exact B9o r _
  | false=>simp
structure Bnds (n:Nat) (v:List Int) (st:List Int×List Int):Prop where
 pm:PMv (fun _ _=>true) n st.1
 back:unb st.1 st.2=v
 inr:∀x∈st.2,inR n x/\0<=bnd st.1 x
 nodup:st.2.Nodup
theorem PMv.any {v:List Int} (h:PMv ok n v):PMv (fun _ _=>true) n v:=⟨h.len,h.rng,h.inj,fun _ _ _=>rfl⟩
theorem Bnds.nil {v:List Int} (h:PMv ok n v):Bnds n v (v,[]):=⟨h.any,rfl,fun _ hx=>(by cases hx),List.nodup_nil⟩
theorem F6x (v:List Int) (a b:List Int):unb v (a++b)=unb (unb v a) b:=List.foldl_append
theorem E7e {v:List Int} {a b:Nat} {x y:Int} (h:a≠b):(v.set a x).set b y=(v.set b y).set a x:=List.set_comm x y h
theorem F6y {bd:List Int}:∀{v:List Int} {x:Int} {y:Int},0<=x->(∀z∈bd,0<=z/\z≠x)->unb (v.set x.toNat y) bd=(unb v bd).set x.toNat y:=by
 induction bd with
 | nil=>intro v x y _ _;rfl
 | cons z r ih=>
  intro v x y hx h;obtain⟨h1,h2⟩:=h z (by simp);show unb ((v.set x.toNat y).set z.toNat (-1)) r=(unb (v.set z.toNat (-1)) r).set x.toNat y;rw[E7e (by omega),ih hx (fun w hw=>h w (by simp[hw]))]
theorem C5e {v:List Int} {st:List Int×List Int} (h:Bnds n v st) {x y:Int} (hx:inR n x) (hy:inR n y):Bnds n v (B1i ok st x y).1:=by
 unfold B1i;split
 ·exact h
 ·rename_i h1;split
  ·exact h
  ·rename_i h2;have h3:¬0<=bnd st.1 x:=fun e=>h2 (.inl e);have h4:y∉st.1:=fun e=>h2 (.inr (.inl e))
   have hm1:bnd st.1 x = -1:=by
    rcases h.pm.rng x hx with e | e
    ·exact e
    ·exact absurd e.1 h3
   have hb:A4a (fun _ _=>true) st.1 x y=some (st.1.set x.toNat y):=by
    unfold A4a;rw[if_neg h1,if_neg];rintro(e | e | e)
    ·exact h3 e
    ·exact h4 e
    ·cases e
   obtain⟨k1,k2,k3⟩:=C7c h.pm hx hy hb
   have hfree:∀z∈st.2,0<=z/\z≠x:=fun z hz=>⟨(h.inr z hz).1.1,fun e=>by subst e;exact h3 (h.inr z hz).2⟩
   refine⟨k1,?_,fun z hz=>?_,?_⟩
   ·show unb (st.1.set x.toNat y) (st.2++[x])=v;rw[F6x,F6y hx.1 hfree,h.back];show(v.set x.toNat y).set x.toNat (-1)=v;rw[List.set_set]
    have hvx:v[x.toNat]?=some (-1):=by
     have hnb:∀(bd u:List Int),(∀z∈bd,0<=z/\z≠x)->(unb u bd)[x.toNat]?=u[x.toNat]?:=by
      intro bd
      induction bd with
      | nil=>intro u _;rfl
      | cons z r ih=>
       intro u hz;obtain⟨q1,q2⟩:=hz z (by simp);show(unb (u.set z.toNat (-1)) r)[x.toNat]?=_;rw[ih _ (fun w hw=>hz w (by simp[hw])),List.getElem?_set_ne (by have:=hx.1;omega)]
     rw[<-h.back,hnb _ _ hfree]
     have hlt:x.toNat<st.1.length:=by rw[h.pm.len];have:=hx.2;have:=hx.1;omega
     rw[List.getElem?_eq_getElem hlt];unfold bnd at hm1;rw[List.getD_eq_getElem?_getD,List.getElem?_eq_getElem hlt,Option.getD_some]at hm1;rw[hm1]
    refine List.ext_getElem? fun i=>?_;rw[List.getElem?_set];split
    ·rename_i e;subst e;rw[hvx,if_pos (List.getElem?_eq_some_iff.1 hvx).1]
    ·rfl
   ·rcases List.mem_append.1 hz with hz | hz
    ·obtain⟨q1,q2⟩:=h.inr z hz;exact⟨q1,by rw[k2 z q1 q2];exact q2⟩
    ·rw[List.mem_singleton.1 hz];exact⟨hx,by rw[k3];exact hy.1⟩
   ·show(st.2++[x]).Nodup;rw[List.nodup_append];exact⟨h.nodup,by simp,fun a ha b hb=>by rw[List.mem_singleton.1 hb];exact(hfree a ha).2⟩
theorem B2k:∀{l:List (Int×Int)} {v:List Int} {st:List Int×List Int},Bnds n v st->(∀p∈l,inR n p.1/\inR n p.2)->Bnds n v (B1j ok st l).1
 | [],_,_,h,_=>h
 | p::r,_,st,h,hl=>by
  obtain⟨h1,h2⟩:=hl p (by simp);have hb:=C5e (ok:=ok) h h1 h2;rw[B1j];split
  ·exact B2k hb fun q hq=>hl q (by simp[hq])
  ·exact hb
theorem Bnds.step {v w:List Int} {x:Int} {r:List Int} (h:Bnds n v (w,x::r)):Bnds n v (w.set x.toNat (-1),r)/\∃y:Nat,bnd w x=(y:Int)/\y<n/\frm n (w.set x.toNat (-1))=(frm n w).set y (-1):=by
 obtain⟨hx,hb⟩:=h.inr x (by simp);obtain⟨hx1,hn⟩:=List.nodup_cons.1 h.nodup
 have hr:inR n (bnd w x):=by
  rcases h.pm.rng x hx with e | e
  ·have:0<=bnd w x:=hb;have e:bnd w x = -1:=e;omega
  ·exact e
 obtain⟨a,rfl⟩:∃a:Nat,x=(a:Int):=⟨x.toNat,by have:=hx.1;omega⟩
 have hal:a<n:=by have:=hx.2;omega
 obtain⟨y,hy⟩:∃y:Nat,bnd w (a:Int)=(y:Int):=⟨(bnd w (a:Int)).toNat,by have:=hr.1;omega⟩
 have hyn:y<n:=by have:=hr.2;omega
 have hinr:∀z,inR n z->z≠(a:Int)->bnd (w.set a (-1)) z=bnd w z:=fun z hz hne=>by
  have h1:=hz.1;unfold bnd;rw[List.getD_eq_getElem?_getD,List.getD_eq_getElem?_getD,List.getElem?_set_ne (by omega)]
 have hself:bnd (w.set a (-1)) (a:Int) = -1:=by
  unfold bnd;rw[Int.toNat_natCast,List.getD_eq_getElem?_getD,List.getElem?_set_self (by have:w.length=n:=h.pm.len;omega)];rfl
 refine⟨⟨⟨by rw[Int.toNat_natCast,List.length_set];exact h.pm.len,fun z hz=>?_,fun z z' hz hz' h0 he=>?_,fun _ _ _=>rfl⟩,h.back,fun z hz=>?_,hn⟩,y,hy,hyn,?_⟩
 ·rw[Int.toNat_natCast]
  by_cases e:z=(a:Int)
  ·subst e;exact .inl hself
  ·rw[hinr z hz e];exact h.pm.rng z hz
 ·rw[Int.toNat_natCast]at h0 he
  have e1:z≠(a:Int):=fun e=>by subst e;rw[hself]at h0;omega
  have e2:z'≠(a:Int):=fun e=>by subst e;rw[he,hself]at h0;omega
  rw[hinr z hz e1]at h0 he;rw[hinr z' hz' e2]at he;exact h.pm.inj z z' hz hz' h0 he
 ·obtain⟨q1,q2⟩:=h.inr z (by simp[hz])
  have e1:z≠(a:Int):=fun e=>by subst e;exact hx1 hz
  exact⟨q1,by rw[Int.toNat_natCast,hinr z q1 e1];exact q2⟩
 ·rw[Int.toNat_natCast];refine E7d h.pm.len hal hyn hy fun z hz he=>?_;have:=h.pm.inj (z:Int) (a:Int) ⟨by omega,by omega⟩ hx (by show 0<=bnd w (z:Int);rw[he];omega) (by show bnd w (z:Int)=bnd w (a:Int);rw[he,hy]);omega
end
def useL (m:Nat) (ps:List Nat):List Bool:=(List.range m).map fun k=>decide (k∈ps)
theorem A8o {m k:Nat} (ps:List Nat) (h:k<m):(useL m ps)[k]?=some (decide (k∈ps)):=by
 unfold useL;rw[List.getElem?_map,List.getElem?_range h];rfl
theorem A2r (m:Nat) (ps:List Nat):(useL m ps).length=m:=by simp[useL]
theorem C7f {m k:Nat} {ps qs:List Nat} (h:k<m) (hq:∀j,j∈qs ↔ j=k\/j∈ps):(useL m ps).set k true=useL m qs:=by
 refine List.ext_getElem? fun i=>?_;rw[List.getElem?_set];by_cases hi:i<m
 ·split
  ·rename_i e;subst e;rw[if_pos (by rw[A2r];exact hi),A8o qs hi,decide_eq_true ((hq k).2 (.inl rfl))]
  ·rename_i e;rw[A8o ps hi,A8o qs hi];congr 1;rw[decide_eq_decide,hq];exact⟨fun x=>.inr x,fun x=>x.resolve_left fun e'=>e e'.symm⟩
 ·rw[List.getElem?_eq_none (by rw[A2r];omega),List.getElem?_eq_none (by rw[A2r];omega),if_neg (by omega)]
theorem C5f {m k:Nat} {ps qs:List Nat} (h:k<m) (hk:k∉ps) (hq:∀j,j∈qs ↔ j=k\/j∈ps):(useL m qs).set k false=useL m ps:=by
 refine List.ext_getElem? fun i=>?_;rw[List.getElem?_set];by_cases hi:i<m
 ·split
  ·rename_i e;subst e;rw[if_pos (by rw[A2r];exact hi),A8o ps hi,decide_eq_false hk]
  ·rename_i e;rw[A8o ps hi,A8o qs hi];congr 1;rw[decide_eq_decide,hq];exact⟨fun x=>x.resolve_left fun e'=>e e'.symm,fun x=>.inr x⟩
 ·rw[List.getElem?_eq_none (by rw[A2r];omega),List.getElem?_eq_none (by rw[A2r];omega),if_neg (by omega)]
end Go.Abs
