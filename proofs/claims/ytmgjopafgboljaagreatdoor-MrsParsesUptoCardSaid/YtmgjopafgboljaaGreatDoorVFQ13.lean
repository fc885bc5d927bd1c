/- Auxiliary facts. -/
import Derived.Test.YtmgjopafgboljaaGreatDoorVFQ09
set_option linter.unusedSimpArgs false
set_option linter.unusedVariables false
open List renaming mem_cons->Xc,getD_eq_getElem?_getD->Xd,map_cons->Xe,nodup_cons->Xf,getElem?_eq_getElem->Xg,getElem?_map->Xh,map_map->Xi,range->Xj,mem_range->Xk,flatMap_cons->Xm,getElem?_eq_none->Xn,ext_getElem?->Xo,getElem?_eq_some_iff->Xp,replicate->Xq,getElem?_set->Xr,not_mem_nil->Xs,mem_append->Xt,nodup_nil->Xu,mem_map->Xv,getElem?_range->Xw,length_set->Xx,length_cons->Xy,getElem?_of_mem->X0,mem_flatMap->X1,range_succ_eq_map->X2,length->X3,map_congr_left->X4,mem_singleton->X5,flatMap_map->X6,getElem_mem->X8,any_cons->X9,findSome?_cons->Ya,of_mem_zip->Yb,zip_cons_cons->Yc,any_eq_true->Yd,getElem?_replicate->Yf,nodup_range->Yg,append_assoc->Yh,map_flatMap->Yi,set_cons_zero->Yk,set_cons_succ->Yl,getElem?_set_ne->Ym
open Int renaming toNat_natCast->Xl
open Option renaming getD_some->Xz,map_some->X7
open Bool renaming and_eq_true->Yj
namespace Go.Abs
open Go
theorem G6 {α:Type} [DecidableEq α]:∀{l m:List α},l.Nodup->(∀x∈l,x∈m)->m.length<=l.length->l.Perm m
 | [],m,_,_,h=>by
  have:m=[]:=List.length_eq_zero_iff.1 (by simpa using h);rw[this]
 | x::l,m,hn,hs,h=>by
  obtain⟨h1,h2⟩:=Xf.1 hn;have hx:x∈m:=hs x (by simp);have hp:=List.perm_cons_erase hx
  have hl:(m.erase x).length+1=m.length:=by have:=hp.length_eq;simpa using this.symm
  refine(List.Perm.cons x (G6 h2 (λy hy=>?_) ?_)).trans hp.symm
  .refine(List.mem_erase_of_ne λe=>?_).2 (hs y (by simp[hy]));subst e;exact h1 hy
  .simp only[Xy]at h;omega
theorem Ns {α β:Type} {f:α->β}:∀{l:List α},l.Nodup->(∀x∈l,∀y∈l,f x=f y->x=y)->(l.map f).Nodup
 | [],_,_=>Xu
 | x::l,h,hi=>by
  obtain⟨h1,h2⟩:=Xf.1 h;rw[Xe,Xf];refine⟨λhm=>?_,Ns h2 λy hy z hz=>hi y (by simp[hy]) z (by simp[hz])⟩;obtain⟨y,hy,e⟩:=Xv.1 hm;exact h1 (hi y (by simp[hy]) x (by simp) e▸hy)
def pick {α:Type} (m:List α) (ks:List Nat):List (Option α):=ks.map λk=>m[k]?
theorem TU {α:Type} (m:List α):pick m (Xj m.length)=m.map some:=by
 refine Xo λi=>?_;simp only[pick,Xh];by_cases h:i<m.length
 .rw[Xw h];simp[h]
 .simp[h]
theorem kB {α:Type} {l m:List α} (h:l.Perm m):∃ks:List Nat,ks.Perm (Xj m.length)/\pick m ks=l.map some:=by
 induction h with
 | nil=>exact⟨[],.refl _,rfl⟩
 | cons x _ ih=>
  rename_i l m _;obtain⟨ks,h1,h2⟩:=ih;refine⟨0::ks.map (· + 1),?_,?_⟩
  .rw[Xy,X2];exact(h1.map _).cons 0
  .simp only[pick,Xe,Xi]at h2 ⊢;rw[<-h2];rfl
 | swap x y l=>
  refine⟨1::0::(Xj l.length).map (· + 2),?_,?_⟩
  .rw[Xy,Xy,X2,X2,Xe,Xi];exact List.Perm.swap 0 1 _
  .have:=TU l;simp only[pick,Xe,Xi]at this ⊢;rw[<-this];rfl
 | trans _ _ ih1 ih2=>
  rename_i l1 l2 l3 _ _;obtain⟨k1,a1,a2⟩:=ih1;obtain⟨k2,b1,b2⟩:=ih2;refine⟨k1.map λi=>k2.getD i 0,?_,?_⟩
  .have hl:k2.length=l2.length:=by have:=congrArg X3 b2;simpa[pick]using this
   have e:(Xj l2.length).map (λi=>k2.getD i 0)=k2:=by
    refine Xo λi=>?_;rw[Xh];by_cases h:i<l2.length
    .rw[Xw h];simp[hl,h]
    .simp[hl,h]
   have:=a1.map λi=>k2.getD i 0;rw[e]at this;exact this.trans b1
  .have hb:∀i,i<l2.length->l3[k2.getD i 0]?=l2[i]?:=λi hi=>by
    have:=congrArg (·[i]?) b2;simp only[pick,Xh]at this
    have hl:k2.length=l2.length:=by have:=congrArg X3 b2;simpa[pick]using this
    rw[Xg hi,Xg (by omega:i<k2.length)]at this;simp only[X7,Option.some.injEq]at this;rw[Xd,Xg (by omega:i<k2.length),Xz,this,Xg hi]
   rw[<-a2];unfold pick;rw[Xi];refine X4 λi hi=>?_;exact hb i (Xk.1 (a1.mem_iff.1 hi))
theorem TV {α:Type} {l m:List α} {ks:List Nat} (hn:ks.Nodup) (hl:ks.length=m.length) (h:pick m ks=l.map some):l.Perm m:=by
 have hlt:∀k∈ks,k∈Xj m.length:=λk hk=>by
  obtain⟨i,hi⟩:=X0 hk;have:=congrArg (·[i]?) h;simp only[pick,Xh,hi,X7]at this
  cases hx:l[i]? with
  | none=>rw[hx]at this;cases this
  | some x=>
   rw[hx]at this;injection this with this;exact Xk.2 (Xp.1 this).1
 have hp:=G6 hn hlt (by rw[List.length_range];omega);have h2:=hp.map λk=>m[k]?;have h3:=TU m;unfold pick at h h3;rw[h,h3]at h2;have h4:=h2.filterMap id;simpa using h4
def Bu (σ:Int->Int) (x:Ep):Ep:=⟨x.pred,σ x.label,x.args.map λa=>⟨a.role,σ a.var⟩⟩
def Bv (σ:Int->Int) (c:Qq):Qq:=⟨σ c.high,σ c.low⟩
def inR (n:Nat) (x:Int):Prop:=0<=x/\x<n
instance (n:Nat) (x:Int):Decidable (inR n x):=by unfold inR;exact inferInstance
def okV (m:Mr):Prop:=∀x∈occ m,inR m.vars.length x
theorem okV.top {m:Mr} (h:okV m):inR m.vars.length m.top:=h _ (by simp[occ])
theorem okV.index {m:Mr} (h:okV m):inR m.vars.length m.index:=h _ (by simp[occ])
theorem okV.rel {m:Mr} (h:okV m) {x:Ep} (hx:x∈m.rels) {v:Int} (hv:v∈B7 x):inR m.vars.length v:=h _ (by
 simp only[occ,Xc,Xt,X1]
 exact .inr (.inr (.inl ⟨x,hx,hv⟩)))
theorem okV.con {m:Mr} (h:okV m) {c:Qq} (hc:c∈m.cons) {v:Int} (hv:v∈BE c):inR m.vars.length v:=h _ (by
 simp only[occ,Xc,Xt,X1]
 exact .inr (.inr (.inr ⟨c,hc,hv⟩)))
structure Iso (a b:Mr) (σ:Int->Int):Prop where
 len:a.vars.length=b.vars.length
 rng:∀x,inR a.vars.length x->inR a.vars.length (σ x)
 inj:∀x y,inR a.vars.length x->inR a.vars.length y->σ x=σ y->x=y
 sort:∀x,inR a.vars.length x->a.vars.getD x.toNat ⟨#[]⟩=b.vars.getD (σ x).toNat ⟨#[]⟩
 top:σ a.top=b.top
 index:σ a.index=b.index
 rels:(a.rels.map (Bu σ)).Perm b.rels
 cons:(a.cons.map (Bv σ)).Perm b.cons
def TW (a b:Mr):Prop:=∃σ,Iso a b σ
def bnd (v:List Int) (x:Int):Int:=v.getD x.toNat (-1)
section
variable (ok : Int -> Int -> Bool)
def DP (v:List Int) (x y:Int):Option (List Int):=
 if bnd v x=y then some v
 else if 0<=bnd v x\/y∈v\/ok x y=false then none
 else some (v.set x.toNat y)
def Cw:List Int->List (Int×Int)->Option (List Int)
 | v,[]=>some v
 | v,p::r=>match DP ok v p.1 p.2 with
  | some w=>Cw w r
  | none=>none
end
def Dr (x y:Ep):Option (List (Int×Int)):=if x.pred=y.pred/\x.args.map (·.role)=y.args.map (·.role)then some ((x.label,y.label)::(x.args.map (·.var)).zip (y.args.map (·.var)))else none
def Dh (c d:Qq):List (Int×Int):=[(c.high,d.high),(c.low,d.low)]
section
variable (ok : Int -> Int -> Bool) (bc : List Qq)
def DQ:List Qq->List Int->List Nat->Bool
 | [],_,_=>true
 | c::r,v,used=>(Xj bc.length).any λk=>if k∈used then false else match Cw ok v (Dh c (bc.getD k ⟨0,0⟩))with
  | some w=>DQ r w (k::used)
  | none=>false
variable (ac : List Qq) (br : List Ep)
def Ds:List Ep->List Int->List Nat->Option (List Nat)
 | [],v,p=>if DQ ok bc ac v []then some p else none
 | x::r,v,p=>(Xj br.length).findSome? λk=>if k∈p then none else match Dr x (br.getD k ⟨⟨#[]⟩,0,[]⟩)with
  | none=>none
  | some l=>match Cw ok v l with
   | none=>none
   | some w=>Ds r w (p++[k])
end
def Dt (ok:Int->Int->Bool) (a b:Mr):Option (List Nat):=
 if a.rels.length≠b.rels.length\/a.cons.length≠b.cons.length\/a.vars.length≠b.vars.length then none else
 match Cw ok (Xq a.vars.length (-1)) [(a.top,b.top),(a.index,b.index)]with
 | none=>none
 | some w=>Ds ok b.cons a.cons b.rels a.rels w []
structure PMv (ok:Int->Int->Bool) (n:Nat) (v:List Int):Prop where
 len:v.length=n
 rng:∀x,inR n x->bnd v x = -1\/inR n (bnd v x)
 inj:∀x y,inR n x->inR n y->0<=bnd v x->bnd v x=bnd v y->x=y
 ok:∀x,inR n x->0<=bnd v x->ok x (bnd v x)=true
def Lev (n:Nat) (v w:List Int):Prop:=∀x,inR n x->0<=bnd v x->bnd w x=bnd v x
theorem Lev.refl (n:Nat) (v:List Int):Lev n v v:=λ_ _ _=>rfl
theorem Lev.trans {n:Nat} {u v w:List Int} (h:Lev n u v) (k:Lev n v w):Lev n u w:=λx hx h0=>by
 have h1:=h x hx h0;rw[k x hx (by omega),h1]
theorem P8 {n:Nat} {v:List Int} (hl:v.length=n) {x y z:Int} (hx:inR n x) (hz:inR n z):bnd (v.set x.toNat y) z=if z=x then y else bnd v z:=by
 unfold bnd;rw[Xd,Xd,Xr];have h1:=hx.1;have h2:=hx.2;have h3:=hz.1;have h4:=hz.2;by_cases e:z=x
 .subst e;rw[zu rfl,zu rfl,zu (by omega)];rfl
 .rw[zw (by omega),zw e]
theorem TX {n:Nat} {v:List Int} (hl:v.length=n) {x:Int} (hx:inR n x):bnd v x∈v:=by
 unfold bnd;have h1:=hx.1;have h2:=hx.2;rw[Xd,Xg (by omega),Xz];exact X8 _
theorem kD {n:Nat} {v:List Int} (hl:v.length=n) {y:Int} (hy:y∈v):∃x,inR n x/\bnd v x=y:=by
 obtain⟨i,hi⟩:=X0 hy;have hlt:=(Xp.1 hi).1;refine⟨i,⟨by omega,by omega⟩,?_⟩;unfold bnd;rw[Xd,Xl,hi];rfl
section
variable {ok : Int -> Int -> Bool} {n : Nat}
theorem P9 {v w:List Int} {x y:Int} (h:PMv ok n v) (hx:inR n x) (hy:inR n y) (e:DP ok v x y=some w):PMv ok n w/\Lev n v w/\bnd w x=y:=by
 unfold DP at e;split at e
 .rename_i hb;injection e with e;subst e;exact⟨h,Lev.refl _ _,hb⟩
 split at e
 .cases e
 rename_i h1 h2;injection e with e;subst e;have h2a:¬0<=bnd v x:=λk=>h2 (.inl k);have h2b:y∉v:=λk=>h2 (.inr (.inl k))
 have h2c:ok x y=true:=by
  cases ho:ok x y with
  | true=>rfl
  | false=>exact absurd (.inr (.inr ho)) h2
 have hb:=λz hz=>P8 h.len (y:=y) hx (z:=z) hz;refine⟨⟨by rw[Xx];exact h.len,λz hz=>?_,λz u hz hu h0 e=>?_,λz hz h0=>?_⟩,λz hz h0=>?_,?_⟩
 .rw[hb z hz];split
  .exact .inr hy
  .exact h.rng z hz
 .rw[hb z hz]at h0 e;rw[hb u hu]at e;by_cases e1:z=x
  .by_cases e2:u=x
   .rw[e1,e2]
   .rw[zu e1,zw e2]at e;exact absurd (e▸TX h.len hu) h2b
  .by_cases e2:u=x
   .rw[zw e1,zu e2]at e;exact absurd (e▸TX h.len hz) h2b
   .rw[zw e1,zw e2]at e;rw[zw e1]at h0;exact h.inj z u hz hu h0 e
 .rw[hb z hz]at h0 ⊢;split
  .rename_i e1;rw[e1];exact h2c
  .rename_i e1;rw[zw e1]at h0;exact h.ok z hz h0
 .rw[hb z hz,zw];intro e1;subst e1;exact h2a h0
 .rw[hb x hx,zu rfl]
theorem Fu:∀{l:List (Int×Int)} {v w:List Int},PMv ok n v->(∀p∈l,inR n p.1/\inR n p.2)->Cw ok v l=some w->PMv ok n w/\Lev n v w/\∀p∈l,bnd w p.1=p.2
 | [],v,w,h,_,e=>by cases e;exact⟨h,Lev.refl _ _,λp hp=>by cases hp⟩
 | p::r,v,w,h,hl,e=>by
  rw[Cw]at e
  cases hb:DP ok v p.1 p.2 with
  | none=>rw[hb]at e;cases e
  | some u=>
   rw[hb]at e;obtain⟨h1,h2,h3⟩:=P9 h (hl p (by simp)).1 (hl p (by simp)).2 hb;obtain⟨h4,h5,h6⟩:=Fu h1 (λq hq=>hl q (by simp[hq])) e;refine⟨h4,h2.trans h5,λq hq=>?_⟩;rcases Xc.1 hq with rfl | hq
   .have:=(hl q (by simp)).2.1;rw[h5 _ (hl q (by simp)).1 (by omega),h3]
   .exact h6 q hq
structure LB (ok:Int->Int->Bool) (n:Nat) (σ:Int->Int):Prop where
 rng:∀x,inR n x->inR n (σ x)
 inj:∀x y,inR n x->inR n y->σ x=σ y->x=y
 ok:∀x,inR n x->ok x (σ x)=true
def IR (n:Nat) (v:List Int) (σ:Int->Int):Prop:=∀x,inR n x->0<=bnd v x->σ x=bnd v x
theorem kE {σ:Int->Int} (hg:LB ok n σ) {v:List Int} (hl:v.length=n) (hr:∀x,inR n x->bnd v x = -1\/inR n (bnd v x)) (he:IR n v σ) {x:Int} (hx:inR n x) :
  ∃w,DP ok v x (σ x)=some w/\w.length=n/\(∀x,inR n x->bnd w x = -1\/inR n (bnd w x))/\IR n w σ:=by
 unfold DP;by_cases hb:bnd v x=σ x
 .rw[zu hb];exact⟨v,rfl,hl,hr,he⟩
 rw[zw hb];have h0:¬0<=bnd v x:=λh=>hb (he x hx h).symm
 have hm:σ x∉v:=λh=>by
  obtain⟨z,hz,e⟩:=kD hl h;have h1:=(hg.rng x hx).1;have:=he z hz (by omega);have:=hg.inj z x hz hx (by omega);subst this;exact hb e
 rw[zw (by rintro(h | h | h);exact h0 h;exact hm h;rw[hg.ok x hx]at h;cases h)];refine⟨_,rfl,by rw[Xx];exact hl,λz hz=>?_,λz hz h=>?_⟩
 .rw[P8 hl hx hz];split
  .exact .inr (hg.rng x hx)
  .exact hr z hz
 .rw[P8 hl hx hz]at h ⊢;split
  .rename_i e;rw[e]
  .rename_i e;rw[zw e]at h;exact he z hz h
theorem Nt {σ:Int->Int} (hg:LB ok n σ):∀{l:List (Int×Int)} {v:List Int},v.length=n->(∀x,inR n x->bnd v x = -1\/inR n (bnd v x))->IR n v σ->(∀p∈l,inR n p.1/\σ p.1=p.2) ->
  ∃w,Cw ok v l=some w/\w.length=n/\(∀x,inR n x->bnd w x = -1\/inR n (bnd w x))/\IR n w σ
 | [],v,hl,hr,he,_=>⟨v,rfl,hl,hr,he⟩
 | p::r,v,hl,hr,he,hp=>by
  obtain⟨h1,h2⟩:=hp p (by simp);obtain⟨u,e1,a1,a2,a3⟩:=kE hg hl hr he h1;obtain⟨w,e2,b1,b2,b3⟩:=Nt (l:=r) hg a1 a2 a3 (λq hq=>hp q (by simp[hq]));refine⟨w,?_,b1,b2,b3⟩;rw[Cw,<-h2,e1];exact e2
theorem kF {ok':Int->Int->Bool} (hle:∀x y,ok' x y=true->ok x y=true) {v w:List Int} {x y:Int} (h:DP ok' v x y=some w):DP ok v x y=some w:=by
 unfold DP at h ⊢;split at h
 .rename_i hb;rw[zu hb];exact h
 .rename_i hb;rw[zw hb];split at h
  .cases h
  .rename_i h2;rw[zw]
   .exact h
   .rintro(k | k | k)
    .exact h2 (.inl k)
    .exact h2 (.inr (.inl k))
    .refine h2 (.inr (.inr ?_))
     cases ho:ok' x y with
     | false=>rfl
     | true=>rw[hle x y ho]at k;cases k
theorem Nu {ok':Int->Int->Bool} (hle:∀x y,ok' x y=true->ok x y=true):∀{l:List (Int×Int)} {v w:List Int},Cw ok' v l=some w->Cw ok v l=some w
 | [],v,w,h=>h
 | p::r,v,w,h=>by
  rw[Cw]at h ⊢
  cases hb:DP ok' v p.1 p.2 with
  | none=>rw[hb]at h;cases h
  | some u=>
   rw[hb]at h;rw[kF hle hb];exact Nu hle h
theorem Nv {ok':Int->Int->Bool}:∀{l:List (Int×Int)} {v w:List Int},PMv ok n v->(∀p∈l,inR n p.1/\inR n p.2)->Cw ok v l=some w->Cw ok' v l=none->∃p∈l,ok' p.1 p.2=false
 | [],v,w,_,_,h,k=>by cases k
 | p::r,v,w,hv,hl,h,k=>by
  rw[Cw]at h k
  cases hb:DP ok v p.1 p.2 with
  | none=>rw[hb]at h;cases h
  | some u=>
   rw[hb]at h
   cases hb':DP ok' v p.1 p.2 with
   | none=>
    refine⟨p,by simp,?_⟩;unfold DP at hb hb';split at hb'
    .cases hb'
    .rename_i h1;rw[zw h1]at hb;split at hb
     .cases hb
     .rename_i h2;split at hb'
      .rename_i h3;rcases h3 with h3 | h3 | h3
       .exact absurd (.inl h3) h2
       .exact absurd (.inr (.inl h3)) h2
       .exact h3
      .cases hb'
   | some u'=>
    rw[hb']at k
    have:u'=u:=by
     unfold DP at hb hb';split at hb'
     .rename_i h1;rw[zu h1]at hb;injection hb with hb;injection hb' with hb';rw[<-hb,<-hb']
     .rename_i h1;rw[zw h1]at hb;split at hb
      .cases hb
      .split at hb'
       .cases hb'
       .injection hb with hb;injection hb' with hb';rw[<-hb,<-hb']
    subst this;obtain⟨h1,_,_⟩:=P9 hv (hl p (by simp)).1 (hl p (by simp)).2 hb;obtain⟨q,hq,hf⟩:=Nv h1 (λq hq=>hl q (by simp[hq])) h k;exact⟨q,by simp[hq],hf⟩
end
inductive Cx {α β:Type} (R:α->β->Prop):List α->List β->Prop
 | nil:Cx R [] []
 | cons {a:α} {b:β} {l:List α} {m:List β}:R a b->Cx R l m->Cx R (a::l) (b::m)
theorem Cx.mono {α β:Type} {R S:α->β->Prop} (h:∀a b,R a b->S a b) {l:List α} {m:List β} (k:Cx R l m):Cx S l m:=by
 induction k with
 | nil=>exact .nil
 | cons h1 _ ih=>exact .cons (h _ _ h1) ih
theorem Cx.len {α β:Type} {R:α->β->Prop} {l:List α} {m:List β} (k:Cx R l m):l.length=m.length:=by
 induction k with
 | nil=>rfl
 | cons _ _ ih=>simp[ih]
theorem Cx.left {α β:Type} {R:α->β->Prop} {l:List α} {m:List β} (k:Cx R l m):∀a∈l,∃b∈m,R a b:=by
 induction k with
 | nil=>intro a ha;cases ha
 | cons h1 _ ih=>
  intro a ha;rcases Xc.1 ha with rfl | ha
  .exact⟨_,by simp,h1⟩
  .obtain⟨b,hb,hr⟩:=ih a ha;exact⟨b,by simp[hb],hr⟩
theorem TY {α:Type} {f g:α->Bool}:∀{l:List α},(∀x∈l,f x=g x)->l.any f=l.any g
 | [],_=>rfl
 | a::l,h=>by rw[X9,X9,h a (by simp),TY λx hx=>h x (by simp[hx])]
theorem TZ {α β:Type} {f g:α->Option β}:∀{l:List α},(∀x∈l,f x=g x)->l.findSome? f=l.findSome? g
 | [],_=>rfl
 | a::l,h=>by rw[Ya,Ya,h a (by simp),TZ λx hx=>h x (by simp[hx])]
def Nw (br:List Ep) (w:List Int) (x:Ep) (k:Nat):Prop:=k<br.length/\∃l,Dr x (br.getD k ⟨⟨#[]⟩,0,[]⟩)=some l/\∀p∈l,bnd w p.1=p.2
def JN (bc:List Qq) (w:List Int) (c:Qq) (k:Nat):Prop:=k<bc.length/\∀p∈Dh c (bc.getD k ⟨0,0⟩),bnd w p.1=p.2
def inE (n:Nat) (x:Ep):Prop:=∀v∈B7 x,inR n v
def inQ (n:Nat) (c:Qq):Prop:=∀v∈BE c,inR n v
theorem IU {α:Type} {l:List α} {k:Nat} (d:α) (h:k<l.length):l.getD k d∈l:=by
 rw[Xd,Xg h,Xz];exact X8 _
theorem Nx {n:Nat} {c d:Qq} (hc:inQ n c) (hd:inQ n d):∀p∈Dh c d,inR n p.1/\inR n p.2:=by
 intro p hp;simp only[Dh,Xc,Xs,or_false]at hp;rcases hp with rfl | rfl
 .exact⟨hc _ (by simp[BE]),hd _ (by simp[BE])⟩
 .exact⟨hc _ (by simp[BE]),hd _ (by simp[BE])⟩
theorem Nz {n:Nat} {x y:Ep} {l:List (Int×Int)} (hx:inE n x) (hy:inE n y) (h:Dr x y=some l):∀p∈l,inR n p.1/\inR n p.2:=by
 intro p hp;unfold Dr at h;split at h
 .injection h with h;subst h;rcases Xc.1 hp with rfl | hp
  .exact⟨hx _ (by simp[B7]),hy _ (by simp[B7])⟩
  .obtain⟨h1,h2⟩:=Yb (show(p.1,p.2)∈_ from hp);exact⟨hx _ (by simp only[B7,Xc];exact .inr h1),hy _ (by simp only[B7,Xc];exact .inr h2)⟩
 .cases h
theorem kG {x y:Ep} {l:List (Int×Int)} (h:Dr x y=some l):∀v∈B7 x,∃p∈l,p.1=v:=by
 intro v hv;unfold Dr at h;split at h
 .rename_i hc;injection h with h;subst h;rcases Xc.1 hv with rfl | hv
  .exact⟨_,List.mem_cons_self,rfl⟩
  .obtain⟨i,hi⟩:=X0 hv
   have hl:(x.args.map (·.var)).length=(y.args.map (·.var)).length:=by
    have:=congrArg X3 hc.2;simpa using this
   have hlt:=(Xp.1 hi).1;refine⟨((x.args.map (·.var))[i],(y.args.map (·.var))[i]'(by omega)),List.mem_cons_of_mem _ ?_,by rw[(Xp.1 hi).2]⟩
   have:((x.args.map (·.var)).zip (y.args.map (·.var)))[i]?=some ((x.args.map (·.var))[i],(y.args.map (·.var))[i]'(by omega)):=by
    rw[List.getElem?_zip_eq_some];exact⟨Xg hlt,Xg (by omega)⟩
   exact List.mem_of_getElem? this
 .cases h
theorem kH {x y:Ep} {l:List (Int×Int)} {σ:Int->Int} (h:Dr x y=some l) (hb:∀p∈l,σ p.1=p.2):Bu σ x=y:=by
 unfold Dr at h;split at h
 .rename_i hc;injection h with h;subst h;obtain⟨p,lb,as⟩:=x;obtain⟨p',lb',as'⟩:=y;simp only at hc hb ⊢;have h1:σ lb=lb':=hb (lb,lb') (by simp);have h2:∀p∈(as.map (·.var)).zip (as'.map (·.var)),σ p.1=p.2:=λp hp=>hb p (by simp[hp])
  have key:∀(as as':List Ag),as.map (·.role)=as'.map (·.role)->(∀p∈(as.map (·.var)).zip (as'.map (·.var)),σ p.1=p.2)->as.map (λa=>(⟨a.role,σ a.var⟩:Ag))=as':=by
   intro as
   induction as with
   | nil=>intro as' h _;cases as' with
    | nil=>rfl
    | cons _ _=>cases h
   | cons a as ih=>
    intro as' h hb
    cases as' with
    | nil=>cases h
    | cons b as'=>
     simp only[Xe]at h hb ⊢;injection h with h1 h2;rw[ih as' h2 λp hp=>hb p (by simp only[Yc,Xc];exact .inr hp)];have:=hb (a.var,b.var) (by simp);obtain⟨r,v⟩:=b;simp only at this h1 ⊢;rw[this,h1]
  unfold Bu;simp only;rw[hc.1,h1,key as as' hc.2 h2]
 .cases h
theorem kI {x y:Ep} {σ:Int->Int} (h:Bu σ x=y):∃l,Dr x y=some l/\∀p∈l,σ p.1=p.2:=by
 subst h;unfold Dr Bu;simp only[Xi];rw[zu ⟨trivial,rfl⟩];refine⟨_,rfl,λp hp=>?_⟩;rcases Xc.1 hp with rfl | hp
 .rfl
 .have key:∀(as:List Ag) p,p∈(as.map (·.var)).zip (as.map ((λa:Ag=>a.var)∘λa:Ag=>(⟨a.role,σ a.var⟩:Ag)))->σ p.1=p.2:=by
   intro as
   induction as with
   | nil=>intro p hp;simp at hp
   | cons a as ih=>
    intro p hp;simp only[Xe,Yc,Xc]at hp;rcases hp with rfl | hp
    .rfl
    .exact ih p hp
  exact key x.args p (by simpa[Xi]using hp)
section
variable {ok : Int -> Int -> Bool} {n : Nat} {bc ac : List Qq} {br : List Ep}
theorem Ho {v w:List Int} (h:Lev n v w) {l:List (Int×Int)} (hl:∀p∈l,inR n p.1/\inR n p.2) (hb:∀p∈l,bnd v p.1=p.2):∀p∈l,bnd w p.1=p.2:=λp hp=>by
 have h1:=hl p hp;have h2:=hb p hp;have:=h1.2.1;rw[h p.1 h1.1 (by omega),h2]
theorem PA (hbc:∀c∈bc,inQ n c):∀{l:List Qq} {v:List Int} {used:List Nat},(∀c∈l,inQ n c)->PMv ok n v->DQ ok bc l v used=true ->
  ∃ks w,Cx (JN bc w) l ks/\ks.Nodup/\(∀k∈ks,k∉used)/\PMv ok n w/\Lev n v w
 | [],v,used,_,hv,_=>⟨[],v,.nil,Xu,λk hk=>(by cases hk),hv,Lev.refl _ _⟩
 | c::r,v,used,hl,hv,h=>by
  rw[DQ,Yd]at h;obtain⟨k,hk,h⟩:=h;have hk:=Xk.1 hk;split at h
  .cases h
  rename_i hu;split at h
  .rename_i w1 hb;have hin:=Nx (hl c (by simp)) (hbc _ (IU ⟨0,0⟩ hk));obtain⟨h1,h2,h3⟩:=Fu hv hin hb;obtain⟨ks,w,i1,i2,i3,i4,i5⟩:=PA hbc (λd hd=>hl d (by simp[hd])) h1 h;refine⟨k::ks,w,.cons ⟨hk,Ho i5 hin h3⟩ i1,Xf.2 ⟨λe=>i3 k e (by simp),i2⟩,λj hj=>?_,i4,h2.trans i5⟩;rcases Xc.1 hj with rfl | hj
   .exact hu
   .exact λe=>i3 j hj (by simp[e])
  .cases h
theorem N3 (hbc:∀c∈bc,inQ n c) (hac:∀c∈ac,inQ n c) (hbr:∀x∈br,inE n x):∀{l:List Ep} {v:List Int} {p q:List Nat},(∀x∈l,inE n x)->PMv ok n v->Ds ok bc ac br l v p=some q ->
  ∃ks w cs,q=p++ks/\Cx (Nw br w) l ks/\ks.Nodup/\(∀k∈ks,k∉p)/\PMv ok n w/\Lev n v w/\Cx (JN bc w) ac cs/\cs.Nodup
 | [],v,p,q,_,hv,h=>by
  rw[Ds]at h;split at h
  .rename_i hc;injection h with h;obtain⟨cs,w,i1,i2,_,i4,i5⟩:=PA hbc hac hv hc;exact⟨[],w,cs,by simp[h],.nil,Xu,λk hk=>(by cases hk),i4,i5,i1,i2⟩
  .cases h
 | x::r,v,p,q,hl,hv,h=>by
  rw[Ds]at h;obtain⟨k,hk,h⟩:=List.exists_of_findSome?_eq_some h;have hk:=Xk.1 hk;split at h
  .cases h
  rename_i hu;split at h
  .cases h
  rename_i l hp;split at h
  .cases h
  rename_i w1 hb;have hin:=Nz (hl x (by simp)) (hbr _ (IU _ hk)) hp;obtain⟨h1,h2,h3⟩:=Fu hv hin hb;obtain⟨ks,w,cs,i0,i1,i2,i3,i4,i5,i6,i7⟩:=N3 hbc hac hbr (λy hy=>hl y (by simp[hy])) h1 h;refine⟨k::ks,w,cs,by rw[i0];simp,.cons ⟨hk,l,hp,Ho i5 hin h3⟩ i1,Xf.2 ⟨λe=>i3 k e (by simp),i2⟩,λj hj=>?_,i4,h2.trans i5,i6,i7⟩;rcases Xc.1 hj with rfl | hj
  .exact hu
  .exact λe=>i3 j hj (by simp[e])
theorem Ua {σ:Int->Int} (hg:LB ok n σ):∀{l:List Qq} {v:List Int} {used ks:List Nat},(∀c∈l,inQ n c)->v.length=n->(∀x,inR n x->bnd v x = -1\/inR n (bnd v x))->IR n v σ ->
  Cx (λc k=>k<bc.length/\Bv σ c=bc.getD k ⟨0,0⟩) l ks->ks.Nodup->(∀k∈ks,k∉used)->DQ ok bc l v used=true
 | [],v,used,ks,_,_,_,_,_,_,_=>rfl
 | c::r,v,used,ks,hl,hv,hr,he,h,hn,hu=>by
  cases h with
  | cons h1 h2=>
   rename_i k ks;obtain⟨g1,g2⟩:=h1;rw[DQ,Yd];refine⟨k,Xk.2 g1,?_⟩;rw[zw (hu k (by simp))]
   have hp:∀p∈Dh c (bc.getD k ⟨0,0⟩),inR n p.1/\σ p.1=p.2:=by
    rw[<-g2];intro p hp;simp only[Dh,Bv,Xc,Xs,or_false]at hp;rcases hp with rfl | rfl
    .exact⟨hl c (by simp) _ (by simp[BE]),rfl⟩
    .exact⟨hl c (by simp) _ (by simp[BE]),rfl⟩
   obtain⟨w,e,a1,a2,a3⟩:=Nt hg hv hr he hp;rw[e];obtain⟨n1,n2⟩:=Xf.1 hn;refine Ua hg (λd hd=>hl d (by simp[hd])) a1 a2 a3 h2 n2 λj hj e=>?_;rcases Xc.1 e with rfl | e
   .exact n1 hj
   .exact hu j (by simp[hj]) e
theorem Ub {σ:Int->Int} (hg:LB ok n σ) (hac:∀c∈ac,inQ n c) {cs:List Nat} (hcs:Cx (λc k=>k<bc.length/\Bv σ c=bc.getD k ⟨0,0⟩) ac cs) (hcn:cs.Nodup) :
  ∀{l:List Ep} {v:List Int} {p ks:List Nat},(∀x∈l,inE n x)->v.length=n->(∀x,inR n x->bnd v x = -1\/inR n (bnd v x))->IR n v σ ->
  Cx (λx k=>k<br.length/\Bu σ x=br.getD k ⟨⟨#[]⟩,0,[]⟩) l ks->ks.Nodup->(∀k∈ks,k∉p)->(Ds ok bc ac br l v p).isSome=true
 | [],v,p,ks,_,hv,hr,he,_,_,_=>by
  rw[Ds,Ua hg hac hv hr he hcs hcn (λ_ _ h=>by cases h)];rfl
 | x::r,v,p,ks,hl,hv,hr,he,h,hn,hu=>by
  cases h with
  | cons h1 h2=>
   rename_i k ks;obtain⟨g1,g2⟩:=h1;rw[Ds,List.findSome?_isSome_iff];refine⟨k,Xk.2 g1,?_⟩;rw[zw (hu k (by simp))];obtain⟨l,hp1,hp2⟩:=kI g2;rw[hp1]
   have hp:∀p∈l,inR n p.1/\σ p.1=p.2:=λp hp=>by
    refine⟨?_,hp2 p hp⟩;unfold Dr at hp1;split at hp1
    .injection hp1 with hp1;subst hp1;rcases Xc.1 hp with rfl | hp
     .exact hl x (by simp) _ (by simp[B7])
     .obtain⟨h1,_⟩:=Yb (show(p.1,p.2)∈_ from hp);exact hl x (by simp) _ (by simp only[B7,Xc];exact .inr h1)
    .cases hp1
   obtain⟨w,e,a1,a2,a3⟩:=Nt hg hv hr he hp;simp only;rw[e];obtain⟨n1,n2⟩:=Xf.1 hn;refine Ub hg hac hcs hcn (λd hd=>hl d (by simp[hd])) a1 a2 a3 h2 n2 λj hj e=>?_;rcases Xt.1 e with e | e
   .exact hu j (by simp[hj]) e
   .rw[X5.1 e]at hj;exact n1 hj
theorem Uc {ok':Int->Int->Bool} (hle:∀x y,ok' x y=true->ok x y=true) (hbc:∀c∈bc,inQ n c):∀{l:List Qq} {v:List Int} {used:List Nat},(∀c∈l,inQ n c)->PMv ok n v->PMv ok' n v ->
  (∀ks w,Cx (JN bc w) l ks->ks.Nodup->(∀k∈ks,k∉used)->PMv ok n w->Lev n v w->∀x,inR n x->0<=bnd w x->ok' x (bnd w x)=true)->DQ ok' bc l v used=DQ ok bc l v used
 | [],v,used,_,_,_,_=>rfl
 | c::r,v,used,hl,hv,hv',H=>by
  rw[DQ,DQ];refine TY λk hk=>?_;have hk:=Xk.1 hk;by_cases hu:k∈used
  .rw[zu hu,zu hu]
  rw[zw hu,zw hu];have hin:=Nx (hl c (by simp)) (hbc _ (IU ⟨0,0⟩ hk))
  cases hb':Cw ok' v (Dh c (bc.getD k ⟨0,0⟩))with
  | some w=>
   have hb:=Nu hle hb';rw[hb];obtain⟨h1,h2,h3⟩:=Fu hv hin hb;obtain⟨h1',_,_⟩:=Fu hv' hin hb';refine Uc hle hbc (λd hd=>hl d (by simp[hd])) h1 h1' λks w' a1 a2 a3 a4 a5=>?_
   exact H (k::ks) w' (.cons ⟨hk,Ho a5 hin h3⟩ a1) (Xf.2 ⟨λe=>a3 k e (by simp),a2⟩) (λj hj=>by
    rcases Xc.1 hj with rfl | hj
    .exact hu
    .exact λe=>a3 j hj (by simp[e])) a4 (h2.trans a5)
  | none=>
   cases hb:Cw ok v (Dh c (bc.getD k ⟨0,0⟩))with
   | none=>rfl
   | some u=>
    simp only;obtain⟨p,hp,hf⟩:=Nv hv hin hb hb';obtain⟨h1,h2,h3⟩:=Fu hv hin hb
    cases hc:DQ ok bc r u (k::used)with
    | false=>rfl
    | true=>
     obtain⟨ks,w,a1,a2,a3,a4,a5⟩:=PA hbc (λd hd=>hl d (by simp[hd])) h1 hc;have hq:=Ho a5 hin h3
     have:=H (k::ks) w (.cons ⟨hk,hq⟩ a1) (Xf.2 ⟨λe=>a3 k e (by simp),a2⟩) (λj hj=>by
      rcases Xc.1 hj with rfl | hj
      .exact hu
      .exact λe=>a3 j hj (by simp[e])) a4 (h2.trans a5) p.1 (hin p hp).1 (by rw[hq p hp];exact(hin p hp).2.1)
     rw[hq p hp,hf]at this;cases this
theorem Ud {ok':Int->Int->Bool} (hle:∀x y,ok' x y=true->ok x y=true) (hbc:∀c∈bc,inQ n c) (hac:∀c∈ac,inQ n c) (hbr:∀x∈br,inE n x):∀{l:List Ep} {v:List Int} {p:List Nat},(∀x∈l,inE n x)->PMv ok n v->PMv ok' n v ->
  (∀ks w cs,Cx (Nw br w) l ks->ks.Nodup->(∀k∈ks,k∉p)->PMv ok n w->Lev n v w->Cx (JN bc w) ac cs->cs.Nodup->∀x,inR n x->0<=bnd w x->ok' x (bnd w x)=true)->Ds ok' bc ac br l v p=Ds ok bc ac br l v p
 | [],v,p,_,hv,hv',H=>by
  rw[Ds,Ds,Uc hle hbc hac hv hv' λks w a1 a2 _ a4 a5=>H [] w ks .nil Xu (λk hk=>by cases hk) a4 a5 a1 a2]
 | x::r,v,p,hl,hv,hv',H=>by
  rw[Ds,Ds];refine TZ λk hk=>?_;have hk:=Xk.1 hk;by_cases hu:k∈p
  .rw[zu hu,zu hu]
  rw[zw hu,zw hu]
  cases hp:Dr x (br.getD k ⟨⟨#[]⟩,0,[]⟩)with
  | none=>rfl
  | some l=>
  simp only;have hin:=Nz (hl x (by simp)) (hbr _ (IU _ hk)) hp
  cases hb':Cw ok' v l with
  | some w=>
   have hb:=Nu hle hb';rw[hb];obtain⟨h1,h2,h3⟩:=Fu hv hin hb;obtain⟨h1',_,_⟩:=Fu hv' hin hb';refine Ud hle hbc hac hbr (λd hd=>hl d (by simp[hd])) h1 h1' λks w' cs a1 a2 a3 a4 a5 a6 a7=>?_
   exact H (k::ks) w' cs (.cons ⟨hk,l,hp,Ho a5 hin h3⟩ a1) (Xf.2 ⟨λe=>a3 k e (by simp),a2⟩) (λj hj=>by
    rcases Xc.1 hj with rfl | hj
    .exact hu
    .exact λe=>a3 j hj (by simp[e])) a4 (h2.trans a5) a6 a7
  | none=>
   cases hb:Cw ok v l with
   | none=>rfl
   | some u=>
    simp only;obtain⟨pr,hpr,hf⟩:=Nv hv hin hb hb';obtain⟨h1,h2,h3⟩:=Fu hv hin hb
    cases hc:Ds ok bc ac br r u (p++[k])with
    | none=>rfl
    | some q=>
     obtain⟨ks,w,cs,_,a1,a2,a3,a4,a5,a6,a7⟩:=N3 hbc hac hbr (λd hd=>hl d (by simp[hd])) h1 hc;have hq:=Ho a5 hin h3
     have:=H (k::ks) w cs (.cons ⟨hk,l,hp,hq⟩ a1) (Xf.2 ⟨λe=>a3 k e (by simp),a2⟩) (λj hj=>by
      rcases Xc.1 hj with rfl | hj
      .exact hu
      .exact λe=>a3 j hj (by simp[e])) a4 (h2.trans a5) a6 a7 pr.1 (hin pr hpr).1 (by rw[hq pr hpr];exact(hin pr hpr).2.1)
     rw[hq pr hpr,hf]at this;cases this
end
def Fe (a b:Mr) (x y:Int):Bool:=decide (a.vars.getD x.toNat ⟨#[]⟩=b.vars.getD y.toNat ⟨#[]⟩)
def full (m:Mr):Prop:=∀x,inR m.vars.length x->x∈occ m
theorem okV.inE {m:Mr} (h:okV m):∀x∈m.rels,inE m.vars.length x:=λ_ hx _ hv=>h.rel hx hv
theorem okV.inQ {m:Mr} (h:okV m):∀c∈m.cons,inQ m.vars.length c:=λ_ hc _ hv=>h.con hc hv
theorem Ih (ok:Int->Int->Bool) (n:Nat):PMv ok n (Xq n (-1)):=by
 have hb:∀x,inR n x->bnd (Xq n (-1)) x = -1:=λx hx=>by
  unfold bnd;have h1:=hx.1;have h2:=hx.2;rw[Xd,Yf,zu (by omega)];rfl
 exact⟨by simp,λx hx=>.inl (hb x hx),λx y hx _ h _=>by rw[hb x hx]at h;omega,λx hx h=>by rw[hb x hx]at h;omega⟩
theorem kJ (n:Nat) (σ:Int->Int):IR n (Xq n (-1)) σ:=λx hx h=>by
 rcases (Ih (λ_ _=>true) n).rng x hx with h1 | h1
 .omega
 .have:=h1.1;exfalso;unfold bnd at h;have h1:=hx.1;have h2:=hx.2;rw[Xd,Yf,zu (by omega)]at h;simp at h
structure Sol (ok:Int->Int->Bool) (a b:Mr) (p:List Nat) (w:List Int):Prop where
 vl:a.vars.length=b.vars.length
 rl:a.rels.length=b.rels.length
 cl:a.cons.length=b.cons.length
 pm:PMv ok a.vars.length w
 top:bnd w a.top=b.top
 index:bnd w a.index=b.index
 rels:Cx (Nw b.rels w) a.rels p
 nd:p.Nodup
 cons:∃cs:List Nat,Cx (JN b.cons w) a.cons cs/\cs.Nodup
section
variable {a b : Mr} {ok : Int -> Int -> Bool}
theorem PB (ha:okV a) (hb:okV b) {p:List Nat} (h:Dt ok a b=some p):∃w,Sol ok a b p w:=by
 unfold Dt at h;split at h
 .cases h
 rename_i hl
 have h1:a.rels.length=b.rels.length:=by
  by_cases e:a.rels.length=b.rels.length
  .exact e
  .exact absurd (.inl e) hl
 have h2:a.cons.length=b.cons.length:=by
  by_cases e:a.cons.length=b.cons.length
  .exact e
  .exact absurd (.inr (.inl e)) hl
 have h3:a.vars.length=b.vars.length:=by
  by_cases e:a.vars.length=b.vars.length
  .exact e
  .exact absurd (.inr (.inr e)) hl
 split at h
 .cases h
 rename_i w hw
 have hin:∀q∈[(a.top,b.top),(a.index,b.index)],inR a.vars.length q.1/\inR a.vars.length q.2:=by
  intro q hq;simp only[Xc,Xs,or_false]at hq;rcases hq with rfl | rfl
  .exact⟨ha.top,by rw[h3];exact hb.top⟩
  .exact⟨ha.index,by rw[h3];exact hb.index⟩
 obtain⟨g1,g2,g3⟩:=Fu (Ih ok _) hin hw;have hb1:=hb.inE;have hb2:=hb.inQ;rw[<-h3]at hb1 hb2;obtain⟨ks,w2,cs,i0,i1,i2,i3,i4,i5,i6,i7⟩:=N3 hb2 ha.inQ hb1 ha.inE g1 h;rw[List.nil_append]at i0;subst i0;have g4:=Ho i5 hin g3;exact⟨w2,h3,h1,h2,i4,g4 (a.top,b.top) (by simp),g4 (a.index,b.index) (by simp),i1,i2,cs,i6,i7⟩
theorem Ue {α β:Type} {f:α->β} {m:List β} {l:List α} {ks:List Nat} {d:β} (h:Cx (λx k=>k<m.length/\f x=m.getD k d) l ks):pick m ks=(l.map f).map some:=by
 unfold pick
 induction h with
 | nil=>rfl
 | cons h1 _ ih=>
  obtain⟨h2,h3⟩:=h1;rw[Xe,Xe,Xe,ih,h3,Xd,Xg h2];rfl
theorem Sol.relE {p:List Nat} {w:List Int} (h:Sol ok a b p w):Cx (λx k=>k<b.rels.length/\Bu (bnd w) x=b.rels.getD k ⟨⟨#[]⟩,0,[]⟩) a.rels p:=
 h.rels.mono λx k ⟨h1,l,h2,h3⟩=>⟨h1,kH h2 h3⟩
theorem kK {c d:Qq} {w:List Int} (h:∀p∈Dh c d,bnd w p.1=p.2):Bv (bnd w) c=d:=by
 obtain⟨x,y⟩:=d;have h1:=h (c.high,x) (by simp[Dh]);have h2:=h (c.low,y) (by simp[Dh]);unfold Bv;simp only at h1 h2;rw[h1,h2]
theorem Sol.bound (ha:okV a) (hb:okV b) (hf:full a) {p:List Nat} {w:List Int} (h:Sol ok a b p w):∀x,inR a.vars.length x->inR a.vars.length (bnd w x):=by
 intro x hx;have ho:=hf x hx;have key:0<=bnd w x->inR a.vars.length (bnd w x):=λh0=>(h.pm.rng x hx).resolve_left (by omega);simp only[occ,Xc,Xt,X1]at ho;rcases ho with rfl | rfl | ⟨r,hr,hv⟩ | ⟨c,hc,hv⟩
 .rw[h.top,h.vl];exact hb.top
 .rw[h.index,h.vl];exact hb.index
 .obtain⟨k,_,h1,l,h2,h3⟩:=h.rels.left r hr;obtain⟨q,hq,rfl⟩:=kG h2 x hv;have hb1:=hb.inE;rw[<-h.vl]at hb1;have:=(Nz (ha.inE r hr) (hb1 _ (IU _ h1)) h2 q hq).2;rw[h3 q hq];exact this
 .obtain⟨cs,h1,_⟩:=h.cons;obtain⟨k,_,h2,h3⟩:=h1.left c hc;have hb1:=hb.inQ;rw[<-h.vl]at hb1;have hin:=Nx (ha.inQ c hc) (hb1 _ (IU ⟨0,0⟩ h2));simp only[BE,Xc,Xs,or_false]at hv;rcases hv with rfl | rfl
  .have:=h3 (c.high,(b.cons.getD k ⟨0,0⟩).high) (by simp[Dh]);rw[this];exact(hin (c.high,(b.cons.getD k ⟨0,0⟩).high) (by simp[Dh])).2
  .have:=h3 (c.low,(b.cons.getD k ⟨0,0⟩).low) (by simp[Dh]);rw[this];exact(hin (c.low,(b.cons.getD k ⟨0,0⟩).low) (by simp[Dh])).2
theorem Sol.iso (ha:okV a) (hb:okV b) (hf:full a) (hok:∀x y,ok x y=true->Fe a b x y=true) {p:List Nat} {w:List Int} (h:Sol ok a b p w):Iso a b (bnd w):=by
 have hbd:=h.bound ha hb hf;refine⟨h.vl,hbd,λx y hx hy e=>h.pm.inj x y hx hy (hbd x hx).1 e,λx hx=>?_,h.top,h.index,?_,?_⟩
 .exact of_decide_eq_true (hok _ _ (h.pm.ok x hx (hbd x hx).1))
 .exact TV h.nd (by rw[<-h.rels.len];exact h.rl) (Ue h.relE)
 .obtain⟨cs,h1,h2⟩:=h.cons;exact TV h2 (by rw[<-h1.len];exact h.cl) (Ue (d:=⟨0,0⟩) (h1.mono λc k ⟨g1,g2⟩=>⟨g1,kK g2⟩))
theorem Uf {α β:Type} {f:α->β} {m:List β} {l:List α} {d:β} (h:(l.map f).Perm m):∃ks:List Nat,ks.Nodup/\Cx (λx k=>k<m.length/\f x=m.getD k d) l ks:=by
 obtain⟨ks,h1,h2⟩:=kB h;refine⟨ks,h1.nodup_iff.2 Yg,?_⟩
 have key:∀(l:List α) (ks:List Nat),pick m ks=(l.map f).map some->Cx (λx k=>k<m.length/\f x=m.getD k d) l ks:=by
  intro l
  induction l with
  | nil=>intro ks h;cases ks with
   | nil=>exact .nil
   | cons _ _=>cases h
  | cons x l ih=>
   intro ks h
   cases ks with
   | nil=>cases h
   | cons k ks=>
    unfold pick at h ih;rw[Xe,Xe,Xe]at h;injection h with e1 e2;have hk:=(Xp.1 e1).1;refine .cons ⟨hk,?_⟩ (ih ks e2);rw[Xd,e1];rfl
 exact key l ks h2
theorem Ug (ha:okV a) {σ:Int->Int} (h:Iso a b σ) (hok:∀x,inR a.vars.length x->ok x (σ x)=true):(Dt ok a b).isSome=true:=by
 unfold Dt
 have h1:a.rels.length=b.rels.length:=by have:=h.rels.length_eq;simpa using this
 have h2:a.cons.length=b.cons.length:=by have:=h.cons.length_eq;simpa using this
 rw[zw (by rintro(e | e | e);exact e h1;exact e h2;exact e h.len)]
 have hg:LB ok a.vars.length σ:=⟨h.rng,h.inj,hok⟩
 obtain⟨w,e,a1,a2,a3⟩:=Nt (l:=[(a.top,b.top),(a.index,b.index)]) hg (Ih ok _).len (Ih ok _).rng (kJ _ _) (λq hq=>by
  simp only[Xc,Xs,or_false]at hq;rcases hq with rfl | rfl
  .exact⟨ha.top,h.top⟩
  .exact⟨ha.index,h.index⟩)
 rw[e];simp only;obtain⟨ks,k1,k2⟩:=Uf (d:=(⟨⟨#[]⟩,0,[]⟩:Ep)) h.rels;obtain⟨cs,c1,c2⟩:=Uf (d:=(⟨0,0⟩:Qq)) h.cons;exact Ub hg ha.inQ c2 c1 ha.inE a1 a2 a3 k2 k1 (λ_ _ h=>by cases h)
theorem kL {ok':Int->Int->Bool} (ha:okV a) (hb:okV b) (hf:full a) (hle:∀x y,ok' x y=true->ok x y=true) (hok:∀x y,ok x y=true->Fe a b x y=true)
  (hp:∀σ,Iso a b σ->∀x,inR a.vars.length x->ok' x (σ x)=true):Dt ok' a b=Dt ok a b:=by
 cases hm:Dt ok a b with
 | none=>
  cases hm':Dt ok' a b with
  | none=>rfl
  | some p=>
   obtain⟨w,hs⟩:=PB ha hb hm';have hi:=hs.iso ha hb hf (λx y h=>hok x y (hle x y h));have:=Ug (ok:=ok) ha hi λx hx=>hle _ _ (hp _ hi x hx);rw[hm]at this;cases this
 | some p=>
  obtain⟨w0,hs0⟩:=PB ha hb hm;have h1:=hs0.rl;have h2:=hs0.cl;have h3:=hs0.vl
  have hneg:¬(a.rels.length≠b.rels.length\/a.cons.length≠b.cons.length\/a.vars.length≠b.vars.length):=by
   rintro(e | e | e)
   .exact e h1
   .exact e h2
   .exact e h3
  have hin:∀q∈[(a.top,b.top),(a.index,b.index)],inR a.vars.length q.1/\inR a.vars.length q.2:=by
   intro q hq;simp only[Xc,Xs,or_false]at hq;rcases hq with rfl | rfl
   .exact⟨ha.top,by rw[h3];exact hb.top⟩
   .exact⟨ha.index,by rw[h3];exact hb.index⟩
  have hb1:=hb.inE;have hb2:=hb.inQ;rw[<-h3]at hb1 hb2;unfold Dt at hm ⊢;rw[zw hneg]at hm ⊢
  cases hw:Cw ok (Xq a.vars.length (-1)) [(a.top,b.top),(a.index,b.index)]with
  | none=>rw[hw]at hm;cases hm
  | some w=>
   rw[hw]at hm;simp only at hm;obtain⟨g1,g2,g3⟩:=Fu (Ih ok _) hin hw
   have sol:∀ks w' cs,Cx (Nw b.rels w') a.rels ks->ks.Nodup->PMv ok a.vars.length w'->Lev a.vars.length w w'->Cx (JN b.cons w') a.cons cs->cs.Nodup->∀x,inR a.vars.length x->0<=bnd w' x->ok' x (bnd w' x)=true:=λks w' cs k1 k2 k3 k4 k5 k6 x hx _=>by
    have g4:=Ho k4 hin g3
    have hs:Sol ok a b ks w':=⟨h3,h1,h2,k3,g4 (a.top,b.top) (by simp),g4 (a.index,b.index) (by simp),k1,k2,cs,k5,k6⟩
    exact hp _ (hs.iso ha hb hf hok) x hx
   obtain⟨ks,w2,cs,_,i1,i2,_,i4,i5,i6,i7⟩:=N3 hb2 ha.inQ hb1 ha.inE g1 hm;have hall:=sol ks w2 cs i1 i2 i4 i5 i6 i7
   cases hw':Cw ok' (Xq a.vars.length (-1)) [(a.top,b.top),(a.index,b.index)]with
   | none=>
    exfalso;obtain⟨q,hq,hfq⟩:=Nv (Ih ok _) hin hw hw';have hq2:=Ho i5 hin g3 q hq;have:=hall q.1 (hin q hq).1 (by rw[hq2];exact(hin q hq).2.1);rw[hq2,hfq]at this;cases this
   | some u=>
    have:=Nu hle hw';rw[hw]at this;injection this with this;subst this;simp only;rw[<-hm];obtain⟨g1',_,_⟩:=Fu (Ih ok' _) hin hw';exact Ud hle hb2 ha.inQ hb1 ha.inE g1 g1' λks w' cs k1 k2 _ k4 k5 k6 k7=>sol ks w' cs k1 k2 k4 k5 k6 k7
theorem kM (ha:okV a) (hb:okV b) (hf:full a):(Dt (Fe a b) a b).isSome=true ↔ TW a b:=by
 constructor
 .intro h
  cases hm:Dt (Fe a b) a b with
  | none=>rw[hm]at h;cases h
  | some p=>
   obtain⟨w,hs⟩:=PB ha hb hm;exact⟨_,hs.iso ha hb hf λ_ _ h=>h⟩
 .rintro⟨σ,h⟩;exact Ug ha h λx hx=>zq (h.sort x hx)
end
abbrev wb (s:ByteArray):List UInt8:=s.data.toList
abbrev ob (l:List UInt8):ByteArray:=⟨l.toArray⟩
def vS (out:List ByteArray) (x:Int):ByteArray:=out.getD x.toNat ⟨#[]⟩
def EI (out:List ByteArray) (a:Ag):List UInt8:=32::(wb a.role++32::wb (vS out a.var))
def Du (out:List ByteArray) (x:Ep):List UInt8:=wb x.pred++40::(wb (vS out x.label)++(x.args.flatMap (EI out)++[41]))
def N7:ByteArray:=⟨#[116,111,112]⟩
def N8:ByteArray:=⟨#[105,110,100,101,120]⟩
def N9:List UInt8:=[108,97,98,101,108,32]
def PC:List UInt8:=[104,105,103,104,32]
def PD:List UInt8:=[108,111,119,32]
def Ff (out:List ByteArray) (x:Ep):List (Int×ByteArray):=(x.label,ob (N9++Du out x))::x.args.map λa=>(a.var,ob (wb a.role++32::Du out x))
def FV (out:List ByteArray) (c:Qq):List (Int×ByteArray):=[(c.high,ob (PC++wb (vS out c.low))),(c.low,ob (PD++wb (vS out c.high)))]
def D7 (out:List ByteArray) (m:Mr):List (Int×ByteArray):=(m.top,N7)::(m.index,N8)::(m.rels.flatMap (Ff out)++m.cons.flatMap (FV out))
def nxt (l:List (Int×ByteArray)) (v:Int):List ByteArray:=(l.filter λp=>decide (p.1=v)).map (·.2)
section
variable (Hs : ByteArray -> List ByteArray -> ByteArray) (srt : List ByteArray -> List ByteArray)
def rnd (m:Mr) (out:List ByteArray):List ByteArray:=(upN m.vars.length).map λv=>Hs (vS out v) (srt (nxt (D7 out m) v))
def Cd (m:Mr):List ByteArray:=rnd Hs srt m (rnd Hs srt m (rnd Hs srt m m.vars))
end
theorem LC {α β:Type} {f g:α->List β}:∀{l:List α},(∀x∈l,f x=g x)->l.flatMap f=l.flatMap g
 | [],_=>rfl
 | a::l,h=>by rw[Xm,Xm,h a (by simp),LC λx hx=>h x (by simp[hx])]
theorem PE {n:Nat} (f:Int->ByteArray) {x:Int} (hx:inR n x):vS ((upN n).map f) x=f x:=by
 unfold vS upN;have h1:=hx.1;have h2:=hx.2;rw[Xd,Xh,Xh,Xw (by omega)];show f ((x.toNat:Nat):Int)=_;rw[Int.toNat_of_nonneg h1]
section
variable {Hs : ByteArray -> List ByteArray -> ByteArray} {srt : List ByteArray -> List ByteArray} {a b : Mr} {σ : Int -> Int}
def Eqv (n:Nat) (σ:Int->Int) (out out':List ByteArray):Prop:=∀x,inR n x->vS out x=vS out' (σ x)
theorem kN {n:Nat} {out out':List ByteArray} (he:Eqv n σ out out') {x:Ep} (hx:inE n x):Du out' (Bu σ x)=Du out x:=by
 unfold Du Bu;simp only;rw[<-he x.label (hx _ (by simp[B7])),X6];congr 4;refine LC λa ha=>?_;unfold EI;simp only;rw[<-he a.var (hx _ (by simp only[B7,Xc,Xv];exact .inr ⟨a,ha,rfl⟩))]
theorem kO {n:Nat} {out out':List ByteArray} (he:Eqv n σ out out') {x:Ep} (hx:inE n x):Ff out' (Bu σ x)=(Ff out x).map λp=>(σ p.1,p.2):=by
 unfold Ff;rw[kN he hx];unfold Bu;simp only[Xe,Xi];rfl
theorem kQ {n:Nat} {out out':List ByteArray} (he:Eqv n σ out out') {c:Qq} (hc:inQ n c):FV out' (Bv σ c)=(FV out c).map λp=>(σ p.1,p.2):=by
 unfold FV Bv;simp only[Xe,List.map_nil];rw[<-he c.low (hc _ (by simp[BE])),<-he c.high (hc _ (by simp[BE]))]
theorem Uh {α β:Type} (f:α->List β) {l m:List α} (h:l.Perm m):(l.flatMap f).Perm (m.flatMap f):=by
 induction h with
 | nil=>exact .refl _
 | cons x _ ih=>rw[Xm,Xm];exact ih.append_left _
 | swap x y l=>
  rw[Xm,Xm,Xm,Xm,<-Yh,<-Yh];exact List.perm_append_comm.append_right _
 | trans _ _ h1 h2=>exact h1.trans h2
theorem kR (ha:okV a) (hi:Iso a b σ) {out out':List ByteArray} (he:Eqv a.vars.length σ out out'):((D7 out a).map λp=>(σ p.1,p.2)).Perm (D7 out' b):=by
 unfold D7;simp only[Xe,List.map_append];rw[hi.top,hi.index];refine .cons _ (.cons _ (List.Perm.append ?_ ?_))
 .have h1:=Uh (Ff out') hi.rels;rw[X6]at h1
  have e:(a.rels.flatMap λx=>Ff out' (Bu σ x))=(a.rels.flatMap (Ff out)).map λp=>(σ p.1,p.2):=by
   rw[Yi];exact LC λx hx=>kO he (ha.inE x hx)
  rw[e]at h1;exact h1
 .have h1:=Uh (FV out') hi.cons;rw[X6]at h1
  have e:(a.cons.flatMap λx=>FV out' (Bv σ x))=(a.cons.flatMap (FV out)).map λp=>(σ p.1,p.2):=by
   rw[Yi];exact LC λx hx=>kQ he (ha.inQ x hx)
  rw[e]at h1;exact h1
theorem kS (ha:okV a) (out:List ByteArray):∀p∈D7 out a,inR a.vars.length p.1:=by
 intro p hp;simp only[D7,Xc,Xt,X1]at hp;rcases hp with rfl | rfl | ⟨x,hx,hp⟩ | ⟨c,hc,hp⟩
 .exact ha.top
 .exact ha.index
 .unfold Ff at hp;rcases Xc.1 hp with rfl | hp
  .exact ha.rel hx (by simp[B7])
  .obtain⟨g,hg,rfl⟩:=Xv.1 hp;exact ha.rel hx (by simp only[B7,Xc,Xv];exact .inr ⟨g,hg,rfl⟩)
 .unfold FV at hp;simp only[Xc,Xs,or_false]at hp;rcases hp with rfl | rfl
  .exact ha.con hc (by simp[BE])
  .exact ha.con hc (by simp[BE])
theorem kT (ha:okV a) (hi:Iso a b σ) {out out':List ByteArray} (he:Eqv a.vars.length σ out out') {x:Int} (hx:inR a.vars.length x):(nxt (D7 out a) x).Perm (nxt (D7 out' b) (σ x)):=by
 have h1:=((kR ha hi he).filter λp=>decide (p.1=σ x)).map (·.2)
 have e:nxt (D7 out a) x=(((D7 out a).map λp=>(σ p.1,p.2)).filter λp=>decide (p.1=σ x)).map (·.2):=by
  unfold nxt;rw[List.filter_map,Xi];show List.map (λp:Int×ByteArray=>p.2) _=List.map (λp:Int×ByteArray=>p.2) _;congr 1;refine List.filter_congr λp hp=>?_;have hp:=kS ha out p hp;show decide (p.1=x)=decide (σ p.1=σ x);by_cases e:p.1=x
  .rw[e];simp
  .rw[zt e,zt λh=>e (hi.inj _ _ hp hx h)]
 rw[e];exact h1
variable (hsrt : ∀ l m : List ByteArray, l.Perm m -> srt l = srt m)
include hsrt
theorem PF (ha:okV a) (hi:Iso a b σ) {out out':List ByteArray} (he:Eqv a.vars.length σ out out'):Eqv a.vars.length σ (rnd Hs srt a out) (rnd Hs srt b out'):=λx hx=>by
 unfold rnd;rw[PE _ hx,<-hi.len,PE _ (hi.rng x hx),he x hx,hsrt _ _ (kT ha hi he hx)]
theorem Ui (ha:okV a) (hi:Iso a b σ):Eqv a.vars.length σ (Cd Hs srt a) (Cd Hs srt b):=
 PF hsrt ha hi (PF hsrt ha hi (PF hsrt ha hi λx hx=>hi.sort x hx))
theorem kU (ha:okV a) (hi:Iso a b σ):(Cd Hs srt a).Perm (Cd Hs srt b):=by
 have he:=Ui (Hs:=Hs) hsrt ha hi;have hn:((upN a.vars.length).map σ).Nodup:=Ns (Ns Yg λi _ j _ e=>by omega) λx hx y hy e=>hi.inj x y (DK.1 hx) (DK.1 hy) e
 have hp:=G6 hn (m:=upN a.vars.length) (λz hz=>by
  obtain⟨x,hx,rfl⟩:=Xv.1 hz
  exact DK.2 (hi.rng x (DK.1 hx))) (by simp)
 have self1:∀(n:Nat) (f:Int->ByteArray),(upN n).map f=(upN n).map λv=>vS ((upN n).map f) v:=λn f=>
  X4 λv hv=>(PE f (DK.1 hv)).symm
 have self:∀(m:Mr),Cd Hs srt m=(upN m.vars.length).map λv=>vS (Cd Hs srt m) v:=λm=>self1 _ _;rw[self a,self b,<-hi.len]
 have e:((upN a.vars.length).map λv=>vS (Cd Hs srt a) v)=((upN a.vars.length).map σ).map λv=>vS (Cd Hs srt b) v:=by
  rw[Xi];exact X4 λv hv=>he v (DK.1 hv)
 rw[e];exact hp.map _
end
def Ii (pa pb:List ByteArray) (a b:Mr) (x y:Int):Bool:=Fe a b x y&&decide (vS pa x=vS pb y)
def JO (Hs:ByteArray->List ByteArray->ByteArray) (srt:List ByteArray->List ByteArray) (a b:Mr):Option (List Nat):=
 if a.vars.length≠b.vars.length\/a.rels.length≠b.rels.length\/a.cons.length≠b.cons.length then none else
 if srt (Cd Hs srt a)≠srt (Cd Hs srt b)then none else
 match Cw (Ii (Cd Hs srt a) (Cd Hs srt b) a b) (Xq a.vars.length (-1)) [(a.top,b.top),(a.index,b.index)]with
 | none=>none
 | some w=>Ds (Ii (Cd Hs srt a) (Cd Hs srt b) a b) b.cons a.cons b.rels a.rels w []
theorem kV {Hs:ByteArray->List ByteArray->ByteArray} {srt:List ByteArray->List ByteArray} (hsrt:∀l m:List ByteArray,l.Perm m->srt l=srt m) {a b:Mr} (ha:okV a) (hb:okV b) (hf:full a):JO Hs srt a b=Dt (Fe a b) a b:=by
 have h1:Dt (Ii (Cd Hs srt a) (Cd Hs srt b) a b) a b=Dt (Fe a b) a b:=by
  refine kL ha hb hf (λx y h=>?_) (λ_ _ h=>h) λσ hi x hx=>?_
  .unfold Ii at h;rw[Yj]at h;exact h.1
  .unfold Ii;rw[Yj];exact⟨zq (hi.sort x hx),zq (Ui hsrt ha hi x hx)⟩
 have hperm:TW a b->srt (Cd Hs srt a)=srt (Cd Hs srt b):=λ⟨σ,hi⟩=>hsrt _ _ (kU hsrt ha hi);rw[<-h1];unfold JO;by_cases hl:a.vars.length≠b.vars.length\/a.rels.length≠b.rels.length\/a.cons.length≠b.cons.length
 .rw[zu hl];unfold Dt;rw[zu];rcases hl with h | h | h
  .exact .inr (.inr h)
  .exact .inl h
  .exact .inr (.inl h)
 rw[zw hl]
 have hl2:¬(a.rels.length≠b.rels.length\/a.cons.length≠b.cons.length\/a.vars.length≠b.vars.length):=by
  rintro(h | h | h)
  .exact hl (.inr (.inl h))
  .exact hl (.inr (.inr h))
  .exact hl (.inl h)
 by_cases hs:srt (Cd Hs srt a)=srt (Cd Hs srt b)
 .rw[zw (λh=>h hs)];unfold Dt
  (rw[zw hl2])<;>rfl
 .rw[zu hs]
  cases hm:Dt (Ii (Cd Hs srt a) (Cd Hs srt b) a b) a b with
  | none=>rfl
  | some p=>
   rw[h1]at hm;exact absurd (hperm ((kM ha hb hf).1 (by rw[hm];rfl))) hs
theorem PG {w a:Int} (hwa:w≠a):∀{v:List Int} {x:Nat} {i:Nat},(∀b,v[x]?=some b->b≠w)->plc w i (v.set x a)=plc w i v
 | [],_,_,_=>rfl
 | b::r,0,i,h=>by
  have hb:b≠w:=h b rfl;rw[Yk,plc,plc,zw (λe=>hwa e.symm),zw hb]
 | b::r,x+1,i,h=>by
  rw[Yl,plc,plc];by_cases hb:b=w
  .rw[zu hb,zu hb]
  .rw[zw hb,zw hb];exact PG hwa (λc hc=>h c (by simpa using hc))
theorem Uj {w:Int}:∀{v:List Int} {x:Nat} {i:Nat},w∉v->x<v.length->plc w i (v.set x w)=((i+x:Nat):Int)
 | [],_,_,_,h=>by simp at h
 | b::r,0,i,h,_=>by rw[Yk,plc,zu rfl];rfl
 | b::r,x+1,i,h,hx=>by
  have hb:b≠w:=λe=>h (by simp[e]);rw[Yl,plc,zw hb,Uj (λk=>h (by simp[k])) (by simpa using hx)];congr 1;omega
def frm (n:Nat) (v:List Int):List Int:=(upN n).map λw=>plc w 0 v
theorem Hu (n:Nat) (v:List Int):(frm n v).length=n:=by unfold frm;rw[List.length_map,Cv]
theorem kW {n i:Nat} (h:i<n):(upN n)[i]?=some (i:Int):=by
 unfold upN;rw[Xh,Xw h];rfl
theorem JP {n:Nat} {v:List Int} {i:Nat} (h:i<n):(frm n v)[i]?=some (plc (i:Int) 0 v):=by
 unfold frm;rw[Xh,kW h];rfl
theorem NA {v:List Int} {x:Nat} (h:x<v.length):v[x]?=some (bnd v (x:Int)):=by
 unfold bnd;rw[Xl,Xd,Xg h];rfl
theorem kX {n:Nat} {v:List Int} {x y:Nat} (hl:v.length=n) (hx:x<n) (hy:y<n) (h0:bnd v (x:Int)<0) (hn:(y:Int)∉v):frm n (v.set x (y:Int))=(frm n v).set y (x:Int):=by
 refine Xo λi=>?_;by_cases hi:i<n
 .rw[JP hi,Xr];by_cases e:y=i
  .subst e;rw[zu rfl,zu (by rw[Hu];exact hi),Uj hn (by omega),Nat.zero_add]
  .rw[zw e,JP hi,PG (by omega) (λb hb=>?_)];rw[NA (by omega)]at hb;injection hb with hb;omega
 .rw[Xn (by rw[Hu];omega),Xn (by rw[Xx,Hu];omega)]
theorem kY {n:Nat} {v:List Int} {x y:Nat} (hl:v.length=n) (hx:x<n) (hy:y<n) (h0:bnd v (x:Int)=(y:Int)) (hi:∀z,z<n->bnd v (z:Int)=(y:Int)->z=x):frm n (v.set x (-1))=(frm n v).set y (-1):=by
 refine Xo λi=>?_;by_cases hin:i<n
 .rw[JP hin,Xr];by_cases e:y=i
  .subst e;rw[zu rfl,zu (by rw[Hu];exact hin),Nq];intro hm;obtain⟨j,hj⟩:=X0 hm;rw[Xr]at hj;split at hj
   .split at hj
    .injection hj with hj;omega
    .cases hj
   .rename_i hxj;have hjl:j<v.length:=(Xp.1 hj).1;rw[NA hjl]at hj;injection hj with hj;exact hxj (hi j (by omega) hj).symm
  .rw[zw e,JP hin,PG (by omega) (λb hb=>?_)];rw[NA (by omega)]at hb;injection hb with hb;omega
 .rw[Xn (by rw[Hu];omega),Xn (by rw[Xx,Hu];omega)]
section
variable (ok : Int -> Int -> Bool)
def Ec (st:List Int×List Int) (x y:Int):(List Int×List Int)×Bool:=
 if bnd st.1 x=y then(st,true)else if 0<=bnd st.1 x\/y∈st.1\/ok x y=false then(st,false)else((st.1.set x.toNat y,st.2++[x]),true)
def Ed:List Int×List Int->List (Int×Int)->(List Int×List Int)×Bool
 | st,[]=>(st,true)
 | st,p::r=>if(Ec ok st p.1 p.2).2 then Ed (Ec ok st p.1 p.2).1 r else((Ec ok st p.1 p.2).1,false)
end
def unb (v:List Int) (bd:List Int):List Int:=bd.foldl (λv x=>v.set x.toNat (-1)) v
section
variable {ok : Int -> Int -> Bool} {n : Nat}
theorem kZ (st:List Int×List Int) (x y:Int):DP ok st.1 x y=if(Ec ok st x y).2 then some (Ec ok st x y).1.1 else none:=by
 unfold DP Ec;split
 .rfl
 .split<;>rfl
theorem NB:∀(l:List (Int×Int)) (st:List Int×List Int),Cw ok st.1 l=if(Ed ok st l).2 then some (Ed ok st l).1.1 else none
 | [],st=>rfl
 | p::r,st=>by
  rw[Cw,Ed,kZ]
  cases h:(Ec ok st p.1 p.2).2 with
  | true=>simp only[if_true];exact NB r _
  | false=>simp
structure Es (n:Nat) (v:List Int) (st:List Int×List Int):Prop where
 pm:PMv (λ_ _=>true) n st.1
 back:unb st.1 st.2=v
 inr:∀x∈st.2,inR n x/\0<=bnd st.1 x
 nodup:st.2.Nodup
theorem PMv.any {v:List Int} (h:PMv ok n v):PMv (λ_ _=>true) n v:=⟨h.len,h.rng,h.inj,λ_ _ _=>rfl⟩
theorem Es.nil {v:List Int} (h:PMv ok n v):Es n v (v,[]):=⟨h.any,rfl,λ_ hx=>(by cases hx),Xu⟩
theorem l8 (v:List Int) (a b:List Int):unb v (a++b)=unb (unb v a) b:=List.foldl_append
theorem l9 {v:List Int} {a b:Nat} {x y:Int} (h:a≠b):(v.set a x).set b y=(v.set b y).set a x:=List.set_comm x y h
theorem lC {bd:List Int}:∀{v:List Int} {x:Int} {y:Int},0<=x->(∀z∈bd,0<=z/\z≠x)->unb (v.set x.toNat y) bd=(unb v bd).set x.toNat y:=by
 induction bd with
 | nil=>intro v x y _ _;rfl
 | cons z r ih=>
  intro v x y hx h;obtain⟨h1,h2⟩:=h z (by simp);show unb ((v.set x.toNat y).set z.toNat (-1)) r=(unb (v.set z.toNat (-1)) r).set x.toNat y;rw[l9 (by omega),ih hx (λw hw=>h w (by simp[hw]))]
theorem Uk {v:List Int} {st:List Int×List Int} (h:Es n v st) {x y:Int} (hx:inR n x) (hy:inR n y):Es n v (Ec ok st x y).1:=by
 unfold Ec;split
 .exact h
 .rename_i h1;split
  .exact h
  .rename_i h2;have h3:¬0<=bnd st.1 x:=λe=>h2 (.inl e);have h4:y∉st.1:=λe=>h2 (.inr (.inl e))
   have hm1:bnd st.1 x = -1:=by
    rcases h.pm.rng x hx with e | e
    .exact e
    .exact absurd e.1 h3
   have hb:DP (λ_ _=>true) st.1 x y=some (st.1.set x.toNat y):=by
    unfold DP;rw[zw h1,zw];rintro(e | e | e)
    .exact h3 e
    .exact h4 e
    .cases e
   obtain⟨k1,k2,k3⟩:=P9 h.pm hx hy hb
   have hfree:∀z∈st.2,0<=z/\z≠x:=λz hz=>⟨(h.inr z hz).1.1,λe=>by subst e;exact h3 (h.inr z hz).2⟩
   refine⟨k1,?_,λz hz=>?_,?_⟩
   .show unb (st.1.set x.toNat y) (st.2++[x])=v;rw[l8,lC hx.1 hfree,h.back];show(v.set x.toNat y).set x.toNat (-1)=v;rw[List.set_set]
    have hvx:v[x.toNat]?=some (-1):=by
     have hnb:∀(bd u:List Int),(∀z∈bd,0<=z/\z≠x)->(unb u bd)[x.toNat]?=u[x.toNat]?:=by
      intro bd
      induction bd with
      | nil=>intro u _;rfl
      | cons z r ih=>
       intro u hz;obtain⟨q1,q2⟩:=hz z (by simp);show(unb (u.set z.toNat (-1)) r)[x.toNat]?=_;rw[ih _ (λw hw=>hz w (by simp[hw])),Ym (by have:=hx.1;omega)]
     rw[<-h.back,hnb _ _ hfree]
     have hlt:x.toNat<st.1.length:=by rw[h.pm.len];have:=hx.2;have:=hx.1;omega
     rw[Xg hlt];unfold bnd at hm1;rw[Xd,Xg hlt,Xz]at hm1;rw[hm1]
    refine Xo λi=>?_;rw[Xr];split
    .rename_i e;subst e;rw[hvx,zu (Xp.1 hvx).1]
    .rfl
   .rcases Xt.1 hz with hz | hz
    .obtain⟨q1,q2⟩:=h.inr z hz;exact⟨q1,by rw[k2 z q1 q2];exact q2⟩
    .rw[X5.1 hz];exact⟨hx,by rw[k3];exact hy.1⟩
   .show(st.2++[x]).Nodup;rw[List.nodup_append];exact⟨h.nodup,by simp,λa ha b hb=>by rw[X5.1 hb];exact(hfree a ha).2⟩
theorem NC:∀{l:List (Int×Int)} {v:List Int} {st:List Int×List Int},Es n v st->(∀p∈l,inR n p.1/\inR n p.2)->Es n v (Ed ok st l).1
 | [],_,_,h,_=>h
 | p::r,_,st,h,hl=>by
  obtain⟨h1,h2⟩:=hl p (by simp);have hb:=Uk (ok:=ok) h h1 h2;rw[Ed];split
  .exact NC hb λq hq=>hl q (by simp[hq])
  .exact hb
theorem Es.step {v w:List Int} {x:Int} {r:List Int} (h:Es n v (w,x::r)):Es n v (w.set x.toNat (-1),r)/\∃y:Nat,bnd w x=(y:Int)/\y<n/\frm n (w.set x.toNat (-1))=(frm n w).set y (-1):=by
 obtain⟨hx,hb⟩:=h.inr x (by simp);obtain⟨hx1,hn⟩:=Xf.1 h.nodup
 have hr:inR n (bnd w x):=by
  rcases h.pm.rng x hx with e | e
  .have:0<=bnd w x:=hb;have e:bnd w x = -1:=e;omega
  .exact e
 obtain⟨a,rfl⟩:∃a:Nat,x=(a:Int):=⟨x.toNat,by have:=hx.1;omega⟩
 have hal:a<n:=by have:=hx.2;omega
 obtain⟨y,hy⟩:∃y:Nat,bnd w (a:Int)=(y:Int):=⟨(bnd w (a:Int)).toNat,by have:=hr.1;omega⟩
 have hyn:y<n:=by have:=hr.2;omega
 have hinr:∀z,inR n z->z≠(a:Int)->bnd (w.set a (-1)) z=bnd w z:=λz hz hne=>by
  have h1:=hz.1;unfold bnd;rw[Xd,Xd,Ym (by omega)]
 have hself:bnd (w.set a (-1)) (a:Int) = -1:=by
  unfold bnd;rw[Xl,Xd,List.getElem?_set_self (by have:w.length=n:=h.pm.len;omega)];rfl
 refine⟨⟨⟨by rw[Xl,Xx];exact h.pm.len,λz hz=>?_,λz z' hz hz' h0 he=>?_,λ_ _ _=>rfl⟩,h.back,λz hz=>?_,hn⟩,y,hy,hyn,?_⟩
 .rw[Xl]
  by_cases e:z=(a:Int)
  .subst e;exact .inl hself
  .rw[hinr z hz e];exact h.pm.rng z hz
 .rw[Xl]at h0 he
  have e1:z≠(a:Int):=λe=>by subst e;rw[hself]at h0;omega
  have e2:z'≠(a:Int):=λe=>by subst e;rw[he,hself]at h0;omega
  rw[hinr z hz e1]at h0 he;rw[hinr z' hz' e2]at he;exact h.pm.inj z z' hz hz' h0 he
 .obtain⟨q1,q2⟩:=h.inr z (by simp[hz])
  have e1:z≠(a:Int):=λe=>by subst e;exact hx1 hz
  exact⟨q1,by rw[Xl,hinr z q1 e1];exact q2⟩
 .rw[Xl];refine kY h.pm.len hal hyn hy λz hz he=>?_;have:=h.pm.inj (z:Int) (a:Int) ⟨by omega,by omega⟩ hx (by show 0<=bnd w (z:Int);rw[he];omega) (by show bnd w (z:Int)=bnd w (a:Int);rw[he,hy]);omega
end
def BK (m:Nat) (ps:List Nat):List Bool:=(Xj m).map λk=>decide (k∈ps)
theorem HA {m k:Nat} (ps:List Nat) (h:k<m):(BK m ps)[k]?=some (decide (k∈ps)):=by
 unfold BK;rw[Xh,Xw h];rfl
theorem Ee (m:Nat) (ps:List Nat):(BK m ps).length=m:=by simp[BK]
theorem Ul {m k:Nat} {ps qs:List Nat} (h:k<m) (hq:∀j,j∈qs ↔ j=k\/j∈ps):(BK m ps).set k true=BK m qs:=by
 refine Xo λi=>?_;rw[Xr];by_cases hi:i<m
 .split
  .rename_i e;subst e;rw[zu (by rw[Ee];exact hi),HA qs hi,zq ((hq k).2 (.inl rfl))]
  .rename_i e;rw[HA ps hi,HA qs hi];congr 1;rw[decide_eq_decide,hq];exact⟨λx=>.inr x,λx=>x.resolve_left λe'=>e e'.symm⟩
 .rw[Xn (by rw[Ee];omega),Xn (by rw[Ee];omega),zw (by omega)]
theorem Um {m k:Nat} {ps qs:List Nat} (h:k<m) (hk:k∉ps) (hq:∀j,j∈qs ↔ j=k\/j∈ps):(BK m qs).set k false=BK m ps:=by
 refine Xo λi=>?_;rw[Xr];by_cases hi:i<m
 .split
  .rename_i e;subst e;rw[zu (by rw[Ee];exact hi),HA ps hi,zt hk]
  .rename_i e;rw[HA ps hi,HA qs hi];congr 1;rw[decide_eq_decide,hq];exact⟨λx=>x.resolve_left λe'=>e e'.symm,λx=>.inr x⟩
 .rw[Xn (by rw[Ee];omega),Xn (by rw[Ee];omega),zw (by omega)]
end Go.Abs
