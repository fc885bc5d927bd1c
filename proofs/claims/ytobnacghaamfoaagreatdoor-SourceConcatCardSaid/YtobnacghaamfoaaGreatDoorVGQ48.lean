/- Auxiliary facts. -/
import Derived.Test.YtobnacghaamfoaaGreatDoorVGQ46
import Derived.Test.YtobnacghaamfoaaGreatDoorVGQ36
set_option linter.unusedSimpArgs false
set_option linter.unusedVariables false
open List renaming take_succ_cons->Xa,length_map->Xc
open Nat renaming le_add_right->Xb
namespace Go.Proofs.YtobnacghaamfoaaGreatDoor
open Go Go.Abs
variable {q : Gl}
section
variable {l : List KT} {p : Nat} {e : Int}
theorem B5d (h:HO l p = .error e) (hp:p<=l.length):e≠0:=Nj (Ii 1) (λ_ _ h=>Jo h) _ _ _ _ _ _ h hp (by omega)
theorem B5e (h:HP l p = .error e) (hp:p<=l.length):e≠0:=Nj Rz (iT λ_=>rfl) _ _ _ _ _ _ h hp (by omega)
theorem B5f (h:Gx l p = .error e) (hp:p<=l.length):e≠0:=Nj (Ii 2) (λ_ _ h=>Jo h) _ _ _ _ _ _ h hp (by omega)
theorem B5g (h:JV l p = .error e) (hp:p<=l.length):e≠0:=Nj (DR 64) (OU 64) _ _ _ _ _ _ h hp (by omega)
end
theorem B5h {s:ByteArray} {e:Int} (h:FA s = .error e):e≠0:=by
 unfold FA at h;split at h
 .injection h with h;subst h;decide
 .split at h
  .injection h with h;subst h;decide
  .split at h
   .cases h
   .injection h with h;subst h;decide
theorem PC {L:List KT} {nm:ByteArray} {p:Nat} {e:Int} (h:Db L nm p = .error e) (hp:p<=L.length):e≠0:=by
 unfold Db at h;split at h
 .rename_i h1;injection h with h;subst h;exact gG h1
 .rename_i p1 h1;split at h
  .rename_i h2;injection h with h;subst h;exact OU 64 _ _ h2
  .rename_i d p2 h2;split at h
   .rename_i h3;injection h with h;subst h;unfold C8 at h3;split at h3
    .rename_i hs;have:=DQ hs;exact B5g h3 (by omega)
    .cases h3
   .cases h
theorem RW (c:UInt8) (r:List UInt8):nl (c::r)=nl r+if c.toNat=10 then 1 else 0:=by
 unfold nl;rw[List.countP_cons];by_cases h:c.toNat=10
 .rw[zy h,h];rfl
 .rw[zz h,zz (by rw[beq_iff_eq];exact h)]
theorem RX:∀(D:List UInt8) (cm:Bool),(Au cm D).2=nl (D.take (Au cm D).1)
 | [],cm=>by cases cm<;>rfl
 | c::r,cm=>by
  have h1:=RX r false;have h2:=RX r true;rw[Au];split
  .rename_i h;show(Au false r).2+1=nl ((c::r).take ((Au false r).1+1));rw[Xa,RW,zy h,h1]
  .rename_i h;split
   .show(Au true r).2=nl ((c::r).take ((Au true r).1+1));rw[Xa,RW,zz h,h2];rfl
   .split
    .show(Au false r).2=nl ((c::r).take ((Au false r).1+1));rw[Xa,RW,zz h,h1];rfl
    .rfl
theorem mS:∀(f:Nat) (D:List UInt8) (l:Nat),(∀ts,BM f D l = .ok ts->∀t∈ts,l<=t.l/\t.l<=l+nl D)/\∀x,BM f D l = .error x->l<=x.1/\x.1<=l+nl D
 | 0,D,l=>⟨λts h=>(by injection h with h;subst h;intro t ht;cases ht),λx h=>(by cases h)⟩
 | f+1,[],l=>⟨λts h=>(by injection h with h;subst h;intro t ht;cases ht),λx h=>(by cases h)⟩
 | f+1,c::r,l=>by
  by_cases he:(Ax (c::r)).e=0
  .have ih:=mS f (((c::r).drop (Ax (c::r)).n).drop (Au false ((c::r).drop (Ax (c::r)).n)).1) (l+(Au false ((c::r).drop (Ax (c::r)).n)).2);have h1:=RX ((c::r).drop (Ax (c::r)).n) false;have h2:=Pg ((c::r).drop (Ax (c::r)).n) (Au false ((c::r).drop (Ax (c::r)).n)).1;have h3:=Pg (c::r) (Ax (c::r)).n;have ih:(∀ts,Ci f false ((c::r).drop (Ax (c::r)).n) l = .ok ts->∀t∈ts,l+(Au false ((c::r).drop (Ax (c::r)).n)).2<=t.l/\t.l<=l+(Au false ((c::r).drop (Ax (c::r)).n)).2+nl (((c::r).drop (Ax (c::r)).n).drop (Au false ((c::r).drop (Ax (c::r)).n)).1))/\∀x,Ci f false ((c::r).drop (Ax (c::r)).n) l = .error x->l+(Au false ((c::r).drop (Ax (c::r)).n)).2<=x.1/\x.1<=l+(Au false ((c::r).drop (Ax (c::r)).n)).2+nl (((c::r).drop (Ax (c::r)).n).drop (Au false ((c::r).drop (Ax (c::r)).n)).1):=ih;rw[Jg f c r l he];generalize Ci f false ((c::r).drop (Ax (c::r)).n) l=R at ih
   cases R with
   | error y=>
    refine⟨λts h=>(by cases h),λx h=>?_⟩;injection h with h;subst h;have:=ih.2 _ rfl;omega
   | ok us=>
    refine⟨λts h=>?_,λx h=>(by cases h)⟩;injection h with h;subst h;intro t ht;rcases List.mem_cons.1 ht with rfl | ht
    .exact⟨Nat.le_refl _,Xb _ _⟩
    .have:=ih.1 _ rfl t ht;omega
  .rw[BM];simp only[List.isEmpty_cons,Bool.false_eq_true,if_false,ne_eq,he,not_false_eq_true,if_true];refine⟨λts h=>(by cases h),λx h=>?_⟩;injection h with h;subst h;exact⟨Nat.le_refl _,Xb _ _⟩
theorem mT (D:List UInt8):(∀ts,CZ D 1 = .ok ts->∀t∈ts,1<=t.l/\t.l<=1+nl D)/\∀x,CZ D 1 = .error x->1<=x.1/\x.1<=1+nl D:=by
 have h:=mS (D.length+1) (D.drop (Au false D).1) (1+(Au false D).2);have h1:=RX D false;have h2:=Pg D (Au false D).1;exact⟨λts hs t ht=>by have:=h.1 ts hs t ht;omega,λx hs=>by have:=h.2 x hs;omega⟩
section
variable {l : List KT} {p : Nat} {e : Int}
theorem mU {α:Type} {s:List UInt8} {f:Nat->Res (List α)} (hf:∀p e,f p = .error e->p<=l.length->e≠0) (h:C8 l s f p = .error e):e≠0:=by
 unfold C8 at h;split at h
 .rename_i hs;have:=DQ hs;exact hf _ _ h (by omega)
 .cases h
theorem B5i {nm:ByteArray} (h:Fi l nm p = .error e):e≠0:=by
 unfold Fi at h;split at h
 .rename_i h1;injection h with h;subst h;exact mU (λp e h hp=>B5d h hp) h1
 .split at h
  .rename_i h2;injection h with h;subst h;exact mU (λp e h hp=>B5e h hp) h2
  .cases h
theorem B5j {nm:ByteArray} (h:DZ l nm p = .error e):e≠0:=by
 unfold DZ at h;split at h
 .rename_i h1;injection h with h;subst h;exact Jo h1
 .rename_i s p1 h1;split at h
  .rename_i h2;injection h with h;subst h;exact B5h h2
  .split at h
   .rename_i h3;injection h with h;subst h;have:=(Ii 3) _ _ _ h1;exact PC h3 this.2
   .cases h
theorem B5k {nm:ByteArray} (h:EJ l nm p = .error e):e≠0:=by
 unfold EJ at h;split at h
 .rename_i h1;injection h with h;subst h;exact iU h1
 .rename_i a p1 h1;split at h
  .rename_i h3;injection h with h;subst h;have:=R7 _ _ _ h1;exact PC h3 this.2
  .cases h
theorem Vu {f:Dfn->El} {r:Res Dfn} (h:elD f r = .error e):r = .error e:=by
 unfold elD at h;split at h
 .injection h with h;subst h;rfl
 .cases h
theorem B5l {k:Nat} {nm:ByteArray} (hp:p<=l.length) (h:Dr l k nm p = .error e):e≠0:=by
 unfold Dr at h;split at h
 .cases h
 .split at h
  .split at h
   .rename_i h1;injection h with h;subst h;exact B5i h1
   .cases h
  .split at h
   .exact B5j h
   .split at h
    .exact B5k h
    .split at h
     .exact PC (Vu h) hp
     .split at h
      .exact PC (Vu h) hp
      .exact PC (Vu h) hp
theorem B5m {k:Nat} (hp:p<=l.length) (h:elS l k p = .error e):e≠0:=by
 unfold elS at h;split at h
 .split at h
  .rename_i h1;injection h with h;subst h;exact B5f h1 hp
  .cases h
 .split at h
  .split at h
   .rename_i h1;injection h with h;subst h;exact Jo h1
   .cases h
  .split at h
   .rename_i h1;injection h with h;subst h;exact Jo h1
   .rename_i name p1 h1;have:=(Ii 1) _ _ _ h1;exact B5l this.2 h
theorem B5n {k:Nat} (hp:p<=l.length) (h:Bs l k p = .error e):e≠0:=by
 unfold Bs at h;split at h
 .split at h
  .rename_i h1;injection h with h;subst h;exact Jo h1
  .cases h
 .split at h
  .rename_i h1;injection h with h;subst h;exact B5m hp h1
  .cases h
theorem B5o {s:Sta} {t:KT} (hp:p<l.length) (h:MN l s t p = .error e):e≠0:=by
 rw[GB]at h;split at h
 .rename_i hm;injection h with h;subst h;exact hm
 .unfold clA at h;split at h
  .rename_i h1;injection h with h;subst h;exact B5n hp h1
  .split at h
   .rename_i h2;injection h with h;subst h;exact gG h2
   .cases h
theorem mV:∀(f p:Nat) (s:Sta) (x:Nat×Int),CR l f p s = .error x->p<=l.length->l.length<f+p->x.1<l.length/\x.2≠0
 | 0,p,s,x,h,hp,hf=>by omega
 | f+1,p,s,x,h,hp,hf=>by
  rw[CR]at h;split at h
  .cases h
  .rename_i t ht;have hlt:=(List.getElem?_eq_some_iff.1 ht).1;split at h
   .rename_i e h1;injection h with h;subst h;exact⟨hlt,B5o hlt h1⟩
   .rename_i a p1 h1;rw[GB]at h1;split at h1
    .cases h1
    .have:=R8 t p a p1 h1;exact mV f p1 _ _ h this.2 (by omega)
end
theorem mW {s:List UInt8} {x:Nat×Int} (h:Cd s = .error x) (hs:s.length<=65536):x.2≠0/\1<=x.1/\x.1<=1+nl s:=by
 unfold Cd at h;rw[zz (by omega)]at h;split at h
 .rename_i y hy;injection h with h;subst h;exact⟨(Um hy).2,(mT s).2 _ hy⟩
 .rename_i ts hts;split at h
  .rename_i y hy;injection h with h;subst h;obtain⟨h1,h2⟩:=mV _ _ _ _ hy (Nat.zero_le _) (by rw[Xc];omega);rw[Xc]at h1;refine⟨h2,?_⟩
   obtain⟨t,ht⟩:∃t,ts[y.1]?=some t:=⟨_,List.getElem?_eq_getElem h1⟩
   show 1<=((ts[y.1]?.map Tok.l).getD 0)/\_;rw[ht];exact(mT s).1 ts hts t (List.mem_of_getElem? ht)
  .cases h
end Go.Proofs.YtobnacghaamfoaaGreatDoor
