/- Auxiliary facts. -/
import Derived.Test.YtmgjopafgboljaaGreatDoorVEQ24
import Derived.Test.YtmgjopafgboljaaGreatDoorVEQ42
set_option linter.unusedSimpArgs false
set_option linter.unusedVariables false
namespace Go.Proofs.YtmgjopafgboljaaGreatDoor
open Go Go.Abs
variable {q : Gl}
def dd (u:Nat):List UInt8:=if u=0 then []else Lib.decDigits u
theorem C7z (u:Nat) (h:0<u):dd u=dd (u / 10)++[UInt8.ofNat (48+u%10)]:=by
 unfold dd;rw[if_neg (by omega),Lib.decDigits];by_cases h1:u<10
 ·rw[dif_pos h1,if_pos (by omega),Nat.mod_eq_of_lt h1];rfl
 ·rw[dif_neg h1,if_neg (by omega)]
theorem D1t (d:List UInt8) (c:UInt8):decV 0 (d++[c])=decV 0 d*10+(c.toNat-48):=by
 simp[decV,List.foldl_append]
theorem C2d (n:Int):Lib.itoa n=if n=0 then [48]else if n<0 then 45::dd n.natAbs else dd n.natAbs:=by
 by_cases h0:n=0
 ·subst h0;unfold Lib.itoa;rw[if_neg (by omega),if_pos rfl,show(0:Int).toNat=0 from rfl,Lib.decDigits_one (by omega)];rfl
 ·rw[if_neg h0];unfold Lib.itoa dd;rw[if_neg (by omega:¬n.natAbs=0)];split
  ·rfl
  ·congr 1;omega
theorem F7h (s:ByteArray):ob (wb s)=s:=by simp
theorem E8f:∀{l acc:List Vr},misA acc l=false->∀x∈l,∀y∈acc,nmV y=nmV x->y.sort=x.sort
 | [],acc,_,x,hx,_,_,_=>by cases hx
 | z::r,acc,h,x,hx,y,hy,e=>by
  rw[misA,Bool.or_eq_false_iff]at h;rcases List.mem_cons.1 hx with rfl | hx
  ·have:=List.any_eq_false.1 h.1 y hy;rw[decide_eq_true e,Bool.true_and]at this;simpa using this
  ·exact E8f h.2 x hx y (by simp[hy]) e
theorem D1u:∀{l acc:List Vr},misA acc l=false->l.Pairwise fun y x=>nmV y=nmV x->y.sort=x.sort
 | [],acc,_=>List.Pairwise.nil
 | z::r,acc,h=>by
  rw[misA,Bool.or_eq_false_iff]at h;exact List.pairwise_cons.2 ⟨fun x hx e=>E8f h.2 x hx z (by simp) e,D1u h.2⟩
theorem F3h {l:List Vr} (h:misA [] l=false) {x y:Vr} (hx:x∈l) (hy:y∈l) (e:nmV x=nmV y):x.sort=y.sort:=by
 have hp:=D1u h;obtain⟨i,hi⟩:=List.getElem?_of_mem hx;obtain⟨j,hj⟩:=List.getElem?_of_mem hy;obtain⟨hi1,hi2⟩:=List.getElem?_eq_some_iff.1 hi;obtain⟨hj1,hj2⟩:=List.getElem?_eq_some_iff.1 hj;rw[List.pairwise_iff_getElem]at hp;rcases Nat.lt_trichotomy i j with hlt | heq | hgt
 ·have:=hp i j hi1 hj1 hlt;rw[hi2,hj2]at this;exact this e
 ·subst heq;rw[hi2]at hj2;rw[hj2]
 ·have:=hp j i hj1 hi1 hgt;rw[hi2,hj2]at this;exact(this e.symm).symm
theorem D9c {l:List Vr} (h:misA [] l=false) {v:Vr} (hv:v∈l):A3p l (nmV v)=v.sort:=by
 unfold A3p
 cases hf:l.find? fun u=>decide (nmV u=nmV v)with
 | none=>
  rw[List.find?_eq_none]at hf;exact absurd (decide_eq_true rfl) (hf v hv)
 | some u=>
  have h1:=List.find?_some hf;have h2:=List.mem_of_find?_eq_some hf;exact F3h h h2 hv (of_decide_eq_true h1)
theorem E8g {raw:Mr} {l:List Vr} {m:Mr} (h:finM raw l = .ok m):m=outM raw l/\A3c A0h m=0/\misA [] l=false/\ordV (l.map nmV)=true/\∀v∈l,numS (wb v.digits)=(nmV v,0):=by
 unfold finM at h
 cases hn:B7n l with
 | none=>rw[hn]at h;cases h
 | some ns=>
  rw[hn]at h;obtain⟨h1,h2⟩:=C5v hn;subst h1;simp only at h;split at h
  ·cases h
  rename_i h3;split at h
  ·cases h
  rename_i h4;by_cases h5:A3c A0h (outM raw l)=0
  ·rw[if_neg (fun e=>e h5)]at h;injection h with h;subst h;exact⟨rfl,h5,by simpa using h3,by simpa using h4,h2⟩
  ·rw[if_pos h5]at h;cases h
end Go.Proofs.YtmgjopafgboljaaGreatDoor
