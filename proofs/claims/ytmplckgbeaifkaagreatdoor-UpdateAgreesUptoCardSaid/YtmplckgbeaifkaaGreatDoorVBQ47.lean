/-
 Auxiliary facts. No statement of the program stands here.
-/
import Derived.Test.YtmplckgbeaifkaaGreatDoorVBQ32
namespace Go.Proofs.YtmplckgbeaifkaaGreatDoor
set_option linter.unusedSimpArgs false
set_option linter.unusedVariables false
open Go Go.Abs
variable {q : Gl}
def SAs (t:T) (j:Nat):A0b:=⟨[(3,.t (iv (j:Int))),(0,.t t)],[],0,21⟩
theorem E7j {t:T} {l:List Dv} (ht:IsK t l) (hs:SmK l):A0w Tryz.prog (G q) 28 [t] (· = bv (ascD l)):=by
 have C:Ctx Tryz.prog (G q) _:=(A0y.cons (D2w (q:=q)) .nil).ctx mixed;have l1:=ht.len;have hl:=hs.len;refine C5o.call rfl ?_;unfold B4i
 obtain⟨R,hR⟩:∃R,R=ascD l:=⟨_,rfl⟩
 rw[<-hR];refine A0a C ?_;simp -implicitDefEqProofs;refine A0o (α:=Unit) (fun _=>⟨[],[],0,21⟩) (fun _=>R=true) (fun _=>rfl) ?_ ?_
 ·refine A0a C ?_;simp -implicitDefEqProofs;refine A0f ?_;refine A0k (SAs t) (fun j=>l.length-j) (fun j=>1<=j/\(j<=l.length\/j=1)/\ascD (l.drop (j-1))=R) 1 (fun _=>rfl) ⟨Nat.le_refl _,.inr rfl,by simp[hR]⟩ ?_ rfl ?_
  ·refine A0d ?_;simp -implicitDefEqProofs [SAs]
  rintro j ⟨h1,hj,heq⟩;refine A0c C ?_;by_cases hlt:j<l.length
  ·obtain⟨y,hy⟩:∃y,l[j]?=some y:=⟨_,List.getElem?_eq_getElem hlt⟩
   obtain⟨x,hx⟩:∃x,l[j-1]?=some x:=⟨_,List.getElem?_eq_getElem (by omega)⟩
   obtain⟨p1,c1,i1,ld1,hc1⟩:=A5d ht hx;obtain⟨p2,c2,i2,ld2,hc2⟩:=A5d ht hy;have e1:IntKind.i64.wrap ((j:Int)+1)=((j+1:Nat):Int):=A0h (by omega) (by omega);have e0:IntKind.i64.wrap ((j:Int)-1)=((j-1:Nat):Int):=A0h (by omega) (by omega);have n1:=hs.kid (List.mem_of_getElem? hx);have n2:=hs.kid (List.mem_of_getElem? hy);have eC:=A9r hc1 hc2 (by omega) (by omega)
   have hd:l.drop (j-1)=x::y::l.drop (j+1):=by
    rw[List.drop_eq_getElem_cons (by omega),(List.getElem?_eq_some_iff.1 hx).2,show j-1+1=j by omega,List.drop_eq_getElem_cons hlt,(List.getElem?_eq_some_iff.1 hy).2]
   have hd2:l.drop (j+1-1)=y::l.drop (j+1):=by
    rw[show j+1-1=j by omega,List.drop_eq_getElem_cons hlt,(List.getElem?_eq_some_iff.1 hy).2]
   rw[hd,ascD]at heq;by_cases h0:cmpD x y<0
   ·have hb:¬0<=cmpD x y:=by omega
    simp -implicitDefEqProofs [SAs,l1,hlt,i1,ld1,i2,ld2,eC,hb,e0,e1];exact Abs.Next.mk (j+1) ⟨⟨by omega,.inl (by omega),by rw[hd2,<-heq];simp[h0]⟩,by omega⟩ (A0d (by simp -implicitDefEqProofs [SAs]))
   ·have hb:0<=cmpD x y:=by omega
    have hr:R=false:=by rw[<-heq];simp[h0]
    simp -implicitDefEqProofs [SAs,l1,hlt,i1,ld1,i2,ld2,eC,hb,e0,hr]
  ·have hr:R=true:=by
    rw[<-heq]
    have:(l.drop (j-1)).length<=1:=by rw[List.length_drop];omega
    match hd:l.drop (j-1)with
    | []=>rfl
    | [_]=>rfl
    | _::_::_=>rw[hd]at this;simp at this
   simp -implicitDefEqProofs [SAs,l1,hlt];exact Abs.Next.mk () hr (A0s rfl rfl (by simp -implicitDefEqProofs) (by simp -implicitDefEqProofs))
 ·rintro _ h0;refine A0c C ?_;simp -implicitDefEqProofs [h0]
noncomputable def F9a:List T->Option T:=g1 tK fun l=>open Classical in if SmK l then some (bv (ascD l))else none
theorem F1u:GOK Tryz.prog (G q) 28 F9a:=A4c fun a x r ha hr=>by
 split at hr
 ·rename_i h;injection hr with hr;subst hr;exact E7j ha h
 ·cases hr
theorem B8t {t:T} {l:List Dv} (ht:IsK t l) (hs:SmK l):F9a [t]=some (bv (ascD l)):=by
 show g1 _ _ _=_;rw[A5b (τ:=tK) ht,if_pos hs]
noncomputable def gSiz (k:Nat):List T->Option T
 | [a,.v (.int .i64 m)]=>(tD.dec a).bind fun d=>if 0<=m/\m<k/\m<=1000 then some (iv (sizD d m.toNat:Nat))else none
 | _=>none
theorem F9b {c:List T} {d:Dv} (h:Abs.IsD d c):tD.dec (.ag c)=some d:=by
 have hd:∃x,tD.dec (.ag c)=some x:=by
  unfold Ty.dec;rw[dif_pos ⟨d,c,rfl,h⟩];exact⟨_,rfl⟩
 obtain⟨x,hx⟩:=hd;rw[hx,tD.uniq (.ag c) x d (Ty.is_dec hx) ⟨c,rfl,h⟩]
theorem E7k {k:Nat} {c:List T} {d:Dv} (h:Abs.IsD d c) {m:Nat} (hm:m<k) (h1:m<=1000):gSiz k [.ag c,iv (m:Int)]=some (iv (sizD d m:Nat)):=by
 simp only[gSiz,F9b h,Option.bind_some,Int.toNat_natCast];rw[if_pos (by omega)]
def SSz (X:Row) (m:Nat) (a:Nat×Nat):A0b:=⟨[(6,.t (iv (a.1:Int))),(5,.t (iv (a.2:Int))),(2,.ptr 0 0),(1,.t (iv (m:Int)))],[(0,X)],1,44⟩
theorem E7l {n:Nat} (hrec:GOK Tryz.prog (G q) 97 (gSiz n)) {c:List T} {d:Dv} (h:Abs.IsD d c) {m:Nat} (hm:m<=n) (h1:m<=1000):A0w Tryz.prog (G q) 97 [.ag c,iv (m:Int)] (· = iv (sizD d m:Nat)):=by
 cases d with
 | mk k nm f tt ks=>
 obtain⟨tk,rfl,hk⟩:=h.parts;have C:Ctx Tryz.prog (G q) _:=(A0y.cons hrec .nil).ctx mixed;have cd:=A3o k nm f tt tk;have lk:=hk.len
 obtain⟨X,hX⟩:∃X,X=dRow k nm f tt tk:=⟨_,rfl⟩
 have l1:∀R:Heap,A0g false 1 ((0,X)::R) (.ptr 0 1)=some (.t (sv nm)):=fun _=>by rw[hX];rfl
 have l4:∀R:Heap,A0g false 1 ((0,X)::R) (.ptr 0 4)=some (.t tk):=fun _=>by rw[hX];rfl
 refine D9f.call rfl ?_;unfold C3j
 obtain⟨R,hR⟩:∃R,R=sizD (.mk k nm f tt ks) m:=⟨_,rfl⟩
 rw[<-hR];rw[sizD]at hR;refine A0a C ?_;simp -implicitDefEqProofs [cd];rw[show Row.cells 26 [.t (iv k),.t (sv nm),.t (iv f),.t (iv tt),.t tk]=X from hX.symm];by_cases hbig:100<nm.size\/m<ks.length
 ·rw[if_pos hbig]at hR;have e1:IntKind.i64.wrap ((m:Int)+1)=((m+1:Nat):Int):=A0h (by omega) (by omega);subst hR;refine A0c C ?_;by_cases hn:100<nm.size
  ·have hb:decide ((100:Int)<(nm.size:Int))=true:=by simpa using (by omega:(100:Int)<(nm.size:Int))
   simp -implicitDefEqProofs [l1,hb,e1]
  ·have hb:decide ((100:Int)<(nm.size:Int))=false:=by simpa using (by omega:(nm.size:Int)<=100)
   have hb2:m<ks.length:=by omega
   simp -implicitDefEqProofs [l1,hb,l4,lk,hb2,e1]
 rw[if_neg hbig]at hR;have hn:¬100<nm.size:=fun e=>hbig (.inl e);have hkl:¬m<ks.length:=fun e=>hbig (.inr e)
 have hb:decide ((100:Int)<(nm.size:Int))=false:=by simpa using (by omega:(nm.size:Int)<=100)
 refine A0a C ?_;simp -implicitDefEqProofs [l1,hb,l4,lk,hkl];refine A0a C ?_;simp -implicitDefEqProofs;refine A0o (α:=Unit) (fun _=>⟨[(5,.t (iv (R:Int)))],[(0,X)],1,44⟩) (fun _=>True) (fun _=>rfl) ?_ ?_
 ·refine A0a C ?_;simp -implicitDefEqProofs;refine A0f ?_;refine A0k (SSz X m) (fun a=>ks.length-a.1) (fun a=>a.1<=ks.length/\1<=a.2/\a.2<=m+1/\sizK (ks.drop a.1) m a.2=R) (0,1) (fun _=>rfl) ⟨Nat.zero_le _,Nat.le_refl _,by show 1<=m+1;omega,hR.symm⟩ ?_ rfl ?_
  ·refine A0d ?_;simp -implicitDefEqProofs [SSz]
  rintro⟨j,z⟩ ⟨hj,hz1,hz,heq⟩;simp only at hj hz1 hz heq;refine A0c C ?_;by_cases hlt:j<ks.length
  ·obtain⟨x,hx⟩:∃x,ks[j]?=some x:=⟨_,List.getElem?_eq_getElem hlt⟩
   rw[List.drop_eq_getElem_cons hlt,(List.getElem?_eq_some_iff.1 hx).2,sizK]at heq;by_cases hzm:z<=m
   ·rw[if_pos hzm]at heq;obtain⟨pp,cx,i1,ld,hcx⟩:=A5d hk hx;have e1:IntKind.i64.wrap ((j:Int)+1)=((j+1:Nat):Int):=A0h (by omega) (by omega);have e2:IntKind.i64.wrap ((m:Int)-(z:Int))=((m-z:Nat):Int):=A0h (by omega) (by omega);have hsz:=E3p x (m-z);have eS:=E7k (k:=n) hcx (m:=m-z) (by omega) (by omega);have e3:IntKind.i64.wrap ((z:Int)+((sizD x (m-z):Nat):Int))=((z+sizD x (m-z):Nat):Int):=A0h (by omega) (by omega);simp -implicitDefEqProofs [SSz,l4,lk,hlt,hzm,i1,ld,e2,eS,e3,e1];exact Abs.Next.mk (j+1,z+sizD x (m-z)) ⟨⟨by show j+1<=_;omega,by show 1<=z+_;omega,by show z+_<=_;omega,heq⟩,by show ks.length-(j+1)<ks.length-j;omega⟩ (A0d (by simp -implicitDefEqProofs [SSz]))
   ·rw[if_neg hzm]at heq;simp -implicitDefEqProofs [SSz,l4,lk,hlt,hzm];exact Abs.Next.mk () trivial (A0d (by simp -implicitDefEqProofs [heq]))
  ·rw[List.drop_of_length_le (by omega),sizK]at heq;simp -implicitDefEqProofs [SSz,l4,lk,hlt];exact Abs.Next.mk () trivial (A0d (by simp -implicitDefEqProofs [heq]))
 ·rintro _ -;refine A0c C ?_;simp -implicitDefEqProofs
theorem E7m:∀n,GOK Tryz.prog (G q) 97 (gSiz n)
 | 0,args,r,h=>by
  unfold gSiz at h;split at h
  ·obtain⟨d,_,h⟩:=Option.bind_eq_some_iff.1 h;rw[if_neg (by omega)]at h;cases h
  ·cases h
 | n+1,args,r,h=>by
  unfold gSiz at h;split at h
  ·rename_i a m;obtain⟨d,h1,h⟩:=Option.bind_eq_some_iff.1 h;split at h
   ·rename_i hn;injection h with h;subst h;obtain⟨c,rfl,hc⟩:=Ty.is_dec h1;have:=E7l (q:=q) (E7m n) hc (m:=m.toNat) (by omega) (by omega);rwa[show((m.toNat:Nat):Int)=m by omega]at this
   ·cases h
  ·cases h
noncomputable def C4k:List T->Option T
 | [a,.v (.int .i64 m)]=>(tD.dec a).bind fun d=>if 0<=m/\m<=1000 then some (bv (decide (sizD d m.toNat<=m.toNat)))else none
 | _=>none
theorem F3a:GOK Tryz.prog (G q) 51 C4k:=fun args r h=>by
 unfold C4k at h;split at h
 ·rename_i a m;obtain⟨d,h1,h⟩:=Option.bind_eq_some_iff.1 h;split at h
  ·rename_i hn;injection h with h;subst h;obtain⟨c,rfl,hc⟩:=Ty.is_dec h1
   obtain⟨k,rfl⟩:∃k:Nat,m=(k:Int):=⟨m.toNat,by omega⟩
   have eS:=E7k (k:=1001) hc (m:=k) (by omega) (by omega)
   cases d with
   | mk kk nm f tt ks=>
   obtain⟨tk,rfl,hk⟩:=hc.parts;have cd:=A3o kk nm f tt tk;have ld:A0g true 5 [(0,.cells 26 [.t (iv kk),.t (sv nm),.t (iv f),.t (iv tt),.t tk])] (.ptr 0 0)=some (.t (.ag [iv kk,sv nm,iv f,iv tt,tk])):=rfl;refine D2o.runs ((A0y.cons (E7m (q:=q) 1001) .nil).ctx mixed) rfl ?_;simp -implicitDefEqProofs [C0d,cd,ld,eS]
  ·cases h
 ·cases h
theorem D0v {c:List T} {d:Dv} (h:Abs.IsD d c) {m:Nat} (h1:m<=1000):C4k [.ag c,iv (m:Int)]=some (bv (decide (sizD d m<=m))):=by
 simp only[C4k,F9b h,Option.bind_some,Int.toNat_natCast];rw[if_pos (by omega)]
end Go.Proofs.YtmplckgbeaifkaaGreatDoor
