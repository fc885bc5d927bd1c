/- Auxiliary facts. -/
import Derived.Test.YtmplckgbeaifkaaGreatDoorVCQ31
import Derived.Test.YtmplckgbeaifkaaGreatDoorVCQ39
import Derived.Test.YtmplckgbeaifkaaGreatDoorVCQ34
import Derived.Test.YtmplckgbeaifkaaGreatDoorVCQ27
set_option linter.unusedSimpArgs false
set_option maxRecDepth 100000
set_option maxHeartbeats 0
set_option linter.unusedVariables false
namespace Go.Proofs.YtmplckgbeaifkaaGreatDoor
open Go Go.Abs
mutual
def sizD:Dv->Nat->Nat
 | .mk _ n _ _ ks,most=>if 100<n.size\/most<ks.length then most+1 else sizK ks most 1
def sizK:List Dv->Nat->Nat->Nat
 | [],_,n=>n
 | d::r,most,n=>if n<=most then sizK r most (n+sizD d (most-n))else n
end
mutual
theorem F0h:∀(d:Dv) (m:Nat),sizD d m<=m+1
 | .mk _ n _ _ ks,m=>by
  rw[sizD];split
  ·exact Nat.le_refl _
  ·exact F0i ks m 1 (by omega)
theorem F0i:∀(l:List Dv) (m n:Nat),n<=m+1->sizK l m n<=m+1
 | [],m,n,h=>by rw[sizK];exact h
 | d::r,m,n,h=>by
  rw[sizK];split
  ·have:=F0h d (m-n);exact F0i r m _ (by omega)
  ·exact h
end
noncomputable def C3k:A0i:=cm Tryz.f70 19
theorem D7b {q:Gl}:FnOK Tryz.prog (G q) 70 1 19 C3k [(.tmp 2)]:=fk Tryz.func70 (by kernel_rfl) (by kernel_rfl)
noncomputable def C3l:A0i:=cm Tryz.f35 64
theorem D7c {q:Gl}:FnOK Tryz.prog (G q) 35 1 64 C3l [(.tmp 2)]:=fk Tryz.func35 (by kernel_rfl) (by kernel_rfl)
noncomputable def B2z:A0i:=cm Tryz.f38 42
theorem C3m {q:Gl}:FnOK Tryz.prog (G q) 38 1 42 B2z [(.tmp 2)]:=fk Tryz.func38 (by kernel_rfl) (by kernel_rfl)
variable {q : Gl}
noncomputable def gSiz (k:Nat):List T->Option T
 | [a,.v (.int .i64 m)]=>(tD.dec a).bind fun d=>if 0<=m/\m<k/\m<=1000 then some (iv (sizD d m.toNat:Nat))else none
 | _=>none
theorem G3l {c:List T} {d:Dv} (h:Abs.IsD d c):tD.dec (.ag c)=some d:=by
 have hd:∃x,tD.dec (.ag c)=some x:=by
  unfold Ty.dec;rw[dif_pos ⟨d,c,rfl,h⟩];exact⟨_,rfl⟩
 obtain⟨x,hx⟩:=hd;rw[hx,tD.uniq (.ag c) x d (Ty.is_dec hx) ⟨c,rfl,h⟩]
theorem F0j {k:Nat} {c:List T} {d:Dv} (h:Abs.IsD d c) {m:Nat} (hm:m<k) (h1:m<=1000):gSiz k [.ag c,iv (m:Int)]=some (iv (sizD d m:Nat)):=by
 simp only[gSiz,G3l h,Option.bind_some,Int.toNat_natCast];rw[if_pos (by omega)]
def SSz (X:Row) (m:Nat) (a:Nat×Nat):A0b:=⟨[(6,.t (iv (a.1:Int))),(5,.t (iv (a.2:Int))),(2,.ptr 0 0),(1,.t (iv (m:Int)))],[(0,X)],1,44⟩
theorem F0k {n:Nat} (hrec:GOK Tryz.prog (G q) 97 (gSiz n)) {c:List T} {d:Dv} (h:Abs.IsD d c) {m:Nat} (hm:m<=n) (h1:m<=1000):A0v Tryz.prog (G q) 97 [.ag c,iv (m:Int)] (· = iv (sizD d m:Nat)):=by
 cases d with
 | mk k nm f tt ks=>
 obtain⟨tk,rfl,hk⟩:=h.parts;have C:Ctx Tryz.prog (G q) _:=(A0x.cons hrec .nil).ctx mixed;have cd:=A9v k nm f tt tk;have lk:=hk.len
 obtain⟨X,hX⟩:∃X,X=dRow k nm f tt tk:=⟨_,rfl⟩
 have l1:∀R:Heap,A0e false 1 ((0,X)::R) (.ptr 0 1)=some (.t (sv nm)):=fun _=>by rw[hX];rfl
 have l4:∀R:Heap,A0e false 1 ((0,X)::R) (.ptr 0 4)=some (.t tk):=fun _=>by rw[hX];rfl
 refine E4b.call rfl ?_;(conv in C6v=>cbv)
 obtain⟨R,hR⟩:∃R,R=sizD (.mk k nm f tt ks) m:=⟨_,rfl⟩
 rw[<-hR];rw[sizD]at hR;refine A0a C ?_;simp -implicitDefEqProofs [cd];rw[show Row.cells 26 [.t (iv k),.t (sv nm),.t (iv f),.t (iv tt),.t tk]=X from hX.symm];by_cases hbig:100<nm.size\/m<ks.length
 ·rw[if_pos hbig]at hR;have e1:IntKind.i64.wrap ((m:Int)+1)=((m+1:Nat):Int):=A0j (by omega) (by omega);subst hR;refine A0c C ?_;by_cases hn:100<nm.size
  ·have hb:decide ((100:Int)<(nm.size:Int))=true:=by simpa using (by omega:(100:Int)<(nm.size:Int))
   simp -implicitDefEqProofs [l1,hb,e1]
  ·have hb:decide ((100:Int)<(nm.size:Int))=false:=by simpa using (by omega:(nm.size:Int)<=100)
   have hb2:m<ks.length:=by omega
   simp -implicitDefEqProofs [l1,hb,l4,lk,hb2,e1]
 rw[if_neg hbig]at hR;have hn:¬100<nm.size:=fun e=>hbig (.inl e);have hkl:¬m<ks.length:=fun e=>hbig (.inr e)
 have hb:decide ((100:Int)<(nm.size:Int))=false:=by simpa using (by omega:(nm.size:Int)<=100)
 refine A0a C ?_;simp -implicitDefEqProofs [l1,hb,l4,lk,hkl];refine A0a C ?_;simp -implicitDefEqProofs;refine A0s (α:=Unit) (fun _=>⟨[(5,.t (iv (R:Int)))],[(0,X)],1,44⟩) (fun _=>True) (fun _=>rfl) ?_ ?_
 ·refine A0a C ?_;simp -implicitDefEqProofs;refine A0g ?_;refine A0t (SSz X m) (fun a=>ks.length-a.1) (fun a=>a.1<=ks.length/\1<=a.2/\a.2<=m+1/\sizK (ks.drop a.1) m a.2=R) (0,1) (fun _=>rfl) ⟨Nat.zero_le _,Nat.le_refl _,by show 1<=m+1;omega,hR.symm⟩ ?_ rfl ?_
  ·refine A0d ?_;simp -implicitDefEqProofs [SSz]
  rintro⟨j,z⟩ ⟨hj,hz1,hz,heq⟩;simp only at hj hz1 hz heq;refine A0c C ?_;by_cases hlt:j<ks.length
  ·obtain⟨x,hx⟩:∃x,ks[j]?=some x:=⟨_,List.getElem?_eq_getElem hlt⟩
   rw[List.drop_eq_getElem_cons hlt,(List.getElem?_eq_some_iff.1 hx).2,sizK]at heq;by_cases hzm:z<=m
   ·rw[if_pos hzm]at heq;obtain⟨pp,cx,i1,ld,hcx⟩:=C3b hk hx;have e1:IntKind.i64.wrap ((j:Int)+1)=((j+1:Nat):Int):=A0j (by omega) (by omega);have e2:IntKind.i64.wrap ((m:Int)-(z:Int))=((m-z:Nat):Int):=A0j (by omega) (by omega);have hsz:=F0h x (m-z);have eS:=F0j (k:=n) hcx (m:=m-z) (by omega) (by omega);have e3:IntKind.i64.wrap ((z:Int)+((sizD x (m-z):Nat):Int))=((z+sizD x (m-z):Nat):Int):=A0j (by omega) (by omega);simp -implicitDefEqProofs [SSz,l4,lk,hlt,hzm,i1,ld,e2,eS,e3,e1];exact Abs.Next.mk (j+1,z+sizD x (m-z)) ⟨⟨by show j+1<=_;omega,by show 1<=z+_;omega,by show z+_<=_;omega,heq⟩,by show ks.length-(j+1)<ks.length-j;omega⟩ (A0d (by simp -implicitDefEqProofs [SSz]))
   ·rw[if_neg hzm]at heq;simp -implicitDefEqProofs [SSz,l4,lk,hlt,hzm];exact Abs.Next.mk () trivial (A0d (by simp -implicitDefEqProofs [heq]))
  ·rw[List.drop_of_length_le (by omega),sizK]at heq;simp -implicitDefEqProofs [SSz,l4,lk,hlt];exact Abs.Next.mk () trivial (A0d (by simp -implicitDefEqProofs [heq]))
 ·rintro _ -;refine A0c C ?_;simp -implicitDefEqProofs
theorem F0l:∀n,GOK Tryz.prog (G q) 97 (gSiz n)
 | 0,args,r,h=>by
  unfold gSiz at h;split at h
  ·obtain⟨d,_,h⟩:=Option.bind_eq_some_iff.1 h;rw[if_neg (by omega)]at h;cases h
  ·cases h
 | n+1,args,r,h=>by
  unfold gSiz at h;split at h
  ·rename_i a m;obtain⟨d,h1,h⟩:=Option.bind_eq_some_iff.1 h;split at h
   ·rename_i hn;injection h with h;subst h;obtain⟨c,rfl,hc⟩:=Ty.is_dec h1;have:=F0k (q:=q) (F0l n) hc (m:=m.toNat) (by omega) (by omega);rwa[show((m.toNat:Nat):Int)=m by omega]at this
   ·cases h
  ·cases h
noncomputable def C7j:List T->Option T
 | [a,.v (.int .i64 m)]=>(tD.dec a).bind fun d=>if 0<=m/\m<=1000 then some (bv (decide (sizD d m.toNat<=m.toNat)))else none
 | _=>none
theorem F7v:GOK Tryz.prog (G q) 51 C7j:=fun args r h=>by
 unfold C7j at h;split at h
 ·rename_i a m;obtain⟨d,h1,h⟩:=Option.bind_eq_some_iff.1 h;split at h
  ·rename_i hn;injection h with h;subst h;obtain⟨c,rfl,hc⟩:=Ty.is_dec h1
   obtain⟨k,rfl⟩:∃k:Nat,m=(k:Int):=⟨m.toNat,by omega⟩
   have eS:=F0j (k:=1001) hc (m:=k) (by omega) (by omega)
   cases d with
   | mk kk nm f tt ks=>
   obtain⟨tk,rfl,hk⟩:=hc.parts;have cd:=A9v kk nm f tt tk;have ld:A0e true 5 [(0,.cells 26 [.t (iv kk),.t (sv nm),.t (iv f),.t (iv tt),.t tk])] (.ptr 0 0)=some (.t (.ag [iv kk,sv nm,iv f,iv tt,tk])):=rfl;refine D6n.runs ((A0x.cons (F0l (q:=q) 1001) .nil).ctx mixed) rfl ?_
   (conv in C2r=>cbv);simp -implicitDefEqProofs [cd,ld,eS]
  ·cases h
 ·cases h
theorem D3p {c:List T} {d:Dv} (h:Abs.IsD d c) {m:Nat} (h1:m<=1000):C7j [.ag c,iv (m:Int)]=some (bv (decide (sizD d m<=m))):=by
 simp only[C7j,G3l h,Option.bind_some,Int.toNat_natCast];rw[if_pos (by omega)]
end Go.Proofs.YtmplckgbeaifkaaGreatDoor
