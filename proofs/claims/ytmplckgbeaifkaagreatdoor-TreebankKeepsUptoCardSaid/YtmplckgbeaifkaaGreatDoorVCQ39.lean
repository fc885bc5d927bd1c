/- Auxiliary facts. -/
import Derived.Test.YtmplckgbeaifkaaGreatDoorVCQ37
import Derived.Test.YtmplckgbeaifkaaGreatDoorVCQ38
set_option linter.unusedSimpArgs false
set_option maxRecDepth 100000
set_option maxHeartbeats 0
set_option linter.unusedVariables false
namespace Go.Proofs.YtmplckgbeaifkaaGreatDoor
open Go Go.Abs
variable {q : Gl}
theorem F5t {F:FuncId} {z ty n:Nat} (i0:TypeInfo) (zv:Value) (hF:IsFn Tryz.prog F) (hz0:zv.cells.size=i0.size) (hz:i0.size=z) (hpos:0<z)
  (h0:∀w,Calls Tryz.prog F #[.slice none 0 0,.int .i64 (0:Nat)] w fun e w'=>e = .returned (.slice none 0 0)/\w'=w)
  (h1:0<n->∀w,Calls Tryz.prog F #[.slice none 0 0,.int .i64 n] w fun e w'=>e = .returned (.slice (some ⟨w.heap.size,0,none⟩) 0 (grownCap w (0+n) 0 ty)) /\
   w'=w.drew.alloc (.cells (([]:List Value).toArray++Builtin.zeroCells zv.cells (0+n-0)++Builtin.zeroCells zv.cells (grownCap w (0+n) 0 ty-(0+n))) ty)) {H:Heap} {nx:Nat} :
  A1v Tryz.prog (G q) F [.t nilS,.t (iv (n:Int))] H nx (if n=0 then .t nilS else .row nx 0 0 z) (if n=0 then H else(nx,.cells ty [])::H) (if n=0 then nx else nx+1):=by
 refine⟨hF,fun L w us hok hnx hargs=>?_⟩
 have hus:us = #[.slice none 0 0,.int .i64 n]:=by
  simp only[A0u,RepV,RepT]at hargs;obtain⟨x,xs,e,rfl,y,ys,rfl,rfl,rfl⟩:=hargs;exact Array.ext' e
 subst hus;by_cases hn:n=0
 ·subst hn;refine(h0 w).mono ?_;rintro e w' ⟨rfl,rfl⟩;exact⟨_,L,rfl,by simp[RepV,RepT],by simpa using hok,by simpa using hnx,Mono.refl L _,by simpa using Ext.refl L H _⟩
 ·refine(h1 (by omega) w).mono ?_;rintro e w' ⟨rfl,rfl⟩;simp only[if_neg hn];have hge:=grownCap_ge w (0+n) 0 ty
  obtain⟨C,hC⟩:∃C,C=grownCap w (0+n) 0 ty:=⟨_,rfl⟩
  rw[<-hC]at hge ⊢
  obtain⟨arr,harr⟩:∃arr,arr=([]:List Value).toArray++Builtin.zeroCells zv.cells (0+n-0)++Builtin.zeroCells zv.cells (C-(0+n)):=⟨_,rfl⟩
  have hsz:arr.size=C*z:=by
   rw[harr];simp only[Builtin.zeroCells,Array.size_append,Array.size_map,Array.size_range,hz0,hz];rw[show([]:List Value).toArray.size=0 from rfl,Nat.zero_add,<-Nat.add_mul];congr 1;omega
  rw[<-harr]
  have hnew:(w.drew.alloc (.cells arr ty)).heap[w.heap.size]?=some (.cells arr ty (0,0)):=by
   show(w.heap.push (.cells arr ty (0,0)))[w.heap.size]?=_;rw[Array.getElem?_push,if_pos rfl]
  have hns:w.heap.size<(w.drew.alloc (.cells arr ty)).heap.size:=by
   show w.heap.size<(w.heap.push _).size;rw[Array.size_push];omega
  obtain⟨h1,h2,h3⟩:=C0o (r:=.cells ty []) (w':=w.drew.alloc (.cells arr ty)) (o:=.cells arr ty) hok ⟨rfl,rfl,rfl⟩ rfl ⟨arr,hnew,by simp,fun j c hj=>by simp at hj⟩;rw[hnx]at h1 h3;refine⟨_,L.grow w.heap.size,rfl,?_,h1,by simp[Loc.grow,hnx],h2,h3⟩;simp only[RepV,Loc.grow,hnx,if_true];refine⟨by omega,hns,C,rfl,by omega,fun a t fz he=>?_⟩;rw[hnew]at he;injection he with he;injection he with e1 e2 e3;subst e1;omega
theorem half (a b:Nat) (h:a+b<=9223372036854775807):IntKind.i64.wrap ((IntKind.u64.wrap (IntKind.i64.wrap ((a:Int)+b))).fdiv (2^(min (1:Int).toNat IntKind.u64.bits)))=(((a+b) / 2:Nat):Int):=by
 rw[A0j (z:=(a:Int)+b) (n:=a+b) (by omega) h,A7t (by omega) (by omega)]
 have:((a+b:Nat):Int).fdiv (2^(min (1:Int).toNat IntKind.u64.bits))=(((a+b) / 2:Nat):Int):=by
  show((a+b:Nat):Int).fdiv 2=_;rw[Int.fdiv_eq_ediv_of_nonneg _ (by omega)];omega
 rw[this,A0j rfl (by omega)]
noncomputable def hSet {α:Type} (mk:α->List PV) (p:α->T) (l:List α) (H0:Heap) (nx0:Nat) (ps:List PV) (H:Heap) (nx:Nat):Option (PV×Heap×Nat):=
 open Classical in if h : (∃ x ∈ l, ps = mk x) /\ H = H0 /\ nx = nx0 then some (.t (p h.1.choose), H0, nx0) else none
theorem G0q {P:Program} {G:A0w} {α:Type} {f:FuncId} {mk:α->List PV} {p:α->T} {l:List α} {H0:Heap} {nx0:Nat} (h:∀x∈l,A1v P G f (mk x) H0 nx0 (.t (p x)) H0 nx0):HOK P G f (hSet mk p l H0 nx0) where
 call:=fun ps H nx r H' nx' hr=>by
  unfold hSet at hr;split at hr
  ·rename_i hc;injection hr with hr;injection hr with h1 h2;injection h2 with h2 h3;subst h1;subst h2;subst h3;obtain⟨h4,rfl,rfl⟩:=hc;have hs:=h4.choose_spec;have:=h _ hs.1;rw[<-hs.2]at this;exact this
  ·cases hr
 fresh:=fun ps H nx r H' nx' hr hf=>by
  unfold hSet at hr;split at hr
  ·rename_i hc;injection hr with hr;injection hr with h1 h2;injection h2 with h2 h3;subst h2;subst h3;obtain⟨_,rfl,rfl⟩:=hc;exact hf
  ·cases hr
theorem G0r {α:Type} {mk:α->List PV} {p:α->T} {l:List α} (hinj:∀x y,mk x=mk y->x=y) (H:Heap) (nx:Nat) {x:α} (hx:x∈l):hSet mk p l H nx (mk x) H nx=some (.t (p x),H,nx):=by
 unfold hSet
 have hc:(∃y∈l,mk x=mk y)/\H=H/\nx=nx:=⟨⟨x,hx,rfl⟩,rfl,rfl⟩
 rw[dif_pos hc];have:=hinj _ _ hc.1.choose_spec.2;rw[<-this]
def idxI {α:Type} (p:α->Bool) (l:List α):Int:=if l.findIdx p<l.length then(l.findIdx p:Int)else -1
theorem F5u {α:Type} (p:α->Bool) (l:List α):decide (0<=idxI p l)=l.any p:=by
 unfold idxI;by_cases h:l.findIdx p<l.length
 ·rw[if_pos h];obtain⟨x,hx,hp⟩:=B1c h;have:l.any p=true:=List.any_eq_true.2 ⟨x,List.mem_of_getElem? hx,hp⟩;rw[this];simp
 ·rw[if_neg h]
  have:l.any p=false:=by
   rw[List.any_eq_false];intro x hx;have:=B9n (p:=p) (l:=l) (by have:=C6l p l;omega) x hx;simp[this]
  rw[this];rfl
def SIx (td:T) (fn:PV) (n:Nat) (H:Heap) (nx:Nat) (j:Nat):A0b:=⟨[(8,.t (iv (j:Int))),(7,.t (iv (n:Int))),(1,fn),(0,.t td)],H,nx,19⟩
theorem F0w {first cap:List PV}:∀x y:Dc,first++[PV.t (.ag (eDc.enc x))]++cap=first++[PV.t (.ag (eDc.enc y))]++cap->x=y:=fun x y h=>by
 have h:=List.append_cancel_left (List.append_cancel_right h);injection h with h _;injection h with h;injection h with h;exact eDc.inj x y h
theorem E5b {F:Nat} {first cap:List PV} {td:T} {l:List Dc} {p:Dc->Bool} {H:Heap} {nx:Nat} (ht:IsS eDc td l) (hl:l.length<=1000000)
  (hp:∀x∈l,A1v Tryz.prog (G q) F (first++[PV.t (.ag (eDc.enc x))]++cap) H nx (.t (bv (p x))) H nx) :
  A1v Tryz.prog (G q) 160 [.t td,.fn (.func F) first cap] H nx (.t (iv (idxI p l))) H nx:=by
 have hS:=G0q (p:=fun x=>bv (p x)) hp;have eS:∀x∈l,hSet (fun x=>first++[PV.t (.ag (eDc.enc x))]++cap) (fun x=>bv (p x)) l H nx (first++[PV.t (.ag (eDc.enc x))]++cap) H nx=some (.t (bv (p x)),H,nx):=fun x hx=>G0r (mk:=fun x=>first++[PV.t (.ag (eDc.enc x))]++cap) F0w H nx hx;have hS:HOK Tryz.prog (G q) F (hSet (fun x=>first++[PV.t (.ag (eDc.enc x))]++cap) (fun x=>bv (p x)) l H nx):=hS
 obtain⟨tb,htb⟩:∃tb,tb=hSet (fun x=>first++[PV.t (.ag (eDc.enc x))]++cap) (fun x=>bv (p x)) l H nx:=⟨_,rfl⟩
 rw[<-htb]at hS eS;have C:Ctx Tryz.prog (G q) _:=A0x.nil.ctxH (A2a.cons hS .nil) mixed;have hlen:=ht.len;refine B7m.callP rfl ?_;(conv in A9f=>cbv)
 obtain⟨R,hR⟩:∃R,R=idxI p l:=⟨_,rfl⟩
 rw[<-hR];refine A0a C ?_;simp -implicitDefEqProofs;refine A0s (α:=Unit) (fun _=>⟨[],H,nx,19⟩) (fun _=>R = -1) (fun _=>rfl) ?_ ?_
 ·refine A0a C ?_;simp -implicitDefEqProofs [hlen];refine A0g ?_;refine A0t (SIx td (.fn (.func F) first cap) l.length H nx) (fun j=>l.length-j) (fun j=>j<=l.length/\j<=l.findIdx p) 0 (fun _=>rfl) ⟨Nat.zero_le _,Nat.zero_le _⟩ ?_ rfl ?_
  ·refine A0d ?_;simp -implicitDefEqProofs [SIx]
  rintro j ⟨hj,hjf⟩;by_cases hlt:j<l.length
  ·obtain⟨x,hx⟩:∃x,l[j]?=some x:=⟨_,List.getElem?_eq_getElem hlt⟩
   obtain⟨pp,i1,ld,_,_⟩:=C5g ht hx;have hm:=List.mem_of_getElem? hx;have es:=eS x hm;have e1:IntKind.i64.wrap ((j:Int)+1)=((j+1:Nat):Int):=A0j (by omega) (by omega)
   have es':tb (first++PV.t (.ag (eDc.enc x))::cap) H nx=some (.t (bv (p x)),H,nx):=by
    have:first++PV.t (.ag (eDc.enc x))::cap=first++[PV.t (.ag (eDc.enc x))]++cap:=by simp
    rw[this];exact es
   refine A0c C ?_
   cases hpx:p x with
   | true=>
    have hr:R=(j:Int):=by
     have:l.findIdx p=j:=by
      have h1:¬j<l.findIdx p:=fun h=>by
       have:=B5n h hx;rw[hpx]at this;cases this
      omega
     rw[hR,idxI,this,if_pos hlt]
    rw[hpx]at es';simp -implicitDefEqProofs [SIx,hlt,i1,ld,es',hr];exact⟨.inr rfl,_,_,Sub.refl _,rfl,rfl,rfl,rfl⟩
   | false=>
    have hne:j≠l.findIdx p:=fun e=>by
     obtain⟨y,hy,hpy⟩:=B1c (p:=p) (l:=l) (by omega);rw[<-e,hx]at hy;injection hy with hy;subst hy;rw[hpx]at hpy;cases hpy
    rw[hpx]at es';simp -implicitDefEqProofs [SIx,hlt,i1,ld,es',e1];exact Abs.Next.mk (j+1) ⟨⟨by omega,by omega⟩,by omega⟩ (A0d (by simp -implicitDefEqProofs [SIx]))
  ·have hr:R = -1:=by rw[hR,idxI,if_neg (by omega)]
   refine A0c C ?_;simp -implicitDefEqProofs [SIx,hlt];exact Abs.Next.mk () hr (A0d (by simp -implicitDefEqProofs))
 ·rintro _ hr;refine A0c C ?_;simp -implicitDefEqProofs [hr];exact⟨.inr rfl,_,_,Sub.refl _,rfl,rfl,rfl,rfl⟩
theorem C9w {F:Nat} {first cap:List PV} {td:T} {l:List Dc} {p:Dc->Bool} {H:Heap} {nx:Nat} (ht:IsS eDc td l) (hl:l.length<=1000000)
  (hp:∀x∈l,A1v Tryz.prog (G q) F (first++[PV.t (.ag (eDc.enc x))]++cap) H nx (.t (bv (p x))) H nx) :
  A1v Tryz.prog (G q) 112 [.t td,.fn (.func F) first cap] H nx (.t (bv (l.any p))) H nx:=by
 obtain⟨t1,e1,ok1⟩:∃t1,t1 [.t td,.fn (.func F) first cap] H nx=some (.t (iv (idxI p l)),H,nx)/\HOK Tryz.prog (G q) 160 t1:=⟨_,A2x _ _ _ _,A3m (E5b ht hl hp) (fun hf=>hf)⟩
 have C:Ctx Tryz.prog (G q) _:=A0x.nil.ctxH (A2a.cons ok1 .nil) mixed;refine B2s.callP rfl ?_;(conv in A6y=>cbv);refine A0c C ?_;have ha:=F5u p l;simp -implicitDefEqProofs [e1];exact⟨.inr rfl,_,_,Sub.refl _,rfl,by rw[<-ha];rfl,rfl,rfl⟩
noncomputable def B1r:A0i:=cm Tryz.f37 46
theorem C0l {q:Gl}:FnOK Tryz.prog (G q) 37 1 46 B1r [(.tmp 2)]:=fk Tryz.func37 (by kernel_rfl) (by kernel_rfl)
noncomputable def B4y:A0i:=cm Tryz.f39 51
theorem C5i {q:Gl}:FnOK Tryz.prog (G q) 39 2 51 B4y [(.cell 4 true 2),(.tmp 5)]:=fk Tryz.func39 (by kernel_rfl) (by kernel_rfl)
noncomputable def B4z:A0i:=cm Tryz.f42 22
theorem C5j {q:Gl}:FnOK Tryz.prog (G q) 42 2 22 B4z [(.cell 4 true 9),(.tmp 5)]:=fk Tryz.func42 (by kernel_rfl) (by kernel_rfl)
noncomputable def B0i:A0i:=cm Tryz.f44 31
theorem B8v {q:Gl}:FnOK Tryz.prog (G q) 44 2 31 B0i [(.cell 4 true 2),(.tmp 5)]:=fk Tryz.func44 (by kernel_rfl) (by kernel_rfl)
noncomputable def B0j:A0i:=cm Tryz.f47 96
theorem B8w {q:Gl}:FnOK Tryz.prog (G q) 47 1 96 B0j [(.tmp 2),(.tmp 3)]:=fk Tryz.func47 (by kernel_rfl) (by kernel_rfl)
noncomputable def B0k:A0i:=cm Tryz.f49 60
theorem B8x {q:Gl}:FnOK Tryz.prog (G q) 49 1 60 B0k [(.cell 2 true 2),(.tmp 3)]:=fk Tryz.func49 (by kernel_rfl) (by kernel_rfl)
noncomputable def B3c:A0i:=cm Tryz.f69 89
theorem C3p {q:Gl}:FnOK Tryz.prog (G q) 69 1 89 B3c [(.tmp 2)]:=fk Tryz.func69 (by kernel_rfl) (by kernel_rfl)
noncomputable def B3d:A0i:=cm Tryz.f71 12
theorem C3q {q:Gl}:FnOK Tryz.prog (G q) 71 2 12 B3d [(.tmp 4),(.tmp 5)]:=fk Tryz.func71 (by kernel_rfl) (by kernel_rfl)
noncomputable def A3x:A0i:=cm Tryz.f76 7
theorem B6e {q:Gl}:FnOK Tryz.prog (G q) 76 1 7 A3x []:=fk Tryz.func76 (by kernel_rfl) (by kernel_rfl)
noncomputable def B0l:A0i:=cm Tryz.f79 2
theorem B8y {q:Gl}:FnOK Tryz.prog (G q) 79 0 2 B0l [(.tmp 0)]:=fk Tryz.func79 (by kernel_rfl) (by kernel_rfl)
noncomputable def C0f:A0i:=cm Tryz.f80 5
theorem D3x {q:Gl}:FnOK Tryz.prog (G q) 80 1 5 C0f [(.tmp 2)]:=fk Tryz.func80 (by kernel_rfl) (by kernel_rfl)
noncomputable def B1s:A0i:=cm Tryz.f81 2
theorem C0m {q:Gl}:FnOK Tryz.prog (G q) 81 0 2 B1s [(.tmp 0)]:=fk Tryz.func81 (by kernel_rfl) (by kernel_rfl)
noncomputable def A6b:A0i:=cm Tryz.f91 38
theorem B1l {q:Gl}:FnOK Tryz.prog (G q) 91 2 38 A6b [(.tmp 4),(.tmp 5)]:=fk Tryz.func91 (by kernel_rfl) (by kernel_rfl)
noncomputable def A6g:A0i:=cm Tryz.f92 27
theorem B1u {q:Gl}:FnOK Tryz.prog (G q) 92 1 27 A6g [(.tmp 2)]:=fk Tryz.func92 (by kernel_rfl) (by kernel_rfl)
noncomputable def A6h:A0i:=cm Tryz.f93 45
theorem B1v {q:Gl}:FnOK Tryz.prog (G q) 93 1 45 A6h [(.cell 2 true 9),(.tmp 3)]:=fk Tryz.func93 (by kernel_rfl) (by kernel_rfl)
noncomputable def C3r:A0i:=cm Tryz.f108 22
theorem D7k {q:Gl}:FnOK Tryz.prog (G q) 108 1 22 C3r [(.tmp 2)]:=fk Tryz.func108 (by kernel_rfl) (by kernel_rfl)
noncomputable def B7r:A0i:=cm Tryz.f119 21
theorem C9x {q:Gl}:FnOK Tryz.prog (G q) 119 1 21 B7r [(.tmp 2)]:=fk Tryz.func119 (by kernel_rfl) (by kernel_rfl)
noncomputable def A1c:A0i:=cm Tryz.f120 51
theorem B6f {q:Gl}:FnOK Tryz.prog (G q) 120 2 51 A1c [(.tmp 4)]:=fk Tryz.func120 (by kernel_rfl) (by kernel_rfl)
def B0m:A0i:=(jO [jM 2 (.box 61) [jT 0],jM 3 .mv [jF]] (jO [jM 4 (.faddr 0) [jT 2],jM 5 (.load true 4) [jT 4],jM 6 (.faddr 0) [jT 1],jM 7 (.load true 4) [jT 6],jM 8 (.ex (.eqs false [.i,.s,.i,.i])) [jT 5,jT 7],jV 3 8] .ret))
noncomputable def A6o:A0i:=cm Tryz.f122 19
theorem B8z {q:Gl}:FnOK Tryz.prog (G q) 122 1 19 A6o [(.tmp 2)]:=fk Tryz.func122 (by kernel_rfl) (by kernel_rfl)
noncomputable def B0n:A0i:=cm Tryz.f124 9
theorem B9a {q:Gl}:FnOK Tryz.prog (G q) 124 2 9 B0n [(.tmp 4)]:=fk Tryz.func124 (by kernel_rfl) (by kernel_rfl)
noncomputable def A6i:A0i:=cm Tryz.f136 33
theorem B1w {q:Gl}:FnOK Tryz.prog (G q) 136 1 33 A6i [(.tmp 2),(.tmp 3)]:=fk Tryz.func136 (by kernel_rfl) (by kernel_rfl)
noncomputable def A3q:A0i:=cm Tryz.f138 32
theorem B0o {q:Gl}:FnOK Tryz.prog (G q) 138 0 32 A3q []:=fk Tryz.func138 (by kernel_rfl) (by kernel_rfl)
noncomputable def A4m:A0i:=cm Tryz.f141 72
theorem A8q {q:Gl}:FnOK Tryz.prog (G q) 141 1 72 A4m [(.tmp 2),(.tmp 3)]:=fk Tryz.func141 (by kernel_rfl) (by kernel_rfl)
noncomputable def A3g:A0i:=cm Tryz.f142 29
theorem A4b {q:Gl}:FnOK Tryz.prog (G q) 142 1 29 A3g [(.cell 2 true 5),(.tmp 3)]:=fk Tryz.func142 (by kernel_rfl) (by kernel_rfl)
noncomputable def A9i:A0i:=cm Tryz.f176 70
theorem B7s {q:Gl}:FnOK Tryz.prog (G q) 176 1 70 A9i [(.cell 2 true 5),(.tmp 3)]:=fk Tryz.func176 (by kernel_rfl) (by kernel_rfl)
noncomputable def C3s:A0i:=cm Tryz.f27 55
theorem D7l {q:Gl}:FnOK Tryz.prog (G q) 27 1 55 C3s [(.tmp 2)]:=fk Tryz.func27 (by kernel_rfl) (by kernel_rfl)
noncomputable def C7q:A0i:=cm Tryz.f41 39
theorem E5c {q:Gl}:FnOK Tryz.prog (G q) 41 2 39 C7q [(.tmp 4)]:=fk Tryz.func41 (by kernel_rfl) (by kernel_rfl)
noncomputable def B5a:A0i:=cm Tryz.f46 61
theorem C5k {q:Gl}:FnOK Tryz.prog (G q) 46 2 61 B5a [(.tmp 4)]:=fk Tryz.func46 (by kernel_rfl) (by kernel_rfl)
noncomputable def C7r:A0i:=cm Tryz.f62 38
theorem E5d {q:Gl}:FnOK Tryz.prog (G q) 62 1 38 C7r [(.tmp 2)]:=fk Tryz.func62 (by kernel_rfl) (by kernel_rfl)
noncomputable def A8r:A0i:=cm Tryz.f109 70
theorem B6g {q:Gl}:FnOK Tryz.prog (G q) 109 2 70 A8r [(.tmp 4)]:=fk Tryz.func109 (by kernel_rfl) (by kernel_rfl)
noncomputable def B3e:A0i:=cm Tryz.f110 42
theorem C3t {q:Gl}:FnOK Tryz.prog (G q) 110 1 42 B3e [(.tmp 2)]:=fk Tryz.func110 (by kernel_rfl) (by kernel_rfl)
end Go.Proofs.YtmplckgbeaifkaaGreatDoor
