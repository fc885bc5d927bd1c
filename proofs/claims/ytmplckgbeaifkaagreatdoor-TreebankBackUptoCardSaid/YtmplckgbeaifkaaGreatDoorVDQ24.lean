/- Auxiliary facts. -/
import Derived.Test.YtmplckgbeaifkaaGreatDoorVDQ22
import Derived.Test.YtmplckgbeaifkaaGreatDoorVDQ23
set_option linter.unusedSimpArgs false
set_option maxRecDepth 100000
set_option maxHeartbeats 0
set_option linter.unusedVariables false
namespace Go.Proofs.YtmplckgbeaifkaaGreatDoor
open Go Go.Abs
variable {q : Gl}
theorem E7u {F:FuncId} {z ty n:Nat} (i0:TypeInfo) (zv:Value) (hF:IsFn Tryz.prog F) (hz0:zv.cells.size=i0.size) (hz:i0.size=z) (hpos:0<z)
  (h0:∀w,Calls Tryz.prog F #[.slice none 0 0,.int .i64 (0:Nat)] w fun e w'=>e = .returned (.slice none 0 0)/\w'=w)
  (h1:0<n->∀w,Calls Tryz.prog F #[.slice none 0 0,.int .i64 n] w fun e w'=>e = .returned (.slice (some ⟨w.heap.size,0,none⟩) 0 (grownCap w (0+n) 0 ty)) /\
   w'=w.drew.alloc (.cells (([]:List Value).toArray++Builtin.zeroCells zv.cells (0+n-0)++Builtin.zeroCells zv.cells (grownCap w (0+n) 0 ty-(0+n))) ty)) {H:Heap} {nx:Nat} :
  A1n Tryz.prog (G q) F [.t nilS,.t (iv (n:Int))] H nx (if n=0 then .t nilS else .row nx 0 0 z) (if n=0 then H else(nx,.cells ty [])::H) (if n=0 then nx else nx+1):=by
 refine⟨hF,fun L w us hok hnx hargs=>?_⟩
 have hus:us = #[.slice none 0 0,.int .i64 n]:=by
  simp only[A0m,RepV,RepT]at hargs;obtain⟨x,xs,e,rfl,y,ys,rfl,rfl,rfl⟩:=hargs;exact Array.ext' e
 subst hus;by_cases hn:n=0
 ·subst hn;refine(h0 w).mono ?_;rintro e w' ⟨rfl,rfl⟩;exact⟨_,L,rfl,by simp[RepV,RepT],by simpa using hok,by simpa using hnx,Mono.refl L _,by simpa using Ext.refl L H _⟩
 ·refine(h1 (by omega) w).mono ?_;rintro e w' ⟨rfl,rfl⟩;simp only[if_neg hn];have hge:=grownCap_ge w (0+n) 0 ty
  obtain⟨C,hC⟩:∃C,C=grownCap w (0+n) 0 ty:=⟨_,rfl⟩
  rw[<-hC]at hge ⊢
  obtain⟨arr,harr⟩:∃arr,arr=([]:List Value).toArray++Builtin.zeroCells zv.cells (0+n-0)++Builtin.zeroCells zv.cells (C-(0+n)):=⟨_,rfl⟩
  have hsz:arr.size=C*z:=by
   rw[harr];simp only[Builtin.zeroCells,Array.size_append,Array.size_map,Array.size_range,hz0,hz];rw[show([]:List Value).toArray.size=0 from rfl,Nat.zero_add,<-Nat.add_mul];congr 1;omega
  rw[<-harr]
  have hnew:(w.drew.alloc (.cells arr ty)).heap[w.heap.size]?=some (.cells arr ty (0,0)):=by
   show(w.heap.push (.cells arr ty (0,0)))[w.heap.size]?=_;rw[Array.getElem?_push,if_pos rfl]
  have hns:w.heap.size<(w.drew.alloc (.cells arr ty)).heap.size:=by
   show w.heap.size<(w.heap.push _).size;rw[Array.size_push];omega
  obtain⟨h1,h2,h3⟩:=B7w (r:=.cells ty []) (w':=w.drew.alloc (.cells arr ty)) (o:=.cells arr ty) hok ⟨rfl,rfl,rfl⟩ rfl ⟨arr,hnew,by simp,fun j c hj=>by simp at hj⟩;rw[hnx]at h1 h3;refine⟨_,L.grow w.heap.size,rfl,?_,h1,by simp[Loc.grow,hnx],h2,h3⟩;simp only[RepV,Loc.grow,hnx,if_true];refine⟨by omega,hns,C,rfl,by omega,fun a t fz he=>?_⟩;rw[hnew]at he;injection he with he;injection he with e1 e2 e3;subst e1;omega
theorem half (a b:Nat) (h:a+b<=9223372036854775807):IntKind.i64.wrap ((IntKind.u64.wrap (IntKind.i64.wrap ((a:Int)+b))).fdiv (2^(min (1:Int).toNat IntKind.u64.bits)))=(((a+b) / 2:Nat):Int):=by
 rw[A0p (z:=(a:Int)+b) (n:=a+b) (by omega) h,B1n (by omega) (by omega)]
 have:((a+b:Nat):Int).fdiv (2^(min (1:Int).toNat IntKind.u64.bits))=(((a+b) / 2:Nat):Int):=by
  show((a+b:Nat):Int).fdiv 2=_;rw[Int.fdiv_eq_ediv_of_nonneg _ (by omega)];omega
 rw[this,A0p rfl (by omega)]
noncomputable def hSet {α:Type} (mk:α->List PV) (p:α->T) (l:List α) (H0:Heap) (nx0:Nat) (ps:List PV) (H:Heap) (nx:Nat):Option (PV×Heap×Nat):=
 open Classical in if h : (∃ x ∈ l, ps = mk x) /\ H = H0 /\ nx = nx0 then some (.t (p h.1.choose), H0, nx0) else none
theorem F2j {P:Program} {G:A0q} {α:Type} {f:FuncId} {mk:α->List PV} {p:α->T} {l:List α} {H0:Heap} {nx0:Nat} (h:∀x∈l,A1n P G f (mk x) H0 nx0 (.t (p x)) H0 nx0):HOK P G f (hSet mk p l H0 nx0) where
 call:=fun ps H nx r H' nx' hr=>by
  unfold hSet at hr;split at hr
  ·rename_i hc;injection hr with hr;injection hr with h1 h2;injection h2 with h2 h3;subst h1;subst h2;subst h3;obtain⟨h4,rfl,rfl⟩:=hc;have hs:=h4.choose_spec;have:=h _ hs.1;rw[<-hs.2]at this;exact this
  ·cases hr
 fresh:=fun ps H nx r H' nx' hr hf=>by
  unfold hSet at hr;split at hr
  ·rename_i hc;injection hr with hr;injection hr with h1 h2;injection h2 with h2 h3;subst h2;subst h3;obtain⟨_,rfl,rfl⟩:=hc;exact hf
  ·cases hr
theorem F2k {α:Type} {mk:α->List PV} {p:α->T} {l:List α} (hinj:∀x y,mk x=mk y->x=y) (H:Heap) (nx:Nat) {x:α} (hx:x∈l):hSet mk p l H nx (mk x) H nx=some (.t (p x),H,nx):=by
 unfold hSet
 have hc:(∃y∈l,mk x=mk y)/\H=H/\nx=nx:=⟨⟨x,hx,rfl⟩,rfl,rfl⟩
 rw[dif_pos hc];have:=hinj _ _ hc.1.choose_spec.2;rw[<-this]
def idxI {α:Type} (p:α->Bool) (l:List α):Int:=if l.findIdx p<l.length then(l.findIdx p:Int)else -1
theorem E7v {α:Type} (p:α->Bool) (l:List α):decide (0<=idxI p l)=l.any p:=by
 unfold idxI;by_cases h:l.findIdx p<l.length
 ·rw[if_pos h];obtain⟨x,hx,hp⟩:=A9g h;have:l.any p=true:=List.any_eq_true.2 ⟨x,List.mem_of_getElem? hx,hp⟩;rw[this];simp
 ·rw[if_neg h]
  have:l.any p=false:=by
   rw[List.any_eq_false];intro x hx;have:=B6z (p:=p) (l:=l) (by have:=C2o p l;omega) x hx;simp[this]
  rw[this];rfl
def SIx (td:T) (fn:PV) (n:Nat) (H:Heap) (nx:Nat) (j:Nat):A0b:=⟨[(8,.t (iv (j:Int))),(7,.t (iv (n:Int))),(1,fn),(0,.t td)],H,nx,19⟩
theorem E3m {first cap:List PV}:∀x y:Dc,first++[PV.t (.ag (eDc.enc x))]++cap=first++[PV.t (.ag (eDc.enc y))]++cap->x=y:=fun x y h=>by
 have h:=List.append_cancel_left (List.append_cancel_right h);injection h with h _;injection h with h;injection h with h;exact eDc.inj x y h
theorem D8g {F:Nat} {first cap:List PV} {td:T} {l:List Dc} {p:Dc->Bool} {H:Heap} {nx:Nat} (ht:IsS eDc td l) (hl:l.length<=1000000)
  (hp:∀x∈l,A1n Tryz.prog (G q) F (first++[PV.t (.ag (eDc.enc x))]++cap) H nx (.t (bv (p x))) H nx) :
  A1n Tryz.prog (G q) 160 [.t td,.fn (.func F) first cap] H nx (.t (iv (idxI p l))) H nx:=by
 have hS:=F2j (p:=fun x=>bv (p x)) hp;have eS:∀x∈l,hSet (fun x=>first++[PV.t (.ag (eDc.enc x))]++cap) (fun x=>bv (p x)) l H nx (first++[PV.t (.ag (eDc.enc x))]++cap) H nx=some (.t (bv (p x)),H,nx):=fun x hx=>F2k (mk:=fun x=>first++[PV.t (.ag (eDc.enc x))]++cap) E3m H nx hx;have hS:HOK Tryz.prog (G q) F (hSet (fun x=>first++[PV.t (.ag (eDc.enc x))]++cap) (fun x=>bv (p x)) l H nx):=hS
 obtain⟨tb,htb⟩:∃tb,tb=hSet (fun x=>first++[PV.t (.ag (eDc.enc x))]++cap) (fun x=>bv (p x)) l H nx:=⟨_,rfl⟩
 rw[<-htb]at hS eS;have C:Ctx Tryz.prog (G q) _:=A0x.nil.ctxH (A1s.cons hS .nil) mixed;have hlen:=ht.len;refine B4z.callP rfl ?_;(conv in A7j=>cbv)
 obtain⟨R,hR⟩:∃R,R=idxI p l:=⟨_,rfl⟩
 rw[<-hR];refine A0a C ?_;simp -implicitDefEqProofs;refine A1f (α:=Unit) (fun _=>⟨[],H,nx,19⟩) (fun _=>R = -1) (fun _=>rfl) ?_ ?_
 ·refine A0a C ?_;simp -implicitDefEqProofs [hlen];refine A0n ?_;refine A1a (SIx td (.fn (.func F) first cap) l.length H nx) (fun j=>l.length-j) (fun j=>j<=l.length/\j<=l.findIdx p) 0 (fun _=>rfl) ⟨Nat.zero_le _,Nat.zero_le _⟩ ?_ rfl ?_
  ·refine A0e ?_;simp -implicitDefEqProofs [SIx]
  rintro j ⟨hj,hjf⟩;by_cases hlt:j<l.length
  ·obtain⟨x,hx⟩:∃x,l[j]?=some x:=⟨_,List.getElem?_eq_getElem hlt⟩
   obtain⟨pp,i1,ld,_,_⟩:=E3l ht hx;have hm:=List.mem_of_getElem? hx;have es:=eS x hm;have e1:IntKind.i64.wrap ((j:Int)+1)=((j+1:Nat):Int):=A0p (by omega) (by omega)
   have es':tb (first++PV.t (.ag (eDc.enc x))::cap) H nx=some (.t (bv (p x)),H,nx):=by
    have:first++PV.t (.ag (eDc.enc x))::cap=first++[PV.t (.ag (eDc.enc x))]++cap:=by simp
    rw[this];exact es
   refine A0c C ?_
   cases hpx:p x with
   | true=>
    have hr:R=(j:Int):=by
     have:l.findIdx p=j:=by
      have h1:¬j<l.findIdx p:=fun h=>by
       have:=B3b h hx;rw[hpx]at this;cases this
      omega
     rw[hR,idxI,this,if_pos hlt]
    rw[hpx]at es';simp -implicitDefEqProofs [SIx,hlt,i1,ld,es',hr];exact⟨.inr rfl,_,_,Sub.refl _,rfl,rfl,rfl,rfl⟩
   | false=>
    have hne:j≠l.findIdx p:=fun e=>by
     obtain⟨y,hy,hpy⟩:=A9g (p:=p) (l:=l) (by omega);rw[<-e,hx]at hy;injection hy with hy;subst hy;rw[hpx]at hpy;cases hpy
    rw[hpx]at es';simp -implicitDefEqProofs [SIx,hlt,i1,ld,es',e1];exact Abs.Next.mk (j+1) ⟨⟨by omega,by omega⟩,by omega⟩ (A0e (by simp -implicitDefEqProofs [SIx]))
  ·have hr:R = -1:=by rw[hR,idxI,if_neg (by omega)]
   refine A0c C ?_;simp -implicitDefEqProofs [SIx,hlt];exact Abs.Next.mk () hr (A0e (by simp -implicitDefEqProofs))
 ·rintro _ hr;refine A0c C ?_;simp -implicitDefEqProofs [hr];exact⟨.inr rfl,_,_,Sub.refl _,rfl,rfl,rfl,rfl⟩
theorem C5q {F:Nat} {first cap:List PV} {td:T} {l:List Dc} {p:Dc->Bool} {H:Heap} {nx:Nat} (ht:IsS eDc td l) (hl:l.length<=1000000)
  (hp:∀x∈l,A1n Tryz.prog (G q) F (first++[PV.t (.ag (eDc.enc x))]++cap) H nx (.t (bv (p x))) H nx) :
  A1n Tryz.prog (G q) 112 [.t td,.fn (.func F) first cap] H nx (.t (bv (l.any p))) H nx:=by
 obtain⟨t1,e1,ok1⟩:∃t1,t1 [.t td,.fn (.func F) first cap] H nx=some (.t (iv (idxI p l)),H,nx)/\HOK Tryz.prog (G q) 160 t1:=⟨_,A2j _ _ _ _,A2x (D8g ht hl hp) (fun hf=>hf)⟩
 have C:Ctx Tryz.prog (G q) _:=A0x.nil.ctxH (A1s.cons ok1 .nil) mixed;refine B0s.callP rfl ?_;(conv in A5v=>cbv);refine A0c C ?_;have ha:=E7v p l;simp -implicitDefEqProofs [e1];exact⟨.inr rfl,_,_,Sub.refl _,rfl,by rw[<-ha];rfl,rfl,rfl⟩
noncomputable def A9v:A0j:=cm Tryz.f37 46
theorem B7s {q:Gl}:FnOK Tryz.prog (G q) 37 1 46 A9v [(.tmp 2)]:=fk Tryz.func37 (by kernel_rfl) (by kernel_rfl)
noncomputable def B2m:A0j:=cm Tryz.f39 51
theorem C1q {q:Gl}:FnOK Tryz.prog (G q) 39 2 51 B2m [(.cell 4 true 2),(.tmp 5)]:=fk Tryz.func39 (by kernel_rfl) (by kernel_rfl)
noncomputable def B2n:A0j:=cm Tryz.f42 22
theorem C1r {q:Gl}:FnOK Tryz.prog (G q) 42 2 22 B2n [(.cell 4 true 9),(.tmp 5)]:=fk Tryz.func42 (by kernel_rfl) (by kernel_rfl)
noncomputable def A8m:A0j:=cm Tryz.f44 31
theorem B6h {q:Gl}:FnOK Tryz.prog (G q) 44 2 31 A8m [(.cell 4 true 2),(.tmp 5)]:=fk Tryz.func44 (by kernel_rfl) (by kernel_rfl)
noncomputable def A8n:A0j:=cm Tryz.f47 96
theorem B6i {q:Gl}:FnOK Tryz.prog (G q) 47 1 96 A8n [(.tmp 2),(.tmp 3)]:=fk Tryz.func47 (by kernel_rfl) (by kernel_rfl)
noncomputable def A8o:A0j:=cm Tryz.f49 60
theorem B6j {q:Gl}:FnOK Tryz.prog (G q) 49 1 60 A8o [(.cell 2 true 2),(.tmp 3)]:=fk Tryz.func49 (by kernel_rfl) (by kernel_rfl)
noncomputable def B0y:A0j:=cm Tryz.f69 89
theorem C0g {q:Gl}:FnOK Tryz.prog (G q) 69 1 89 B0y [(.tmp 2)]:=fk Tryz.func69 (by kernel_rfl) (by kernel_rfl)
noncomputable def C0h:A0j:=cm Tryz.f70 19
theorem D1v {q:Gl}:FnOK Tryz.prog (G q) 70 1 19 C0h [(.tmp 2)]:=fk Tryz.func70 (by kernel_rfl) (by kernel_rfl)
noncomputable def B0z:A0j:=cm Tryz.f71 12
theorem C0i {q:Gl}:FnOK Tryz.prog (G q) 71 2 12 B0z [(.tmp 4),(.tmp 5)]:=fk Tryz.func71 (by kernel_rfl) (by kernel_rfl)
noncomputable def A3d:A0j:=cm Tryz.f76 7
theorem B3r {q:Gl}:FnOK Tryz.prog (G q) 76 1 7 A3d []:=fk Tryz.func76 (by kernel_rfl) (by kernel_rfl)
noncomputable def A8p:A0j:=cm Tryz.f79 2
theorem B6k {q:Gl}:FnOK Tryz.prog (G q) 79 0 2 A8p [(.tmp 0)]:=fk Tryz.func79 (by kernel_rfl) (by kernel_rfl)
noncomputable def B7o:A0j:=cm Tryz.f80 5
theorem C9e {q:Gl}:FnOK Tryz.prog (G q) 80 1 5 B7o [(.tmp 2)]:=fk Tryz.func80 (by kernel_rfl) (by kernel_rfl)
noncomputable def A9w:A0j:=cm Tryz.f81 2
theorem B7t {q:Gl}:FnOK Tryz.prog (G q) 81 0 2 A9w [(.tmp 0)]:=fk Tryz.func81 (by kernel_rfl) (by kernel_rfl)
noncomputable def A5d:A0j:=cm Tryz.f91 38
theorem A9q {q:Gl}:FnOK Tryz.prog (G q) 91 2 38 A5d [(.tmp 4),(.tmp 5)]:=fk Tryz.func91 (by kernel_rfl) (by kernel_rfl)
noncomputable def A5g:A0j:=cm Tryz.f92 27
theorem A9x {q:Gl}:FnOK Tryz.prog (G q) 92 1 27 A5g [(.tmp 2)]:=fk Tryz.func92 (by kernel_rfl) (by kernel_rfl)
noncomputable def A5h:A0j:=cm Tryz.f93 45
theorem A9y {q:Gl}:FnOK Tryz.prog (G q) 93 1 45 A5h [(.cell 2 true 9),(.tmp 3)]:=fk Tryz.func93 (by kernel_rfl) (by kernel_rfl)
noncomputable def B5g:A0j:=cm Tryz.f119 21
theorem C5r {q:Gl}:FnOK Tryz.prog (G q) 119 1 21 B5g [(.tmp 2)]:=fk Tryz.func119 (by kernel_rfl) (by kernel_rfl)
noncomputable def A0t:A0j:=cm Tryz.f120 51
theorem B3s {q:Gl}:FnOK Tryz.prog (G q) 120 2 51 A0t [(.tmp 4)]:=fk Tryz.func120 (by kernel_rfl) (by kernel_rfl)
def A8q:A0j:=(jO [jM 2 (.box 61) [jT 0],jM 3 .mv [jF]] (jO [jM 4 (.faddr 0) [jT 2],jM 5 (.load true 4) [jT 4],jM 6 (.faddr 0) [jT 1],jM 7 (.load true 4) [jT 6],jM 8 (.ex (.eqs false [.i,.s,.i,.i])) [jT 5,jT 7],jV 3 8] .ret))
noncomputable def A5n:A0j:=cm Tryz.f122 19
theorem B6l {q:Gl}:FnOK Tryz.prog (G q) 122 1 19 A5n [(.tmp 2)]:=fk Tryz.func122 (by kernel_rfl) (by kernel_rfl)
noncomputable def A8r:A0j:=cm Tryz.f124 9
theorem B6m {q:Gl}:FnOK Tryz.prog (G q) 124 2 9 A8r [(.tmp 4)]:=fk Tryz.func124 (by kernel_rfl) (by kernel_rfl)
noncomputable def A5i:A0j:=cm Tryz.f136 33
theorem A9z {q:Gl}:FnOK Tryz.prog (G q) 136 1 33 A5i [(.tmp 2),(.tmp 3)]:=fk Tryz.func136 (by kernel_rfl) (by kernel_rfl)
noncomputable def A2z:A0j:=cm Tryz.f138 32
theorem A8s {q:Gl}:FnOK Tryz.prog (G q) 138 0 32 A2z []:=fk Tryz.func138 (by kernel_rfl) (by kernel_rfl)
noncomputable def A3t:A0j:=cm Tryz.f141 72
theorem A6z {q:Gl}:FnOK Tryz.prog (G q) 141 1 72 A3t [(.tmp 2),(.tmp 3)]:=fk Tryz.func141 (by kernel_rfl) (by kernel_rfl)
noncomputable def A2s:A0j:=cm Tryz.f142 29
theorem A3g {q:Gl}:FnOK Tryz.prog (G q) 142 1 29 A2s [(.cell 2 true 5),(.tmp 3)]:=fk Tryz.func142 (by kernel_rfl) (by kernel_rfl)
noncomputable def A7m:A0j:=cm Tryz.f176 70
theorem B5h {q:Gl}:FnOK Tryz.prog (G q) 176 1 70 A7m [(.cell 2 true 5),(.tmp 3)]:=fk Tryz.func176 (by kernel_rfl) (by kernel_rfl)
noncomputable def C0j:A0j:=cm Tryz.f35 64
theorem D1w {q:Gl}:FnOK Tryz.prog (G q) 35 1 64 C0j [(.tmp 2)]:=fk Tryz.func35 (by kernel_rfl) (by kernel_rfl)
noncomputable def B1a:A0j:=cm Tryz.f38 42
theorem C0k {q:Gl}:FnOK Tryz.prog (G q) 38 1 42 B1a [(.tmp 2)]:=fk Tryz.func38 (by kernel_rfl) (by kernel_rfl)
noncomputable def C3p:A0j:=cm Tryz.f41 39
theorem D8h {q:Gl}:FnOK Tryz.prog (G q) 41 2 39 C3p [(.tmp 4)]:=fk Tryz.func41 (by kernel_rfl) (by kernel_rfl)
noncomputable def B2o:A0j:=cm Tryz.f46 61
theorem C1s {q:Gl}:FnOK Tryz.prog (G q) 46 2 61 B2o [(.tmp 4)]:=fk Tryz.func46 (by kernel_rfl) (by kernel_rfl)
end Go.Proofs.YtmplckgbeaifkaaGreatDoor
