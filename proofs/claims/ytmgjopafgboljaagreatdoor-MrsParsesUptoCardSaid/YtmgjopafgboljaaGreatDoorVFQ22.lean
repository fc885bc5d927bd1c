/- Auxiliary facts. -/
import Derived.Test.YtmgjopafgboljaaGreatDoorVFQ20
import Derived.Test.YtmgjopafgboljaaGreatDoorVFQ21
set_option linter.unusedSimpArgs false
set_option maxRecDepth 100000
set_option maxHeartbeats 0
set_option linter.unusedVariables false
open Go.Abs renaming upd->Xc,toList_inj->Ya
open Go.Proofs.Tryz renaming prog->Xd
open List renaming length_map->Xe,mem_map->Xf,getElem?_eq_getElem->Xh,mem_cons->Xj,take_add_one->Xl,getElem?_map->Xm,length_cons->Xn,take_length->Xp,mem_of_getElem?->Xq,length_append->Xr,map_cons->Xt,replicate->Xu,length_take->Xv,map_map->Xw,all_eq_true->Xy,map_nil->X0,getElem?_eq_some_iff->X1,mem_append->X4,nodup_nil->X5,mem_singleton->X6,getElem?_eq_none->X8,countP_cons->X9,getElem?_set_self->Yc,not_mem_nil->Yd,exists_cons_of_ne_nil->Yf,length_nil->Yg,find?_cons->Yh,drop_eq_getElem_cons->Yi
open Nat renaming zero_le->Xg,le_refl->Xi,lt_succ_self->Xk,le_trans->Xs,succ_pos->X3
open Go.IntKind renaming i64->Xo
open Bool renaming false_eq_true->Xx,true_eq_false->Xz,true_and->X7,false_or->Yj,true_or->Yk
open Int renaming toNat_natCast->X2
open Array renaming toList_push->Yb
namespace Go.Proofs.YtmgjopafgboljaaGreatDoor
open Go Go.Abs
variable {q : Gl}
theorem HL (n:Nat) (h:n<=1000000):Xo.wrap ((n:Int)+1)=((n+1:Nat):Int):=Bb rfl (by omega)
def ksL (l:List Vr) (i:Nat):List Int:=D3 ((l.take i).map nmV)
theorem bM {l:List Vr} {i:Nat} {n:Int}:n∈ksL l i ↔ n∈(l.take i).map nmV:=by
 unfold ksL D3;rw[IQ];simp
theorem zT {l:List Vr} {i:Nat} {x:Vr} (hx:l[i]?=some x):ksL l (i+1)=if nmV x∈ksL l i then ksL l i else ksL l i++[nmV x]:=by
 unfold ksL;rw[Xl,hx,List.map_append];exact XA _ _
theorem zU (l:List Vr):ksL l l.length=Bo [] (l.map nmV):=by
 unfold ksL;rw[Xp]
theorem zV {l:List Vr} {i:Nat} {x:Vr} (hx:l[i]?=some x) (h:BX [] (l.take i)=false) (h1:BX [] (l.take (i+1))=false):Cq (mpS l (ksL l i)) (.n [nmV x]) (.string x.sort)=mpS l (ksL l (i+1)):=by
 have hs:Bx l (nmV x)=x.sort:=by
  rw[bJ hx h]at h1;by_cases hm:nmV x∈(l.take i).map nmV
  .rw[zq hm,X7]at h1;simpa using h1
  .exact zJ hx hm
 rw[zT hx,<-hs,bG];split<;>rfl
theorem zW {ks:List Int} {cells:List ByteArray} {f:Int->ByteArray} (hnd:ks.Nodup) (hl:cells.length=ks.length) (h:∀n∈ks,0<=n/\n<(ks.length:Int)/\cells[n.toNat]?=some (f n)):cells=(upN ks.length).map f:=by
 have hp:=G6 hnd (m:=upN ks.length) (λx hx=>DK.2 ⟨(h x hx).1,(h x hx).2.1⟩) (by rw[Cv];exact Xi _);refine List.ext_getElem? λj=>?_;by_cases hj:j<ks.length
 .have hm:(j:Int)∈ks:=hp.mem_iff.2 (DK.2 ⟨by omega,by omega⟩);have:=(h _ hm).2.2;rw[X2]at this;rw[this];unfold upN;rw[Xw,Xm,List.getElem?_range hj];rfl
 .rw[X8 (by omega),X8 (by rw[Xe,Cv];omega)]
theorem bN {α:Type} {p q:α->Bool}:∀{l:List α},(∀x∈l,p x=true->q x=true)->(∃x∈l,q x=true/\p x=false)->l.countP p<l.countP q
 | [],_,⟨x,hx,_⟩=>by cases hx
 | a::r,hpq,⟨x,hx,h1,h2⟩=>by
  have hle:r.countP p<=r.countP q:=List.countP_mono_left λy hy=>hpq y (by simp[hy]);rw[X9,X9];rcases Xj.1 hx with e | hx
  .subst e;rw[h1,h2];simp;omega
  .have ih:=bN (λy hy=>hpq y (List.mem_cons_of_mem _ hy)) ⟨x,hx,h1,h2⟩;have:=hpq a (by simp);by_cases ha:p a=true
   .rw[ha,this ha];simp;omega
   .rw[zw ha];split<;>omega
def nbT (l:List Vr):T:=match Fj l with
 | none=>.tu [Au,Au,iv 2]
 | some ns=>if BX [] l=true then .tu [Au,Au,iv 17]else if Dx ns=false then .tu [Au,Au,iv 3]else
  .tu [slT A6 ns,slT Ar ((upN (Ei ns)).map (Bx l)),iv 0]
structure NbC where
 H:Ak
 nx:Nat
 i:Nat
def SNb (t:T) (n:Nat) (c:NbC):Am:=⟨[(23,.t (iv (c.i:Int))),(22,.t (iv (n:Int))),(21,.t t),(5,.row 0 0 n 1),(0,.t t)],c.H,c.nx,93⟩
def SNd (t:T) (n k:Nat) (c:NbC):Am:=⟨[(44,.t (iv (c.i:Int))),(43,.t (iv (n:Int))),(42,.row 0 0 n 1),(10,.mp k),(5,.row 0 0 n 1),(0,.t t)],c.H,k+1,93⟩
structure NbE where
 H:Ak
 seen:Array Nat
 cells:List ByteArray
def SNe (n m nx:Nat) (c:NbE):Am:=⟨[(77,.ptr (nx+2) 0),(15,.row (nx+1) 0 m 1),(5,.row 0 0 n 1)],c.H,nx+3,93⟩
structure NbI (l:List Vr) (ks:List Int) (nx lc cc:Nat) (arr:Array MapEntry) (c:NbE):Prop where
 r0:Aj c.H 0=some (A5 A6 tyI (l.map nmV))
 rm:Aj c.H nx=some (.blk (some lc) (.map arr cc))
 ri:Aj c.H (nx+2)=some (.blk none (.mapIter (some lc) cc c.seen cc))
 ro:Aj c.H (nx+1)=some (A5 Ar tyS c.cells)
 len:c.cells.length=ks.length
 all:∀e∈arr.toList,e.born∈c.seen.toList->∃n:Int,e.key = .int .i64 n/\0<=n/\n<(ks.length:Int)/\c.cells[n.toNat]?=some (Bx l n)
def muE (arr:Array MapEntry) (seen:Array Nat):Nat:=arr.toList.countP λe=>!seen.toList.contains e.born
theorem bO:∀{l:List MapEntry} {a b:MapEntry},(l.map (·.born)).Nodup->a∈l->b∈l->a.born=b.born->a=b
 | x::r,a,b,hn,ha,hb,h=>by
  rw[Xt,List.nodup_cons]at hn;rcases Xj.1 ha with rfl | ha'
  .rcases Xj.1 hb with rfl | hb'
   .rfl
   .exact absurd (Xf.2 ⟨b,hb',h.symm⟩) hn.1
  .rcases Xj.1 hb with rfl | hb'
   .exact absurd (Xf.2 ⟨a,ha',h⟩) hn.1
   .exact bO hn.2 ha' hb' h
theorem zY {k:Nat} {H:Ak} {a b:T} (h:Aj H k=some (.cells Iw [.t a,.t b])):AD false 1 H (.ptr k 0)=some (.t a)/\AD false 1 H (.ptr k 1)=some (.t b):=Eg h
theorem zZ {t:T} {l:List Vr} (ht:IsS eVr t l) (hl:l.length<=100000) (hd:∀v∈l,v.digits.size<=1000000000) (hg:∀v∈l,EP v):Bc Xd (G q) 56 [t] (· = nbT l):=by
 obtain⟨R,hR⟩:∃R,R=nbT l:=⟨_,rfl⟩
 rw[<-hR];unfold nbT at hR;have ln:=ht.len;have mk:=Iv (ty:=tyI) (by':=8) (nx:=0) (.int .i64 0) (n:=l.length) (by omega) (by omega)
 obtain⟨H0,hH0⟩:∃H0:Ak,H0=[(0,Row.cells tyI (Xu l.length (.t (.v (.int .i64 0)))))]:=⟨_,rfl⟩
 have r0:Aj H0 0=some (A5 A6 tyI (nmL l 0)):=by rw[zF,Mo (c:=iv 0) rfl,hH0];rfl
 have C:Ctx Xd (G q) _:=(AB.cons (hNb (q:=q)) .nil).ctx mixed;refine p8.call rfl ?_;(conv in Ve=>cbv);refine Ao C ?_;simp -implicitDefEqProofs;refine Ao C ?_;simp -implicitDefEqProofs [ln,mk];rw[<-hH0];refine AZ (λc:NbC=>⟨[(5,.row 0 0 l.length 1),(0,.t t)],c.H,c.nx,93⟩) (λc=>Fj l=some (l.map nmV)/\Aj c.H 0=some (A5 A6 tyI (l.map nmV))/\0<c.nx) (λ_=>rfl) ?_ ?_
 .refine Ao C ?_;simp -implicitDefEqProofs [ln];refine AY ?_;refine Bj (SNb t l.length) (λc=>l.length-c.i) (λc=>(∀x∈l.take c.i,(Cl (wb x.digits)).2=0)/\Aj c.H 0=some (A5 A6 tyI (nmL l c.i))/\0<c.nx/\c.i<=l.length) ⟨H0,1,0⟩ (λ_=>rfl) ⟨by simp,r0,Xk _,Xg _⟩ ?_ rfl ?_
  .exact Aw (by simp -implicitDefEqProofs [SNb])
  rintro⟨H,nx,i⟩ ⟨ha,hr,hn,hi⟩;simp only at ha hr hn hi;by_cases hlt:i<l.length
  rotate_left
  .have ei:i=l.length:=by omega
   subst ei;rw[zG]at hr;refine A8 C ?_;simp -implicitDefEqProofs [SNb];exact A4.mk ⟨H,nx,0⟩ ⟨bE ha,hr,hn⟩ (Aw (by simp -implicitDefEqProofs))
  obtain⟨x,hx⟩:∃x,l[i]?=some x:=⟨_,Xh hlt⟩
  have i1:=ht.iaddr hx .i64;rw[show eVr.z=2 from rfl,show eVr.enc x=[sv x.sort,sv x.digits]from rfl]at i1;have u1:∀a b,AO 2 ((nx,.cells Iw [a,b])::H) (.ptr nx 0) (.t (.ag [sv x.sort,sv x.digits]))=some ((nx,.cells Iw [.t (sv x.sort),.t (sv x.digits)])::H):=λa b=>st2 nx a b _ _ Iw H
  obtain⟨Hb,hHb⟩:∃Hb:Ak,Hb=(nx,.cells Iw [.t (sv x.sort),.t (sv x.digits)])::H:=⟨_,rfl⟩
  rw[<-hHb]at u1;obtain⟨_,b2⟩:=zY (H:=Hb) (k:=nx) (a:=sv x.sort) (b:=sv x.digits) (by rw[hHb,A9,zu rfl])
  have hb0:Aj Hb 0=some (A5 A6 tyI (nmL l i)):=by rw[hHb,A9,zw (by omega)];exact hr
  have e1:=zC (hd x (Xq hx));have en:Di (wb x.digits) = .tu [iv (nmV x),iv (Cl (wb x.digits)).2]:=rfl;rw[en]at e1;have w1:Xo.wrap ((i:Int)+1)=((i+1:Nat):Int):=Bb rfl (by omega);have ia:BN 1 (.row 0 0 l.length 1) (.t (iv (i:Int)))=some (.ptr 0 i):=FC _ _ _ hlt;have s1:=FB (e:=A6) (ty:=tyI) (c:=iv (nmV x)) (x:=nmV x) rfl hb0 (i:=i) (by rw[zD l i hi];exact hlt) rfl rfl;rw[zE hx]at s1;refine Ao C ?_;simp -implicitDefEqProofs [SNb,hlt];refine Ao C ?_;simp -implicitDefEqProofs;refine AZ (λc:NbC=>SNb t l.length ⟨c.H,c.nx,i⟩) (λc=>(Cl (wb x.digits)).2=0/\Aj c.H 0=some (A5 A6 tyI (nmL l (i+1)))/\0<c.nx) (λ_=>rfl) ?_ ?_
  .refine AY ?_;refine Ao C ?_;simp -implicitDefEqProofs [i1,D2,u1];refine Ao C ?_;simp -implicitDefEqProofs [b2,e1];by_cases he:(Cl (wb x.digits)).2=0
   .have d1:((Cl (wb x.digits)).2 != 0)=false:=by rw[he];rfl
    refine Ao C ?_;simp -implicitDefEqProofs [d1];refine A8 C ?_;simp -implicitDefEqProofs [ia,s1];exact A4.mk ⟨Xc Hb 0 (A5 A6 tyI (nmL l (i+1))),nx+1,0⟩ ⟨he,by show Aj (Xc Hb 0 _) 0=_;rw[A7,zu rfl,hb0];rfl,X3 _⟩ (Aw (by simp -implicitDefEqProofs [SNb]))
   .have d1:((Cl (wb x.digits)).2 != 0)=true:=by rw[bne_iff_ne];exact he
    have hR0:R = .tu [Au,Au,iv 2]:=by rw[hR,bD hx he]
    refine Ao C ?_;simp -implicitDefEqProofs [d1,hR0]
  .rintro⟨Hz,nz,_⟩ ⟨g1,g2,g3⟩;simp only at g1 g2 g3;refine A8 C ?_;simp -implicitDefEqProofs [SNb,w1];refine A4.mk ⟨Hz,nz,i+1⟩ ⟨⟨λy hy=>?_,g2,g3,hlt⟩,by show l.length-(i+1)<l.length-i;omega⟩ (Aw (by simp -implicitDefEqProofs [SNb]));rw[Xl,hx]at hy;rcases X4.1 hy with h | h
   .exact ha y h
   .have:y=x:=by simpa using h
    rw[this];exact g1
 rintro⟨H,nx,_⟩ ⟨hns,r0,hnx⟩;simp only at hns r0 hnx;rw[hns]at hR;simp only at hR;refine Ao C ?_;simp -implicitDefEqProofs;refine AZ (λc:NbC=>⟨[(10,.mp nx),(5,.row 0 0 l.length 1),(0,.t t)],c.H,nx+1,93⟩) (λc=>BX [] l=false/\Aj c.H 0=some (A5 A6 tyI (l.map nmV))/\Aj c.H nx=some (.map (.int .i64) (mpS l (Bo [] (l.map nmV))))) (λ_=>rfl) ?_ ?_
 .refine Ao C ?_;simp -implicitDefEqProofs;refine AY ?_;refine Bj (SNd t l.length nx) (λc=>l.length-c.i) (λc=>BX [] (l.take c.i)=false/\Aj c.H 0=some (A5 A6 tyI (l.map nmV))/\Aj c.H nx=some (.map (.int .i64) (mpS l (ksL l c.i)))/\c.i<=l.length) ⟨(nx,.map (.int .i64) [])::H,0,0⟩ (λ_=>rfl) ⟨rfl,by rw[A9,zw (by omega)];exact r0,by rw[A9,zu rfl];rfl,Xg _⟩ ?_ rfl ?_
  .exact Aw (by simp -implicitDefEqProofs [SNd])
  rintro⟨H,nx',i⟩ ⟨ha,hr,hm,hi⟩;simp only at ha hr hm hi;by_cases hlt:i<l.length
  rotate_left
  .have ei:i=l.length:=by omega
   subst ei;rw[zU]at hm;rw[Xp]at ha;refine A8 C ?_;simp -implicitDefEqProofs [SNd];exact A4.mk ⟨H,0,0⟩ ⟨ha,hr,hm⟩ (Aw (by simp -implicitDefEqProofs))
  obtain⟨x,hx⟩:∃x,l[i]?=some x:=⟨_,Xh hlt⟩
  have hnx:(l.map nmV)[i]?=some (nmV x):=by rw[Xm,hx];rfl
  have i1:=ht.iaddr hx .i64;rw[show eVr.z=2 from rfl,show eVr.enc x=[sv x.sort,sv x.digits]from rfl]at i1;have l1:=GD hr hnx (c:=iv (nmV x)) rfl rfl;have ia:BN 1 (.row 0 0 l.length 1) (.t (iv (i:Int)))=some (.ptr 0 i):=FC _ _ _ hlt;have w1:=HL i (by omega);have hk:El (.int .i64) (.t (iv (nmV x)))=some (.n [nmV x]):=rfl;have hg1:=bF (l:=l) (v:=nmV x) (ns:=ksL l i);have hms:=bJ hx ha;have hst:=λh1=>zV hx ha h1;refine Ao C ?_;simp -implicitDefEqProofs [SNd,hlt];refine Ao C ?_;simp -implicitDefEqProofs;refine AZ (λc:NbC=>SNd t l.length nx ⟨c.H,0,i⟩) (λc=>BX [] (l.take (i+1))=false/\Aj c.H 0=some (A5 A6 tyI (l.map nmV))/\Aj c.H nx=some (.map (.int .i64) (mpS l (ksL l (i+1))))) (λ_=>rfl) ?_ ?_
  .refine AY ?_
   have done:BX [] (l.take (i+1))=false->∀s',Sub Xd (G q) 0 s' (SNd t l.length nx ⟨Xc H nx (.map (.int .i64) (Cq (mpS l (ksL l i)) (.n [nmV x]) (.string x.sort))),0,i⟩)->A4 Xd (G q) 0 (λc:NbC=>SNd t l.length nx ⟨c.H,0,i⟩) (λc=>BX [] (l.take (i+1))=false/\Aj c.H 0=some (A5 A6 tyI (l.map nmV))/\Aj c.H nx=some (.map (.int .i64) (mpS l (ksL l (i+1))))) s':=λh1 s' hs'=>
    A4.mk ⟨Xc H nx (.map (.int .i64) (Cq (mpS l (ksL l i)) (.n [nmV x]) (.string x.sort))),0,0⟩ ⟨h1,by show Aj (Xc H nx _) 0=_;rw[A7,zw (by omega)];exact hr,by show Aj (Xc H nx _) nx=_;rw[A7,zu rfl,hm,hst h1];rfl⟩ hs'
   refine Ao C ?_;simp -implicitDefEqProofs [ia,l1];by_cases hmem:nmV x∈ksL l i
   .rw[zu hmem]at hg1;rw[zq (bM.1 hmem),X7]at hms;by_cases hs:Bx l (nmV x)=x.sort
    .have ds:((Bx l (nmV x)).toList==x.sort.toList)=true:=by rw[hs];exact beq_self_eq_true _
     rw[zq hs]at hms;refine Ao C ?_;simp -implicitDefEqProofs [hm,hk,hg1,i1,lp,ds];refine A8 C ?_;simp -implicitDefEqProofs [hm,hk,i1,lp];exact done hms _ (Aw (by simp -implicitDefEqProofs [SNd]))
    .have ds:((Bx l (nmV x)).toList==x.sort.toList)=false:=by
      rw[zp];exact λe=>hs (Ya e)
     rw[zt hs]at hms
     have hR0:R = .tu [Au,Au,iv 17]:=by rw[hR,zu (zK hms)]
     refine Ao C ?_;simp -implicitDefEqProofs [hm,hk,hg1,i1,lp,ds,hR0]
   .rw[zw hmem]at hg1;rw[zt (λe=>hmem (bM.2 e)),Bool.false_and]at hms;refine Ao C ?_;simp -implicitDefEqProofs [hm,hk,hg1,i1,lp];refine A8 C ?_;simp -implicitDefEqProofs [hm,hk,i1,lp];exact done hms _ (Aw (by simp -implicitDefEqProofs [SNd]))
  .rintro⟨Hz,_,_⟩ ⟨g1,g2,g3⟩;simp only at g1 g2 g3;refine A8 C ?_;simp -implicitDefEqProofs [SNd,w1];exact A4.mk ⟨Hz,0,i+1⟩ ⟨⟨g1,g2,g3,hlt⟩,by show l.length-(i+1)<l.length-i;omega⟩ (Aw (by simp -implicitDefEqProofs [SNd]))
 rintro⟨H,_,_⟩ ⟨hmis,r0,hm⟩;simp only at hmis r0 hm;rw[hmis]at hR;simp only[Xx,if_false]at hR
 obtain⟨ks,hks⟩:∃ks,ks=Bo [] (l.map nmV):=⟨_,rfl⟩
 have hcn:Ei (l.map nmV)=ks.length:=by rw[hks];rfl
 have hkl:ks.length<=l.length:=by have:=Q8 (l.map nmV);rw[Xe]at this;rw[hks];exact this
 have hnd:ks.Nodup:=by rw[hks];exact JM X5
 have hin:∀n,n∈ks ↔ n∈l.map nmV:=λn=>by rw[hks,IQ];simp
 rw[<-hks]at hm;have ml:=T9 (H:=H) (nx:=nx+1) hm;rw[zH]at ml;have mk2:=Iv (ty:=tyS) (by':=16) (nx:=nx+1) (.string ⟨#[]⟩) (n:=ks.length) (by omega) (by omega)
 obtain⟨H2,hH2⟩:∃H2:Ak,H2=(nx+1,Row.cells tyS (Xu ks.length (.t (.v (.string ⟨#[]⟩)))))::H:=⟨_,rfl⟩
 have q0:Aj H2 0=some (A5 A6 tyI (l.map nmV)):=by rw[hH2,A9,zw (by omega)];exact r0
 have qm:Aj H2 nx=some (.map (.int .i64) (mpS l ks)):=by rw[hH2,A9,zw (by omega)];exact hm
 have qo:Aj H2 (nx+1)=some (A5 Ar tyS (Xu ks.length (⟨#[]⟩:ByteArray))):=by rw[Mo (c:=sv ⟨#[]⟩) rfl,hH2,A9,zu rfl]
 refine Ao C ?_;simp -implicitDefEqProofs [ml,mk2];rw[<-hH2];refine MC.sub (s':=⟨[(15,.row (nx+1) 0 ks.length 1),(10,.mp nx),(5,.row 0 0 l.length 1)],H2,nx+2,93⟩) (Aw (by simp -implicitDefEqProofs)) rfl ?_;refine zM qm ?_;intro lc arr cc hmi;have hsz:=hmi.lt
 obtain⟨H3,hH3⟩:∃H3:Ak,H3=Xc H2 nx (.blk (some lc) (.map arr cc)):=⟨_,rfl⟩
 rw[<-hH3]
 have t0:Aj H3 0=some (A5 A6 tyI (l.map nmV)):=by rw[hH3,A7,zw (by omega)];exact q0
 have tm:Aj H3 nx=some (.blk (some lc) (.map arr cc)):=by rw[hH3,A7,zu rfl,qm];rfl
 have to:Aj H3 (nx+1)=some (A5 Ar tyS (Xu ks.length (⟨#[]⟩:ByteArray))):=by rw[hH3,A7,zw (by omega)];exact qo
 have mr:hxM .mrange H3 (nx+2) [.mp nx]=some (.ptr (nx+2) 0,(nx+2,.blk none (.mapIter (some lc) cc #[] cc))::H3,nx+3):=by simp[hxM,tm]
 have key:∀e∈arr.toList,∃n∈ks,e.key = .int .i64 n/\e.val = .string (Bx l n):=λe he=>by
  have h1:(e.key,e.val)∈arr.toList.map (λe=>(e.key,e.val)):=Xf.2 ⟨e,he,rfl⟩;rw[hmi.eq]at h1;unfold mpS at h1;rw[Xw]at h1;obtain⟨n,hn,h2⟩:=Xf.1 h1;injection h2 with h2 h3;exact⟨n,hn,h2.symm,h3.symm⟩
 have all:∀n∈ks,∃e∈arr.toList,e.key = .int .i64 n:=λn hn=>by
  have h1:(Value.int .i64 n,Value.string (Bx l n))∈(mpS l ks).map (λe=>(e.1.val (.int .i64),e.2)):=by
   unfold mpS;rw[Xw];exact Xf.2 ⟨n,hn,rfl⟩
  rw[<-hmi.eq]at h1;obtain⟨e,he,h2⟩:=Xf.1 h1;injection h2 with h2 _;exact⟨e,he,h2⟩
 refine AZ (λc:Ak=>⟨[(15,.row (nx+1) 0 ks.length 1),(5,.row 0 0 l.length 1)],c,nx+3,93⟩) (λc=>Dx (l.map nmV)=true/\Aj c 0=some (A5 A6 tyI (l.map nmV))/\Aj c (nx+1)=some (A5 Ar tyS ((upN ks.length).map (Bx l)))) (λ_=>rfl) ?_ ?_
 .refine Ao C ?_;simp -implicitDefEqProofs [mr];refine AY ?_;refine Bj (SNe l.length ks.length nx) (λc=>muE arr c.seen) (λc=>NbI l ks nx lc cc arr c) ⟨(nx+2,.blk none (.mapIter (some lc) cc #[] cc))::H3,#[],Xu ks.length ⟨#[]⟩⟩ (λ_=>rfl) ?_ ?_ rfl ?_
  .exact⟨by rw[A9,zw (by omega)];exact t0,by rw[A9,zw (by omega)];exact tm,by rw[A9,zu rfl],by rw[A9,zw (by omega)];exact to,by rw[List.length_replicate],λe he hs=>by simp at hs⟩
  .exact Aw (by simp -implicitDefEqProofs [SNe])
  rintro⟨Ha,seen,cells⟩ ⟨a0,am,ai,ao,al,ac⟩;simp only at a0 am ai ao al ac;refine zR C (i:=nx+2) (c0:=nx) rfl ai am hmi.lt (Xi _) ?_ ?_
  .intro hall
   have ful:∀n∈ks,0<=n/\n<(ks.length:Int)/\cells[n.toNat]?=some (Bx l n):=λn hn=>by
    obtain⟨e,he,hk⟩:=all n hn;obtain⟨n',h1,h2,h3,h4⟩:=ac e he (hall e he);rw[hk]at h1;injection h1 with _ h1;subst h1;exact⟨h2,h3,h4⟩
   have hcl:=zW hnd al ful
   have hord:Dx (l.map nmV)=true:=by
    unfold Dx;rw[Xy];intro n hn;refine zq ?_;rw[hcn];exact(ful n ((hin n).2 hn)).2.1
   simp -implicitDefEqProofs [SNe];refine Ao C ?_;simp -implicitDefEqProofs;exact A4.mk Ha ⟨hord,a0,by rw[<-hcl];exact ao⟩ (Aw (by simp -implicitDefEqProofs))
  .intro e he hne;obtain⟨n,hn,hke,hve⟩:=key e he
   have n0:0<=n:=by
    obtain⟨v,hv,rfl⟩:=Xf.1 ((hin n).1 hn);exact YP (hg v hv)
   obtain⟨j,rfl⟩:∃j:Nat,n=(j:Int):=⟨n.toNat,by omega⟩
   obtain⟨Hb,hHb⟩:∃Hb:Ak,Hb=Xc Ha (nx+2) (.blk none (.mapIter (some lc) cc (seen.push e.born) cc)):=⟨_,rfl⟩
   have b0:Aj Hb 0=some (A5 A6 tyI (l.map nmV)):=by rw[hHb,A7,zw (by omega)];exact a0
   have bm:Aj Hb nx=some (.blk (some lc) (.map arr cc)):=by rw[hHb,A7,zw (by omega)];exact am
   have bi:Aj Hb (nx+2)=some (.blk none (.mapIter (some lc) cc (seen.push e.born) cc)):=by rw[hHb,A7,zu rfl,ai];rfl
   have bo:Aj Hb (nx+1)=some (A5 Ar tyS cells):=by rw[hHb,A7,zw (by omega)];exact ao
   rw[show Xc (SNe l.length ks.length nx ⟨Ha,seen,cells⟩).H (nx+2) (.blk none (.mapIter (some lc) cc (seen.push e.born) cc))=Hb from hHb.symm,hke,hve];simp -implicitDefEqProofs [SNe];refine Ao C ?_;simp -implicitDefEqProofs;refine AY ?_;refine zS C (i:=nx+2) (c0:=nx) (e:=e) rfl bi bm he hmi.born ?_;rw[hke,hve];simp -implicitDefEqProofs;have lnr:CV (.row (nx+1) 0 ks.length 1)=some (.t (iv (ks.length:Int))):=rfl;by_cases hj:ks.length<=j
   .have dj:decide ((ks.length:Int)<=(j:Int))=true:=zq (by omega)
    have hno:Dx (l.map nmV)=false:=by
     unfold Dx;rw[List.all_eq_false];exact⟨_,(hin _).1 hn,by rw[hcn];simp;omega⟩
    have hR0:R = .tu [Au,Au,iv 3]:=by rw[hR,zu hno]
    refine Ao C ?_;simp -implicitDefEqProofs [lnr,dj,hj,hR0]
   .have dj:decide ((ks.length:Int)<=(j:Int))=false:=zt (by omega)
    have hjl:j<ks.length:=by omega
    have ia:BN 1 (.row (nx+1) 0 ks.length 1) (.t (iv (j:Int)))=some (.ptr (nx+1) j):=FC _ _ _ hjl;have s1:=FB (e:=Ar) (ty:=tyS) (c:=sv (Bx l (j:Int))) (x:=Bx l (j:Int)) rfl bo (i:=j) (by rw[al];exact hjl) rfl rfl;refine Ao C ?_;simp -implicitDefEqProofs [lnr,dj,hj];refine A8 C ?_;simp -implicitDefEqProofs [ia,s1];refine A4.mk ⟨Xc Hb (nx+1) (A5 Ar tyS (cells.set j (Bx l (j:Int)))),seen.push e.born,cells.set j (Bx l (j:Int))⟩ ⟨⟨?_,?_,?_,?_,?_,?_⟩,?_⟩ (Aw (by simp -implicitDefEqProofs [SNe]))
    .show Aj (Xc Hb (nx+1) _) 0=_;rw[A7,zw (by omega)];exact b0
    .show Aj (Xc Hb (nx+1) _) nx=_;rw[A7,zw (by omega)];exact bm
    .show Aj (Xc Hb (nx+1) _) (nx+2)=_;rw[A7,zw (by omega)];exact bi
    .show Aj (Xc Hb (nx+1) _) (nx+1)=_;rw[A7,zu rfl,bo];rfl
    .show(cells.set j _).length=_;rw[List.length_set];exact al
    .intro e' he' hs'
     have hs2:e'.born∈seen.toList\/e'.born=e.born:=by simpa[Yb]using hs'
     by_cases hb:e'.born=e.born
     .have ee:e'=e:=bO hmi.born he' he hb;subst ee;exact⟨(j:Int),hke,by omega,by omega,by show(cells.set j _)[((j:Int)).toNat]?=_;rw[X2,Yc (by omega)]⟩
     .obtain⟨n',h1,h2,h3,h4⟩:=ac e' he' (hs2.resolve_right hb);refine⟨n',h1,h2,h3,?_⟩;show(cells.set j _)[n'.toNat]?=_;by_cases hjn:j=n'.toNat
      .rw[<-hjn,Yc (by omega)];rw[show n'=(j:Int)by omega]
      .rw[List.getElem?_set_ne hjn];exact h4
    .show muE arr (seen.push e.born)<muE arr seen;unfold muE;refine bN (λy _ hy=>?_) ⟨e,he,?_,?_⟩
     .simp only[Yb,Bool.not_eq_true',List.contains_eq_mem,X4,decide_eq_false_iff_not,not_or]at hy ⊢;exact hy.1
     .simpa using hne
     .simp
 rintro H ⟨hord,r0,ro⟩;rw[hord]at hR;simp only[Xz,if_false]at hR;rw[hcn]at hR
 have t1:toT H (.row 0 0 l.length 1)=some (slT A6 (l.map nmV),[0]):=by
  have:=DN r0;rw[Xe]at this;exact this
 have t2:toT H (.row (nx+1) 0 ks.length 1)=some (slT Ar ((upN ks.length).map (Bx l)),[nx+1]):=by
  have:=DN ro;rw[Xe,Cv]at this;exact this
 refine Ao C ?_;simp -implicitDefEqProofs;refine A8 C ?_
 have tts:Bn H [.row 0 0 l.length 1,.row (nx+1) 0 ks.length 1,.t (iv 0)]=some ([slT A6 (l.map nmV),slT Ar ((upN ks.length).map (Bx l)),iv 0],[0]++([nx+1]++([]++[]))):=by
  simp only[Bn,t1,t2];rfl
 simp -implicitDefEqProofs [tts,-Bn,hR]
def mr0:Mr:=⟨0,0,[],[],[]⟩
def Dz (m:Mr):List T:=[iv m.top,iv m.index,slT Ar m.vars,Ba eEC (m.rels.map EC.of),Ba eQq m.cons]
def I5:Except Int Mr->T
 | .error e=>.tu [.ag (Bm mr0),iv e]
 | .ok m=>.tu [.ag (Dz m),iv 0]
theorem R3 (m:Mr):BJ m (Dz m):=⟨_,_,_,_,rfl,IsS.mk m.vars,IsS.tree _ _,TP _,IsS.tree _ _⟩
def SmP (s:ByteArray):Prop:=∀raw l,Dn ((wb s).length+1) ⟨wb s,0,[]⟩=(⟨[],0,l⟩,raw)->SmM (GJ raw l)
def Do:Row:=.cells Ct [.t (iv 0),.t (iv 0),.t Au,.t Au,.t Au]
theorem A0a:DU 3 Do:=⟨_,_,rfl,λp hp=>by
 simp only[Xj,Yd,or_false]at hp
 rcases hp with rfl | rfl | rfl | rfl | rfl<;>exact .inl ⟨_,rfl⟩⟩
theorem st5 {H:Ak} {k:Nat} {cs:List PV} (h:Aj H k=some (.cells Ct cs)) (hl:cs.length=5) {a b c d e:T}:AO 5 H (.ptr k 0) (.t (.ag [a,b,c,d,e]))=some (Xc H k (Br [a,b,c,d,e])):=by
 rw[show AO 5 H (.ptr k 0) (.t (.ag [a,b,c,d,e]))=some (Xc H k (.cells Ct (Cj cs 0 [.t a,.t b,.t c,.t d,.t e])))from BF (ns:=[.t a,.t b,.t c,.t d,.t e]) h rfl rfl (by omega)]
 match cs,hl with
 | [_,_,_,_,_],_=>rfl
theorem FJ (Φ:AP) (H:Ak) (nx:Nat):A0 Φ H nx (.build [(0,1),(1,1),(2,1),(3,1),(4,1)] [.int .i64 0,.int .i64 0,.slice none 0 0,.slice none 0 0,.slice none 0 0] []) []=some (.t (.ag (Bm mr0)),H,nx):=rfl
theorem bP (Φ:AP) (H:Ak) (nx:Nat):Bi Φ H nx (.build [(0,1),(1,1),(2,1),(3,1),(4,1)] [.int .i64 0,.int .i64 0,.slice none 0 0,.slice none 0 0,.slice none 0 0] []) []=some (.t (.ag (Bm mr0))):=rfl
theorem FK {H:Ak} (h:Aj H 0=some Do):AO 5 H (.ptr 0 0) (.t (.ag (Bm mr0)))=some (Xc H 0 Do):=st5 (a:=iv 0) (b:=iv 0) (c:=Au) (d:=Au) (e:=Au) h rfl
theorem FL {H:Ak} (h:Aj H 0=some Do):AD true 5 (Xc H 0 Do) (.ptr 0 0)=some (.t (.ag (Bm mr0))):=(ldM (H:=Xc H 0 Do) (k:=0) (a:=iv 0) (b:=iv 0) (c:=Au) (d:=Au) (e:=Au) (by rw[A7,zu rfl,h];rfl)).all
theorem bQ {s:ByteArray} (hs:s.size<=1000000000) (hsm:SmP s):Bc Xd (G q) 27 [sv s] (· = I5 (DB (wb s))):=by
 obtain⟨R,hR⟩:∃R,R=I5 (DB (wb s)):=⟨_,rfl⟩
 rw[<-hR];have hwl:=Bz s;unfold DB at hR;unfold SmP at hsm;rw[hwl]at hR hsm;refine pA.call rfl ?_;(conv in Vg=>cbv);refine Ao An ?_;simp -implicitDefEqProofs
 obtain⟨Hz,hHz⟩:∃Hz:Ak,Hz=[(0,Do)]:=⟨_,rfl⟩
 have hz0:Aj Hz 0=some Do:=by rw[hHz];rfl
 have hzf:Frs Hz 1:=λb x hb=>by
  rw[hHz,A9]at hb;split at hb
  .omega
  .cases hb
 refine MC.sub (s':=⟨[(3,.t (iv 0)),(2,.ptr 0 0),(0,.t (sv s))],Hz,1,54⟩) (by rw[hHz];exact Aw (by simp -implicitDefEqProofs)) rfl ?_;by_cases hbig:65536<s.size
 .have d0:decide ((65536:Int)<(s.size:Int))=true:=zq (by omega);rw[zu hbig]at hR;have hR0:R = .tu [.ag (Bm mr0),iv 7]:=hR;refine Ao An ?_;simp -implicitDefEqProofs [d0,hbig,FJ,-BU,FK hz0,FL hz0,hR0]
 have d0:decide ((65536:Int)<(s.size:Int))=false:=zt (by omega);rw[zw hbig]at hR;refine Ao An ?_;simp -implicitDefEqProofs [d0,hbig];have bd1:∀(Φ:AP) (H:Ak) (nx:Nat),A0 Φ H nx (.build [(0,1),(1,1),(2,1),(3,1)] [.string ⟨#[]⟩,.int .i64 0,.int .i64 0,.slice none 0 0] [0]) [.t (sv s)]=some (.t (.ag [sv s,iv 0,iv 0,Au]),H,nx):=λ_ _ _=>rfl;have bx1:Bq (.t (.ag [sv s,iv 0,iv 0,Au]))=some [.t (sv s),.t (iv 0),.t (iv 0),.t Au]:=rfl;refine Ao An ?_;simp -implicitDefEqProofs [bd1,bx1,-BU]
 obtain⟨H1,hH1⟩:∃H1:Ak,H1=(1,Dy s 0 0 (.t Au))::Hz:=⟨_,rfl⟩
 have x0:Aj H1 0=some Do:=by rw[hH1,A9,zw (by omega)];exact hz0
 have S1:RdS s 1 2 0 ⟨wb s,0,[]⟩ H1 3:=⟨by rw[hH1,A9,zu rfl];rfl,.inl rfl,rfl,Xg _,by omega,by omega,by omega⟩
 refine MC.sub (s':=⟨[(4,.ptr 1 0),(3,.t (iv 0)),(2,.ptr 0 0),(0,.t (sv s))],H1,2,54⟩) (by rw[hH1];exact Aw (by simp -implicitDefEqProofs)) rfl ?_;refine MC.sub (EN (nx':=3) (by omega)) rfl ?_;obtain⟨⟨fr,fH,fn⟩,⟨hr,⟨kv',i',S2,A2⟩⟩,hc⟩:=yD (q:=q) S1 hs (by show 0+(wb s).length<=_;omega) (n:=s.size+1) (by show(wb s).length<_;omega) (by omega);simp only at hr S2 A2 hc
 have f1:Frs H1 3:=by rw[hH1];exact(hzf.cons (k:=1) (m:=3) (by omega) (by omega))
 obtain⟨tb,tb1,tb2⟩:=hAt hc A2.fr
 obtain⟨rr,hrr⟩:∃rr,rr=(Dn (s.size+1) ⟨wb s,0,[]⟩).1:=⟨_,rfl⟩
 obtain⟨raw,hraw⟩:∃raw,raw=(Dn (s.size+1) ⟨wb s,0,[]⟩).2:=⟨_,rfl⟩
 rw[<-hrr,<-hraw]at hR;rw[<-hrr]at S2;rw[<-hraw]at hr;subst hr;have C1:Ctx Xd (G q) _:=AB.nil.ctxH (AG.cons tb2 .nil) mixed;have y0:Aj fH 0=some Do:=A2.k 0 _ (by omega) (by omega) (by omega) x0 A0a;have l1:=S2.l0;have l2:=S2.lv;have l3:=S2.ne
 obtain⟨H2,hH2⟩:∃H2:Ak,H2=(fn,Br (Bm raw))::fH:=⟨_,rfl⟩
 have kv0:kv'≠0:=by have:=A2.v;omega
 have s1:AO 5 ((fn,.cells Ct [.t (iv 0),.t (iv 0),.t Au,.t Au,.t Au])::fH) (.ptr fn 0) (.t (.ag (Bm raw)))=some H2:=by
  rw[Bm,st5 (cs:=[.t (iv 0),.t (iv 0),.t Au,.t Au,.t Au]) (by rw[A9,zu rfl]) rfl,hH2];simp[Xc,Bm]
 refine Ao C1 ?_;simp -implicitDefEqProofs [tb1,s1];refine MC.sub (s':=⟨[(5,.ptr fn 0),(4,.ptr 1 0),(3,.t (iv 0)),(2,.ptr 0 0),(0,.t (sv s))],H2,fn+1,54⟩) (Aw (by simp -implicitDefEqProofs)) rfl ?_
 have z0:Aj H2 0=some Do:=by rw[hH2,A9,zw (by omega)];exact y0
 have o2:Aj H2 1=some (Dy s i' rr.e (Ax eVr kv' rr.seen)):=by rw[hH2,A9,zw (by omega)];exact S2.o
 have v2:AK eVr Iw H2 kv' rr.seen:=S2.v.imp id λe=>by rw[hH2,A9,zw (by omega)];exact e
 have m2:Aj H2 fn=some (Br (Bm raw)):=by rw[hH2,A9,zu rfl]
 have L:=ldR o2;by_cases he:rr.e=0
 rotate_left
 .have hb:(rr.e != 0)=true:=by rw[bne_iff_ne];exact he
  rw[zu he]at hR;have hR0:R = .tu [.ag (Bm mr0),iv rr.e]:=hR;refine Ao An ?_;simp -implicitDefEqProofs [L.l2,hb,FJ,bP,-BU,FK z0,FL z0,hR0];exact(ldR (H:=Xc H2 0 Do) (k0:=1) (by rw[A7,zw (by omega)];exact o2)).l2
 have hb:(rr.e != 0)=false:=by rw[he];rfl
 rw[zw (λe=>e he)]at hR;rw[hrr]at he;obtain⟨m',seen,hEq,hpl,hsl,hgd,hwf,_⟩:=Ov (n:=s.size+1) (s:=wb s) (by omega) he;have hsml:=Rr (n:=s.size+1) (s:=wb s);rw[hEq]at hsml;simp only at hsml;have hsmm:=hsm m' seen hEq;rw[hEq]at hrr hraw;simp only at hrr hraw;subst hrr hraw;simp only at hR v2 o2 L hb;refine Ao An ?_;simp -implicitDefEqProofs [L.l2,hb];have nbc:=zZ (q:=q) (IsS.tree eVr seen) (by omega) (λv hv=>by have:=hsml.2 v hv;rw[Bz]at this;omega) hgd;have tts:Bn H2 [Ax eVr kv' seen]=some ([Ba eVr seen],FU kv' seen++[]):=Ew v2.toT rfl
 obtain⟨H3,hH3⟩:∃H3:Ak,H3=if(FU kv' seen++[]).isEmpty then H2 else if De (nbT seen)then H2 else Ez H2 (FU kv' seen++[]):=⟨_,rfl⟩
 have k3:∀c,c≠kv'->Aj H3 c=Aj H2 c:=λc hc=>by
  rw[hH3];split
  .rfl
  .split
   .rfl
   .refine Od _ _ _ ?_
    cases seen with
    | nil=>simp[FU]
    | cons a l=>simpa[FU]using hc
 have C2:Ctx Xd (G q) _:=(AB.cons (FG nbc) .nil).ctx mixed
 have ev:∀nx,A0 (orc [(56,Iz [Ba eVr seen] (nbT seen))]) H2 nx (.call 56) [Ax eVr kv' seen]=some (.t (nbT seen),H3,nx):=λnx=>by
  rw[CW,tts,hH3];simp[Gg]
 have z3:Aj H3 0=some Do:=by rw[k3 0 kv0.symm];exact z0
 have m3:Aj H3 fn=some (Br (Bm raw)):=by rw[k3 fn (by omega)];exact m2
 unfold LZ at hR;have ev3:∀a b c,nbT seen = .tu [a,b,c]->∀nx,A0 (orc [(56,Iz [Ba eVr seen] (nbT seen))]) H2 nx (.call 56) [Ax eVr kv' seen]=some (.t (.tu [a,b,c]),H3,nx):=λa b c h nx=>(ev nx).trans (congrArg (λz=>some (PV.t z,H3,nx)) h)
 cases hns:Fj seen with
 | none=>
  rw[hns]at hR;have hR0:R = .tu [.ag (Bm mr0),iv 2]:=hR;have e0:=ev3 Au Au (iv 2) (by unfold nbT;rw[hns]);refine Ao C2 ?_;simp -implicitDefEqProofs [L.l3,e0,-CW];refine Ao C2 ?_;simp -implicitDefEqProofs [FJ,-BU,FK z3,FL z3,hR0]
 | some ns=>
 rw[hns]at hR;have ens:=(QP hns).1;subst ens;simp only at hR
 cases hms:BX [] seen with
 | true=>
  rw[hms]at hR;have hR0:R = .tu [.ag (Bm mr0),iv 17]:=hR;have e0:=ev3 Au Au (iv 17) (by unfold nbT;rw[hns];simp only;rw[hms];rfl);refine Ao C2 ?_;simp -implicitDefEqProofs [L.l3,e0,-CW];refine Ao C2 ?_;simp -implicitDefEqProofs [FJ,-BU,FK z3,FL z3,hR0]
 | false=>
 rw[hms]at hR;simp only[Xx,if_false]at hR
 cases hor:Dx (seen.map nmV)with
 | false=>
  rw[hor]at hR;have hR0:R = .tu [.ag (Bm mr0),iv 3]:=hR;have e0:=ev3 Au Au (iv 3) (by unfold nbT;rw[hns];simp only;rw[hms,hor];rfl);refine Ao C2 ?_;simp -implicitDefEqProofs [L.l3,e0,-CW];refine Ao C2 ?_;simp -implicitDefEqProofs [FJ,-BU,FK z3,FL z3,hR0]
 | true=>
 rw[hor]at hR;simp only[Xz,if_false]at hR;have e0:=ev3 (slT A6 (seen.map nmV)) (slT Ar ((upN (Ei (seen.map nmV))).map (Bx seen))) (iv 0) (by unfold nbT;rw[hns];simp only;rw[hms,hor];rfl)
 obtain⟨so,hso⟩:∃so,so=(upN (Ei (seen.map nmV))).map (Bx seen):=⟨_,rfl⟩
 obtain⟨ns,hns'⟩:∃ns,ns=seen.map nmV:=⟨_,rfl⟩
 rw[<-hso,<-hns']at e0
 obtain⟨tn,htn⟩:∃tn,tn=slT A6 ns:=⟨_,rfl⟩
 obtain⟨ts,hts⟩:∃ts,ts=slT Ar so:=⟨_,rfl⟩
 rw[<-htn,<-hts]at e0;refine Ao C2 ?_;simp -implicitDefEqProofs [L.l3,e0,-CW];refine Ao C2 ?_;simp -implicitDefEqProofs
 have hnl:ns.length=(occ raw).length:=by rw[hns',Xe,hsl]
 have rok:=bC hpl hnl (by rw[hns',Xe];omega);have C3:Ctx Xd (G q) _:=(AB.cons (hRn (tn:=tn) (ns:=ns) rok (by rw[htn];exact IsS.mk ns)) .nil).ctx mixed;have L3:=ldM m3;have er:=zB (m:=raw) (tn:=tn) (ns:=ns)
 obtain⟨H4,hH4⟩:∃H4,H4=Xc H3 fn (Br (Bm (HJ ns raw))):=⟨_,rfl⟩
 have s4:AO 5 H3 (.ptr fn 0) (.t (.ag (Bm (HJ ns raw))))=some H4:=by rw[hH4];exact st5 m3 rfl
 have z4:Aj H4 0=some Do:=by rw[hH4,A7,zw (by omega)];exact z3
 have m4:Aj H4 fn=some (Br (Bm (HJ ns raw))):=by rw[hH4,A7,zu rfl,m3];rfl
 have a3:=L3.all;rw[show(T.ag [iv raw.top,iv raw.index,Ba Ar raw.vars,Ba eEC (raw.rels.map EC.of),Ba eQq raw.cons]) = .ag (Bm raw)from rfl]at a3;refine Ao C3 ?_;simp -implicitDefEqProofs [a3,er,s4]
 obtain⟨m,hm⟩:∃m,m=GJ raw seen:=⟨_,rfl⟩
 have hmo:Dz m=[iv (HJ ns raw).top,iv (HJ ns raw).index,ts,Ba eEC ((HJ ns raw).rels.map EC.of),Ba eQq (HJ ns raw).cons]:=by
  rw[hm,hts,hso,hns'];rfl
 obtain⟨H5,hH5⟩:∃H5,H5=Xc H4 fn (Br (Dz m)):=⟨_,rfl⟩
 have s5:AO 1 H4 (.ptr fn 2) (.t ts)=some H5:=by
  rw[hH5,hmo,hts];exact BF (ns:=[.t (slT Ar so)]) m4 rfl rfl (by show 2+1<=5;omega)
 have z5:Aj H5 0=some Do:=by rw[hH5,A7,zw (by omega)];exact z4
 have m5:Aj H5 fn=some (Br (Dz m)):=by rw[hH5,A7,zu rfl,m4];rfl
 refine Ao C3 ?_;simp -implicitDefEqProofs [s5];have C4:Ctx Xd (G q) _:=(AB.cons (Qx (q:=q)) .nil).ctx mixed;rw[<-hm]at hR hsmm;have ec:Kk [.ag (Dz m)]=some (iv (Dl AN m)):=Il _ (R3 m) hsmm;have a5:=(ldM m5).all;rw[show(T.ag [iv m.top,iv m.index,slT Ar m.vars,Ba eEC (m.rels.map EC.of),Ba eQq m.cons]) = .ag (Dz m)from rfl]at a5
 obtain⟨e,he⟩:∃e,e=Dl AN m:=⟨_,rfl⟩
 rw[<-he]at ec hR;by_cases h0:e=0
 .have d1:(e != 0)=false:=by rw[h0];rfl
  rw[zw (λh=>h h0)]at hR;have hR0:R = .tu [.ag (Dz m),iv 0]:=hR;have s6:AO 5 H5 (.ptr 0 0) (.t (.ag (Dz m)))=some (Xc H5 0 (Br (Dz m))):=st5 z5 rfl;have a6:=(ldM (H:=Xc H5 0 (Br (Dz m))) (k:=0) (by rw[A7,zu rfl,z5];rfl)).all;rw[show(T.ag [iv m.top,iv m.index,slT Ar m.vars,Ba eEC (m.rels.map EC.of),Ba eQq m.cons]) = .ag (Dz m)from rfl]at a6;refine Ao C4 ?_;simp -implicitDefEqProofs [a5,ec,d1];refine A8 C4 ?_;simp -implicitDefEqProofs [a5,s6,a6,hR0]
 .have d1:(e != 0)=true:=by rw[bne_iff_ne];exact h0
  rw[zu h0]at hR;have hR0:R = .tu [.ag (Bm mr0),iv e]:=hR;refine Ao C4 ?_;simp -implicitDefEqProofs [a5,ec,d1,FJ,-BU,FK z5,FL z5,hR0]
def mxV (ns:List Int):Int:=ns.foldl max (-1)
theorem O7:∀(l:List Int) (a:Int),(∀x∈l,x<=l.foldl max a)/\a<=l.foldl max a/\(l.foldl max a=a\/l.foldl max a∈l)
 | [],a=>⟨λx hx=>(by cases hx),Int.le_refl _,.inl rfl⟩
 | y::r,a=>by
  rw[List.foldl_cons];obtain⟨h1,h2,h3⟩:=O7 r (max a y);refine⟨λx hx=>?_,by omega,?_⟩
  .rcases Xj.1 hx with rfl | hx
   .omega
   .exact h1 x hx
  .rcases h3 with h3 | h3
   .by_cases h:a<=y
    .right;rw[h3];simp;left;omega
    .left;rw[h3];omega
   .right;simp[h3]
theorem O8 {ns:List Int} (hn:∀x∈ns,0<=x) (hne:ns≠[]):Dx ns=true ↔ (mxV ns<ns.length/\∀i,inR (mxV ns+1).toNat i->i∈ns):=by
 obtain⟨m1,m2,m3⟩:=O7 ns (-1)
 have hmem:mxV ns∈ns:=by
  rcases m3 with h | h
  .exfalso;obtain⟨x,r,rfl⟩:=Yf hne;have h1:=m1 x (by simp);have h2:=hn x (by simp);omega
  .exact h
 have hm0:=hn _ hmem;have hle:∀x∈ns,x<=mxV ns:=m1;have hnd:(Bo [] ns).Nodup:=JM X5
 have hin:∀x,x∈Bo [] ns ↔ x∈ns:=λx=>by rw[IQ];simp
 have hsub:∀{l acc:List Int},(Bo acc l).length<=acc.length+l.length:=by
  intro l
  induction l with
  | nil=>intro acc;simp[Bo]
  | cons x r ih=>
   intro acc;rw[Bo];split
   .have:=ih (acc:=acc);simp only[Xn];omega
   .have:=ih (acc:=acc++[x]);simp only[Xr,Xn,Yg]at this ⊢;omega
 have hlen:=hsub (l:=ns) (acc:=[]);have hcn:Ei ns=(Bo [] ns).length:=rfl;constructor
 .intro h;unfold Dx at h;rw[Xy]at h;have hlt:∀x∈ns,x<(Ei ns:Int):=λx hx=>of_decide_eq_true (h x hx);have hp:=G6 hnd (m:=upN (Ei ns)) (λx hx=>DK.2 ⟨hn x ((hin x).1 hx),hlt x ((hin x).1 hx)⟩) (by rw[Cv];omega);have hmx:=hlt _ hmem;simp only[Yg]at hlen;refine⟨by omega,λi hi=>?_⟩;have h1:=hi.1;have h2:=hi.2;rw[<-hin,hp.mem_iff,DK];omega
 .rintro⟨h1,h2⟩;unfold Dx;rw[Xy];intro x hx;refine zq ?_
  have hp:=G6 (l:=upN (mxV ns+1).toNat) (m:=Bo [] ns) (Ns List.nodup_range λi _ j _ e=>by omega) (λi hi=>(hin i).2 (h2 i (DK.1 hi))) (by
   rw[Cv];have hs:=G6 hnd (m:=Bo [] ns) (λ_ h=>h) (Xi _);by_cases hl:(Bo [] ns).length<=(mxV ns+1).toNat
   .exact hl
   .have:=G6 hnd (m:=upN (mxV ns+1).toNat) (λz hz=>DK.2 ⟨hn z ((hin z).1 hz),by have:=hle z ((hin z).1 hz);omega⟩) (by rw[Cv];omega);have:=this.length_eq
    rw[Cv]at this;omega)
  have:=hp.length_eq;rw[Cv]at this;have:=hle x hx;omega
theorem A0b {ns:List Int} (hn:∀x∈ns,0<=x) (hne:ns≠[]) (h:Dx ns=true):Ei ns=(mxV ns+1).toNat:=by
 obtain⟨h1,h2⟩:=(O8 hn hne).1 h;obtain⟨m1,m2,m3⟩:=O7 ns (-1);have hnd:(Bo [] ns).Nodup:=JM X5
 have hin:∀x,x∈Bo [] ns ↔ x∈ns:=λx=>by rw[IQ];simp
 have hmem:mxV ns∈ns:=by
  rcases m3 with h | h
  .exfalso;obtain⟨x,r,rfl⟩:=Yf hne;have h1:=m1 x (by simp);have h2:=hn x (by simp);omega
  .exact h
 have hm0:=hn _ hmem;unfold Dx at h;rw[Xy]at h;have hlt:=of_decide_eq_true (h _ hmem);by_cases hl:Ei ns=(mxV ns+1).toNat
 .exact hl
 .have:=G6 hnd (m:=upN (mxV ns+1).toNat) (λz hz=>DK.2 ⟨hn z ((hin z).1 hz),by have:z<=mxV ns:=m1 z ((hin z).1 hz);omega⟩) (by rw[Cv];unfold Ei at *;omega);have:=this.length_eq;rw[Cv]at this;exact this
theorem A0c:∀{l:List Vr} {n:Int} {k:Nat},plc n 0 (l.map nmV)=(k:Int)->∃v,l[k]?=some v/\Bx l n=v.sort:=by
 have key:∀(l:List Vr) (n:Int) (i k:Nat),plc n i (l.map nmV)=(k:Int)->∃v,l[k-i]?=some v/\Bx l n=v.sort:=by
  intro l
  induction l with
  | nil=>intro n i k h;rw[X0,plc]at h;omega
  | cons x r ih=>
   intro n i k h;rw[Xt,plc]at h;by_cases e:nmV x=n
   .rw[zu e]at h
    have:i=k:=by omega
    subst this;exact⟨x,by simp,by unfold Bx;rw[Yh,zq e];rfl⟩
   .rw[zw e]at h;obtain⟨v,h1,h2⟩:=ih n (i+1) k h;have:=(P1 h).1;refine⟨v,by rw[show k-i=(k-(i+1))+1 by omega,List.getElem?_cons_succ];exact h1,?_⟩;rw[<-h2];unfold Bx;rw[Yh,zt e]
 intro l n k h;exact key l n 0 k h
def gNr:List T->Option T
 | [.v (.string s)]=>if s.size<=1000000000 then some (Di s.data.toList)else none
 | _=>none
theorem hNr:GOK Xd (G q) 100 gNr:=λargs r hr=>by
 unfold gNr at hr;split at hr
 .rename_i s;split at hr
  .rename_i h;injection hr with hr;subst hr;exact nR s (by omega)
  .cases hr
 .cases hr
theorem A0d {s:ByteArray} (h:s.size<=1000000000):gNr [sv s]=some (Di (wb s)):=zu h
theorem A0e (l:List Int) (x:Int):mxV (l++[x])=max (mxV l) x:=by
 unfold mxV;rw[List.foldl_append];rfl
structure NqC where
 H:Ak
 nx:Nat
 k:Nat
 i:Nat
def SNq (mx:Int) (c:NqC):Am:=⟨[(7,.t (iv (c.i:Int))),(6,.t (iv mx)),(5,.row c.k 0 c.i 1),(1,.ptr 0 0)],c.H,c.nx,99⟩
def nsI (l:List Vr) (i:Nat):List Int:=(l.take i).map nmV
theorem bR {l:List Vr} {i:Nat} {x:Vr} (hx:l[i]?=some x):nsI l (i+1)=nsI l i++[nmV x]:=by
 unfold nsI;rw[Xl,hx];simp
theorem R4 {l:List Vr} {i:Nat} (h:i<=l.length):(nsI l i).length=i:=by
 unfold nsI;rw[Xe,Xv];omega
def bdV (x y:Vr):Bool:=decide (nmV y=nmV x) && !decide (y.sort=x.sort)
def HM (x:Vr) (l:List Vr):Bool:=l.any (bdV x)
theorem A0f (x y:Vr) (r:List Vr):HM x (y::r)=(bdV x y||HM x r):=rfl
theorem A0g {l:List Vr} {i:Nat} {x:Vr} (hx:l[i]?=some x):BX (l.take i) (l.drop i)=(HM x (l.take i)||BX (l.take (i+1)) (l.drop (i+1))):=by
 have hi:=(X1.1 hx).1;rw[Yi hi,(X1.1 hx).2,BX,Xl,hx];rfl
theorem bS (ns:List Int):-1<=mxV ns:=(O7 ns (-1)).2.1
theorem oA {ns:List Int} (hn:∀x∈ns,0<=x) (h:(ns.length:Int)<=mxV ns):Dx ns=false:=by
 by_cases hne:ns=[]
 .subst hne;have:mxV [] = -1:=rfl;rw[this]at h;simp at h
 .cases ho:Dx ns with
  | false=>rfl
  | true=>have:=((O8 hn hne).1 ho).1;omega
theorem oB {ns:List Int} (hn:∀x∈ns,0<=x) {i:Int} (h0:0<=i) (hi:i<=mxV ns) (hni:i∉ns):Dx ns=false:=by
 by_cases hne:ns=[]
 .subst hne;have:mxV [] = -1:=rfl;omega
 .cases ho:Dx ns with
  | false=>rfl
  | true=>exact absurd (((O8 hn hne).1 ho).2 i ⟨h0,by omega⟩) hni
theorem oC {ns:List Int} (hn:∀x∈ns,0<=x) (h:mxV ns<(ns.length:Int)) (ha:∀i:Nat,(i:Int)<=mxV ns->(i:Int)∈ns):Dx ns=true/\(Ei ns:Int)=mxV ns+1:=by
 by_cases hne:ns=[]
 .subst hne;exact⟨rfl,rfl⟩
 .have h1:Dx ns=true:=(O8 hn hne).2 ⟨h,λi hi=>by
   have:=ha i.toNat (by have:=hi.1;have:=hi.2;omega)
   rwa[Int.toNat_of_nonneg hi.1]at this⟩
  have:=A0b hn hne h1;have:=bS ns;exact⟨h1,by omega⟩
structure NrC where
 H:Ak
 nx:Nat
 kv:Nat
 i:Nat
def SNo (mx:Int) (kr n nx:Nat) (H:Ak) (i:Nat):Am:=⟨[(10,.t (iv (i:Int))),(6,.t (iv mx)),(5,.row kr 0 n 1),(1,.ptr 0 0)],H,nx,99⟩
def SNi (mx:Int) (kr n nx:Nat) (H:Ak) (i j:Nat):Am:=⟨[(11,.t (iv (j:Int))),(10,.t (iv (i:Int))),(6,.t (iv mx)),(5,.row kr 0 n 1),(1,.ptr 0 0)],H,nx,99⟩
def SNv (mx:Int) (kr n:Nat) (c:NrC):Am:=⟨[(13,.t (iv (c.i:Int))),(12,.row c.kv 0 c.i 1),(6,.t (iv mx)),(5,.row kr 0 n 1),(1,.ptr 0 0)],c.H,c.nx,99⟩
theorem A0h {s:ByteArray} {i0:Nat} {e:Int} {tS tT:T} {l:List Vr} (hS:IsS Ar tS (l.map Vr.sort)) (hT:IsS Ar tT (l.map Vr.digits)) (hl:l.length<=100000) (hd:∀v∈l,v.digits.size<=1000000000) (hg:∀v∈l,EP v) :
  Bc Xd (G q) 64 [.ag [sv s,iv (i0:Int),iv e,tS,tT]] (· = nbT l):=by
 obtain⟨R,hR⟩:∃R,R=nbT l:=⟨_,rfl⟩
 rw[<-hR];unfold nbT at hR;have lT:=hT.len;rw[Xe]at lT;have hc:Bq (.t (.ag [sv s,iv (i0:Int),iv e,tS,tT]))=some (rqC s i0 e (.t tS) (.t tT)):=rfl
 obtain⟨X,hX⟩:∃X,X=DC s i0 e (.t tS) (.t tT):=⟨_,rfl⟩
 have ld:∀{H:Ak},Aj H 0=some X->LdQ s i0 e (.t tS) (.t tT) H 0:=λh=>ldQ (by rw[h,hX]);refine pV.call rfl ?_;(conv in V4=>cbv);refine Ao An ?_;simp -implicitDefEqProofs [hc]
 obtain⟨H0,hH0⟩:∃H0:Ak,H0=[(1,Row.cells tyI []),(0,X)]:=⟨_,rfl⟩
 have bs0:BB tyI 1 [.int .i64 0] 0 [] 1=some (.row 1 0 0 1,.cells tyI []):=rfl;refine Ao An ?_;simp -implicitDefEqProofs [bs0];refine Ao An ?_;simp -implicitDefEqProofs;refine MC.sub (s':=⟨[(6,.t (iv (-1))),(5,.row 1 0 0 1),(1,.ptr 0 0)],H0,2,99⟩) (by rw[hH0,hX];exact Aw (by simp -implicitDefEqProofs)) rfl ?_;have C:Ctx Xd (G q) _:=(AB.cons (hNr (q:=q)) .nil).ctx mixed;refine AZ (λc:NqC=>⟨[(6,.t (iv (mxV (l.map nmV)))),(5,.row c.k 0 l.length 1),(1,.ptr 0 0)],c.H,c.nx,99⟩) (λc=>Fj l=some (l.map nmV)/\Aj c.H 0=some X/\Aj c.H c.k=some (A5 A6 tyI (l.map nmV))/\0<c.k/\c.k<c.nx) (λ_=>rfl) ?_ ?_
 .refine Ao C ?_;simp -implicitDefEqProofs;refine AY ?_;refine Bj (λc:NqC=>SNq (mxV (nsI l c.i)) c) (λc=>l.length-c.i) (λc=>(∀x∈l.take c.i,(Cl (wb x.digits)).2=0)/\Aj c.H 0=some X/\Aj c.H c.k=some (A5 A6 tyI (nsI l c.i))/\0<c.k/\c.k<c.nx/\c.i<=l.length) ⟨H0,2,1,0⟩ (λ_=>rfl) ⟨by simp,by rw[hH0];rfl,by rw[hH0];rfl,Xk _,Xk _,Xg _⟩ ?_ rfl ?_
  .exact Aw (by simp -implicitDefEqProofs [SNq,mxV,nsI])
  rintro⟨H,nx,k,i⟩ ⟨ha,hx0,hr,k0,kn,hi⟩;simp only at ha hx0 hr k0 kn hi;have L:=ld hx0;by_cases hlt:i<l.length
  rotate_left
  .have ei:i=l.length:=by omega
   subst ei
   have e2:nsI l l.length=l.map nmV:=by unfold nsI;rw[Xp]
   rw[e2]at hr;refine Ao C ?_;simp -implicitDefEqProofs [SNq,L.l4,lT];exact A4.mk ⟨H,nx,k,0⟩ ⟨bE ha,hx0,hr,k0,kn⟩ (Aw (by simp -implicitDefEqProofs [e2]))
  obtain⟨x,hx⟩:∃x,l[i]?=some x:=⟨_,Xh hlt⟩
  have hxd:(l.map Vr.digits)[i]?=some x.digits:=by rw[Xm,hx];rfl
  have i1:=hT.iaddr hxd .i64;rw[show Ar.z=1 from rfl,show Ar.enc x.digits=[sv x.digits]from rfl]at i1;have e1:=A0d (hd x (Xq hx));have en:Di (wb x.digits) = .tu [iv (nmV x),iv (Cl (wb x.digits)).2]:=rfl;rw[en]at e1;have w1:=HL i (by omega);obtain⟨Ha,aa,ba,ca,_⟩:=LS (by':=8) (nx:=nx) (nmV x) 1 rfl [.t (iv (nmV x))] rfl i (R4 hi).symm hr kn (by rw[R4 hi];omega) (by rw[R4 hi];omega);rw[<-bR hx]at ba;have bsl:BB tyI 1 [.int .i64 0] 1 [(0,.t (iv (nmV x)))] nx=some (.row nx 0 1 1,.cells tyI [.t (iv (nmV x))]):=rfl
  have mxe:I9 (.t (iv (mxV (nsI l i)))) (.t (iv (nmV x)))=some (.t (iv (mxV (nsI l (i+1))))):=by
   rw[bR hx,A0e];show some (PV.t (.v (.int .i64 (if nmV x>mxV (nsI l i)then nmV x else mxV (nsI l i)))))=_;rw[show(if nmV x>mxV (nsI l i)then nmV x else mxV (nsI l i))=max (mxV (nsI l i)) (nmV x)by split<;>omega]
  refine Ao C ?_;simp -implicitDefEqProofs [SNq,L.l4,lT,hlt];refine AZ (λc:NqC=>⟨[(7,.t (iv (i:Int))),(6,.t (iv (mxV (nsI l (i+1))))),(5,.row c.k 0 (i+1) 1),(1,.ptr 0 0)],c.H,c.nx,99⟩) (λc=>(Cl (wb x.digits)).2=0/\Aj c.H 0=some X/\Aj c.H c.k=some (A5 A6 tyI (nsI l (i+1)))/\0<c.k/\c.k<c.nx) (λ_=>rfl) ?_ ?_
  .refine AY ?_;refine Ao C ?_;simp -implicitDefEqProofs [L.l4,i1,lp,e1];by_cases he:(Cl (wb x.digits)).2=0
   .have d1:((Cl (wb x.digits)).2 != 0)=false:=by rw[he];rfl
    refine Ao C ?_;simp -implicitDefEqProofs [d1];refine Ao C ?_;simp -implicitDefEqProofs [bsl,aa];refine A8 C ?_;simp -implicitDefEqProofs [mxe,-I9];exact A4.mk ⟨Ha,nx+2,nx+1,0⟩ ⟨he,by show Aj Ha 0=_;rw[ca 0 (by omega) (by omega)];exact hx0,ba,X3 _,Xk _⟩ (Aw (by simp -implicitDefEqProofs))
   .have d1:((Cl (wb x.digits)).2 != 0)=true:=by rw[bne_iff_ne];exact he
    have hR0:R = .tu [Au,Au,iv 2]:=by rw[hR,bD hx he]
    refine Ao C ?_;simp -implicitDefEqProofs [d1,hR0]
  .rintro⟨Hz,nz,kz,_⟩ ⟨g1,g2,g3,g4,g5⟩;simp only at g1 g2 g3 g4 g5;refine A8 C ?_;simp -implicitDefEqProofs [w1];refine A4.mk ⟨Hz,nz,kz,i+1⟩ ⟨⟨λy hy=>?_,g2,g3,g4,g5,hlt⟩,by show l.length-(i+1)<l.length-i;omega⟩ (Aw (by simp -implicitDefEqProofs [SNq]));rw[Xl,hx]at hy;rcases X4.1 hy with h | h
   .exact ha y h
   .have:y=x:=by simpa using h
    rw[this];exact g1
 rintro⟨H,nx,k,_⟩ ⟨hns,x0,hr,k0,kn⟩;simp only at hns x0 hr k0 kn;rw[hns]at hR;simp only at hR
 obtain⟨ns,hns'⟩:∃ns,ns=l.map nmV:=⟨_,rfl⟩
 have hnl:ns.length=l.length:=by rw[hns',Xe]
 rw[<-hns']at hR hr;simp only[<-hns']
 obtain⟨mx,hmx⟩:∃mx,mx=mxV ns:=⟨_,rfl⟩
 rw[<-hmx]
 have hn0:∀x∈ns,0<=x:=λx hx=>by
  rw[hns']at hx;obtain⟨v,hv,rfl⟩:=Xf.1 hx;exact YP (hg v hv)
 have L:=ld x0;have lnr:CV (.row k 0 l.length 1)=some (.t (iv (l.length:Int))):=rfl
 have nsAt:∀{i:Nat} {x:Vr},l[i]?=some x->ns[i]?=some (nmV x):=λ{i x} h=>by rw[hns',Xm,h];rfl
 have soAt:∀{i:Nat} {x:Vr},l[i]?=some x->BN 1 (.t tS) (.t (iv (i:Int)))=some (.t (.pt (sv x.sort::rest Ar (l.map Vr.sort) i))):=λ{i x} h=>hS.iaddr (x:=x.sort) (by rw[Xm,h];rfl) .i64;refine AZ (λ_:Unit=>⟨[(6,.t (iv mx)),(5,.row k 0 l.length 1),(1,.ptr 0 0)],H,nx,99⟩) (λ_=>BX [] l=false) (λ_=>rfl) ?_ ?_
 .refine Ao An ?_;simp -implicitDefEqProofs;refine AY ?_;refine Bj (SNo mx k l.length nx H) (λi=>l.length-i) (λi=>BX [] l=BX (l.take i) (l.drop i)/\i<=l.length) 0 (λ_=>rfl) ⟨rfl,Xg _⟩ ?_ rfl ?_
  .exact Aw (by simp -implicitDefEqProofs [SNo])
  rintro i ⟨hm,hi⟩;by_cases hlt:i<l.length
  rotate_left
  .have ei:i=l.length:=by omega
   rw[ei,List.drop_length,BX]at hm;refine Ao An ?_;simp -implicitDefEqProofs [SNo,lnr,hlt];exact A4.mk () hm (Aw (by simp -implicitDefEqProofs))
  obtain⟨x,hx⟩:∃x,l[i]?=some x:=⟨_,Xh hlt⟩
  rw[A0g hx]at hm;have w1:=HL i (by omega);have ii:BN 1 (.row k 0 l.length 1) (.t (iv (i:Int)))=some (.ptr k i):=FC _ _ _ hlt;have li:=GD hr (nsAt hx) (c:=iv (nmV x)) rfl rfl;have si:=soAt hx;refine Ao An ?_;simp -implicitDefEqProofs [SNo,lnr,hlt];refine AZ (λ_:Unit=>SNo mx k l.length nx H i) (λ_=>HM x (l.take i)=false) (λ_=>rfl) ?_ ?_
  .refine AY ?_;refine Ao An ?_;simp -implicitDefEqProofs;refine AY ?_;refine Bj (SNi mx k l.length nx H i) (λj=>i-j) (λj=>HM x (l.take i)=HM x ((l.take i).drop j)/\j<=i) 0 (λ_=>rfl) ⟨rfl,Xg _⟩ ?_ rfl ?_
   .exact Aw (by simp -implicitDefEqProofs [SNi])
   rintro j ⟨hj,hji⟩;by_cases hlj:j<i
   rotate_left
   .have ej:j=i:=by omega
    rw[ej,List.drop_of_length_le (by rw[Xv];omega)]at hj;have hj2:HM x (l.take i)=false:=hj;refine Ao An ?_;simp -implicitDefEqProofs [SNi,hlj];exact A4.mk () hj2 (Aw (by simp -implicitDefEqProofs [SNo]))
   obtain⟨y,hy⟩:∃y,l[j]?=some y:=⟨_,Xh (by omega)⟩
   have hty:(l.take i)[j]?=some y:=by rw[List.getElem?_take_of_lt hlj];exact hy
   have hjl:=(X1.1 hty).1;rw[Yi hjl,(X1.1 hty).2,A0f]at hj;have w2:=HL j (by omega);have ij:BN 1 (.row k 0 l.length 1) (.t (iv (j:Int)))=some (.ptr k j):=FC _ _ _ (by omega);have lj:=GD hr (nsAt hy) (c:=iv (nmV y)) rfl rfl;have sj:=soAt hy
   have stay:bdV x y=false->HM x (l.take i)=HM x ((l.take i).drop (j+1))/\j+1<=i:=λh=>by
    rw[h,Yj]at hj;exact⟨hj,hlj⟩
   refine Ao An ?_;simp -implicitDefEqProofs [SNi,hlj];by_cases g1:nmV y=nmV x
   .have d1:(nmV y==nmV x)=true:=by rw[g1];exact beq_self_eq_true _
    by_cases g2:y.sort=x.sort
    .have d2:(y.sort.toList==x.sort.toList)=true:=by rw[g2];exact beq_self_eq_true _
     have hb:bdV x y=false:=by unfold bdV;rw[zq g2,Bool.not_true,Bool.and_false]
     refine Ao An ?_;simp -implicitDefEqProofs [ij,ii,lj,li,d1,L.l3,sj,si,lp,d2];refine A8 An ?_;simp -implicitDefEqProofs [w2];exact A4.mk (j+1) ⟨stay hb,by show i-(j+1)<i-j;omega⟩ (Aw (by simp -implicitDefEqProofs [SNi]))
    .have d2:(y.sort.toList==x.sort.toList)=false:=by
      rw[zp];exact λe=>g2 (Ya e)
     have hb:bdV x y=true:=by unfold bdV;rw[zq g1,zt g2];rfl
     rw[hb,Yk]at hj;rw[hj,Yk]at hm
     have hR0:R = .tu [Au,Au,iv 17]:=by rw[hR,zu hm]
     refine Ao An ?_;simp -implicitDefEqProofs [ij,ii,lj,li,d1,L.l3,sj,si,lp,d2,hR0]
   .have d1:(nmV y==nmV x)=false:=by rw[zp];exact g1
    have hb:bdV x y=false:=by unfold bdV;rw[zt g1];rfl
    refine Ao An ?_;simp -implicitDefEqProofs [ij,ii,lj,li,d1];refine A8 An ?_;simp -implicitDefEqProofs [w2];exact A4.mk (j+1) ⟨stay hb,by show i-(j+1)<i-j;omega⟩ (Aw (by simp -implicitDefEqProofs [SNi]))
  .rintro _ hj;rw[hj,Yj]at hm;refine A8 An ?_;simp -implicitDefEqProofs [SNo,w1];exact A4.mk (i+1) ⟨⟨hm,hlt⟩,by show l.length-(i+1)<l.length-i;omega⟩ (Aw (by simp -implicitDefEqProofs [SNo]))
 rintro _ hmis;rw[hmis]at hR;simp only[Xx,if_false]at hR;by_cases hbig:(l.length:Int)<=mx
 .have d1:decide ((l.length:Int)<=mx)=true:=zq hbig;have hor:Dx ns=false:=oA hn0 (by rw[hnl,<-hmx];exact hbig)
  have hR0:R = .tu [Au,Au,iv 3]:=by rw[hR,zu hor]
  refine Ao An ?_;simp -implicitDefEqProofs [lnr,d1,hbig,hR0]
 have d1:decide ((l.length:Int)<=mx)=false:=zt hbig;refine Ao An ?_;simp -implicitDefEqProofs [lnr,d1,hbig];have bsS:BB tyS 1 [.string ⟨#[]⟩] 0 [] nx=some (.row nx 0 0 1,.cells tyS []):=rfl
 obtain⟨H1,hH1⟩:∃H1:Ak,H1=(nx,Row.cells tyS [])::H:=⟨_,rfl⟩
 refine Ao An ?_;simp -implicitDefEqProofs [bsS];refine MC.sub (s':=⟨[(12,.row nx 0 0 1),(6,.t (iv mx)),(5,.row k 0 l.length 1),(1,.ptr 0 0)],H1,nx+1,99⟩) (by rw[hH1];exact Aw (by simp -implicitDefEqProofs)) rfl ?_;have CP:Ctx Xd (G q) _:=(AB.cons (hPl (q:=q)) .nil).ctx mixed;refine AZ (λc:NrC=>⟨[(12,.row c.kv 0 c.i 1),(5,.row k 0 l.length 1)],c.H,c.nx,99⟩) (λc=>(c.i:Int)=mx+1/\(∀j:Nat,j<c.i->(j:Int)∈ns)/\Aj c.H k=some (A5 A6 tyI ns)/\Aj c.H c.kv=some (A5 Ar tyS ((upN c.i).map (Bx l)))) (λ_=>rfl) ?_ ?_
 .refine Ao CP ?_;simp -implicitDefEqProofs;refine AY ?_
  refine Bj (SNv mx k l.length) (λc=>(mx+1).toNat-c.i) (λc=>(c.i:Int)<=mx+1/\(∀j:Nat,j<c.i->(j:Int)∈ns)/\Aj c.H 0=some X/\Aj c.H k=some (A5 A6 tyI ns)/\Aj c.H c.kv=some (A5 Ar tyS ((upN c.i).map (Bx l)))/\c.kv≠k/\0<c.kv/\c.kv<c.nx/\k<c.nx) ⟨H1,nx+1,nx,0⟩ (λ_=>rfl)
   ⟨by have:=bS ns;show((0:Nat):Int)<=mx+1;omega,λj hj=>absurd hj (Nat.not_lt_zero j),by rw[hH1,A9,zw (by omega)];exact x0,by rw[hH1,A9,zw (by omega)];exact hr,by rw[hH1,A9,zu rfl];rfl,by show nx≠k;omega,by show 0<nx;omega,Xk _,by show k<nx+1;omega⟩ ?_ rfl ?_
  .exact Aw (by simp -implicitDefEqProofs [SNv])
  rintro⟨Ha,na,kv,i⟩ ⟨hle,hall,hx0,hrk,hrv,hvk,hv0,hvn,hkn⟩;simp only at hle hall hx0 hrk hrv hvk hv0 hvn hkn;have La:=ld hx0;by_cases hlt:(i:Int)<=mx
  rotate_left
  .have d2:decide ((i:Int)<=mx)=false:=zt hlt;refine Ao CP ?_;simp -implicitDefEqProofs [SNv,d2,hlt];exact A4.mk ⟨Ha,na,kv,i⟩ ⟨by show(i:Int)=mx+1;omega,hall,hrk,hrv⟩ (Aw (by simp -implicitDefEqProofs))
  have d2:decide ((i:Int)<=mx)=true:=zq hlt
  have tts:Bn Ha [.row k 0 l.length 1,.t (iv (i:Int))]=some ([slT A6 ns,iv (i:Int)],[k]++([]++[])):=by
   have:=DN hrk;rw[hnl]at this;exact Ew this (Ew (F:=[]) rfl rfl)
  have epl:=V8 (i:Int) (IsS.mk (e:=A6) ns) (by omega)
  have ev:∀n,A0 (orc [(41,gPl)]) Ha n (.call 41) [.row k 0 l.length 1,.t (iv (i:Int))]=some (.t (iv (plc (i:Int) 0 ns)),Ha,n):=λn=>by
   rw[CW,tts];simp[epl,De]
  have w1:Xo.wrap ((i:Int)+1)=((i+1:Nat):Int):=HL i (by omega);refine Ao CP ?_;simp -implicitDefEqProofs [SNv,d2,hlt];refine AZ (λc:NrC=>⟨[(13,.t (iv (i:Int))),(12,.row c.kv 0 (i+1) 1),(6,.t (iv mx)),(5,.row k 0 l.length 1),(1,.ptr 0 0)],c.H,c.nx,99⟩) (λc=>(i:Int)∈ns/\Aj c.H 0=some X/\Aj c.H k=some (A5 A6 tyI ns)/\Aj c.H c.kv=some (A5 Ar tyS ((upN (i+1)).map (Bx l)))/\c.kv≠k/\0<c.kv/\c.kv<c.nx/\k<c.nx) (λ_=>rfl) ?_ ?_
  .refine AY ?_;refine Ao CP ?_;simp -implicitDefEqProofs [ev,-CW];by_cases hm:(i:Int)∈ns
   .obtain⟨kk,hkk,_,_⟩:=Np (i:=0) hm;rw[hkk];rw[hns']at hkk;obtain⟨v,hv,hsv⟩:=A0c hkk;have d3:decide ((kk:Int)<0)=false:=zt (by omega);have si:=soAt hv;have hul:(upN i).length=i:=Cv i;obtain⟨Hb,ab,bb,cb,_⟩:=LS (by':=16) (nx:=na) v.sort 1 rfl [.t (sv v.sort)] rfl i (by rw[Xe,hul]) hrv hvn (by rw[Xe,hul];omega) (by rw[Xe,hul];omega);rw[<-hsv,show(upN i).map (Bx l)++[Bx l (i:Int)]=(upN (i+1)).map (Bx l)by rw[TQ];simp]at bb;have bsl:BB tyS 1 [.string ⟨#[]⟩] 1 [(0,.t (sv v.sort))] na=some (.row na 0 1 1,.cells tyS [.t (sv v.sort)]):=rfl;refine Ao CP ?_;simp -implicitDefEqProofs [d3];refine A8 CP ?_;simp -implicitDefEqProofs [La.l3,si,lp,bsl,ab];exact A4.mk ⟨Hb,na+2,na+1,0⟩ ⟨hm,by show Aj Hb 0=_;rw[cb 0 (by omega) (by omega)];exact hx0,by show Aj Hb k=_;rw[cb k (by omega) (by omega)];exact hrk,bb,by show na+1≠k;omega,X3 _,Xk _,by show k<na+2;omega⟩ (Aw (by simp -implicitDefEqProofs))
   .have hor:Dx ns=false:=oB hn0 (by omega) (by rw[<-hmx];exact hlt) hm
    have hR0:R = .tu [Au,Au,iv 3]:=by rw[hR,zu hor]
    rw[Nq hm];refine Ao CP ?_;simp -implicitDefEqProofs [hR0]
  .rintro⟨Hz,nz,kz,_⟩ ⟨g1,g2,g3,g4,g5,g6,g7,g8⟩;simp only at g1 g2 g3 g4 g5 g6 g7 g8;refine A8 CP ?_;simp -implicitDefEqProofs [w1];refine A4.mk ⟨Hz,nz,kz,i+1⟩ ⟨⟨by show((i+1:Nat):Int)<=mx+1;omega,λj hj=>?_,g2,g3,g4,g5,g6,g7,g8⟩,by show(mx+1).toNat-(i+1)<(mx+1).toNat-i;omega⟩ (Aw (by simp -implicitDefEqProofs [SNv]));by_cases hji:j<i
   .exact hall j hji
   .have:j=i:=by have:j<i+1:=hj;omega
    rw[this];exact g1
 rintro⟨Ha,na,kv,i⟩ ⟨hle,hall,hrk,hrv⟩;simp only at hle hall hrk hrv;obtain⟨hor,hcn⟩:=oC hn0 (by rw[hnl,<-hmx];omega) (λj hj=>hall j (by rw[<-hmx]at hj;omega));rw[hor]at hR;simp only[Xz,if_false]at hR
 have ei:Ei ns=i:=by rw[<-hmx]at hcn;omega
 rw[ei]at hR
 have t1:toT Ha (.row k 0 l.length 1)=some (slT A6 ns,[k]):=by
  have:=DN hrk;rw[hnl]at this;exact this
 have t2:toT Ha (.row kv 0 i 1)=some (slT Ar ((upN i).map (Bx l)),[kv]):=by
  have:=DN hrv;rw[Xe,Cv]at this;exact this
 have tts:Bn Ha [.row k 0 l.length 1,.row kv 0 i 1,.t (iv 0)]=some ([slT A6 ns,slT Ar ((upN i).map (Bx l)),iv 0],[k]++([kv]++([]++[]))):=by
  simp only[Bn,t1,t2];rfl
 refine Ao An ?_;simp -implicitDefEqProofs;refine A8 An ?_;simp -implicitDefEqProofs [tts,-Bn,hR]
section
variable {s : ByteArray} {ks kt i k0 : Nat} {r : Rs} {H : Ak} {n : Nat}
theorem Kq.c {ks' kt':Nat} {H':Ak} {n':Nat} (h:Kq ks kt H n ks' kt' H' n'):KqC ks kt H n ks' kt' H' n':=⟨λc x h1 h2 h3 h4 _=>(h.k c h1 h2 h3).trans h4,h.n,h.fr,h.s,h.t⟩
theorem A0i {m:Nat} (h1:ks<m) (h2:kt<m):DU m (rqR s ks kt i r):=⟨_,_,rfl,λp hp=>by
 simp only[rqC,Xj,Yd,or_false]at hp;rcases hp with rfl | rfl | rfl | rfl | rfl
 .exact .inl ⟨_,rfl⟩
 .exact .inl ⟨_,rfl⟩
 .exact .inl ⟨_,rfl⟩
 .exact Rp _ _ _ h1
 .exact Rp _ _ _ h2⟩
theorem bT (ty:Nat) (cs:List T) (m:Nat):DU m (.cells ty (cs.map .t)):=⟨_,_,rfl,λp hp=>by
 obtain⟨t,_,rfl⟩:=Xf.1 hp
 exact .inl ⟨t,rfl⟩⟩
structure RqK (s:ByteArray) (k0 i:Nat) (r:Rs) (ks kt:Nat) (H:Ak) (n:Nat):Prop where
 S:RqS s ks kt i r H n
 x:Aj H k0=some (rqR s ks kt i r)
 z:Aj H 0=some Do
 k:0<k0
 l:k0<n
 s3:ks≠k0
 s0:ks≠0
 t3:kt≠k0
 t0:kt≠0
def KC (k0 n ks kt:Nat) (H H':Ak):Prop:=∀c x,c<n->c≠k0->c≠ks->c≠kt->Aj H c=some x->DU n x->Aj H' c=some x
theorem RqK.all (J:RqK s k0 i r ks kt H n):AD true 5 H (.ptr k0 0)=some (rqP s ks kt i r):=(ldQ J.x).all
theorem RqK.set (J:RqK s k0 i r ks kt H n) {ks' kt' i' n':Nat} {r':Rs} {H':Ak} (S:RqS s ks' kt' i' r' H' n') (K:KqC ks kt H n ks' kt' H' n') :
  ∃H'',AO 5 H' (.ptr k0 0) (rqP s ks' kt' i' r')=some H''/\RqK s k0 i' r' ks' kt' H'' n'/\n<=n'/\KC k0 n ks kt H H''/\∀c,c≠k0->Aj H'' c=Aj H' c:=by
 have a1:=J.k;have a2:=J.l;have a3:=J.s3;have a4:=J.s0;have a5:=J.t3;have a6:=J.t0;have b1:=K.n;have b2:=K.s;have b3:=K.t;have x0:Aj H' k0=some (rqR s ks kt i r):=K.k k0 _ a2 a3.symm a5.symm J.x (A0i J.S.ls J.S.lt);have z0:Aj H' 0=some Do:=K.k 0 _ (by omega) a4.symm a6.symm J.z (bT Ct [iv 0,iv 0,Au,Au,Au] n);refine⟨_,Ms x0 rfl s ks' kt' i' r',⟨S.upd' (by omega) (by omega) _,?_,?_,a1,by omega,by omega,by omega,by omega,by omega⟩,b1,λc x h1 h2 h3 h4 h5 h6=>?_,λc h=>by rw[A7,zw h]⟩
 .rw[A7,zu rfl,x0];rfl
 .rw[A7,zw (by omega)];exact z0
 .rw[A7,zw h2];exact K.k c x h1 h3 h4 h5 h6
theorem R5 (J:RqK s k0 i r ks kt H n) {t:ByteArray} (ht:t.size<=1000) (hs:s.size<=1000000000):∃i' H' n' tb H'',tb [rqP s ks kt i r,.t (sv t)] H n=some (rqP s ks kt i' (AC (wb t) r),H',n')/\HOK Xd (G q) 60 tb /\
  AO 5 H' (.ptr k0 0) (rqP s ks kt i' (AC (wb t) r))=some H''/\RqK s k0 i' (AC (wb t) r) ks kt H'' n'/\n<=n'/\KC k0 n ks kt H H'':=by
 obtain⟨H',i',n',tb,S,K,t1,t2⟩:=Rj (q:=q) J.S ht hs;obtain⟨H'',s1,J1,o1,o2,_⟩:=J.set S (K.kq ks kt).c;exact⟨i',H',n',tb,H'',t1,t2,s1,J1,o1,o2⟩
theorem bU (J:RqK s k0 i r ks kt H n) (hs:s.size<=1000000000) (hmu:muR r<=1000000000):∃i' ks' kt' H' n' tb H'',tb [rqP s ks kt i r] H n=some (BD (rqP s ks' kt' i' (AW r).1) (.t (iv (AW r).2)),H',n')/\HOK Xd (G q) 59 tb /\
  AO 5 H' (.ptr k0 0) (rqP s ks' kt' i' (AW r).1)=some H''/\RqK s k0 i' (AW r).1 ks' kt' H'' n'/\n<=n'/\KC k0 n ks kt H H'':=by
 obtain⟨H',ks',kt',i',n',tb,S,K,t1,t2⟩:=aD (q:=q) J.S hs hmu;obtain⟨H'',s1,J1,o1,o2,_⟩:=J.set S K.c;exact⟨i',ks',kt',H',n',tb,H'',t1,t2,s1,J1,o1,o2⟩
theorem A0j (J:RqK s k0 i r ks kt H n):∃H' n' tb H'',tb [rqP s ks kt i r] H n=some (rqP s ks kt i (Be r),H',n')/\HOK Xd (G q) 63 tb /\
  AO 5 H' (.ptr k0 0) (rqP s ks kt i (Be r))=some H''/\RqK s k0 i (Be r) ks kt H'' n'/\n<=n'/\KC k0 n ks kt H H'':=by
 obtain⟨H',n',tb,K,t1,t2⟩:=Mt (q:=q) J.S;obtain⟨H'',s1,J1,o1,o2,_⟩:=J.set (J.S.fail.kp K) (K.kq ks kt).c;exact⟨H',n',tb,H'',t1,t2,s1,J1,o1,o2⟩
theorem A0k (J:RqK s k0 i r ks kt H n) (hs:s.size<=1000000000) (hmu:muR r<=1000000000) {k:Nat} (hn:r.rest.length<k) (hn2:k<=1000000000):∃i' ks' kt' ko L H' n' tb H'',tb [rqP s ks kt i r] H n=some (BD (rqP s ks' kt' i' (Gj k k r).1) (.row ko 0 L.length 3),H',n')/\HOK Xd (G q) 61 tb /\
  AO 5 H' (.ptr k0 0) (rqP s ks' kt' i' (Gj k k r).1)=some H''/\RqK s k0 i' (Gj k k r).1 ks' kt' H'' n'/\n<=n'/\KC k0 n ks kt H H''/\Aj H'' ko=some (A5 eEC AH L)/\L.map EC.x=(Gj k k r).2/\n<=ko/\ko<n'/\ko≠ks'/\ko≠kt':=by
 obtain⟨⟨fr,fH,fn⟩,⟨i',ks',kt',ko,L,hr,S,K,o,oL,o1,o2,o3,o4⟩,hc⟩:=yP (q:=q) J.S hs hmu hn hn2;simp only at hr S K o o1 o2 o3 o4 hc;subst hr;obtain⟨tb,t1,t2⟩:=hAt hc K.fr;obtain⟨H'',s1,J1,w0,w1,w2⟩:=J.set S K;have:=J.l;exact⟨i',ks',kt',ko,L,fH,fn,tb,H'',t1,t2,s1,J1,w0,w1,by rw[w2 ko (by omega)];exact o,oL,o1,o2,o3,o4⟩
theorem A0l (J:RqK s k0 i r ks kt H n) (hs:s.size<=1000000000) (hmu:muR r<=1000000000) {k:Nat} (hn:r.rest.length<k) (hn2:k<=1000000000):∃i' ks' kt' ko H' n' tb H'',tb [rqP s ks kt i r] H n=some (BD (rqP s ks' kt' i' (FH k r).1) (.row ko 0 (FH k r).2.length 2),H',n')/\HOK Xd (G q) 62 tb /\
  AO 5 H' (.ptr k0 0) (rqP s ks' kt' i' (FH k r).1)=some H''/\RqK s k0 i' (FH k r).1 ks' kt' H'' n'/\n<=n'/\KC k0 n ks kt H H''/\Aj H'' ko=some (A5 eQq B0 (FH k r).2)/\n<=ko/\ko<n'/\ko≠ks'/\ko≠kt'/\(ks'=ks\/n<=ks')/\(kt'=kt\/n<=kt'):=by
 obtain⟨⟨fr,fH,fn⟩,⟨i',ks',kt',ko,hr,S,K,o,o1,o2,o3,o4⟩,hc⟩:=yR (q:=q) J.S hs hmu hn hn2;simp only at hr S K o o1 o2 o3 o4 hc;subst hr;obtain⟨tb,t1,t2⟩:=hAt hc K.fr;obtain⟨H'',s1,J1,w0,w1,w2⟩:=J.set S K.c;have:=J.l;exact⟨i',ks',kt',ko,fH,fn,tb,H'',t1,t2,s1,J1,w0,w1,by rw[w2 ko (by omega)];exact o,o1,o2,o3,o4,K.s,K.t⟩
theorem RqK.frz (J:RqK s k0 i r ks kt H n) {F:List Nat} (hF:∀c∈F,c≠0/\c≠k0/\c≠ks/\c≠kt):RqK s k0 i r ks kt (Cg H F) n:=by
 have f0:0∉F:=λh=>(hF _ h).1 rfl;have fk:k0∉F:=λh=>(hF _ h).2.1 rfl;have fs:ks∉F:=λh=>(hF _ h).2.2.1 rfl;have ft:kt∉F:=λh=>(hF _ h).2.2.2 rfl;refine⟨⟨J.S.vs.frz fs,J.S.vt.frz ft,J.S.rest,J.S.hi,J.S.ls,J.S.lt,J.S.ne⟩,?_,?_,J.k,J.l,J.s3,J.s0,J.t3,J.t0⟩
 .rw[BQ fk J.x];show some (Row.cells Jo [.t (sv s),.t (iv (i:Int)),.t (iv r.e),BO H F (Ax Ar ks (soL r)),BO H F (Ax Ar kt (diL r))])=_;rw[Gb J.S.vs fs,Gb J.S.vt ft];rfl
 .rw[BQ f0 J.z];rfl
theorem RqK.cons (J:RqK s k0 i r ks kt H n) (x:Row):RqK s k0 i r ks kt ((n,x)::H) (n+1):=by
 have:=J.l;exact⟨J.S.kp (Kp.refl.cons x),by rw[A9,zw (by omega)];exact J.x,by rw[A9,zw (by omega)];exact J.z,J.k,by omega,J.s3,J.s0,J.t3,J.t0⟩
end
def GM (t i:Int) (ts:T) (u v:PV):Row:=.cells Ct [.t (iv t),.t (iv i),.t ts,u,v]
structure OuR (t i:Int) (ts:T) (MR:Row) (km ko:Nat) (RL:List EC) (CL:List Qq) (H:Ak) (nx br bc:Nat):Prop where
 z:Aj H 0=some Do
 m:Aj H km=some MR
 ob:Aj H ko=some (GM t i ts (Ax eEC br RL) (Ax eQq bc CL))
 rr:AK eEC AH H br RL
 rc:AK eQq B0 H bc CL
 k0:0<km
 kk:km<ko
 r1:ko<br
 r2:br<nx
 c1:ko<bc
 c2:bc<nx
 ne:br≠bc
section
variable {t i : Int} {ts : T} {MR : Row} {km ko : Nat} {RL RL' : List EC} {CL CL' : List Qq} {H H' : Ak} {nx nx' br bc br' bc' : Nat}
theorem OuR.put (h:OuR t i ts MR km ko RL CL H nx br bc) (hk:∀c,c<nx->c≠ko->c≠br->c≠bc->Aj H' c=Aj H c) (ho:Aj H' ko=some (GM t i ts (Ax eEC br' RL') (Ax eQq bc' CL')))
  (hr:AK eEC AH H' br' RL') (hc:AK eQq B0 H' bc' CL') (r1:ko<br') (r2:br'<nx') (c1:ko<bc') (c2:bc'<nx') (ne:br'≠bc'):OuR t i ts MR km ko RL' CL' H' nx' br' bc':=by
 have a:=h.k0;have b:=h.kk;have c:=h.r1;have d:=h.r2;have e:=h.c1;exact⟨by rw[hk 0 (by omega) (by omega) (by omega) (by omega)];exact h.z,by rw[hk km (by omega) (by omega) (by omega) (by omega)];exact h.m,ho,hr,hc,a,b,r1,r2,c1,c2,ne⟩
theorem OuR.more (h:OuR t i ts MR km ko RL CL H nx br bc) (hn:nx<=nx') (hk:∀c,c<nx->Aj H' c=Aj H c):OuR t i ts MR km ko RL CL H' nx' br bc:=by
 have c:=h.r1;have d:=h.r2;have e:=h.c1;have f:=h.c2;exact h.put (λc hc _ _ _=>hk c hc) (by rw[hk ko (by omega)];exact h.ob) (h.rr.imp id λe=>by rw[hk br (by omega)];exact e) (h.rc.imp id λe=>by rw[hk bc (by omega)];exact e) c (by omega) e (by omega) h.ne
theorem OuR.frz {cs:List T} (hM:MR = .cells Ct (cs.map .t)) (h:OuR t i ts MR km ko RL CL H nx br bc) {F:List Nat} (hF:∀c∈F,ko<c/\c≠br/\c≠bc):OuR t i ts MR km ko RL CL (Cg H F) nx br bc:=by
 have a:=h.k0;have b:=h.kk
 have n:∀c,c<=ko->c∉F:=λc hc hm=>by have:=(hF c hm).1;omega
 have nr:br∉F:=λhm=>(hF _ hm).2.1 rfl;have nc:bc∉F:=λhm=>(hF _ hm).2.2 rfl;refine⟨?_,?_,?_,h.rr.frz nr,h.rc.frz nc,a,b,h.r1,h.r2,h.c1,h.c2,h.ne⟩
 .rw[BQ (n 0 (by omega)) h.z];rfl
 .rw[BQ (n km (by omega)) h.m,hM,Oe]
 .rw[BQ (n ko (by omega)) h.ob];simp only[E5,GM,Xt,X0,EA,Gb h.rr nr,Gb h.rc nc]
end
def CS (g:Int->Int) (l:List Ep) (i:Nat):List EC:=(l.take i).map λx=>EC.of (Bu g x)
theorem A0m {g:Int->Int} {l:List Ep} {i:Nat} {x:Ep} (h:l[i]?=some x):CS g l (i+1)=CS g l i++[EC.of (Bu g x)]:=by
 unfold CS;rw[Xl,h];simp
def DI (g:Int->Int) (l:List Qq) (i:Nat):List Qq:=(l.take i).map (Bv g)
theorem A0n {g:Int->Int} {l:List Qq} {i:Nat} {c:Qq} (h:l[i]?=some c):DI g l (i+1)=DI g l i++[Bv g c]:=by
 unfold DI;rw[Xl,h];simp
def agG (g:Int->Int) (x:Ep) (j:Nat):List Ag:=(x.args.take j).map λa=>⟨a.role,g a.var⟩
theorem bV {g:Int->Int} {x:Ep} {j:Nat} {a:Ag} (h:x.args[j]?=some a):agG g x (j+1)=agG g x j++[⟨a.role,g a.var⟩]:=by
 unfold agG;rw[Xl,h];simp
structure OuY (t i:Int) (ts:T) (MR:Row) (km ko:Nat) (RL:List EC) (g:Int->Int) (x:Ep) (j:Nat) (H:Ak) (nx br bc ky ba:Nat):Prop where
 r:OuR t i ts MR km ko RL [] H nx br bc
 y:Aj H ky=some (.cells AH [.t (sv x.pred),.t (iv (g x.label)),Ax eAg ba (agG g x j)])
 ra:AK eAg tyA H ba (agG g x j)
 y1:ko<ky
 y2:ky<nx
 a1:ko<ba
 a2:ba<nx
 yr:ky≠br
 yc:ky≠bc
 ar:ba≠br
 ac:ba≠bc
 ya:ky≠ba
structure OuA where
 H:Ak
 nx:Nat
 br:Nat
 bc:Nat
 i:Nat
structure OuB where
 H:Ak
 nx:Nat
 br:Nat
 bc:Nat
 ky:Nat
 ba:Nat
 j:Nat
def SOr (tn:T) (km ko:Nat) (a:OuA):Am:=⟨[(14,.t (iv (a.i:Int))),(13,.ptr ko 0),(10,.t tn),(9,.ptr km 0),(2,.ptr 0 0),(3,.t (iv 0))],a.H,a.nx,205⟩
def SOc (tn:T) (km ko:Nat) (a:OuA):Am:=⟨[(17,.t (iv (a.i:Int))),(13,.ptr ko 0),(10,.t tn),(9,.ptr km 0),(2,.ptr 0 0),(3,.t (iv 0))],a.H,a.nx,205⟩
def SOy (tn:T) (km ko i:Nat) (a:OuB):Am:=⟨[(16,.t (iv (a.j:Int))),(15,.ptr a.ky 0),(14,.t (iv (i:Int))),(13,.ptr ko 0),(10,.t tn),(9,.ptr km 0),(2,.ptr 0 0),(3,.t (iv 0))],a.H,a.nx,205⟩
def SOe (tn:T) (km ko:Nat) (a:OuA):Am:=⟨[(13,.ptr ko 0),(10,.t tn),(9,.ptr km 0),(2,.ptr 0 0),(3,.t (iv 0))],a.H,a.nx,205⟩
theorem bW (k:Nat):∀(n:Nat) (r:Rs) (out:List Ep),(Dv k n r out).1.rest.length<=r.rest.length
 | 0,r,out=>Xi _
 | n+1,r,out=>by
  rw[Dv];split
  .split
   .exact Xs (bW k n _ _) (Xs (DG _ _) (Iu k r))
   .exact Iu k r
  .exact Xi _
theorem bX (k:Nat):∀(n:Nat) (r:Rs) (out:List Ep),muR (Dv k n r out).1<=muR r
 | 0,r,out=>Xi _
 | n+1,r,out=>by
  rw[Dv];split
  .split
   .exact Xs (bX k n _ _) (Xs (CI _ _) (O4 k r))
   .exact O4 k r
  .exact Xi _
theorem A0o (H:Ak) (nx:Nat) (Φ:AP) (p:ByteArray) (l:Int):Bi Φ H nx (.build [(0,1),(1,1),(2,1)] [.string ⟨#[]⟩,.int .i64 0,.slice none 0 0] [0,1]) [.t (sv p),.t (iv l)]=some (.t (.ag [sv p,iv l,Au])):=rfl
theorem A0p (H:Ak) (nx:Nat) (Φ:AP) (p:ByteArray) (l:Int):Bi Φ H nx (.build [(0,1),(1,1)] [.string ⟨#[]⟩,.int .i64 0] [0,1]) [.t (sv p),.t (iv l)]=some (.t (.ag [sv p,iv l])):=rfl
theorem A0q (H:Ak) (nx:Nat) (Φ:AP) (p l:Int):Bi Φ H nx (.build [(0,1),(1,1)] [.int .i64 0,.int .i64 0] [0,1]) [.t (iv p),.t (iv l)]=some (.t (.ag [iv p,iv l])):=rfl
theorem A0r (Φ:AP) (H:Ak) (nx:Nat) (s:ByteArray):A0 Φ H nx (.build [(0,1),(1,1),(2,1),(3,1),(4,1)] [.string ⟨#[]⟩,.int .i64 0,.int .i64 0,.slice none 0 0,.slice none 0 0] [0]) [.t (sv s)]=some (.t (.ag [sv s,iv 0,iv 0,Au,Au]),H,nx):=rfl
theorem A0s {s:ByteArray} {ks kt i:Nat} {r:Rs} {H:Ak} {nx:Nat} (S:RqS s ks kt i r H nx):∃F,toT H (rqP s ks kt i r)=some (rqT s i r,F)/\∀c∈F,c=ks\/c=kt:=by
 have h1:=S.vs.toT;have h2:=S.vt.toT
 cases hs:r.seen with
 | nil=>exact⟨[],by unfold rqP rqT soL diL;rw[hs];rfl,λc hc=>by cases hc⟩
 | cons a l=>
  have e1:BI (rqC s i r.e (Ax Ar ks (soL r)) (Ax Ar kt (diL r))) = .ag (rqC s i r.e (Ax Ar ks (soL r)) (Ax Ar kt (diL r))):=by
   unfold soL diL;rw[hs];rfl
  have nl:Bn H []=some ([],[]):=rfl;have tt:∀x:T,toT H (.t x)=some (x,[]):=λ_=>rfl;unfold rqP rqT;rw[e1];refine⟨_,aC (Ew (tt _) (Ew (tt _) (Ew (tt _) (Ew h1 (Ew h2 nl))))),λc hc=>?_⟩
  have e2:FU ks (soL r)=[ks]:=by unfold soL;rw[hs];rfl
  have e3:FU kt (diL r)=[kt]:=by unfold diL;rw[hs];rfl
  rw[e2,e3]at hc;simpa using hc
structure A0t where
 H:Ak
 n:Nat
 km:Nat
theorem A0u {s:ByteArray} (hs:s.size<=1000000000) (hsm:SmP s):Bc Xd (G q) 29 [sv s] (· = I5 (DB (wb s))):=by
 obtain⟨R,hR⟩:∃R,R=I5 (DB (wb s)):=⟨_,rfl⟩
 rw[<-hR];have hwl:=Bz s;unfold DB at hR;unfold SmP at hsm;rw[hwl]at hR hsm;obtain⟨pq1,pq2⟩:=tI (n:=s.size+1) (r:=⟨wb s,0,[]⟩) (by show(wb s).length<_;omega);refine pW.call rfl ?_;(conv in V5=>cbv);refine Ao An ?_;simp -implicitDefEqProofs
 obtain⟨Hz,hHz⟩:∃Hz:Ak,Hz=[(0,Do)]:=⟨_,rfl⟩
 have hz0:Aj Hz 0=some Do:=by rw[hHz];rfl
 refine MC.sub (s':=⟨[(3,.t (iv 0)),(2,.ptr 0 0),(0,.t (sv s))],Hz,1,205⟩) (by rw[hHz];exact Aw (by simp -implicitDefEqProofs)) rfl ?_;by_cases hbig:65536<s.size
 .have d0:decide ((65536:Int)<(s.size:Int))=true:=zq (by omega);rw[zu hbig]at hR;have hR0:R = .tu [.ag (Bm mr0),iv 7]:=hR;refine Ao An ?_;simp -implicitDefEqProofs [d0,hbig,FJ,-BU,FK hz0,FL hz0,hR0]
 have d0:decide ((65536:Int)<(s.size:Int))=false:=zt (by omega);rw[zw hbig]at hR;refine Ao An ?_;simp -implicitDefEqProofs [d0,hbig];refine Ao An ?_;simp -implicitDefEqProofs;refine Ao An ?_;simp -implicitDefEqProofs;have bs1:BB AH 3 [.string ⟨#[]⟩,.int .i64 0,.slice none 0 0] 0 [] 1=some (.row 1 0 0 3,.cells AH []):=rfl;have bs2:BB B0 2 [.int .i64 0,.int .i64 0] 0 [] 2=some (.row 2 0 0 2,.cells B0 []):=rfl;refine Ao An ?_;simp -implicitDefEqProofs [bs1];refine Ao An ?_;simp -implicitDefEqProofs [bs2]
 obtain⟨r0,hr0⟩:∃r0:Rs,r0=⟨wb s,0,[]⟩:=⟨_,rfl⟩
 obtain⟨H0,hH0⟩:∃H0:Ak,H0=(3,rqR s 4 5 0 r0)::Hz:=⟨_,rfl⟩
 have s0:∀H,AO 5 ((3,.cells Jo [.t (sv ⟨#[]⟩),.t (iv 0),.t (iv 0),.t Au,.t Au])::H) (.ptr 3 0) (.t (.ag [sv s,iv 0,iv 0,Au,Au]))=some ((3,rqR s 4 5 0 r0)::H):=λH=>by
  have:=Ms (H:=(3,zqR)::H) (k:=3) (x:=zqR) (by rw[A9,zu rfl]) rfl s 4 5 0 r0;rw[show Xc ((3,zqR)::H) 3 (rqR s 4 5 0 r0)=(3,rqR s 4 5 0 r0)::H by simp[Xc]]at this;rw[show rqP s 4 5 0 r0 = .t (.ag [sv s,iv 0,iv 0,Au,Au])by rw[hr0];rfl]at this;exact this
 refine Ao An ?_;simp -implicitDefEqProofs [A0r,s0,-BU];refine MC.sub (s':=⟨[(8,.ptr 3 0),(3,.t (iv 0)),(2,.ptr 0 0),(0,.t (sv s))],H0,4,205⟩) (CN rfl rfl (by simp) (by rw[hH0,hHz];simp[Aj])) rfl ?_;refine MC.sub (EN (nx':=6) (by omega)) rfl ?_
 have J0:RqK s 3 0 r0 4 5 H0 6:=⟨⟨by rw[hr0];exact .inl rfl,by rw[hr0];exact .inl rfl,by rw[hr0];rfl,Xg _,by omega,by omega,by omega⟩,by rw[hH0,A9,zu rfl],by rw[hH0,A9,zw (by omega)];exact hz0,by omega,by omega,by omega,by omega,by omega,by omega⟩
 have mu0:muR r0<=1000000000:=by rw[hr0];unfold muR;show 0+(wb s).length<=_;omega
 have len0:r0.rest.length<s.size+1:=by rw[hr0];show(wb s).length<_;omega
 rw[<-hr0]at pq1 pq2 hR hsm;have hF:Oh (s.size+1) r0=(D4 (FH (s.size+1) (AC [32,123] (Gj (s.size+1) (s.size+1) (BG r0).1).1)).1,⟨(BG r0).2.1,(BG r0).2.2,[],(Gj (s.size+1) (s.size+1) (BG r0).1).2,(FH (s.size+1) (AC [32,123] (Gj (s.size+1) (s.size+1) (BG r0).1).1)).2⟩):=rfl
 obtain⟨K,hK⟩:∃K,K=s.size+1:=⟨_,rfl⟩
 rw[<-hK]at hR hsm pq1 pq2 len0 hF
 have hK2:K<=1000000000:=by omega
 have l0:=J0.all;obtain⟨ja,ka,la,Ha1,na,ta,Ha,ta1,ta2,sa,Ja,nna,_⟩:=bU (q:=q) J0 hs mu0;have mua:=ET r0;have htop:BG r0=(AC [32,123] (AW (AC [32] (AW r0).1)).1,(AW r0).2,(AW (AC [32] (AW r0).1)).2):=rfl;have ltop:=Ou r0
 obtain⟨ra,hra⟩:∃ra,ra=(AW r0).1:=⟨_,rfl⟩
 obtain⟨tp,htp⟩:∃tp,tp=(AW r0).2:=⟨_,rfl⟩
 rw[<-hra]at Ja mua ta1 sa htop;rw[<-htp]at ta1 htop;obtain⟨xa,ya⟩:=Gh (rqP s ka la ja ra) (.t (iv tp));have CA:Ctx Xd (G q) _:=AB.nil.ctxH (AG.cons ta2 .nil) mixed;refine Ao CA ?_;simp -implicitDefEqProofs [l0,ta1,xa,ya,sa,-B5];refine MC.sub (s':=⟨[(4,.t (iv tp)),(8,.ptr 3 0),(3,.t (iv 0)),(2,.ptr 0 0),(0,.t (sv s))],Ha,na,205⟩) (Aw (by simp -implicitDefEqProofs)) rfl ?_;have lla:=Ja.all;obtain⟨jb,Hb1,nb,tb,Hb,tb1,tb2,sb,Jb,nnb,_⟩:=R5 (q:=q) Ja (t:=⟨#[32]⟩) (by decide) hs;have mub:=CI (wb ⟨#[32]⟩) ra;rw[show([32]:List UInt8)=wb ⟨#[32]⟩from rfl]at htop
 obtain⟨rb,hrb⟩:∃rb,rb=AC (wb ⟨#[32]⟩) ra:=⟨_,rfl⟩
 rw[<-hrb]at Jb mub tb1 sb htop;have CB:Ctx Xd (G q) _:=AB.nil.ctxH (AG.cons tb2 .nil) mixed;refine Ao CB ?_;simp -implicitDefEqProofs [lla,tb1,sb];refine MC.sub (s':=⟨[(4,.t (iv tp)),(8,.ptr 3 0),(3,.t (iv 0)),(2,.ptr 0 0),(0,.t (sv s))],Hb,nb,205⟩) (Aw (by simp -implicitDefEqProofs)) rfl ?_;have llb:=Jb.all;obtain⟨jc,kc',lc',Hc1,nc,tc,Hc,tc1,tc2,sc,Jc,nnc,_⟩:=bU (q:=q) Jb hs (by omega);have muc:=ET rb
 obtain⟨rc,hrc⟩:∃rc,rc=(AW rb).1:=⟨_,rfl⟩
 obtain⟨ix,hix⟩:∃ix,ix=(AW rb).2:=⟨_,rfl⟩
 rw[<-hrc]at Jc muc tc1 sc htop;rw[<-hix]at tc1 htop;obtain⟨xc,yc⟩:=Gh (rqP s kc' lc' jc rc) (.t (iv ix));have CC:Ctx Xd (G q) _:=AB.nil.ctxH (AG.cons tc2 .nil) mixed;refine Ao CC ?_;simp -implicitDefEqProofs [llb,tc1,xc,yc,sc,-B5];refine MC.sub (s':=⟨[(5,.t (iv ix)),(4,.t (iv tp)),(8,.ptr 3 0),(3,.t (iv 0)),(2,.ptr 0 0),(0,.t (sv s))],Hc,nc,205⟩) (Aw (by simp -implicitDefEqProofs)) rfl ?_;have llc:=Jc.all;obtain⟨jd,Hd1,nd,td,Hd,td1,td2,sd,Jd,nnd,_⟩:=R5 (q:=q) Jc (t:=⟨#[32,123]⟩) (by decide) hs;have mud:=CI (wb ⟨#[32,123]⟩) rc;rw[show([32,123]:List UInt8)=wb ⟨#[32,123]⟩from rfl]at htop hF
 obtain⟨rd,hrd⟩:∃rd,rd=AC (wb ⟨#[32,123]⟩) rc:=⟨_,rfl⟩
 rw[<-hrd]at Jd mud td1 sd htop;rw[htop]at hF ltop;simp only at hF ltop;have CD:Ctx Xd (G q) _:=AB.nil.ctxH (AG.cons td2 .nil) mixed;refine Ao CD ?_;simp -implicitDefEqProofs [llc,td1,sd];refine MC.sub (s':=⟨[(5,.t (iv ix)),(4,.t (iv tp)),(8,.ptr 3 0),(3,.t (iv 0)),(2,.ptr 0 0),(0,.t (sv s))],Hd,nd,205⟩) (Aw (by simp -implicitDefEqProofs)) rfl ?_;have lld:=Jd.all;obtain⟨je,ke,le,kr,L,He1,ne,te,He,te1,te2,se,Je,nne,_,oL,hL,r1,r2,r3,r4⟩:=A0k (q:=q) Jd hs (by omega) (k:=K) (by omega) hK2
 obtain⟨re,hre⟩:∃re,re=(Gj K K rd).1:=⟨_,rfl⟩
 have lpe:re.rest.length<=rd.rest.length:=by
  rw[hre];exact Xs (DG _ _) (bW K K rd [])
 have mue:muR re<=muR rd:=by
  rw[hre];exact Xs (CI _ _) (bX K K rd [])
 rw[<-hre]at Je te1 se hF;obtain⟨xe,ye⟩:=Gh (rqP s ke le je re) (.row kr 0 L.length 3);have CE:Ctx Xd (G q) _:=AB.nil.ctxH (AG.cons te2 .nil) mixed;refine Ao CE ?_;simp -implicitDefEqProofs [lld,te1,xe,ye,se,-B5];refine MC.sub (s':=⟨[(6,.row kr 0 L.length 3),(5,.t (iv ix)),(4,.t (iv tp)),(8,.ptr 3 0),(3,.t (iv 0)),(2,.ptr 0 0),(0,.t (sv s))],He,ne,205⟩) (Aw (by simp -implicitDefEqProofs)) rfl ?_;have lle:=Je.all;obtain⟨jf,Hf1,nf,tf,Hf,tf1,tf2,sf,Jf,nnf,wf⟩:=R5 (q:=q) Je (t:=⟨#[32,123]⟩) (by decide) hs;have muf:=CI (wb ⟨#[32,123]⟩) re;have lpf:=DG (wb ⟨#[32,123]⟩) re
 obtain⟨rf,hrf⟩:∃rf,rf=AC (wb ⟨#[32,123]⟩) re:=⟨_,rfl⟩
 rw[<-hrf]at Jf muf lpf tf1 sf hF;have CF:Ctx Xd (G q) _:=AB.nil.ctxH (AG.cons tf2 .nil) mixed;refine Ao CF ?_;simp -implicitDefEqProofs [lle,tf1,sf];refine MC.sub (s':=⟨[(6,.row kr 0 L.length 3),(5,.t (iv ix)),(4,.t (iv tp)),(8,.ptr 3 0),(3,.t (iv 0)),(2,.ptr 0 0),(0,.t (sv s))],Hf,nf,205⟩) (Aw (by simp -implicitDefEqProofs)) rfl ?_;have e3:=Je.l;have fL:Aj Hf kr=some (A5 eEC AH L):=wf kr _ (by omega) (by have:=Jd.l;omega) r3 r4 oL (Ro _ _ _ _);have llf:=Jf.all;obtain⟨jg,kg,lg,kc,Hg1,ng,tg,Hg,tg1,tg2,sg,Jg,nng,wg,oC,c1,c2,c3,c4,kgs,kgt⟩:=A0l (q:=q) Jf hs (by omega) (k:=K) (by omega) hK2
 obtain⟨rg,hrg⟩:∃rg,rg=(FH K rf).1:=⟨_,rfl⟩
 obtain⟨cq,hcq⟩:∃cq,cq=(FH K rf).2:=⟨_,rfl⟩
 rw[<-hrg]at Jg tg1 sg hF;rw[<-hcq]at tg1 oC hF
 obtain⟨cn,hcn⟩:∃cn,cn=cq.length:=⟨_,rfl⟩
 rw[<-hcn]at tg1;obtain⟨xg,yg⟩:=Gh (rqP s kg lg jg rg) (.row kc 0 cn 2);have CG:Ctx Xd (G q) _:=AB.nil.ctxH (AG.cons tg2 .nil) mixed;refine Ao CG ?_;simp -implicitDefEqProofs [llf,tg1,xg,yg,sg,-B5];have f3:=Jf.l
 have rks:kr≠ke/\kr≠le:=⟨r3,r4⟩
 have gL:Aj Hg kr=some (A5 eEC AH L):=wg kr _ (by omega) (by have:=Jd.l;omega) r3 r4 fL (Ro _ _ _ _)
 obtain⟨tr,htr⟩:∃tr,tr=slT eEC L:=⟨_,rfl⟩
 obtain⟨tc',htc⟩:∃tc',tc'=slT eQq cq:=⟨_,rfl⟩
 obtain⟨ln,hln⟩:∃ln,ln=L.length:=⟨_,rfl⟩
 have fz1:BO Hg [kr,kc] (.row kr 0 L.length 3) = .t tr:=by rw[htr];exact Rv gL rfl (by simp)
 have fz2:BO Hg [kr,kc] (.row kc 0 cn 2) = .t tc':=by rw[htc];exact Rv oC hcn (by simp)
 have Jh0:=Jg.frz (F:=[kr,kc]) (λc hc=>by
  have:=Jd.l;rcases Xj.1 hc with e | hc
  .subst e;exact⟨by omega,by omega,by omega,by omega⟩
  .rw[X6.1 hc];exact⟨by omega,by omega,c3,c4⟩)
 obtain⟨Hh,hHh⟩:∃Hh,Hh=Cg Hg [kr,kc]:=⟨_,rfl⟩
 rw[<-hHh]at Jh0;refine MC.sub (s':=⟨[(7,.t tc'),(6,.t tr),(5,.t (iv ix)),(4,.t (iv tp)),(8,.ptr 3 0),(3,.t (iv 0)),(2,.ptr 0 0),(0,.t (sv s))],Hh,ng,205⟩) (by rw[hHh];exact F8 [kr,kc] (by simp -implicitDefEqProofs [EA,FA,fz1,fz2])) rfl ?_
 have bdm:∀(Φ:AP) (H:Ak) (nx:Nat),A0 Φ H nx (.build [(0,1),(1,1),(2,1),(3,1),(4,1)] [.int .i64 0,.int .i64 0,.slice none 0 0,.slice none 0 0,.slice none 0 0] [0,1,3,4]) [.t (iv tp),.t (iv ix),.t tr,.t tc']=some (.t (.ag [iv tp,iv ix,Au,tr,tc']),H,nx):=λ_ _ _=>by rw[htr,htc];rfl
 obtain⟨MR,hMR⟩:∃MR,MR=Br [iv tp,iv ix,Au,tr,tc']:=⟨_,rfl⟩
 obtain⟨H1,hH1⟩:∃H1:Ak,H1=(ng,MR)::Hh:=⟨_,rfl⟩
 have s1:AO 5 ((ng,.cells Ct [.t (iv 0),.t (iv 0),.t Au,.t Au,.t Au])::Hh) (.ptr ng 0) (.t (.ag [iv tp,iv ix,Au,tr,tc']))=some H1:=by
  rw[st5 (cs:=[.t (iv 0),.t (iv 0),.t Au,.t Au,.t Au]) (by rw[A9,zu rfl]) rfl,hH1,hMR];simp[Xc]
 have J1:RqK s 3 jg rg kg lg H1 (ng+1):=by rw[hH1];exact Jh0.cons MR
 have m1:Aj H1 ng=some MR:=by rw[hH1,A9,zu rfl]
 refine Ao An ?_;simp -implicitDefEqProofs [bdm,s1,-BU];refine MC.sub (s':=⟨[(9,.ptr ng 0),(8,.ptr 3 0),(3,.t (iv 0)),(2,.ptr 0 0),(0,.t (sv s))],H1,ng+1,205⟩) (Aw (by simp -implicitDefEqProofs)) rfl ?_
 obtain⟨rz,hrz⟩:∃rz,rz=D4 rg:=⟨_,rfl⟩
 obtain⟨raw,hraw⟩:∃raw:Mr,raw=⟨tp,ix,[],L.map EC.x,cq⟩:=⟨_,rfl⟩
 rw[<-hL,<-hrz,<-hraw]at hF;rw[hF]at pq1 pq2;simp only at pq1 pq2
 have rMR:DU (ng+1) MR:=by rw[hMR];exact bT _ _ _
 refine AZ (λc:A0t=>⟨[(9,.ptr ng 0),(8,.ptr 3 0),(3,.t (iv 0)),(2,.ptr 0 0),(0,.t (sv s))],c.H,c.n,205⟩) (λc=>RqK s 3 jg rz kg lg c.H c.n/\Aj c.H ng=some MR/\ng<c.n) (λ_=>rfl) ?_ ?_
 .have Lq:=ldQ J1.x;by_cases he:rg.e=0
  rotate_left
  .have hb:(rg.e==0)=false:=by rw[zp];exact he
   have e1:rz=rg:=by rw[hrz];unfold D4;rw[zw λe=>he e.1]
   refine A8 An ?_;simp -implicitDefEqProofs [Lq.l2,hb];exact A4.mk ⟨H1,ng+1,0⟩ ⟨by rw[e1];exact J1,m1,Xk _⟩ (Aw (by simp -implicitDefEqProofs))
  have hb:(rg.e==0)=true:=by rw[he];rfl
  by_cases hlt:jg<s.size
  .have hd:decide ((jg:Int)<(s.size:Int))=true:=zq (by omega)
   have e1:rz=Be rg:=by rw[hrz];unfold D4;rw[zu ⟨he,λe=>by have:=J1.S.nil.1 e;omega⟩]
   have lg1:=J1.all;obtain⟨Hp1,np,tp',Hp,tp1,tp2,sp,Jp,nnp,wp⟩:=A0j (q:=q) J1;have CP:Ctx Xd (G q) _:=AB.nil.ctxH (AG.cons tp2 .nil) mixed;refine A8 CP ?_;simp -implicitDefEqProofs [Lq.l2,hb,Lq.l1,hd,hlt,lg1,tp1,sp];exact A4.mk ⟨Hp,np,0⟩ ⟨by rw[e1];exact Jp,wp ng MR (Xk _) (by have:=Jg.l;omega) (by have:=Jg.S.ls;omega) (by have:=Jg.S.lt;omega) m1 rMR,by show ng<np;omega⟩ (Aw (by simp -implicitDefEqProofs))
  .have hd:decide ((jg:Int)<(s.size:Int))=false:=zt (by omega)
   have e1:rz=rg:=by rw[hrz];unfold D4;rw[zw λe=>e.2 (J1.S.nil.2 (by omega))]
   refine A8 An ?_;simp -implicitDefEqProofs [Lq.l2,hb,Lq.l1,hd,hlt];exact A4.mk ⟨H1,ng+1,0⟩ ⟨by rw[e1];exact J1,m1,Xk _⟩ (Aw (by simp -implicitDefEqProofs))
 clear J1 m1 hH1 s1;rintro⟨H2,n2,_⟩ ⟨J2,m2,nm2⟩;simp only at J2 m2 nm2;have Lz:=ldQ J2.x;have z2:=J2.z;rw[pq1]at hR;by_cases he:rz.e=0
 rotate_left
 .have hb:(rz.e != 0)=true:=by rw[bne_iff_ne];exact he
  rw[zu he]at hR;have hR0:R = .tu [.ag (Bm mr0),iv rz.e]:=hR;have Ly:=ldQ (H:=Xc H2 0 Do) (k:=3) (by rw[A7,zw (by omega)];exact J2.x);refine Ao An ?_;simp -implicitDefEqProofs [Lz.l2,Ly.l2,hb,FJ,bP,-BU,FK z2,FL z2,hR0]
 have hb:(rz.e != 0)=false:=by rw[he];rfl
 rw[zw (λe=>e he)]at hR
 have heq:(Dn K r0).1.e=0:=by rw[pq1];exact he
 rw[pq2 heq]at hR;refine Ao An ?_;simp -implicitDefEqProofs [Lz.l2,hb];rw[hr0]at heq;obtain⟨m',seen,hEq,hpl,hsl,hgd,hwf,_⟩:=Ov (n:=K) (s:=wb s) (by omega) heq;have hsml:=Rr (n:=K) (s:=wb s);rw[hEq]at hsml;simp only at hsml;rw[<-hr0]at hEq heq;have hsmm:=hsm m' seen hEq
 have hm':m'=raw:=by rw[<-pq2 heq,hEq]
 have hrz2:rz=⟨[],0,seen⟩:=by rw[<-pq1,hEq]
 rw[hm']at hEq hpl hsl hsmm hwf;rw[hrz2]at hR J2;simp only at hR;obtain⟨F,hF2,hF3⟩:=A0s J2.S;have nbc:=A0h (q:=q) (s:=s) (i0:=jg) (e:=0) (IsS.tree Ar (seen.map Vr.sort)) (IsS.tree Ar (seen.map Vr.digits)) (by omega) (λv hv=>by have:=hsml.2 v hv;rw[Bz]at this;omega) hgd
 obtain⟨rt,hrt⟩:∃rt,rt=T.ag [sv s,iv (jg:Int),iv 0,Ba Ar (seen.map Vr.sort),Ba Ar (seen.map Vr.digits)]:=⟨_,rfl⟩
 rw[<-hrt]at nbc
 have tts:Bn H2 [rqP s kg lg jg ⟨[],0,seen⟩]=some ([rt],F++[]):=by rw[hrt];exact Ew hF2 rfl
 obtain⟨H3,hH3⟩:∃H3:Ak,H3=if(F++[]).isEmpty then H2 else if De (nbT seen)then H2 else Ez H2 (F++[]):=⟨_,rfl⟩
 have k3:∀c,c≠kg->c≠lg->Aj H3 c=Aj H2 c:=λc h1 h2=>by
  rw[hH3];split
  .rfl
  .split
   .rfl
   .refine Od _ _ _ λhc=>?_;rw[List.append_nil]at hc;rcases hF3 c hc with e | e
    .exact h1 e
    .exact h2 e
 have C2:Ctx Xd (G q) _:=(AB.cons (FG nbc) .nil).ctx mixed
 have ev:∀nx,A0 (orc [(64,Iz [rt] (nbT seen))]) H2 nx (.call 64) [rqP s kg lg jg ⟨[],0,seen⟩]=some (.t (nbT seen),H3,nx):=λnx=>by
  rw[CW,tts,hH3];simp[Gg]
 have ev3:∀a b c,nbT seen = .tu [a,b,c]->∀nx,A0 (orc [(64,Iz [rt] (nbT seen))]) H2 nx (.call 64) [rqP s kg lg jg ⟨[],0,seen⟩]=some (.t (.tu [a,b,c]),H3,nx):=λa b c h nx=>(ev nx).trans (congrArg (λz=>some (PV.t z,H3,nx)) h);have gl:=Jg.S.ls;have gt:=Jg.S.lt
 have z3:Aj H3 0=some Do:=by rw[k3 0 J2.s0.symm J2.t0.symm];exact z2
 have m3:Aj H3 ng=some MR:=by rw[k3 ng (by omega) (by omega)];exact m2
 have al:=J2.all;unfold LZ at hR
 cases hns:Fj seen with
 | none=>
  rw[hns]at hR;have hR0:R = .tu [.ag (Bm mr0),iv 2]:=hR;have e0:=ev3 Au Au (iv 2) (by unfold nbT;rw[hns]);refine Ao C2 ?_;simp -implicitDefEqProofs [al,e0,-CW];refine Ao C2 ?_;simp -implicitDefEqProofs [FJ,-BU,FK z3,FL z3,hR0]
 | some ns=>
 rw[hns]at hR;have ens:=(QP hns).1;subst ens;simp only at hR
 cases hms:BX [] seen with
 | true=>
  rw[hms]at hR;have hR0:R = .tu [.ag (Bm mr0),iv 17]:=hR;have e0:=ev3 Au Au (iv 17) (by unfold nbT;rw[hns];simp only;rw[hms];rfl);refine Ao C2 ?_;simp -implicitDefEqProofs [al,e0,-CW];refine Ao C2 ?_;simp -implicitDefEqProofs [FJ,-BU,FK z3,FL z3,hR0]
 | false=>
 rw[hms]at hR;simp only[Xx,if_false]at hR
 cases hor:Dx (seen.map nmV)with
 | false=>
  rw[hor]at hR;have hR0:R = .tu [.ag (Bm mr0),iv 3]:=hR;have e0:=ev3 Au Au (iv 3) (by unfold nbT;rw[hns];simp only;rw[hms,hor];rfl);refine Ao C2 ?_;simp -implicitDefEqProofs [al,e0,-CW];refine Ao C2 ?_;simp -implicitDefEqProofs [FJ,-BU,FK z3,FL z3,hR0]
 | true=>
 rw[hor]at hR;simp only[Xz,if_false]at hR;have e0:=ev3 (slT A6 (seen.map nmV)) (slT Ar ((upN (Ei (seen.map nmV))).map (Bx seen))) (iv 0) (by unfold nbT;rw[hns];simp only;rw[hms,hor];rfl)
 obtain⟨so,hso⟩:∃so,so=(upN (Ei (seen.map nmV))).map (Bx seen):=⟨_,rfl⟩
 obtain⟨ns,hns'⟩:∃ns,ns=seen.map nmV:=⟨_,rfl⟩
 rw[<-hso,<-hns']at e0
 obtain⟨tn,htn⟩:∃tn,tn=slT A6 ns:=⟨_,rfl⟩
 obtain⟨ts,hts⟩:∃ts,ts=slT Ar so:=⟨_,rfl⟩
 rw[<-htn,<-hts]at e0;refine Ao C2 ?_;simp -implicitDefEqProofs [al,e0,-CW];refine Ao C2 ?_;simp -implicitDefEqProofs;refine MC.sub (s':=⟨[(11,.t ts),(10,.t tn),(9,.ptr ng 0),(3,.t (iv 0)),(2,.ptr 0 0)],H3,n2,205⟩) (Aw (by simp -implicitDefEqProofs)) rfl ?_
 have hnl:ns.length=(occ raw).length:=by rw[hns',Xe,hsl]
 have rok:=bC hpl hnl (by rw[hns',Xe];omega)
 have hTn:IsS A6 tn ns:=by rw[htn];exact IsS.mk ns
 obtain⟨g,hg⟩:∃g,g=toV ns:=⟨_,rfl⟩
 obtain⟨Mcs,hMcs⟩:∃Mcs,Mcs=[iv tp,iv ix,Au,tr,tc']:=⟨_,rfl⟩
 have hMt:MR = .cells Ct (Mcs.map .t):=by rw[hMR,hMcs]
 have ldm:∀{H:Ak},Aj H ng=some MR->LdM (iv tp) (iv ix) Au tr tc' H ng:=λh=>ldM (by rw[h,hMR])
 have etp:raw.top=tp:=by rw[hraw]
 have eix:raw.index=ix:=by rw[hraw]
 have erl:raw.rels=L.map EC.x:=by rw[hraw]
 have ecn:raw.cons=cq:=by rw[hraw]
 have htl:inR ns.length tp:=by rw[<-etp];exact rok.top
 have hil:inR ns.length ix:=by rw[<-eix];exact rok.idx
 obtain⟨At,at1,at2⟩:=FI hTn htl;obtain⟨Ai,ai1,ai2⟩:=FI hTn hil;rw[<-hg]at at2 ai2
 have hTr:IsS eEC tr L:=by rw[htr];exact IsS.mk L
 have hTc:IsS eQq tc' cq:=by rw[htc];exact IsS.mk cq
 have lr:=hTr.len;have lc:=hTc.len;have L3:=ldm m3
 have bdo:∀(Φ:AP) (H:Ak) (nx:Nat),A0 Φ H nx (.build [(0,1),(1,1),(2,1),(3,1),(4,1)] [.int .i64 0,.int .i64 0,.slice none 0 0,.slice none 0 0,.slice none 0 0] [0,1,2]) [.t (iv (g tp)),.t (iv (g ix)),.t ts]=some (.t (.ag [iv (g tp),iv (g ix),ts,Au,Au]),H,nx):=λ_ _ _=>by rw[hts];rfl
 have evo:∀(Φ:AP) (H:Ak) (nx:Nat),Bi Φ H nx (.build [(0,1),(1,1),(2,1),(3,1),(4,1)] [.int .i64 0,.int .i64 0,.slice none 0 0,.slice none 0 0,.slice none 0 0] [0,1,2]) [.t (iv (g tp)),.t (iv (g ix)),.t ts]=some (.t (.ag [iv (g tp),iv (g ix),ts,Au,Au])):=λ_ _ _=>by rw[hts];rfl
 obtain⟨H4,hH4⟩:∃H4:Ak,H4=(n2,GM (g tp) (g ix) ts (.t Au) (.t Au))::H3:=⟨_,rfl⟩
 have s4:AO 5 ((n2,.cells Ct [.t (iv 0),.t (iv 0),.t Au,.t Au,.t Au])::H3) (.ptr n2 0) (.t (.ag [iv (g tp),iv (g ix),ts,Au,Au]))=some H4:=by
  rw[st5 (cs:=[.t (iv 0),.t (iv 0),.t Au,.t Au,.t Au]) (by rw[A9,zu rfl]) rfl,hH4];simp[Xc,GM]
 refine Ao An ?_;simp -implicitDefEqProofs [L3.l0,L3.l1,at1,at2,ai1,ai2,bdo,evo,s4,-BU]
 have N4:OuR (g tp) (g ix) ts MR ng n2 (CS g raw.rels 0) (DI g raw.cons 0) H4 (n2+3) (n2+1) (n2+2):=
  ⟨by rw[hH4,A9,zw (by omega)];exact z3,by rw[hH4,A9,zw (by omega)];exact m3,by rw[hH4,A9,zu rfl];rfl,.inl rfl,.inl rfl,by have:=Jg.l;omega,nm2,by omega,by omega,by omega,by omega,by omega⟩
 refine MC.sub (s':=SOe tn ng n2 ⟨H4,n2+1,0,0,0⟩) (Aw (by simp -implicitDefEqProofs [SOe])) rfl ?_;refine MC.sub (EN (nx':=n2+3) (by show n2+1<=n2+3;omega)) rfl ?_;refine AZ (SOe tn ng n2) (λa=>OuR (g tp) (g ix) ts MR ng n2 (CS g raw.rels raw.rels.length) (DI g raw.cons 0) a.H a.nx a.br a.bc) (λ_=>rfl) ?_ ?_
 .refine Ao An ?_;simp -implicitDefEqProofs [SOe];refine AY ?_;refine Bj (SOr tn ng n2) (λa=>raw.rels.length-a.i) (λa=>OuR (g tp) (g ix) ts MR ng n2 (CS g raw.rels a.i) (DI g raw.cons 0) a.H a.nx a.br a.bc/\a.i<=raw.rels.length) ⟨H4,n2+3,n2+1,n2+2,0⟩ (λ_=>rfl) ⟨N4,Xg _⟩ ?_ rfl ?_
  .exact Aw (by simp -implicitDefEqProofs [SOr])
  rintro⟨H,nx,br,bc,i⟩ ⟨hN,hi⟩;simp only at hN hi;have z:=ldm hN.m
  have hll:raw.rels.length=L.length:=by rw[erl,Xe]
  by_cases hlt:i<L.length
  rotate_left
  .have ei:i=raw.rels.length:=by omega
   refine A8 An ?_;simp -implicitDefEqProofs [SOr,z.l3,lr,hlt];refine A4.mk ⟨H,nx,br,bc,i⟩ ?_ (Aw (by simp -implicitDefEqProofs [SOe]));rw[<-ei];exact hN
  obtain⟨c,hc1⟩:∃c,L[i]?=some c:=⟨_,Xh hlt⟩
  have hx:raw.rels[i]?=some c.x:=by rw[erl,Xm,hc1];rfl
  have hxm:=Xq hx;obtain⟨ta,hcs,hta⟩:=c.ok;have la:=hta.len;have hal:=rok.r2 c.x hxm;have hin:=rok.re c.x hxm;have i1:=hTr.iaddr hc1 .i64;rw[show eEC.z=3 from rfl,show eEC.enc c=c.cs from rfl,hcs]at i1
  obtain⟨x,hxe⟩:∃x,x=c.x:=⟨_,rfl⟩
  rw[<-hxe]at hx hxm hta la hal i1 hin;obtain⟨Al,al1,al2⟩:=FI hTn (hin x.label (by simp[B7]));rw[<-hg]at al2;have w1:Xo.wrap ((i:Int)+1)=((i+1:Nat):Int):=Bb (by omega) (by have:=rok.r1;omega);have s3:∀a b d,AO 3 ((nx,.cells tyE [a,b,d])::H) (.ptr nx 0) (.t (.ag [sv x.pred,iv (g x.label),Au]))=some ((nx,Ca x.pred (g x.label) Au)::H):=λa b d=>st3 nx a b d (sv x.pred) (iv (g x.label)) Au tyE H (cd3 _ _ _)
  obtain⟨H1,hH1⟩:∃H1,H1=(nx,Ca x.pred (g x.label) Au)::H:=⟨_,rfl⟩
  rw[<-hH1]at s3
  have k1:∀c,c<nx->Aj H1 c=Aj H c:=λc h=>by rw[hH1,A9,zw (by omega)]
  have h1:=hN.r1;have h2:=hN.r2;have h3:=hN.c1;have h4:=hN.c2;have h5:=hN.ne;have h6:=hN.kk;have h7:=hN.k0
  have Y1:OuY (g tp) (g ix) ts MR ng n2 (CS g raw.rels i) g x 0 H1 (nx+2) br bc nx (nx+1):=
   ⟨hN.more (by omega) k1,by rw[hH1,A9,zu rfl];rfl,.inl rfl,by omega,by omega,by omega,by omega,by omega,by omega,by omega,by omega,by omega⟩
  refine Ao An ?_;simp -implicitDefEqProofs [SOr,z.l3,lr,hlt];refine AZ (λa:OuA=>⟨[(14,.t (iv (i:Int))),(13,.ptr n2 0),(10,.t tn),(9,.ptr ng 0),(2,.ptr 0 0),(3,.t (iv 0))],a.H,a.nx,205⟩) (λa=>OuR (g tp) (g ix) ts MR ng n2 (CS g raw.rels (i+1)) (DI g raw.cons 0) a.H a.nx a.br a.bc) (λ_=>rfl) ?_ ?_
  .refine AY ?_;refine Ao An ?_;simp -implicitDefEqProofs [z.l3,i1,lp,al1,al2,XP,A0o,s3,-BU];refine MC.sub (s':=⟨[(15,.ptr nx 0),(14,.t (iv (i:Int))),(13,.ptr n2 0),(10,.t tn),(9,.ptr ng 0),(2,.ptr 0 0),(3,.t (iv 0))],H1,nx+1,205⟩) (Aw (by simp -implicitDefEqProofs)) rfl ?_;refine MC.sub (EN (nx':=nx+2) (by omega)) rfl ?_;refine AZ (λa:OuB=>⟨[(15,.ptr a.ky 0),(14,.t (iv (i:Int))),(13,.ptr n2 0),(10,.t tn),(9,.ptr ng 0),(2,.ptr 0 0),(3,.t (iv 0))],a.H,a.nx,205⟩) (λa=>OuY (g tp) (g ix) ts MR ng n2 (CS g raw.rels i) g x a.j a.H a.nx a.br a.bc a.ky a.ba/\a.j=x.args.length) (λ_=>rfl) ?_ ?_
   .refine Ao An ?_;simp -implicitDefEqProofs;refine AY ?_;refine Bj (SOy tn ng n2 i) (λa=>x.args.length-a.j) (λa=>OuY (g tp) (g ix) ts MR ng n2 (CS g raw.rels i) g x a.j a.H a.nx a.br a.bc a.ky a.ba/\a.j<=x.args.length) ⟨H1,nx+2,br,bc,nx,nx+1,0⟩ (λ_=>rfl) ⟨Y1,Xg _⟩ ?_ rfl ?_
    .exact Aw (by simp -implicitDefEqProofs [SOy])
    rintro⟨Ha,na,ra,ca,ky,ba,j⟩ ⟨hY,hj⟩;simp only at hY hj;have za:=ldm hY.r.m;by_cases hjl:j<x.args.length
    rotate_left
    .refine A8 An ?_;simp -implicitDefEqProofs [SOy,za.l3,i1,lp,Fz,la,hjl];exact A4.mk ⟨Ha,na,ra,ca,ky,ba,j⟩ ⟨hY,by show j=_;omega⟩ (Aw (by simp -implicitDefEqProofs))
    obtain⟨a,ha⟩:∃a,x.args[j]?=some a:=⟨_,Xh hjl⟩
    have i2:=hta.iaddr ha .i64;rw[show eAg.z=2 from rfl,show eAg.enc a=[sv a.role,iv a.var]from rfl]at i2;obtain⟨Av,av1,av2⟩:=FI hTn (hin a.var (by simp only[B7,Xj,Xf];exact .inr ⟨a,Xq ha,rfl⟩));rw[<-hg]at av2;have w2:Xo.wrap ((j:Int)+1)=((j+1:Nat):Int):=Bb (by omega) (by omega);have hy1:=hY.y1;have hy2:=hY.y2;have ha1:=hY.a1;have ha2:=hY.a2;have yr:=hY.yr;have yc:=hY.yc;have ar:=hY.ar;have ac:=hY.ac;have ya:=hY.ya;have q1:=hY.r.r1;have q2:=hY.r.r2;have q3:=hY.r.c1;have q4:=hY.r.c2;have lyb:=LV hY.y
    have gl:(agG g x j).length<=100000:=by unfold agG;rw[Xe,Xv];omega
    obtain⟨Hd,ad,bd,cdd,fd⟩:=EM (by':=24) (nx:=na) (⟨a.role,g a.var⟩:Ag) 2 rfl [sv a.role,iv (g a.var)] rfl hY.ra ha2 (by omega) (by omega)
    have yd:Aj Hd ky=some (.cells AH [.t (sv x.pred),.t (iv (g x.label)),Ax eAg ba (agG g x j)]):=by rw[cdd ky hy2 ya];exact hY.y
    have sd:=BF (o:=2) (n:=1) yd (Gc eAg na (agG g x j++[⟨a.role,g a.var⟩])) rfl (by simp)
    obtain⟨He,hHe⟩:∃He,He=Xc Hd ky (.cells AH [.t (sv x.pred),.t (iv (g x.label)),Ax eAg na (agG g x j++[⟨a.role,g a.var⟩])]):=⟨_,rfl⟩
    have sd:AO 1 Hd (.ptr ky 2) (Ax eAg na (agG g x j++[⟨a.role,g a.var⟩]))=some He:=by rw[sd,hHe];rfl
    have ke:∀c,c≠ky->Aj He c=Aj Hd c:=λc h=>by rw[hHe,A7,zw h]
    have kk:∀c,c<na->c≠ky->c≠ba->Aj He c=Aj Ha c:=λc h1 h2 h3=>by rw[ke c h2,cdd c h1 h3]
    have Me:OuR (g tp) (g ix) ts MR ng n2 (CS g raw.rels i) (DI g raw.cons 0) He (na+1) ra ca:=
     ⟨by rw[kk 0 (by omega) (by omega) (by omega)];exact hY.r.z,by rw[kk ng (by omega) (by omega) (by omega)];exact hY.r.m,by rw[kk n2 (by omega) (by omega) (by omega)];exact hY.r.ob,
      hY.r.rr.imp id λe=>by rw[kk ra q2 yr.symm ar.symm];exact e,hY.r.rc.imp id λe=>by rw[kk ca q4 yc.symm ac.symm];exact e,h7,h6,q1,by omega,q3,by omega,hY.r.ne⟩
    have Ye:OuY (g tp) (g ix) ts MR ng n2 (CS g raw.rels i) g x (j+1) He (na+1) ra ca ky na:=by
     refine⟨Me,?_,?_,hy1,by omega,by omega,by omega,yr,yc,by omega,by omega,by omega⟩
     .rw[hHe,A7,zu rfl,yd,bV ha];rfl
     .rw[bV ha]
      exact bd.imp id λe=>by rw[ke na (by omega)];exact e
    refine A8 An ?_;simp -implicitDefEqProofs [SOy,za.l3,i1,lp,Fz,la,hjl,i2,lyb.2.2,av1,av2,QA,A0p,XK,ad,sd,w2,-BU];exact A4.mk ⟨He,na+1,ra,ca,ky,na,j+1⟩ ⟨⟨Ye,hjl⟩,by show x.args.length-(j+1)<x.args.length-j;omega⟩ (Aw (by simp -implicitDefEqProofs [SOy]))
   .rintro⟨Ha,na,ra,ca,ky,ba,j⟩ ⟨hY,hj⟩;simp only at hY hj;subst hj;have hy1:=hY.y1;have hy2:=hY.y2;have ha1:=hY.a1;have ha2:=hY.a2;have yr:=hY.yr;have yc:=hY.yc;have ar:=hY.ar;have ac:=hY.ac;have ya:=hY.ya;have Mf:=hY.r.frz hMt (F:=[ba]) (λc hc=>by rw[X6.1 hc];exact⟨ha1,ar,ac⟩)
    obtain⟨Hf,hHf⟩:∃Hf,Hf=Cg Ha [ba]:=⟨_,rfl⟩
    have yf:Aj Hf ky=some (.cells tyE ((Fb (Bu g x)).map .t)):=by
     rw[hHf,BQ (by simp;omega) hY.y];simp only[E5,Xt,X0,EA,Fh hY.ra List.mem_cons_self];unfold Fb Bu agG;rw[Xp];rfl
    rw[<-hHf]at Mf
    have lyf:AD true 3 Hf (.ptr ky 0)=some (.t (.ag (Fb (Bu g x)))):=by
     simp only[AD,yf];rfl
    refine MC.sub (s':=⟨[(15,.ptr ky 0),(14,.t (iv (i:Int))),(13,.ptr n2 0),(10,.t tn),(9,.ptr ng 0),(2,.ptr 0 0),(3,.t (iv 0))],Hf,na,205⟩) (by rw[hHf];exact F8 [ba] (by simp -implicitDefEqProofs [EA,FA])) rfl ?_;have q1:=Mf.r1;have q2:=Mf.r2;have q3:=Mf.c1;have q4:=Mf.c2
    have rlen:(CS g raw.rels i).length<=100000:=by unfold CS;rw[Xe,Xv];have:=rok.r1;omega
    obtain⟨Hg,ag,bg,cg,fg⟩:=LU (by':=48) (nx:=na) (ty:=AH) (EC.of (Bu g x)) 3 rfl ((Fb (Bu g x)).map .t) rfl Mf.rr (by omega) (by omega) (by omega)
    have og:Aj Hg n2=some (GM (g tp) (g ix) ts (Ax eEC ra (CS g raw.rels i)) (Ax eQq ca [])):=by rw[cg n2 (by omega) (by omega)];exact Mf.ob
    have sg:=BF (o:=3) (n:=1) og (Gc eEC (na+1) (CS g raw.rels i++[EC.of (Bu g x)])) rfl (by simp)
    obtain⟨Hh',hHh'⟩:∃Hh',Hh'=Xc Hg n2 (GM (g tp) (g ix) ts (Ax eEC (na+1) (CS g raw.rels i++[EC.of (Bu g x)])) (Ax eQq ca [])):=⟨_,rfl⟩
    have sg:AO 1 Hg (.ptr n2 3) (Ax eEC (na+1) (CS g raw.rels i++[EC.of (Bu g x)]))=some Hh':=by rw[sg,hHh'];rfl
    have kh:∀c,c≠n2->Aj Hh' c=Aj Hg c:=λc h=>by rw[hHh',A7,zw h]
    have Mh:OuR (g tp) (g ix) ts MR ng n2 (CS g raw.rels (i+1)) (DI g raw.cons 0) Hh' (na+2) (na+1) ca:=by
     rw[A0m hx]
     exact Mf.put (λc h1 h4 h5 _=>by rw[kh c h4,cg c h1 h5]) (by rw[hHh',A7,zu rfl,og];rfl) (bg.imp id λe=>by rw[kh (na+1) (by omega)];exact e)
      (.inl rfl) (by omega) (by omega) q3 (by omega) (by omega)
    have lof:=Ko Mf.ob;have bsl:∀k,BB tyE 3 [.string ⟨#[]⟩,.int .i64 0,.slice none 0 0] 1 [(0,.t (.ag (Fb (Bu g x))))] k=some (.row k 0 1 3,.cells tyE ((Fb (Bu g x)).map .t)):=λk=>rfl;refine A8 An ?_;simp -implicitDefEqProofs [lof.2.2.2.1,lyf,bsl,ag,sg];exact A4.mk ⟨Hh',na+2,na+1,ca,0⟩ Mh (Aw (by simp -implicitDefEqProofs))
  .rintro⟨Ha,na,ra,ca,_⟩ hN';refine A8 An ?_;simp -implicitDefEqProofs [w1];exact A4.mk ⟨Ha,na,ra,ca,i+1⟩ ⟨⟨hN',by show i+1<=_;omega⟩,by show raw.rels.length-(i+1)<raw.rels.length-i;omega⟩ (Aw (by simp -implicitDefEqProofs [SOr]))
 rintro⟨H5,n5,b5,c5,_⟩ N5;simp only at N5;refine AZ (SOe tn ng n2) (λa=>OuR (g tp) (g ix) ts MR ng n2 (CS g raw.rels raw.rels.length) (DI g raw.cons raw.cons.length) a.H a.nx a.br a.bc) (λ_=>rfl) ?_ ?_
 .refine Ao An ?_;simp -implicitDefEqProofs [SOe];refine AY ?_;refine Bj (SOc tn ng n2) (λa=>raw.cons.length-a.i) (λa=>OuR (g tp) (g ix) ts MR ng n2 (CS g raw.rels raw.rels.length) (DI g raw.cons a.i) a.H a.nx a.br a.bc/\a.i<=raw.cons.length) ⟨H5,n5,b5,c5,0⟩ (λ_=>rfl) ⟨N5,Xg _⟩ ?_ rfl ?_
  .exact Aw (by simp -implicitDefEqProofs [SOc])
  rintro⟨H,nx,br,bc,i⟩ ⟨hN,hi⟩;simp only at hN hi;have z:=ldm hN.m
  have hll:raw.cons.length=cq.length:=by rw[ecn]
  by_cases hlt:i<cq.length
  rotate_left
  .have ei:i=raw.cons.length:=by omega
   refine A8 An ?_;simp -implicitDefEqProofs [SOc,z.l4,lc,hlt];refine A4.mk ⟨H,nx,br,bc,i⟩ ?_ (Aw (by simp -implicitDefEqProofs [SOe]));rw[<-ei];exact hN
  obtain⟨c,hc1⟩:∃c,cq[i]?=some c:=⟨_,Xh hlt⟩
  have hx:raw.cons[i]?=some c:=by rw[ecn];exact hc1
  have hcm:=Xq hx;have hin:=rok.co c hcm;have i1:=hTc.iaddr hc1 .i64;rw[show eQq.z=2 from rfl,show eQq.enc c=[iv c.high,iv c.low]from rfl]at i1;obtain⟨Ah,ah1,ah2⟩:=FI hTn (hin c.high (by simp[BE]));obtain⟨Al,al1,al2⟩:=FI hTn (hin c.low (by simp[BE]));rw[<-hg]at ah2 al2;have w1:Xo.wrap ((i:Int)+1)=((i+1:Nat):Int):=Bb (by omega) (by have:=rok.c1;omega);have h1:=hN.r1;have h2:=hN.r2;have h3:=hN.c1;have h4:=hN.c2;have h5:=hN.ne;have h6:=hN.kk;have h7:=hN.k0
  have clen:(DI g raw.cons i).length<=100000:=by unfold DI;rw[Xe,Xv];have:=rok.c1;omega
  have lo:=Ko hN.ob;obtain⟨H7,a4,b4,c4,g4⟩:=EM (by':=16) (nx:=nx) (Bv g c) 2 rfl [iv (g c.high),iv (g c.low)] rfl hN.rc h4 (by omega) (by omega)
  have o4:Aj H7 n2=some (GM (g tp) (g ix) ts (Ax eEC br (CS g raw.rels raw.rels.length)) (Ax eQq bc (DI g raw.cons i))):=by rw[c4 n2 (by omega) (by omega)];exact hN.ob
  have s5:=BF (o:=4) (n:=1) o4 (Gc eQq nx (DI g raw.cons i++[Bv g c])) rfl (by simp)
  obtain⟨H8,hH8⟩:∃H8,H8=Xc H7 n2 (GM (g tp) (g ix) ts (Ax eEC br (CS g raw.rels raw.rels.length)) (Ax eQq nx (DI g raw.cons i++[Bv g c]))):=⟨_,rfl⟩
  have s5:AO 1 H7 (.ptr n2 4) (Ax eQq nx (DI g raw.cons i++[Bv g c]))=some H8:=by rw[s5,hH8];rfl
  have k5:∀c,c≠n2->Aj H8 c=Aj H7 c:=λc h=>by rw[hH8,A7,zw h]
  have M5:OuR (g tp) (g ix) ts MR ng n2 (CS g raw.rels raw.rels.length) (DI g raw.cons (i+1)) H8 (nx+1) br nx:=by
   rw[A0n hx]
   exact hN.put (λc h1 h4 _ h5=>by rw[k5 c h4,c4 c h1 h5]) (by rw[hH8,A7,zu rfl,o4];rfl) (hN.rr.imp id λe=>by rw[k5 br (by omega),c4 br (by omega) h5];exact e)
    (b4.imp id λe=>by rw[k5 nx (by omega)];exact e) h1 (by omega) (by omega) (by omega) (by omega)
  refine Ao An ?_;simp -implicitDefEqProofs [SOc,z.l4,lc,hlt];refine A8 An ?_;simp -implicitDefEqProofs [z.l4,lo.2.2.2.2,i1,lp,ah1,ah2,al1,al2,QB,A0q,XL,a4,s5,w1,-BU];exact A4.mk ⟨H8,nx+1,br,nx,i+1⟩ ⟨⟨M5,by show i+1<=_;omega⟩,by show raw.cons.length-(i+1)<raw.cons.length-i;omega⟩ (Aw (by simp -implicitDefEqProofs [SOc]))
 rintro⟨H6,n6,b6,c6,_⟩ N6;simp only at N6;have q1:=N6.r1;have q2:=N6.c1;have q3:=N6.kk;have q4:=N6.k0
 obtain⟨m,hm⟩:∃m,m=GJ raw seen:=⟨_,rfl⟩
 have hmo:Dz m=[iv (g tp),iv (g ix),ts,Ba eEC (CS g raw.rels raw.rels.length),Ba eQq (DI g raw.cons raw.cons.length)]:=by
  unfold CS DI;rw[Xp,Xp,hm,hts,hso,hg,hns',<-etp,<-eix];unfold Dz GJ;simp only[Xw];rfl
 obtain⟨Hf,hHf⟩:∃Hf,Hf=Cg H6 [b6,c6]:=⟨_,rfl⟩
 have of:Aj Hf n2=some (Br (Dz m)):=by
  rw[hHf,BQ (by simp;omega) N6.ob,hmo];simp only[E5,GM,Xt,X0,EA,Fh N6.rr (F:=[b6,c6]) (by simp),Fh N6.rc (F:=[b6,c6]) (by simp)];rfl
 have zf:Aj Hf 0=some Do:=by rw[hHf,BQ (by simp;omega) N6.z];rfl
 refine MC.sub (s':=⟨[(13,.ptr n2 0),(2,.ptr 0 0),(3,.t (iv 0))],Hf,n6,205⟩) (by rw[hHf];exact F8 [b6,c6] (by simp -implicitDefEqProofs [SOe,EA,FA])) rfl ?_;have C4:Ctx Xd (G q) _:=(AB.cons (r6 (q:=q)) .nil).ctx mixed;rw[<-hm]at hR hsmm;have ec:Kk [.ag (Dz m)]=some (iv (Dl AN m)):=Il _ (R3 m) hsmm;have a5:=(ldM of).all;rw[show(T.ag [iv m.top,iv m.index,slT Ar m.vars,Ba eEC (m.rels.map EC.of),Ba eQq m.cons]) = .ag (Dz m)from rfl]at a5
 obtain⟨e,he'⟩:∃e,e=Dl AN m:=⟨_,rfl⟩
 rw[<-he']at ec hR;by_cases h0:e=0
 .have d1:(e != 0)=false:=by rw[h0];rfl
  rw[zw (λh=>h h0)]at hR;have hR0:R = .tu [.ag (Dz m),iv 0]:=hR;have s6:AO 5 Hf (.ptr 0 0) (.t (.ag (Dz m)))=some (Xc Hf 0 (Br (Dz m))):=st5 zf rfl;have a6:=(ldM (H:=Xc Hf 0 (Br (Dz m))) (k:=0) (by rw[A7,zu rfl,zf];rfl)).all;rw[show(T.ag [iv m.top,iv m.index,slT Ar m.vars,Ba eEC (m.rels.map EC.of),Ba eQq m.cons]) = .ag (Dz m)from rfl]at a6;refine Ao C4 ?_;simp -implicitDefEqProofs [a5,ec,d1];refine A8 C4 ?_;simp -implicitDefEqProofs [a5,s6,a6,hR0]
 .have d1:(e != 0)=true:=by rw[bne_iff_ne];exact h0
  rw[zu h0]at hR;have hR0:R = .tu [.ag (Bm mr0),iv e]:=hR;refine Ao C4 ?_;simp -implicitDefEqProofs [a5,ec,d1,FJ,-BU,FK zf,FL zf,hR0]
theorem A0v (r:ByteArray) (v:Int):exM (.eqs true [.s,.i]) [.t (.ag [sv r,iv v]),.t (.ag [sv r,iv v])]=some (.t (bv false)):=by simp[exM,Ck]
theorem A0w (u v:Int):exM (.eqs true [.i,.i]) [.t (.ag [iv u,iv v]),.t (.ag [iv u,iv v])]=some (.t (bv false)):=by simp[exM,Ck]
structure EqD where
 H:Ak
 nx:Nat
 i:Nat
def SE5 (c:EqD):Am:=⟨[(5,.t (iv (c.i:Int))),(2,.ptr 0 0),(3,.ptr 1 0)],c.H,c.nx,142⟩
def SE6 (c:EqD):Am:=⟨[(6,.t (iv (c.i:Int))),(2,.ptr 0 0),(3,.ptr 1 0)],c.H,c.nx,142⟩
def Mv (c:EqD):Am:=⟨[(10,.t (iv (c.i:Int))),(2,.ptr 0 0),(3,.ptr 1 0)],c.H,c.nx,142⟩
def SE9 (i nx:Nat) (H:Ak) (j:Nat):Am:=⟨[(9,.t (iv (j:Int))),(7,.ptr nx 0),(8,.ptr (nx+1) 0),(6,.t (iv (i:Int))),(2,.ptr 0 0),(3,.ptr 1 0)],H,nx+2,142⟩
theorem A0x {m:Mr} {cs ds:List T} (hm:BJ m cs) (hm':BJ m ds) (hs:SmM m):Bc Xd (G q) 17 [.ag cs,.ag ds] (· = bv true):=by
 obtain⟨tv,tr,tc,rl,rfl,hv,hr,hrm,hc⟩:=hm;obtain⟨uv,ur,uc,sl,rfl,kv,kr,krm,kc⟩:=hm'
 obtain⟨X,hX⟩:∃X,X=Br [iv m.top,iv m.index,tv,tr,tc]:=⟨_,rfl⟩
 obtain⟨Y,hY⟩:∃Y,Y=Br [iv m.top,iv m.index,uv,ur,uc]:=⟨_,rfl⟩
 have ldx:∀{H:Ak},Aj H 0=some X->LdM (iv m.top) (iv m.index) tv tr tc H 0:=λh=>ldM (by rw[h,hX]);have ldy:∀{H:Ak},Aj H 1=some Y->LdM (iv m.top) (iv m.index) uv ur uc H 1:=λh=>ldM (by rw[h,hY]);have l1:=hv.len;have l2:=hr.len;have l3:=hc.len;have k1:=kv.len;have k2:=kr.len;have k3:=kc.len
 have hrl:rl.length=m.rels.length:=by rw[<-hrm,Xe]
 have hsl:sl.length=m.rels.length:=by rw[<-krm,Xe]
 rw[hrl]at l2;rw[hsl]at k2;have c1:=cd5 (iv m.top) (iv m.index) tv tr tc;have c2:=cd5 (iv m.top) (iv m.index) uv ur uc;refine pX.call rfl ?_;(conv in V6=>cbv);refine Ao An ?_;simp -implicitDefEqProofs [c1,c2]
 obtain⟨H0,hH0⟩:∃H0:Ak,H0=[(1,Y),(0,X)]:=⟨_,rfl⟩
 have x0:Aj H0 0=some X:=by rw[hH0];rfl
 have y0:Aj H0 1=some Y:=by rw[hH0];rfl
 refine MC.sub (s':=⟨[(2,.ptr 0 0),(3,.ptr 1 0)],H0,2,142⟩) (by rw[hH0,hX,hY];exact Aw (by simp -implicitDefEqProofs)) rfl ?_;have Lx:=ldx x0;have Ly:=ldy y0;refine Ao An ?_;simp -implicitDefEqProofs [Lx.l0,Lx.l1,Lx.l2,Lx.l3,Lx.l4,Ly.l0,Ly.l1,Ly.l2,Ly.l3,Ly.l4,l1,l2,l3,k1,k2,k3];refine AZ (λ_:Unit=>⟨[(2,.ptr 0 0),(3,.ptr 1 0)],H0,2,142⟩) (λ_=>True) (λ_=>rfl) ?_ ?_
 .refine Ao An ?_;simp -implicitDefEqProofs;refine AY ?_;refine Bj (λi=>SE5 ⟨H0,2,i⟩) (λi=>m.vars.length-i) (λi=>i<=m.vars.length) 0 (λ_=>rfl) (Xg _) ?_ rfl ?_
  .exact Aw (by simp -implicitDefEqProofs [SE5])
  rintro i hi;by_cases hlt:i<m.vars.length
  .obtain⟨x,hx⟩:∃x,m.vars[i]?=some x:=⟨_,Xh hlt⟩
   have i1:=hv.iaddr hx .i64;have i2:=kv.iaddr hx .i64;rw[show Ar.z=1 from rfl,show Ar.enc x=[sv x]from rfl]at i1 i2;have w1:=HL i (by have:=hs.vars;omega);refine Ao An ?_;simp -implicitDefEqProofs [SE5,Lx.l2,l1,hlt];refine Ao An ?_;simp -implicitDefEqProofs [Lx.l2,Ly.l2,i1,i2,lp];refine A8 An ?_;simp -implicitDefEqProofs [w1];exact A4.mk (i+1) ⟨hlt,by show m.vars.length-(i+1)<m.vars.length-i;omega⟩ (Aw (by simp -implicitDefEqProofs [SE5]))
  .refine Ao An ?_;simp -implicitDefEqProofs [SE5,Lx.l2,l1,hlt];exact A4.mk () trivial (Aw (by simp -implicitDefEqProofs))
 rintro _ _;refine AZ (λc:EqD=>⟨[(2,.ptr 0 0),(3,.ptr 1 0)],c.H,c.nx,142⟩) (λc=>Aj c.H 0=some X/\Aj c.H 1=some Y) (λ_=>rfl) ?_ ?_
 .refine Ao An ?_;simp -implicitDefEqProofs;refine AY ?_;refine Bj SE6 (λc=>m.rels.length-c.i) (λc=>Aj c.H 0=some X/\Aj c.H 1=some Y/\2<=c.nx/\c.i<=m.rels.length) ⟨H0,2,0⟩ (λ_=>rfl) ⟨x0,y0,Xi _,Xg _⟩ ?_ rfl ?_
  .exact Aw (by simp -implicitDefEqProofs [SE6])
  rintro⟨H,nx,i⟩ ⟨hx0,hy0,hn,hi⟩;simp only at hx0 hy0 hn hi;have Mx:=ldx hx0;have My:=ldy hy0;by_cases hlt:i<m.rels.length
  rotate_left
  .refine Ao An ?_;simp -implicitDefEqProofs [SE6,Mx.l3,l2,hlt];exact A4.mk ⟨H,nx,0⟩ ⟨hx0,hy0⟩ (Aw (by simp -implicitDefEqProofs))
  obtain⟨c,hc1⟩:∃c,rl[i]?=some c:=⟨_,Xh (by omega)⟩
  obtain⟨d,hd1⟩:∃d,sl[i]?=some d:=⟨_,Xh (by omega)⟩
  have hcx:m.rels[i]?=some c.x:=by rw[<-hrm,Xm,hc1];rfl
  have hdx:m.rels[i]?=some d.x:=by rw[<-krm,Xm,hd1];rfl
  obtain⟨ta,hcs,hta⟩:=c.ok;obtain⟨ua,hds,hua⟩:=d.ok;have i1:=hr.iaddr hc1 .i64;have i2:=kr.iaddr hd1 .i64;rw[show eEC.z=3 from rfl]at i1 i2;rw[show eEC.enc c=c.cs from rfl,hcs]at i1;rw[show eEC.enc d=d.cs from rfl,hds]at i2
  obtain⟨x,hxe⟩:∃x,x=c.x:=⟨_,rfl⟩
  have hxd:d.x=x:=by rw[hcx]at hdx;injection hdx with h;rw[<-h,hxe]
  rw[<-hxe]at hcx hta i1;rw[hxd]at hua i2;have hal:=hs.args x (Xq hcx);have la:=hta.len;have ua':=hua.len;have w1:=HL i (by have:=hs.rels;omega);have s1:∀a b d,AO 3 ((nx,.cells tyE [a,b,d])::H) (.ptr nx 0) (.t (.ag [sv x.pred,iv x.label,ta]))=some ((nx,Ca x.pred x.label ta)::H):=λa b d=>st3 nx a b d (sv x.pred) (iv x.label) ta tyE H (cd3 _ _ _)
  obtain⟨H1,hH1⟩:∃H1,H1=(nx,Ca x.pred x.label ta)::H:=⟨_,rfl⟩
  rw[<-hH1]at s1;have s2:∀a b d,AO 3 ((nx+1,.cells tyE [a,b,d])::H1) (.ptr (nx+1) 0) (.t (.ag [sv x.pred,iv x.label,ua]))=some ((nx+1,Ca x.pred x.label ua)::H1):=λa b d=>st3 (nx+1) a b d (sv x.pred) (iv x.label) ua tyE H1 (cd3 _ _ _)
  obtain⟨H2,hH2⟩:∃H2,H2=(nx+1,Ca x.pred x.label ua)::H1:=⟨_,rfl⟩
  rw[<-hH2]at s2
  have k1':∀c,c<nx->Aj H1 c=Aj H c:=λc h=>by rw[hH1,A9,zw (by omega)]
  have k2':∀c,c<nx->Aj H2 c=Aj H c:=λc h=>by rw[hH2,A9,zw (by omega),k1' c h]
  have Ny:=ldy (H:=H1) (by rw[k1' 1 (by omega)];exact hy0)
  have r1:Aj H2 nx=some (.cells tyE [.t (sv x.pred),.t (iv x.label),.t ta]):=by rw[hH2,A9,zw (by omega),hH1,A9,zu rfl]
  have r2:Aj H2 (nx+1)=some (.cells tyE [.t (sv x.pred),.t (iv x.label),.t ua]):=by rw[hH2,A9,zu rfl]
  have p1:=LV r1;have p2:=LV r2;refine Ao An ?_;simp -implicitDefEqProofs [SE6,Mx.l3,l2,hlt];refine AZ (λc:EqD=>SE6 ⟨c.H,c.nx,i⟩) (λc=>Aj c.H 0=some X/\Aj c.H 1=some Y/\2<=c.nx) (λ_=>rfl) ?_ ?_
  .refine AY ?_;refine Ao An ?_;simp -implicitDefEqProofs [Mx.l3,i1,Fz,s1];refine Ao An ?_;simp -implicitDefEqProofs [Ny.l3,i2,Fz,s2];refine Ao An ?_;simp -implicitDefEqProofs [p1.1,p1.2.1,p1.2.2,p2.1,p2.2.1,p2.2.2,la,ua'];refine Ao An ?_;simp -implicitDefEqProofs;refine AY ?_;refine Bj (SE9 i nx H2) (λj=>x.args.length-j) (λj=>j<=x.args.length) 0 (λ_=>rfl) (Xg _) ?_ rfl ?_
   .exact Aw (by simp -implicitDefEqProofs [SE9])
   rintro j hj;by_cases hjl:j<x.args.length
   rotate_left
   .refine Ao An ?_;simp -implicitDefEqProofs [SE9,p1.2.2,la,hjl];exact A4.mk ⟨H2,nx+2,0⟩ ⟨by show Aj H2 0=_;rw[k2' 0 (by omega)];exact hx0,by show Aj H2 1=_;rw[k2' 1 (by omega)];exact hy0,by show 2<=nx+2;omega⟩ (Aw (by simp -implicitDefEqProofs [SE6]))
   obtain⟨a,ha⟩:∃a,x.args[j]?=some a:=⟨_,Xh hjl⟩
   have j1:=hta.iaddr ha .i64;have j2:=hua.iaddr ha .i64;rw[show eAg.z=2 from rfl,show eAg.enc a=[sv a.role,iv a.var]from rfl]at j1 j2;have w2:=HL j (by omega);have eq:=A0v a.role a.var;refine Ao An ?_;simp -implicitDefEqProofs [SE9,p1.2.2,la,hjl];refine Ao An ?_;simp -implicitDefEqProofs [p1.2.2,p2.2.2,j1,j2,D2,eq];refine A8 An ?_;simp -implicitDefEqProofs [w2];exact A4.mk (j+1) ⟨hjl,by show x.args.length-(j+1)<x.args.length-j;omega⟩ (Aw (by simp -implicitDefEqProofs [SE9]))
  .rintro⟨Hz,nz,_⟩ ⟨g1,g2,g3⟩;simp only at g1 g2 g3;refine A8 An ?_;simp -implicitDefEqProofs [SE6,w1];exact A4.mk ⟨Hz,nz,i+1⟩ ⟨⟨g1,g2,g3,hlt⟩,by show m.rels.length-(i+1)<m.rels.length-i;omega⟩ (Aw (by simp -implicitDefEqProofs [SE6]))
 rintro⟨H,nx,_⟩ ⟨hx0,hy0⟩;simp only at hx0 hy0;have Mx:=ldx hx0;have My:=ldy hy0;refine AZ (λ_:Unit=>⟨[(2,.ptr 0 0),(3,.ptr 1 0)],H,nx,142⟩) (λ_=>True) (λ_=>rfl) ?_ ?_
 .refine Ao An ?_;simp -implicitDefEqProofs;refine AY ?_;refine Bj (λi=>Mv ⟨H,nx,i⟩) (λi=>m.cons.length-i) (λi=>i<=m.cons.length) 0 (λ_=>rfl) (Xg _) ?_ rfl ?_
  .exact Aw (by simp -implicitDefEqProofs [Mv])
  rintro i hi;by_cases hlt:i<m.cons.length
  .obtain⟨x,hx⟩:∃x,m.cons[i]?=some x:=⟨_,Xh hlt⟩
   have i1:=hc.iaddr hx .i64;have i2:=kc.iaddr hx .i64;rw[show eQq.z=2 from rfl,show eQq.enc x=[iv x.high,iv x.low]from rfl]at i1 i2;have w1:=HL i (by have:=hs.cons;omega);have eq:=A0w x.high x.low;refine Ao An ?_;simp -implicitDefEqProofs [Mv,Mx.l4,l3,hlt];refine Ao An ?_;simp -implicitDefEqProofs [Mx.l4,My.l4,i1,i2,D2,eq];refine A8 An ?_;simp -implicitDefEqProofs [w1];exact A4.mk (i+1) ⟨hlt,by show m.cons.length-(i+1)<m.cons.length-i;omega⟩ (Aw (by simp -implicitDefEqProofs [Mv]))
  .refine Ao An ?_;simp -implicitDefEqProofs [Mv,Mx.l4,l3,hlt];exact A4.mk () trivial (Aw (by simp -implicitDefEqProofs))
 rintro _ _;refine A8 An ?_;simp -implicitDefEqProofs
theorem R6 (sep:List UInt8):∀{l:List (List UInt8)} {y:List UInt8},y∈l->y.length<=(Cb sep l).length
 | [x],y,h=>by
  rw[X6.1 h];exact Xi _
 | x::z::r,y,h=>by
  rw[QL];simp only[Xr];rcases Xj.1 h with e | h
  .rw[e];omega
  .have:=R6 sep h;omega
theorem A0y {w:Int->List UInt8} {m:Mr} {x:Ep} (hx:x∈m.rels):(Dc w x).length<=(Ky w m).length:=by
 have:=R6 [59,32] (Xf.2 ⟨x,hx,rfl⟩:Dc w x∈m.rels.map (Dc w));unfold Ky;simp only[Xr,Xn];omega
theorem A0z (w:Int->List UInt8) (x:Ep):(wb x.pred).length<=(Dc w x).length:=by
 unfold Dc;simp only[Xr,Xn];omega
theorem A1a (w:Int->List UInt8) {x:Ep} {a:Ag} (ha:a∈x.args):(wb a.role).length<=(Dc w x).length:=by
 have:=R6 [44,32] (Xf.2 ⟨a,ha,rfl⟩:Dw w a∈x.args.map (Dw w));unfold Dc
 have h2:(wb a.role).length<=(Dw w a).length:=by unfold Dw;simp only[Xr,Xn];omega
 simp only[Xr,Xn];omega
theorem O9 {s:ByteArray} (h:s.size<=1000):SmP s:=λraw l he=>by
 have hwl:=Bz s
 have h0:(Dn ((wb s).length+1) ⟨wb s,0,[]⟩).1.e=0:=by rw[he]
 obtain⟨m',seen,hEq,hpl,hsl,hgd,hwf,hw⟩:=Ov (n:=(wb s).length+1) (s:=wb s) (by omega) h0;rw[he]at hEq;injection hEq with e1 e2;injection e1 with _ _ e1;subst e1;subst e2;have hsm:=(Rr (n:=(wb s).length+1) (s:=wb s)).1;rw[he]at hsm;simp only at hsm;have ec:=bB raw
 have hE:∀l:List Ep,l.length<=nE l/\∀x∈l,x.args.length<=nE l:=λl=>by
  induction l with
  | nil=>exact⟨Xi _,λx hx=>by cases hx⟩
  | cons y l ih=>
   rw[nE];refine⟨by rw[Xn];omega,λx hx=>?_⟩;rcases Xj.1 hx with rfl | hx
   .omega
   .have:=ih.2 x hx;omega
 have hr:=hE raw.rels
 obtain⟨w,hw0⟩:∃w:Int->List UInt8,w=λp=>((l[p.toNat]?).map vW).getD []:=⟨_,rfl⟩
 have hww:Wt w l:=λp v hp=>by rw[hw0];simp only[X2];rw[hp];rfl
 have hs:=hw w hww
 have hlen:(Ky w raw).length<=1000:=by rw[<-hs];omega
 have hlim:1000<=lim:=by decide
 refine⟨?_,?_,?_,λx hx=>?_,λx hx=>?_,λt ht=>?_⟩
 .show((upN (Ei (l.map nmV))).map (Bx l)).length<=_;rw[Xe,Cv];have:=Q8 (l.map nmV);rw[Xe]at this;show(D3 (l.map nmV)).length<=_;omega
 .show(raw.rels.map _).length<=_;rw[Xe];omega
 .show(raw.cons.map _).length<=_;rw[Xe];omega
 .obtain⟨y,hy,rfl⟩:=Xf.1 hx;show(y.args.map _).length<=_;rw[Xe];have:=hr.2 y hy;omega
 .obtain⟨y,hy,rfl⟩:=Xf.1 hx;have g:=A0y (w:=w) hy;have g1:=A0z w y;rw[Bz]at g1;refine⟨by show y.pred.size<=_;omega,λa ha=>?_⟩;obtain⟨b,hb,rfl⟩:=Xf.1 ha;have g2:=A1a w hb;rw[Bz]at g2;show b.role.size<=_;omega
 .obtain⟨n,hn,rfl⟩:=Xf.1 ht;unfold Bx
  cases hf:l.find? λv=>decide (nmV v=n)with
  | none=>show(0:Nat)<=_;omega
  | some v=>
   obtain⟨c,hc,_⟩:=(hgd v (List.mem_of_find?_eq_some hf)).sort;show v.sort.size<=_;rw[hc];show(1:Nat)<=_;omega
noncomputable def bY:AE:=cm Tryz.f13 136
theorem A1b {q:Gl}:AQ Xd (G q) 13 0 136 bY [(.tmp 0)]:=fk Tryz.func13 (by kernel_rfl) (by kernel_rfl)
noncomputable def bZ:AE:=cm Tryz.f7 32
theorem A1c {q:Gl}:AQ Xd (G q) 7 1 32 bZ [(.tmp 2)]:=fk Tryz.func7 (by kernel_rfl) (by kernel_rfl)
def exF:List UInt8:=[104,48,32,101,49,32,123,104,50,58,98,97,114,107,40,65,82,71,48,32,101,49,44,32,65,82,71,49,32,120,51,41,59,32,104,50,58,100,111,103,40,65,82,71,48,32,120,51,41,125,32,123,104,48,32,113,101,113,32,104,50,125]
def Fk:Mr:=⟨0,1,[ob [104],ob [101],ob [104],ob [120]],[⟨ob [98,97,114,107],2,[⟨ob [65,82,71,48],1⟩,⟨ob [65,82,71,49],3⟩]⟩,⟨ob [100,111,103],2,[⟨ob [65,82,71,48],3⟩]⟩],[⟨0,2⟩]⟩
def Fl:Mr:=⟨0,1,[ob [104],ob [101],ob [120],ob [104]],[⟨ob [100,111,103],3,[⟨ob [65,82,71,48],2⟩]⟩,⟨ob [98,97,114,107],3,[⟨ob [65,82,71,48],1⟩,⟨ob [65,82,71,49],2⟩]⟩],[⟨0,3⟩]⟩
theorem A1d:DB exF = .ok Fk:=by kernel_rfl
theorem KD:Dl AN Fk=0:=by kernel_rfl
theorem A1e:Dl AN Fl=3:=by kernel_rfl
theorem OA:E7 AN Fl=0:=by kernel_rfl
theorem A1f:QM Fk=exF:=by kernel_rfl
theorem A1g:Dt (Fe Fk (DA Fl)) Fk (DA Fl)=some [1,0]:=by kernel_rfl
theorem A1h:DB [104,48,32,101,49,32,123,125,32,123] = .error 9:=by kernel_rfl
theorem A1i:DB [104,48,32,101,48,49,32,123,125,32,123,125] = .error 8:=by kernel_rfl
theorem A1j:DB [104,48,32,101,48,32,123,125,32,123,125] = .error 17:=by kernel_rfl
theorem A1k:DB [104,48,32,101,50,32,123,125,32,123,125] = .error 3:=by kernel_rfl
theorem A1l:DB [101,48,32,104,49,32,123,125,32,123,125] = .error 2:=by kernel_rfl
theorem A1m:LR (Ir Fk)=slT Ar [ob [98,97,114,107],ob [100,111,103]]:=by
 unfold LR;rw[sI,zw (by decide)]
 kernel_rfl
theorem R7 {m:Mr} (h:E8 AN m) (ha:∀x∈m.rels,x.args.length<=1000) (hs:∀x∈m.rels,x.pred.size<=lim/\∀a∈x.args,a.role.size<=lim):SmM m:=
 ⟨by have:=h.vars;omega,by have:=h.rels;omega,by have:=h.cons;omega,ha,hs,λs hs'=>by
  obtain⟨c,rfl,_⟩:=QR (h.sorts s hs');show(1:Nat)<=_
  decide⟩
theorem OB:SmM Fk:=R7 (LO.1 KD).1 (by decide) (by decide)
theorem c7:SmM Fl:=R7 (Ka.1 OA) (by decide) (by decide)
theorem A1n:SmM (DA Fl):=R7 (VF (Ka.1 OA)) (by decide) (by decide)
noncomputable def gPx:List T->Option T
 | [.v (.string s)]=>if s.size<=1000 then some (I5 (DB (wb s)))else none
 | _=>none
theorem hPx:GOK Xd (G q) 27 gPx:=λargs r hr=>by
 unfold gPx at hr;split at hr
 .rename_i s;split at hr
  .rename_i h;injection hr with hr;subst hr;exact bQ (by omega) (O9 h)
  .cases hr
 .cases hr
theorem KE {s:ByteArray} {l:List UInt8} {r:Except Int Mr} (hs:s=ob l) (hl:l.length<=1000) (h:DB l=r):gPx [.v (.string s)]=some (I5 r):=by
 subst hs
 have e:(ob l).size=l.length:=by rw[<-Bz,Co]
 show(if(ob l).size<=1000 then _ else _)=_;rw[zu (by omega),Co,h]
theorem Mw:K7 Fk (Bm Fk):=⟨Ic _,OB,(LO.1 KD).1,by decide⟩
theorem Mz:K7 (DA Fl) (Bm (DA Fl)):=⟨Ic _,A1n,VF (Ka.1 OA),by decide⟩
theorem A1o (a b c d:ByteArray) (k:Nat):BB tyS 1 [.string ⟨#[]⟩] 4 [(0,.t (sv a)),(1,.t (sv b)),(2,.t (sv c)),(3,.t (sv d))] k=some (.row k 0 4 1,.cells tyS [.t (sv a),.t (sv b),.t (sv c),.t (sv d)]):=rfl
theorem A1p (a b c d:T) (k:Nat):BB tyA 2 [.string ⟨#[]⟩,.int .i64 0] 2 [(0,.t (.ag [a,b])),(1,.t (.ag [c,d]))] k=some (.row k 0 2 2,.cells tyA [.t a,.t b,.t c,.t d]):=rfl
theorem A1q (a b c d e f:PV) (k:Nat):BB AH 3 [.string ⟨#[]⟩,.int .i64 0,.slice none 0 0] 2 [(0,.ag [a,b,c]),(1,.ag [d,e,f])] k=some (.row k 0 2 3,.cells AH [a,b,c,d,e,f]):=rfl
theorem A1r (a b:Int) (k:Nat):BB B0 2 [.int .i64 0,.int .i64 0] 1 [(0,.t (.ag [iv a,iv b]))] k=some (.row k 0 1 2,.cells B0 [.t (iv a),.t (iv b)]):=rfl
theorem A1s (Φ:AP) (H:Ak) (nx:Nat) (r:ByteArray) (v:Int) (k n:Nat):A0 Φ H nx (.build [(0,1),(1,1),(2,1)] [.string ⟨#[]⟩,.int .i64 0,.slice none 0 0] [0,1,2]) [.t (sv r),.t (iv v),.row k 0 n 2]=some (.ag [.t (sv r),.t (iv v),.row k 0 n 2],H,nx):=rfl
theorem A1t (Φ:AP) (H:Ak) (nx:Nat) (v:Int) (a b c d e f:Nat):A0 Φ H nx (.build [(0,1),(1,1),(2,1),(3,1),(4,1)] [.int .i64 0,.int .i64 0,.slice none 0 0,.slice none 0 0,.slice none 0 0] [1,2,3,4]) [.t (iv v),.row a 0 b 1,.row c 0 d 3,.row e 0 f 2]=some (.ag [.t (iv 0),.t (iv v),.row a 0 b 1,.row c 0 d 3,.row e 0 f 2],H,nx):=rfl
theorem A1u (H:Ak) (k:Nat) (a b c d e:PV) (a' b' c' d' e':PV):AO 5 ((k,.cells Ct [a',b',c',d',e'])::H) (.ptr k 0) (.ag [a,b,c,d,e])=some ((k,.cells Ct [a,b,c,d,e])::H):=by
 rw[show AO 5 ((k,.cells Ct [a',b',c',d',e'])::H) (.ptr k 0) (.ag [a,b,c,d,e])=some (Xc ((k,.cells Ct [a',b',c',d',e'])::H) k (.cells Ct (Cj [a',b',c',d',e'] 0 [a,b,c,d,e])))from BF (ns:=[a,b,c,d,e]) (by rw[A9,zu rfl]) rfl rfl (Xi 5)];simp[Xc,Cj]
def exH (M0:Row):Ak:=[(6,.cells Ct [.t (iv 0),.t (iv 1),.row 1 0 4 1,.row 4 0 2 3,.row 5 0 1 2]),(5,.cells B0 [.t (iv 0),.t (iv 3)]),
 (4,.cells AH [.t (sv (ob [100,111,103])),.t (iv 3),.row 2 0 1 2,.t (sv (ob [98,97,114,107])),.t (iv 3),.row 3 0 2 2]),
 (3,.cells tyA [.t (sv (ob [65,82,71,48])),.t (iv 1),.t (sv (ob [65,82,71,49])),.t (iv 2)]),(2,.cells tyA [.t (sv (ob [65,82,71,48])),.t (iv 2)]),
 (1,.cells tyS [.t (sv (ob [104])),.t (sv (ob [101])),.t (sv (ob [120])),.t (sv (ob [104]))]),(0,M0)]
theorem A1v (cM:List T):Aj (Cg (Cg (exH (Br cM)) [2,3]) [1,4,5]) 6=some (Br (Bm Fl))/\Aj (Cg (Cg (exH (Br cM)) [2,3]) [1,4,5]) 0=some (Br cM):=by
 have a1:Aj (Cg (exH (Br cM)) [2,3]) 6=some (.cells Ct [.t (iv 0),.t (iv 1),.row 1 0 4 1,.row 4 0 2 3,.row 5 0 1 2]):=BQ (F:=[2,3]) (c:=6) (by decide) (r:=.cells Ct [.t (iv 0),.t (iv 1),.row 1 0 4 1,.row 4 0 2 3,.row 5 0 1 2]) rfl
 have b1:Aj (Cg (exH (Br cM)) [2,3]) 0=some (Br cM):=by rw[BQ (F:=[2,3]) (c:=0) (r:=Br cM) (by decide) rfl,Oe]
 exact⟨BQ (F:=[1,4,5]) (c:=6) (by decide) a1,by rw[BQ (F:=[1,4,5]) (c:=0) (by decide) b1,Oe]⟩
theorem s_z (k:Nat) (H:Ak):AO 5 ((k,.cells Ct [.t (iv 0),.t (iv 0),.t Au,.t Au,.t Au])::H) (.ptr k 0) (.t (.ag (Bm mr0)))=some ((k,Do)::H):=by
 rw[show(T.ag (Bm mr0)) = .ag [iv 0,iv 0,Au,Au,Au]from rfl,st5 (cs:=[.t (iv 0),.t (iv 0),.t Au,.t Au,.t Au]) (by rw[A9,zu rfl]) rfl];simp[Xc];rfl
theorem A1w:Bc Xd (G q) 13 [] (· = bv true):=by
 have hN:=FG (sU (q:=q) (Ic Fl) c7 (Ka.1 OA).ok);have hM:=FG (ZX (q:=q) Mw.is Mz.is Mw.sm Mz.sm Mw.lo Mz.lo Mw.oc Mz.oc (VG KD).2);have hS:=FG (x4 (q:=q) Mw Mz (VG KD).2);have hP:=FG (tY (q:=q) (Ic Fk) OB (LO.1 KD).1);have hD:=FG (sF (q:=q) (Ic Fk) OB);rw[A1g]at hM hS;rw[show mmT (some [1,0])=T.tu [slT A6 [1,0],bv true]from rfl]at hM;rw[A1f]at hP;rw[A1m]at hD
 obtain⟨cM,hcM⟩:∃cM,cM=Bm Fk:=⟨_,rfl⟩
 obtain⟨cN,hcN⟩:∃cN,cN=Bm Fl:=⟨_,rfl⟩
 obtain⟨cQ,hcQ⟩:∃cQ,cQ=Bm (DA Fl):=⟨_,rfl⟩
 rw[<-hcM]at hM hS hP hD;rw[<-hcN,<-hcQ]at hN;rw[<-hcQ]at hM hS;have C:Ctx Xd (G q) _:=(AB.cons (hPx (q:=q)) (.cons (Qx (q:=q)) (.cons hN (.cons hM (.cons hS (.cons hP (.cons hD .nil))))))).ctx mixed
 obtain⟨B,hB⟩:∃B:ByteArray,B=⟨#[104,48,32,101,49,32,123,104,50,58,98,97,114,107,40,65,82,71,48,32,101,49,44,32,65,82,71,49,32,120,51,41,59,32,104,50,58,100,111,103,40,65,82,71,48,32,120,51,41,125,32,123,104,48,32,113,101,113,32,104,50,125]⟩:=⟨_,rfl⟩
 have hBo:B=ob exF:=hB
 have g1:gPx [.v (.string B)]=some (.tu [.ag cM,iv 0]):=by
  rw[KE hBo (by decide) A1d,hcM];rfl
 have g6:=KE (s:=⟨#[104,48,32,101,49,32,123,125,32,123]⟩) rfl (by decide) A1h;have g7:=KE (s:=⟨#[104,48,32,101,48,49,32,123,125,32,123,125]⟩) rfl (by decide) A1i;have g8:=KE (s:=⟨#[104,48,32,101,48,32,123,125,32,123,125]⟩) rfl (by decide) A1j;have g9:=KE (s:=⟨#[104,48,32,101,50,32,123,125,32,123,125]⟩) rfl (by decide) A1k;have g10:=KE (s:=⟨#[101,48,32,104,49,32,123,125,32,123,125]⟩) rfl (by decide) A1l;simp only[I5]at g6 g7 g8 g9 g10;refine A1b.call rfl ?_;(conv in bY=>cbv);rw[<-hB];refine Ao C ?_;simp -implicitDefEqProofs
 obtain⟨M0,hM0⟩:∃M0,M0=Br cM:=⟨_,rfl⟩
 have s1:∀H,AO 5 ((0,.cells Ct [.t (iv 0),.t (iv 0),.t Au,.t Au,.t Au])::H) (.ptr 0 0) (.t (.ag cM))=some ((0,M0)::H):=λH=>by
  rw[hM0,hcM,Bm,st5 (cs:=[.t (iv 0),.t (iv 0),.t Au,.t Au,.t Au]) (by rw[A9,zu rfl]) rfl];simp[Xc]
 refine Ao C ?_;simp -implicitDefEqProofs [g1,s1];refine Ao C ?_;simp -implicitDefEqProofs [A1o,A1p,A1q,A1r,Rn,QA,QB,A1s,A1t,A1u,-BU];refine MC.sub (s':=⟨[(3,.ptr 6 0),(2,.t (iv 0)),(1,.ptr 0 0)],exH M0,7,136⟩) (Aw (by simp -implicitDefEqProofs)) rfl ?_;refine MC.sub (s':=⟨[(3,.ptr 6 0),(2,.t (iv 0)),(1,.ptr 0 0)],Cg (exH M0) [2,3],7,136⟩) (F8 [2,3] (by simp -implicitDefEqProofs [EA,FA])) rfl ?_;refine MC.sub (s':=⟨[(3,.ptr 6 0),(2,.t (iv 0)),(1,.ptr 0 0)],Cg (Cg (exH M0) [2,3]) [1,4,5],7,136⟩) (F8 [1,4,5] (by simp -implicitDefEqProofs [EA,FA])) rfl ?_;obtain⟨z6,z0⟩:=A1v cM;rw[<-hM0,<-hcN]at z6;rw[<-hM0]at z0
 obtain⟨N0,hN0⟩:∃N0,N0=Br cN:=⟨_,rfl⟩
 rw[<-hN0]at z6;refine MC.sub (s':=⟨[(3,.ptr 6 0),(2,.t (iv 0)),(1,.ptr 0 0)],[(6,N0),(0,M0)],7,136⟩) (CN rfl rfl (by simp[Aj]) (by simp[z6,z0])) rfl ?_
 have lM:∀H,Aj H 0=some M0->AD true 5 H (.ptr 0 0)=some (.t (.ag cM)):=λH h=>by
  rw[hcM];exact(ldM (by rw[h,hM0,hcM];rfl)).all
 have lN:∀H,Aj H 6=some N0->AD true 5 H (.ptr 6 0)=some (.t (.ag cN)):=λH h=>by
  rw[hcN];exact(ldM (by rw[h,hN0,hcN];rfl)).all
 have lM0:=lM [(6,N0),(0,M0)] rfl;have lN0:=lN [(6,N0),(0,M0)] rfl;have eN:=Gg [.ag cN] (.ag cQ);have eM:=Gg [.ag cM,.ag cQ] (T.tu [slT A6 [1,0],bv true]);have eS:=Gg [.ag cM,.ag cQ] (bv true);have eP:=Gg [.ag cM] (sv (ob exF));have eD:=Gg [.ag cM] (slT Ar [ob [98,97,114,107],ob [100,111,103]]);refine Ao C ?_;simp -implicitDefEqProofs [lM0,lN0,eN,eM];refine MC.sub (s':=⟨[(5,.t (bv true)),(4,.t (slT A6 [1,0])),(3,.ptr 6 0),(2,.t (iv 0)),(1,.ptr 0 0)],[(6,N0),(0,M0)],7,136⟩) (Aw (by simp -implicitDefEqProofs)) rfl ?_;refine Ao C ?_;simp -implicitDefEqProofs [g6,s_z];refine MC.sub (s':=⟨[(7,.t (iv 9)),(5,.t (bv true)),(4,.t (slT A6 [1,0])),(3,.ptr 6 0),(2,.t (iv 0)),(1,.ptr 0 0)],[(6,N0),(0,M0)],8,136⟩) (CN rfl rfl (by simp[Aj]) (by simp[Aj])) rfl ?_;refine Ao C ?_;simp -implicitDefEqProofs [g7,s_z];refine MC.sub (s':=⟨[(9,.t (iv 8)),(7,.t (iv 9)),(5,.t (bv true)),(4,.t (slT A6 [1,0])),(3,.ptr 6 0),(2,.t (iv 0)),(1,.ptr 0 0)],[(6,N0),(0,M0)],9,136⟩) (CN rfl rfl (by simp[Aj]) (by simp[Aj])) rfl ?_;refine Ao C ?_;simp -implicitDefEqProofs [g8,s_z];refine MC.sub (s':=⟨[(11,.t (iv 17)),(9,.t (iv 8)),(7,.t (iv 9)),(5,.t (bv true)),(4,.t (slT A6 [1,0])),(3,.ptr 6 0),(2,.t (iv 0)),(1,.ptr 0 0)],[(6,N0),(0,M0)],10,136⟩) (CN rfl rfl (by simp[Aj]) (by simp[Aj])) rfl ?_;refine Ao C ?_;simp -implicitDefEqProofs [g9,s_z];refine MC.sub (s':=⟨[(13,.t (iv 3)),(11,.t (iv 17)),(9,.t (iv 8)),(7,.t (iv 9)),(5,.t (bv true)),(4,.t (slT A6 [1,0])),(3,.ptr 6 0),(2,.t (iv 0)),(1,.ptr 0 0)],[(6,N0),(0,M0)],11,136⟩) (CN rfl rfl (by simp[Aj]) (by simp[Aj])) rfl ?_;refine Ao C ?_;simp -implicitDefEqProofs [g10,s_z];refine MC.sub (s':=⟨[(15,.t (iv 2)),(13,.t (iv 3)),(11,.t (iv 17)),(9,.t (iv 8)),(7,.t (iv 9)),(5,.t (bv true)),(4,.t (slT A6 [1,0])),(3,.ptr 6 0),(2,.t (iv 0)),(1,.ptr 0 0)],[(6,N0),(0,M0)],12,136⟩) (CN rfl rfl (by simp[Aj]) (by simp[Aj])) rfl ?_;refine Ao C ?_;simp -implicitDefEqProofs [lM0,eD];refine MC.sub (s':=⟨[(16,.t (slT Ar [ob [98,97,114,107],ob [100,111,103]])),(15,.t (iv 2)),(13,.t (iv 3)),(11,.t (iv 17)),(9,.t (iv 8)),(7,.t (iv 9)),(5,.t (bv true)),(4,.t (slT A6 [1,0])),(3,.ptr 6 0),(2,.t (iv 0)),(1,.ptr 0 0)],[(6,N0),(0,M0)],12,136⟩) (Aw (by simp -implicitDefEqProofs)) rfl ?_
 have c1:Kk [.ag cM]=some (iv 0):=by
  have:=Il (λm=>iv (Dl AN m)) (Ic Fk) OB;rw[KD,<-hcM]at this;exact this
 have c2:Kk [.ag cN]=some (iv 3):=by
  have:=Il (λm=>iv (Dl AN m)) (Ic Fl) c7;rw[A1e,<-hcN]at this;exact this
 rw[<-hBo]at eP hP;have ln1:CV (.t (slT A6 [1,0]))=some (.t (iv 2)):=rfl;have ln2:CV (.t (slT Ar [ob [98,97,114,107],ob [100,111,103]]))=some (.t (iv 2)):=rfl;have ia0:BN 1 (.t (slT A6 [1,0])) (.t (.v (.int .i64 0)))=some (.t (.pt [iv 1,iv 0])):=rfl;have ia1:BN 1 (.t (slT A6 [1,0])) (.t (.v (.int .i64 1)))=some (.t (.pt [iv 0])):=rfl;have ia2:BN 1 (.t (slT Ar [ob [98,97,114,107],ob [100,111,103]])) (.t (.v (.int .i64 0)))=some (.t (.pt [sv (ob [98,97,114,107]),sv (ob [100,111,103])])):=rfl
 have dB:((ob [98,97,114,107]).toList==(⟨#[98,97,114,107]⟩:ByteArray).toList)=true:=by
  rw[show ob [98,97,114,107]=⟨#[98,97,114,107]⟩from rfl];exact beq_self_eq_true _
 have CE:Ctx Xd (G q) _:=(AB.cons (Qx (q:=q)) (.cons hN (.cons hS (.cons hP .nil)))).ctx mixed;refine A8 CE ?_;simp -implicitDefEqProofs [lM0,lN0,c1,c2,eN,eS,eP,ln1,ln2,ia0,ia1,ia2,lp,dB]
theorem A1x {s:List UInt8} {m raw:Mr} {l:List Vr} (h:DB s = .ok m) (hf:Dn (s.length+1) ⟨s,0,[]⟩=(⟨[],0,l⟩,raw)):m=GJ raw l:=by
 unfold DB at h;split at h
 .cases h
 rw[hf]at h;simp only at h;rw[zw (by simp)]at h;exact(tM h).1
section
variable {m : Mr} {cs : List T}
theorem sM {cs:List T} (h5:cs.length=5) (k:Nat) (H:Ak):AO 5 ((k,.cells Ct [.t (iv 0),.t (iv 0),.t Au,.t Au,.t Au])::H) (.ptr k 0) (.t (.ag cs))=some ((k,Br cs)::H):=by
 match cs,h5 with
 | [a,b,c,d,e],_=>
  rw[st5 (cs:=[.t (iv 0),.t (iv 0),.t Au,.t Au,.t Au]) (by rw[A9,zu rfl]) rfl];simp[Xc]
theorem lM5 {cs:List T} (h5:cs.length=5) {H:Ak} {k:Nat} (hk:Aj H k=some (Br cs)):AD true 5 H (.ptr k 0)=some (.t (.ag cs)):=by
 match cs,h5 with
 | [a,b,c,d,e],_=>exact(ldM hk).all
theorem hEx:GOK Xd (G q) 13 (Iz [] (bv true)):=FG A1w
end
end Go.Proofs.YtmgjopafgboljaaGreatDoor
