/-
 Auxiliary facts. No statement of the program stands here.
-/
import Derived.Test.YtbiadmfmjnoecaaVPQ29
import Derived.Test.YtbiadmfmjnoecaaVPQ28
import Derived.Test.YtbiadmfmjnoecaaVPQ13
namespace Go.Proofs.Ytbiadmfmjnoecaa
set_option linter.unusedSimpArgs false
set_option linter.unusedVariables false
open Go Go.Abs
structure Td (a:List Nd) (out todo:List Int):Prop where
 at':∀(j:Nat) n,todo[j]?=some n->0<=n/\n<(a.length:Int)/\0<=nAt out n.toNat
 mem:∀n:Nat,n<a.length->0<=nAt out n->(n:Int)∈todo
 sum:todo.length+negs out=a.length
theorem Td.all {nt nf:Nat} {ty:List Typ} {a b:List Nd} {out todo:List Int} (ha:A2j nt nf a) (hp:PM ty a b out) (h:Td a out todo) (hd:∀(j:Nat) n,todo[j]?=some n->Done ty a b out n.toNat):∀i,i<a.length->Done ty a b out i:=by
 have key:∀i,i<a.length->(i:Int)∈todo:=by
  intro i
  induction i using Nat.strongRecOn with
  | ind i ih=>
   intro hi
   by_cases h0:i=0
   ·exact h.mem i hi (by rw[h0,hp.root];omega)
   ·obtain⟨j,z,c,h1,h2,h3,h4⟩:=ha.par (by omega:0<i) hi
    obtain⟨t,ht,e⟩:=List.getElem_of_mem (ih j h1 (by omega))
    have:=hd t _ (by rw[List.getElem?_eq_getElem ht,e])
    have:=((this.arc z (by rw[Int.toNat_natCast];exact h2) c h3).2)
    have e2:c.to.toNat=i:=by omega
    rw[e2]at this
    exact h.mem i hi this
 intro i hi
 obtain⟨t,ht,e⟩:=List.getElem_of_mem (key i hi)
 have:=hd t _ (by rw[List.getElem?_eq_getElem ht,e])
 simpa using this
theorem Td.put {a:List Nd} {out todo:List Int} (hl:out.length=a.length) (h:Td a out todo) {n:Nat} (hn:nAt out n<0) {v:Int} (hv:0<=v):Td a (out.set n v) (todo++[(n:Int)]):=by
 have hlt:=E2g hn
 have hs:∀j,nAt (out.set n v) j=if j=n then v else nAt out j:=fun j=>C6g hlt
 refine⟨fun j m hj=>?_,fun m hm hp=>?_,?_⟩
 ·rw[List.getElem?_append]at hj
  split at hj
  ·obtain⟨h1,h2,h3⟩:=h.at' j m hj
   refine⟨h1,h2,?_⟩
   rw[hs]
   split<;>omega
  ·have h0:j-todo.length=0:=by
    have:=(List.getElem?_eq_some_iff.1 hj).1
    simp at this
    omega
   rw[h0]at hj
   simp at hj
   subst hj
   refine⟨by omega,by omega,?_⟩
   rw[hs,Int.toNat_natCast,if_pos rfl]
   exact hv
 ·rw[hs]at hp
  split at hp
  ·rename_i e
   subst e
   simp
  ·exact List.mem_append_left _ (h.mem m hm hp)
 ·have:=h.sum
  have:=D2a hn hv
  simp only[List.length_append,List.length_cons,List.length_nil]
  omega
theorem F6c {nt nf:Nat} {a:List Nd} (ha:A2j nt nf a):Td a ((rep a.length).set 0 0) [0]:=by
 have hpos:=ha.form.pos
 have h0:nAt (rep a.length) 0<0:=by unfold rep;rw[C6h hpos];omega
 have e:((rep a.length).set 0 0,[(0:Int)])=((rep a.length).set 0 0,([]:List Int)++[((0:Nat):Int)]):=rfl
 have:=Td.put (a:=a) (out:=rep a.length) (todo:=[]) (by simp[rep]) ⟨fun j n h=>by simp at h,fun n hn hp=>by unfold rep at hp;rw[C6h hn]at hp;omega,by unfold rep;rw[D2c];simp⟩ h0 (v:=0) (by omega)
 exact this
def B7i (n j:Nat):List Int:=0::B1t (n-1) j
theorem F1u {n j:Nat} (h0:0<n) (h:j+1<=n):(B7i n j).length=n:=by
 simp only[B7i,List.length_cons,D6d (show j<=n-1 by omega)]
 omega
theorem E6p {n:Nat} (h0:0<n):B7i n 0=List.replicate n 0:=by
 unfold B7i
 rw[D0m]
 obtain⟨k,rfl⟩:∃k,n=k+1:=⟨n-1,by omega⟩
 rw[List.replicate_succ]
 rfl
theorem F1v {n:Nat} (h0:0<n):B7i n (n-1)=(rep n).set 0 0:=by
 unfold B7i
 rw[D6e]
 obtain⟨k,rfl⟩:∃k,n=k+1:=⟨n-1,by omega⟩
 simp[rep,List.replicate_succ]
theorem F1w {n j:Nat} (h:j+1<n):(B7i n j).set (j+1) (-1)=B7i n (j+1):=by
 unfold B7i
 rw[List.set_cons_succ,D6f (by omega)]
noncomputable def tw14:Tbl:=[(55,gHS),(56,F1q)]
theorem A5m:Ctx Try.prog G (orc tw14):=(A1q.cons F5z (.cons F6a .nil)).ctx A1w
def S19a (tt tf ta tb:T) (n j:Nat):A0b:=⟨[(9,.t (iv (j:Int))),(8,rowP eInt 3 (B7i n (j-1))),(5,.ptr 2 0),(4,.ptr 1 0),(3,.ptr 0 0)],R18 tt tf ta tb++rowH eInt 3 3 (B7i n (j-1)),4,123⟩
def S19 (tt tf ta tb:T) (s:Nat×List Int×List Int):A0b:=⟨[(11,.t (iv (s.1:Int))),(10,rowP eInt 4 s.2.2),(8,rowP eInt 3 s.2.1),(5,.ptr 2 0),(4,.ptr 1 0),(3,.ptr 0 0)],R18 tt tf ta tb++(rowH eInt 3 3 s.2.1++rowH eInt 3 4 s.2.2),5,123⟩
def E19 (m:List Int):A0b:=⟨[(8,rowP eInt 3 m)],rowH eInt 3 3 m,4,123⟩
def S19i (tt tf ta tb:T) (i:Nat) (n:Nat) (x:Nd) (s:Nat×List Int×List Int):A0b:=
 ⟨[(14,.t (iv (s.1:Int))),(13,.t x.tree),(12,.t (iv (n:Int))),(11,.t (iv (i:Int))),(10,rowP eInt 4 s.2.2),(8,rowP eInt 3 s.2.1),(5,.ptr 2 0),(4,.ptr 1 0),(3,.ptr 0 0)],R18 tt tf ta tb++(rowH eInt 3 3 s.2.1++rowH eInt 3 4 s.2.2),5,123⟩
theorem G1r {tt tf ta tb:T} {H:Heap} {k:Nat} (hk:3<=k) (h0:Abs.look H 0=some (.cells 29 [.t tt,.t tf])) (h1:Abs.look H 1=some (.cells 25 [.t ta])) (h2:Abs.look H 2=some (.cells 25 [.t tb])) :
  ∀q∈R18 tt tf ta tb,Abs.look H q.1=some (A2k (fun x=>if x=4 then k else x) q.2)/\q.1<5/\q.1≠4/\q.1≠k/\A1b 5 q.2=true:=by
 intro q hq
 simp only[R18,List.mem_cons,List.not_mem_nil,or_false]at hq
 rcases hq with rfl | rfl | rfl
 ·exact⟨h0,by omega,by omega,by show 0≠k;omega,rfl⟩
 ·exact⟨h1,by omega,by omega,by show 1≠k;omega,rfl⟩
 ·exact⟨h2,by omega,by omega,by show 2≠k;omega,rfl⟩
structure At19 (tt tf ta tb:T) (out todo:List Int) (k:Nat) (H:Heap):Prop where
 h0:Abs.look H 0=some (.cells 29 [.t tt,.t tf])
 h1:Abs.look H 1=some (.cells 25 [.t ta])
 h2:Abs.look H 2=some (.cells 25 [.t tb])
 out:A0j eInt 3 H 3 out
 todo:A0j eInt 3 H k todo
theorem At19.mk' (tt tf ta tb:T) (out todo:List Int):At19 tt tf ta tb out todo 4 (R18 tt tf ta tb++(rowH eInt 3 3 out++rowH eInt 3 4 todo)) where
 h0:=rfl
 h1:=rfl
 h2:=rfl
 out:=A0j.right (A0j.head _ _ _ _ _) (by simp[R18])
 todo:=A0j.right ((A0j.head' _ _ _ _).left (by omega)) (by simp[R18])
theorem At19.sub {P:Program} {tt tf ta tb:T} {out todo:List Int} {k nx:Nat} {H:Heap} (h:At19 tt tf ta tb out todo k H) (hk:4<=k) {env env':List (Nat×PV)} {n:Nat}
  (he:∀q∈env',Abs.look env q.1=some (ren (fun x=>if x=4 then k else x) q.2)/\under 5 q.2=true):Sub P G 0 ⟨env,H,nx,n⟩ ⟨env',R18 tt tf ta tb++(rowH eInt 3 3 out++rowH eInt 3 4 todo),5,n⟩:=
 B3i h.todo h.out (by omega) (by omega) (by omega) (by omega) (by omega) (G1r (by omega) h.h0 h.h1 h.h2) he
set_option maxRecDepth 100000 in
set_option maxHeartbeats 4000000 in
theorem F1x {tt tf ta tb:T} {ty:List Typ} {fe:List Ft} {a b:List Nd} (hT:IsS eTyp tt ty) (hF:IsS eFt tf fe) (hta:IsS eNd ta a) (htb:IsS eNd tb b) (hok:TyOK ty) (ha:A2j ty.length fe.length a) (hb:A2j ty.length fe.length b) (sa:A3a a) (sb:A3a b) :
  A0y Try.prog G 19 [.ag [tt,tf],.ag [ta],.ag [tb]] (· = mapT ty a b):=by
 have cph:A0s (.t (.ag [tt,tf]))=some [.t tt,.t tf]:=rfl
 have cpa:A0s (.t (.ag [ta]))=some [.t ta]:=rfl
 have cpb:A0s (.t (.ag [tb]))=some [.t tb]:=rfl
 have agh:agOf [.t tt,.t tf] = .t (.ag [tt,tf]):=rfl
 have agb:agOf [.t tb] = .t (.ag [tb]):=rfl
 have hpos:=ha.form.pos
 have hal:=sa.len
 have hz:eInt.z=1:=rfl
 refine D4i.call rfl ?_
 unfold C4c
 refine A0a A5m ?_
 simp -implicitDefEqProofs [cph,cpa,cpb]
 refine A0a A5m ?_
 simp -implicitDefEqProofs [A0h,hta.len,E2p (nx:=3) hpos (by omega:a.length<=1000000)]
 have hfl:∀{j},j+1<=a.length->(B7i a.length j).length=a.length:=fun h=>F1u hpos h
 refine A0q (fun _:Unit=>S19a tt tf ta tb a.length a.length) (fun _=>True) (fun _=>rfl) ?_ ?_
 ·refine A0a A5m ?_
  simp -implicitDefEqProofs
  refine A0g ?_
  refine A1r (S19a tt tf ta tb a.length) (fun j=>a.length-j) (fun j=>1<=j/\j<=a.length) 1 (fun _=>rfl) ⟨Nat.le_refl _,hpos⟩ ?_ rfl ?_
  ·have h0:B7i a.length (1-1)=List.replicate a.length 0:=E6p hpos
   unfold S19a
   rw[h0]
   exact sub_rowR (k:=3) (.inr rfl) (by omega) (by omega) (D0n (by omega) rfl rfl rfl) (by simp -implicitDefEqProofs [A0f,A0e,ren,under])
  ·rintro j ⟨hj1,hj2⟩
   have hl:=hfl (j:=j-1) (by omega)
   obtain⟨g,hg⟩:∃g,g=B7i a.length (j-1):=⟨_,rfl⟩
   rw[<-hg]at hl
   obtain⟨H0,hH0⟩:∃H0,H0=R18 tt tf ta tb++rowH eInt 3 3 g:=⟨_,rfl⟩
   have r3:A0j eInt 3 H0 3 g:=by rw[hH0];exact A0j.right (A0j.head' _ _ _ _) (by simp[R18])
   by_cases hj:j<a.length
   ·have e1:IntKind.i64.wrap ((j:Int)+1)=((j+1:Nat):Int):=A0k (by omega) (by omega)
    have hjl:j<g.length:=by omega
    have ia:=A5l (b:=3) hjl
    have st:=B3n r3 hjl (-1)
    have hu:=A0j.upd_int r3 hjl (-1)
    have hset:g.set j (-1)=B7i a.length (j+1-1):=by
     obtain⟨i,rfl⟩:∃i,j=i+1:=⟨j-1,by omega⟩
     rw[hg]
     exact F1w hj
    have hrow:rowP eInt 3 g=rowP eInt 3 (g.set j (-1)):=B1e _ _ (by simp)
    have st:A1e 1 H0 (.ptr 3 j) (.t (.v (.int .i64 (-1))))=_:=st
    refine A0c A5m ?_
    simp -implicitDefEqProofs [S19a,<-hg,<-hH0,hj,A1o,hl,ia,st,e1]
    refine Next.mk (j+1) ⟨⟨by omega,by omega⟩,by omega⟩ ?_
    unfold S19a
    rw[<-hset]
    refine sub_rowR (b:=3) (k:=3) (nx':=4) hu (by omega) (by omega) (D0n (by omega) ?_ ?_ ?_) (by simp -implicitDefEqProofs [A0f,A0e,ren,under,hrow])
    ·rw[A0o,if_neg (by omega),hH0];rfl
    ·rw[A0o,if_neg (by omega),hH0];rfl
    ·rw[A0o,if_neg (by omega),hH0];rfl
   ·have e:j=a.length:=by omega
    subst e
    refine A0c A5m ?_
    simp -implicitDefEqProofs [S19a,<-hg,<-hH0,A1o,hl]
    exact Next.mk () trivial (A4n (by simp -implicitDefEqProofs))
 ·rintro _ -
  have bs:A1l 3 1 [.int .i64 0] 1 [(0,.t (.v (.int .i64 0)))] 4=some (.row 4 0 1 1,.cells 3 [.t (iv 0)]):=rfl
  refine A0a A5m ?_
  unfold S19a
  rw[F1v hpos]
  obtain⟨H0,hH0⟩:∃H0,H0=R18 tt tf ta tb++rowH eInt 3 3 ((rep a.length).set 0 0):=⟨_,rfl⟩
  have r3:A0j eInt 3 H0 3 ((rep a.length).set 0 0):=by rw[hH0];exact A0j.right (A0j.head' _ _ _ _) (by simp[R18])
  rw[<-hH0]
  simp -implicitDefEqProofs [bs]
  have at0:At19 tt tf ta tb ((rep a.length).set 0 0) [0] 4 ((4,.cells 3 [.t (iv 0)])::H0):=by
   refine⟨?_,?_,?_,r3.cons (by omega),.inr rfl⟩
   ·rw[look_cons,if_neg (by omega),hH0];rfl
   ·rw[look_cons,if_neg (by omega),hH0];rfl
   ·rw[look_cons,if_neg (by omega),hH0];rfl
  refine A0q E19 (fun m=>Mor ty a b m) (fun _=>rfl) ?_ ?_
  ·refine A0a A5m ?_
   simp -implicitDefEqProofs
   refine A0g ?_
   refine A1r (S19 tt tf ta tb) (fun s=>a.length-s.1) (fun s=>s.1<=s.2.2.length/\PM ty a b s.2.1/\Td a s.2.1 s.2.2/\∀(j:Nat) n,j<s.1->s.2.2[j]?=some n->Done ty a b s.2.1 n.toNat) (0,(rep a.length).set 0 0,[0]) (fun _=>rfl) ⟨by simp,E2q ha hb,F6c ha,fun j n hj=>by simp at hj⟩ ?_ rfl ?_
   ·have rp:rowP eInt 4 [(0:Int)] = .row 4 0 1 1:=rfl
    exact at0.sub (by omega) (by simp -implicitDefEqProofs [rp,A0f,A0e,ren,under])
   ·rintro⟨i,out,todo⟩ ⟨hi,hpm,htd,hdone⟩
    simp only at hi hpm htd hdone
    obtain⟨Hm,hHm⟩:∃Hm,Hm=R18 tt tf ta tb++(rowH eInt 3 3 out++rowH eInt 3 4 todo):=⟨_,rfl⟩
    have am:At19 tt tf ta tb out todo 4 Hm:=by rw[hHm];exact At19.mk' _ _ _ _ _ _
    have htl:todo.length<=a.length:=by have:=htd.sum;omega
    by_cases hlt:i<todo.length
    ·obtain⟨n0,hn0⟩:∃n0,todo[i]?=some n0:=⟨_,List.getElem?_eq_getElem hlt⟩
     obtain⟨q1,q2,hkp⟩:=htd.at' i n0 hn0
     obtain⟨n,rfl⟩:∃n:Nat,n0=(n:Int):=⟨n0.toNat,by omega⟩
     rw[Int.toNat_natCast]at hkp
     have hna:n<a.length:=by omega
     obtain⟨x,hx⟩:∃x,a[n]?=some x:=⟨_,List.getElem?_eq_getElem hna⟩
     have hxm:=List.mem_of_getElem? hx
     have hxa:=sa.arcs x hxm
     obtain⟨k,hk⟩:∃k:Nat,nAt out n=(k:Int):=⟨(nAt out n).toNat,by omega⟩
     have hkb:k<b.length:=by
      rcases hpm.val n with h | ⟨_,h⟩<;>omega
     obtain⟨y,hy⟩:∃y,b[k]?=some y:=⟨_,List.getElem?_eq_getElem hkb⟩
     have hym:=List.mem_of_getElem? hy
     have hnd:ndAt b (nAt out n)=y:=by rw[hk];exact B3l hy
     have e1:IntKind.i64.wrap ((i:Int)+1)=((i+1:Nat):Int):=A0k (by omega) (by omega)
     have hnl:n<out.length:=by rw[hpm.len];exact hna
     have ix:=A9o hta hx
     have iy:=A9o htb hy
     have iat:=A5l (b:=4) hlt
     have ldt:=B1f am.todo hlt
     rw[F1m hn0]at ldt
     have iao:=A5l (b:=3) hnl
     have ldo:=B1f am.out hnl
     rw[hk]at ldo
     have ldh:A0h true 2 Hm (.ptr 0 0)=some (.t (.ag [tt,tf])):=by simp[A0h,am.h0,agh]
     have lda:A0h false 1 Hm (.ptr 1 0)=some (.t ta):=by simp[A0h,am.h1]
     have ldb:A0h false 1 Hm (.ptr 2 0)=some (.t tb):=by simp[A0h,am.h2]
     have lp:∀c cs,A0h false 1 Hm (.t (.pt (c::cs)))=some (.t c):=fun _ _=>rfl
     have gh:=E2m (s:=x.type) (t:=y.type) hT hF hok ⟨ha.form.type x hxm,ha.type x hxm⟩ ⟨hb.form.type y hym,hb.type y hym⟩
     refine A0a A5m ?_
     simp -implicitDefEqProofs [S19,<-hHm,hlt,A1o]
     refine A0q (fun s:List Int×List Int=>S19 tt tf ta tb (i,s)) (fun s=>i+1<=s.2.length/\PM ty a b s.1/\Td a s.1 s.2/\∀(j:Nat) n,j<i+1->s.2[j]?=some n->Done ty a b s.1 n.toNat) (fun _=>rfl) ?_ ?_
     ·refine A0g ?_
      refine A0a A5m ?_
      simp -implicitDefEqProofs [iat,ldt]
      cases hs:hsub ty x.type y.type with
      | false=>
       rw[hs]at gh
       have hres:=B9d (hpm.bad_type hx hkp (by rw[hnd];exact hs))
       refine A0a A5m ?_
       simp -implicitDefEqProofs [ldh,lda,ix,lp,ldb,iao,ldo,iy,tw14,gh,hres]
      | true=>
       rw[hs]at gh
       refine A0a A5m ?_
       simp -implicitDefEqProofs [ldh,lda,ix,lp,ldb,iao,ldo,iy,tw14,gh]
       refine A0a A5m ?_
       simp -implicitDefEqProofs [lda,ix,lp]
       refine A0a A5m ?_
       simp -implicitDefEqProofs
       refine A0g ?_
       refine A1r (S19i tt tf ta tb i n x) (fun s=>x.arcs.length-s.1) (fun s=>s.1<=x.arcs.length/\PM ty a b s.2.1/\Td a s.2.1 s.2.2/\(∀(j:Nat) n,j<i->s.2.2[j]?=some n->Done ty a b s.2.1 n.toNat)/\s.2.2[i]?=some (n:Int)/\nAt s.2.1 n=(k:Int)/\∀c∈x.arcs.take s.1,tgt y c.feat=nAt s.2.1 c.to.toNat/\0<=nAt s.2.1 c.to.toNat) (0,out,todo) (fun _=>rfl) ⟨by simp,hpm,htd,hdone,hn0,hk,fun c hc=>by simp at hc⟩ ?_ rfl ?_
       ·exact am.sub (by omega) (by simp -implicitDefEqProofs [A0f,A0e,ren,under])
       ·rintro⟨q,w,tl⟩ ⟨hq,hw,hwt,hdw,hti,hkw,harc⟩
        simp only at hq hw hwt hdw hti hkw harc
        obtain⟨Hw,hHw⟩:∃Hw,Hw=R18 tt tf ta tb++(rowH eInt 3 3 w++rowH eInt 3 4 tl):=⟨_,rfl⟩
        have aw:At19 tt tf ta tb w tl 4 Hw:=by rw[hHw];exact At19.mk' _ _ _ _ _ _
        have hwi:0<=nAt w n:=by omega
        have hndw:ndAt b (nAt w n)=y:=by rw[hkw];exact B3l hy
        have htll:tl.length<=a.length:=by have:=hwt.sum;omega
        by_cases hql:q<x.arcs.length
        ·obtain⟨c,hc⟩:∃c,x.arcs[q]?=some c:=⟨_,List.getElem?_eq_getElem hql⟩
         have hcm:=List.mem_of_getElem? hc
         have ic:=A4d x.ok hc
         obtain⟨h0,h1⟩:=ha.form.to x hxm c hcm
         obtain⟨n',hn'⟩:∃n':Nat,c.to=(n':Int):=⟨c.to.toNat,by omega⟩
         have hn2:c.to.toNat=n':=by omega
         have hnl':n'<w.length:=by rw[hw.len];omega
         have hnw:n<w.length:=by rw[hw.len];exact hna
         have e2:IntKind.i64.wrap ((q:Int)+1)=((q+1:Nat):Int):=A0k (by omega) (by omega)
         have gt:=E2o htb hy (sb.arcs y hym) c.feat
         rw[hn']at ic
         obtain⟨to,hto⟩:∃to,to=tgt y c.feat:=⟨_,rfl⟩
         have hstep:=D6c hb hym c.feat
         rw[<-hto]at hstep
         have hto':tgt (ndAt b (nAt w n)) c.feat=to:=by rw[hndw,hto]
         have iaw:=A5l (b:=3) hnw
         have ldw:=B1f aw.out hnw
         rw[hkw]at ldw
         have ldbw:A0h true 1 Hw (.ptr 2 0)=some (.t (.ag [tb])):=by simp[A0h,aw.h2,agb]
         have lpw:∀c cs,A0h false 1 Hw (.t (.pt (c::cs)))=some (.t c):=fun _ _=>rfl
         have ian:=A5l (b:=3) hnl'
         have ldn:=B1f aw.out hnl'
         have go:0<=to->(nAt w n'<0\/nAt w n'=to)->PM ty a b (w.set n' to)/\More w (w.set n' to)/\nAt (w.set n' to) n'=to:=by
          intro ht hor
          obtain⟨p1,p2,p3⟩:=hw.put ha hb hx hwi hcm (by rw[hto'];exact ht) (by rw[hto',hn2];exact hor)
          rw[hto',hn2]at p1 p2 p3
          exact⟨p1,p2,p3⟩
         have arcs':∀w1,More w w1->nAt w1 n'=to->0<=to->∀c∈x.arcs.take (q+1),tgt y c.feat=nAt w1 c.to.toNat/\0<=nAt w1 c.to.toNat:=by
          intro w1 p2 p3 ht c' hc'
          rw[List.take_add_one,hc]at hc'
          rcases List.mem_append.1 hc' with h | h
          ·obtain⟨h3,h4⟩:=harc c' h
           rw[p2 _ h4]
           exact⟨h3,h4⟩
          ·simp at h
           subst h
           rw[hn2,p3,<-hto]
           exact⟨rfl,ht⟩
         refine A0a A5m ?_
         simp -implicitDefEqProofs [S19i,<-hHw,hql,x.ok.len]
         refine A0q (fun s:List Int×List Int=>S19i tt tf ta tb i n x (q,s)) (fun s=>PM ty a b s.1/\Td a s.1 s.2/\(∀(j:Nat) n,j<i->s.2[j]?=some n->Done ty a b s.1 n.toNat)/\s.2[i]?=some (n:Int)/\nAt s.1 n=(k:Int)/\∀c∈x.arcs.take (q+1),tgt y c.feat=nAt s.1 c.to.toNat/\0<=nAt s.1 c.to.toNat) (fun _=>rfl) ?_ ?_
         ·refine A0g ?_
          rcases hstep with⟨ht,hst⟩ | ⟨ht,hst⟩
          ·rw[hst]at gt
           have hres:=B9d (hw.bad_arc ha hx hwi hcm (by rw[hto'];exact ht))
           refine A0a A5m ?_
           simp -implicitDefEqProofs [ldbw,iaw,ldw,ic,lpw,tw14,gt,extractV]
           refine A0a A5m ?_
           simp -implicitDefEqProofs [hres]
          ·rw[hst]at gt
           refine A0a A5m ?_
           simp -implicitDefEqProofs [ldbw,iaw,ldw,ic,lpw,tw14,gt,extractV]
           refine A0a A5m ?_
           simp -implicitDefEqProofs
           by_cases hv:nAt w n'<0
           ·obtain⟨p1,p2,p3⟩:=go ht (.inl hv)
            have stn:=B3n aw.out hnl' to
            obtain⟨H6,hH6⟩:∃H6,H6=upd Hw 3 (A1m eInt 3 (w.set n' to)):=⟨_,rfl⟩
            rw[<-hH6]at stn
            have a6:At19 tt tf ta tb (w.set n' to) tl 4 H6:=by
             rw[hH6]
             refine⟨?_,?_,?_,A0j.upd_int aw.out hnl' to,aw.todo.imp id fun h=>by rw[A0o,if_neg (by omega)];exact h⟩
             ·rw[A0o,if_neg (by omega)];exact aw.h0
             ·rw[A0o,if_neg (by omega)];exact aw.h1
             ·rw[A0o,if_neg (by omega)];exact aw.h2
            have lp6:∀c cs,A0h false 1 H6 (.t (.pt (c::cs)))=some (.t c):=fun _ _=>rfl
            have bs6:A1l 3 1 [.int .i64 0] 1 [(0,.t (iv (n':Int)))] 5=some (.row 5 0 1 1,.cells 3 ((eInt.enc (n':Int)).map .t)):=rfl
            obtain⟨b2,H2,n2,ap2,r2,ne2,le2,lk2,ge2⟩:=A1j (e:=eInt) (ty:=3) (by':=8) (nx:=6) (m:=[(n':Int)]) (a6.todo.cons (k:=5) (r:=.cells 3 ((eInt.enc (n':Int)).map .t)) (by omega)) (A2w (b:=5) (ty:=3) (n':Int) (by simp)) (by simp;omega) (by simp;omega)
            rw[hz]at ap2
            have a7:At19 tt tf ta tb (w.set n' to) (tl++[(n':Int)]) b2 H2:=by
             refine⟨?_,?_,?_,a6.out.imp id fun h=>?_,r2⟩
             ·rw[lk2 0 (by omega) (by omega),look_cons,if_neg (by omega)];exact a6.h0
             ·rw[lk2 1 (by omega) (by omega),look_cons,if_neg (by omega)];exact a6.h1
             ·rw[lk2 2 (by omega) (by omega),look_cons,if_neg (by omega)];exact a6.h2
             ·rw[lk2 3 (by omega) (by omega),look_cons,if_neg (by omega)];exact h
            have hl7:n'<(w.set n' to).length:=by simpa using hnl'
            have lp7:∀c cs,A0h false 1 H2 (.t (.pt (c::cs)))=some (.t c):=fun _ _=>rfl
            have hrow:rowP eInt 3 w=rowP eInt 3 (w.set n' to):=B1e _ _ (by simp)
            have ld7:=B1f a7.out hl7
            rw[p3]at ld7
            refine A0a A5m ?_
            simp -implicitDefEqProofs [ic,lpw,ian,ldn,hv,stn,lp6,bs6,ap2]
            refine A0c A5m ?_
            simp -implicitDefEqProofs [ic,lp7,ian,ld7]
            refine Next.mk (w.set n' to,tl++[(n':Int)]) ⟨p1,hwt.put hw.len hv ht,fun j m hj hm=>?_,?_,by rw[p2 n hwi];exact hkw,arcs' _ p2 p3 ht⟩ ?_
            ·have hil:=(List.getElem?_eq_some_iff.1 hti).1
             have hm:(tl++[(n':Int)])[j]?=some m:=hm
             rw[List.getElem?_append_left (by omega)]at hm
             exact(hdw j m hj hm).more p2
            ·have hil:=(List.getElem?_eq_some_iff.1 hti).1
             show(tl++[(n':Int)])[i]?=_
             rw[List.getElem?_append_left hil]
             exact hti
            ·exact a7.sub (by omega) (by simp -implicitDefEqProofs [A0f,A0e,ren,under,hrow])
           ·by_cases he:nAt w n'=to
            ·rw[he]at ldn
             have hv':¬to<0:=by omega
             refine A0a A5m ?_
             simp -implicitDefEqProofs [ic,lpw,ian,ldn,hv']
             refine A0c A5m ?_
             simp -implicitDefEqProofs [ic,lpw,ian,ldn]
             refine Next.mk (w,tl) ⟨hw,hwt,hdw,hti,hkw,arcs' w (fun _ _=>rfl) he ht⟩ ?_
             exact aw.sub (by omega) (by simp -implicitDefEqProofs [A0f,A0e,ren,under])
            ·have hres:=B9d (hw.bad_to ha hx hwi hcm (by rw[hn2];omega) (by rw[hn2,hto'];exact he))
             refine A0a A5m ?_
             simp -implicitDefEqProofs [ic,lpw,ian,ldn,hv]
             refine A0c A5m ?_
             simp -implicitDefEqProofs [ic,lpw,ian,ldn,he,hres]
         ·rintro⟨w1,t1⟩ ⟨g1,g2,g3,g4,g5,g6⟩
          refine A0c A5m ?_
          simp -implicitDefEqProofs [S19i,e2]
          refine Next.mk (q+1,w1,t1) ⟨⟨by show q+1<=_;omega,g1,g2,g3,g4,g5,g6⟩,by show x.arcs.length-(q+1)<x.arcs.length-q;omega⟩ ?_
          exact A4n (by simp -implicitDefEqProofs)
        ·refine A0c A5m ?_
         have hqe:q=x.arcs.length:=by omega
         simp -implicitDefEqProofs [S19i,<-hHw,hql,x.ok.len]
         refine Next.mk (w,tl) ⟨?_,hw,hwt,fun j m hj hm=>?_⟩ ?_
         ·exact(List.getElem?_eq_some_iff.1 hti).1
         ·by_cases e:j=i
          ·subst e
           rw[hti]at hm
           injection hm with hm
           subst hm
           rw[Int.toNat_natCast]
           refine⟨hwi,fun z hz=>?_,fun z hz c hc=>?_⟩
           ·rw[hx]at hz;injection hz with hz;subst hz
            rw[hndw];exact hs
           ·rw[hx]at hz;injection hz with hz;subst hz
            rw[hndw]
            exact harc c (by rw[hqe,List.take_length];exact hc)
          ·exact hdw j m (by omega) hm
         ·exact aw.sub (by omega) (by simp -implicitDefEqProofs [A0f,A0e,ren,under])
     ·rintro⟨o1,t1⟩ ⟨h1,h2,h3,h4⟩
      simp only at h1 h2 h3 h4
      have:=h3.sum
      refine A0c A5m ?_
      simp -implicitDefEqProofs [S19,e1]
      refine Next.mk (i+1,o1,t1) ⟨⟨h1,h2,h3,h4⟩,by show a.length-(i+1)<a.length-i;omega⟩ ?_
      exact A4n (by simp -implicitDefEqProofs)
    ·refine A0c A5m ?_
     simp -implicitDefEqProofs [S19,<-hHm,hlt,A1o]
     refine Next.mk out ?_ ?_
     ·exact hpm.mor ha (htd.all ha hpm fun j m hm=>hdone j m (by have:=(List.getElem?_eq_some_iff.1 hm).1;omega) hm)
     ·exact A0i (k:=3) am.out (by omega) (by omega) (by simp -implicitDefEqProofs [A0f,A0e,ren,under])
  ·rintro m hm
   refine A0c A5m ?_
   have hres:=D6b ha hm
   have t2:=C5x (A0j.head' eInt 3 3 m) (bv true)
   simp -implicitDefEqProofs [E19,-oneOf,t2,hres]
noncomputable def D2f:List T->Option T:=g2 (tSl eCo) tInt fun l i=>open Classical in if l.length<=256/\(∀x∈l,x.code.length<=1000)/\0<=i/\i<(l.length:Int)then some (A0l eInt (A7l l i.toNat l.length))else none
theorem D9t:GOK Try.prog G 77 D2f:=A5x fun a b x y r ha hb hr=>by
 obtain rfl:b=iv y:=hb
 split at hr
 ·rename_i h
  injection hr with hr
  subst hr
  have e:y=(y.toNat:Int):=by omega
  have:=D5s ha h.1 h.2.1 (i:=y.toNat) (by omega)
  rw[<-e]at this
  exact this
 ·cases hr
theorem D9u {t:T} {l:List Co} (ht:IsS eCo t l) (hl:l.length<=256) (hs:∀x∈l,x.code.length<=1000) {i:Nat} (hi:i<l.length):D2f [t,iv (i:Int)]=some (A0l eInt (A7l l i l.length)):=
 (A4z (τ:=tSl eCo) (σ:=tInt) ht rfl).trans (if_pos ⟨hl,hs,by omega,by omega⟩)
noncomputable def D6g (d:List TD) (i:Nat) (c:Co):Typ:=⟨c.name,c.code,A0l eInt (A7l (A0u d) i (A0u d).length),apT d i⟩
noncomputable def tyUp (d:List TD):Nat->List Typ
 | 0=>[]
 | i+1=>match (A0u d)[i]? with
  | some c=>tyUp d i++[D6g d i c]
  | none=>tyUp d i
noncomputable def C7y (d:List TD):List Typ:=tyUp d (A0u d).length
theorem E2r (d:List TD):∀{i},i<=(A0u d).length->(tyUp d i).length=i
 | 0,_=>rfl
 | i+1,h=>by
  have hx:(A0u d)[i]?=some (A0u d)[i]:=List.getElem?_eq_getElem (by omega)
  simp only[tyUp,hx,List.length_append,E2r d (Nat.le_of_succ_le h),List.length_cons,List.length_nil]
theorem D2g {d:List TD} {x:Typ}:∀{i},x∈tyUp d i->∃c∈A0u d,x.code=c.code
 | 0,h=>by cases h
 | i+1,h=>by
  simp only[tyUp]at h
  split at h
  ·rename_i c hc
   rcases List.mem_append.1 h with h | h
   ·exact D2g h
   ·rw[List.mem_singleton]at h
    subst h
    exact⟨c,List.mem_of_getElem? hc,rfl⟩
  ·exact D2g h
theorem E2s (d:List TD):∀{n i:Nat},i<n->(A6a d n)[i]?=some (apT d i)
 | 0,i,h=>by omega
 | n+1,i,h=>by
  unfold A6a
  rw[List.getElem?_append,B3g]
  by_cases e:i<n
  ·rw[if_pos e];exact E2s d e
  ·have:i=n:=by omega
   subst this
   rw[if_neg e]
   simp
noncomputable def B4x (d:List TD):T:=if A1h d≠0 then .tu [.ag [nilS,nilS],iv (A1h d)]else .tu [.ag [A0l eTyp (C7y d),A0l eFt (ftL d)],iv 0]
noncomputable def tb30:Tbl:=[(75,gD C2s),(76,gD A3o),(77,D2f),(78,gD C7v)]
theorem C6q:Ctx Try.prog G (orc tb30):=(A1q.cons (B2w D9k) (.cons (B2w B4i) (.cons D9t (.cons (B2w D1z) .nil)))).ctx A1w
theorem F9q {α:Type} (e:Enc α) (ty b:Nat) (l:List α) (f y:T):∃q,agOf [rowP e b l,.t f]=q/\A0s q=some [rowP e b l,.t f]/\∀H,A0j e ty H b l->toT H (oneOf [q,.t y])=some (.tu [.ag [A0l e l,f],y],B0m b l):=by
 refine⟨_,rfl,?_,fun H h=>?_⟩
 ·cases l<;>rfl
 ·have ht:=h.toT
  cases l with
  | nil=>rfl
  | cons x r=>
   show toT H (.tu [.ag [rowP e b (x::r),.t f],.t y])=_
   simp only[Abs.toT,Abs.toTs,ht]
   simp[B0m]
noncomputable def R45 (ts:List Typ):Heap:=[(0,.cells 29 [.t nilS,.t nilS]),(1,.cells 29 [rowP eTyp 2 ts,.t nilS])]
noncomputable def S45 (t u v:T) (i:Nat) (ts:List Typ):A0b:=⟨[(9,.t (iv (i:Int))),(8,.ptr 1 0),(6,.t u),(4,.t v),(2,.ptr 0 0),(0,.t t)],R45 ts++rowH eTyp 105 2 ts,3,63⟩
theorem D6h {t:T} {d:List TD} (ht:IsS eTD t d) (hd:DOK d):A0y Try.prog G 45 [t] (· = B4x d):=by
 have gV:gD C2s [t]=some (C2s d):=B1q ht hd
 have gC:gD A3o [t]=some (A3o d):=B1q ht hd
 have gF:gD C7v [t]=some (C7v d):=B1q ht hd
 refine B8p.call rfl ?_
 unfold B0t
 refine A0a C6q ?_
 simp -implicitDefEqProofs
 by_cases hE:A1h d=0
 ·have hF:=A8r hd hE
  have hll:=hF.cod.len
  have hs':∀x∈A0u d,x.code.length<=1000:=fun x hx=>by have:=hF.cod.size x hx;omega
  obtain⟨u,hu⟩:∃u,u=A0l eCo (A0u d):=⟨_,rfl⟩
  have hU:IsS eCo u (A0u d):=hu▸IsS.tree eCo _
  rw[hF.codes,<-hu]at gC
  obtain⟨v,hv⟩:∃v,v=A0l eTr (A6a d (A0u d).length):=⟨_,rfl⟩
  have hV:IsS eTr v (A6a d (A0u d).length):=hv▸IsS.tree eTr _
  have hvT:C2s d = .tu [v,iv 0]:=by unfold C2s;rw[if_neg (by rw[hE];simp),hv]
  rw[hvT]at gV
  obtain⟨f,hf⟩:∃f,f=A0l eFt (ftL d):=⟨_,rfl⟩
  have hfT:C7v d = .tu [f,iv 0]:=by unfold C7v;rw[if_neg (by rw[hE];simp),hf]
  rw[hfT]at gF
  have hz:eTyp.z=4:=rfl
  refine A0a C6q ?_
  simp -implicitDefEqProofs [tb30,gV,extractV]
  refine A0a C6q ?_
  simp -implicitDefEqProofs
  refine A0a C6q ?_
  simp -implicitDefEqProofs [tb30,gC,extractV]
  refine A0a C6q ?_
  simp -implicitDefEqProofs
  refine A0q (fun _:Unit=>S45 t u v (A0u d).length (C7y d)) (fun _=>True) (fun _=>rfl) ?_ ?_
  ·refine A0a C6q ?_
   simp -implicitDefEqProofs
   refine A0g ?_
   refine A1a (fun i=>S45 t u v i (tyUp d i)) (A0u d).length (fun _=>rfl) ?_ rfl ?_ ?_
   ·refine sub_rowR (k:=2) (A0j.nil _ _ _ _) (by omega) (by omega) (fun q hq=>?_) (by simp -implicitDefEqProofs [ren,under])
    simp only[R45,tyUp,List.mem_cons,List.not_mem_nil,or_false]at hq
    rcases hq with rfl | rfl<;>simp[rowP,A2k,renL,ren,A1b,A2g,under]
   ·intro i hi
    obtain⟨c,hc⟩:∃c,(A0u d)[i]?=some c:=⟨_,List.getElem?_eq_getElem hi⟩
    have ic:=D9b hU hc
    have hva:=E2s d hi
    have iv':A1k 1 (.t v) (.t (iv (i:Int)))=some (.t (.pt (apT d i::rest eTr (A6a d (A0u d).length) i))):=hV.iaddr hva .i64
    have gs:=D9u hU hll hs' hi
    have e1:IntKind.i64.wrap ((i:Int)+1)=((i+1:Nat):Int):=A0k (by omega) (by omega)
    have htl:=E2r d (Nat.le_of_lt hi)
    have hnext:tyUp d (i+1)=tyUp d i++[D6g d i c]:=by simp only[tyUp,hc]
    obtain⟨ts,hts⟩:∃ts,ts=tyUp d i:=⟨_,rfl⟩
    rw[<-hts]at htl hnext
    obtain⟨su,hsu⟩:∃su,su=A0l eInt (A7l (A0u d) i (A0u d).length):=⟨_,rfl⟩
    obtain⟨va,hva'⟩:∃va,va=apT d i:=⟨_,rfl⟩
    rw[<-hsu]at gs
    rw[<-hva']at iv'
    have hcs:A0s (.t su)=some [.t su]:=by rw[hsu];cases A7l (A0u d) i (A0u d).length<;>rfl
    have hcv:A0s (.t va)=some [.t va]:=by rw[hva'];unfold apT;cases apUp d i (feats d).length<;>rfl
    have hcb:A0s (.t (encB c.code))=some [.t (encB c.code)]:=rfl
    have hcn:A0s (.t (sv c.name))=some [.t (sv c.name)]:=rfl
    have fl:A4w (fun k=>[(0,1),(1,1),(2,1),(3,1)][k]?) [.t (.v (.string ⟨#[]⟩)),.t nilS,.t nilS,.t nilS] [(0,.t (sv c.name)),(1,.t (encB c.code)),(2,.t su),(3,.t va)]=some [.t (sv c.name),.t (encB c.code),.t su,.t va]:=by
     simp[A4w,hcs,hcv,hcb,hcn,A1t]
    have ag:agOf [.t (sv c.name),.t (encB c.code),.t su,.t va] = .t (.ag [sv c.name,encB c.code,su,va]):=rfl
    have hen:eTyp.enc (D6g d i c)=[sv c.name,encB c.code,su,va]:=by rw[hsu,hva'];rfl
    have ts1:A7p 105 4 [.string ⟨#[]⟩,.slice none 0 0,.slice none 0 0,.slice none 0 0] 1 [(0,.t (.ag [sv c.name,encB c.code,su,va]))]=some (.t (A0l eTyp [D6g d i c])):=by
     have:A0l eTyp [D6g d i c] = .sl 1 [sv c.name,encB c.code,su,va]:=by
      show slT eTyp [D6g d i c]=_
      unfold slT
      simp[hen]
     rw[this]
     rfl
    obtain⟨H0,hH0⟩:∃H0,H0=R45 ts++rowH eTyp 105 2 ts:=⟨_,rfl⟩
    have l0:Abs.look H0 0=some (.cells 29 [.t nilS,.t nilS]):=by rw[hH0];rfl
    have l1:Abs.look H0 1=some (.cells 29 [rowP eTyp 2 ts,.t nilS]):=by rw[hH0];rfl
    have r2:A0j eTyp 105 H0 2 ts:=by rw[hH0];exact A0j.right (A0j.head' _ _ _ _) (by simp[R45])
    have ld1:A0h false 1 H0 (.ptr 1 0)=some (rowP eTyp 2 ts):=by simp[A0h,l1]
    have lp:∀c cs,A0h false 1 H0 (.t (.pt (c::cs)))=some (.t c):=fun _ _=>rfl
    have hsrc:srcP H0 eTyp.z (.t (A0l eTyp [D6g d i c]))=_:=A5a (IsS.tree eTyp [D6g d i c])
    obtain⟨b3,H3,n3,ap3,r3,ne3,le3,lk3,ge3⟩:=A1j (e:=eTyp) (ty:=105) (by':=88) (nx:=3) r2 hsrc (by simp;omega) (by simp;omega)
    rw[hz,<-hnext]at ap3
    rw[<-hnext]at r3
    have m0:Abs.look H3 0=some (.cells 29 [.t nilS,.t nilS]):=by rw[lk3 0 (by omega) (by omega)];exact l0
    have m1:Abs.look H3 1=some (.cells 29 [rowP eTyp 2 ts,.t nilS]):=by rw[lk3 1 (by omega) (by omega)];exact l1
    have sto:A1e 1 H3 (.ptr 1 0) (rowP eTyp b3 (tyUp d (i+1)))=some (upd H3 1 (.cells 29 [rowP eTyp b3 (tyUp d (i+1)),.t nilS])):=by
     simp only[A1e,B4d,m1]
     rfl
    refine A0c C6q ?_
    rw[<-hts]
    simp -implicitDefEqProofs [S45,<-hH0,hi,hU.len,ld1,ic,iv',lp,tb30,gs,fl,ag,ts1,ap3,sto,e1]
    refine sub_rowR (b:=2) (k:=b3) (nx':=3) (r3.imp id fun h=>by rw[A0o,if_neg (by omega)];exact h) (by omega) (by omega) (fun q hq=>?_) (by simp -implicitDefEqProofs [ren,under])
    simp only[R45,List.mem_cons,List.not_mem_nil,or_false]at hq
    rcases hq with rfl | rfl
    ·exact⟨by rw[A0o,if_neg (by omega),m0];rfl,by omega,by omega,by show 0≠b3;omega,rfl⟩
    ·exact⟨by rw[A0o,if_pos rfl,m1];simp[A2k,renL,A0f,ren],by omega,by omega,by show 1≠b3;omega,by simp[A1b,A2g,A0e,under]⟩
   ·refine A0c C6q ?_
    simp -implicitDefEqProofs [S45,hU.len]
    exact Next.mk () trivial (A4n (by simp -implicitDefEqProofs))
  ·rintro _ -
   have hres:B4x d = .tu [.ag [A0l eTyp (C7y d),f],iv 0]:=by unfold B4x;rw[if_neg (by rw[hE];simp),hf]
   obtain⟨ts,hts⟩:∃ts,ts=C7y d:=⟨_,rfl⟩
   rw[<-hts]at hres ⊢
   obtain⟨q,hq1,hq2,hq3⟩:=F9q eTyp 105 2 ts f (iv 0)
   obtain⟨H0,hH0⟩:∃H0,H0=R45 ts++rowH eTyp 105 2 ts:=⟨_,rfl⟩
   have l0:Abs.look H0 0=some (.cells 29 [.t nilS,.t nilS]):=by rw[hH0];rfl
   have l1:Abs.look H0 1=some (.cells 29 [rowP eTyp 2 ts,.t nilS]):=by rw[hH0];rfl
   have r2:A0j eTyp 105 H0 2 ts:=by rw[hH0];exact A0j.right (A0j.head' _ _ _ _) (by simp[R45])
   have hcf:A0s (.t f)=some [.t f]:=by rw[hf];cases ftL d<;>rfl
   have st1:A1e 1 H0 (.ptr 1 1) (.t f)=some (upd H0 1 (.cells 29 [rowP eTyp 2 ts,.t f])):=by
    simp only[A1e,hcf,l1]
    rfl
   obtain⟨H1,hH1⟩:∃H1,H1=upd H0 1 (.cells 29 [rowP eTyp 2 ts,.t f]):=⟨_,rfl⟩
   rw[<-hH1]at st1
   have k0:Abs.look H1 0=some (.cells 29 [.t nilS,.t nilS]):=by rw[hH1,A0o,if_neg (by omega)];exact l0
   have k1:Abs.look H1 1=some (.cells 29 [rowP eTyp 2 ts,.t f]):=by rw[hH1,A0o,if_pos rfl,l1];rfl
   have ld:A0h true 2 H1 (.ptr 1 0)=some q:=by simp[A0h,k1,hq1]
   have st2:A1e 2 H1 (.ptr 0 0) q=some (upd H1 0 (.cells 29 [rowP eTyp 2 ts,.t f])):=by
    simp only[A1e,hq2,k0]
    rfl
   obtain⟨H2,hH2⟩:∃H2,H2=upd H1 0 (.cells 29 [rowP eTyp 2 ts,.t f]):=⟨_,rfl⟩
   rw[<-hH2]at st2
   have j0:Abs.look H2 0=some (.cells 29 [rowP eTyp 2 ts,.t f]):=by rw[hH2,A0o,if_pos rfl,k0];rfl
   have ld':A0h true 2 H2 (.ptr 0 0)=some q:=by simp[A0h,j0,hq1]
   have tt:=hq3 H2 (r2.imp id fun h=>by rw[hH2,A0o,if_neg (by omega),hH1,A0o,if_neg (by omega)];exact h)
   refine A0c C6q ?_
   simp -implicitDefEqProofs [S45,<-hH0,tb30,gF,extractV,st1,ld,st2,ld',-oneOf,tt,hres]
 ·have hE':=A6h hE
  have hvT:C2s d = .tu [nilS,iv (A1h d)]:=by unfold C2s;rw[if_pos hE]
  rw[hvT]at gV
  have hres:B4x d = .tu [.ag [nilS,nilS],iv (A1h d)]:=by unfold B4x;rw[if_pos hE]
  have fl:A4w (fun k=>[(0,1),(1,1)][k]?) [.t nilS,.t nilS] []=some [.t nilS,.t nilS]:=rfl
  have ag:agOf [.t nilS,.t nilS] = .t (.ag [nilS,nilS]):=rfl
  have cg:A0s (.t (.ag [nilS,nilS]))=some [.t nilS,.t nilS]:=rfl
  refine A0a C6q ?_
  simp -implicitDefEqProofs [tb30,gV,extractV]
  refine A0a C6q ?_
  simp -implicitDefEqProofs [A0h,A1e,A1t,fl,ag,cg,hE,hE',hres]
end Go.Proofs.Ytbiadmfmjnoecaa
namespace Go.Abs
set_option linter.unusedSimpArgs false
set_option linter.unusedVariables false
open Go
def E6q (f:A0b->Option (Exit×A0b)):Nat->A0b->Option (Exit×A0b)
 | 0,_=>none
 | k+1,s=>match f s with
  | some (.normal,s')=>E6q f k s'
  | r=>r
def D2h:List (Nat×PV)->List Nat->List (Nat×PV)
 | [],_=>[]
 | (k,p)::r,seen=>if seen.contains k then D2h r seen else(k,p)::D2h r (k::seen)
theorem C6r:∀(l:List (Nat×PV)) (seen:List Nat) q,q∈D2h l seen->look l q.1=some q.2/\q.1∉seen
 | [],seen,q,h=>by simp[D2h]at h
 | (k,p)::r,seen,q,h=>by
  simp only[D2h]at h
  split at h
  ·rename_i hk
   obtain⟨h1,h2⟩:=C6r r seen q h
   have:k≠q.1:=fun e=>h2 (by rw[<-e];simpa using hk)
   simp[this,h1,h2]
  ·rename_i hk
   rcases List.mem_cons.1 h with rfl | h
   ·simpa using hk
   ·obtain⟨h1,h2⟩:=C6r r (k::seen) q h
    simp only[List.mem_cons,not_or]at h2
    have:k≠q.1:=fun e=>h2.1 e.symm
    simp[this,h1,h2.2]
def F7p:PV->List Nat
 | .row b _ _ _=>[b]
 | _=>[]
def G1s (H:Heap):List Nat:=H.flatMap fun q=>match q.2 with
 | .cells _ cs=>cs.flatMap F7p
 | _=>[]
def G1t:MK->Bool
 | .call _=>true
 | _=>false
def G1u:List Nat:=[104]
def given (m:Mini) (s:A0b):List Nat:=match m.k with
 | .call f=>if G1u.contains f then m.xs.flatMap (fun x=>F7p (x.ev s.env))else []
 | _=>[]
def preZ (m:Mini) (s:A0b):A0b:=if G1t m.k then(match G1s s.H++given m s with | []=>s | F=>s.frz F)else s
def runZ (Φ:A1f):List Mini->A0b->Option A0b
 | [],s=>some s
 | m::r,s=>match C2k Φ (preZ m s) m with
  | some s'=>runZ Φ r s'
  | none=>none
def eqV:Value->Value->Bool
 | .int k a,.int k' b=>decide (k=k')&&(a==b)
 | .bool a,.bool b=>a==b
 | .string a,.string b=>a.data.toList==b.data.toList
 | .slice none 0 0,.slice none 0 0=>true
 | _,_=>false
theorem G1v {a b:Value} (h:eqV a b=true):a=b:=by
 unfold eqV at h
 split at h
 ·simp only[Bool.and_eq_true,decide_eq_true_eq,beq_iff_eq]at h
  rw[h.1,h.2]
 ·simp at h;rw[h]
 ·rename_i a b
  simp only[beq_iff_eq]at h
  have:a=b:=by
   cases a;cases b
   congr
   exact Array.toList_inj.1 h
  rw[this]
 ·rfl
 ·cases h
mutual
def eqT:T->T->Bool
 | .v a,.v b=>eqV a b
 | .sl n l,.sl m r=>(n==m)&&eqTs l r
 | .ag l,.ag r=>eqTs l r
 | .tu l,.tu r=>eqTs l r
 | _,_=>false
def eqTs:List T->List T->Bool
 | [],[]=>true
 | a::l,b::r=>eqT a b&&eqTs l r
 | _,_=>false
end
mutual
theorem F7q:∀(a b:T),eqT a b=true->a=b
 | .v a,.v b,h=>by simp only[eqT]at h;rw[G1v h]
 | .sl n l,.sl m r,h=>by
  simp only[eqT,Bool.and_eq_true,beq_iff_eq]at h
  rw[h.1,C6s l r h.2]
 | .ag l,.ag r,h=>by simp only[eqT]at h;rw[C6s l r h]
 | .tu l,.tu r,h=>by simp only[eqT]at h;rw[C6s l r h]
 | .v _,.sl _ _,h=>by simp[eqT]at h
 | .v _,.ag _,h=>by simp[eqT]at h
 | .v _,.tu _,h=>by simp[eqT]at h
 | .v _,.pt _,h=>by simp[eqT]at h
 | .sl _ _,.v _,h=>by simp[eqT]at h
 | .sl _ _,.ag _,h=>by simp[eqT]at h
 | .sl _ _,.tu _,h=>by simp[eqT]at h
 | .sl _ _,.pt _,h=>by simp[eqT]at h
 | .ag _,.v _,h=>by simp[eqT]at h
 | .ag _,.sl _ _,h=>by simp[eqT]at h
 | .ag _,.tu _,h=>by simp[eqT]at h
 | .ag _,.pt _,h=>by simp[eqT]at h
 | .tu _,.v _,h=>by simp[eqT]at h
 | .tu _,.sl _ _,h=>by simp[eqT]at h
 | .tu _,.ag _,h=>by simp[eqT]at h
 | .tu _,.pt _,h=>by simp[eqT]at h
 | .pt _,_,h=>by simp[eqT]at h
theorem C6s:∀(a b:List T),eqTs a b=true->a=b
 | [],[],_=>rfl
 | a::l,b::r,h=>by
  simp only[eqTs,Bool.and_eq_true]at h
  rw[F7q a b h.1,C6s l r h.2]
 | [],_::_,h=>by simp[eqTs]at h
 | _::_,[],h=>by simp[eqTs]at h
end
def eqP:PV->PV->Bool
 | .t x,.t y=>eqT x y
 | .row b o n z,.row b' o' n' z'=>b==b'&&o==o'&&n==n'&&z==z'
 | .ptr b o,.ptr b' o'=>b==b'&&o==o'
 | _,_=>false
theorem G1w (x y:PV) (h:eqP x y=true):x=y:=by
 unfold eqP at h
 split at h
 ·rw[F7q _ _ h]
 ·simp at h;obtain⟨⟨⟨rfl,rfl⟩,rfl⟩,rfl⟩:=h;rfl
 ·simp at h;obtain⟨rfl,rfl⟩:=h;rfl
 ·cases h
def agnB (Φ:A1f) (pd:Pend) (H:Heap) (nx:Nat) (ks:List Nat):Bool:=ks.all fun i=>match look pd i with
 | some x=>(match A2f Φ H nx x.1 x.2.1 with
  | some v=>eqP v x.2.2
  | none=>false)
 | none=>false
theorem E6r {Φ:A1f} {pd:Pend} {H:Heap} {nx:Nat} {ks:List Nat} (h:agnB Φ pd H nx ks=true):agnP Φ pd H nx ks:=by
 intro i hi
 have:=List.all_eq_true.1 h i hi
 split at this
 ·rename_i x hx
  split at this
  ·rename_i v hv;exact⟨x,hx,by rw[hv,G1w _ _ this]⟩
  ·cases this
 ·cases this
def runB (Φ:A1f) (k:Nat):Nat->Nat->Pend->List GI->A0b->Option A0b
 | _,_,_,[],s=>some s
 | n,b,pd,.o m kp ag::r,s=>match valD Φ s m with
  | some (v,H',nx')=>if agnB Φ pd H' nx' ag then runB Φ k (n+1) b (D0x kp n m s v pd) r (({ s with H:=H',nx:=nx' }:A0b).put m.dst v)else none
  | none=>none
 | n,b,pd,.g j m::r,s=>match A0m Φ s.H ((if j=0 then s.nx else b)+k+j) m.k (m.xs.map (·.ev s.env))with
  | some (v,H',_)=>runB Φ k (n+1) (if j=0 then s.nx else b) pd r (({ s with H:=H',nx:=(if j=0 then s.nx else b)+2*k }:A0b).put m.dst v)
  | none=>none
theorem B4k {Φ:A1f} {k:Nat}:∀(l:List GI) {n b:Nat} {pd:Pend} {s s':A0b},runB Φ k n b pd l s=some s'->runG Φ k n b pd l s=some s'
 | [],n,b,pd,s,s',h=>h
 | .o m kp ag::r,n,b,pd,s,s',h=>by
  simp only[runB]at h
  simp only[runG]
  split at h
  ·rename_i hv
   split at h
   ·rename_i ha
    simp only[hv,if_pos (E6r ha)]
    exact B4k r h
   ·cases h
  ·cases h
 | .g j m::r,n,b,pd,s,s',h=>by
  simp only[runB]at h
  simp only[runG]
  split at h
  ·rename_i hv
   simp only[hv]
   exact B4k r h
  ·cases h
def runF (Φ:A1f) (k:Nat):A0n->A0b->Option (Exit×A0b)
 | .skip,s=>some (.normal,s)
 | .ops l,s=>match runZ Φ l s with
  | some s1=>some (.normal,s1)
  | none=>none
 | .draw l,s=>match runD Φ l s with
  | some s1=>some (.normal,s1)
  | none=>none
 | .drawG k l,s=>match runB Φ k 0 0 [] l s with
  | some s1=>some (.normal,s1)
  | none=>none
 | .seq a b,s=>match runF Φ k a s with
  | some (.normal,s1)=>runF Φ k b s1
  | r=>r
 | .cond c a b,s=>match c.ev s.env with
  | .t (.v (.bool t))=>bif t then runF Φ k a s else runF Φ k b s
  | _=>none
 | .block id b,s=>match runF Φ k b s with
  | some (.exit i,s1)=>if i=id then some (.normal,s1)else some (.exit i,s1)
  | r=>r
 | .loop b,s=>E6q (fun s=>match runF Φ k b { s with env:=D2h s.env [] }with
  | r=>r) k s
 | .exit id,s=>some (.exit id,s)
 | .ret,s=>some (.ret,s)
 | .scope b,s=>match runF Φ k b s with
  | some (.goto _,_)=>none
  | r=>r
section
variable {P : Program} {G : A1c} {B N : Nat} {Φ : A1f}
theorem F7r (m:Mini) (s:A0b):(preZ m s).n=s.n:=by
 unfold preZ
 split
 ·split<;>rfl
 ·rfl
theorem F6d (m:Mini) (s:A0b):Sub P G B s (preZ m s):=by
 unfold preZ
 split
 ·split
  ·exact Sub.refl s
  ·exact B2a _
 ·exact Sub.refl s
theorem F7s:∀{l:List Mini} {s s':A0b},runZ Φ l s=some s'->s'.n=s.n
 | [],s,s',h=>by simp only[runZ,Option.some.injEq]at h;rw[h]
 | m::r,s,s',h=>by
  simp only[runZ]at h
  split at h
  ·rename_i s1 h1;rw[F7s h,E8x h1,F7r]
  ·cases h
theorem D9v {ops:Array Oper} {Q Q':Exit->Act->World->Prop} (hq:∀e a w,Q e a w->Q' e a w):∀(l:List Oper) (a:Act) (w:World),wpList P ops Q l a w->wpList P ops Q' l a w:=by
 intro l
 induction l with
 | nil=>intro a w2 h;exact hq _ _ _ h
 | cons o r ih=>
  intro a w2 h
  unfold wpList at h ⊢
  split
  ·rename_i hw
   rw[if_pos hw]at h
   rcases h with h | ⟨h1,a0,w0,h2⟩
   ·exact .inl (A2s ih hq h)
   ·exact .inr ⟨h1,a0,w0,hq _ _ _ h2⟩
  ·rename_i hw
   rw[if_neg hw]at h
   exact ih _ _ h
theorem AOps.sub {ops:Array Oper} {l:List Oper} {Q:A0b->Prop} {s s':A0b} (h:Sub P G B s s') (hc:AOps P G B ops l Q s'):AOps P G B ops l Q s:=fun L a w hi=>by
 obtain⟨L',hi',hx,hb⟩:=h L a w hi
 exact D9v (fun _ _ _ hp=>Post.later hx hb hp) _ _ _ (hc L' a w hi')
theorem C1c (hΦ:Φ.Sound P G) {d:Bool} {ops:Array Oper} {Q:A0b->Prop}:∀(os:List Oper) {l:List Mini} {s s':A0b},B4r P G N d ops os l->s.n=N->runZ Φ l s=some s'->Q s'->AOps P G B ops os Q s
 | [],l,s,s',ha,hn,h,hq=>by
  simp only[B4r]at ha
  subst ha
  simp only[runZ,Option.some.injEq]at h
  subst h
  exact E0o hq
 | o::rest,l,s,s',ha,hn,h,hq=>by
  simp only[B4r]at ha
  obtain⟨m,l',rfl,hm,hr⟩:=ha
  obtain⟨hc,hdst,hd,hw⟩:=A7i hm
  simp only[runZ]at h
  refine AOps.sub (F6d m s) ?_
  have hn:(preZ m s).n=N:=(F7r m s).trans hn
  generalize preZ m s=s at h hn
  split at h
  ·rename_i s1 h1
   unfold C2k at h1
   rw[<-hw s]at h1
   have hd':∀k,o.dst=some k->k<s.n:=fun k hk=>by rw[hn];exact hd k hk
   rw[hdst]at h1
   split at h1
   ·rename_i hww
    split at h1
    ·rename_i r H' nx' hv
     injection h1 with h1
     subst h1
     exact D2v hww hd' (B5z hΦ hc hv) (C1c hΦ rest hr (by rw[B9m];exact hn) h hq)
    ·cases h1
   ·rename_i hww
    injection h1 with h1
    subst h1
    exact D2w hww hd' (C1c hΦ rest hr (by rw[B9m];exact hn) h hq)
   ·cases h1
  ·cases h
theorem A9w (k:Nat):∀(M:A0n) {s:A0b} {e:Exit} {s':A0b},runF Φ k M s=some (e,s')->s'.n=s.n
 | .skip,s,e,s',h=>by simp only[runF,Option.some.injEq,Prod.mk.injEq]at h;rw[h.2]
 | .ops l,s,e,s',h=>by
  simp only[runF]at h
  split at h
  ·rename_i s1 h1;simp only[Option.some.injEq,Prod.mk.injEq]at h;rw[<-h.2,F7s h1]
  ·cases h
 | .draw l,s,e,s',h=>by
  simp only[runF]at h
  split at h
  ·rename_i s1 h1;simp only[Option.some.injEq,Prod.mk.injEq]at h;rw[<-h.2,E8y h1]
  ·cases h
 | .drawG k l,s,e,s',h=>by
  simp only[runF]at h
  split at h
  ·rename_i s1 h1;simp only[Option.some.injEq,Prod.mk.injEq]at h;rw[<-h.2,E1f l (B4k l h1)]
  ·cases h
 | .seq a b,s,e,s',h=>by
  simp only[runF]at h
  split at h
  ·rename_i s1 h1;rw[A9w k b h,A9w k a h1]
  ·exact A9w k a h
 | .cond c a b,s,e,s',h=>by
  simp only[runF]at h
  split at h
  ·rename_i t ht
   cases t
   ·exact A9w k b h
   ·exact A9w k a h
  ·cases h
 | .block id b,s,e,s',h=>by
  simp only[runF]at h
  split at h
  ·rename_i i s1 h1
   split at h
   ·simp only[Option.some.injEq,Prod.mk.injEq]at h;rw[<-h.2,A9w k b h1]
   ·simp only[Option.some.injEq,Prod.mk.injEq]at h;rw[<-h.2,A9w k b h1]
  ·exact A9w k b h
 | .loop b,s,e,s',h=>by
  simp only[runF]at h
  have:∀(m:Nat) (s:A0b),E6q (fun s=>runF Φ k b { s with env:=D2h s.env [] }) m s=some (e,s')->s'.n=s.n:=by
   intro m
   induction m with
   | zero=>intro s h;cases h
   | succ m ih=>
    intro s h
    simp only[E6q]at h
    split at h
    ·rename_i s1 h1;have:=A9w k b h1;rw[ih s1 h,this]
    ·have:=A9w k b h;exact this
  exact this k s h
 | .exit id,s,e,s',h=>by simp only[runF,Option.some.injEq,Prod.mk.injEq]at h;rw[h.2]
 | .ret,s,e,s',h=>by simp only[runF,Option.some.injEq,Prod.mk.injEq]at h;rw[h.2]
 | .scope b,s,e,s',h=>by
  simp only[runF]at h
  split at h
  ·cases h
  ·exact A9w k b h
theorem F1y {s:A0b} (hu:True):Sub P G B s { s with env:=D2h s.env [] }:=by
 intro L a w hi
 exact⟨L,⟨hi.heap,hi.nx,hi.base,hi.size,hi.defers,fun k p h=>hi.env k p (C6r _ _ _ (A0p h)).1⟩,Ext.refl _ _ _,fun _ _=>rfl⟩
theorem A6c (hΦ:Ctx P G Φ) (k:Nat):∀(M:A0n) {Q:Exit->A0b->Prop} {s:A0b} {e:Exit} {s':A0b},runF Φ k M s=some (e,s')->Q e s'->MC P G B N M Q s
 | .skip,Q,s,e,s',h,hq=>A7b hΦ .skip h hq
 | .ops l,Q,s,e,s',h,hq=>by
  simp only[runF]at h
  split at h
  ·rename_i s1 h1
   simp only[Option.some.injEq,Prod.mk.injEq]at h
   obtain⟨rfl,rfl⟩:=h
   intro c hc hn
   obtain⟨id,ops,rfl,hl⟩:=A2l hc
   exact C1i (C1c hΦ.sound _ (A3f hl) hn h1 hq)
  ·cases h
 | .draw l,Q,s,e,s',h,hq=>A7b hΦ (.draw l) h hq
 | .drawG k l,Q,s,e,s',h,hq=>by
  simp only[runF]at h
  split at h
  ·rename_i s1 h1
   exact A7b hΦ (.drawG k l) (by simp only[runM,B4k l h1];exact h) hq
  ·cases h
 | .seq a b,Q,s,e,s',h,hq=>by
  intro c hc hn
  refine E8v ?_ c hc hn
  simp only[runF]at h
  split at h
  ·rename_i s1 h1
   exact A6c hΦ k a h1 ⟨(A9w k a h1).trans hn,A6c hΦ k b h hq⟩
  ·rename_i hne
   refine A6c hΦ k a h ?_
   cases e
   case normal=>exact absurd h (hne s')
   all_goals exact hq
 | .cond c a b,Q,s,e,s',h,hq=>by
  simp only[runF]at h
  split at h
  ·rename_i t ht
   refine E8w ht ?_
   cases t
   ·exact A6c hΦ k b h hq
   ·exact A6c hΦ k a h hq
  ·cases h
 | .block id b,Q,s,e,s',h,hq=>by
  refine A0g ?_
  simp only[runF]at h
  split at h
  ·rename_i i s1 h1
   refine A6c hΦ k b h1 ?_
   simp only[inBlock_exit]
   split at h
   ·rename_i hid
    rw[if_pos hid]
    simp only[Option.some.injEq,Prod.mk.injEq]at h
    obtain⟨rfl,rfl⟩:=h
    exact hq
   ·rename_i hid
    rw[if_neg hid]
    simp only[Option.some.injEq,Prod.mk.injEq]at h
    obtain⟨rfl,rfl⟩:=h
    exact hq
  ·rename_i hne
   refine A6c hΦ k b h ?_
   cases e
   case exit i=>exact absurd h (hne i s')
   all_goals exact hq
 | .loop b,Q,s,e,s',h,hq=>by
  simp only[runF]at h
  intro c hc hn
  refine D7u (fun m s=>s.n=N/\E6q (fun s=>runF Φ k b { s with env:=D2h s.env [] }) m s=some (e,s')) k ⟨hn,h⟩ (fun _ _ h=>h.1) ?_ c hc hn
  rintro m s ⟨hsn,hm⟩
  cases m with
  | zero=>cases hm
  | succ m=>
   refine MC.sub (F1y trivial) rfl ?_
   simp only[E6q]at hm
   split at hm
   ·rename_i s1 h1
    exact A6c hΦ k b h1 ⟨m,by omega,s1,Sub.refl s1,(A9w k b h1).trans hsn,hm⟩
   ·rename_i hne
    refine A6c hΦ k b hm ?_
    cases e
    case normal=>exact absurd hm (hne s')
    all_goals exact hq
 | .exit id,Q,s,e,s',h,hq=>A7b hΦ (.exit id) h hq
 | .ret,Q,s,e,s',h,hq=>A7b hΦ .ret h hq
 | .scope b,Q,s,e,s',h,hq=>by
  refine D0y ?_
  simp only[runF]at h
  split at h
  ·cases h
  ·rename_i hne
   refine A6c hΦ k b h ?_
   cases e
   case goto l=>exact absurd h (hne l s')
   all_goals exact hq
structure FnM where
 k:Nat
 N:Nat
 M:A0n
 vs:List RV
def endZ (s:A0b):A0b:=match G1s s.H with | []=>s | F=>s.frz F
def resT (vs:List RV) (s:A0b):Option T:=match resM s vs with
 | some ps=>match toT s.H (oneOf ps)with
  | some (r,_)=>some r
  | none=>none
 | none=>none
def F1z (tab:List (Nat×FnM)) (rounds:Nat) (Φ:A1f) (f:FuncId) (args:List T):Option T:=
 match look tab f with
 | some fm=>if args.length=fm.k then
   (match runF Φ rounds fm.M (startM fm.N args)with
   | some (.ret,s)=>resT fm.vs (endZ s)
   | _=>none)
  else none
 | none=>none
def D2i (nx:Nat) (H:Heap):Bool:=H.all fun q=>decide (q.1<nx)
def F2a (tab:List (Nat×FnM)) (rounds:Nat) (Φ:A1f) (f:FuncId) (ps:List PV) (H:Heap) (nx:Nat):Option (PV×Heap×Nat):=
 match look tab f with
 | some fm=>if ps.length=fm.k then
   (match runF Φ rounds fm.M ⟨startsP 0 ps,H,nx,fm.N⟩with
   | some (.normal,s)=>match resM s fm.vs with
    | some rs=>if D2i s.nx s.H then some (oneOf rs,s.H,s.nx)else none
    | none=>none
   | some (.ret,s)=>match resM s fm.vs with
    | some rs=>if D2i s.nx s.H then some (oneOf rs,s.H,s.nx)else none
    | none=>none
   | _=>none)
  else none
 | none=>none
def F6e (P:Program) (G:A1c) (tab:List (Nat×FnM)):Prop:=∀q∈tab,FnOK P G q.1 q.2.k q.2.N q.2.M q.2.vs
theorem F6f (s:A0b):Sub P G B s (endZ s):=by
 unfold endZ
 split
 ·exact Sub.refl s
 ·exact B2a _
theorem D6i (hm:P.follows .mixedOrders=true) {tab:List (Nat×FnM)} (ht:F6e P G tab) (rounds:Nat) (hΦ:Φ.Sound P G) (f:FuncId) (args:List T) (r:T) (h:F1z tab rounds Φ f args=some r):A0y P G f args (· = r):=by
 unfold F1z at h
 split at h
 ·rename_i fm hf
  split at h
  ·rename_i hk
   split at h
   ·rename_i s hr
    unfold resT at h
    split at h
    ·rename_i ps hps
     split at h
     ·rename_i r' F hT
      injection h with h;subst h
      refine(ht _ (A0p hf)).call hk fun c hc hn=>?_
      exact(A6c (Q:=fun e s1=>e = .ret/\s1=s) ⟨hm,hΦ⟩ rounds fm.M hr ⟨rfl,rfl⟩ c hc hn).post fun e s1 hq=>⟨endZ s1,F6f s1,by
       obtain⟨rfl,rfl⟩:=hq
       exact⟨.inr rfl,ps,r',F,hps,hT,rfl⟩⟩
     ·cases h
    ·cases h
   ·cases h
  ·cases h
 ·cases h
theorem E2t {nx:Nat} {H:Heap} (h:D2i nx H=true) (b:Nat) (x:Row) (hb:look H b=some x):b<nx:=by
 have:=List.all_eq_true.1 h _ (A0p hb)
 simpa using this
theorem C2h (hm:P.follows .mixedOrders=true) {tab:List (Nat×FnM)} (ht:F6e P G tab) (rounds:Nat) (hΦ:Φ.Sound P G) (f:FuncId) (ps:List PV) (H:Heap) (nx:Nat) (r:PV) (H':Heap) (nx':Nat)
  (h:F2a tab rounds Φ f ps H nx=some (r,H',nx')):A7h P G f ps H nx r H' nx'/\∀b x,look H' b=some x->b<nx':=by
 unfold F2a at h
 split at h
 ·rename_i fm hf
  split at h
  ·rename_i hk
   split at h
   ·rename_i s hr
    split at h
    ·rename_i rs hps
     split at h
     ·rename_i ha
      injection h with h;injection h with h1 h2;injection h2 with h2 h3;subst h1;subst h2;subst h3
      exact⟨(ht _ (A0p hf)).callP hk (A6c ⟨hm,hΦ⟩ rounds fm.M hr ⟨.inl rfl,s,rs,Sub.refl s,hps,rfl,rfl,rfl⟩),E2t ha⟩
     ·cases h
    ·cases h
   ·rename_i s hr
    split at h
    ·rename_i rs hps
     split at h
     ·rename_i ha
      injection h with h;injection h with h1 h2;injection h2 with h2 h3;subst h1;subst h2;subst h3
      exact⟨(ht _ (A0p hf)).callP hk (A6c ⟨hm,hΦ⟩ rounds fm.M hr ⟨.inr rfl,s,rs,Sub.refl s,hps,rfl,rfl,rfl⟩),E2t ha⟩
     ·cases h
    ·cases h
   ·cases h
  ·cases h
 ·cases h
end
end Go.Abs
