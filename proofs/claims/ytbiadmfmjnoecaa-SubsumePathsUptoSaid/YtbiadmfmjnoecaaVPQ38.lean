/-
 Auxiliary facts. No statement of the program stands here.
-/
import Derived.Test.YtbiadmfmjnoecaaVPQ37
namespace Go.Proofs.Ytbiadmfmjnoecaa
set_option linter.unusedSimpArgs false
set_option linter.unusedVariables false
open Go Go.Abs
set_option maxRecDepth 100000
def R93a (t:T) (l:Nat) (x:Loop) (outs:List (List Int)):Heap:=[(1,A1m ePth 33 outs),(2,.cells 55 [rowP ePth 1 outs]),(3,.cells 25 [.t t]),(4,.lp l x 3 (.ptr 2 0))]
def F7w (l:Nat) (x:Loop) (k:Nat):Prop:=∀(H:Heap) (nx m:Nat) (p:List Int) (outs:List (List Int)),Abs.look H 1=some (A1m ePth 33 outs)->Abs.look H 2=some (.cells 55 [rowP ePth 1 outs]) ->
 Abs.look H 4=some (.lp l x 3 (.ptr 2 0))->outs.length=k->m<k->F2p Try.prog G l [.t (iv (m:Int)),.t (A0l eInt p)] H nx (.t (bv true)) (upd H 1 (A1m ePth 33 (outs.set m p))) nx
theorem F3j {b:Nat} {outs outs':List (List Int)} (h:outs.length=outs'.length):rowP ePth b outs=rowP ePth b outs':=by
 cases outs<;>cases outs'<;>simp_all [rowP]
theorem G0p {P:Program} {G:A1c} {B N:Nat} {Q:Exit->A0b->Prop} {s:A0b} {c d:Code} (h:A3q P G B c (Then P G B d Q) s):AK P G B N (.seq c d) Q s:=fun _=>B1u h
section
variable {nf : Nat} {ty : List Typ} {t : T} {l : Nat} {x : Loop} {a : List Nd}
set_option maxHeartbeats 2000000 in
theorem D6z (ht:IsS eNd t a) (ha:A2j ty.length nf a) (hs:A3a a) (hy:F7w l x a.length) :
  A7h Try.prog G 93 [yv l,.ptr 3 0] (R93a t l x (List.replicate a.length [])) 5 (.t (.tu [])) (R93a t l x (A1d a)) 5:=by
 obtain⟨n,hn⟩:∃n,n=a.length:=⟨_,rfl⟩
 have hnl:n<=4096:=by rw[hn];exact ha.form.le
 have hpos:0<n:=by rw[hn];exact ha.form.pos
 have hb0:=hs.len
 refine D2n (vs:=[]) (N:=76) Try.func93 E3g (by kernel_rfl) (by kernel_rfl) (by kernel_rfl) ?_
 rw[G2g,<-hn]
 have mk:=F3e (nx:=5) hpos (by omega)
 have hl:=ht.len
 rw[<-hn]at hl
 refine A2b ctx0 c93a1 ?_
 unfold G2k
 unfold R93a
 simp -implicitDefEqProofs [A0h,hl,mk]
 have i0:A1k 1 (rowP A5o 5 (A9x n [])) (.t (iv 0))=some (.ptr 5 0):=by
  have:=A1p (e:=A5o) (b:=5) (B3u (ns:=[]) hpos) .i64
  rw[Nat.zero_mul]at this
  exact this
 have st0:∀X:Heap,A1e 1 ((5,A1m A5o 4 (A9x n []))::X) (.ptr 5 0) (.t (bv true))=some ((5,A1m A5o 4 (A9x n [0]))::X):=fun X=>by
  have:=A9p (e:=A5o) (ty:=4) (off:=0) (y:=true) (c:=bv true) (H:=(5,A1m A5o 4 (A9x n []))::X) (b:=5) (by rw[look_cons,if_pos rfl]) (B3u hpos) (by decide) rfl rfl
  rw[E3h hpos,Nat.zero_mul]at this
  exact this
 refine A2b ctx0 c93a2 ?_
 unfold G2l
 simp -implicitDefEqProofs [i0,st0]
 have bs1:A1l 3 1 [.int .i64 0] 1 [(0,.t (iv 0))] 6=some (.row 6 0 1 1,.cells 3 [.t (iv 0)]):=rfl
 have bs2:A1l 33 1 [.slice none 0 0] 1 [(0,.t nilS)] 7=some (.row 7 0 1 1,.cells 33 [.t nilS]):=rfl
 refine A2b ctx0 c93a3 ?_
 unfold G2m
 simp -implicitDefEqProofs [bs1,bs2]
 refine A2b ctx0 c93a4 ?_
 unfold G2n
 simp -implicitDefEqProofs
 refine C3h ?_
 refine E3b (fun i=>S93 t l x (outP a i) n (bfsP a i) i) (fun i=>n-i) (fun i=>i<=(bfsP a i).1.length) 0 (fun _=>rfl) (by simp) ?_ ?_
 ·have e0:outP a 0=List.replicate n []:=by rw[hn];rfl
  have e1:bfsP a 0=([0],[[]]):=rfl
  unfold S93 H93
  rw[e0,e1]
  refine C6j (by omega) (fun q hq=>?_) ?_
  ·obtain⟨_,h2,h3⟩:=F3g hq
   refine⟨?_,h2,h3⟩
   simp only[R93,rowH,List.cons_append,List.nil_append,List.append_nil,List.mem_cons,List.not_mem_nil,or_false]at hq
   rcases hq with rfl | rfl | rfl | rfl | rfl | rfl | rfl<;>rfl
  ·have e3:s393 n [0]=rowP A5o 5 (A9x n []):=F3f n [0] []
   have r6:rowP eNat 6 [0] = .row 6 0 1 1:=rfl
   have r7:rowP ePth 7 [[]] = .row 7 0 1 1:=rfl
   simp -implicitDefEqProofs [E93Y,e3,r6,r7,A0e,under,yv]
 ·intro i hi
  obtain⟨hinv,_⟩:=B4o ha i
  have hile:(bfsP a i).1.length<=n:=by rw[hn];exact hinv.le
  have e1:IntKind.i64.wrap ((i:Int)+1)=((i+1:Nat):Int):=A0k (by omega) (by omega)
  have ho:=B4p a i
  rw[<-hn]at ho
  rw[G2h]
  refine A2b ctx0 c93c1 ?_
  unfold G2o
  unfold S93 E93Y
  by_cases hil:i<(bfsP a i).1.length
  ·obtain⟨g1,g2⟩:=hinv.get hil
   obtain⟨m,hm⟩:∃m,m=B9k (bfsP a i) i:=⟨_,rfl⟩
   obtain⟨p,hp⟩:∃p,p=C7c (bfsP a i) i:=⟨_,rfl⟩
   rw[<-hm]at g1
   rw[<-hp]at g2
   have eb:bfsP a (i+1)=midP p (bfsP a i) (A3x a m):=by
    show(if i<(bfsP a i).1.length then midP (C7c (bfsP a i) i) (bfsP a i) (A3x a (B9k (bfsP a i) i))else bfsP a i)=_
    rw[if_pos hil,hm,hp]
   have eo:outP a (i+1)=(outP a i).set m p:=by
    show(if i<(bfsP a i).1.length then(outP a i).set (B9k (bfsP a i) i) (C7c (bfsP a i) i)else outP a i)=_
    rw[if_pos hil,hm,hp]
   have hml:m<n:=by rw[hn];exact hinv.lt m (List.mem_of_getElem? g1)
   simp -implicitDefEqProofs [A1o,hil]
   refine F2r (fun _:Unit=>⟨E93Y l i (rowP eNat 6 (bfsP a (i+1)).1) (rowP ePth 7 (bfsP a (i+1)).2) (s393 n (bfsP a (i+1)).1),H93 t l x (outP a (i+1)) n (bfsP a (i+1)),8,76⟩) (fun _=>True) (fun _=>rfl) ?_ ?_
   ·refine C3h ?_
    rw[G2i]
    refine F2r (fun _:Unit=>⟨E93Y l i (rowP eNat 6 (bfsP a i).1) (rowP ePth 7 (bfsP a i).2) (s393 n (bfsP a i).1),H93 t l x (outP a (i+1)) n (bfsP a i),8,76⟩) (fun _=>True) (fun _=>rfl) ?_ ?_
    ·have r6:=row6 t l n x (outP a i) (bfsP a i)
     have r7:=row7 t l n x (outP a i) (bfsP a i)
     have i1:A1k 1 (rowP eNat 6 (bfsP a i).1) (.t (iv (i:Int)))=some (.ptr 6 i):=by
      have:=A1p (e:=eNat) (b:=6) g1 .i64
      rw[show eNat.z=1 from rfl,Nat.mul_one]at this
      exact this
     have i2:A1k 1 (rowP ePth 7 (bfsP a i).2) (.t (iv (i:Int)))=some (.ptr 7 i):=by
      have:=A1p (e:=ePth) (b:=7) g2 .i64
      rw[show ePth.z=1 from rfl,Nat.mul_one]at this
      exact this
     have l1:∀H,A0j eNat 3 H 6 (bfsP a i).1->A0h false 1 H (.ptr 6 i)=some (.t (iv (m:Int))):=fun H h=>by
      have:=h.load (off:=0) (c:=iv (m:Int)) g1 rfl
      rw[show eNat.z=1 from rfl,Nat.mul_one,Nat.add_zero]at this
      exact this
     have l2:∀H,A0j ePth 33 H 7 (bfsP a i).2->A0h false 1 H (.ptr 7 i)=some (.t (A0l eInt p)):=fun H h=>by
      have:=h.load (off:=0) (c:=A0l eInt p) g2 rfl
      rw[show ePth.z=1 from rfl,Nat.mul_one,Nat.add_zero]at this
      exact this
     have hup:upd (H93 t l x (outP a i) n (bfsP a i)) 1 (A1m ePth 33 ((outP a i).set m p))=H93 t l x (outP a (i+1)) n (bfsP a i):=by
      have:rowP ePth 1 (outP a i)=rowP ePth 1 ((outP a i).set m p):=F3j (by simp)
      rw[eo]
      unfold H93 R93
      rw[this]
      rfl
     have hyy:=hy (H93 t l x (outP a i) n (bfsP a i)) 8 m p (outP a i) rfl rfl rfl (by rw[ho,hn]) (by omega)
     rw[hup]at hyy
     refine G0p (A3q.sub (s':=⟨E93Y l i (rowP eNat 6 (bfsP a i).1) (rowP ePth 7 (bfsP a i).2) (s393 n (bfsP a i).1),H93 t l x (outP a i) n (bfsP a i),8,76⟩) (A8a (by simp -implicitDefEqProofs [E93Y])) (F3a ctx0.sound i1 i2 (l1 _ r6) (l2 _ r7) (l1 _ (row6 t l n x _ _)) (l2 _ (row7 t l n x _ _)) hyy ?_))
     refine C1d ctx0 c93cY ?_ rfl
     unfold G2p
     simp -implicitDefEqProofs [s93Y,T93Y,envB]
     exact Next.mk () trivial (A8a (by simp -implicitDefEqProofs [E93Y]))
    ·rintro _ -
     obtain⟨y,hy'⟩:∃y,y=ndAt a (m:Int):=⟨_,rfl⟩
     have hx:=(ha.nd (i:=m) (by omega)).2
     rw[<-hy']at hx
     have hym:=List.mem_of_getElem? hx
     have ix:=A9o ht hx
     have hyl:=hs.arcs y hym
     have ea:A3x a m=y.arcs:=by unfold A3x;rw[hy']
     rw[ea]at eb
     have i1:A1k 1 (rowP eNat 6 (bfsP a i).1) (.t (iv (i:Int)))=some (.ptr 6 i):=by
      have:=A1p (e:=eNat) (b:=6) g1 .i64
      rw[show eNat.z=1 from rfl,Nat.mul_one]at this
      exact this
     obtain⟨H0,hH0⟩:∃H0,H0=H93 t l x (outP a (i+1)) n (bfsP a i):=⟨_,rfl⟩
     have l1:A0h false 1 H0 (.ptr 6 i)=some (.t (iv (m:Int))):=by
      rw[hH0]
      have:=(row6 t l n x (outP a (i+1)) (bfsP a i)).load (off:=0) (c:=iv (m:Int)) g1 rfl
      rw[show eNat.z=1 from rfl,Nat.mul_one,Nat.add_zero]at this
      exact this
     have l3:A0h false 1 H0 (.ptr 3 0)=some (.t t):=by
      have:Abs.look H0 3=some (.cells 25 [.t t]):=by rw[hH0];rfl
      simp[A0h,this]
     have lp:∀c cs,A0h false 1 H0 (.t (.pt (c::cs)))=some (.t c):=fun _ _=>rfl
     refine A2b ctx0 c93d1 ?_
     unfold G2q
     unfold E93Y
     rw[<-hH0]
     simp -implicitDefEqProofs [l3,i1,l1,ix,lp,y.ok.len]
     refine C3h ?_
     refine E3b (fun j=>S93i t l x (outP a (i+1)) n (midP p (bfsP a i) (y.arcs.take j)) i y.tree y.arcs.length j) (fun j=>y.arcs.length-j) (fun j=>j<=y.arcs.length) 0 (fun _=>rfl) (by simp) ?_ ?_
     ·have e0:midP p (bfsP a i) (y.arcs.take 0)=bfsP a i:=rfl
      rw[e0,hH0]
      exact A8a (by simp -implicitDefEqProofs [S93i])
     ·intro j hj
      obtain⟨hv,⟨⟨r1,q1⟩,⟨r2,q2⟩⟩,_⟩:=PInv.mid ha (y.arcs.take j) hinv g1 g2 (fun c hc=>by rw[ea];exact List.mem_of_mem_take hc)
      have hvl:=hv.le
      have hvs:=hv.len
      by_cases hjl:j<y.arcs.length
      ·obtain⟨c,hc⟩:∃c,y.arcs[j]?=some c:=⟨_,List.getElem?_eq_getElem hjl⟩
       have hto:=ha.tor (i:=m) (by omega) (s:=c) (by rw[ea];exact List.mem_of_getElem? hc)
       obtain⟨f,to⟩:=c
       obtain⟨k,rfl⟩:∃k:Nat,to=(k:Int):=⟨to.toNat,by simp only at hto;omega⟩
       simp only[Int.toNat_natCast]at hto
       have e5:=F2x (p:=p) (st:=bfsP a i) hc
       refine G0o (p:=p) y.ok hc hyl (by omega) (by rw[q2];exact D0p g2) ?_ (by omega) (by omega) fun s hsub hn'=>?_
       ·have:=hinv.short i p g2
        omega
       ·rw[<-e5]at hsub
        exact Next.mk (j+1) ⟨by omega,by omega⟩ hsub
      ·have ej:j=y.arcs.length:=by omega
       subst ej
       rw[List.take_length]at *
       rw[F7u]
       refine A2b ctx0 G2x ?_
       unfold G0g
       unfold S93i
       simp -implicitDefEqProofs
       refine A2b ctx0 G2y ?_
       unfold G0h
       simp -implicitDefEqProofs
       refine Next.mk () trivial ?_
       rw[eb]
       exact A8a (by simp -implicitDefEqProofs [E93Y])
   ·rintro _ -
    refine C1d ctx0 G2w ?_
    unfold F7v
    unfold E93Y
    simp -implicitDefEqProofs [e1]
    refine Next.mk (i+1) ⟨?_,by omega⟩ (A8a (by simp -implicitDefEqProofs [S93,E93Y]))
    obtain⟨⟨r,er⟩,_⟩:=E3e ha i
    rw[er,List.length_append]
    omega
  ·have ei:i=(bfsP a i).1.length:=by omega
   obtain⟨k,hk⟩:∃k,a.length=i+k:=⟨a.length-i,by omega⟩
   have ef:A1d a=outP a i:=by
    unfold A1d
    rw[hk]
    exact(D6w (by omega) k).2
   rw[ef]
   simp -implicitDefEqProofs [A1o,hil]
   refine⟨.inl rfl,⟨[],R93a t l x (outP a i),5,76⟩,[],C6j (by omega) (fun q hq=>?_) (by simp),rfl,rfl,rfl,rfl⟩
   simp only[R93a,List.mem_cons,List.not_mem_nil,or_false]at hq
   rcases hq with rfl | rfl | rfl | rfl
   ·exact⟨rfl,by simp,A0x _ _ _ _⟩
   ·exact⟨rfl,by simp,by have:=A0e ePth 5 1 (outP a i) (by omega);simp only[A1b,A2g,this,Bool.and_self]⟩
   ·exact⟨rfl,by simp,rfl⟩
   ·exact⟨rfl,by simp,rfl⟩
end
def asC:Code->Code
 | .rangeFunc _ _ a _=>a
 | c=>c
def bdC:Code->Code
 | .rangeFunc _ _ _ b=>b
 | c=>c
noncomputable def b39:Code:=match Try.f39.body with
 | some c=>c
 | none=>.skip
noncomputable def RF39:Code:=inC (tlC (hdC (tlC (tlC b39))))
noncomputable def as39:Code:=asC RF39
noncomputable def bd39:Code:=bdC RF39
noncomputable def o39a:Array Oper:=E0d (hdC as39)
noncomputable def o39b:Array Oper:=E0d (tlC as39)
noncomputable def o39c:Array Oper:=E0d (inC bd39)
theorem G0q:RF39 = .rangeFunc (.tmp 11) #[12,13] as39 bd39:=by kernel_rfl
theorem G0r:as39 = .seq (.region (idC (hdC as39)) o39a false) (.region (idC (tlC as39)) o39b false):=by kernel_rfl
theorem G0s:bd39 = .block 1 (.region (idC (inC bd39)) o39c false):=by kernel_rfl
def l39a:List Mini:=[⟨some 4,.mv,[.tmp 12],none⟩]
def l39b:List Mini:=[⟨some 5,.mv,[.tmp 13],none⟩]
def l39c:List Mini:=[⟨some 14,.load false 1,[.tmp 3],none⟩,⟨some 15,.mv,[.tmp 4],none⟩,⟨some 16,.mv,[.tmp 5],none⟩,⟨some 17,.iaddr 1,[.tmp 14,.tmp 15],none⟩,⟨none,.store 1,[.tmp 17,.tmp 16],none⟩]
theorem G0t:o39a.toList.mapM (A2e Try.prog G 19 false o39a)=some l39a:=by kernel_rfl
theorem G0u:o39b.toList.mapM (A2e Try.prog G 19 false o39b)=some l39b:=by kernel_rfl
theorem G0v:o39c.toList.mapM (A2e Try.prog G 19 false o39c)=some l39c:=by kernel_rfl
def E0f (ops:Array Oper):Bool:=ops.toList.all fun o=>match o.op with
 | .defer _=>false
 | _=>true
theorem E3i {ops:Array Oper} (h:E0f ops=true):∀o∈ops.toList,∀c,o.op ≠ .defer c:=by
 intro o ho c e
 have:=List.all_eq_true.1 h o ho
 rw[e]at this
 cases this
theorem nd39a:E0f o39a=true:=by kernel_rfl
theorem nd39b:E0f o39b=true:=by kernel_rfl
theorem nd39c:E0f o39c=true:=by kernel_rfl
structure L39 (x:Loop):Prop where
 state:x.state = .ready
 pend:x.pending=none
 params:x.params = #[12,13]
 assign:x.assign=as39
 body:x.body=bd39
 size:x.tmps.size=19
section
variable {P : Program} {Gl : A1c} {L L' : Abs.Loc} {H H' K : Heap} {w w' : World}
theorem D7a (h:A1n P Gl L H w) (e:∀b,Abs.look H' b=Abs.look H b):A1n P Gl L H' w:=
 ⟨h.lt,fun b r hb=>h.rep b r (by rw[<-e];exact hb),fun b r hb=>h.apart b r (by rw[<-e];exact hb),fun b b' r r' hb hb'=>h.inj b b' r r' (by rw[<-e];exact hb) (by rw[<-e];exact hb'),fun b r hb=>h.nx b r (by rw[<-e];exact hb),h.glob⟩
theorem F3k (h:Ext L K w L' H w') (e:∀b,Abs.look H' b=Abs.look H b):Ext L K w L' H' w':=
 ⟨h.size,h.same,h.more,h.new,fun g ⟨b,r,hb,q⟩=>h.mine g ⟨b,r,by rw[<-e];exact hb,q⟩,h.shape,h.outer⟩
theorem F6z (hok:A1n P Gl L H w) (hx:Ext L H w L' H' w') (hn:L.nx<=L'.nx) (hμ:∀b,b<L.nx->L'.μ b=L.μ b):Mono L w L' w':=⟨hx.keeps hok,hn,hμ,hx.size,hx.shape⟩
theorem D2s {b l k:Nat} {x y:Loop} {p:PV} (hok:A1n P Gl L H w) (hl:Abs.look H b=some (.lp l x k p)) (ht:y.tmps=x.tmps) :
  A1n P Gl L (upd H b (.lp l y k p)) (w.putObj l (.loop y))/\Mono L w L (w.putObj l (.loop y))/\Ext L H w L (upd H b (.lp l y k p)) (w.putObj l (.loop y)):=by
 have hr:=hok.rep b _ hl
 simp only[A3n]at hr
 obtain⟨e,h1,h2⟩:=hr
 have hlt:l<w.heap.size:=by rw[<-e];exact(Array.getElem?_eq_some_iff.1 h1).1
 refine A9f hok ⟨rfl,rfl,rfl⟩ hl World.putObj_size (fun g hg=>World.putObj_heap_other (by rw[<-e];exact hg)) (fun g hg arr ty fz he=>?_) fun hm=>?_
 ·by_cases hgl:g=l
  ·rw[hgl,World.putObj_heap_same hlt]at he
   cases he
  ·rw[World.putObj_heap_other hgl]at he
   exact⟨arr,fz,he,rfl⟩
 ·simp only[A3n]
  refine⟨e,?_,?_⟩
  ·rw[e]
   exact World.putObj_heap_same hlt
  ·rw[ht]
   exact RepV.keep hm p h2
end
theorem C7e {ro:Option Nat} {B:Nat} {id:Nat} {ops:Array Oper} {l:List Mini} {s s':A0b} (hn:s.n=19) (hl:ops.toList.mapM (A2e Try.prog G 19 false ops)=some l) (hd:E0f ops=true) (hr:runL (orc []) l s=some s') {L:Abs.Loc} {a:Act} {w:World} (hi:Interp Try.prog G B L s a w) :
  (Code.region id ops false).wpIn (E6v ro) 0 Try.prog (Post Try.prog G B (fun e s2=>e = .normal/\s2=s') L s.H w) a w:=
 F2o (Q:=fun s2=>s2=s') (.inr (E3i hd)) (A9h ctx0.sound _ (A3f hl) hn hr rfl) hi
theorem G0w {ro:Option Nat} {B:Nat} {ops:Array Oper} {l:List Mini} {s s':A0b} (hn:s.n=19) (hl:ops.toList.mapM (A2e Try.prog G 19 false ops)=some l) (hd:E0f ops=true) (hr:runL (orc []) l s=some s') {L:Abs.Loc} {a:Act} {w:World} (hi:Interp Try.prog G B L s a w) :
  wpListIn (E6v ro) 0 Try.prog ops (Post Try.prog G B (fun e s2=>e = .normal/\s2=s') L s.H w) ops.toList a w:=by
 refine D2l ?_ _ (.inr (E3i hd)) (A9h (Q:=fun s2=>s2=s') ctx0.sound _ (A3f hl) hn hr rfl L a w hi)
 rintro⟨a0,w0,s1,L1,⟨e,_⟩,_⟩
 cases e
set_option maxHeartbeats 1000000 in
theorem E0g {l k:Nat} {x:Loop} (hx:L39 x):F7w l x k:=by
 intro H nx m p outs h1 h2 h4 hlen hm L w us hok hnx hus
 have hul:us.size=2:=by simpa using hus.length
 obtain⟨u0,u1,rfl⟩:∃u0 u1,us = #[u0,u1]:=by
  obtain⟨ul⟩:=us
  match ul,hul with
  | [u0,u1],_=>exact⟨u0,u1,rfl⟩
 simp only[A0z]at hus
 obtain⟨a0,q0,e0,hr0,a1,q1,e1,hr1,e2⟩:=hus
 injection e0 with e0 e0'
 subst e0
 subst e0'
 injection e1 with e1 e1'
 subst e1
 subst e1'
 have hr4:=hok.rep 4 _ h4
 simp only[A3n]at hr4
 obtain⟨hμ4,hl,hp2⟩:=hr4
 rw[hμ4]at hl
 refine⟨x.fn,_,x.assign,x.body,run_yield hl (by rw[hx.params];rfl),roundIn_of_wpIn trivial ?_⟩
 have htm:(x.params.zip #[u0,u1]).foldl (fun tmps (t,a)=>tmps.setIfInBounds t a) x.tmps=(x.tmps.setIfInBounds 12 u0).setIfInBounds 13 u1:=by rw[hx.params];simp
 rw[htm,hx.assign,G0r,hx.body,G0s]
 have hsz:=hx.size
 have hi0:Interp Try.prog G nx L ⟨[(13,.t (A0l eInt p)),(12,.t (iv (m:Int))),(3,.ptr 2 0)],H,nx,19⟩ { tmps:=(x.tmps.setIfInBounds 12 u0).setIfInBounds 13 u1,defers:=[] } w:=by
  refine⟨hok,hnx,by rw[hnx];exact Nat.le_refl _,by simp[hsz],rfl,fun j q hj=>?_⟩
  simp only[Abs.look]at hj
  split at hj
  ·rename_i e;injection hj with hj;subst hj;subst e
   have:((x.tmps.setIfInBounds 12 u0).setIfInBounds 13 u1).getD 13 undef=u1:=by simp[hsz]
   rw[this];exact hr1
  ·split at hj
   ·rename_i e;injection hj with hj;subst hj;subst e
    have:((x.tmps.setIfInBounds 12 u0).setIfInBounds 13 u1).getD 12 undef=u0:=by simp[hsz]
    rw[this];exact hr0
   ·split at hj
    ·rename_i e;injection hj with hj;subst hj;subst e
     have:((x.tmps.setIfInBounds 12 u0).setIfInBounds 13 u1).getD 3 undef=x.tmps.getD 3 undef:=by simp[hsz]
     rw[this];exact hp2
    ·cases hj
 refine wpIn_seq (wpIn_mono (C7e (ro:=some l) (s':=⟨[(4,.t (iv (m:Int))),(13,.t (A0l eInt p)),(12,.t (iv (m:Int))),(3,.ptr 2 0)],H,nx,19⟩) rfl G0t nd39a rfl hi0) ?_)
 rintro e a1 w1 ⟨s1,L1,⟨rfl,rfl⟩,hi1,hx1,hb1⟩
 refine wpIn_mono (C7e (ro:=some l) (s':=⟨[(5,.t (A0l eInt p)),(4,.t (iv (m:Int))),(13,.t (A0l eInt p)),(12,.t (iv (m:Int))),(3,.ptr 2 0)],H,nx,19⟩) rfl G0u nd39b rfl hi1) ?_
 rintro e a2 w2 ⟨s2,L2,⟨rfl,rfl⟩,hi2,hx2,hb2⟩
 have hr4:=hi2.heap.rep 4 _ h4
 simp only[A3n]at hr4
 obtain⟨hμ4',hl2,_⟩:=hr4
 rw[hμ4']at hl2
 refine⟨_,run_beginRound hl2 hx.state,?_⟩
 obtain⟨ok3,hm3,hx3⟩:=D2s (y:={ x with state:=.busy }) hi2.heap h4 rfl
 have hi3:Interp Try.prog G nx L2 ⟨[(5,.t (A0l eInt p)),(4,.t (iv (m:Int))),(13,.t (A0l eInt p)),(12,.t (iv (m:Int))),(3,.ptr 2 0)],upd H 4 (.lp l { x with state:=.busy } 3 (.ptr 2 0)),nx,19⟩ a2 (w2.putObj l (.loop { x with state:=.busy })):=
  ⟨ok3,hi2.nx,hi2.base,hi2.size,hi2.defers,fun j q hj=>RepV.keep hm3 q (hi2.env j q hj)⟩
 obtain⟨H3,hH3⟩:∃H3,H3=upd H 4 (.lp l { x with state:=.busy } 3 (.ptr 2 0)):=⟨_,rfl⟩
 have k1:Abs.look H3 1=some (A1m ePth 33 outs):=by rw[hH3,A0o,if_neg (by omega)];exact h1
 have k2:Abs.look H3 2=some (.cells 55 [rowP ePth 1 outs]):=by rw[hH3,A0o,if_neg (by omega)];exact h2
 obtain⟨q,hq⟩:∃q,outs[m]?=some q:=⟨_,List.getElem?_eq_getElem (by omega)⟩
 have ld:A0h false 1 H3 (.ptr 2 0)=some (rowP ePth 1 outs):=by simp[A0h,k2]
 have ia:A1k 1 (rowP ePth 1 outs) (.t (iv (m:Int)))=some (.ptr 1 m):=by
  have:=A1p (e:=ePth) (b:=1) hq .i64
  rw[show ePth.z=1 from rfl,Nat.mul_one]at this
  exact this
 have stt:A1e 1 H3 (.ptr 1 m) (.t (A0l eInt p))=some (upd H3 1 (A1m ePth 33 (outs.set m p))):=by
  have:=A9p (e:=ePth) (off:=0) (y:=p) (c:=A0l eInt p) k1 hq (by decide) rfl (by cases p<;>rfl)
  rw[show ePth.z=1 from rfl,Nat.mul_one,Nat.add_zero]at this
  exact this
 rw[<-hH3]at hi3
 refine wpIn_block (wpIn_mono (C7e (ro:=some l) (s':=⟨[(17,.ptr 1 m),(16,.t (A0l eInt p)),(15,.t (iv (m:Int))),(14,rowP ePth 1 outs),(5,.t (A0l eInt p)),(4,.t (iv (m:Int))),(13,.t (A0l eInt p)),(12,.t (iv (m:Int))),(3,.ptr 2 0)],upd H3 1 (A1m ePth 33 (outs.set m p)),nx,19⟩) rfl G0v nd39c (by simp -implicitDefEqProofs [runL,l39c,C2k,Mini.wants,A0b.put,Abs.look,ld,ia,stt]) hi3) ?_)
 rintro e a4 w4 ⟨s4,L4,⟨rfl,rfl⟩,hi4,hx4,hb4⟩
 have k4:Abs.look (upd H3 1 (A1m ePth 33 (outs.set m p))) 4=some (.lp l { x with state:=.busy } 3 (.ptr 2 0)):=by
  rw[A0o,if_neg (by omega),hH3,A0o,if_pos rfl,h4]
  rfl
 have hr5:=hi4.heap.rep 4 _ k4
 simp only[A3n]at hr5
 obtain⟨hμ5,hl5,_⟩:=hr5
 rw[hμ5]at hl5
 refine⟨_,_,run_endRound none hl5,?_⟩
 have ex:({ { x with state:=.busy }with state:=(if(none:Option Code).isNone then .ready else .done),pending:=none }:Loop)=x:=by
  have h1:=hx.state
  have h2:=hx.pend
  obtain⟨st,pe,fn,tm,pa,as',bo,de⟩:=x
  simp only at h1 h2
  subst h1
  subst h2
  rfl
 rw[ex]
 obtain⟨ok5,hm5,hx5⟩:=D2s (y:=x) hi4.heap k4 rfl
 have ec:∀b,Abs.look (upd H 1 (A1m ePth 33 (outs.set m p))) b=Abs.look (upd (upd H3 1 (A1m ePth 33 (outs.set m p))) 4 (.lp l x 3 (.ptr 2 0))) b:=by
  intro b
  rw[hH3]
  simp only[A0o]
  by_cases b4:b=4
  ·subst b4
   simp[h4]
  ·by_cases b1:b=1
   ·subst b1
    simp
   ·simp[b4,b1]
 have hxx:Ext L H w L4 (upd (upd H3 1 (A1m ePth 33 (outs.set m p))) 4 (.lp l x 3 (.ptr 2 0))) (w4.putObj l (.loop x)):=((((hx1.trans hx2).trans (hH3▸hx3)).trans hx4).trans hx5)
 have hxe:=F3k hxx ec
 refine⟨.bool true,L4,rfl,by simp only[RepV,RepT],D7a ok5 ec,hi4.nx,F6z hok hxe (by rw[hnx];exact Nat.le_of_eq hi4.nx.symm) fun b hb=>?_,hxe⟩
 rw[hnx]at hb
 rw[hb4 b hb,hb2 b hb,hb1 b hb]
def addD (ds:List Deferred) (a:Act):Act:={ a with defers:=a.defers++ds }
theorem D2t (ds:List Deferred) (a:Act) (d:Option Tmp) (v:Value):(addD ds a).put d v=addD ds (a.put d v):=by cases d<;>rfl
section
variable {F : Fence} {n : Nat} {P : Program} {ops : Array Oper} {Q : Exit -> Act -> World -> Prop}
theorem C3i (ds:List Deferred):∀(l:List Oper) (a:Act) (w:World),wpListIn F n P ops Q l a w->wpListIn F n P ops (fun e a w=>∃a0,a=addD ds a0/\Q e a0 w) l (addD ds a) w
 | [],a,w,h=>⟨a,rfl,h⟩
 | o::l,a,w,h=>by
  have out:∀{e:Ending},e = .outgrown->LetsOut Q->LetsOut fun e a w=>∃a0,a=addD ds a0/\Q e a0 w:=fun _ ⟨a0,w0,h0⟩=>⟨addD ds a0,w0,a0,rfl,h0⟩
  unfold wpListIn at h ⊢
  show if Region.wanted o (yielded ops a.tmps)=true then _ else _
  split
  ·rename_i hw
   rw[if_pos hw]at h
   refine⟨fun f hf=>h.1 f hf,?_⟩
   have h2:=h.2
   show o.uponIn F n P (addD ds a) _ _ ((o.semAt F.round a.eval).run P w)
   generalize (o.semAt F.round a.eval).run P w=r at h2 ⊢
   have next:∀v w',wpListIn F n P ops Q l (a.put o.dst v) w'->wpListIn F n P ops (fun e a w=>∃a0,a=addD ds a0/\Q e a0 w) l ((addD ds a).put o.dst v) w':=fun v w' h=>by
    rw[D2t]
    exact C3i ds l _ _ h
   cases r with
   | ok x w'=>
    cases x<;>simp only[Oper.uponIn]at h2 ⊢
    case value v=>exact next v w' h2
    case skip=>exact next undef w' h2
    case defer d=>
     have e:({ addD ds a with defers:=d::(addD ds a).defers }:Act).put o.dst undef=addD ds (({ a with defers:=d::a.defers }:Act).put o.dst undef):=D2t ds { a with defers:=d::a.defers } o.dst undef
     rw[e]
     exact C3i ds l _ _ h2
    case enter f args=>
     refine⟨h2.1,CallsIn.mono h2.2 fun e w'' he=>?_⟩
     cases e with
     | returned v=>exact next v w'' he
     | panicked c=>exact⟨a,rfl,he⟩
     | outgrown=>exact out rfl he
    case row row args=>exact⟨h2.1,RowsIn.mono h2.2 fun v w'' he=>next v w'' he⟩
    case round l' f tmps assign body=>
     refine⟨h2.1,RoundIn.mono h2.2 fun e w'' he=>?_⟩
     cases e with
     | returned v=>exact next v w'' he
     | panicked c=>exact⟨a,rfl,he⟩
     | outgrown=>exact out rfl he
   | halt x w'=>
    cases x<;>simp only[Oper.uponIn]at h2 ⊢
    case panic v=>exact⟨a,rfl,h2⟩
  ·rename_i hw
   rw[if_neg hw]at h
   refine⟨fun f hf=>h.1 f hf,?_⟩
   rw[D2t]
   exact C3i ds l _ _ h.2
end
section
variable {P : Program} {Gl : A1c} {L L' : Abs.Loc} {H H' K : Heap} {w w' : World}
theorem E7d (h:A1n P Gl L H w) (e:∀b r,Abs.look H' b=some r->Abs.look H b=some r):A1n P Gl L H' w:=
 ⟨h.lt,fun b r hb=>h.rep b r (e b r hb),fun b r hb=>h.apart b r (e b r hb),fun b b' r r' hb hb'=>h.inj b b' r r' (e b r hb) (e b' r' hb'),fun b r hb=>h.nx b r (e b r hb),h.glob⟩
theorem G0x (h:Ext L K w L' H w') (e:∀b r,Abs.look H' b=some r->Abs.look H b=some r):Ext L K w L' H' w':=
 ⟨h.size,h.same,h.more,h.new,fun g ⟨b,r,hb,q⟩=>h.mine g ⟨b,r,e b r hb,q⟩,h.shape,h.outer⟩
theorem E7e (hok:A1n P Gl L H w) (o:Obj):A1n P Gl L H (w.alloc o)/\Mono L w L (w.alloc o)/\Ext L H w L H (w.alloc o):=by
 have hold:∀g,g<w.heap.size->(w.alloc o).heap[g]?=w.heap[g]?:=fun g hg=>by
  show(w.heap.push o)[g]?=w.heap[g]?
  rw[Array.getElem?_push_lt hg,Array.getElem?_eq_getElem hg]
 have hsz:w.heap.size<=(w.alloc o).heap.size:=by simp
 have hsh:A2u w (w.alloc o):=fun g hg arr ty fz he=>⟨arr,fz,by rw[<-hold g hg];exact he,rfl⟩
 have hm:Mono L w L (w.alloc o):=⟨fun b hb=>⟨hb,hold b (hok.lt b hb)⟩,Nat.le_refl _,fun _ _=>rfl,hsz,hsh⟩
 exact⟨⟨fun b hb=>Nat.lt_of_lt_of_le (hok.lt b hb) hsz,fun b r hb=>(hok.rep b r hb).keep hm (hold _ (hok.rep b r hb).lt),hok.apart,hok.inj,hok.nx,A3k hok hm.keeps⟩,hm,
  ⟨hsz,fun g hg _=>hold g hg,fun _ h=>h,fun _ h=>.inl h,fun _ h=>.inr h,hsh,⟨rfl,rfl,rfl⟩⟩⟩
theorem E0h (hok:A1n P Gl L H w) {D:Nat} {o o':Obj} (hD:w.heap[D]?=some o) (hc:∀arr ty fz,o' ≠ .cells arr ty fz) (hI:¬L.I D) (hr:∀b r,Abs.look H b=some r->L.μ b≠D) :
  A1n P Gl L H (w.putObj D o')/\Mono L w L (w.putObj D o'):=by
 have hother:∀g,g≠D->(w.putObj D o').heap[g]?=w.heap[g]?:=fun g hg=>World.putObj_heap_other hg
 have hlt:=(Array.getElem?_eq_some_iff.1 hD).1
 have hsh:A2u w (w.putObj D o'):=fun g hg arr ty fz he=>by
  by_cases e:g=D
  ·rw[e,World.putObj_heap_same hlt]at he
   injection he with he
   exact absurd he (hc arr ty fz)
  ·rw[hother g e]at he
   exact⟨arr,fz,he,rfl⟩
 have hm:Mono L w L (w.putObj D o'):=⟨fun b hb=>⟨hb,hother b fun e=>hI (e▸hb)⟩,Nat.le_refl _,fun _ _=>rfl,by simp,hsh⟩
 exact⟨⟨fun b hb=>by rw[World.putObj_size];exact hok.lt b hb,fun b r hb=>(hok.rep b r hb).keep hm (hother _ (hr b r hb)),hok.apart,hok.inj,hok.nx,A3k hok hm.keeps⟩,hm⟩
end
theorem F3l {P:Program} {Gl:A1c} {B N:Nat} {c:Code} {s s':A0b} {L:Abs.Loc} {a:Act} {w:World} {K:Act->World->Prop} {Q:Exit->Act->World->Prop} (h:AK P Gl B N c (fun e s2=>e = .normal/\s2=s') s) (hn:s.n=N) (hi:Interp P Gl B L s a w)
  (hk:∀L' a' w',Interp P Gl B L' s' a' w'->Ext L s.H w L' s'.H w'->K a' w'):c.wpIn Fence.wide 0 P (Exit.then K Q) a w:=
 wpIn_wide.2 (wp_mono (h hn L a w hi) fun e a' w' ⟨s1,L1,⟨h1,h2⟩,hi1,hx,_⟩=>by subst h1;subst h2;exact hk L1 a' w' hi1 hx)
theorem E0i {t:T} (H:Heap) (nx:Nat):A7h Try.prog G 69 [.t (.ag [t])] H nx (.fn (.func 93) [] [.ptr nx 0]) ((nx,.cells 25 [.t t])::H) (nx+1):=by
 have cp:A0s (.t (.ag [t]))=some [.t t]:=rfl
 refine D2o.callP rfl ?_
 unfold B9h
 refine A0c ctx0 ?_
 simp -implicitDefEqProofs [cp]
 exact⟨.inr rfl,_,[.fn (.func 93) [] [.ptr nx 0]],Sub.refl _,rfl,rfl,rfl,rfl⟩
theorem F3n (n:Nat):A6s [Value.slice none 0 0] n=((List.replicate n ([]:List Int)).flatMap ePth.enc).map .t:=by
 refine List.ext_getElem? fun j=>?_
 have hl:(A6s [Value.slice none 0 0] n).length=n:=by rw[A3r];simp
 have hr:(((List.replicate n ([]:List Int)).flatMap ePth.enc).map PV.t).length=n:=by rw[List.length_map,A1x];simp[ePth]
 by_cases h:j<n
 ·obtain⟨c,hc⟩:∃c,(A6s [Value.slice none 0 0] n)[j]?=some c:=⟨_,List.getElem?_eq_getElem (by omega)⟩
  have:=(B7s hc).2
  rw[hc,this]
  have e:((List.replicate n ([]:List Int)).flatMap ePth.enc).map PV.t=List.replicate n (.t nilS):=by
   clear hc this hl hr h
   induction n with
   | zero=>rfl
   | succ n ih=>
    rw[List.replicate_succ,List.replicate_succ,List.flatMap_cons,List.map_append,ih]
    rfl
  rw[e,List.getElem?_replicate,if_pos h]
  simp[Nat.mod_one]
 ·rw[List.getElem?_eq_none (by omega),List.getElem?_eq_none (by omega)]
theorem F7a {n nx:Nat} (h0:0<n) (h:n<=1000000):B7v 33 1 24 [.slice none 0 0] (.t (iv (n:Int))) (.t (iv (n:Int))) nx=some (rowP ePth nx (List.replicate n []),A1m ePth 33 (List.replicate n [])):=by
 have hp:rowP ePth nx (List.replicate n []) = .row nx 0 n 1:=by
  obtain⟨k,rfl⟩:∃k,n=k+1:=⟨n-1,by omega⟩
  rw[List.replicate_succ]
  simp[rowP,ePth]
 rw[hp]
 simp only[B7v,Int.toNat_natCast]
 rw[if_pos ⟨by omega,by omega,by omega,by omega⟩,F3n]
 rfl
theorem E3j:Try.f39.body=some b39:=by kernel_rfl
theorem G2z:b39 = .seq (hdC b39) (.seq (hdC (tlC b39)) (.seq (.seq (hdC (hdC (tlC (tlC b39)))) (.block 0 RF39)) (.seq (.region (idC (hdC (tlC (tlC (tlC b39))))) (E0d (hdC (tlC (tlC (tlC b39))))) false) .ret))):=by kernel_rfl
noncomputable def o39d:Array Oper:=E0d (hdC (tlC (tlC (tlC b39))))
def M39a:A0n:=.ops [⟨some 1,.box 25,[.tmp 0],none⟩,⟨some 2,.mv,[.k (.t (.v (.slice none 0 0)))],none⟩]
def M39b:A0n:=.ops [⟨some 6,.faddr 0,[.tmp 1],none⟩,⟨some 7,.load false 1,[.tmp 6],none⟩,⟨some 8,.lensl,[.tmp 7],none⟩,⟨some 9,.make 33 1 24 [.slice none 0 0],[.tmp 8,.tmp 8],none⟩,⟨some 3,.alloc 55 [.slice none 0 0],[],none⟩,⟨none,.store 1,[.tmp 3,.tmp 9],none⟩]
def M39c:A0n:=.ops [⟨some 10,.load true 1,[.tmp 1],none⟩,⟨some 11,.hcall 69,[.tmp 10],none⟩]
def l39d:List Mini:=[⟨some 18,.load false 1,[.tmp 3],none⟩,⟨some 2,.mv,[.tmp 18],none⟩]
theorem c39a:comp Try.prog G 19 (hdC b39)=some M39a:=by kernel_rfl
theorem c39b:comp Try.prog G 19 (hdC (tlC b39))=some M39b:=by kernel_rfl
theorem c39c:comp Try.prog G 19 (hdC (hdC (tlC (tlC b39))))=some M39c:=by kernel_rfl
theorem G0y:o39d.toList.mapM (A2e Try.prog G 19 false o39d)=some l39d:=by kernel_rfl
theorem nd39d:E0f o39d=true:=by kernel_rfl
theorem n39 (k:Nat) (h:k=1):k+(Try.f39.ntmps-k)=19:=by subst h;kernel_rfl
theorem r39:Try.f39.results.toList=[.tmp 2]:=by kernel_rfl
theorem fn93:IsFn Try.prog 93:=⟨Try.f93,b93,Try.func93,E3g,by kernel_rfl⟩
def H39 (t:T) (k:Nat):Heap:=[(3,.cells 25 [.t t]),(2,.cells 55 [rowP ePth 1 (List.replicate k [])]),(1,A1m ePth 33 (List.replicate k [])),(0,.cells 25 [.t t])]
def S39 (t:T) (k:Nat):A0b:=⟨[(11,.fn (.func 93) [] [.ptr 3 0]),(3,.ptr 2 0)],H39 t k,4,19⟩
section
variable {nf : Nat} {ty : List Typ} {t : T} {a : List Nd}
set_option maxHeartbeats 1000000 in
theorem pre39 (ht:IsS eNd t a) (hpos:0<a.length) (hl:a.length<=100000) {L:Abs.Loc} {a0:Act} {w:World} {c:Code} {Q:Exit->Act->World->Prop} (hi:Interp Try.prog G 0 L ⟨[(0,.t (.ag [t]))],[],0,19⟩ a0 w)
  (hk:∀L' a' w',Interp Try.prog G 0 L' (S39 t a.length) a' w'->Ext L [] w L' (H39 t a.length) w'->RF39.wpIn Fence.wide 0 Try.prog (Exit.inBlock 0 (Exit.then (fun a w=>c.wpIn Fence.wide 0 Try.prog Q a w) Q)) a' w') :
  (Code.seq (hdC b39) (.seq (hdC (tlC b39)) (.seq (.seq (hdC (hdC (tlC (tlC b39)))) (.block 0 RF39)) c))).wpIn Fence.wide 0 Try.prog Q a0 w:=by
 have cp:A0s (.t (.ag [t]))=some [.t t]:=rfl
 have ag:agOf [.t t] = .t (.ag [t]):=rfl
 have mk:=F7a (nx:=1) hpos (by omega)
 have hc:=E0i (t:=t) ([(2,.cells 55 [rowP ePth 1 (List.replicate a.length [])]),(1,A1m ePth 33 (List.replicate a.length [])),(0,.cells 25 [.t t])]) 3
 have cv:Ctx Try.prog G (orh [] [(69,hOne [.t (.ag [t])] [(2,.cells 55 [rowP ePth 1 (List.replicate a.length [])]),(1,A1m ePth 33 (List.replicate a.length [])),(0,.cells 25 [.t t])] 3 (.fn (.func 93) [] [.ptr 3 0],H39 t a.length,4))]):=by
  refine A1q.nil.ctxH (A8e.cons (hOne_ok hc fun hf b y hb=>?_) .nil) A1w
  simp only[H39,look_cons]at hb
  split at hb
  ·omega
  ·have:=hf b y hb
   omega
 refine wpIn_seq (F3l (s':=⟨[(2,.t nilS),(1,.ptr 0 0),(0,.t (.ag [t]))],[(0,.cells 25 [.t t])],1,19⟩) (C1d ctx0 c39a (by unfold M39a;simp -implicitDefEqProofs [cp])) rfl hi fun L1 a1 w1 hi1 hx1=>?_)
 have cr:A0s (rowP ePth 1 (List.replicate a.length []))=some [rowP ePth 1 (List.replicate a.length [])]:=by cases a<;>rfl
 refine wpIn_seq (F3l (s':=⟨[(3,.ptr 2 0),(9,rowP ePth 1 (List.replicate a.length [])),(8,.t (iv (a.length:Int))),(7,.t t),(6,.ptr 0 0),(2,.t nilS),(1,.ptr 0 0),(0,.t (.ag [t]))],
  [(2,.cells 55 [rowP ePth 1 (List.replicate a.length [])]),(1,A1m ePth 33 (List.replicate a.length [])),(0,.cells 25 [.t t])],3,19⟩) (C1d ctx0 c39b (by unfold M39b;simp -implicitDefEqProofs [A0h,ht.len,mk,A1e,cr,A1t])) rfl hi1 fun L2 a2 w2 hi2 hx2=>?_)
 refine wpIn_seq (wpIn_seq (F3l (s':=⟨[(11,.fn (.func 93) [] [.ptr 3 0]),(10,.t (.ag [t])),(3,.ptr 2 0),(9,rowP ePth 1 (List.replicate a.length [])),(8,.t (iv (a.length:Int))),(7,.t t),(6,.ptr 0 0),(2,.t nilS),(1,.ptr 0 0),(0,.t (.ag [t]))],H39 t a.length,4,19⟩)
  (C1d cv c39c (by unfold M39c;simp -implicitDefEqProofs [A0h,ag,hOne_eq])) rfl hi2 fun L3 a3 w3 hi3 hx3=>?_))
 have hi3':Interp Try.prog G 0 L3 (S39 t a.length) a3 w3:=⟨hi3.heap,hi3.nx,hi3.base,hi3.size,hi3.defers,fun k q hq=>hi3.env k q (by
  simp only[S39,Abs.look]at hq
  split at hq
  ·rename_i e;subst e;exact hq
  ·split at hq
   ·rename_i e;subst e;exact hq
   ·cases hq)⟩
 exact wpIn_block (hk L3 a3 w3 hi3' ((hx1.trans hx2).trans hx3))
set_option maxHeartbeats 2000000 in
theorem E7f (ht:IsS eNd t a) (ha:A2j ty.length nf a) (hs:A3a a):A0y Try.prog G 39 [.ag [t]] (· = A0l ePth (A1d a)):=by
 have hpos:=ha.form.pos
 have hal:=hs.len
 refine⟨⟨Try.f39,b39,Try.func39,E3j,by kernel_rfl⟩,fun I w us hlt hglob hargs=>callsIn_wide (n:=0).1 (callsIn_of_wp_marks Try.func39 E3j trivial ?_)⟩
 have hlen:us.size=1:=by simpa using hargs.length
 obtain⟨L0,hL0⟩:∃L0:Abs.Loc,L0=⟨I,fun _=>0,0⟩:=⟨_,rfl⟩
 have hI0:L0.I=I:=by rw[hL0]
 have hok0:A1n Try.prog G L0 [] w:=by
  rw[hL0]
  exact⟨hlt,fun b r h=>by simp[Abs.look]at h,fun b r h=>by simp[Abs.look]at h,fun b b' r r' h=>by simp[Abs.look]at h,fun b r h=>by simp[Abs.look]at h,hglob⟩
 have hi0:Interp Try.prog G 0 L0 ⟨[(0,.t (.ag [t]))],[],0,19⟩ { tmps:=us++Array.replicate (Try.f39.ntmps-us.size) undef,defers:=[] } w:=by
  refine⟨hok0,by rw[hL0],Nat.zero_le _,?_,rfl,fun k p hl=>?_⟩
  ·rw[Array.size_append,Array.size_replicate]
   exact n39 _ hlen
  ·simp only[Abs.look]at hl
   split at hl
   ·rename_i e
    injection hl with hl
    subst hl
    subst e
    have hrep:=A0z.ofT (P:=Try.prog) (L:=L0) (hI0▸hargs)
    obtain⟨x,hx,hr⟩:=hrep.at_ 0 rfl
    have hx':us[0]?=some x:=by simpa using hx
    have hk':0<us.size:=(Array.getElem?_eq_some_iff.1 hx').1
    rw[Array.getD_eq_getD_getElem?,Array.getElem?_append_left hk',hx']
    exact hr
   ·cases hl
 rw[G2z]
 refine pre39 ht hpos hal hi0 fun L3 a3 w3 hi3 hx3=>?_
 rw[G0q]
 refine wpIn_rangeFunc ?_
 intro fn _
 have h11:=hi3.env 11 _ rfl
 simp only[RepV,A0z]at h11
 obtain⟨us1,vs1,e11,h1,u,r1,h2,hu,h3⟩:=h11
 have hus1:us1 = #[]:=by cases us1;simpa using h1
 have hvs1:vs1 = #[u]:=by cases vs1;simp_all
 subst hus1
 subst hvs1
 obtain⟨x,hx⟩:∃x:Loop,x={ state:=.ready,pending:=none,fn:=fn,tmps:=a3.tmps,params:=#[12,13],assign:=as39,body:=bd39,defers:=w3.heap.size }:=⟨_,rfl⟩
 have hx39:L39 x:=by rw[hx];exact⟨rfl,rfl,rfl,rfl,rfl,hi3.size⟩
 have hxt:x.tmps=a3.tmps:=by rw[hx]
 obtain⟨w1,hw1⟩:∃w1,w1=(w3.alloc (.deferred (some []))).alloc (.loop x):=⟨_,rfl⟩
 obtain⟨okA,mA,xA⟩:=E7e hi3.heap (.deferred (some []))
 have hsz:(w3.alloc (.deferred (some []))).heap.size=w3.heap.size+1:=by simp
 have s3:=hi3.env 3 _ rfl
 obtain⟨okB,mB,xB⟩:=C2v (w':=w1) (o:=.loop x) (r:=.lp (w3.heap.size+1) x 3 (.ptr 2 0)) okA (by rw[hw1];exact⟨rfl,rfl,rfl⟩) (by rw[hw1];rfl) (by
  simp only[A3n]
  refine⟨hsz,?_,?_⟩
  ·rw[hw1]
   exact World.alloc_heap_new _ _
  ·rw[hxt]
   exact RepV.keep (mA.trans (A9e okA (by rw[hw1];rfl))) _ s3)
 rw[hi3.nx]at okB xB
 obtain⟨L4,hL4⟩:∃L4,L4=L3.grow (w3.alloc (.deferred (some []))).heap.size:=⟨_,rfl⟩
 rw[<-hL4]at okB xB mB
 have hnx4:L4.nx=5:=by rw[hL4];show L3.nx+1=5;rw[hi3.nx];rfl
 have sub4:∀b r,Abs.look (R93a t (w3.heap.size+1) x (List.replicate a.length [])) b=some r->Abs.look ((4,.lp (w3.heap.size+1) x 3 (.ptr 2 0))::H39 t a.length) b=some r:=by
  intro b r h
  have:=A0p h
  simp only[R93a,List.mem_cons,List.not_mem_nil,or_false]at this
  rcases this with e | e | e | e<;>(injection e with e1 e2;subst e1;subst e2;rfl)
 have okC:=E7d okB sub4
 have xC:=G0x xB sub4
 refine⟨w3.heap.size+1,[{ target:=.collected w3.heap.size,args:=#[] }],w1,{ target:=.fn (.func 93) #[u],args:=#[.func (.yield (w3.heap.size+1)) #[] #[]] },w1,93,#[.func (.yield (w3.heap.size+1)) #[] #[],u],w1,?_,?_,fun _ _=>trivial,?_,fun h=>(by cases h),?_⟩
 ·rw[hw1,hx]
  exact run_enterLoop_outer _ _ _ _ _
 ·have hg:a3.eval (.tmp 11) = .func (.func 93) #[] #[u]:=e11
  simp only[resolve,hg]
  simp[go_sem]
 ·simp[invoke,go_sem,fn93.run]
 refine callsIn_wide.2 (((D6z ht ha hs (E0g hx39)).2 L4 w1 _ okC hnx4 ?_).mono ?_)
 ·simp only[A0z]
  exact⟨_,_,rfl,by simp only[yv,RepV,RepT],_,_,rfl,RepV.keep (mA.trans mB) _ hu,rfl⟩
 rintro e w5 ⟨v5,L5,rfl,hv5,ok5,hnx5,m5,x5⟩
 have row4:=ok5.rep 4 _ rfl
 simp only[A3n]at row4
 obtain⟨μ4,hl5,sl5⟩:=row4
 rw[μ4]at hl5
 have hend:=run_endLoop (P:=Try.prog) hl5 (by rw[hx39.state];decide)
 rw[hx39.pend]at hend
 refine⟨none,_,hend,?_⟩
 obtain⟨y,hy⟩:∃y:Loop,y={ x with state:=.exhausted,pending:=none }:=⟨_,rfl⟩
 obtain⟨ok6,m6,x6⟩:=D2s (y:=y) ok5 (b:=4) rfl (by rw[hy])
 rw[<-hy]
 obtain⟨H6,hH6⟩:∃H6,H6=upd (R93a t (w3.heap.size+1) x (A1d a)) 4 (.lp (w3.heap.size+1) y 3 (.ptr 2 0)):=⟨_,rfl⟩
 rw[<-hH6]at ok6 x6
 obtain⟨w6,hw6⟩:∃w6,w6=w5.putObj (w3.heap.size+1) (.loop y):=⟨_,rfl⟩
 rw[<-hw6]at ok6 m6 x6 ⊢
 have k2:Abs.look H6 2=some (.cells 55 [rowP ePth 1 (A1d a)]):=by rw[hH6];rfl
 have k1:Abs.look H6 1=some (A1m ePth 33 (A1d a)):=by rw[hH6];rfl
 have kb:∀b r,Abs.look H6 b=some r->0<b/\b<5:=by
  intro b r h
  rw[hH6,A0o]at h
  split at h
  ·omega
  ·have:=A0p h
   simp only[R93a,List.mem_cons,List.not_mem_nil,or_false]at this
   rcases this with e | e | e | e<;>(injection e with e1 e2;omega)
 have hd6:({ a3 with defers:=[{ target:=.collected w3.heap.size,args:=#[] }]++a3.defers }:Act)=addD [{ target:=.collected w3.heap.size,args:=#[] }] { tmps:=a3.tmps,defers:=[] }:=by
  rw[hi3.defers]
  rfl
 rw[hd6]
 have hi6:Interp Try.prog G 0 L5 ⟨[(3,.ptr 2 0)],H6,5,19⟩ { tmps:=a3.tmps,defers:=[] } w6:=by
  refine⟨ok6,hnx5,Nat.zero_le _,hi3.size,rfl,fun k p hl=>?_⟩
  simp only[Abs.look]at hl
  split at hl
  ·rename_i e
   injection hl with hl
   subst hl
   subst e
   rw[<-hxt]
   exact RepV.keep m6 _ sl5
  ·cases hl
 have ld:A0h false 1 H6 (.ptr 2 0)=some (rowP ePth 1 (A1d a)):=by simp[A0h,k2]
 have hrun:runL (orc []) l39d ⟨[(3,.ptr 2 0)],H6,5,19⟩=some ⟨[(2,rowP ePth 1 (A1d a)),(18,rowP ePth 1 (A1d a)),(3,.ptr 2 0)],H6,5,19⟩:=by
  simp -implicitDefEqProofs [runL,l39d,C2k,Mini.wants,A0b.put,Abs.look,ld]
 have hlist:=G0w (ro:=none) rfl G0y nd39d hrun hi6
 show(Code.seq (.region _ o39d false) .ret).wpIn Fence.wide 0 Try.prog _ _ w6
 refine wpIn_seq (wpIn_mono (wpIn_region_list (C3i [{ target:=.collected w3.heap.size,args:=#[] }] _ _ _ hlist)) ?_)
 rintro e a7 w7 ⟨a0,rfl,s7,L7,⟨rfl,rfl⟩,hi7,hx7,hb7⟩
 refine wpIn_ret ?_
 show LeavesInM Fence.wide 0 Try.prog Try.f39 a0.tmps _ (a0.defers++[{ target:=.collected w3.heap.size,args:=#[] }]) .returning w7
 rw[hi7.defers]
 have lt3:∀b r,Abs.look (H39 t a.length) b=some r->L3.μ b<w3.heap.size:=fun b r h=>(hi3.heap.rep b r h).lt
 have μD:∀b,0<b->b<5->L4.μ b≠w3.heap.size:=by
  intro b h0 h5
  rw[hL4]
  show(if b=L3.nx then _ else L3.μ b)≠_
  rw[hi3.nx]
  by_cases e:b=4
  ·subst e
   show(w3.alloc _).heap.size≠_
   rw[hsz]
   omega
  ·show(if b=4 then _ else L3.μ b)≠_
   rw[if_neg e]
   have:L3.μ b<w3.heap.size:=by
    have hb:b=1\/b=2\/b=3:=by omega
    rcases hb with rfl | rfl | rfl
    ·exact lt3 1 _ rfl
    ·exact lt3 2 _ rfl
    ·exact lt3 3 _ rfl
   omega
 have D1:w1.heap[w3.heap.size]?=some (.deferred (some [])):=by
  have hlt':w3.heap.size<(w3.alloc (.deferred (some []))).heap.size:=by rw[hsz];omega
  rw[hw1]
  show((w3.alloc (.deferred (some []))).heap.push _)[w3.heap.size]?=_
  rw[Array.getElem?_push_lt hlt',<-Array.getElem?_eq_getElem hlt']
  exact World.alloc_heap_new _ _
 have l1:w3.heap.size<w1.heap.size:=(Array.getElem?_eq_some_iff.1 D1).1
 have D5:w5.heap[w3.heap.size]?=some (.deferred (some [])):=by
  rw[x5.same _ l1 (fun⟨b,r,hb,e⟩=>?_)]
  ·exact D1
  ·have:=A0p hb
   simp only[R93a,List.mem_cons,List.not_mem_nil,or_false]at this
   rcases this with q | q | q | q<;>(injection q with q1 q2;exact μD b (by omega) (by omega) e)
 have D6:w6.heap[w3.heap.size]?=some (.deferred (some [])):=by
  rw[hw6,World.putObj_heap_other (by omega)]
  exact D5
 have μD5:∀b,0<b->b<5->L5.μ b≠w3.heap.size:=fun b h0 h5=>by
  rw[m5.μ b (by rw[hnx4];exact h5)]
  exact μD b h0 h5
 have D7:w7.heap[w3.heap.size]?=some (.deferred (some [])):=by
  rw[hx7.same _ (Array.getElem?_eq_some_iff.1 D6).1 (fun⟨b,r,hb,e⟩=>μD5 b (kb b r hb).1 (kb b r hb).2 e)]
  exact D6
 have xall:Ext L0 [] w L7 H6 w7:=((((hx3.trans xA).trans xC).trans x5).trans x6).trans hx7
 have oldD:w.heap.size<=w3.heap.size:=hx3.size
 have nomine:∀g,¬Mine L0 [] g:=fun g ⟨b,r,h,_⟩=>by simp[Abs.look]at h
 have notmine:¬Mine L4 (R93a t (w3.heap.size+1) x (List.replicate a.length [])) w3.heap.size:=by
  rintro⟨b,r,hb,e⟩
  have:=A0p hb
  simp only[R93a,List.mem_cons,List.not_mem_nil,or_false]at this
  rcases this with q | q | q | q<;>(injection q with q1 q2;exact μD b (by omega) (by omega) e)
 have notmine5:¬Mine L5 H6 w3.heap.size:=fun⟨b,r,hb,e⟩=>μD5 b (kb b r hb).1 (kb b r hb).2 e
 have l6:=(Array.getElem?_eq_some_iff.1 D6).1
 have hID:¬L7.I w3.heap.size:=by
  intro h
  rcases hx7.new _ h with h | h | h
  ·rcases x5.new _ h with h | h | h
   ·rw[hL4]at h
    have:=hi3.heap.lt _ h
    omega
   ·omega
   ·exact notmine h
  ·exact absurd l6 (by have h':w6.heap.size<=w3.heap.size:=h;omega)
  ·exact notmine5 h
 obtain⟨ok8,m8⟩:=E0h (o':=.deferred none) hi7.heap D7 (fun arr ty fz e=>by cases e) hID fun b r hb e=>by
  rcases hx7.mine _ ⟨b,r,hb,e⟩with h | h
  ·exact absurd l6 (by have h':w6.heap.size<=w3.heap.size:=h;omega)
  ·exact notmine5 h
 refine⟨(fun e=>by cases e),.inl ⟨w3.heap.size,_,rfl,run_takeDeferred D7,?_⟩⟩
 have hi8:Interp Try.prog G 0 L7 ⟨[(2,rowP ePth 1 (A1d a)),(18,rowP ePth 1 (A1d a)),(3,.ptr 2 0)],H6,5,19⟩ a0 (w7.putObj w3.heap.size (.deferred none)):=⟨ok8,hi7.nx,hi7.base,hi7.size,hi7.defers,fun k p h=>RepV.keep m8 p (hi7.env k p h)⟩
 have hres:A8u Try.prog Try.f39 ⟨[(2,rowP ePth 1 (A1d a)),(18,rowP ePth 1 (A1d a)),(3,.ptr 2 0)],H6,5,19⟩=some (rowP ePth 1 (A1d a)):=by
  unfold A8u
  rw[r39]
  rfl
 obtain⟨v,hrun8,hv8⟩:=B0d hi8 hres
 have hT:=A0j.toT (e:=ePth) (ty:=33) (l:=A1d a) (.inr k1)
 refine⟨v,hrun8,v,A0l ePth (A1d a),fun g=>L7.I g\/Lent L7 H6 (B0m 1 (A1d a)) g,rfl,rfl,C3o ok8 _ hT hv8 _ (fun b hb=>hb),xall.outer.trans ⟨rfl,rfl,rfl⟩,?_,fun g hg=>?_,fun g hg=>.inl (xall.more g (hI0▸hg)),fun g hg=>?_,fun g hg=>?_⟩
 ·rw[World.putObj_size]
  exact xall.size
 ·rw[World.putObj_heap_other (by omega)]
  exact xall.same g hg (nomine g)
 ·rcases hg with hg | ⟨b,_,⟨r,hr⟩,e⟩
  ·rcases xall.new g hg with h | h | h
   ·exact .inl (hI0▸h)
   ·exact .inr h
   ·exact absurd h (nomine g)
  ·rcases xall.mine g ⟨b,r,hr,e⟩with h | h
   ·exact .inr h
   ·exact absurd h (nomine g)
 ·rcases hg with hg | ⟨b,_,⟨r,hr⟩,rfl⟩
  ·exact ok8.lt g hg
  ·exact(ok8.rep b r hr).lt
end
noncomputable def E3k:List T->Option T:=g1 tFS fun a=>open Classical in if A3p a then some (A0l ePth (A1d a))else none
theorem D7b:GOK Try.prog G 39 E3k:=C2l fun u a r hu hr=>by
 obtain⟨t,rfl,ht⟩:=hu
 split at hr
 ·rename_i h
  injection hr with hr
  subst hr
  obtain⟨hs,ty,nf,hv⟩:=h
  exact E7f ht hv hs
 ·cases hr
theorem D7c {t:T} {a:List Nd} (ht:IsS eNd t a) (h:A3p a):E3k [.ag [t]]=some (A0l ePth (A1d a)):=(C2m (τ:=tFS) ⟨t,rfl,ht⟩).trans (if_pos h)
theorem A3p.first {a:List Nd} (h:A3p a):C7a a (A1d a):=by
 obtain⟨_,ty,nf,hv⟩:=h
 exact E3f hv
theorem A3p.short {a:List Nd} (h:A3p a) (n:Nat):((A1d a).getD n []).length<=100000:=by
 obtain⟨hs,ty,nf,hv⟩:=h
 rw[List.getD_eq_getElem?_getD]
 cases e:(A1d a)[n]? with
 | none=>simp
 | some p=>
  have h1:=E0c hv (List.mem_of_getElem? e)
  have h2:=hs.len
  simp only[Option.getD_some]
  omega
theorem D7d {a:List Nd} (h:A3p a) {n:Nat} (hn:n<a.length):(A1d a)[n]?=some ((A1d a).getD n []):=by
 have hl:n<(A1d a).length:=by rw[h.first.len];exact hn
 rw[List.getD_eq_getElem?_getD,List.getElem?_eq_getElem hl]
 rfl
def eShr:Enc (List Int×List Int):=⟨2,fun x=>[A0l eInt x.1,A0l eInt x.2],fun _=>rfl,by omega,fun a b h=>by
 injection h with h1 h2
 injection h2 with h2 _
 obtain⟨a1,a2⟩:=a
 obtain⟨b1,b2⟩:=b
 have e1:a1=b1:=(tSl eInt).uniq _ _ _ (IsS.tree eInt a1) (h1▸IsS.tree eInt b1)
 have e2:a2=b2:=(tSl eInt).uniq _ _ _ (IsS.tree eInt a2) (h2▸IsS.tree eInt b2)
 rw[e1,e2]⟩
section
variable {P : Program} {B : Nat}
theorem F7b {α:Type} {e:Enc α} {ty b:Nat} {H:Heap} {l:List α} (h:A0j e ty H b l):frzP H [b] (rowP e b l) = .t (A0l e l):=by
 unfold frzP
 rw[h.toT]
 cases l<;>simp[B0m]
theorem F3o {α:Type} {e:Enc α} {ty b c:Nat} {H:Heap} {l:List α} (h:A0j e ty H c l) (hc:c≠b):frzP H [b] (rowP e c l)=rowP e c l:=by
 unfold frzP
 rw[h.toT]
 cases l with
 | nil=>rfl
 | cons x r=>simp[B0m,hc]
theorem F3p {α:Type} {e:Enc α} {ty:Nat} {H:Heap} {F:List Nat} (l:List α):A4b H F (A1m e ty l)=A1m e ty l:=by
 simp only[A4b,A1m,List.map_map]
 congr 1
theorem F7c (F:List Nat) {env env':List (Nat×PV)} {H R:Heap} {nx nx' n:Nat} (hB:B<=nx') (hR:∀q∈R,q.1∉F/\(∃r0,Abs.look H q.1=some r0/\A4b H F r0=q.2)/\q.1<nx'/\A1b nx' q.2=true)
  (he:∀q∈env',(∃p0,Abs.look env q.1=some p0/\frzP H F p0=q.2)/\under nx' q.2=true):Sub P G B ⟨env,H,nx,n⟩ ⟨env',R,nx',n⟩:=by
 refine(B2a F).trans ?_
 unfold A0b.frz
 refine C6j hB (fun q hq=>?_) fun q hq=>?_
 ·obtain⟨h1,⟨r0,h2,h3⟩,h4,h5⟩:=hR q hq
  refine⟨?_,h4,h5⟩
  rw[A7j,B3r _ _ _ h1,h2,<-h3]
  rfl
 ·obtain⟨⟨p0,h1,h2⟩,h3⟩:=he q hq
  refine⟨?_,h3⟩
  rw[A7j,h1,<-h2]
  rfl
end
def shUp (a:List Nd) (F:List (List Int)) (n:Nat):List (List Int×List Int):=(List.range n).flatMap fun n=>(A3x a n).filterMap (eqsN F n)
def shIn (a:List Nd) (F:List (List Int)) (n k:Nat):List (List Int×List Int):=shUp a F n++((A3x a n).take k).filterMap (eqsN F n)
theorem D7e (a:List Nd) (F:List (List Int)) (n:Nat):shUp a F (n+1)=shIn a F n (A3x a n).length:=by
 unfold shUp shIn
 rw[List.range_succ,List.flatMap_append,List.take_length]
 simp[shUp]
theorem F3q {a:List Nd} {F:List (List Int)} {n k:Nat} {c:Arc} (h:(A3x a n)[k]?=some c):shIn a F n (k+1)=shIn a F n k++(eqsN F n c).toList:=by
 unfold shIn
 rw[List.take_add_one,h,List.filterMap_append,<-List.append_assoc]
 cases e:eqsN F n c<;>simp[e]
theorem D2u {a:List Nd} (hs:A3a a) (F:List (List Int)):∀n,n<=a.length->(shUp a F n).length<=n*1000000
 | 0,_=>by simp[shUp]
 | n+1,hn=>by
  have ih:=D2u hs F n (by omega)
  have h1:(A3x a n).length<=1000000:=by
   unfold A3x
   have hm:a[n]?=some (ndAt a (n:Int)):=by
    have:=D2q (l:=a) (k:=(n:Int)) (by omega) (by omega)
    rwa[Int.toNat_natCast]at this
   exact hs.arcs _ (List.mem_of_getElem? hm)
  have h2:=List.length_filterMap_le (eqsN F n) (A3x a n)
  rw[D7e]
  unfold shIn
  rw[List.length_append,List.take_length,Nat.succ_mul]
  omega
theorem F7d {a:List Nd} (hs:A3a a) (F:List (List Int)) {n k:Nat} (hn:n<a.length):(shIn a F n k).length<=200000000000:=by
 have h0:=D2u hs F n (by omega)
 have h1:(A3x a n).length<=1000000:=by
  unfold A3x
  have hm:a[n]?=some (ndAt a (n:Int)):=by
   have:=D2q (l:=a) (k:=(n:Int)) (by omega) (by omega)
   rwa[Int.toNat_natCast]at this
  exact hs.arcs _ (List.mem_of_getElem? hm)
 have h2:=List.length_filterMap_le (eqsN F n) ((A3x a n).take k)
 have h3:((A3x a n).take k).length<=(A3x a n).length:=by rw[List.length_take];omega
 have h4:=hs.len
 have h5:n*1000000<=100000*1000000:=Nat.mul_le_mul_right _ (by omega)
 unfold shIn
 rw[List.length_append]
 omega
noncomputable def tx39:Tbl:=[(39,E3k),(74,gEqI)]
theorem cx39:Ctx Try.prog G (orh tx39 hx30):=(A1q.cons D7b (.cons G0e .nil)).ctxH (A8e.cons D6u .nil) A1w
end Go.Proofs.Ytbiadmfmjnoecaa
