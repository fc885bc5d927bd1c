/- Auxiliary facts. -/
import Derived.Test.YtmgjopafgboljaaGreatDoorVEQ24
import Derived.Test.YtmgjopafgboljaaGreatDoorVEQ11
import Derived.Test.YtmgjopafgboljaaGreatDoorVEQ07
import Derived.Test.YtmgjopafgboljaaGreatDoorVEQ28
set_option linter.unusedSimpArgs false
set_option maxRecDepth 100000
set_option maxHeartbeats 0
set_option linter.unusedVariables false
namespace Go.Proofs.YtmgjopafgboljaaGreatDoor
open Go Go.Abs
variable {q : Gl}
theorem D2c (s:ByteArray):A1d Tryz.prog (G q) 36 [sv s] (· = bv (A3d s)):=by
 refine D1x.runs A0g rfl ?_;(conv in B8p=>cbv);have s1:=A2g s ⟨#[104]⟩;rw[show(⟨#[104]⟩:ByteArray).toList=[104]by rw[A2d]]at s1;have s2:=A2g s ⟨#[101]⟩;rw[show(⟨#[101]⟩:ByteArray).toList=[101]by rw[A2d]]at s2;have s3:=A2g s ⟨#[120]⟩;rw[show(⟨#[120]⟩:ByteArray).toList=[120]by rw[A2d]]at s3;have s4:=A2g s ⟨#[105]⟩;rw[show(⟨#[105]⟩:ByteArray).toList=[105]by rw[A2d]]at s4
 by_cases h1:s=⟨#[104]⟩
 ·rw[decide_eq_true h1]at s1
  have e:A3d s=true:=by unfold A3d wH;rw[decide_eq_true h1];rfl
  simp -implicitDefEqProofs [s1,e]
 rw[decide_eq_false h1]at s1
 by_cases h2:s=⟨#[101]⟩
 ·rw[decide_eq_true h2]at s2
  have e:A3d s=true:=by unfold A3d;rw[decide_eq_true h2];simp
  simp -implicitDefEqProofs [s1,s2,e]
 rw[decide_eq_false h2]at s2
 by_cases h3:s=⟨#[120]⟩
 ·rw[decide_eq_true h3]at s3
  have e:A3d s=true:=by unfold A3d;rw[decide_eq_true h3];simp
  simp -implicitDefEqProofs [s1,s2,s3,e]
 rw[decide_eq_false h3]at s3
 have e:A3d s=decide (s=⟨#[105]⟩):=by unfold A3d wH;rw[decide_eq_false h1,decide_eq_false h2,decide_eq_false h3];simp
 simp -implicitDefEqProofs [s1,s2,s3,s4,e]
def SO1 (X:Row) (l:List Int) (i:Nat):A0c:=⟨[(4,.t (iv (i:Int))),(3,.row 1 0 l.length 1),(1,.ptr 0 0)],hMI X l,2,78⟩
def SO2 (X:Row) (l:List Int) (i j:Nat):A0c:=⟨[(5,.t (iv (j:Int))),(4,.t (iv (i:Int))),(3,.row 1 0 l.length 1),(1,.ptr 0 0)],hMI X l,2,78⟩
def SO3 (X:Row) (l:List Int) (i:Nat):A0c:=⟨[(6,.t (iv (i:Int))),(3,.row 1 0 l.length 1),(1,.ptr 0 0)],hMI X l,2,78⟩
theorem E8o {m:Mr} {cs:List T} (hm:IsMr m cs) (hs:SmM m):A1d Tryz.prog (G q) 38 [.ag cs] (· = slT eInt (occ m)):=by
 obtain⟨tv,tr,tc,rl,rfl,hv,hr,hrm,hc⟩:=hm
 obtain⟨X,hX⟩:∃X,X=mRow [iv m.top,iv m.index,tv,tr,tc]:=⟨_,rfl⟩
 have hXc:∃(ty:TypeId) (cs:List T),X = .cells ty (cs.map PV.t):=⟨_,_,hX⟩
 have ld:∀{H:Heap},Abs.look H 0=some X->LdM (iv m.top) (iv m.index) tv tr tc H 0:=fun h=>ldM (by rw[h,hX]);have lr:=hr.len;have lc:=hc.len
 have hrl:rl.length=m.rels.length:=by rw[<-hrm,List.length_map]
 have hsr:=hs.rels;have hsc:=hs.cons;have cd:=cd5 (iv m.top) (iv m.index) tv tr tc
 obtain⟨R,hR⟩:∃R,R=slT eInt (occ m):=⟨_,rfl⟩
 rw[<-hR];refine B7f.call rfl ?_;(conv in A9i=>cbv);refine A0a A0g ?_;simp -implicitDefEqProofs [cd];rw[show Row.cells 26 [.t (iv m.top),.t (iv m.index),.t tv,.t tr,.t tc]=X from hX.symm];have b2:∀n,A1v tyI 1 [.int .i64 0] 2 [(0,.t (iv m.top)),(1,.t (iv m.index))] n=some (.row n 0 2 1,A0l eInt tyI [m.top,m.index]):=fun _=>rfl;have z0:=ld (H:=[(0,X)]) rfl;refine A0a A0g ?_;simp -implicitDefEqProofs [z0.l0,z0.l1,b2];refine A0q (α:=Unit) (fun _=>⟨[(3,.row 1 0 (occJ m m.rels.length).length 1),(1,.ptr 0 0)],hMI X (occJ m m.rels.length),2,78⟩) (fun _=>True) (fun _=>rfl) ?_ ?_
 ·refine A0a A0g ?_;simp -implicitDefEqProofs;refine A0j ?_;refine A0n (fun i=>SO1 X (occJ m i) i) (fun i=>m.rels.length-i) (fun i=>i<=m.rels.length) 0 (fun _=>rfl) (Nat.zero_le _) ?_ rfl ?_
  ·exact A1n (k:=1) rfl rfl (by omega) hXc (by simp -implicitDefEqProofs [ren,under,occJ])
  intro i hi
  obtain⟨l,hl⟩:∃l,l=occJ m i:=⟨_,rfl⟩
  have hll:l.length<=200000000:=by
   have h1:=B2o hs i (by omega);have:i*100001<=1000*100001:=Nat.mul_le_mul_right _ (by omega);rw[hl];omega
  obtain⟨H,hH⟩:∃H,H=hMI X l:=⟨_,rfl⟩
  have h0:Abs.look H 0=some X:=by rw[hH];rfl
  have h1:Abs.look H 1=some (A0l eInt tyI l):=by rw[hH];rfl
  have z:=ld h0;by_cases hlt:i<rl.length
  ·obtain⟨c,hc1⟩:∃c,rl[i]?=some c:=⟨_,List.getElem?_eq_getElem (by omega)⟩
   have hx:m.rels[i]?=some c.x:=by rw[<-hrm,List.getElem?_map,hc1];rfl
   have hxm:=List.mem_of_getElem? hx;obtain⟨ta,hcs,hta⟩:=c.ok;have la:=hta.len;have hal:=hs.args c.x hxm;have i1:=hr.iaddr hc1 .i64;have hz:eEC.z=3:=rfl;rw[hz,show eEC.enc c=c.cs from rfl,hcs]at i1;have w1:IntKind.i64.wrap ((i:Int)+1)=((i+1:Nat):Int):=A0k (by omega) (by omega);have ap:=C1u c.x.label l.length 3 4 rfl rfl rfl h1 (nx:=2) (by omega) (by omega);refine A0a A0g ?_;simp -implicitDefEqProofs [SO1,<-hl,<-hH,z.l3,lr,hlt];refine A0q (α:=Unit) (fun _=>⟨[(4,.t (iv (i:Int))),(3,.row 1 0 (occJ m (i+1)).length 1),(1,.ptr 0 0)],hMI X (occJ m (i+1)),2,78⟩) (fun _=>True) (fun _=>rfl) ?_ ?_
   ·refine A0j ?_;refine A0a A0g ?_;simp -implicitDefEqProofs [z.l3,i1,lp,C7s,ap]
    obtain⟨H1,hH1⟩:∃H1,H1=(3,A0l eInt tyI (l++[c.x.label]))::rem ((2,.cells tyI ((eInt.enc c.x.label).map .t))::H) 1:=⟨_,rfl⟩
    have k1:Abs.look H1 3=some (A0l eInt tyI (l++[c.x.label])):=by rw[hH1,look_cons,if_pos rfl]
    have k0:Abs.look H1 0=some X:=by rw[hH1,look_cons,if_neg (by omega),A1e,if_neg (by omega),look_cons,if_neg (by omega)];exact h0
    refine A0a A0g ?_;simp -implicitDefEqProofs;refine A0j ?_;refine A0n (fun j=>SO2 X (occI m i c.x j) i j) (fun j=>c.x.args.length-j) (fun j=>j<=c.x.args.length) 0 (fun _=>rfl) (Nat.zero_le _) ?_ rfl ?_
    ·show Abs.Sub _ _ _ _ (SO2 X (occI m i c.x 0) i 0);rw[E7u,<-hl];unfold SO2;rw[hH1]at k1 k0;exact A1n (k:=3) k1 k0 (by omega) hXc (by simp -implicitDefEqProofs [ren,under])
    intro j hj
    obtain⟨l2,hl2⟩:∃l2,l2=occI m i c.x j:=⟨_,rfl⟩
    have hl2l:l2.length<=200000000:=by rw[hl2];exact C7t hs hxm (by omega)
    obtain⟨H2,hH2⟩:∃H2,H2=hMI X l2:=⟨_,rfl⟩
    have g0:Abs.look H2 0=some X:=by rw[hH2];rfl
    have g1:Abs.look H2 1=some (A0l eInt tyI l2):=by rw[hH2];rfl
    have z2:=ld g0;by_cases hjl:j<c.x.args.length
    ·obtain⟨a,ha⟩:∃a,c.x.args[j]?=some a:=⟨_,List.getElem?_eq_getElem hjl⟩
     have i2:=hta.iaddr ha .i64;have hz2:eAg.z=2:=rfl;rw[hz2,show eAg.enc a=[sv a.role,iv a.var]from rfl]at i2;have w2:IntKind.i64.wrap ((j:Int)+1)=((j+1:Nat):Int):=A0k (by omega) (by omega);have ap2:=C1u a.var l2.length 3 4 rfl rfl rfl g1 (nx:=2) (by omega) (by omega);refine A0e A0g ?_;simp -implicitDefEqProofs [SO2,<-hl2,<-hH2,z2.l3,i1,lp,la,hjl,i2,C7s,ap2,w2];refine Abs.Next.mk (j+1) ⟨hjl,by omega⟩ ?_;show Abs.Sub _ _ _ _ (SO2 X (occI m i c.x (j+1)) i (j+1));rw[C1v ha,<-hl2]
     have el:(l2++[a.var]).length=l2.length+1:=by simp
     unfold SO2;rw[el];exact A1n (k:=3) (by rw[look_cons,if_pos rfl]) (by simp[look_cons,A1e,g0]) (by omega) hXc (by simp -implicitDefEqProofs [ren,under])
    ·have ej:j=c.x.args.length:=by omega
     refine A0e A0g ?_;simp -implicitDefEqProofs [SO2,<-hl2,<-hH2,z2.l3,i1,lp,la,hjl];refine Abs.Next.mk () trivial ?_;rw[B5s hx,<-ej,<-hl2];exact A1n (k:=1) g1 g0 (by omega) hXc (by simp -implicitDefEqProofs [ren,under])
   ·rintro _ _;refine A0e A0g ?_;simp -implicitDefEqProofs [w1];refine Abs.Next.mk (i+1) ⟨by omega,by omega⟩ ?_;exact A1n (k:=1) rfl rfl (by omega) hXc (by simp -implicitDefEqProofs [ren,under])
  ·have ei:i=m.rels.length:=by omega
   refine A0e A0g ?_;simp -implicitDefEqProofs [SO1,<-hl,<-hH,z.l3,lr,hlt];refine Abs.Next.mk () trivial ?_;rw[<-ei,<-hl];exact A1n (k:=1) h1 h0 (by omega) hXc (by simp -implicitDefEqProofs [ren,under])
 rintro _ _;refine A0q (α:=Unit) (fun _=>⟨[(3,.row 1 0 (occ m).length 1)],hMI X (occ m),2,78⟩) (fun _=>True) (fun _=>rfl) ?_ ?_
 ·refine A0a A0g ?_;simp -implicitDefEqProofs;refine A0j ?_;refine A0n (fun i=>SO3 X (occK m i) i) (fun i=>m.cons.length-i) (fun i=>i<=m.cons.length) 0 (fun _=>rfl) (Nat.zero_le _) ?_ rfl ?_
  ·have e:occK m 0=occJ m m.rels.length:=by simp[occK]
   show Abs.Sub _ _ _ _ (SO3 X (occK m 0) 0);rw[e];exact A1n (k:=1) rfl rfl (by omega) hXc (by simp -implicitDefEqProofs [ren,under])
  intro i hi
  obtain⟨l,hl⟩:∃l,l=occK m i:=⟨_,rfl⟩
  have hll:l.length<=400000000:=by
   have h1:=B2p hs i (by omega);rw[hl];omega
  obtain⟨H,hH⟩:∃H,H=hMI X l:=⟨_,rfl⟩
  have h0:Abs.look H 0=some X:=by rw[hH];rfl
  have h1:Abs.look H 1=some (A0l eInt tyI l):=by rw[hH];rfl
  have z:=ld h0;by_cases hlt:i<m.cons.length
  ·obtain⟨c,hc1⟩:∃c,m.cons[i]?=some c:=⟨_,List.getElem?_eq_getElem (by omega)⟩
   have i1:=hc.iaddr hc1 .i64;have hz:eQq.z=2:=rfl;rw[hz,show eQq.enc c=[iv c.high,iv c.low]from rfl]at i1;have w1:IntKind.i64.wrap ((i:Int)+1)=((i+1:Nat):Int):=A0k (by omega) (by omega);have ap:=C1u c.high l.length 3 4 rfl rfl rfl h1 (nx:=2) (by omega) (by omega)
   obtain⟨H1,hH1⟩:∃H1,H1=(3,A0l eInt tyI (l++[c.high]))::rem ((2,.cells tyI ((eInt.enc c.high).map .t))::H) 1:=⟨_,rfl⟩
   have k1:Abs.look H1 3=some (A0l eInt tyI (l++[c.high])):=by rw[hH1,look_cons,if_pos rfl]
   have k0:Abs.look H1 0=some X:=by rw[hH1,look_cons,if_neg (by omega),A1e,if_neg (by omega),look_cons,if_neg (by omega)];exact h0
   have z1:=ld k0;rw[<-hH1]at ap;have ap1:=C1u c.low (l.length+1) 5 6 (by simp) rfl rfl k1 (nx:=4) (by omega) (by simp;omega);refine A0e A0g ?_;simp -implicitDefEqProofs [SO3,<-hl,<-hH,z.l4,lc,hlt,i1,lp,C7s,ap,z1.l4,ap1,w1];refine Abs.Next.mk (i+1) ⟨hlt,by omega⟩ ?_
   have e:occK m (i+1)=l++[c.high]++[c.low]:=by rw[B5t hc1,<-hl]
   show Abs.Sub _ _ _ _ (SO3 X (occK m (i+1)) (i+1));rw[e];unfold SO3
   have el:(l++[c.high]++[c.low]).length=l.length+1+1:=by simp
   rw[el];exact A1n (k:=5) (by rw[look_cons,if_pos rfl,List.append_assoc];rfl) (by simp[look_cons,A1e,k0]) (by omega) hXc (by simp -implicitDefEqProofs [ren,under])
  ·have ei:i=m.cons.length:=by omega
   refine A0e A0g ?_;simp -implicitDefEqProofs [SO3,<-hl,<-hH,z.l4,lc,hlt];refine Abs.Next.mk () trivial ?_;rw[<-B2n,<-ei,<-hl];exact A1n (k:=1) h1 h0 (by omega) hXc (by simp -implicitDefEqProofs [ren,under])
 rintro _ _;have hne:toT (hMI X (occ m)) (.row 1 0 (occ m).length 1)=some (slT eInt (occ m),[1]):=A2s (e:=eInt) (B1p X (occ m));refine A0e A0g ?_;simp -implicitDefEqProofs [hne,hR,-toT]
theorem hOcc:GOK Tryz.prog (G q) 38 gOcc:=fun args r hr=>by
 unfold gOcc at hr;split at hr
 ·rename_i cs;split at hr
  ·rename_i he;injection hr with hr;subst hr;exact E8o he.choose_spec.1 he.choose_spec.2
  ·cases hr
 ·cases hr
def SH1 (X:Row) (l:List Int) (i:Nat):A0c:=⟨[(4,.t (iv (i:Int))),(3,.row 1 0 l.length 1),(1,.ptr 0 0)],hMI X l,2,51⟩
def SH3 (X:Row) (l:List Int) (i:Nat):A0c:=⟨[(5,.t (iv (i:Int))),(3,.row 1 0 l.length 1),(1,.ptr 0 0)],hMI X l,2,51⟩
theorem E8p {m:Mr} {cs:List T} (hm:IsMr m cs) (hs:SmM m):A1d Tryz.prog (G q) 39 [.ag cs] (· = slT eInt (hnd m)):=by
 obtain⟨tv,tr,tc,rl,rfl,hv,hr,hrm,hc⟩:=hm
 obtain⟨X,hX⟩:∃X,X=mRow [iv m.top,iv m.index,tv,tr,tc]:=⟨_,rfl⟩
 have hXc:∃(ty:TypeId) (cs:List T),X = .cells ty (cs.map PV.t):=⟨_,_,hX⟩
 have ld:∀{H:Heap},Abs.look H 0=some X->LdM (iv m.top) (iv m.index) tv tr tc H 0:=fun h=>ldM (by rw[h,hX]);have lr:=hr.len;have lc:=hc.len
 have hrl:rl.length=m.rels.length:=by rw[<-hrm,List.length_map]
 have hsr:=hs.rels;have hsc:=hs.cons;have cd:=cd5 (iv m.top) (iv m.index) tv tr tc
 obtain⟨R,hR⟩:∃R,R=slT eInt (hnd m):=⟨_,rfl⟩
 rw[<-hR];refine C8b.call rfl ?_;(conv in B5v=>cbv);refine A0a A0g ?_;simp -implicitDefEqProofs [cd];rw[show Row.cells 26 [.t (iv m.top),.t (iv m.index),.t tv,.t tr,.t tc]=X from hX.symm];have b1:∀n,A1v tyI 1 [.int .i64 0] 1 [(0,.t (iv m.top))] n=some (.row n 0 1 1,A0l eInt tyI [m.top]):=fun _=>rfl;have z0:=ld (H:=[(0,X)]) rfl;refine A0a A0g ?_;simp -implicitDefEqProofs [z0.l0,b1];refine A0q (α:=Unit) (fun _=>⟨[(3,.row 1 0 (hndJ m m.rels.length).length 1),(1,.ptr 0 0)],hMI X (hndJ m m.rels.length),2,51⟩) (fun _=>True) (fun _=>rfl) ?_ ?_
 ·refine A0a A0g ?_;simp -implicitDefEqProofs;refine A0j ?_;refine A0n (fun i=>SH1 X (hndJ m i) i) (fun i=>m.rels.length-i) (fun i=>i<=m.rels.length) 0 (fun _=>rfl) (Nat.zero_le _) ?_ rfl ?_
  ·exact A1n (k:=1) rfl rfl (by omega) hXc (by simp -implicitDefEqProofs [ren,under,hndJ])
  intro i hi
  obtain⟨l,hl⟩:∃l,l=hndJ m i:=⟨_,rfl⟩
  have hll:l.length<=100001:=by rw[hl];exact C7v hs i
  obtain⟨H,hH⟩:∃H,H=hMI X l:=⟨_,rfl⟩
  have h0:Abs.look H 0=some X:=by rw[hH];rfl
  have h1:Abs.look H 1=some (A0l eInt tyI l):=by rw[hH];rfl
  have z:=ld h0;by_cases hlt:i<rl.length
  ·obtain⟨c,hc1⟩:∃c,rl[i]?=some c:=⟨_,List.getElem?_eq_getElem (by omega)⟩
   have hx:m.rels[i]?=some c.x:=by rw[<-hrm,List.getElem?_map,hc1];rfl
   obtain⟨ta,hcs,hta⟩:=c.ok;have i1:=hr.iaddr hc1 .i64;have hz:eEC.z=3:=rfl;rw[hz,show eEC.enc c=c.cs from rfl,hcs]at i1;have w1:IntKind.i64.wrap ((i:Int)+1)=((i+1:Nat):Int):=A0k (by omega) (by omega);have ap:=C1u c.x.label l.length 3 4 rfl rfl rfl h1 (nx:=2) (by omega) (by omega);refine A0e A0g ?_;simp -implicitDefEqProofs [SH1,<-hl,<-hH,z.l3,lr,hlt,i1,lp,C7s,ap,w1];refine Abs.Next.mk (i+1) ⟨by omega,by omega⟩ ?_
   have e:hndJ m (i+1)=l++[c.x.label]:=by rw[D1l hx,<-hl]
   have el:(l++[c.x.label]).length=l.length+1:=by simp
   show Abs.Sub _ _ _ _ (SH1 X (hndJ m (i+1)) (i+1));rw[e];unfold SH1;rw[el];exact A1n (k:=3) (by rw[look_cons,if_pos rfl]) (by simp[look_cons,A1e,h0]) (by omega) hXc (by simp -implicitDefEqProofs [ren,under])
  ·have ei:i=m.rels.length:=by omega
   refine A0e A0g ?_;simp -implicitDefEqProofs [SH1,<-hl,<-hH,z.l3,lr,hlt];refine Abs.Next.mk () trivial ?_;rw[<-ei,<-hl];exact A1n (k:=1) h1 h0 (by omega) hXc (by simp -implicitDefEqProofs [ren,under])
 rintro _ _;refine A0q (α:=Unit) (fun _=>⟨[(3,.row 1 0 (hnd m).length 1)],hMI X (hnd m),2,51⟩) (fun _=>True) (fun _=>rfl) ?_ ?_
 ·refine A0a A0g ?_;simp -implicitDefEqProofs;refine A0j ?_;refine A0n (fun i=>SH3 X (hndK m i) i) (fun i=>m.cons.length-i) (fun i=>i<=m.cons.length) 0 (fun _=>rfl) (Nat.zero_le _) ?_ rfl ?_
  ·have e:hndK m 0=hndJ m m.rels.length:=by simp[hndK]
   show Abs.Sub _ _ _ _ (SH3 X (hndK m 0) 0);rw[e];exact A1n (k:=1) rfl rfl (by omega) hXc (by simp -implicitDefEqProofs [ren,under])
  intro i hi
  obtain⟨l,hl⟩:∃l,l=hndK m i:=⟨_,rfl⟩
  have hll:l.length<=1000000:=by
   have h1:=B9p hs i (by omega);rw[hl];omega
  obtain⟨H,hH⟩:∃H,H=hMI X l:=⟨_,rfl⟩
  have h0:Abs.look H 0=some X:=by rw[hH];rfl
  have h1:Abs.look H 1=some (A0l eInt tyI l):=by rw[hH];rfl
  have z:=ld h0;by_cases hlt:i<m.cons.length
  ·obtain⟨c,hc1⟩:∃c,m.cons[i]?=some c:=⟨_,List.getElem?_eq_getElem (by omega)⟩
   have i1:=hc.iaddr hc1 .i64;have hz:eQq.z=2:=rfl;rw[hz,show eQq.enc c=[iv c.high,iv c.low]from rfl]at i1;have w1:IntKind.i64.wrap ((i:Int)+1)=((i+1:Nat):Int):=A0k (by omega) (by omega);have ap:=C1u c.high l.length 3 4 rfl rfl rfl h1 (nx:=2) (by omega) (by omega)
   obtain⟨H1,hH1⟩:∃H1,H1=(3,A0l eInt tyI (l++[c.high]))::rem ((2,.cells tyI ((eInt.enc c.high).map .t))::H) 1:=⟨_,rfl⟩
   have k1:Abs.look H1 3=some (A0l eInt tyI (l++[c.high])):=by rw[hH1,look_cons,if_pos rfl]
   have k0:Abs.look H1 0=some X:=by rw[hH1,look_cons,if_neg (by omega),A1e,if_neg (by omega),look_cons,if_neg (by omega)];exact h0
   have z1:=ld k0;rw[<-hH1]at ap;have ap1:=C1u c.low (l.length+1) 5 6 (by simp) rfl rfl k1 (nx:=4) (by omega) (by simp;omega);refine A0e A0g ?_;simp -implicitDefEqProofs [SH3,<-hl,<-hH,z.l4,lc,hlt,i1,lp,C7s,ap,z1.l4,ap1,w1];refine Abs.Next.mk (i+1) ⟨hlt,by omega⟩ ?_
   have e:hndK m (i+1)=l++[c.high]++[c.low]:=by rw[C1w hc1,<-hl]
   show Abs.Sub _ _ _ _ (SH3 X (hndK m (i+1)) (i+1));rw[e];unfold SH3
   have el:(l++[c.high]++[c.low]).length=l.length+1+1:=by simp
   rw[el];exact A1n (k:=5) (by rw[look_cons,if_pos rfl,List.append_assoc];rfl) (by simp[look_cons,A1e,k0]) (by omega) hXc (by simp -implicitDefEqProofs [ren,under])
  ·have ei:i=m.cons.length:=by omega
   refine A0e A0g ?_;simp -implicitDefEqProofs [SH3,<-hl,<-hH,z.l4,lc,hlt];refine Abs.Next.mk () trivial ?_;rw[<-C7u,<-ei,<-hl];exact A1n (k:=1) h1 h0 (by omega) hXc (by simp -implicitDefEqProofs [ren,under])
 rintro _ _;have hne:toT (hMI X (hnd m)) (.row 1 0 (hnd m).length 1)=some (slT eInt (hnd m),[1]):=A2s (e:=eInt) (B1p X (hnd m));refine A0e A0g ?_;simp -implicitDefEqProofs [hne,hR,-toT]
theorem hHnd:GOK Tryz.prog (G q) 39 gHnd:=E3i fun _ _ h hs=>E8p h hs
def SPr (n:Nat) (X:Row) (j:Nat):A0c:=⟨[(3,.t (iv (j:Int))),(1,.ptr 0 0)],[(0,X)],1,n⟩
theorem E3s (c:EC) (hal:c.x.args.length<=1000) (hp:c.x.pred.size<=lim) (hro:∀a∈c.x.args,a.role.size<=lim):A1d Tryz.prog (G q) 37 [.ag c.cs] (· = iv (chkE A0h c.x)):=by
 obtain⟨ta,hcs,hta⟩:=c.ok;rw[hcs]
 obtain⟨x,hx⟩:∃x,x=c.x:=⟨_,rfl⟩
 rw[<-hx]at hal hp hro hta ⊢;have la:=hta.len;have cd:=cd3 (sv x.pred) (iv x.label) ta
 obtain⟨X,hX⟩:∃X,X=eRow x.pred x.label ta:=⟨_,rfl⟩
 have z:=ldE (H:=[(0,X)]) (k:=0) (p:=x.pred) (l:=x.label) (ta:=ta) (by rw[hX];rfl)
 obtain⟨R,hR⟩:∃R,R=chkE A0h x:=⟨_,rfl⟩
 rw[<-hR];have eN:=C7w false hp;refine B7g.call rfl ?_;(conv in A9j=>cbv);refine A0a A7x ?_;simp -implicitDefEqProofs [cd];rw[show Row.cells 47 [.t (sv x.pred),.t (iv x.label),.t ta]=X from hX.symm];unfold chkE at hR
 cases hn:A0h false x.pred with
 | false=>
  rw[if_pos hn]at hR;rw[hn]at eN;refine A0a A7x ?_;simp -implicitDefEqProofs [tbNm,z.l0,eN,hR]
 | true=>
  rw[if_neg (by rw[hn];decide)]at hR;rw[hn]at eN;refine A0a A7x ?_;simp -implicitDefEqProofs [tbNm,z.l0,eN];refine A0q (α:=Unit) (fun _=>⟨[],[],1,50⟩) (fun _=>R=0) (fun _=>rfl) ?_ ?_
  ·refine A0a A7x ?_;simp -implicitDefEqProofs;refine A0j ?_;refine A0n (SPr 50 X) (fun j=>x.args.length-j) (fun j=>j<=x.args.length/\R=chkA A0h (D1m x.args j) (x.args.drop j)) 0 (fun _=>rfl) ⟨Nat.zero_le _,hR⟩ ?_ rfl ?_
   ·exact A0d (by simp -implicitDefEqProofs [SPr])
   rintro j ⟨hj,heq⟩;by_cases hlt:j<x.args.length
   ·obtain⟨a,ha⟩:∃a,x.args[j]?=some a:=⟨_,List.getElem?_eq_getElem hlt⟩
    have i1:=hta.iaddr ha .i64;have hz:eAg.z=2:=rfl;rw[hz,show eAg.enc a=[sv a.role,iv a.var]from rfl]at i1;have w1:IntKind.i64.wrap ((j:Int)+1)=((j+1:Nat):Int):=A0k (by omega) (by omega);have eF:=C7w true (hro a (List.mem_of_getElem? ha));have sl:=E7z a.role;rw[List.drop_eq_getElem_cons hlt,(List.getElem?_eq_some_iff.1 ha).2,chkA]at heq;by_cases h1:A0h true a.role=false\/a.role=B8h
    ·rw[if_pos h1]at heq;by_cases h2:A0h true a.role=false
     ·rw[h2]at eF;refine A0e A7x ?_;simp -implicitDefEqProofs [SPr,tbNm,z.l2,la,hlt,i1,lp,eF,heq]
     ·have h2:A0h true a.role=true:=by simpa using h2
      have h3:=h1.resolve_left (by rw[h2];decide);rw[h2]at eF;rw[decide_eq_true h3]at sl;refine A0e A7x ?_;simp -implicitDefEqProofs [SPr,tbNm,z.l2,la,hlt,i1,lp,eF,sl,heq]
    ·rw[if_neg h1]at heq
     have h2:A0h true a.role=true:=by
      cases h:A0h true a.role with
      | true=>rfl
      | false=>exact absurd (.inl h) h1
     have h3:¬a.role=B8h:=fun h=>h1 (.inr h);rw[h2]at eF;rw[decide_eq_false h3]at sl;by_cases h0:0<j
     ·obtain⟨k,hk⟩:∃k,j=k+1:=⟨j-1,by omega⟩
      obtain⟨b,hb⟩:∃b,x.args[k]?=some b:=⟨_,List.getElem?_eq_getElem (by omega)⟩
      have i2:=hta.iaddr hb .i64;rw[hz,show eAg.enc b=[sv b.role,iv b.var]from rfl]at i2;have wk:IntKind.i64.wrap ((j:Int)-1)=(k:Int):=A0k (by omega) (by omega)
      have hpv:D1m x.args j=some b.role:=by rw[hk];exact A7k hb
      rw[hpv,D8w]at heq
      have hd:decide ((0:Int)<(j:Int))=true:=by simpa using (by omega:(0:Int)<(j:Int))
      cases hl:A6d b.role a.role with
      | false=>
       rw[hl,if_pos (show(!false)=true from rfl)]at heq;refine A0e A7x ?_;simp -implicitDefEqProofs [SPr,tbNm,z.l2,la,hlt,i1,lp,eF,sl,hd,h0,wk,i2,hl,heq]
      | true=>
       rw[hl,if_neg (by decide)]at heq;refine A0e A7x ?_;simp -implicitDefEqProofs [SPr,tbNm,z.l2,la,hlt,i1,lp,eF,sl,hd,h0,wk,i2,hl,w1];refine Abs.Next.mk (j+1) ⟨⟨hlt,by rw[A7k ha];exact heq⟩,by omega⟩ ?_;exact A0d (by simp -implicitDefEqProofs [SPr])
     ·have hj0:j=0:=by omega
      have hpv:D1m x.args j=none:=by rw[hj0];rfl
      rw[hpv,if_neg (show ¬E7y none a.role=true from fun h=>by cases h)]at heq;have hd:¬(0<j):=h0;refine A0e A7x ?_;simp -implicitDefEqProofs [SPr,tbNm,z.l2,la,hlt,i1,lp,eF,sl,hd,w1];refine Abs.Next.mk (j+1) ⟨⟨hlt,by rw[A7k ha];exact heq⟩,by omega⟩ ?_;exact A0d (by simp -implicitDefEqProofs [SPr])
   ·have hR:R=0:=by rw[heq,List.drop_of_length_le (by omega)];rfl
    refine A0e A7x ?_;simp -implicitDefEqProofs [SPr,tbNm,z.l2,la,hlt];exact Abs.Next.mk () hR (A8d (by omega) (fun q hq=>by cases hq))
  rintro _ hRG;refine A0e A7x ?_;simp -implicitDefEqProofs [hRG]
theorem G1b:GOK Tryz.prog (G q) 37 D1n:=D8y E3s
noncomputable def gSrt:List T->Option T:=g1 tStr fun s=>some (bv (A3d s))
theorem hSrt:GOK Tryz.prog (G q) 36 gSrt:=E2p fun a s r ha hr=>by
 obtain rfl:a=sv s:=ha;injection hr with hr;subst hr;exact D2c s
theorem F7o (s:ByteArray):gSrt [sv s]=some (bv (A3d s)):=E2q (τ:=tStr) rfl
noncomputable def tbLo:Tbl:=[(36,gSrt),(37,D1n),(38,gOcc),(39,gHnd)]
theorem A6p:Ctx Tryz.prog (G q) (orc tbLo):=(A0s.cons hSrt (.cons G1b (.cons hOcc (.cons hHnd .nil)))).ctx mixed
def SLo (k:Nat) (X:Row) (j:Nat):A0c:=⟨[(k,.t (iv (j:Int))),(1,.ptr 0 0)],[(0,X)],1,96⟩
def SLl (k k':Nat) (X:Row) (tl:T) (j:Nat):A0c:=⟨[(k,.t (iv (j:Int))),(k',.t tl),(1,.ptr 0 0)],[(0,X)],1,96⟩
theorem D6d {m:Mr} {cs:List T} (hm:IsMr m cs) (hs:SmM m):A1d Tryz.prog (G q) 16 [.ag cs] (· = iv (A4f A0h m)):=by
 have eO:=D5o hm hs;obtain⟨tv,tr,tc,rl,rfl,hv,hr,hrm,hc⟩:=hm
 obtain⟨X,hX⟩:∃X,X=mRow [iv m.top,iv m.index,tv,tr,tc]:=⟨_,rfl⟩
 have z:=ldM (H:=[(0,X)]) (k:=0) (by rw[hX];rfl);have lv:=hv.len;have lr:=hr.len;have lc:=hc.len
 have hrl:rl.length=m.rels.length:=by rw[<-hrm,List.length_map]
 have hsr:=hs.rels;have hsc:=hs.cons;have hsv:=hs.vars;have cd:=cd5 (iv m.top) (iv m.index) tv tr tc
 obtain⟨R,hR⟩:∃R,R=A4f A0h m:=⟨_,rfl⟩
 rw[<-hR];refine D5w.call rfl ?_;(conv in C2h=>cbv);refine A0a A6p ?_;simp -implicitDefEqProofs [cd];rw[show Row.cells 26 [.t (iv m.top),.t (iv m.index),.t tv,.t tr,.t tc]=X from hX.symm];by_cases h1:16<m.rels.length\/16<m.cons.length\/256<m.vars.length
 ·unfold A4f at hR;rw[if_pos h1]at hR;by_cases a1:16<rl.length
  ·have b1:decide ((16:Int)<(rl.length:Int))=true:=by simpa using (by omega:(16:Int)<(rl.length:Int))
   refine A0a A6p ?_;simp -implicitDefEqProofs [z.l3,lr,b1,hR]
  ·have b1:decide ((16:Int)<(rl.length:Int))=false:=by simpa using (by omega:(rl.length:Int)<=16)
   by_cases a2:16<m.cons.length
   ·have b2:decide ((16:Int)<(m.cons.length:Int))=true:=by simpa using (by omega:(16:Int)<(m.cons.length:Int))
    refine A0a A6p ?_;simp -implicitDefEqProofs [z.l3,z.l4,lr,lc,b1,b2,hR]
   ·have b2:decide ((16:Int)<(m.cons.length:Int))=false:=by simpa using (by omega:(m.cons.length:Int)<=16)
    have b3:decide ((256:Int)<(m.vars.length:Int))=true:=by simpa using (by omega:(256:Int)<(m.vars.length:Int))
    refine A0a A6p ?_;simp -implicitDefEqProofs [z.l3,z.l4,z.l2,lr,lc,lv,b1,b2,b3,hR]
 rw[E8a m h1]at hR
 have b1:decide ((16:Int)<(rl.length:Int))=false:=by simpa using (by omega:(rl.length:Int)<=16)
 have b2:decide ((16:Int)<(m.cons.length:Int))=false:=by simpa using (by omega:(m.cons.length:Int)<=16)
 have b3:decide ((256:Int)<(m.vars.length:Int))=false:=by simpa using (by omega:(m.vars.length:Int)<=256)
 refine A0a A6p ?_;simp -implicitDefEqProofs [z.l3,z.l4,z.l2,lr,lc,lv,b1,b2,b3]
 obtain⟨K1,hK1⟩:∃K1,K1=chkC m.rels (allC (fun x=>decide (inR m.vars.length x)) (occ m) 2 (allC (fun x=>decide (vS m.vars x=wH)) (hnd m) 2 0)):=⟨_,rfl⟩
 rw[<-hK1]at hR;refine A0q (α:=Unit) (fun _=>⟨[(1,.ptr 0 0)],[(0,X)],1,96⟩) (fun _=>R=K1) (fun _=>rfl) ?_ ?_
 ·refine A0a A6p ?_;simp -implicitDefEqProofs;refine A0j ?_;refine A0n (SLo 3 X) (fun j=>m.vars.length-j) (fun j=>j<=m.vars.length/\R=allC A3d (m.vars.drop j) 1 K1) 0 (fun _=>rfl) ⟨Nat.zero_le _,hR⟩ ?_ rfl ?_
  ·exact A0d (by simp -implicitDefEqProofs [SLo])
  rintro j ⟨hj,heq⟩;by_cases hlt:j<m.vars.length
  ·obtain⟨x,hx⟩:∃x,m.vars[j]?=some x:=⟨_,List.getElem?_eq_getElem hlt⟩
   have i1:=hv.iaddr hx .i64;have hz:eStr.z=1:=rfl;rw[hz,show eStr.enc x=[sv x]from rfl]at i1;have w1:IntKind.i64.wrap ((j:Int)+1)=((j+1:Nat):Int):=A0k (by omega) (by omega);have eS:=F7o x;rw[A9g hx]at heq
   cases hsx:A3d x with
   | false=>
    rw[if_neg (by rw[hsx];decide)]at heq;rw[hsx]at eS;refine A0e A6p ?_;simp -implicitDefEqProofs [SLo,tbLo,z.l2,lv,hlt,i1,lp,eS,heq]
   | true=>
    rw[if_pos hsx]at heq;rw[hsx]at eS;refine A0e A6p ?_;simp -implicitDefEqProofs [SLo,tbLo,z.l2,lv,hlt,i1,lp,eS,w1];exact Abs.Next.mk (j+1) ⟨⟨hlt,heq⟩,by omega⟩ (A0d (by simp -implicitDefEqProofs [SLo]))
  ·have hR:R=K1:=by rw[heq,B2r _ (by omega)]
   refine A0e A6p ?_;simp -implicitDefEqProofs [SLo,z.l2,lv,hlt];exact Abs.Next.mk () hR (A0d (by simp -implicitDefEqProofs))
 rintro _ hRK;clear hR
 obtain⟨K2,hK2⟩:∃K2,K2=allC (fun x=>decide (inR m.vars.length x)) (occ m) 2 (allC (fun x=>decide (vS m.vars x=wH)) (hnd m) 2 0):=⟨_,rfl⟩
 rw[<-hK2]at hK1;rw[hK1]at hRK;refine A0q (α:=Unit) (fun _=>⟨[(1,.ptr 0 0)],[(0,X)],1,96⟩) (fun _=>R=K2) (fun _=>rfl) ?_ ?_
 ·refine A0a A6p ?_;simp -implicitDefEqProofs;refine A0j ?_;refine A0n (SLo 4 X) (fun j=>m.rels.length-j) (fun j=>j<=m.rels.length/\R=chkC (m.rels.drop j) K2) 0 (fun _=>rfl) ⟨Nat.zero_le _,hRK⟩ ?_ rfl ?_
  ·exact A0d (by simp -implicitDefEqProofs [SLo])
  rintro j ⟨hj,heq⟩;by_cases hlt:j<rl.length
  ·obtain⟨c,hc1⟩:∃c,rl[j]?=some c:=⟨_,List.getElem?_eq_getElem (by omega)⟩
   have hx:m.rels[j]?=some c.x:=by rw[<-hrm,List.getElem?_map,hc1];rfl
   have hxm:=List.mem_of_getElem? hx;have i1:=hr.iaddr hc1 .i64;have hz:eEC.z=3:=rfl;rw[hz,show eEC.enc c=c.cs from rfl]at i1
   have l3:∀H:Heap,A0t true 3 H (.t (.pt (c.cs++rest eEC rl j)))=some (.t (.ag c.cs)):=fun H=>by
    have hl:=c.ok.len;simp only[A0t,if_true];rw[if_pos (by simp[hl]),<-hl,List.take_left]
   have w1:IntKind.i64.wrap ((j:Int)+1)=((j+1:Nat):Int):=A0k (by omega) (by omega);have eC:=D8x c (hs.args _ hxm) (hs.strs _ hxm).1 (hs.strs _ hxm).2;rw[D1p hx]at heq
   obtain⟨e,he⟩:∃e,e=chkE A0h c.x:=⟨_,rfl⟩
   rw[<-he]at heq eC;by_cases h0:e=0
   ·have be:(e != 0)=false:=by simpa using h0
    rw[if_pos h0]at heq;refine A0e A6p ?_;simp -implicitDefEqProofs [SLo,tbLo,z.l3,lr,hlt,i1,l3,eC,be,w1];exact Abs.Next.mk (j+1) ⟨⟨by omega,heq⟩,by omega⟩ (A0d (by simp -implicitDefEqProofs [SLo]))
   ·have be:(e != 0)=true:=by simpa using h0
    rw[if_neg h0]at heq;refine A0e A6p ?_;simp -implicitDefEqProofs [SLo,tbLo,z.l3,lr,hlt,i1,l3,eC,be,heq]
  ·have hR:R=K2:=by rw[heq,D9a (by omega)]
   refine A0e A6p ?_;simp -implicitDefEqProofs [SLo,z.l3,lr,hlt];exact Abs.Next.mk () hR (A0d (by simp -implicitDefEqProofs))
 rintro _ hR2;clear hRK
 obtain⟨L,hL⟩:∃L,L=occ m:=⟨_,rfl⟩
 rw[<-hL]at eO hK2
 obtain⟨tl,htl⟩:∃tl,tl=slT eInt L:=⟨_,rfl⟩
 have hTl:IsS eInt tl L:=.inr htl;rw[<-htl]at eO;have ll:=hTl.len
 have hLl:L.length<=300000000:=by rw[hL];exact B7b hs
 refine A0a A6p ?_;simp -implicitDefEqProofs [tbLo,z.all,eO]
 obtain⟨K3,hK3⟩:∃K3,K3=allC (fun x=>decide (vS m.vars x=wH)) (hnd m) 2 0:=⟨_,rfl⟩
 rw[<-hK3]at hK2;rw[hK2]at hR2;refine A0q (α:=Unit) (fun _=>⟨[(1,.ptr 0 0)],[(0,X)],1,96⟩) (fun _=>R=K3/\AllP (fun x=>decide (inR m.vars.length x)) L) (fun _=>rfl) ?_ ?_
 ·refine A0a A6p ?_;simp -implicitDefEqProofs;refine A0j ?_;refine A0n (SLl 7 6 X tl) (fun j=>L.length-j) (fun j=>j<=L.length/\(AllP (fun x=>decide (inR m.vars.length x)) L ↔ AllP (fun x=>decide (inR m.vars.length x)) (L.drop j))/\R=allC (fun x=>decide (inR m.vars.length x)) (L.drop j) 2 K3) 0 (fun _=>rfl) ⟨Nat.zero_le _,Iff.rfl,hR2⟩ ?_ rfl ?_
  ·exact A0d (by simp -implicitDefEqProofs [SLl])
  rintro j ⟨hj,hall,heq⟩;by_cases hlt:j<L.length
  ·obtain⟨x,hx⟩:∃x,L[j]?=some x:=⟨_,List.getElem?_eq_getElem hlt⟩
   have i1:=hTl.iaddr hx .i64;have hz:eInt.z=1:=rfl;rw[hz,show eInt.enc x=[iv x]from rfl]at i1;have w1:IntKind.i64.wrap ((j:Int)+1)=((j+1:Nat):Int):=A0k (by omega) (by omega);rw[A9g hx]at heq;rw[D1o hx]at hall;by_cases hn:x<0
   ·have hin:decide (inR m.vars.length x)=false:=by rw[decide_eq_false_iff_not];exact fun h=>by have:=h.1;omega
    rw[if_neg (by rw[hin];decide)]at heq;refine A0e A6p ?_;simp -implicitDefEqProofs [SLl,tbLo,ll,hlt,i1,lp,hn,heq]
   ·by_cases hg:(m.vars.length:Int)<=x
    ·have hin:decide (inR m.vars.length x)=false:=by rw[decide_eq_false_iff_not];exact fun h=>by have:=h.2;omega
     rw[if_neg (by rw[hin];decide)]at heq;refine A0e A6p ?_;simp -implicitDefEqProofs [SLl,tbLo,ll,hlt,i1,lp,hn,z.l2,lv,hg,heq]
    ·have hin:decide (inR m.vars.length x)=true:=decide_eq_true ⟨by omega,by omega⟩;rw[if_pos hin]at heq;have hall:=hall.trans (and_iff_right hin);refine A0e A6p ?_;simp -implicitDefEqProofs [SLl,tbLo,ll,hlt,i1,lp,hn,z.l2,lv,hg,w1];exact Abs.Next.mk (j+1) ⟨⟨hlt,hall,heq⟩,by omega⟩ (A0d (by simp -implicitDefEqProofs [SLl]))
  ·rw[B2r _ (by omega)]at heq;have hall:=hall.2 (D8z _ (by omega));refine A0e A6p ?_;simp -implicitDefEqProofs [SLl,ll,hlt];exact Abs.Next.mk () ⟨heq,hall⟩ (A0d (by simp -implicitDefEqProofs))
 rintro _ ⟨hR3,hok⟩
 obtain⟨D,hD⟩:∃D,D=hnd m:=⟨_,rfl⟩
 have hsub:∀x∈D,inR m.vars.length x:=fun x hx=>by
  unfold AllP at hok;rw[List.all_eq_true]at hok;exact of_decide_eq_true (hok x (by rw[hL];exact D5p m x (by rw[<-hD];exact hx)))
 rw[<-hD]at hK3
 obtain⟨th,hth⟩:∃th,th=slT eInt D:=⟨_,rfl⟩
 have hTh:IsS eInt th D:=.inr hth
 have eH:gHnd [.ag [iv m.top,iv m.index,tv,tr,tc]]=some th:=by unfold gHnd;rw[hth,hD];exact B3a _ ⟨tv,tr,tc,rl,rfl,hv,hr,hrm,hc⟩ hs
 have lh:=hTh.len
 have hDl:D.length<=1000000:=by rw[hD];exact E7v hs
 refine A0a A6p ?_;simp -implicitDefEqProofs [tbLo,z.all,eH];rw[hK3]at hR3;refine A0q (α:=Unit) (fun _=>⟨[],[],1,96⟩) (fun _=>R=0) (fun _=>rfl) ?_ ?_
 ·refine A0a A6p ?_;simp -implicitDefEqProofs;refine A0j ?_;refine A0n (SLl 9 8 X th) (fun j=>D.length-j) (fun j=>j<=D.length/\R=allC (fun x=>decide (vS m.vars x=wH)) (D.drop j) 2 0) 0 (fun _=>rfl) ⟨Nat.zero_le _,hR3⟩ ?_ rfl ?_
  ·exact A0d (by simp -implicitDefEqProofs [SLl])
  rintro j ⟨hj,heq⟩;by_cases hlt:j<D.length
  ·obtain⟨x,hx⟩:∃x,D[j]?=some x:=⟨_,List.getElem?_eq_getElem hlt⟩
   have i1:=hTh.iaddr hx .i64;have hz:eInt.z=1:=rfl;rw[hz,show eInt.enc x=[iv x]from rfl]at i1;have hin:=hsub x (List.mem_of_getElem? hx)
   obtain⟨n,rfl⟩:∃n:Nat,x=(n:Int):=⟨x.toNat,by have:=hin.1;omega⟩
   have hnl:n<m.vars.length:=by have:=hin.2;omega
   obtain⟨s,hs1⟩:∃s,m.vars[n]?=some s:=⟨_,List.getElem?_eq_getElem hnl⟩
   have i2:=hv.iaddr hs1 .i64;have hzs:eStr.z=1:=rfl;rw[hzs,show eStr.enc s=[sv s]from rfl]at i2;have w1:IntKind.i64.wrap ((j:Int)+1)=((j+1:Nat):Int):=A0k (by omega) (by omega);rw[A9g hx,G0o hs1]at heq;have sh:=G0p s;by_cases hsw:s=wH
   ·rw[if_pos (decide_eq_true hsw)]at heq;rw[decide_eq_true hsw]at sh;refine A0e A6p ?_;simp -implicitDefEqProofs [SLl,tbLo,lh,hlt,i1,lp,z.l2,i2,sh,w1];exact Abs.Next.mk (j+1) ⟨⟨hlt,heq⟩,by omega⟩ (A0d (by simp -implicitDefEqProofs [SLl]))
   ·rw[if_neg (by rw[decide_eq_false hsw];decide)]at heq;rw[decide_eq_false hsw]at sh;refine A0e A6p ?_;simp -implicitDefEqProofs [SLl,tbLo,lh,hlt,i1,lp,z.l2,i2,sh,heq]
  ·have hR:R=0:=by rw[heq,B2r _ (by omega)]
   refine A0e A6p ?_;simp -implicitDefEqProofs [SLl,lh,hlt];exact Abs.Next.mk () hR (A8d (by omega) (fun q hq=>by cases hq))
 rintro _ hRG;refine A0e A6p ?_;simp -implicitDefEqProofs [hRG]
noncomputable def D2d:List T->Option T:=gM fun m=>iv (A4f A0h m)
theorem E8q:GOK Tryz.prog (G q) 16 D2d:=E3i fun _ _ h hs=>D6d h hs
end Go.Proofs.YtmgjopafgboljaaGreatDoor
