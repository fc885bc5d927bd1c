/- Auxiliary facts. -/
import Derived.Test.YtmplckgbeaifkaaGreatDoorVCQ75
import Derived.Test.YtmplckgbeaifkaaGreatDoorVCQ72
import Derived.Test.YtmplckgbeaifkaaGreatDoorVCQ49
set_option linter.unusedSimpArgs false
set_option maxRecDepth 100000
set_option maxHeartbeats 0
set_option linter.unusedVariables false
namespace Go.Proofs.YtmplckgbeaifkaaGreatDoor
open Go Go.Abs
variable {q : Gl}
theorem D0p {tb:List T} (b:TBI tb) (c d:IC) (hc:SmI c.x) (hd:SmI d.x):A0v Tryz.prog (G q) 15 [.ag tb,.ag c.cs,.ag d.cs] (· = bv true):=by
 have eL:=b.lt;have eC:=b.ck;have eI:=D4z c hc;have eJ:=D4z d hd;have lu:=b.hu.len;have eX:gEx []=some (bv true):=rfl;have cd:A0q (.t (.ag tb))=some (tb.map .t):=rfl;have cd2:A0q (.t (.ag c.cs))=some (c.cs.map .t):=rfl;have cd3:A0q (.t (.ag d.cs))=some (d.cs.map .t):=rfl
 obtain⟨X,hX⟩:∃X,X=Row.cells 39 (tb.map .t):=⟨_,rfl⟩
 obtain⟨Y,hY⟩:∃Y,Y=Row.cells 28 (c.cs.map .t):=⟨_,rfl⟩
 obtain⟨Z,hZ⟩:∃Y,Y=Row.cells 28 (d.cs.map .t):=⟨_,rfl⟩
 have lX:∀H b,Abs.look H b=some X->A0e true 2 H (.ptr b 0)=some (.t (.ag tb)):=fun H k h=>ldT (h.trans (by rw[hX])) b.len;have lX1:∀H k,Abs.look H k=some X->A0e false 1 H (.ptr k 1)=some (.t b.u):=fun H k h=>(ldB (ver:=b.ver) (u:=b.u) (h.trans (by rw[hX,b.row]))).l1;have lY:∀H b,Abs.look H b=some Y->A0e true 9 H (.ptr b 0)=some (.t (.ag c.cs)):=fun H k h=>ldT (h.trans (by rw[hY])) (A9x c);have lZ:∀H b,Abs.look H b=some Z->A0e true 9 H (.ptr b 0)=some (.t (.ag d.cs)):=fun H k h=>ldT (h.trans (by rw[hZ])) (A9x d)
 have lY0:∀H b,Abs.look H b=some Y->A0e false 1 H (.ptr b 0)=some (.t (sv c.x.id)):=fun H k h=>by
  obtain⟨tw,td,kk,nm,f,t,tk,ks,ecs,_⟩:=A1g c.ok;rw[ecs]at hY;exact(ldI c.x.id tw c.x.state td kk nm f t tk (h.trans (by rw[hY];rfl))).l0
 have lZ0:∀H b,Abs.look H b=some Z->A0e false 1 H (.ptr b 0)=some (.t (sv d.x.id)):=fun H k h=>by
  obtain⟨tw,td,kk,nm,f,t,tk,ks,ecs,_⟩:=A1g d.ok;rw[ecs]at hZ;exact(ldI d.x.id tw d.x.state td kk nm f t tk (h.trans (by rw[hZ];rfl))).l0
 have C:Ctx Tryz.prog (G q) _:=(A0x.cons (hLB (q:=q)) (.cons (D7p (q:=q)) (.cons (hLI (q:=q)) (.cons (hPt2 (q:=q)) (.cons (hSB (q:=q)) (.cons (D4v (q:=q)) .nil)))))).ctx mixed;have sN:∀{cs:List T} (h:cs.length=2) (H:Heap) (k:Nat),A0h 2 ((k,zTbR)::H) (.ptr k 0) (.t (.ag cs))=some ((k,Row.cells 39 (cs.map .t))::H):=fun h H k=>sNew rfl h (by decide) H k;have hbe:=B3m c.x.id d.x.id;refine B1t.call rfl ?_;(conv in A6f=>cbv);refine A0a C ?_;simp -implicitDefEqProofs [cd,cd2,cd3];rw[<-hX,<-hY,<-hZ]
 cases hl:ltB b.tb with
 | false=>
  rw[hl]at eL;refine A0a C ?_;simp -implicitDefEqProofs [lX,eL,eX]
 | true=>
 rw[hl]at eL;by_cases hk:chkT b.tb=0
 rotate_left
 ·have hb:(chkT b.tb != 0)=true:=by simpa using hk
  refine A0a C ?_;simp -implicitDefEqProofs [lX,eL,eC,hb,eX]
 have hb:(chkT b.tb != 0)=false:=by simpa using hk
 cases hi:ltI c.x with
 | false=>
  rw[hi]at eI;refine A0a C ?_;simp -implicitDefEqProofs [lX,eL,eC,hb,lY,eI,eX]
 | true=>
 rw[hi]at eI
 cases hj:ltI d.x with
 | false=>
  rw[hj]at eJ;refine A0a C ?_;simp -implicitDefEqProofs [lX,eL,eC,hb,lY,eI,lZ,eJ,eX]
 | true=>
 rw[hj]at eJ;by_cases hid:c.x.id=d.x.id
 ·rw[decide_eq_true hid]at hbe;refine A0a C ?_;simp -implicitDefEqProofs [lX,eL,eC,hb,lY,eI,lZ,eJ,lY0,lZ0,hbe,eX]
 rw[decide_eq_false hid]at hbe;by_cases h254:254<b.l.length
 ·have b2:(254:Int)<(b.l.length:Int):=by omega
  refine A0a C ?_;simp -implicitDefEqProofs [lX,eL,eC,hb,lY,eI,lZ,eJ,lY0,lZ0,hbe,lX1,lu,b2,eX]
 have b2:¬(254:Int)<(b.l.length:Int):=by omega
 refine A0a C ?_;simp -implicitDefEqProofs [lX,eL,eC,hb,lY,eI,lZ,eJ,lY0,lZ0,hbe,lX1,lu,b2];obtain⟨cs,e,bc,eP,hP⟩:=b.put hk c hc;obtain⟨ds,f,bd,eQ,hQ⟩:=b.put hk d hd;have sC:=sN bc.len;have sD:=sN bd.len
 obtain⟨RC,hRC⟩:∃R,R=Row.cells 39 (cs.map .t):=⟨_,rfl⟩
 obtain⟨RD,hRD⟩:∃R,R=Row.cells 39 (ds.map .t):=⟨_,rfl⟩
 have lC:∀H b,Abs.look H b=some RC->A0e true 2 H (.ptr b 0)=some (.t (.ag cs)):=fun H k h=>ldT (h.trans (by rw[hRC])) bc.len;have lD:∀H b,Abs.look H b=some RD->A0e true 2 H (.ptr b 0)=some (.t (.ag ds)):=fun H k h=>ldT (h.trans (by rw[hRD])) bd.len;rw[<-hRC]at sC;rw[<-hRD]at sD;refine A0a C ?_;simp -implicitDefEqProofs [lX,lY,eP,sC];refine A0a C ?_;simp -implicitDefEqProofs [lX,lZ,eQ,sD];rcases hP with⟨hne,_,_⟩ | ⟨rfl,hp,_,_⟩
 ·have hb:(e != 0)=true:=by simpa using hne
  refine A0a C ?_;simp -implicitDefEqProofs [hb,eX]
 rcases hQ with⟨hne,_,_⟩ | ⟨rfl,hq,_,_⟩
 ·have hb:(f != 0)=true:=by simpa using hne
  refine A0a C ?_;simp -implicitDefEqProofs [hb,eX]
 obtain⟨m,m1,m2⟩:=D2x hk (by show(b.l.map IC.x).length<=254;rw[List.length_map];omega) hid hp hq;have hkc:=(B8q hk hp).2.1;have hkd:=(B8q hk hq).2.1;obtain⟨ks,e1,bk,eK,hK⟩:=bc.put hkc d hd;obtain⟨ms,e2,bm,eM,hM⟩:=bd.put hkd c hc;rcases hK with⟨_,_,hK⟩ | ⟨rfl,hK,_,_⟩
 ·rw[m1]at hK;cases hK
 rcases hM with⟨_,_,hM⟩ | ⟨rfl,hM,_,_⟩
 ·rw[m2]at hM;cases hM
 rw[m1]at hK;rw[m2]at hM;injection hK with hK;injection hM with hM;have eS:=bk.same bm (hK.symm.trans hM);have sK:=sN bk.len;have sM:=sN bm.len
 obtain⟨RK,hRK⟩:∃R,R=Row.cells 39 (ks.map .t):=⟨_,rfl⟩
 obtain⟨RM,hRM⟩:∃R,R=Row.cells 39 (ms.map .t):=⟨_,rfl⟩
 have lK:∀H b,Abs.look H b=some RK->A0e true 2 H (.ptr b 0)=some (.t (.ag ks)):=fun H k h=>ldT (h.trans (by rw[hRK])) bk.len;have lM:∀H b,Abs.look H b=some RM->A0e true 2 H (.ptr b 0)=some (.t (.ag ms)):=fun H k h=>ldT (h.trans (by rw[hRM])) bm.len;rw[<-hRK]at sK;rw[<-hRM]at sM;refine A0a C ?_;simp -implicitDefEqProofs;refine A0a C ?_;simp -implicitDefEqProofs [lC,lZ,eK,sK];refine A0a C ?_;simp -implicitDefEqProofs [lD,lY,eM,sM];refine A0c C ?_;simp -implicitDefEqProofs [lK,lM,eS,eX]
end Go.Proofs.YtmplckgbeaifkaaGreatDoor
