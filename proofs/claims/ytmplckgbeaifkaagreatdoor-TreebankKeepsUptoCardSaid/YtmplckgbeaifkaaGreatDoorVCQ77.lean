/- Auxiliary facts. -/
import Derived.Test.YtmplckgbeaifkaaGreatDoorVCQ71
import Derived.Test.YtmplckgbeaifkaaGreatDoorVCQ75
import Derived.Test.YtmplckgbeaifkaaGreatDoorVCQ54
set_option linter.unusedSimpArgs false
set_option maxRecDepth 100000
set_option maxHeartbeats 0
set_option linter.unusedVariables false
namespace Go.Proofs.YtmplckgbeaifkaaGreatDoor
open Go Go.Abs
variable {q : Gl}
abbrev zItm:Row:=.cells 28 [.t (.v (.string ⟨#[]⟩)),.t (.v (.slice none 0 0)),.t (.v (.int .i64 0)),.t (.v (.slice none 0 0)),.t (.v (.int .i64 0)),.t (.v (.string ⟨#[]⟩)),.t (.v (.int .i64 0)),.t (.v (.int .i64 0)),.t (.v (.slice none 0 0))]
theorem F3j (id:ByteArray) (l:List IC):((getC id l).getD zIC).x=(getI id (l.map IC.x)).getD zIC.x:=by
 rw[F8f];cases getC id l<;>rfl
theorem B8b (id:ByteArray) (l:List IC):(getC id l).isSome=(getI id (l.map IC.x)).isSome:=by
 rw[F8f];cases getC id l<;>rfl
theorem D8f {tb:List T} (b:TBI tb) (hk:chkT b.tb=0) (c:IC) (hc:SmI c.x) {cs:List T} (b':TBI cs) (hp:putT b.tb c.x = .ok b'.tb) (id:ByteArray) :
  ∃(y z ag ds:List T) (b2:TBI ag) (b3:TBI ds) (th:Bool) (w:List T),y.length=9/\z.length=9/\w.length=9/\gGet [.ag cs,sv c.x.id]=some (.tu [.ag y,bv true])/\gGet [.ag cs,sv id]=some (.tu [.ag z,bv th]) /\
   gPt [.ag cs,.ag c.cs]=some (.tu [.ag ag,iv 0])/\gRmv [.ag cs,sv c.x.id]=some (.tu [.ag ds,iv 0])/\gGet [.ag ds,sv c.x.id]=some (.tu [.ag w,bv false]) /\
   gChk [.ag cs]=some (iv 0)/\gSI [.ag c.cs,.ag y]=some (bv true)/\gSB [.ag ag,.ag cs]=some (bv true)/\gChk [.ag ds]=some (iv 0) /\
   (id≠c.x.id->th=(getC id b.l).isSome/\gSI [.ag z,.ag ((getC id b.l).getD zIC).cs]=some (bv true))/\((getC c.x.id b.l).isSome=false->gSB [.ag ds,.ag tb]=some (bv true)):=by
 obtain⟨k1,k2,k3,⟨d,k4,k5,k6,k7⟩,k8⟩:=E8w hk hp
 have hv:b'.tb.ver=b.tb.ver:=by rw[(B8q hk hp).1]
 have e1:=b'.get k1 c.x.id;have e2:=b'.get k1 id;have k2':getI c.x.id (b'.l.map IC.x)=some c.x:=k2
 have g1:(getC c.x.id b'.l).isSome=true:=by rw[B8b,k2'];rfl
 have g2:((getC c.x.id b'.l).getD zIC).x=c.x:=by rw[F3j,k2'];rfl
 rw[g1]at e1;obtain⟨ag,e,b2,e3,h3⟩:=b'.put k1 c hc;rcases h3 with⟨_,_,h3⟩ | ⟨rfl,h3,_,_⟩
 ·rw[k3]at h3;cases h3
 obtain⟨ds,e,b3,e4,h4,h5⟩:=b'.rem k1 c.x.id;obtain rfl:=h5 g1;obtain⟨h4,h6⟩:=h4 rfl
 have hd3:b3.tb=d:=by
  unfold remT at k4;split at k4
  ·cases k4
  ·cases k4;unfold TBI.tb;rw[h4,h6,G4s]
 have k5':chkT b3.tb=0:=by rw[hd3];exact k5
 have e5:=b3.get k5' c.x.id
 have g5:(getC c.x.id b3.l).isSome=false:=by
  rw[B8b]
  have:getI c.x.id b3.tb.items=none:=by rw[hd3];exact k6
  rw[show b3.l.map IC.x=b3.tb.items from rfl,this];rfl
 rw[g5]at e5;have c1:=b'.ck;rw[k1]at c1;have c3:=b3.ck;rw[k5']at c3;refine⟨_,_,ag,ds,b2,b3,_,_,A9x _,A9x _,A9x _,e1,e2,e3,e4,e5,c1,D4d _ _ g2.symm hc.e,b2.same b' ?_,c3,fun hne=>⟨?_,D4d _ _ ?_ (b'.getSm id).e⟩,fun hn=>b3.same b ?_⟩
 ·rw[k3]at h3;injection h3 with h3;exact h3.symm
 ·rw[B8b,B8b];have:=k8 id hne;rw[show b'.l.map IC.x=b'.tb.items from rfl,this];rfl
 ·rw[F3j,F3j];have:=k8 id hne;rw[show b'.l.map IC.x=b'.tb.items from rfl,this];rfl
 ·rw[hd3];refine k7 ?_;rw[B8b]at hn;show getI c.x.id (b.l.map IC.x)=none
  cases h:getI c.x.id (b.l.map IC.x)with
  | none=>rfl
  | some y=>rw[h]at hn;cases hn
theorem E6g {tb:List T} (b:TBI tb) (c:IC) (hc:SmI c.x) (id:ByteArray):A0v Tryz.prog (G q) 14 [.ag tb,.ag c.cs,sv id] (· = bv true):=by
 have eL:=b.lt;have eC:=b.ck;have eI:=D4z c hc;have eX:gEx []=some (bv true):=rfl;have cd:A0q (.t (.ag tb))=some (tb.map .t):=rfl;have cd2:A0q (.t (.ag c.cs))=some (c.cs.map .t):=rfl
 obtain⟨X,hX⟩:∃X,X=Row.cells 39 (tb.map .t):=⟨_,rfl⟩
 obtain⟨Y,hY⟩:∃Y,Y=Row.cells 28 (c.cs.map .t):=⟨_,rfl⟩
 have lX:∀H b,Abs.look H b=some X->A0e true 2 H (.ptr b 0)=some (.t (.ag tb)):=fun H k h=>ldT (h.trans (by rw[hX])) b.len;have lY:∀H b,Abs.look H b=some Y->A0e true 9 H (.ptr b 0)=some (.t (.ag c.cs)):=fun H k h=>ldT (h.trans (by rw[hY])) (A9x c)
 have lY0:∀H b,Abs.look H b=some Y->A0e false 1 H (.ptr b 0)=some (.t (sv c.x.id)):=fun H k h=>by
  obtain⟨tw,td,kk,nm,f,t,tk,ks,ecs,_⟩:=A1g c.ok;rw[ecs]at hY;exact(ldI c.x.id tw c.x.state td kk nm f t tk (h.trans (by rw[hY];rfl))).l0
 have C:Ctx Tryz.prog (G q) _:=(A0x.cons (hLB (q:=q)) (.cons (D7p (q:=q)) (.cons (hChk (q:=q)) (.cons (hLI (q:=q)) (.cons (hPt2 (q:=q)) (.cons (hGet (q:=q)) (.cons (hRmv (q:=q)) (.cons (G0u (q:=q)) (.cons (hSB (q:=q)) (.cons (D4v (q:=q)) .nil)))))))))).ctx mixed;have sN:∀{cs:List T} (h:cs.length=2) (H:Heap) (k:Nat),A0h 2 ((k,zTbR)::H) (.ptr k 0) (.t (.ag cs))=some ((k,Row.cells 39 (cs.map .t))::H):=fun h H k=>sNew rfl h (by decide) H k;have sM:∀{cs:List T} (h:cs.length=9) (H:Heap) (k:Nat),A0h 9 ((k,zItm)::H) (.ptr k 0) (.t (.ag cs))=some ((k,Row.cells 28 (cs.map .t))::H):=fun h H k=>sNew rfl h (by decide) H k;refine B5w.call rfl ?_;(conv in A8i=>cbv);refine A0a C ?_;simp -implicitDefEqProofs [cd,cd2];rw[<-hX,<-hY]
 cases hl:ltB b.tb with
 | false=>
  rw[hl]at eL;refine A0a C ?_;simp -implicitDefEqProofs [lX,eL,eX]
 | true=>
 rw[hl]at eL;by_cases hk:chkT b.tb=0
 rotate_left
 ·have hb:(chkT b.tb != 0)=true:=by simpa using hk
  refine A0a C ?_;simp -implicitDefEqProofs [lX,eL,eC,hb,eX]
 have hb:(chkT b.tb != 0)=false:=by simpa using hk
 cases hi:ltI c.x with
 | false=>
  rw[hi]at eI;refine A0a C ?_;simp -implicitDefEqProofs [lX,eL,eC,hb,lY,eI,eX]
 | true=>
 rw[hi]at eI;refine A0a C ?_;simp -implicitDefEqProofs [lX,eL,eC,hb,lY,eI];have eO:=b.get hk id;have eO2:=b.get hk c.x.id;obtain⟨cs,e,b',eP,hP⟩:=b.put hk c hc;have hO9:=A9x ((getC id b.l).getD zIC);have hO29:=A9x ((getC c.x.id b.l).getD zIC);have K:=fun hp=>D8f b hk c hc b' hp id
 obtain⟨O,hO⟩:∃O,O=((getC id b.l).getD zIC).cs:=⟨_,rfl⟩
 obtain⟨O2,hO2⟩:∃O,O=((getC c.x.id b.l).getD zIC).cs:=⟨_,rfl⟩
 obtain⟨had,hhad⟩:∃h,h=(getC id b.l).isSome:=⟨_,rfl⟩
 obtain⟨has,hhas⟩:∃h,h=(getC c.x.id b.l).isSome:=⟨_,rfl⟩
 rw[<-hO,<-hhad]at K eO;rw[<-hO]at hO9;rw[<-hO2,<-hhas]at eO2;rw[<-hO2]at hO29;rw[<-hhas]at K;have sO:=sM hO9;have sO2:=sM hO29;have sC:=sN b'.len
 obtain⟨RO,hRO⟩:∃R,R=Row.cells 28 (O.map .t):=⟨_,rfl⟩
 obtain⟨RO2,hRO2⟩:∃R,R=Row.cells 28 (O2.map .t):=⟨_,rfl⟩
 obtain⟨RC,hRC⟩:∃R,R=Row.cells 39 (cs.map .t):=⟨_,rfl⟩
 have lO:∀H b,Abs.look H b=some RO->A0e true 9 H (.ptr b 0)=some (.t (.ag O)):=fun H k h=>ldT (h.trans (by rw[hRO])) hO9;have lC:∀H b,Abs.look H b=some RC->A0e true 2 H (.ptr b 0)=some (.t (.ag cs)):=fun H k h=>ldT (h.trans (by rw[hRC])) b'.len;rw[<-hRO]at sO;rw[<-hRO2]at sO2;rw[<-hRC]at sC;refine A0a C ?_;simp -implicitDefEqProofs [lX,eO,sO];refine A0a C ?_;simp -implicitDefEqProofs [lX,lY0,eO2,sO2];refine A0a C ?_;simp -implicitDefEqProofs [lX,lY,eP,sC];rcases hP with⟨hne,rfl,_⟩ | ⟨rfl,hp,_,_⟩
 ·have hb:(e != 0)=true:=by simpa using hne
  have eS:=b.same b rfl;refine A0a C ?_;simp -implicitDefEqProofs [hb,lC,lX,eS,eX]
 obtain⟨y,z,ag,ds,b2,b3,th,w,y9,z9,w9,f1,f2,f3,f4,f5,f6,f7,f8,f9,f10,f11⟩:=K hp;have sy:=sM y9;have sz:=sM z9;have sw:=sM w9;have sa:=sN b2.len;have sd:=sN b3.len
 obtain⟨RY,hRY⟩:∃R,R=Row.cells 28 (y.map .t):=⟨_,rfl⟩
 obtain⟨RZ,hRZ⟩:∃R,R=Row.cells 28 (z.map .t):=⟨_,rfl⟩
 obtain⟨RW,hRW⟩:∃R,R=Row.cells 28 (w.map .t):=⟨_,rfl⟩
 obtain⟨RA,hRA⟩:∃R,R=Row.cells 39 (ag.map .t):=⟨_,rfl⟩
 obtain⟨RD,hRD⟩:∃R,R=Row.cells 39 (ds.map .t):=⟨_,rfl⟩
 have ly:∀H b,Abs.look H b=some RY->A0e true 9 H (.ptr b 0)=some (.t (.ag y)):=fun H k h=>ldT (h.trans (by rw[hRY])) y9;have lz:∀H b,Abs.look H b=some RZ->A0e true 9 H (.ptr b 0)=some (.t (.ag z)):=fun H k h=>ldT (h.trans (by rw[hRZ])) z9;have la:∀H b,Abs.look H b=some RA->A0e true 2 H (.ptr b 0)=some (.t (.ag ag)):=fun H k h=>ldT (h.trans (by rw[hRA])) b2.len;have ld:∀H b,Abs.look H b=some RD->A0e true 2 H (.ptr b 0)=some (.t (.ag ds)):=fun H k h=>ldT (h.trans (by rw[hRD])) b3.len;rw[<-hRY]at sy;rw[<-hRZ]at sz;rw[<-hRW]at sw;rw[<-hRA]at sa;rw[<-hRD]at sd;refine A0a C ?_;simp -implicitDefEqProofs;refine A0a C ?_;simp -implicitDefEqProofs [lC,lY0,f1,sy];refine A0a C ?_;simp -implicitDefEqProofs [lC,f2,sz];refine A0a C ?_;simp -implicitDefEqProofs [lC,lY,f3,sa];refine A0a C ?_;simp -implicitDefEqProofs [lC,lY0,f4,sd];refine A0a C ?_;simp -implicitDefEqProofs [ld,lY0,f5,sw];refine A0a C ?_;simp -implicitDefEqProofs [lC,f6,lY,ly,f7,la,f8,ld,f9];refine A0s (α:=Unit) (fun _=>⟨[(10,.t (bv has)),(19,.ptr 8 0),(3,.ptr 0 0)],[(9,RW),(8,RD),(7,RA),(6,RZ),(5,RY),(4,RC),(3,RO2),(2,RO),(1,Y),(0,X)],10,156⟩) (fun _=>True) (fun _=>rfl) ?_ ?_
 ·have hbe:=B3m id c.x.id;by_cases hid:id=c.x.id
  ·rw[decide_eq_true hid]at hbe;refine A0c C ?_;simp -implicitDefEqProofs [lY0,hbe];exact Abs.Next.mk () trivial (A0d (by simp -implicitDefEqProofs))
  ·obtain⟨rfl,f12⟩:=f10 hid;rw[decide_eq_false hid]at hbe
   have hbb:(th==th)=true:=by cases th<;>rfl
   refine A0c C ?_;simp -implicitDefEqProofs [lY0,hbe,hbb,lz,lO,f12];exact Abs.Next.mk () trivial (A0d (by simp -implicitDefEqProofs))
 rintro _ -
 cases has with
 | true=>
  refine A0c C ?_;simp -implicitDefEqProofs [eX]
 | false=>
  have f11:=f11 rfl;refine A0c C ?_;simp -implicitDefEqProofs [ld,lX,f11,eX]
end Go.Proofs.YtmplckgbeaifkaaGreatDoor
