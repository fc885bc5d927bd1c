/- Auxiliary facts. -/
import Derived.Test.YtmplckgbeaifkaaGreatDoorVCQ59
import Derived.Test.YtmplckgbeaifkaaGreatDoorVCQ58
import Derived.Test.YtmplckgbeaifkaaGreatDoorVCQ65
import Derived.Test.YtmplckgbeaifkaaGreatDoorVCQ68
import Derived.Test.YtmplckgbeaifkaaGreatDoorVCQ69
import Derived.Test.YtmplckgbeaifkaaGreatDoorVCQ70
import Derived.Test.YtmplckgbeaifkaaGreatDoorVCQ71
set_option linter.unusedSimpArgs false
set_option maxRecDepth 100000
set_option maxHeartbeats 0
set_option linter.unusedVariables false
namespace Go.Proofs.YtmplckgbeaifkaaGreatDoor
open Go Go.Abs
variable {q : Gl}
theorem hRGet:GOK Tryz.prog (G q) 43 gGet:=A6w fun a b tb id r ha hb hr=>by
 obtain rfl:b=sv id:=hb;split at hr
 ·rename_i h;injection hr with hr;subst hr;obtain⟨u,rfl,hu⟩:=ha;exact F2r hu h.2
 ·cases hr
def HRm (X:Row) (out:List IC):Heap:=[(1,bRow ⟨#[]⟩ nilS),(0,X)]++rowH eIC 28 2 out
def SRmv (X:Row) (id:ByteArray) (a:Nat×List IC):A0b:=⟨[(7,.t (iv (a.1:Int))),(6,rowP eIC 2 a.2),(4,.ptr 1 0),(2,.ptr 0 0),(1,.t (sv id))],HRm X a.2,3,42⟩
theorem G4t (X:Row) (out:List IC):A1h eIC 28 (HRm X out) 2 out:=
 (A1h.head' eIC 28 2 out).imp (fun h=>h) fun h=>by
  show Abs.look ((1,bRow ⟨#[]⟩ nilS)::(0,X)::rowH eIC 28 2 out) 2=_;rw[look_cons,if_neg (by omega),look_cons,if_neg (by omega)];exact h
theorem F6q {id:ByteArray} {l:List IC}:(remC id l).length=l.length ↔ (getC id l).isSome=false:=by
 unfold remC getC;rw[List.length_filter_eq_length_iff];constructor
 ·intro h;rw[Option.isSome_eq_false_iff,Option.isNone_iff_eq_none,List.find?_eq_none];intro x hx;have:=h x hx;simpa using this
 ·intro h x hx;rw[Option.isSome_eq_false_iff,Option.isNone_iff_eq_none,List.find?_eq_none]at h;have:=h x hx;simpa using this
theorem D4w {ver id:ByteArray} {u:T} {l:List IC} (hu:IsS eIC u l) (hl:l.length<=1000000):A0v Tryz.prog (G q) 45 [.ag [sv ver,u],sv id] (· = C4d ver u id l):=by
 have cd:A0q (.t (.ag [sv ver,u]))=some [.t (sv ver),.t u]:=rfl;have lu:=hu.len
 obtain⟨P,hP⟩:∃P,P=C4d ver u id l:=⟨_,rfl⟩
 rw[<-hP];unfold C4d at hP
 obtain⟨X,hX⟩:∃X,X=bRow ver u:=⟨_,rfl⟩
 have hXc:∃(ty:Nat) (cs:List T),X = .cells ty (cs.map .t):=⟨_,[sv ver,u],hX⟩
 have C:Ctx Tryz.prog (G q) _:=(A0x.nil:A0x Tryz.prog (G q) []).ctx mixed
 obtain⟨M,hM⟩:∃M,M=remC id l:=⟨_,rfl⟩
 refine D4b.call rfl ?_;(conv in C0h=>cbv);refine A0a C ?_;simp -implicitDefEqProofs [cd];rw[show Row.cells 39 [.t (sv ver),.t u]=X from hX.symm];rw[show Row.cells 39 [.t (.v (.string ⟨#[]⟩)),.t (.v (.slice none 0 0))]=bRow ⟨#[]⟩ nilS from rfl];refine A0a C ?_;simp -implicitDefEqProofs;refine A0s (α:=Unit) (fun _=>⟨[(6,rowP eIC 2 M),(4,.ptr 1 0),(2,.ptr 0 0)],HRm X M,3,42⟩) (fun _=>True) (fun _=>rfl) ?_ ?_
 ·refine A0a C ?_;simp -implicitDefEqProofs;refine A0g ?_;refine A0t (SRmv X id) (fun a=>l.length-a.1) (fun a=>a.1<=l.length/\a.2.length<=a.1/\a.2++remC id (l.drop a.1)=M) (0,[]) (fun _=>rfl) ⟨Nat.zero_le _,Nat.le_refl _,hM.symm⟩ ?_ rfl ?_
  ·refine A7w (e:=eIC) (ty:=28) (b:=2) (k:=2) (l:=[]) (R:=[(1,bRow ⟨#[]⟩ nilS),(0,X)]) (A1h.nil _ _ _ _) (by omega) (by omega) (fun z hz=>?_) (by simp -implicitDefEqProofs [SRmv,rowP,ren,under]);obtain⟨ty,cs,hc⟩:=hXc;simp only[List.mem_cons,List.not_mem_nil,or_false]at hz;rcases hz with rfl | rfl
   ·exact⟨rfl,by show 1<3;omega,by show 1≠2;omega,by show 1≠2;omega,rfl⟩
   ·exact⟨by rw[hc];simp[A2v,B4w],by show 0<3;omega,by show 0≠2;omega,by show 0≠2;omega,by rw[hc];exact A1e _ _⟩
  rintro⟨j,out⟩ ⟨hj,hol,heq⟩;simp only at hj hol heq;have k0:Abs.look (HRm X out) 0=some X:=rfl;have k1:Abs.look (HRm X out) 1=some (bRow ⟨#[]⟩ nilS):=rfl;have ra:=G4t X out;unfold SRmv
  obtain⟨H0,hH0⟩:∃H0,H0=HRm X out:=⟨_,rfl⟩
  simp only[<-hH0]at k0 k1 ra ⊢;have z:=ldB (ver:=ver) (u:=u) (H:=H0) (b:=0) (by rw[k0,hX]);by_cases hlt:j<l.length
  ·obtain⟨c,hc⟩:∃c,l[j]?=some c:=⟨_,List.getElem?_eq_getElem hlt⟩
   obtain⟨pp,i1,ld9,ldid⟩:=B3h hu hc;have e1:IntKind.i64.wrap ((j:Int)+1)=((j+1:Nat):Int):=A0j (by omega) (by omega);have hbe:=B3m c.x.id id
   have hrd:remC id (l.drop j)=if c.x.id=id then remC id (l.drop (j+1))else c::remC id (l.drop (j+1)):=by
    rw[List.drop_eq_getElem_cons hlt,(List.getElem?_eq_some_iff.1 hc).2];unfold remC;rw[List.filter_cons];by_cases e:c.x.id=id<;>simp[e]
   rw[hrd]at heq;refine A1p ?_;refine A0c C ?_;simp -implicitDefEqProofs [z.l1,lu,hlt];refine⟨rfl,?_⟩;refine A1p ?_;refine A0g ?_;by_cases h1:c.x.id=id
   ·rw[if_pos h1]at heq;rw[decide_eq_true h1]at hbe;refine A0c C ?_;simp -implicitDefEqProofs [z.l1,i1,ldid,hbe];refine⟨rfl,?_⟩;refine A0c C ?_;simp -implicitDefEqProofs [e1];refine Abs.Next.mk (j+1,out) ⟨⟨by show j+1<=_;omega,by show out.length<=j+1;omega,heq⟩,by show l.length-(j+1)<l.length-j;omega⟩ ?_;rw[hH0];exact A0d (by simp -implicitDefEqProofs)
   ·rw[if_neg h1]at heq;rw[decide_eq_false h1]at hbe;have bs:=bsC c 3;obtain⟨b',H',nx',ap,r',ge,lk⟩:=appC c ra (nx:=3) (by omega) (by omega)
    have q0:Abs.look H' 0=some X:=by rw[lk 0 (by omega) (by omega)];exact k0
    have q1:Abs.look H' 1=some (bRow ⟨#[]⟩ nilS):=by rw[lk 1 (by omega) (by omega)];exact k1
    obtain⟨O2,hO2⟩:∃O2,O2=out++[c]:=⟨_,rfl⟩
    rw[<-hO2]at ap r';refine A0c C ?_;simp -implicitDefEqProofs [z.l1,i1,ldid,hbe,ld9,bs,ap];refine⟨rfl,?_⟩;refine A0c C ?_;simp -implicitDefEqProofs [e1];refine Abs.Next.mk (j+1,O2) ⟨⟨by show j+1<=_;omega,by show O2.length<=j+1;rw[hO2];simp;omega,by show O2++_=M;rw[hO2,<-heq];simp⟩,by show l.length-(j+1)<l.length-j;omega⟩ ?_;refine A7w (e:=eIC) (ty:=28) (b:=2) (k:=b') (l:=O2) (R:=[(1,bRow ⟨#[]⟩ nilS),(0,X)]) r' (by omega) (by omega) (fun z hz=>?_) (by simp -implicitDefEqProofs [A3p,A2h,ren,under]);obtain⟨ty,cs,hc⟩:=hXc;simp only[List.mem_cons,List.not_mem_nil,or_false]at hz;rcases hz with rfl | rfl
    ·exact⟨by rw[q1];rfl,by show 1<3;omega,by show 1≠2;omega,by show 1≠b';omega,rfl⟩
    ·exact⟨by rw[q0,hc];simp[A2v,B4w],by show 0<3;omega,by show 0≠2;omega,by show 0≠b';omega,by rw[hc];exact A1e _ _⟩
  ·have hjl:j=l.length:=by omega
   subst hjl
   have hn:out=M:=by rw[<-heq,List.drop_length];simp[remC]
   subst hn;refine A1p ?_;refine A0c C ?_;simp -implicitDefEqProofs [z.l1,lu];refine Abs.Next.mk () trivial ?_;rw[hH0];exact A0d (by simp -implicitDefEqProofs)
 ·rintro _ -;have k0:Abs.look (HRm X M) 0=some X:=rfl;have k1:Abs.look (HRm X M) 1=some (bRow ⟨#[]⟩ nilS):=rfl;have ra:=G4t X M
  obtain⟨H0,hH0⟩:∃H0,H0=HRm X M:=⟨_,rfl⟩
  simp only[<-hH0]at k0 k1 ra ⊢;have z:=ldB (ver:=ver) (u:=u) (H:=H0) (b:=0) (by rw[k0,hX]);have lr:=B3u eIC 2 M;have hlen:=F6q (id:=id) (l:=l);rw[<-hM]at hlen
  cases hg:(getC id l).isSome with
  | false=>
   rw[hg]at hP hlen;simp only[Bool.false_eq_true,if_false]at hP
   have hb:((M.length:Int)==(l.length:Int))=true:=by simpa using (by have:=hlen.2 rfl;omega:(M.length:Int)=(l.length:Int))
   have s1:=sBu (H:=H0) (b:=1) (v:=ver) (u:=u) (v':=⟨#[]⟩) (u':=nilS) k1 hu;have y:=ldB (ver:=ver) (u:=u) (H:=upd H0 1 (bRow ver u)) (b:=1) (A1s k1);refine A0a C ?_;simp -implicitDefEqProofs [z.l1,lu,lr,hb,z.a,s1,y.a,hP]
  | true=>
   rw[hg]at hP hlen;simp only[if_true]at hP;rw[<-hM]at hP
   have hb:((M.length:Int)==(l.length:Int))=false:=by
    have:¬M.length=l.length:=fun e=>by have:=hlen.1 e;cases this
    simpa using (by omega:¬(M.length:Int)=(l.length:Int))
   have bd:=fun Φ H nx=>bd2p Φ H nx ver M 2;have st:=st2p (v:=ver) (c:=2) (m:=M) k1
   obtain⟨H4,hH4⟩:∃H4,H4=upd H0 1 (oRow ver (rowP eIC 2 M)):=⟨_,rfl⟩
   rw[<-hH4]at st
   have k4:Abs.look H4 1=some (oRow ver (rowP eIC 2 M)):=by rw[hH4];exact A1s k1
   have r4:A1h eIC 28 H4 2 M:=ra.imp (fun h=>h) fun h=>by rw[hH4,A1k,if_neg (by omega)];exact h
   obtain⟨A,hA⟩:∃A,A=agOf [.t (sv ver),rowP eIC 2 M]:=⟨_,rfl⟩
   rw[<-hA]at bd st;have frz4:=A7c (F:=[2]) r4 (by simp)
   obtain⟨RP,hRP⟩:∃RP,RP=rowP eIC 2 M:=⟨_,rfl⟩
   rw[<-hRP]at lr bd ⊢;refine A0a C ?_;simp -implicitDefEqProofs [z.l1,lu,lr,hb];refine A0a C ?_;simp -implicitDefEqProofs [z.l0,bd,st,-evalK_build];refine MC.sub (s':=⟨[(4,.ptr 1 0),(5,.t (iv 0))],[(1,bRow ver (A1a eIC M))],2,42⟩) ?_ rfl ?_
   ·refine A8b [2] (by omega) (fun z hz=>?_) fun z hz=>?_
    ·simp only[List.mem_singleton]at hz;subst hz;refine⟨by simp,⟨oRow ver (rowP eIC 2 M),k4,?_⟩,by show 1<2;omega,by exact A1e _ [sv ver,A1a eIC M]⟩;show Row.cells _ [.t (sv ver),frzP _ _ (rowP eIC 2 M)]=_;rw[frz4];rfl
    ·simp only[List.mem_cons,List.not_mem_nil,or_false]at hz;rcases hz with rfl | rfl
     ·exact⟨⟨_,rfl,rfl⟩,rfl⟩
     ·exact⟨⟨_,rfl,rfl⟩,rfl⟩
   have y:=ldB (ver:=ver) (u:=A1a eIC M) (H:=[(1,bRow ver (A1a eIC M))]) (b:=1) rfl;refine A0c C ?_;simp -implicitDefEqProofs [y.a,hP]
theorem hRRmv:GOK Tryz.prog (G q) 45 gRmv:=F2p fun hu _ hl=>D4w hu hl
theorem F2s {tb:List T} (b:TBI tb) (id:ByteArray):A0v Tryz.prog (G q) 10 [.ag tb,sv id] (· = bv true):=by
 have eL:=b.lt;have eC:=b.ck;have eX:gEx []=some (bv true):=rfl;have cd:A0q (.t (.ag tb))=some (tb.map .t):=rfl
 obtain⟨X,hX⟩:∃X,X=Row.cells 39 (tb.map .t):=⟨_,rfl⟩
 have lX:∀H b,Abs.look H b=some X->A0e true 2 H (.ptr b 0)=some (.t (.ag tb)):=fun H k h=>ldT (h.trans (by rw[hX])) b.len;have C:Ctx Tryz.prog (G q) _:=(A0x.cons (hLB (q:=q)) (.cons (D7p (q:=q)) (.cons (hGet (q:=q)) (.cons (hRGet (q:=q)) (.cons (hRmv (q:=q)) (.cons (hRRmv (q:=q)) (.cons (G0u (q:=q)) (.cons (hSB (q:=q)) (.cons (D4v (q:=q)) .nil))))))))).ctx mixed;refine B7v.call rfl ?_;(conv in A9k=>cbv);refine A0a C ?_;simp -implicitDefEqProofs [cd];rw[<-hX]
 cases hl:ltB b.tb with
 | false=>
  rw[hl]at eL;refine A0a C ?_;simp -implicitDefEqProofs [lX,eL,eX]
 | true=>
 rw[hl]at eL;by_cases hk:chkT b.tb=0
 rotate_left
 ·have hb:(chkT b.tb != 0)=true:=by simpa using hk
  refine A0a C ?_;simp -implicitDefEqProofs [lX,eL,eC,hb,eX]
 have hb:(chkT b.tb != 0)=false:=by simpa using hk
 refine A0a C ?_;simp -implicitDefEqProofs [lX,eL,eC,hb];have eG:=b.get hk id;have eI:=D4d ((getC id b.l).getD zIC) _ rfl (b.getSm id).e;obtain⟨cs',e,b',eP,_⟩:=b.rem hk id;have eS:=b'.same b' rfl;have h9:=A9x ((getC id b.l).getD zIC);generalize ((getC id b.l).getD zIC).cs=gcs at *;generalize (getC id b.l).isSome=gs at *
 obtain⟨R,hR⟩:∃R,R=Row.cells 39 (cs'.map .t):=⟨_,rfl⟩
 have lR:∀H b,Abs.look H b=some R->A0e true 2 H (.ptr b 0)=some (.t (.ag cs')):=fun H k h=>ldT (h.trans (by rw[hR])) b'.len
 have sR:∀(H:Heap) (k:Nat),A0h 2 ((k,.cells 39 [.t (.v (.string ⟨#[]⟩)),.t (.v (.slice none 0 0))])::H) (.ptr k 0) (.t (.ag cs'))=some ((k,R)::H):=fun H k=>by
  rw[hR];exact sNew rfl b'.len (by decide) H k
 obtain⟨Y,hY⟩:∃Y,Y=Row.cells 28 (gcs.map .t):=⟨_,rfl⟩
 have lY:∀H b,Abs.look H b=some Y->A0e true 9 H (.ptr b 0)=some (.t (.ag gcs)):=fun H k h=>ldT (h.trans (by rw[hY])) h9
 have sY:∀(H:Heap) (k:Nat),A0h 9 ((k,.cells 28 [.t (.v (.string ⟨#[]⟩)),.t (.v (.slice none 0 0)),.t (.v (.int .i64 0)),.t (.v (.slice none 0 0)),.t (.v (.int .i64 0)),.t (.v (.string ⟨#[]⟩)),.t (.v (.int .i64 0)),.t (.v (.int .i64 0)),.t (.v (.slice none 0 0))])::H) (.ptr k 0) (.t (.ag gcs))=some ((k,Y)::H):=fun H k=>by
  rw[hY];exact sNew rfl h9 (by decide) H k
 refine A0a C ?_;simp -implicitDefEqProofs [lX,eG,sY];refine A0a C ?_;simp -implicitDefEqProofs [lX,eG,sY];refine A0a C ?_;simp -implicitDefEqProofs [lX,eP,sR];refine A0a C ?_;simp -implicitDefEqProofs [lX,eP,sR];refine A0c C ?_;simp -implicitDefEqProofs [lY,lR,eI,eS,eX]
end Go.Proofs.YtmplckgbeaifkaaGreatDoor
