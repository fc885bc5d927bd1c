/-
 Auxiliary facts. No statement of the program stands here.
-/
import Derived.Test.YtmplckgbeaifkaaGreatDoorVBQ33
import Derived.Test.YtmplckgbeaifkaaGreatDoorVBQ48
import Derived.Test.YtmplckgbeaifkaaGreatDoorVBQ50
import Derived.Test.YtmplckgbeaifkaaGreatDoorVBQ49
import Derived.Test.YtmplckgbeaifkaaGreatDoorVBQ47
namespace Go.Abs
set_option linter.unusedSimpArgs false
set_option linter.unusedVariables false
open Go
section
variable {P : Program} {G : A0u} {B : Nat}
theorem E7e {α:Type} {e:Enc α} {ty b c:Nat} {H:Heap} {l:List α} (h:A0p e ty H c l) (hc:c≠b):frzP H [b] (rowP e c l)=rowP e c l:=by
 unfold frzP;rw[h.toT]
 cases l with
 | nil=>rfl
 | cons x r=>simp[D8h,hc]
theorem E7f {α:Type} {e:Enc α} {ty:Nat} {H:Heap} {F:List Nat} (l:List α):B6q H F (A1b e ty l)=A1b e ty l:=by
 simp only[B6q,A1b,List.map_map];congr 1
end
end Go.Abs
namespace Go.Proofs.YtmplckgbeaifkaaGreatDoor
set_option linter.unusedSimpArgs false
set_option linter.unusedVariables false
open Go Go.Abs
variable {q : Gl}
def colT (l:List Dv) (i:Nat):List Pr:=(l.take i).flatMap colP
theorem E7g {l:List Dv} {i:Nat} {x:Dv} (h:l[i]?=some x):colT l (i+1)=colT l i++colP x:=by
 unfold colT;rw[List.take_add_one,h,List.flatMap_append];simp
theorem D7b (l:List Dv) (i:Nat):(colT l i).length<=2*nodK (l.take i):=by
 unfold colT;generalize l.take i=m
 induction m with
 | nil=>simp[nodK]
 | cons d r ih=>
  have:=B8q d;rw[List.flatMap_cons,List.length_append,nodK];omega
theorem F1r (l:List Dv) (p:Pr):decide (l.countP (holds · p)<l.length) = !l.all fun d=>holds d p:=by
 rw[Bool.eq_iff_iff];simp only[decide_eq_true_eq,Bool.not_eq_true',List.all_eq_false];constructor
 ·intro h;apply Classical.byContradiction;intro hn
  have:l.countP (holds · p)=l.length:=List.countP_eq_length.2 fun d hd=>by
   apply Classical.byContradiction;intro hh;exact hn ⟨d,hd,hh⟩
  omega
 ·rintro⟨d,hd,hh⟩;have h1:l.countP (holds · p)<=l.length:=List.countP_le_length;have h2:l.countP (holds · p)≠l.length:=fun e=>hh (List.countP_eq_length.1 e d hd);omega
def SDaa (t:T) (a:Nat×T):A0b:=⟨[(3,.t a.2),(4,.t (iv (a.1:Int))),(0,.t t)],[],0,58⟩
def SDbb (t ta:T) (a:Nat×List Pr):A0b:=⟨[(6,.t (iv (a.1:Int))),(5,.row 0 0 a.2.length 4),(3,.t ta),(0,.t t)],[]++[(0,A1b ePr 59 a.2)],1,58⟩
def SDcc (t ta:T) (i:Nat) (out:List Pr) (a:Nat×Nat):A0b:=⟨[(8,.t (iv (a.1:Int))),(7,.t (iv (a.2:Int))),(6,.t (iv (i:Int))),(5,.row 0 0 out.length 4),(3,.t ta),(0,.t t)],[(0,A1b ePr 59 out)],1,58⟩
set_option maxHeartbeats 1000000 in
theorem E0y {t:T} {l:List Dv} (ht:IsK t l) (hs:SmK l):A0w Tryz.prog (G q) 102 [t] (· = slT ePr (disc l)):=by
 have C:Ctx Tryz.prog (G q) _:=(A0y.cons (F8j (q:=q)) (.cons (E5z (q:=q)) .nil)).ctx mixed;have l1:=ht.len;have hl:=hs.len;refine B3b.call rfl ?_;unfold A7b
 obtain⟨D,hD⟩:∃D,D=disc l:=⟨_,rfl⟩
 rw[<-hD]
 obtain⟨t0,ht0⟩:∃t0:T,t0=slT ePr []:=⟨_,rfl⟩
 have is0:IsS ePr t0 []:=by rw[ht0];exact .inr rfl
 refine A0a C ?_;simp -implicitDefEqProofs;refine A0a C ?_;simp -implicitDefEqProofs [E5s];refine A0o (α:=Unit) (fun _=>⟨[(3,.t (addT t0 [] (colT l l.length))),(0,.t t)],[],0,58⟩) (fun _=>True) (fun _=>rfl) ?_ ?_
 ·refine A0a C ?_;simp -implicitDefEqProofs;refine A0f ?_;refine A0k (SDaa t) (fun a=>l.length-a.1) (fun a=>a.1<=l.length/\a.2=addT t0 [] (colT l a.1)) (0,t0) (fun _=>rfl) ⟨Nat.zero_le _,by simp[colT,addT]⟩ ?_ rfl ?_
  ·unfold SDaa;rw[ht0];refine E9y (e:=ePr) (ty:=59) (b:=0) (l:=[]) (z:=4) rfl rfl rfl (fun x hx=>?_);simp only[List.mem_cons,List.not_mem_nil,or_false]at hx;rcases hx with rfl | rfl
   ·exact⟨_,rfl,rfl⟩
   ·exact⟨_,rfl,rfl⟩
  rintro⟨i,u⟩ ⟨hi,hu⟩;simp only at hi hu;by_cases hlt:i<l.length
  ·obtain⟨x,hx⟩:∃x,l[i]?=some x:=⟨_,List.getElem?_eq_getElem hlt⟩
   obtain⟨pp,cx,i1,ld,hcx⟩:=A5d ht hx;have hsp:=C4d hx;have hcl:=D7b l i;have hil:=A8q (colT l i) [];have e1:IntKind.i64.wrap ((i:Int)+1)=((i+1:Nat):Int):=A0h (by omega) (by omega);have hsm:nodK l<=10000:=hs;have eA:=D6u (t:=u) (l:=A6b [] (colT l i)) (by rw[hu];exact C6m is0 _) hcx (by simp only[List.length_nil]at hil;omega)
   have e2:addT u (A6b [] (colT l i)) (colP x)=addT t0 [] (colT l (i+1)):=by
    rw[hu,C0w,E7g hx]
   rw[e2]at eA;refine A0c C ?_;simp -implicitDefEqProofs [SDaa,l1,hlt,i1,ld,eA,e1];exact Abs.Next.mk (i+1,addT t0 [] (colT l (i+1))) ⟨⟨by show i+1<=_;omega,rfl⟩,by show l.length-(i+1)<l.length-i;omega⟩ (A0d (by simp -implicitDefEqProofs [SDaa]))
  ·have e:i=l.length:=by omega
   refine A0c C ?_;simp -implicitDefEqProofs [SDaa,l1,hlt];exact Abs.Next.mk () trivial (A0d (by simp -implicitDefEqProofs [hu,e]))
 rintro _ -
 obtain⟨ta,hta⟩:∃ta,ta=addT t0 [] (colT l l.length):=⟨_,rfl⟩
 obtain⟨U,hU⟩:∃U,U=uP (l.flatMap colP):=⟨_,rfl⟩
 have isU:IsS ePr ta U:=by
  have:=C6m is0 (colT l l.length);rw[<-hta]at this;rw[hU]
  have e:A6b [] (colT l l.length)=uP (l.flatMap colP):=by
   unfold colT;rw[List.take_length];rfl
  rw[<-e];exact this
 have hUl:U.length<=20000:=by
  have h1:=A8q (l.flatMap colP) [];have h2:=D7b l l.length;unfold colT at h2;rw[List.take_length]at h2;have hsm:nodK l<=10000:=hs
  have e:A6b [] (l.flatMap colP)=U:=by rw[hU];rfl
  rw[e]at h1;simp only[List.length_nil]at h1;omega
 have hDf:D=U.filter fun p=>!l.all fun d=>holds d p:=by rw[hD,hU];rfl
 have hDl:D.length<=20000:=by rw[hDf];exact Nat.le_trans (List.length_filter_le _ _) hUl
 have lU:=isU.len;rw[<-hta];refine A0a C ?_;simp -implicitDefEqProofs [E5s];refine A0o (α:=Unit) (fun _=>⟨[(5,.row 0 0 D.length 4)],[]++[(0,A1b ePr 59 D)],1,58⟩) (fun _=>True) (fun _=>rfl) ?_ ?_
 ·refine A0a C ?_;simp -implicitDefEqProofs;refine A0f ?_;refine A0k (SDbb t ta) (fun a=>U.length-a.1) (fun a=>a.1<=U.length/\a.2++(U.drop a.1).filter (fun p=>!l.all fun d=>holds d p)=D) (0,[]) (fun _=>rfl) ⟨Nat.zero_le _,by simp[hDf]⟩ ?_ rfl ?_
  ·refine A9k (e:=ePr) (l:=[]) (R:=[]) (k:=0) rfl (by omega) (by omega) (fun q hq=>by cases hq) ?_;simp -implicitDefEqProofs [ren,under]
  rintro⟨i,out⟩ ⟨hi,heq⟩;simp only at hi heq
  have hol:out.length<=20000:=by
   have:=congrArg List.length heq;rw[List.length_append]at this;omega
  by_cases hlt:i<U.length
  ·obtain⟨p,hp⟩:∃p,U[i]?=some p:=⟨_,List.getElem?_eq_getElem hlt⟩
   obtain⟨pp,i1,ldp⟩:=E5p isU hp;have e1:IntKind.i64.wrap ((i:Int)+1)=((i+1:Nat):Int):=A0h (by omega) (by omega);rw[List.drop_eq_getElem_cons hlt,(List.getElem?_eq_some_iff.1 hp).2,List.filter_cons,<-F1r]at heq
   obtain⟨c,hc⟩:∃c,c=l.countP (holds · p):=⟨_,rfl⟩
   rw[<-hc]at heq;refine A0a C ?_;simp -implicitDefEqProofs [SDbb,lU,hlt];refine A3m ?_;refine A0f ?_;refine A0a C ?_;simp -implicitDefEqProofs;refine A0o (α:=Unit) (fun _=>⟨[(7,.t (iv (c:Int))),(6,.t (iv (i:Int))),(5,.row 0 0 out.length 4),(3,.t ta),(0,.t t)],[(0,A1b ePr 59 out)],1,58⟩) (fun _=>True) (fun _=>rfl) ?_ ?_
   ·refine A0a C ?_;simp -implicitDefEqProofs;refine A0f ?_;refine A0k (SDcc t ta i out) (fun a=>l.length-a.1) (fun a=>a.1<=l.length/\a.2=(l.take a.1).countP (holds · p)) (0,0) (fun _=>rfl) ⟨Nat.zero_le _,by simp⟩ ?_ rfl ?_
    ·refine A0d ?_;simp -implicitDefEqProofs [SDcc]
    rintro⟨j,n⟩ ⟨hj,hn⟩;simp only at hj hn
    have hnl:n<=l.length:=by
     rw[hn];exact Nat.le_trans List.countP_le_length (by rw[List.length_take];omega)
    refine A0c C ?_;by_cases hjt:j<l.length
    ·obtain⟨x,hx⟩:∃x,l[j]?=some x:=⟨_,List.getElem?_eq_getElem hjt⟩
     obtain⟨px,cx,i2,ldx,hcx⟩:=A5d ht hx;have hxn:=hs.kid (List.mem_of_getElem? hx);have eH:=C4a p hcx (by omega);have e2:IntKind.i64.wrap ((j:Int)+1)=((j+1:Nat):Int):=A0h (by omega) (by omega);have e3:IntKind.i64.wrap ((n:Int)+1)=((n+1:Nat):Int):=A0h (by omega) (by omega)
     have hnext:(l.take (j+1)).countP (holds · p)=n+if holds x p then 1 else 0:=by
      rw[List.take_add_one,hx,List.countP_append,<-hn];simp[List.countP_cons]
     cases hh:holds x p with
     | true=>
      rw[hh,if_pos rfl]at hnext;rw[hh]at eH;simp -implicitDefEqProofs [SDcc,l1,hjt,i2,ldx,i1,ldp,eH,e2,e3];exact Abs.Next.mk (j+1,n+1) ⟨⟨by show j+1<=_;omega,hnext.symm⟩,by show l.length-(j+1)<l.length-j;omega⟩ (A0d (by simp -implicitDefEqProofs [SDcc]))
     | false=>
      rw[hh,if_neg (by simp)]at hnext;rw[hh]at eH;simp -implicitDefEqProofs [SDcc,l1,hjt,i2,ldx,i1,ldp,eH,e2];exact Abs.Next.mk (j+1,n) ⟨⟨by show j+1<=_;omega,by rw[hnext];rfl⟩,by show l.length-(j+1)<l.length-j;omega⟩ (A0d (by simp -implicitDefEqProofs [SDcc]))
    ·have e:n=c:=by rw[hn,hc,List.take_of_length_le (by omega)]
     simp -implicitDefEqProofs [SDcc,l1,hjt];exact Abs.Next.mk () trivial (A0d (by simp -implicitDefEqProofs [e]))
   ·rintro _ -;have ap:=E5t (nx:=1) (H:=[(0,A1b ePr 59 out)]) (b:=0) (l:=out) p out.length 2 3 rfl rfl rfl rfl (by omega) (by omega);refine A0c C ?_;by_cases hcl:c<l.length
    ·rw[if_pos (by simpa using hcl)]at heq;simp -implicitDefEqProofs [l1,hcl,i1,ldp,C2a,ap];refine⟨rfl,?_⟩;refine A0c C ?_;simp -implicitDefEqProofs [e1];refine Abs.Next.mk (i+1,out++[p]) ⟨⟨by show i+1<=_;omega,by simpa using heq⟩,by show U.length-(i+1)<U.length-i;omega⟩ ?_;refine A9k (e:=ePr) (l:=out++[p]) (R:=[]) (k:=2) rfl (by omega) (by omega) (fun q hq=>by cases hq) ?_;simp -implicitDefEqProofs [ren,under]
    ·rw[if_neg (by simpa using hcl)]at heq;simp -implicitDefEqProofs [l1,hcl];refine⟨rfl,?_⟩;refine A0c C ?_;simp -implicitDefEqProofs [e1];exact Abs.Next.mk (i+1,out) ⟨⟨by show i+1<=_;omega,heq⟩,by show U.length-(i+1)<U.length-i;omega⟩ (A0d (by simp -implicitDefEqProofs [SDbb]))
  ·have e:out=D:=by
    rw[<-heq,List.drop_of_length_le (by omega)];simp
   refine A0c C ?_;simp -implicitDefEqProofs [SDbb,lU,hlt];refine Abs.Next.mk () trivial ?_;rw[e];exact A0d (by simp -implicitDefEqProofs)
 ·rintro _ -;have tt:=A7r (e:=ePr) (ty:=59) (b:=0) (l:=D) (H:=[(0,A1b ePr 59 D)]) rfl;have tt:toT [(0,A1b ePr 59 D)] (.row 0 0 D.length 4)=some (slT ePr D,[0]):=tt;refine A0c C ?_;simp -implicitDefEqProofs [tt,-toT]
noncomputable def F8x:List T->Option T:=g1 tK fun l=>open Classical in if SmK l then some (slT ePr (disc l))else none
theorem hRDsc:GOK Tryz.prog (G q) 102 F8x:=A4c fun a l r ha hr=>by
 split at hr
 ·rename_i hc;injection hr with hr;subst hr;exact E0y ha hc
 ·cases hr
theorem F1s {t:T} {l:List Dv} (ht:IsK t l) (hs:SmK l):F8x [t]=some (slT ePr (disc l)):=by
 show g1 _ _ _=_;rw[A5b (τ:=tK) ht,if_pos hs]
def SHw (t:T) (p:Pr) (j:Nat):A0b:=⟨[(5,.t (iv (j:Int))),(3,.ptr 0 0),(0,.t t)],[(0,pRow p)],1,18⟩
set_option maxHeartbeats 1000000 in
theorem E0z {t:T} {l:List Pr} (p:Pr) (h:IsS ePr t l) (hl:l.length<=100000000):A0w Tryz.prog (G q) 103 [t,.ag (ePr.enc p)] (· = bv (decide (p∈l))):=by
 have cd:=A5f p;have e1:=h.len;have ld:A0g true 4 [(0,pRow p)] (.ptr 0 0)=some (.t (.ag (ePr.enc p))):=rfl
 obtain⟨R,hR⟩:∃R,R=decide (p∈l):=⟨_,rfl⟩
 rw[<-hR];refine E6a.call rfl ?_;unfold D0k;refine A0a A0x ?_;simp -implicitDefEqProofs [cd];refine A0o (α:=Unit) (fun _=>⟨[],[],0,18⟩) (fun _=>R=false) (fun _=>rfl) ?_ ?_
 ·refine A0a A0x ?_;simp -implicitDefEqProofs;refine A0f ?_;refine A0k (SHw t p) (fun j=>l.length-j) (fun j=>j<=l.length/\R=decide (p∈l.drop j)) 0 (fun _=>rfl) ⟨Nat.zero_le _,hR⟩ ?_ rfl ?_
  ·refine A0d ?_;simp -implicitDefEqProofs [SHw]
  rintro j ⟨hj,heq⟩;by_cases hlt:j<l.length
  ·obtain⟨x,hx⟩:∃x,l[j]?=some x:=⟨_,List.getElem?_eq_getElem hlt⟩
   have i1:A1o 4 (.t t) (.t (iv (j:Int)))=_:=h.iaddr hx .i64
   have ldx:∀H:Heap,A0g true 4 H (.t (.pt (ePr.enc x++rest ePr l j)))=some (.t (.ag (ePr.enc x))):=fun _=>by
    simp only[A0g,if_true];rw[if_pos (by simp[ePr])];rfl
   have eq:=C2b x p;have w1:IntKind.i64.wrap ((j:Int)+1)=((j+1:Nat):Int):=A0h (by omega) (by omega);rw[List.drop_eq_getElem_cons hlt,(List.getElem?_eq_some_iff.1 hx).2]at heq;by_cases hpx:x=p
   ·have hR:R=true:=by rw[heq,hpx];simp
    rw[decide_eq_true hpx]at eq;refine A0c A0x ?_;simp -implicitDefEqProofs [SHw,e1,hlt,ld,i1,ldx,eq,hR]
   ·have heq:R=decide (p∈l.drop (j+1)):=by rw[heq];simp[Ne.symm hpx]
    rw[decide_eq_false hpx]at eq;refine A0c A0x ?_;simp -implicitDefEqProofs [SHw,e1,hlt,ld,i1,ldx,eq,w1];refine Abs.Next.mk (j+1) ⟨⟨by omega,heq⟩,by omega⟩ ?_;exact A0d (by simp -implicitDefEqProofs)
  ·have hR:R=false:=by rw[heq,List.drop_of_length_le (by omega)];simp
   refine A0c A0x ?_;simp -implicitDefEqProofs [SHw,e1,hlt];refine Abs.Next.mk () hR ?_;exact A2x (by omega) (fun q hq=>by cases hq)
 rintro _ hRG;refine A0c A0x ?_;simp -implicitDefEqProofs [hRG]
theorem F8y:GOK Tryz.prog (G q) 103 F5r:=A4e fun a b l p r ha hb hr=>by
 have hb:b = .ag (ePr.enc p):=hb;subst hb;split at hr
 ·rename_i h;injection hr with hr;subst hr;exact E0z p ha h
 ·cases hr
def SKr (td tl tq:T) (a:Nat×List Dc):A0b:=⟨[(9,.t (iv (a.1:Int))),(8,rowP ePr 0 (a.2.map Dc.p)),(7,.t (A1g eDc a.2)),(6,.t tq),(1,.t tl),(0,.t td)],rowH ePr 59 0 (a.2.map Dc.p),1,67⟩
theorem E7h {α:Type} {e:Enc α} {ty b n:Nat} {H:Heap} {l:List α} {F:List Nat} (h:Abs.look H b=some (A1b e ty l)) (hn:n=l.length) (hb:b∈F):frzP H F (.row b 0 n e.z) = .t (slT e l):=by
 subst hn;unfold frzP;rw[A7r h];simp[hb]
theorem F1t {α:Type} (e:Enc α) {l:List α} (h:l≠[]):A1g e l=slT e l:=by
 cases l with
 | nil=>exact absurd rfl h
 | cons _ _=>rfl
set_option maxHeartbeats 4000000 in
theorem E7i {td tl:T} {l:List Dv} {ds:List Dc} (hl:IsK tl l) (hd:IsS eDc td ds) (hs:SmK l) (hds:ds.length<=200000) :
  A0w Tryz.prog (G q) 55 [td,tl] (· = .tu [A1g eDc (keep l [] ds),iv (B1n l ds:Nat)]):=by
 have l1:=hd.len;have eD:=F1s hl hs;have hdl:=D4a hs;have C:Ctx Tryz.prog (G q) _:=(A0y.cons (hRDsc (q:=q)) (.cons (F8y (q:=q)) (.cons (F8m (q:=q)) .nil))).ctx mixed
 obtain⟨tq,htq⟩:∃tq,tq=slT ePr (disc l):=⟨_,rfl⟩
 have hq:IsS ePr tq (disc l):=by rw[htq];exact IsS.mk _
 rw[<-htq]at eD
 obtain⟨R,hR⟩:∃R,R=keep l [] ds:=⟨_,rfl⟩
 have hRl:R.length<=ds.length:=by rw[hR];exact A8t l ds
 unfold B1n;rw[<-hR];refine E0f.call rfl ?_;unfold C4b;refine A0a C ?_;simp -implicitDefEqProofs;refine A0a C ?_;simp -implicitDefEqProofs [eD];refine A0a C ?_;simp -implicitDefEqProofs;refine A0a C ?_;simp -implicitDefEqProofs;refine A0o (α:=Unit) (fun _=>⟨[(7,.t (A1g eDc R)),(0,.t td)],[],0,67⟩) (fun _=>True) (fun _=>rfl) ?_ ?_
 ·refine A0a C ?_;simp -implicitDefEqProofs;refine A0f ?_;refine A0k (SKr td tl tq) (fun a=>ds.length-a.1) (fun a=>a.1<=ds.length/\a.2.length<=a.1/\keep l a.2 (ds.drop a.1)=R) (0,[]) (fun _=>rfl) ⟨Nat.zero_le _,Nat.le_refl _,hR.symm⟩ ?_ rfl ?_
  ·refine A2x (by omega) ?_;simp -implicitDefEqProofs [SKr,rowP,under];rfl
  rintro⟨j,out⟩ ⟨hj,hol,heq⟩;simp only at hj hol heq;by_cases hlt:j<ds.length
  ·obtain⟨d,hdx⟩:∃d,ds[j]?=some d:=⟨_,List.getElem?_eq_getElem hlt⟩
   obtain⟨pp,i1,ld5,ld4,_⟩:=B7u hd hdx;simp only[List.drop_zero]at ld4;have e1:IntKind.i64.wrap ((j:Int)+1)=((j+1:Nat):Int):=A0h (by omega) (by omega);have eH:=C6u d.p hq (by omega);rw[List.drop_eq_getElem_cons hlt,(List.getElem?_eq_some_iff.1 hdx).2,keep]at heq
   obtain⟨us,hus⟩:∃us,us=out.map Dc.p:=⟨_,rfl⟩
   have hul:us.length=out.length:=by rw[hus];simp
   unfold SKr;simp only;rw[<-hus]
   obtain⟨H0,hH0⟩:∃H0,H0=rowH ePr 59 0 us:=⟨_,rfl⟩
   have r0:A0p ePr 59 H0 0 us:=by rw[hH0];exact A0p.head' _ _ _ _
   rw[<-hH0];have hto:=IsS.tree eDc out
   obtain⟨tt,htt⟩:∃tt,tt=A1g eDc out:=⟨_,rfl⟩
   rw[<-htt]at hto ⊢;have ts:A9a 61 5 [.int .i64 0,.string ⟨#[]⟩,.int .i64 0,.int .i64 0,.bool false] 1 [(0,.t (.ag (eDc.enc d)))]=some (.t (.sl 1 (eDc.enc d))):=rfl;have bs0:∀m,A3l 61 5 [.int .i64 0,.string ⟨#[]⟩,.int .i64 0,.int .i64 0,.bool false] 0 [] m=some (.row m 0 0 5,.cells 61 []):=fun _=>rfl;have ap1:=B4s (e:=eDc) (ty:=61) (b:=1) (l:=[]) (by':=48) (nx:=2) (m:=out) (src:=.t tt) (H:=(1,.cells 61 [])::H0) (by rw[look_cons,if_pos rfl];rfl) (A7m hto) (by simp;omega) (by simp;omega)
   obtain⟨H1,hH1⟩:∃H1,H1=(2,A1b eDc 61 out)::rem ((1,Row.cells 61 [])::H0) 1:=⟨_,rfl⟩
   have ap1:appM 61 5 48 ((1,.cells 61 [])::H0) 2 (.row 1 0 0 5) (.t tt)=some (.row 2 0 out.length 5,H1,3):=by rw[hH1];exact ap1
   have k1:Abs.look H1 2=some (A1b eDc 61 out):=by rw[hH1,look_cons,if_pos rfl]
   have ap2:=B4s (e:=eDc) (ty:=61) (b:=2) (l:=out) (by':=48) (nx:=3) (m:=[d]) (src:=.t (.sl 1 (eDc.enc d))) (H:=H1) k1 (A7m (t:=.sl 1 (eDc.enc d)) (.inr rfl)) (by simp;omega) (by simp;omega)
   obtain⟨H2,hH2⟩:∃H2,H2=(3,A1b eDc 61 (out++[d]))::rem H1 2:=⟨_,rfl⟩
   have ap2:appM 61 5 48 H1 3 (.row 2 0 out.length 5) (.t (.sl 1 (eDc.enc d)))=some (.row 3 0 (out++[d]).length 5,H2,4):=by rw[hH2];exact ap2
   have k2:Abs.look H2 3=some (A1b eDc 61 (out++[d])):=by rw[hH2,look_cons,if_pos rfl]
   have k0:Abs.look H2 0=Abs.look H0 0:=by rw[hH2,look_cons,if_neg (by omega),A2i,if_neg (by omega),hH1,look_cons,if_neg (by omega),A2i,if_neg (by omega),look_cons,if_neg (by omega)]
   refine A3m ?_;refine A0c C ?_;simp -implicitDefEqProofs [l1,hlt];refine⟨rfl,?_⟩;refine A0o (α:=List Dc) (fun o=>⟨[(9,.t (iv (j:Int))),(8,rowP ePr 0 (o.map Dc.p)),(7,.t (A1g eDc o)),(6,.t tq),(1,.t tl),(0,.t td)],rowH ePr 59 0 (o.map Dc.p),1,67⟩) (fun o=>o.length<=j+1/\keep l o (ds.drop (j+1))=R) (fun _=>rfl) ?_ ?_
   ·refine A0f ?_;refine A0a C ?_;simp -implicitDefEqProofs [i1,ld5,ts,bs0,ap1,ap2]
    have hne:out++[d]≠[]:=by simp
    obtain⟨tm,htm⟩:∃tm,tm=A1g eDc (out++[d]):=⟨_,rfl⟩
    have htmS:IsS eDc tm (out++[d]):=by rw[htm];exact IsS.tree _ _
    refine MC.sub (s':=⟨[(10,.t tm),(9,.t (iv (j:Int))),(8,rowP ePr 0 us),(7,.t tt),(6,.t tq),(1,.t tl),(0,.t td)],H0,1,67⟩) ?_ rfl ?_
    ·refine C6t [3] (by omega) (fun z hz=>?_) fun z hz=>?_
     ·rw[hH0]at hz;obtain⟨h1,rfl⟩:=A2e hz;exact⟨by simp,⟨_,by rw[k0];exact r0.resolve_left h1,E7f _⟩,by show 0<1;omega,A1k _ _ _ _⟩
     ·have r0':A0p ePr 59 H2 0 us:=r0.imp id fun h=>by rw[k0];exact h
      have f8:frzP H2 [3] (rowP ePr 0 us)=rowP ePr 0 us:=E7e (b:=3) r0' (by omega)
      have f10:frzP H2 [3] (.row 3 0 (out++[d]).length 5) = .t tm:=by
       rw[htm,F1t eDc hne];exact E7h (e:=eDc) k2 rfl (by simp)
      simp only[List.mem_cons,List.not_mem_nil,or_false]at hz;rcases hz with rfl | rfl | rfl | rfl | rfl | rfl | rfl
      ·exact⟨⟨_,rfl,by simpa using f10⟩,rfl⟩
      ·exact⟨⟨_,rfl,rfl⟩,rfl⟩
      ·exact⟨⟨_,rfl,f8⟩,A1j _ _ _ _ (by omega)⟩
      all_goals exact⟨⟨_,rfl,rfl⟩,rfl⟩
    have tU:=r0.toT;have eU:=C6u d.p (IsS.tree ePr us) (by omega);have eR:=D6v hl htmS hs (by simp;omega);have lr:=(IsS.mk (e:=eInt) (natI (remD l (out++[d])))).len;rw[natI_len]at lr
    have hmem:decide (d.p∈us)=out.any fun y=>decide (y.p=d.p):=by
     rw[Bool.eq_iff_iff,hus];simp[List.any_eq_true]
    rw[hmem]at eU
    have stay:∀(env:List (Nat×PV)),Abs.look env 9=some (.t (iv (j:Int)))->Abs.look env 8=some (rowP ePr 0 us)->Abs.look env 7=some (.t tt)->Abs.look env 6=some (.t tq)->Abs.look env 1=some (.t tl)->Abs.look env 0=some (.t td) ->
      Abs.Sub Tryz.prog (G q) 0 ⟨env,H0,1,67⟩ ⟨[(9,.t (iv (j:Int))),(8,rowP ePr 0 (out.map Dc.p)),(7,.t (A1g eDc out)),(6,.t tq),(1,.t tl),(0,.t td)],rowH ePr 59 0 (out.map Dc.p),1,67⟩:=fun env h9 h8 h7 h6 h1 h0=>by
     rw[<-hus,<-htt,<-hH0];refine A0d fun z hz=>?_;simp only[List.mem_cons,List.not_mem_nil,or_false]at hz;rcases hz with rfl | rfl | rfl | rfl | rfl | rfl
     ·exact h9
     ·exact h8
     ·exact h7
     ·exact h6
     ·exact h1
     ·exact h0
    by_cases hin:d.p∈disc l
    rotate_left
    ·have hok:okD l out d=false:=by simp[okD,hin]
     rw[if_neg (by simp[hok])]at heq;rw[decide_eq_false hin]at eH;refine A0c C ?_;simp -implicitDefEqProofs [i1,ld4,eH];exact Abs.Next.mk out ⟨by omega,heq⟩ (stay _ rfl rfl rfl rfl rfl rfl)
    rw[decide_eq_true hin]at eH
    cases hany:out.any fun y=>decide (y.p=d.p)with
    | true=>
     have hok:okD l out d=false:=by unfold okD;rw[hany];simp
     rw[if_neg (by simp[hok])]at heq;rw[hany]at eU;refine A0c C ?_;simp -implicitDefEqProofs [i1,ld4,eH,tU,eU];exact Abs.Next.mk out ⟨by omega,heq⟩ (stay _ rfl rfl rfl rfl rfl rfl)
    | false=>
     rw[hany]at eU
     have hok:okD l out d = !(remD l (out++[d])).isEmpty:=by simp only[okD,decide_eq_true hin,hany,Bool.not_false,Bool.true_and]
     cases hem:(remD l (out++[d])).isEmpty with
     | true=>
      rw[hem]at hok;rw[if_neg (by simp[hok])]at heq
      have hr0:(remD l (out++[d])).length=0:=by rw[List.isEmpty_iff.1 hem];rfl
      rw[hr0]at lr;refine A0c C ?_;simp -implicitDefEqProofs [i1,ld4,eH,tU,eU,eR,lr];exact Abs.Next.mk out ⟨by omega,heq⟩ (stay _ rfl rfl rfl rfl rfl rfl)
     | false=>
      rw[hem]at hok;rw[if_pos (by simp[hok])]at heq
      have hr0:0<(remD l (out++[d])).length:=by
       cases h:remD l (out++[d])with
       | nil=>rw[h]at hem;cases hem
       | cons _ _=>simp
      obtain⟨b',H',nx',ap,ra,hne',hle,hold,hge⟩:=A9g (e:=ePr) (ty:=59) (by':=40) (nx:=2) (H:=(1,pRow d.p)::H0) (b:=0) (l:=us) (m:=[d.p]) (r0.cons (by omega)) (A9d (e:=ePr) (ty:=59) (b:=1) d.p rfl) (by simp;omega) (by simp;omega);have ap:appM 59 4 40 ((1,pRow d.p)::H0) 2 (rowP ePr 0 us) (.row 1 0 1 4)=some (rowP ePr b' (us++[d.p]),H',nx'):=ap;have bs1:=C2a 1 d.p;have bs1:A3l 59 4 [.int .i64 0,.string ⟨#[]⟩,.int .i64 0,.int .i64 0] 1 [(0,.t (.ag (ePr.enc d.p)))] 1=some (.row 1 0 1 4,pRow d.p):=bs1;refine A0c C ?_;simp -implicitDefEqProofs [i1,ld4,eH,tU,eU,eR,lr,hr0,bs1,ap];refine Abs.Next.mk (out++[d]) ⟨by simp;omega,heq⟩ ?_
      have hm:(out++[d]).map Dc.p=us++[d.p]:=by rw[hus];simp
      rw[hm,<-htm];refine A9e (k:=b') ra (by omega) (by omega) ?_;simp -implicitDefEqProofs [A2b,A1j,ren,under]
   ·rintro o ⟨ho,hk⟩;refine A0c C ?_;simp -implicitDefEqProofs [e1];refine Abs.Next.mk (j+1,o) ⟨⟨by show j+1<=_;omega,ho,hk⟩,by show ds.length-(j+1)<ds.length-j;omega⟩ ?_;exact A0d (by simp -implicitDefEqProofs [SKr])
  ·rw[List.drop_of_length_le (by omega),keep]at heq;subst heq;refine A0c C ?_;simp -implicitDefEqProofs [SKr,l1,hlt];exact Abs.Next.mk () trivial (A2x (by omega) (by simp -implicitDefEqProofs [under]))
 rintro _ _;have lR:=(IsS.tree eDc R).len;have e1:IntKind.i64.wrap ((ds.length:Int)-(R.length:Int))=((ds.length-R.length:Nat):Int):=A0h (by omega) (by omega);refine A0c C ?_;simp -implicitDefEqProofs [l1,lR,e1]
noncomputable def gRKp:List T->Option T:=g2 (tSl eDc) tK fun ds l=>open Classical in if SmK l/\ds.length<=200000 then some (.tu [A1g eDc (keep l [] ds),iv (B1n l ds:Nat)])else none
theorem hRKp:GOK Tryz.prog (G q) 55 gRKp:=A4e fun a b ds l r ha hb hr=>by
 split at hr
 ·rename_i h;injection hr with hr;subst hr;exact E7i hb ha h.1 h.2
 ·cases hr
theorem F5u {td tl:T} {l:List Dv} {ds:List Dc} (hl:IsK tl l) (hd:IsS eDc td ds) (hs:SmK l) (hds:ds.length<=200000):gRKp [td,tl]=some (.tu [A1g eDc (keep l [] ds),iv (B1n l ds:Nat)]):=by
 show g2 _ _ _ _=_;rw[A4u (τ:=tSl eDc) (σ:=tK) hd hl,if_pos ⟨hs,hds⟩]
theorem sI3 (id:ByteArray) (tw:T) (st:Int) (td:T) (k:Int) (nm:ByteArray) (f t:Int) (tk:T) (R:Heap) {tn:T} {ds:List Dc} (hn:IsS eDc tn ds):A0t 1 ((2,iRow id tw st td k nm f t tk)::R) (.ptr 2 3) (.t tn)=some ((2,iRow id tw st tn k nm f t tk)::R):=by
 rcases hn with⟨rfl,_⟩ | rfl<;>rfl
set_option maxHeartbeats 4000000 in
theorem D0u (c:IC) {tl:T} {m:List DC} (hm:IsS eDC tl m) (hs:SmK (dvs m)) (hds:c.x.decs.length<=200000):A0w Tryz.prog (G q) 20 [.ag c.cs,tl] (· = repT c m):=by
 obtain⟨P,hP⟩:∃P,P=repT c m:=⟨_,rfl⟩
 rw[<-hP];unfold repT at hP;obtain⟨tw,td,k,nm,f,t,tk,ks,ecs,hg,hk,hw,hd,hgD⟩:=A1a c.ok
 have hro:repC c m=[sv c.x.id,tw,iv (repI c.x (dvs m)).state,A1g eDc (keep (dvs m) [] c.x.decs)]++(A9z c m).cs:=by simp[repC,ecs]
 rw[hro]at hP;rw[ecs]at hP ⊢;have htl:=hm.isK;have eA:=B8t htl hs;have eK:=F5u htl hd hs hds
 have hst:(repI c.x (dvs m)).state=if c.x.state=1 then(if(oneC m (keep (dvs m) [] c.x.decs)).isSome then 1 else 0)else c.x.state:=by
  unfold repI;simp only[B6h];split
  ·cases oneC m (keep (dvs m) [] c.x.decs)<;>rfl
  ·rfl
 rw[hst]at hP;unfold A9z at hP
 obtain⟨DN,hDN⟩:∃DN:Nat,DN=B1n (dvs m) c.x.decs:=⟨_,rfl⟩
 rw[<-hDN]at hP eK;have hkl:=A8t (dvs m) c.x.decs
 obtain⟨K,hK⟩:∃K,K=keep (dvs m) [] c.x.decs:=⟨_,rfl⟩
 rw[<-hK]at hP eK hkl;have hkt:=IsS.tree eDc K
 obtain⟨kt,hktt⟩:∃kt,kt=A1g eDc K:=⟨_,rfl⟩
 rw[<-hktt]at hP eK hkt;have eR:=D6v htl hkt hs (by omega);have hRt:=IsS.mk (e:=eInt) (natI (remD (dvs m) K));have lr:=hRt.len;rw[natI_len]at lr
 obtain⟨rt,hrt⟩:∃rt,rt=slT eInt (natI (remD (dvs m) K)):=⟨_,rfl⟩
 rw[<-hrt]at eR hRt lr;generalize c.x.id=id at *;generalize c.x.state=st at *;have C:Ctx Tryz.prog (G q) _:=(A0y.cons (F1u (q:=q)) (.cons (hRKp (q:=q)) (.cons (F8m (q:=q)) .nil))).ctx mixed;have cd:=A3c id tw st td k nm f t tk
 obtain⟨X,hX⟩:∃X,X=iRow id tw st td k nm f t tk:=⟨_,rfl⟩
 have z1:=ldI id tw st td k nm f t tk (H:=[(1,zI),(0,X)]) (b:=0) (by rw[hX];rfl);have z2:∀Y,LdI id tw st td k nm f t tk [(2,Y),(1,zI),(0,X)] 0:=fun Y=>ldI id tw st td k nm f t tk (by rw[hX];rfl);refine D0j.call rfl ?_;unfold B7j;refine A0a C ?_;simp -implicitDefEqProofs [cd];rw[show Row.cells 28 [.t (sv id),.t tw,.t (iv st),.t td,.t (iv k),.t (sv nm),.t (iv f),.t (iv t),.t tk]=X from hX.symm];rw[show Row.cells 28 [.t (.v (.string ⟨#[]⟩)),.t (.v (.slice none 0 0)),.t (.v (.int .i64 0)),.t (.v (.slice none 0 0)),.t (.v (.int .i64 0)),.t (.v (.string ⟨#[]⟩)),.t (.v (.int .i64 0)),.t (.v (.int .i64 0)),.t (.v (.slice none 0 0))]=zI from rfl]
 cases hasc:ascD (dvs m)with
 | false=>
  rw[hasc]at eA;rw[if_neg (by simp[hasc])]at hP;have s1:=sI10 id tw st td k nm f t tk [(0,X)] ⟨#[]⟩ nilS 0 nilS 0 ⟨#[]⟩ 0 0 nilS;have s1:A0t 9 [(1,zI),(0,X)] (.ptr 1 0) (.t (.ag [sv id,tw,iv st,td,iv k,sv nm,iv f,iv t,tk]))=_:=s1;have y:=ldI id tw st td k nm f t tk (H:=[(1,iRow id tw st td k nm f t tk),(0,X)]) (b:=1) rfl;refine A0a C ?_;simp -implicitDefEqProofs [eA,z1.a,s1,y.a,hP]
 | true=>
 rw[hasc]at eA;rw[if_pos hasc]at hP;refine A0a C ?_;simp -implicitDefEqProofs [eA];have s9:=sI9 id tw st td k nm f t tk [(1,zI),(0,X)] 2 [.t (.v (.string ⟨#[]⟩)),.t (.v (.slice none 0 0)),.t (.v (.int .i64 0)),.t (.v (.slice none 0 0)),.t (.v (.int .i64 0)),.t (.v (.string ⟨#[]⟩)),.t (.v (.int .i64 0)),.t (.v (.int .i64 0)),.t (.v (.slice none 0 0))] rfl;refine A0a C ?_;simp -implicitDefEqProofs [z1.a,s9];refine A0a C ?_;simp -implicitDefEqProofs [(z2 _).l3,eK];have s3:=sI3 id tw st td k nm f t tk [(1,zI),(0,X)] hkt;refine A0a C ?_;simp -implicitDefEqProofs [s3];have s4:=sI4 id tw st kt k nm f t tk [(1,zI),(0,X)] 0 ⟨#[]⟩ 0 0 nilS;have s4:A0t 5 [(2,iRow id tw st kt k nm f t tk),(1,zI),(0,X)] (.ptr 2 4) (.t (.ag (encD A2c)))=some [(2,iRow id tw st kt 0 ⟨#[]⟩ 0 0 nilS),(1,zI),(0,X)]:=s4;have bz:∀(Φ:A0v) (H:Heap) (nx:Nat),A0e Φ H nx (.build [(0,1),(1,1),(2,1),(3,1),(4,1)] [.int .i64 0,.string ⟨#[]⟩,.int .i64 0,.int .i64 0,.slice none 0 0] []) []=some (.t (.ag (encD A2c)),H,nx):=fun _ _ _=>bdZ5;refine A0a C ?_;simp -implicitDefEqProofs [bz,s4,-evalK_build]
 refine A0o (α:=Int×Int×ByteArray×Int×Int×T) (fun a=>⟨[(2,.ptr 0 0),(4,.ptr 1 0),(9,.t (iv (DN:Int))),(7,.ptr 2 0)],[(2,iRow id tw a.1 kt a.2.1 a.2.2.1 a.2.2.2.1 a.2.2.2.2.1 a.2.2.2.2.2),(1,zI),(0,X)],3,46⟩)
  (fun a=>P = .tu [.ag [sv id,tw,iv a.1,kt,iv a.2.1,sv a.2.2.1,iv a.2.2.2.1,iv a.2.2.2.2.1,a.2.2.2.2.2],iv (DN:Int),iv 0]) (fun _=>rfl) ?_ ?_
 ·have z:=z2 (iRow id tw st kt 0 ⟨#[]⟩ 0 0 nilS);by_cases h1:st=1
  ·subst h1;simp only[if_true]at hP;have u1:=sI2 id tw 1 kt 0 ⟨#[]⟩ 0 0 nilS [(1,zI),(0,X)] 0;by_cases h2:(remD (dvs m) K).length=1
   ·obtain⟨n,hn⟩:∃n,remD (dvs m) K=[n]:=List.length_eq_one_iff.1 h2;obtain⟨d,hd1,_⟩:=C5b (l:=dvs m) (ds:=K) (n:=n) (by rw[hn];simp)
    obtain⟨g,hg1⟩:∃g,m[n]?=some g:=by
     rw[List.getElem?_map]at hd1
     cases e:m[n]? with
     | none=>rw[e]at hd1;cases hd1
     | some g=>exact⟨g,rfl⟩
    have ho:oneC m K=some g:=by unfold oneC;rw[hn];exact hg1
    rw[ho]at hP;obtain⟨p2,i2,g2⟩:=E7s hm hg1
    have hR0:(natI (remD (dvs m) K))[0]?=some (n:Int):=by rw[hn];rfl
    have i0:A1o 1 (.t rt) (.t (iv ((0:Nat):Int)))=_:=hRt.iaddr hR0 .i64;have i0:A1o 1 (.t rt) (.t (.v (.int .i64 0)))=_:=i0
    obtain⟨k',nm',f',t',tk',ks',egd,_⟩:∃k' nm' f' t' tk' ks',g.cs=[iv k',sv nm',iv f',iv t',tk']/\g.d = .mk k' nm' f' t' ks':=by
     cases hgd:g.d with
     | mk k' nm' f' t' ks'=>
      have:=g.ok;rw[hgd]at this;obtain⟨tk',e,_⟩:=this.parts;exact⟨k',nm',f',t',tk',ks',e,rfl⟩
    rw[egd]at g2;simp only[Option.isSome_some,if_true,Option.getD_some]at hP;rw[egd]at hP;have u4:=sI4 id tw 1 kt 0 ⟨#[]⟩ 0 0 nilS [(1,zI),(0,X)] k' nm' f' t' tk';rw[h2]at lr;have lr:A7k (.t rt)=some (.t (.v (.int .i64 1))):=lr;have li:∀H:Heap,A0g false 1 H (.t (.pt (eInt.enc (n:Int)++rest eInt (natI (remD (dvs m) K)) 0)))=some (.t (iv (n:Int))):=fun _=>rfl;refine A0c C ?_;simp -implicitDefEqProofs [z.l2,u4,eR,lr,i0,li,i2,g2];refine Abs.Next.mk (α:=Int×Int×ByteArray×Int×Int×T) (1,k',nm',f',t',tk') hP ?_;exact A0d (by simp -implicitDefEqProofs)
   ·have ho:oneC m K=none:=by
     unfold oneC;split
     ·rename_i n e;rw[e]at h2;exact absurd rfl h2
     ·rfl
    rw[ho]at hP
    have hb:(((remD (dvs m) K).length:Int)==1)=false:=by simpa using (by omega:¬((remD (dvs m) K).length:Int)=1)
    generalize (remD (dvs m) K).length=rl at *;refine A0c C ?_;simp -implicitDefEqProofs [z.l2,u1,eR,lr,hb];refine Abs.Next.mk (α:=Int×Int×ByteArray×Int×Int×T) (0,0,⟨#[]⟩,0,0,nilS) hP ?_;exact A0d (by simp -implicitDefEqProofs)
  ·rw[if_neg h1,if_neg h1]at hP
   have hb:(st==1)=false:=by simpa using h1
   refine A0c C ?_;simp -implicitDefEqProofs [z.l2,h1,hb];refine Abs.Next.mk (α:=Int×Int×ByteArray×Int×Int×T) (st,0,⟨#[]⟩,0,0,nilS) hP ?_;exact A0d (by simp -implicitDefEqProofs)
 rintro⟨st',k',nm',f',t',tk'⟩ hP;simp only at hP;have w:=ldI id tw st' kt k' nm' f' t' tk' (H:=[(2,iRow id tw st' kt k' nm' f' t' tk'),(1,zI),(0,X)]) (b:=2) rfl;have s1:=sI1 id tw st' kt k' nm' f' t' tk' [(0,X)] (iRow id tw st' kt k' nm' f' t' tk') ⟨#[]⟩ nilS 0 nilS 0 ⟨#[]⟩ 0 0 nilS;have s1:A0t 9 [(2,iRow id tw st' kt k' nm' f' t' tk'),(1,zI),(0,X)] (.ptr 1 0) (.t (.ag [sv id,tw,iv st',kt,iv k',sv nm',iv f',iv t',tk']))=_:=s1;have y:=ldI id tw st' kt k' nm' f' t' tk' (H:=[(2,iRow id tw st' kt k' nm' f' t' tk'),(1,iRow id tw st' kt k' nm' f' t' tk'),(0,X)]) (b:=1) rfl;refine A0c C ?_;simp -implicitDefEqProofs [w.a,s1,y.a,hP]
theorem F8z:GOK Tryz.prog (G q) 20 gRep:=A4e fun a b c m r ha hb hr=>by
 split at hr
 ·rename_i h;injection hr with hr;subst hr;have ha:a = .ag c.cs:=ha;subst ha;exact D0u c hb h.1 h.2
 ·cases hr
end Go.Proofs.YtmplckgbeaifkaaGreatDoor
