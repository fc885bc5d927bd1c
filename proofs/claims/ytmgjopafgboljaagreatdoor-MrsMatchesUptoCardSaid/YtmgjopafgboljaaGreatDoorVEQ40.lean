/- Auxiliary facts. -/
import Derived.Test.YtmgjopafgboljaaGreatDoorVEQ34
import Derived.Test.YtmgjopafgboljaaGreatDoorVEQ30
set_option linter.unusedSimpArgs false
set_option maxRecDepth 100000
set_option maxHeartbeats 0
set_option linter.unusedVariables false
namespace Go.Proofs.YtmgjopafgboljaaGreatDoor
open Go Go.Abs
variable {q : Gl}
def idxB:Nat->List Int->Bool
 | _,[]=>true
 | j,x::r=>decide (x=(j:Int))&&idxB (j+1) r
theorem D9o:∀{l:List Int} {k:Nat},idxB k l=true ↔ l=(List.range l.length).map fun i=>((k+i:Nat):Int)
 | [],k=>by simp[idxB]
 | x::r,k=>by
  rw[idxB,Bool.and_eq_true,decide_eq_true_iff,D9o,List.length_cons,List.range_succ_eq_map,List.map_cons,List.map_map,List.cons.injEq]
  have e:((fun i=>((k+i:Nat):Int))∘Nat.succ)=fun i=>((k+1+i:Nat):Int):=by
   funext i;show((k+(i+1):Nat):Int)=_;congr 1;omega
  rw[e];exact Iff.rfl
theorem E8v {l:List Int} {j:Nat} {x:Int} (h:l[j]?=some x):idxB j (l.drop j)=(decide (x=(j:Int))&&idxB (j+1) (l.drop (j+1))):=by
 have hlt:=(List.getElem?_eq_some_iff.1 h).1;rw[List.drop_eq_getElem_cons hlt,(List.getElem?_eq_some_iff.1 h).2,idxB]
theorem D2e (m:Mr):A2q m=(decide ((fsts m).length=m.vars.length)&&idxB 0 (fsts m)):=by
 unfold A2q;rw[Bool.eq_iff_iff,decide_eq_true_iff,Bool.and_eq_true,decide_eq_true_iff,D9o]
 have e:(fun i:Nat=>((0+i:Nat):Int))=fun i:Nat=>(i:Int):=by funext i;rw[Nat.zero_add]
 rw[e];constructor
 ·intro h;have hl:=congrArg List.length h;rw[A2u]at hl;exact⟨hl,by rw[hl];exact h⟩
 ·rintro⟨h1,h2⟩;rw[h2,h1];rfl
def C2p (l:List Int) (j:Nat):Int:=if idxB j (l.drop j)=true then 0 else 3
theorem D6e {l:List Int} {j:Nat} {x:Int} (h:l[j]?=some x):C2p l j=if x=(j:Int)then C2p l (j+1)else 3:=by
 unfold C2p;rw[E8v h];by_cases e:x=(j:Int)<;>simp[e]
theorem E3t {l:List Int} {j:Nat} (h:l.length<=j):C2p l j=0:=by
 unfold C2p;rw[List.drop_of_length_le h];rfl
noncomputable def tbCk:Tbl:=[(16,D2d),(35,F3r)]
theorem C2q:Ctx Tryz.prog (G q) (orc tbCk):=(A0s.cons E8q (.cons G1a .nil)).ctx mixed
def SCk (n k k':Nat) (X:Row) (tl:T) (j:Nat):A0c:=⟨[(k,.t (iv (j:Int))),(k',.t tl),(1,.ptr 0 0)],[(0,X)],1,n⟩
theorem D6f {m:Mr} {cs:List T} (hm:IsMr m cs) (hs:SmM m):A1d Tryz.prog (G q) 15 [.ag cs] (· = iv (A3c A0h m)):=by
 have eL:D2d [.ag cs]=some (iv (A4f A0h m)):=B3a _ hm hs;have eF:F3r [.ag cs]=some (slT eInt (fsts m)):=B3a _ hm hs;obtain⟨tv,tr,tc,rl,rfl,hv,hr,hrm,hc⟩:=hm
 obtain⟨X,hX⟩:∃X,X=mRow [iv m.top,iv m.index,tv,tr,tc]:=⟨_,rfl⟩
 have z:=ldM (H:=[(0,X)]) (k:=0) (by rw[hX];rfl);have lv:=hv.len;have hsv:=hs.vars;have cd:=cd5 (iv m.top) (iv m.index) tv tr tc
 obtain⟨R,hR⟩:∃R,R=A3c A0h m:=⟨_,rfl⟩
 rw[<-hR];unfold A3c at hR
 obtain⟨e,he⟩:∃e,e=A4f A0h m:=⟨_,rfl⟩
 rw[<-he]at hR eL
 obtain⟨F,hF⟩:∃F,F=fsts m:=⟨_,rfl⟩
 rw[D2e,<-hF]at hR;rw[<-hF]at eF
 obtain⟨tf,htf⟩:∃tf,tf=slT eInt F:=⟨_,rfl⟩
 have hTf:IsS eInt tf F:=.inr htf;rw[<-htf]at eF;have lf:=hTf.len
 have hFl:F.length<=300000000:=by
  have h1:=C8c (occ m) [];have h2:=B7b hs;simp only[List.length_nil]at h1;rw[hF];unfold fsts;omega
 refine D5z.call rfl ?_;(conv in C2k=>cbv);refine A0a C2q ?_;simp -implicitDefEqProofs [cd];rw[show Row.cells 26 [.t (iv m.top),.t (iv m.index),.t tv,.t tr,.t tc]=X from hX.symm];by_cases h0:e=0
 rotate_left
 ·have be:(e != 0)=true:=by simpa using h0
  rw[if_pos h0]at hR;refine A0a C2q ?_;simp -implicitDefEqProofs [tbCk,z.all,eL,be,hR]
 rw[if_neg (fun h=>h h0)]at hR
 have be:(e != 0)=false:=by simpa using h0
 refine A0a C2q ?_;simp -implicitDefEqProofs [tbCk,z.all,eL,be];refine A0a C2q ?_;simp -implicitDefEqProofs [tbCk,z.all,eF];by_cases hl:F.length=m.vars.length
 rotate_left
 ·have bl:((F.length:Int) !=(m.vars.length:Int))=true:=by simpa using (by omega:¬(F.length:Int)=(m.vars.length:Int))
  rw[decide_eq_false hl,Bool.false_and,if_neg (by decide)]at hR;refine A0a C2q ?_;simp -implicitDefEqProofs [z.l2,lf,lv,bl,hR]
 have bl:((F.length:Int) !=(m.vars.length:Int))=false:=by simpa using (by omega:(F.length:Int)=(m.vars.length:Int))
 rw[decide_eq_true hl,Bool.true_and]at hR;have hR:R=C2p F 0:=hR;refine A0a C2q ?_;simp -implicitDefEqProofs [z.l2,lf,lv,bl];refine A0q (α:=Unit) (fun _=>⟨[],[],1,31⟩) (fun _=>R=0) (fun _=>rfl) ?_ ?_
 ·refine A0a C2q ?_;simp -implicitDefEqProofs;refine A0j ?_;refine A0n (SCk 31 5 4 X tf) (fun j=>F.length-j) (fun j=>j<=F.length/\R=C2p F j) 0 (fun _=>rfl) ⟨Nat.zero_le _,hR⟩ ?_ rfl ?_
  ·exact A0d (by simp -implicitDefEqProofs [SCk])
  rintro j ⟨hj,heq⟩;by_cases hlt:j<F.length
  ·obtain⟨x,hx⟩:∃x,F[j]?=some x:=⟨_,List.getElem?_eq_getElem hlt⟩
   have i1:=hTf.iaddr hx .i64;have hz:eInt.z=1:=rfl;rw[hz,show eInt.enc x=[iv x]from rfl]at i1;have w1:IntKind.i64.wrap ((j:Int)+1)=((j+1:Nat):Int):=A0k (by omega) (by omega);rw[D6e hx]at heq
   by_cases hxj:x=(j:Int)
   ·rw[if_pos hxj]at heq
    have b1:(x !=(j:Int))=false:=by simpa using hxj
    refine A0e C2q ?_;simp -implicitDefEqProofs [SCk,lf,hlt,i1,lp,b1,w1];exact Abs.Next.mk (j+1) ⟨⟨hlt,heq⟩,by omega⟩ (A0d (by simp -implicitDefEqProofs [SCk]))
   ·rw[if_neg hxj]at heq
    have b1:(x !=(j:Int))=true:=by simpa using hxj
    refine A0e C2q ?_;simp -implicitDefEqProofs [SCk,lf,hlt,i1,lp,b1,heq]
  ·rw[E3t (by omega)]at heq;refine A0e C2q ?_;simp -implicitDefEqProofs [SCk,lf,hlt];exact Abs.Next.mk () heq (A8d (by omega) (fun q hq=>by cases hq))
 rintro _ hRG;refine A0e C2q ?_;simp -implicitDefEqProofs [hRG]
theorem G1d:GOK Tryz.prog (G q) 15 C2b:=E3i fun _ _ h hs=>D6f h hs
end Go.Proofs.YtmgjopafgboljaaGreatDoor
