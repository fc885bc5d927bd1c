/- Auxiliary facts. -/
import Derived.Test.YtmgjopafgboljaaGreatDoorVEQ24
import Derived.Test.YtmgjopafgboljaaGreatDoorVEQ11
import Derived.Test.YtmgjopafgboljaaGreatDoorVEQ07
import Derived.Test.YtmgjopafgboljaaGreatDoorVEQ29
import Derived.Test.YtmgjopafgboljaaGreatDoorVEQ35
set_option linter.unusedSimpArgs false
set_option maxRecDepth 100000
set_option maxHeartbeats 0
set_option linter.unusedVariables false
namespace Go.Proofs.YtmgjopafgboljaaGreatDoor
open Go Go.Abs
variable {q : Gl}
theorem D9n (m:Nat):A1v tyI 1 [.int .i64 0] 0 [] m=some (.row m 0 0 1,.cells tyI []):=rfl
def SPl (t:T) (x:Int) (j:Nat):A0c:=⟨[(5,.t (iv (j:Int))),(1,.t (iv x)),(0,.t t)],[],0,19⟩
theorem E3q {t:T} {l:List Int} (h:IsS eInt t l) (x:Int) (hl:l.length<=1000000000):A1d Tryz.prog (G q) 41 [t,iv x] (· = iv (plc x 0 l)):=by
 have e1:=h.len
 obtain⟨R,hR⟩:∃R,R=plc x 0 l:=⟨_,rfl⟩
 rw[<-hR];refine D5y.call rfl ?_;(conv in C2j=>cbv);refine A0a A0g ?_;simp -implicitDefEqProofs;refine A0q (α:=Unit) (fun _=>⟨[],[],0,19⟩) (fun _=>R = -1) (fun _=>rfl) ?_ ?_
 ·refine A0a A0g ?_;simp -implicitDefEqProofs;refine A0j ?_;refine A0n (SPl t x) (fun j=>l.length-j) (fun j=>j<=l.length/\R=plc x j (l.drop j)) 0 (fun _=>rfl) ⟨Nat.zero_le _,hR⟩ ?_ rfl ?_
  ·exact A0d (by simp -implicitDefEqProofs [SPl])
  rintro j ⟨hj,heq⟩;by_cases hlt:j<l.length
  ·obtain⟨y,hy⟩:∃y,l[j]?=some y:=⟨_,List.getElem?_eq_getElem hlt⟩
   have i1:=h.iaddr hy .i64;have hz:eInt.z=1:=rfl;rw[hz]at i1;have w1:IntKind.i64.wrap ((j:Int)+1)=((j+1:Nat):Int):=A0k (by omega) (by omega);have ld:∀H:Heap,A0t false 1 H (.t (.pt (eInt.enc y++rest eInt l j)))=some (.t (iv y)):=fun _=>rfl;rw[List.drop_eq_getElem_cons hlt,(List.getElem?_eq_some_iff.1 hy).2,plc]at heq;by_cases hxy:y=x
   ·rw[if_pos hxy]at heq
    have b1:(y==x)=true:=by simp[hxy]
    refine A0e A0g ?_;simp -implicitDefEqProofs [SPl,e1,hlt,i1,ld,b1,heq]
   ·rw[if_neg hxy]at heq
    have b1:(y==x)=false:=by simp[hxy]
    refine A0e A0g ?_;simp -implicitDefEqProofs [SPl,e1,hlt,i1,ld,b1,w1];exact Abs.Next.mk (j+1) ⟨⟨by omega,heq⟩,by omega⟩ (A0d (by simp -implicitDefEqProofs))
  ·have hR:R = -1:=by rw[heq,List.drop_of_length_le (by omega)];rfl
   refine A0e A0g ?_;simp -implicitDefEqProofs [SPl,e1,hlt];exact Abs.Next.mk () hR (A8d (by omega) (fun q hq=>by cases hq))
 rintro _ hRG;refine A0e A0g ?_;simp -implicitDefEqProofs [hRG]
noncomputable def gPl:List T->Option T:=g2 (tSl eInt) tInt fun l x=>if l.length<=1000000000 then some (iv (plc x 0 l))else none
theorem hPl:GOK Tryz.prog (G q) 41 gPl:=D0o fun a b l x r ha hb hr=>by
 obtain rfl:b=iv x:=hb;split at hr
 ·rename_i h;injection hr with hr;subst hr;exact E3q ha x h
 ·cases hr
theorem D2b {t:T} {l:List Int} (x:Int) (h:IsS eInt t l) (hl:l.length<=1000000000):gPl [t,iv x]=some (iv (plc x 0 l)):=
 (C6w (τ:=tSl eInt) (σ:=tInt) h rfl).trans (if_pos hl)
def SFs (X:Row) (tl:T) (l:List Int) (j:Nat):A0c:=⟨[(5,.t (iv (j:Int))),(4,.row 1 0 l.length 1),(3,.t tl),(1,.ptr 0 0)],hMI X l,2,30⟩
theorem E8n {l:List Int} {j:Nat} {x:Int} (h:l[j]?=some x):fst1 [] (l.take (j+1))=if x∈fst1 [] (l.take j)then fst1 [] (l.take j)else fst1 [] (l.take j)++[x]:=by
 have key:∀(a b acc:List Int),fst1 acc (a++b)=fst1 (fst1 acc a) b:=fun a=>by
  induction a with
  | nil=>intro b acc;rfl
  | cons y r ih=>intro b acc;rw[List.cons_append,fst1,fst1,ih]
 rw[List.take_add_one,h,key];rfl
theorem C8c:∀(l acc:List Int),(fst1 acc l).length<=acc.length+l.length
 | [],acc=>by simp[fst1]
 | x::r,acc=>by
  rw[fst1];have:=C8c r (if x∈acc then acc else acc++[x]);split at this
  ·rename_i h;rw[if_pos h];simp only[List.length_cons];omega
  ·rename_i h;rw[if_neg h];simp only[List.length_append,List.length_cons,List.length_nil]at this ⊢;omega
theorem E3r {m:Mr} {cs:List T} (hm:IsMr m cs) (hs:SmM m):A1d Tryz.prog (G q) 35 [.ag cs] (· = slT eInt (fsts m)):=by
 have eO:=D5o hm hs;obtain⟨tv,tr,tc,rl,rfl,hv,hr,hrm,hc⟩:=hm
 obtain⟨X,hX⟩:∃X,X=mRow [iv m.top,iv m.index,tv,tr,tc]:=⟨_,rfl⟩
 have hXc:∃(ty:TypeId) (cs:List T),X = .cells ty (cs.map PV.t):=⟨_,_,hX⟩
 have cd:=cd5 (iv m.top) (iv m.index) tv tr tc;have C:Ctx Tryz.prog (G q) _:=(A0s.cons (hOcc (q:=q)) (.cons (hPl (q:=q)) .nil)).ctx mixed
 obtain⟨L,hL⟩:∃L,L=occ m:=⟨_,rfl⟩
 have hLl:L.length<=300000000:=by rw[hL];exact B7b hs
 rw[<-hL]at eO
 obtain⟨tl,htl⟩:∃tl,tl=slT eInt L:=⟨_,rfl⟩
 have hTl:IsS eInt tl L:=.inr htl;rw[<-htl]at eO;have ll:=hTl.len
 obtain⟨R,hR⟩:∃R,R=slT eInt (fsts m):=⟨_,rfl⟩
 have hF:fsts m=fst1 [] (L.take L.length):=by rw[List.take_length,hL];rfl
 rw[<-hR];refine D1y.call rfl ?_;(conv in B8q=>cbv);refine A0a C ?_;simp -implicitDefEqProofs [cd];rw[show Row.cells 26 [.t (iv m.top),.t (iv m.index),.t tv,.t tr,.t tc]=X from hX.symm];have z0:=ldM (H:=[(0,X)]) (k:=0) (by rw[hX];rfl);refine A0a C ?_;simp -implicitDefEqProofs [z0.all,eO];refine A0a C ?_;simp -implicitDefEqProofs [D9n];refine A0q (α:=Unit) (fun _=>⟨[(4,.row 1 0 (fsts m).length 1)],hMI X (fsts m),2,30⟩) (fun _=>True) (fun _=>rfl) ?_ ?_
 ·refine A0a C ?_;simp -implicitDefEqProofs;refine A0j ?_;refine A0n (fun j=>SFs X tl (fst1 [] (L.take j)) j) (fun j=>L.length-j) (fun j=>j<=L.length) 0 (fun _=>rfl) (Nat.zero_le _) ?_ rfl ?_
  ·exact A1n (k:=1) (l:=[]) rfl rfl (by omega) hXc (by simp -implicitDefEqProofs [ren,under,fst1])
  intro j hj
  obtain⟨l,hl⟩:∃l,l=fst1 [] (L.take j):=⟨_,rfl⟩
  have hll:l.length<=300000000:=by
   have:=C8c (L.take j) [];rw[<-hl,List.length_take]at this;simp only[List.length_nil]at this;omega
  obtain⟨H,hH⟩:∃H,H=hMI X l:=⟨_,rfl⟩
  have h0:Abs.look H 0=some X:=by rw[hH];rfl
  have h1:Abs.look H 1=some (A0l eInt tyI l):=by rw[hH];rfl
  by_cases hlt:j<L.length
  ·obtain⟨x,hx⟩:∃x,L[j]?=some x:=⟨_,List.getElem?_eq_getElem hlt⟩
   have i1:=hTl.iaddr hx .i64;have hz:eInt.z=1:=rfl;rw[hz,show eInt.enc x=[iv x]from rfl]at i1;have w1:IntKind.i64.wrap ((j:Int)+1)=((j+1:Nat):Int):=A0k (by omega) (by omega);have tq:=A2s (e:=eInt) h1;rw[hz]at tq
   have tq:toTs H [.row 1 0 l.length 1,.t (iv x)]=some ([slT eInt l,iv x],[1]):=by
    rw[toTs,tq];rfl
   have eP:=D2b x (IsS.mk (e:=eInt) l) (by omega);have ap:=C1u x l.length 3 4 rfl rfl rfl h1 (nx:=2) (by omega) (by omega);have A4k:=E8n hx;rw[<-hl]at A4k;by_cases hin:x∈l
   ·rw[if_pos hin]at A4k
    have b1:decide (plc x 0 l<0)=false:=by
     rw[decide_eq_false_iff_not,B1f];exact fun h=>h hin
    refine A0e C ?_;simp -implicitDefEqProofs [SFs,<-hl,<-hH,ll,hlt,i1,lp,tq,eP,b1,w1,-toTs];refine Abs.Next.mk (j+1) ⟨hlt,by omega⟩ ?_;show Abs.Sub _ _ _ _ (SFs X tl (fst1 [] (L.take (j+1))) (j+1));rw[A4k];exact A1n (k:=1) h1 h0 (by omega) hXc (by simp -implicitDefEqProofs [ren,under])
   ·rw[if_neg hin]at A4k
    have b1:decide (plc x 0 l<0)=true:=by
     rw[decide_eq_true_iff,B1f];exact hin
    refine A0e C ?_;simp -implicitDefEqProofs [SFs,<-hl,<-hH,ll,hlt,i1,lp,tq,eP,b1,C7s,ap,w1,-toTs];refine Abs.Next.mk (j+1) ⟨hlt,by omega⟩ ?_;show Abs.Sub _ _ _ _ (SFs X tl (fst1 [] (L.take (j+1))) (j+1));rw[A4k]
    have el:(l++[x]).length=l.length+1:=by simp
    unfold SFs;rw[el];exact A1n (k:=3) (by rw[look_cons,if_pos rfl]) (by simp[look_cons,A1e,h0]) (by omega) hXc (by simp -implicitDefEqProofs [ren,under])
  ·have ej:j=L.length:=by omega
   refine A0e C ?_;simp -implicitDefEqProofs [SFs,<-hl,<-hH,ll,hlt];refine Abs.Next.mk () trivial ?_;rw[hF,<-ej,<-hl];exact A1n (k:=1) h1 h0 (by omega) hXc (by simp -implicitDefEqProofs [ren,under])
 rintro _ _;have hne:toT (hMI X (fsts m)) (.row 1 0 (fsts m).length 1)=some (slT eInt (fsts m),[1]):=A2s (e:=eInt) (B1p X (fsts m));refine A0e C ?_;simp -implicitDefEqProofs [hne,hR,-toT]
noncomputable def F3r:List T->Option T:=gM fun m=>slT eInt (fsts m)
theorem G1a:GOK Tryz.prog (G q) 35 F3r:=E3i fun _ _ h hs=>E3r h hs
end Go.Proofs.YtmgjopafgboljaaGreatDoor
