/-
 Auxiliary facts. No statement of the program stands here.
-/
import Derived.Test.YtbiadmfmjnoecaaVAQ33
import Derived.OpenShut
import Derived.Test.YtbiadmfmjnoecaaVAQ40
namespace Go.Proofs.Ytbiadmfmjnoecaa
set_option linter.unusedSimpArgs false
set_option linter.unusedVariables false
open Go Go.Abs Go.ChangeShapes Go.WideShapes Go.ChangeAt Go.RowKit
theorem G5f {H:Type} {enc:TypeId×Value->H} {W:World} {spare:Nat->Bool} {held:Bool} {v:Value} {d:DataW H} {p:List MemPlace} (h:DataW.Trod enc Try.prog W 0 spare held 45 v d p) :
  ∃x y z l m n,IsS eNd x l/\IsS eNd y m/\IsS eNd z n/\RepT (Old W) W (.ag [x,y,z]) v:=by
 obtain⟨fuel,hf⟩:=h
 obtain⟨xs,k,_,_,hl,hn,hx⟩:=DataW.trod_array Try.underlying45 hf
 have c1:Try.prog.cellsOf 25=1:=by kernel_rfl
 have c3:Try.prog.cellsOf 45=3:=by kernel_rfl
 rw[c3]at hl
 obtain⟨us,rfl⟩:∃us,v = .agg us:=by
  cases v<;>simp[Value.cells]at hl
  exact⟨_,rfl⟩
 have hc:(Value.agg us).cells.toList=us.toList:=rfl
 rw[hc]at hl hx
 match hus:us.toList,hl with
 | [u0,u1,u2],_=>
  rw[hus,c1]at hx
  have part:∀(i:Nat) u,i<3->([u0,u1,u2].drop (i*1)).take 1=[u]->∃x l,IsS eNd x l/\RepT (Old W) W x u/\u.oneCell'=true:=by
   intro i u hi hu
   have h1:=hx i hi
   rw[hu,List.getElem?_eq_getElem (by omega)]at h1
   obtain⟨ts,hr,x,e,_,_⟩:=G3y k _ _ _ h1
   refine⟨x.tree,x.nodes,x.ok,?_,hr.2 u (by simp)⟩
   have:=hr.1
   rw[e]at this
   simp only[eFS,RepL]at this
   obtain⟨z,zs,hz,h3,_⟩:=this
   simp at hz
   rw[hz.1]
   exact h3
  obtain⟨x,l,i0,r0,o0⟩:=part 0 u0 (by omega) rfl
  obtain⟨y,m,i1,r1,o1⟩:=part 1 u1 (by omega) rfl
  obtain⟨z,n,i2,r2,o2⟩:=part 2 u2 (by omega) rfl
  refine⟨x,y,z,l,m,n,i0,i1,i2,?_⟩
  simp only[RepT]
  refine⟨us,rfl,?_,?_⟩
  ·intro w hw
   rw[hus]at hw
   simp only[List.mem_cons,List.not_mem_nil,or_false]at hw
   rcases hw with rfl | rfl | rfl<;>assumption
  ·rw[hus]
   simp only[RepL]
   exact⟨_,_,rfl,r0,_,_,rfl,r1,_,_,rfl,r2,rfl⟩
open Go Go.Abs
theorem G9e {h:List Typ×List Ft} {a b:List Nd} (hg:GPre h a b):morB h.1 (genL (A2q h.1) a b) a=true/\morB h.1 (genL (A2q h.1) a b) b=true:=
 ⟨A4o.2 ⟨_,E8e hg.1.join hg.2.1.1 hg.2.1.2⟩,A4o.2 ⟨_,E1m hg.1.join hg.2.1.1 hg.2.1.2⟩⟩
set_option maxHeartbeats 2000000 in
theorem G0v {t ta tb tc:T} {d:List TD} {a b c:List Nd} (ht:IsS eTD t d) (hd:d.length<=12->DOK d) (hta:IsS eNd ta a) (htb:IsS eNd tb b) (htc:IsS eNd tc c):A0y Try.prog G 11 [t,.ag [ta,tb,tc]] (· = .v (.bool true)):=by
 have gh:=B1y ht hd
 obtain⟨h,hh⟩:∃h,h=hOf d:=⟨_,rfl⟩
 obtain⟨u,hu'⟩:∃u,u=A0m eTyp h.1:=⟨_,rfl⟩
 obtain⟨v,hv'⟩:∃v,v=A0m eFt h.2:=⟨_,rfl⟩
 have hu:IsS eTyp u h.1:=hu'▸IsS.tree _ _
 have hv:IsS eFt v h.2:=hv'▸IsS.tree _ _
 have hTd:hT d = .ag [u,v]:=by unfold hT;rw[<-hh,hu',hv']
 rw[hTd]at gh
 have c0:A0q (.t (.ag [ta,tb,tc]))=some [.t ta,.t tb,.t tc]:=rfl
 have c1:A0q (.t (.ag [u,v]))=some [.t u,.t v]:=rfl
 have cc:∀x:T,A0q (.t (.ag [x]))=some [.t x]:=fun _=>rfl
 have a1:agOf [.t u,.t v] = .t (.ag [u,v]):=rfl
 have aa:∀x:T,agOf [.t x] = .t (.ag [x]):=fun _=>rfl
 have hsl:IsS eFS (.sl 3 [ta,tb,tc]) [⟨ta,a,hta⟩,⟨tb,b,htb⟩,⟨tc,c,htc⟩]:=.inr rfl
 have gf:=C1o hu hv hsl (by simp)
 have bs:A1m 25 1 [.slice none 0 0] 3 [(0,.t (.ag [ta])),(1,.t (.ag [tb])),(2,.t (.ag [tc]))] 8=some (.row 8 0 3 1,.cells 25 [.t ta,.t tb,.t tc]):=by
  rcases hta with⟨rfl,_⟩ | rfl<;>rcases htb with⟨rfl,_⟩ | rfl<;>rcases htc with⟨rfl,_⟩ | rfl<;>rfl
 refine C2c.call rfl ?_
 unfold B0p
 refine A0a cx21 ?_
 simp -implicitDefEqProofs [c0]
 refine A0a cx21 ?_
 simp -implicitDefEqProofs [tx21,gh,A0v,c1,A1h]
 refine A0a cx21 ?_
 simp -implicitDefEqProofs [A0f,A0v,cc,aa,A1h,C0c]
 cases hf:B9m h.1.length h.2.length [⟨ta,a,hta⟩,⟨tb,b,htb⟩,⟨tc,c,htc⟩]with
 | false=>
  rw[hf]at gf
  refine A0a cx21 ?_
  simp -implicitDefEqProofs [A0f,a1,aa,bs,tx21,gf,A4e]
 | true=>
  rw[hf]at gf
  have hall:=A4p hf
  have hA:=hall ⟨ta,a,hta⟩ (by simp)
  have hB:=hall ⟨tb,b,htb⟩ (by simp)
  have hC:=hall ⟨tc,c,htc⟩ (by simp)
  have hl2:h.2.length<=64:=by rw[hh];exact(C4n hd).2
  have hg:GPre h a b:=B9t hd hh hA hB
  have gm:=B3p hu hv hta htb hg
  have s1:=D0u hg hl2
  have hlow:=G9e hg
  have hG:=IsS.tree eNd (genL (A2q h.1) a b)
  have g1:=A7z hu hv hG hta (C5r hd hh s1 hA.1)
  have g2:=A7z hu hv hG htb (C5r hd hh s1 hB.1)
  have g3:=A7z hu hv htc hta (C5r hd hh hC.1 hA.1)
  have g4:=A7z hu hv htc htb (C5r hd hh hC.1 hB.1)
  have g5:=A7z hu hv htc hG (C5r hd hh hC.1 s1)
  rw[hlow.1]at g1
  rw[hlow.2]at g2
  have hmost:=fun h1 h2=>G4n (c:=c) hg.1.join hg.2.1.1 hg.2.1.2 hC.1.2 hg.2.2.2 h1 h2
  unfold genT at gm
  generalize A0m eNd (genL (A2q h.1) a b)=x1 at *
  refine A0a cx21 ?_
  simp -implicitDefEqProofs [A0f,a1,aa,bs,tx21,gf]
  refine A0a cx21 ?_
  simp -implicitDefEqProofs [A0f,a1,aa,cc,tx21,gm,A0v,A1h]
  refine A0a cx21 ?_
  simp -implicitDefEqProofs (maxDischargeDepth:=8) [A0f,a1,aa,tx21,g1,g2]
  cases h1:morB h.1 c a with
  | false=>
   rw[h1]at g3
   refine A0a cx21 ?_
   simp -implicitDefEqProofs (maxDischargeDepth:=8) [A0f,a1,aa,tx21,g3]
   refine A0c cx21 ?_
   simp -implicitDefEqProofs [tx21,A4e]
  | true=>
   rw[h1]at g3
   cases h2:morB h.1 c b with
   | false=>
    rw[h2]at g4
    refine A0a cx21 ?_
    simp -implicitDefEqProofs (maxDischargeDepth:=8) [A0f,a1,aa,tx21,g3,g4]
    refine A0c cx21 ?_
    simp -implicitDefEqProofs [tx21,A4e]
   | true=>
    rw[h2]at g4
    rw[hmost h1 h2]at g5
    refine A0a cx21 ?_
    simp -implicitDefEqProofs (maxDischargeDepth:=8) [A0f,a1,aa,tx21,g3,g4,g5]
    refine A0c cx21 ?_
    simp -implicitDefEqProofs [tx21,A4e]
theorem G0w {H:Type} {enc:TypeId×Value->H} {W:World} {spare:Nat->Bool} {held:Bool} {v:Value} {d:DataW H} {p:List MemPlace} (h:DataW.Trod enc Try.prog W 0 spare held 42 v d p) {a:Option Addr} {len cap':Nat} (hv:v = .slice a len cap') (hb:Rows.uptoBulk d<=1048576) :
  ∃x l,IsS eFS x l/\l.length<=1048576/\RepT (Old W) W x v:=by
 obtain⟨fuel,hf⟩:=h
 subst hv
 obtain⟨ts,hr,x,l,e,hx,hl,_⟩:=B6t (P:=Try.prog) Try.underlying42 (by kernel_rfl) G3y fuel _ d p hf
 refine⟨x,l,hx,by omega,?_⟩
 have:=hr.1
 rw[e]at this
 simp only[Value.cells,RepL]at this
 obtain⟨z,zs,hz,h3,_⟩:=this
 simp at hz
 rw[hz.1]
 exact h3
def fewE (l:List FSv) (i:Nat):Int:=match l[i]? with
 | some x=>if 8<x.nodes.length then 1 else 0
 | none=>0
def fewB (l:List FSv):Bool:=decide (fst (fewE l) l.length=0)&&decide (l.length<=3)
theorem E8w {l:List FSv} (h:fewB l=true):l.length<=3/\∀x∈l,x.nodes.length<=8:=by
 unfold fewB at h
 simp only[Bool.and_eq_true,decide_eq_true_eq]at h
 refine⟨h.2,fun x hx=>?_⟩
 obtain⟨i,hi,e⟩:=List.getElem_of_mem hx
 have:=A4l h.1 i hi
 simp only[fewE,List.getElem?_eq_getElem hi,e]at this
 split at this
 ·cases this
 ·omega
def S36 (tl:T) (n i:Nat):A0b:=⟨[(7,.t (iv (i:Int))),(6,.t (iv (n:Int))),(5,.t tl),(0,.t tl)],[],0,19⟩
theorem G5g {tl:T} {l:List FSv} (ht:IsS eFS tl l) (hl:l.length<=2000000):A0y Try.prog G 36 [tl] (· = bv (fewB l)):=by
 refine F9n.call rfl ?_
 unfold E1t
 refine A0a cx21 ?_
 simp -implicitDefEqProofs
 obtain⟨n,hle,h0,hn⟩:=A6a (fewE l) l.length
 refine A0r (fun _:Unit=>S36 tl l.length l.length) (fun _=>fst (fewE l) l.length=0) (fun _=>rfl) ?_ ?_
 ·refine A0a cx21 ?_
  simp -implicitDefEqProofs [ht.len]
  refine A0h ?_
  refine A1a (S36 tl l.length) n (fun _=>rfl) ?_ rfl ?_ ?_
  ·refine A0d rfl rfl ?_ ?_<;>simp -implicitDefEqProofs [S36]
  ·intro j hj
   have hjl:j<l.length:=by omega
   obtain⟨x,hx⟩:∃x,l[j]?=some x:=⟨_,List.getElem?_eq_getElem hjl⟩
   have ix:=D6r ht hx
   have e1:IntKind.i64.wrap ((j:Int)+1)=((j+1:Nat):Int):=A0k (by omega) (by omega)
   have hz:=h0 j hj
   simp only[fewE,hx]at hz
   have h8:¬8<x.nodes.length:=fun h=>by rw[if_pos h]at hz;cases hz
   have h8':¬(8<(x.nodes.length:Int)):=by omega
   have cx:A0q (.t (.ag [x.tree]))=some [.t x.tree]:=rfl
   have lx:=x.ok.len
   refine A0c cx21 ?_
   simp -implicitDefEqProofs [S36,hjl,ix,A0f,A0v,cx,A1h,lx,h8',h8,e1]
   refine C4d (by omega) (fun q hq=>by cases hq) (by simp -implicitDefEqProofs [under])
  ·refine A0c cx21 ?_
   rcases hn with⟨e,hz⟩ | ⟨hjl,hk,he⟩
   ·have hnl:¬n<l.length:=by omega
    simp -implicitDefEqProofs [S36,hnl]
    exact Next.mk () hz (A0d rfl rfl (by simp -implicitDefEqProofs [e]) (by simp -implicitDefEqProofs))
   ·obtain⟨x,hx⟩:∃x,l[n]?=some x:=⟨_,List.getElem?_eq_getElem hjl⟩
    have ix:=D6r ht hx
    have hres:fewB l=false:=by unfold fewB;rw[he];simp[hk]
    simp only[fewE,hx]at hk
    have h8:8<x.nodes.length:=Classical.byContradiction fun h=>by rw[if_neg h]at hk;exact hk rfl
    have h8':8<(x.nodes.length:Int):=by omega
    have cx:A0q (.t (.ag [x.tree]))=some [.t x.tree]:=rfl
    have lx:=x.ok.len
    simp -implicitDefEqProofs [S36,hjl,ix,A0f,A0v,cx,A1h,lx,h8',h8,hres]
 ·rintro _ e
  refine A0c cx21 ?_
  have hres:fewB l=decide ((l.length:Int)<=3):=by
   unfold fewB;rw[e]
   simp
   omega
  simp -implicitDefEqProofs [S36,ht.len,hres]
noncomputable def gFew:List T->Option T:=g1 (tSl eFS) fun l=>if l.length<=2000000 then some (bv (fewB l))else none
theorem G9f:GOK Try.prog G 36 gFew:=C7j fun a l r ha hr=>by
 split at hr
 ·rename_i hl;injection hr with hr;subst hr;exact G5g ha hl
 ·cases hr
theorem G9g {tl:T} {l:List FSv} (ht:IsS eFS tl l) (hl:l.length<=2000000):gFew [tl]=some (bv (fewB l)):=(C7k (τ:=tSl eFS) ht).trans (if_pos hl)
noncomputable def tx24:Tbl:=[(30,D7h),(31,G3x),(32,G0t),(36,gFew),(37,gAll),(38,gAll),(33,C9x)]
theorem cx24:Ctx Try.prog G (orc tx24):=(A1o.cons D4j (.cons D4k (.cons E8v (.cons G9f (.cons G8n (.cons G8q (.cons C4e .nil))))))).ctx A1w
def C6d (l:List FSv) (i:Nat):List FSv:=l.reverse.take i
theorem G0x {l:List FSv} {i:Nat} {x:FSv} (hi:i<l.length) (hx:l[l.length-1-i]?=some x):C6d l (i+1)=C6d l i++[x]:=by
 unfold C6d
 have:l.reverse[i]?=some x:=by rw[List.getElem?_reverse hi,hx]
 rw[List.take_add_one,this]
 rfl
theorem G5h (l:List FSv) (i:Nat):(C6d l i).length<=l.length:=by unfold C6d;rw[List.length_take,List.length_reverse];omega
theorem D0v {h:List Typ×List Ft} {l:List FSv} (ha:APre h l):A2t (allL (A2q h.1) (l.map FSv.nodes)):=by
 cases hl:l.length with
 | zero=>
  have:l=[]:=List.eq_nil_of_length_eq_zero hl
  rw[this]
  exact⟨by simp[allL],fun x hx=>by cases hx⟩
 | succ n=>
  have h:=(F9y ha (i:=n) (by omega)).2.1
  unfold outL at h
  rwa[List.take_of_length_le (by omega)]at h
theorem E2a {α:Type} {H:Heap} {l:List α} {b c:Nat} {x:T} (hc:c≠b):Abs.look (if B6y b l=[]then H else if A5s x=true then H else List.foldl rem H (B6y b l)) c=Abs.look H c:=by
 split
 ·rfl
 ·split
  ·rfl
  ·unfold B6y
   split
   ·rfl
   ·simp only[List.foldl_cons,List.foldl_nil]
    rw[A1n,if_neg hc]
def R24 (tt tf x:T):Heap:=[(2,.cells 25 [.t x]),(1,.cells 25 [.t x]),(0,.cells 29 [.t tt,.t tf])]
theorem G6e {tt tf x:T} {H:Heap} {k:Nat} (h0:Abs.look H 0=some (.cells 29 [.t tt,.t tf])) (h1:Abs.look H 1=some (.cells 25 [.t x])) (h2:Abs.look H 2=some (.cells 25 [.t x])) (hk:3<=k) :
  ∀q∈R24 tt tf x,Abs.look H q.1=some (A1v (fun x=>if x=3 then k else x) q.2)/\q.1<4/\q.1≠3/\q.1≠k/\A1b 4 q.2=true:=by
 intro q hq
 simp only[R24,List.mem_cons,List.not_mem_nil,or_false]at hq
 rcases hq with rfl | rfl | rfl
 ·exact⟨h2,by simp,by simp,by simp;omega,rfl⟩
 ·exact⟨h1,by simp,by simp,by simp;omega,rfl⟩
 ·exact⟨h0,by simp,by simp,by simp;omega,rfl⟩
def SL24 (tt tf tl x:T) (bl:Bool) (l:List FSv) (i:Nat):A0b:=
 ⟨[(11,.t (iv ((l.length:Int)-1-(i:Int)))),(10,rowP eFS 3 (C6d l i)),(9,.t (bv bl)),(8,.ptr 2 0),(7,.t (bv bl)),(6,.ptr 1 0),(5,.ptr 0 0),(1,.t tl)],R24 tt tf x++rowH eFS 25 3 (C6d l i),4,79⟩
set_option maxHeartbeats 2000000 in
theorem G0y {t tl:T} {d:List TD} {l:List FSv} (ht:IsS eTD t d) (hd:d.length<=12->DOK d) (htl:IsS eFS tl l) (hl:l.length<=2000000):A0y Try.prog G 10 [t,tl] (· = .v (.bool true)):=by
 have gh:=B1y ht hd
 obtain⟨h,hh⟩:∃h,h=hOf d:=⟨_,rfl⟩
 obtain⟨u,hu'⟩:∃u,u=A0m eTyp h.1:=⟨_,rfl⟩
 obtain⟨v,hv'⟩:∃v,v=A0m eFt h.2:=⟨_,rfl⟩
 have hu:IsS eTyp u h.1:=hu'▸IsS.tree _ _
 have hv:IsS eFt v h.2:=hv'▸IsS.tree _ _
 have hTd:hT d = .ag [u,v]:=by unfold hT;rw[<-hh,hu',hv']
 rw[hTd]at gh
 have c1:A0q (.t (.ag [u,v]))=some [.t u,.t v]:=rfl
 have cc:∀x:T,A0q (.t (.ag [x]))=some [.t x]:=fun _=>rfl
 have a1:agOf [.t u,.t v] = .t (.ag [u,v]):=rfl
 have aa:∀x:T,agOf [.t x] = .t (.ag [x]):=fun _=>rfl
 have gw:=G9g htl hl
 refine C2b.call rfl ?_
 unfold B0o
 refine A0a cx24 ?_
 simp -implicitDefEqProofs
 refine A0a cx24 ?_
 simp -implicitDefEqProofs [tx24,gh,A0v,c1,A1h]
 cases hw:fewB l with
 | false=>
  rw[hw]at gw
  refine A0a cx24 ?_
  simp -implicitDefEqProofs [A0f,a1,aa,tx24,gw,A4e]
 | true=>
 rw[hw]at gw
 have gf:=C1o hu hv htl (by have:=(E8w hw).1;omega)
 cases hf:B9m h.1.length h.2.length l with
 | false=>
  rw[hf]at gf
  refine A0a cx24 ?_
  simp -implicitDefEqProofs [A0f,a1,aa,tx24,gf,gw,A4e]
 | true=>
  rw[hf]at gf
  have hall:=A4p hf
  obtain⟨h3,h8⟩:=E8w hw
  have ha:APre h l:=⟨by rw[hh];exact H1j hd,by have:=(C4n hd).2;rw[hh];omega,h3,fun x hx=>⟨(hall x hx).1.2,h8 x hx⟩⟩
  have hb:APre h l.reverse:=⟨ha.1,ha.2.1,by simpa using h3,fun x hx=>ha.2.2.2 x (by simpa using hx)⟩
  have ga:=G0b hu hv htl ha
  have gb:=G0b hu hv (IsS.tree eFS l.reverse) hb
  have sa:=D0v ha
  have sb:=D0v hb
  have e1:=A7f (IsS.tree eNd _) (IsS.tree eNd _) sa sa
  have e2:=A7f (IsS.tree eNd _) (IsS.tree eNd _) sb sa
  rw[D7g]at e1
  have hback:eqE (allL (A2q h.1) (l.reverse.map FSv.nodes)) (allL (A2q h.1) (l.map FSv.nodes))=true:=by
   by_cases h0:0<l.length
   ·rw[List.map_reverse]
    exact G4o (nf:=h.2.length) ha.1.inj ha.1.join (by simpa using h0) (by simpa using h3) (fun x hx=>by
     obtain⟨y,hy,rfl⟩:=List.mem_map.1 hx
     exact ha.2.2.2 y hy)
   ·have:l=[]:=List.eq_nil_of_length_eq_zero (by omega)
    rw[this]
    exact D7g _
  rw[hback]at e2
  unfold allT at ga gb
  rw[List.length_reverse]at gb
  generalize A0m eNd (allL (A2q h.1) (l.map FSv.nodes))=x1 at *
  generalize A0m eNd (allL (A2q h.1) (l.reverse.map FSv.nodes))=x2 at *
  generalize decide (0<l.length)=bl at *
  refine A0a cx24 ?_
  simp -implicitDefEqProofs [A0f,a1,aa,tx24,gf,gw]
  refine A0a cx24 ?_
  simp -implicitDefEqProofs [A0f,a1,aa,cc,tx24,ga,A0v,A1h,extractV]
  refine A0a cx24 ?_
  simp -implicitDefEqProofs [A0f,a1,aa,cc,tx24,ga,A0v,A1h,extractV]
  refine A0a cx24 ?_
  simp -implicitDefEqProofs
  refine A0r (fun _:Unit=>SL24 u v tl x1 bl l l.length) (fun _=>True) (fun _=>rfl) ?_ ?_
  ·refine A0a cx24 ?_
   have w1:IntKind.i64.wrap ((l.length:Int)-1)=(l.length:Int)-1:=A5v (by omega) (by omega)
   simp -implicitDefEqProofs [htl.len,w1]
   refine A0h ?_
   refine A1a (SL24 u v tl x1 bl l) l.length (fun _=>rfl) ?_ rfl ?_ ?_
   ·exact A2e (k:=3) (A0i.nil _ _ _ _) (by omega) (by omega) (G6e rfl rfl rfl (by omega)) (by simp -implicitDefEqProofs [C6d,rowP,ren,under])
   ·intro i hi
    obtain⟨k,hk⟩:∃k,k=l.length-1-i:=⟨_,rfl⟩
    have ek:(l.length:Int)-1-(i:Int)=(k:Int):=by omega
    have hkl:k<l.length:=by omega
    obtain⟨x,hx⟩:∃x,l[k]?=some x:=⟨_,List.getElem?_eq_getElem hkl⟩
    have ix:=D6r htl hx
    have hs:=G0x hi (hk▸hx)
    have hbl:=G5h l i
    have ek2:(l.length:Int)-1-((i+1:Nat):Int)=(k:Int)-1:=by omega
    have w2:IntKind.i64.wrap ((k:Int)-1)=(k:Int)-1:=A5v (by omega) (by omega)
    have k0:0<=(k:Int):=by omega
    unfold SL24
    rw[hs,ek,ek2]
    generalize C6d l i=m at *
    obtain⟨H0,hH0⟩:∃H0,H0=R24 u v x1++rowH eFS 25 3 m:=⟨_,rfl⟩
    have l0:Abs.look H0 0=some (.cells 29 [.t u,.t v]):=by rw[hH0];rfl
    have l1:Abs.look H0 1=some (.cells 25 [.t x1]):=by rw[hH0];rfl
    have l2:Abs.look H0 2=some (.cells 25 [.t x1]):=by rw[hH0];rfl
    have r1:A0i eFS 25 H0 3 m:=by rw[hH0];exact A0i.right (A0i.head' _ _ _ _) (by simp[R24])
    have hz:eFS.z=1:=rfl
    have bs:A1m 25 1 [.slice none 0 0] 1 [(0,.t (.ag [x.tree]))] 4=some (.row 4 0 1 1,.cells 25 ((eFS.enc x).map .t)):=by
     obtain⟨xt,xn,xo⟩:=x
     rcases xo with⟨rfl,_⟩ | rfl<;>rfl
    obtain⟨b2,H2,n2,ap2,r2,ne2,le2,lk2,ge2⟩:=A1k (e:=eFS) (ty:=25) (by':=24) (nx:=5) (m:=[x]) (r1.cons (k:=4) (r:=.cells 25 ((eFS.enc x).map .t)) (by omega)) (A3d (b:=4) (ty:=25) x (by simp)) (by simp;omega) (by simp;omega)
    rw[hz]at ap2
    rw[<-hH0]
    refine A0c cx24 ?_
    simp -implicitDefEqProofs [ix,A0f,k0,bs,ap2,w2]
    exact A2e (k:=b2) r2 (by omega) (by omega) (G6e (by rw[lk2 0 (by omega) (by omega),look_cons,if_neg (by omega)];exact l0) (by rw[lk2 1 (by omega) (by omega),look_cons,if_neg (by omega)];exact l1) (by rw[lk2 2 (by omega) (by omega),look_cons,if_neg (by omega)];exact l2) (by omega)) (by simp -implicitDefEqProofs [A0g,A0e,ren,under])
   ·refine A0c cx24 ?_
    have k0:¬(l.length:Int)<=(l.length:Int)-1:=by omega
    simp -implicitDefEqProofs [SL24,k0]
    exact Next.mk () trivial (A3e (by simp -implicitDefEqProofs))
  ·rintro _ -
   have hrev:C6d l l.length=l.reverse:=by unfold C6d;exact List.take_of_length_le (by simp)
   have tt':=A0i.toT (A0i.right (R:=R24 u v x1) (A0i.head' eFS 25 3 (C6d l l.length)) (by simp[R24]))
   unfold SL24
   rw[hrev]at tt' ⊢
   have l0:Abs.look (R24 u v x1++rowH eFS 25 3 l.reverse) 0=some (.cells 29 [.t u,.t v]):=rfl
   have l1:Abs.look (R24 u v x1++rowH eFS 25 3 l.reverse) 1=some (.cells 25 [.t x1]):=rfl
   have l2:Abs.look (R24 u v x1++rowH eFS 25 3 l.reverse) 2=some (.cells 25 [.t x1]):=rfl
   generalize R24 u v x1++rowH eFS 25 3 l.reverse=H0 at *
   refine A0a cx24 ?_
   simp -implicitDefEqProofs [A0f,l0,a1,tt',tx24,gb,extractV,cc,A0v,A1h]
   obtain⟨H1,hH1⟩:∃H1,H1=(if B6y 3 l.reverse=[]then H0 else if A5s (.tu [.ag [x2],bv bl])=true then H0 else List.foldl rem H0 (B6y 3 l.reverse)):=⟨_,rfl⟩
   have k1:Abs.look H1 1=some (.cells 25 [.t x1]):=by rw[hH1,E2a (by omega)];exact l1
   have k2:Abs.look H1 2=some (.cells 25 [.t x1]):=by rw[hH1,E2a (by omega)];exact l2
   rw[<-hH1]
   refine A0c cx24 ?_
   simp -implicitDefEqProofs (maxDischargeDepth:=8) [A0f,k1,k2,a1,aa,cc,tx24,e1,e2,A4e]
section
variable {H : Type} {enc : TypeId × Value -> H} {P : Program} {W : World} {spare : Nat -> Bool} {held : Bool}
theorem G0z {t el:TypeId} {Q:List T->Prop} {c:Nat} (ht:P.underlying t=some (.array 2 el)) (hc:P.cellsOf el=c) (hcc:P.cellsOf t=c+c) (hr:Rd enc P W spare held el fun _ ts=>Q ts) :
  Rd enc P W spare held t fun _ ts=>∃x y,ts=x++y/\Q x/\Q y:=by
 intro fuel cs d p h
 obtain⟨xs,k,_,_,hl,hn,hx⟩:=DataW.trod_array ht h
 have h0:=hx 0 (by omega)
 have h1:=hx 1 (by omega)
 rw[List.getElem?_eq_getElem (by omega),hc]at h0 h1
 obtain⟨ts0,r0,q0⟩:=hr k _ _ _ h0
 obtain⟨ts1,r1,q1⟩:=hr k _ _ _ h1
 have e:(cs.drop (0*c)).take c++(cs.drop (1*c)).take c=cs:=by
  rw[Nat.zero_mul,List.drop_zero,Nat.one_mul,List.take_of_length_le (l:=cs.drop c) (by rw[List.length_drop];omega),List.take_append_drop]
 have:=r0.append r1
 rw[e]at this
 exact⟨ts0++ts1,this,ts0,ts1,rfl,q0,q1⟩
end
theorem G1a {H:Type} {enc:TypeId×Value->H} {W:World} {spare:Nat->Bool} {held:Bool} {v:Value} {d:DataW H} {p:List MemPlace} (h:DataW.Trod enc Try.prog W 0 spare held 53 v d p) :
  ∃x0 y0 x1 y1:FSv,RepT (Old W) W (.ag [x0.tree,y0.tree,x1.tree,y1.tree]) v:=by
 obtain⟨fuel,hf⟩:=h
 have h1:Rd enc Try.prog W spare held 25 fun _ ts=>∃x:FSv,ts=[x.tree]:=fun k cs d p h=>by
  obtain⟨ts,hr,x,e,_,_⟩:=G3y k cs d p h
  exact⟨ts,hr,x,e⟩
 have h2:=G0z (c:=1) Try.underlying52 (by kernel_rfl) (by kernel_rfl) h1
 have h3:=G0z (c:=2) Try.underlying53 (by kernel_rfl) (by kernel_rfl) h2
 obtain⟨ts,hr,_,_,rfl,⟨_,_,rfl,⟨x0,rfl⟩,⟨y0,rfl⟩⟩,⟨_,_,rfl,⟨x1,rfl⟩,⟨y1,rfl⟩⟩⟩:=h3 fuel _ d p hf
 have hl:=hr.len
 obtain⟨us,rfl⟩:∃us,v = .agg us:=by
  cases v<;>simp[Value.cells]at hl
  exact⟨_,rfl⟩
 refine⟨x0,y0,x1,y1,?_⟩
 simp only[RepT]
 exact⟨us,rfl,hr.2,hr.1⟩
def R25 (u v a b c e:T):Heap:=[(1,.cells 29 [.t u,.t v]),(0,.cells 53 [.t a,.t b,.t c,.t e])]
def S25 (u v a b c e:T) (j:Nat):A0b:=⟨[(11,.t (iv (j:Int))),(10,.t (.ag [a,b,c,e])),(5,.ptr 1 0),(4,.t (bv false)),(3,.ptr 0 0)],R25 u v a b c e,2,54⟩
noncomputable def C2g (h:List Typ×List Ft) (x y:FSv):Bool:=B9m h.1.length h.2.length [x,y]&&morB h.1 x.nodes y.nodes
set_option maxHeartbeats 2000000 in
theorem G1b {t:T} {d:List TD} {x0 y0 x1 y1:FSv} (ht:IsS eTD t d) (hd:d.length<=12->DOK d):A0y Try.prog G 13 [t,.ag [x0.tree,y0.tree,x1.tree,y1.tree]] (· = .v (.bool true)):=by
 have gh:=B1y ht hd
 obtain⟨h,hh⟩:∃h,h=hOf d:=⟨_,rfl⟩
 obtain⟨u,hu'⟩:∃u,u=A0m eTyp h.1:=⟨_,rfl⟩
 obtain⟨v,hv'⟩:∃v,v=A0m eFt h.2:=⟨_,rfl⟩
 have hu:IsS eTyp u h.1:=hu'▸IsS.tree _ _
 have hv:IsS eFt v h.2:=hv'▸IsS.tree _ _
 have hTd:hT d = .ag [u,v]:=by unfold hT;rw[<-hh,hu',hv']
 rw[hTd]at gh
 have c0:A0q (.t (.ag [x0.tree,y0.tree,x1.tree,y1.tree]))=some [.t x0.tree,.t y0.tree,.t x1.tree,.t y1.tree]:=rfl
 have c1:A0q (.t (.ag [u,v]))=some [.t u,.t v]:=rfl
 have cc:∀x:T,A0q (.t (.ag [x]))=some [.t x]:=fun _=>rfl
 have c2:∀x y:T,A0q (.t (.ag [x,y]))=some [.t x,.t y]:=fun _ _=>rfl
 have a1:∀x y:T,agOf [.t x,.t y] = .t (.ag [x,y]):=fun _ _=>rfl
 have aa:∀x:T,agOf [.t x] = .t (.ag [x]):=fun _=>rfl
 have a4:agOf [.t x0.tree,.t y0.tree,.t x1.tree,.t y1.tree] = .t (.ag [x0.tree,y0.tree,x1.tree,y1.tree]):=rfl
 refine C2d.call rfl ?_
 unfold B0q
 refine A0a cx21 ?_
 simp -implicitDefEqProofs [c0]
 refine A0a cx21 ?_
 simp -implicitDefEqProofs [tx21,gh,A0v,c1,A1h]
 refine A0r (fun _:Unit=>S25 u v x0.tree y0.tree x1.tree y1.tree 2) (fun _=>C2g h x0 y0=true/\C2g h x1 y1=true) (fun _=>rfl) ?_ ?_
 ·refine A0a cx21 ?_
  simp -implicitDefEqProofs [A0f,a4]
  refine A0h ?_
  refine A1u (S25 u v x0.tree y0.tree x1.tree y1.tree) (fun j=>2-j) (fun j=>j<=2/\(0<j->C2g h x0 y0=true)/\(1<j->C2g h x1 y1=true)) 0 (fun _=>rfl) ⟨by omega,fun h=>by omega,fun h=>by omega⟩ ?_ rfl ?_
  ·refine C4d (by omega) (fun q hq=>?_) (by simp -implicitDefEqProofs [S25,under])
   simp only[R25,List.mem_cons,List.not_mem_nil,or_false]at hq
   rcases hq with rfl | rfl
   ·exact⟨rfl,by simp,rfl⟩
   ·exact⟨rfl,by simp,rfl⟩
  rintro j ⟨hj2,hg0,hg1⟩
  by_cases hj:j<2
  ·obtain⟨x,y,hxy,hgood⟩:∃x y:FSv,List.take 2 (List.drop (j*2) [x0.tree,y0.tree,x1.tree,y1.tree])=[x.tree,y.tree]/\(C2g h x y=true->(0<j+1->C2g h x0 y0=true)/\(1<j+1->C2g h x1 y1=true)):=by
    match j,hj,hg0 with
    | 0,_,_=>exact⟨x0,y0,rfl,fun hg=>⟨fun _=>hg,fun h=>by omega⟩⟩
    | 1,_,hg0=>exact⟨x1,y1,rfl,fun hg=>⟨fun _=>hg0 (by omega),fun _=>hg⟩⟩
   have hjz:(j:Int)<2:=by omega
   have hj4:j*2+2<=4:=by omega
   have e1:IntKind.i64.wrap ((j:Int)+1)=((j+1:Nat):Int):=A0k (by omega) (by omega)
   have hsl:IsS eFS (.sl 2 [x.tree,y.tree]) [x,y]:=.inr rfl
   have gf:=C1o hu hv hsl (by simp)
   have bs:A1m 25 1 [.slice none 0 0] 2 [(0,.t (.ag [x.tree])),(1,.t (.ag [y.tree]))] 3=some (.row 3 0 2 1,.cells 25 [.t x.tree,.t y.tree]):=by
    obtain⟨ta,a,hta⟩:=x
    obtain⟨tb,b,htb⟩:=y
    rcases hta with⟨rfl,_⟩ | rfl<;>rcases htb with⟨rfl,_⟩ | rfl<;>rfl
   unfold S25 R25
   cases hf:B9m h.1.length h.2.length [x,y]with
   | false=>
    rw[hf]at gf
    refine A0c cx21 ?_
    simp -implicitDefEqProofs [hjz,hj4,hxy,c2,cc,A0v,A1h,A0f,C0c,a1,aa,bs,tx21,gf,A4e]
   | true=>
    rw[hf]at gf
    have hall:=A4p hf
    have hX:=hall x (by simp)
    have hY:=hall y (by simp)
    have g3:=A7z hu hv x.ok y.ok (C5r hd hh hX.1 hY.1)
    cases hm:morB h.1 x.nodes y.nodes with
    | false=>
     rw[hm]at g3
     refine A0c cx21 ?_
     simp -implicitDefEqProofs (maxDischargeDepth:=8) [hjz,hj4,hxy,c2,cc,A0v,A1h,A0f,C0c,a1,aa,bs,tx21,gf,g3,A4e]
    | true=>
     rw[hm]at g3
     have hg:=hgood (by unfold C2g;rw[hf,hm];rfl)
     refine A0c cx21 ?_
     simp -implicitDefEqProofs (maxDischargeDepth:=8) [hjz,hj4,hxy,c2,cc,A0v,A1h,A0f,C0c,a1,aa,bs,tx21,gf,g3,e1]
     refine Next.mk (j+1) ⟨⟨by omega,hg.1,hg.2⟩,by omega⟩ (C4d (by omega) (fun q hq=>?_) (by simp -implicitDefEqProofs [S25,under]))
     simp only[R25,List.mem_cons,List.not_mem_nil,or_false]at hq
     rcases hq with rfl | rfl
     ·exact⟨rfl,by simp,rfl⟩
     ·exact⟨rfl,by simp,rfl⟩
  ·have e2:j=2:=by omega
   subst e2
   refine A0c cx21 ?_
   simp -implicitDefEqProofs [S25]
   exact Next.mk () ⟨hg0 (by omega),hg1 (by omega)⟩ (A0d rfl rfl (by simp -implicitDefEqProofs) (by simp -implicitDefEqProofs [R25]))
 ·rintro _ ⟨k0,k1⟩
  unfold C2g at k0 k1
  rw[Bool.and_eq_true]at k0 k1
  obtain⟨f0,m0⟩:=k0
  obtain⟨f1,m1⟩:=k1
  have hX0:=A4p f0 x0 (by simp)
  have hY0:=A4p f0 y0 (by simp)
  have hX1:=A4p f1 x1 (by simp)
  have hY1:=A4p f1 y1 (by simp)
  have hl2:h.2.length<=64:=by rw[hh];exact(C4n hd).2
  have hg:GPre h x0.nodes x1.nodes:=B9t hd hh hX0 hX1
  have hg':GPre h y0.nodes y1.nodes:=B9t hd hh hY0 hY1
  have gm:=B3p hu hv x0.ok x1.ok hg
  have gm':=B3p hu hv y0.ok y1.ok hg'
  have s1:=D0u hg hl2
  have s2:=D0u hg' hl2
  have gs:=A7z hu hv (IsS.tree eNd (genL (A2q h.1) x0.nodes x1.nodes)) (IsS.tree eNd (genL (A2q h.1) y0.nodes y1.nodes)) (C5r hd hh s1 s2)
  rw[G4m hg.1.join hX0.1.2 hX1.1.2 hY0.1.2 hY1.1.2 hg.2.2.2 hg'.2.2.2 m0 m1]at gs
  unfold genT at gm gm'
  generalize A0m eNd (genL (A2q h.1) x0.nodes x1.nodes)=z1 at *
  generalize A0m eNd (genL (A2q h.1) y0.nodes y1.nodes)=z2 at *
  unfold S25 R25
  refine A0c cx21 ?_
  simp -implicitDefEqProofs (maxDischargeDepth:=8) [A0f,C0c,a1,aa,tx21,gm,gm',gs,A4e]
end Go.Proofs.Ytbiadmfmjnoecaa
