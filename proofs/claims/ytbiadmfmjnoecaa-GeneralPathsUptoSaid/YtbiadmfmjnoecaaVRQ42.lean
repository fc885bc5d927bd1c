/-
 Auxiliary facts. No statement of the program stands here.
-/
import Derived.Test.YtbiadmfmjnoecaaVRQ41
import Derived.Test.YtbiadmfmjnoecaaVRQ38
import Derived.Test.YtbiadmfmjnoecaaVRQ29
import Derived.Test.YtbiadmfmjnoecaaVRQ30
import Derived.Test.YtbiadmfmjnoecaaVRQ36
import Derived.Test.YtbiadmfmjnoecaaVRQ31
namespace Go.Proofs.Ytbiadmfmjnoecaa
set_option linter.unusedSimpArgs false
set_option linter.unusedVariables false
open Go Go.Abs
def GPre (h:List Typ×List Ft) (a b:List Nd):Prop:=JOK h.1/\(A1n h.1.length h.2.length a/\A1n h.1.length h.2.length b)/\(A3g a/\A3g b)/\a.length*b.length<=4096
def genT (h:List Typ×List Ft) (a b:List Nd):T:=.ag [A0k eNd (genL (A7d h.1) a b)]
theorem G5i {tt tf ta tb:T} {h:List Typ×List Ft} {a b:List Nd} (hT:IsS eTyp tt h.1) (hF:IsS eFt tf h.2) (hta:IsS eNd ta a) (htb:IsS eNd tb b) (hg:GPre h a b) :
  A0y Try.prog G 34 [.ag [tt,tf],.ag [ta],.ag [tb]] (· = genT h a b):=by
 obtain⟨hj,⟨ha,hb⟩,⟨sa,sb⟩,_⟩:=hg
 have hz:eNd.z=2:=rfl
 refine A8g.call rfl ?_
 unfold A4r
 have cph:A0w (.t (.ag [tt,tf]))=some [.t tt,.t tf]:=rfl
 have cpa:∀x:T,A0w (.t (.ag [x]))=some [.t x]:=fun _=>rfl
 have agh:agOf [.t tt,.t tf] = .t (.ag [tt,tf]):=rfl
 have aga:∀x:T,agOf [.t x] = .t (.ag [x]):=fun _=>rfl
 have bdG:∀{Φ:A1c} {H:Heap} {nx:Nat},A0m Φ H nx (.build [(0,2),(2,1),(3,1),(4,1),(5,1)] [.slice none 0 0,.slice none 0 0,.slice none 0 0,.slice none 0 0,.map none,.slice none 0 0] [0,1,2,3]) [.t (.ag [tt,tf]),.t (.ag [ta]),.t (.ag [tb]),.mp 4]=some (.ag [.t tt,.t tf,.t ta,.t tb,.mp 4,.t nilS],H,nx):=rfl
 have cpg:A0w (.ag [.t tt,.t tf,.t ta,.t tb,.mp 4,.t nilS])=some [.t tt,.t tf,.t ta,.t tb,.mp 4,.t nilS]:=rfl
 have bd0:∀{Φ:A1c} {H:Heap} {nx:Nat},A0m Φ H nx (.build [(0,1),(1,1)] [.int .i64 0,.int .i64 0] [0,1]) [.t (.v (.int .i64 0)),.t (.v (.int .i64 0))]=some (.t (.ag [iv 0,iv 0]),H,nx):=rfl
 refine A0a cv4 ?_
 simp -implicitDefEqProofs [cph,cpa]
 refine A0a cv4 ?_
 simp -implicitDefEqProofs [A0f,agh,aga,-evalK_build,bdG,cpg]
 obtain⟨Hb,hHb⟩:∃Hb:Heap,Hb=[(5,gzR tt tf ta tb 4 0 []),(4,mapR []),(3,.cells 25 [.t nilS]),(2,.cells 25 [.t tb]),(1,.cells 25 [.t ta]),(0,.cells 29 [.t tt,.t tf])]:=⟨_,rfl⟩
 have wb:Gz tt tf ta tb 5 4 0 [] [] Hb:=by
  rw[hHb]
  exact⟨rfl,rfl,A0j.nil _ _ _ _,by omega,by omega,by omega⟩
 have cp:A5s Try.prog G 65 [.ptr 5 0,.t (.ag [iv 0,iv 0])] Hb 6 (.t (iv (idxK (genO a b) (0,0):Int))) (gzH tt tf ta tb 5 4 6 (genO a b) (genL (A7d h.1) a b) (rem (rem (rem Hb 5) 4) 0)) 7:=
  G0o (E5i hT hF hta htb hj ha hb sa sb (a.length*b.length) (0,0) [] [] (C9r ha hb) List.nodup_nil (by simp) rfl (by rw[B5a,B5d];exact Nat.le_refl _)) wb (by omega) (by omega) (by omega)
 obtain⟨Hc,hHc⟩:∃Hc,Hc=gzH tt tf ta tb 5 4 6 (genO a b) (genL (A7d h.1) a b) (rem (rem (rem Hb 5) 4) 0):=⟨_,rfl⟩
 have wc:Gz tt tf ta tb 5 4 6 (genO a b) (genL (A7d h.1) a b) Hc:=by rw[hHc];exact Gz.mk' _ _ _ (by omega) (by omega) (by omega)
 have v3:Abs.look Hc 3=some (.cells 25 [.t nilS]):=by rw[hHc,A8o (by omega) (by omega) (by omega),rem3 (by omega) (by omega) (by omega),hHb];rfl
 rw[<-hHc]at cp
 have hfr:(∀b0 x0,Abs.look Hb b0=some x0->b0<6)->∀b0 x0,Abs.look Hc b0=some x0->b0<7:=fun hb0 b0 x0 h0=>by
  rw[hHc]at h0
  rcases B5j (A0p h0)with e | e | ⟨_,e⟩ | hq
  ·injection e with e _;omega
  ·injection e with e _;omega
  ·injection e with e _;omega
  ·have hq:=A6j (A6j (A6j hq))
   rw[hHb]at hq
   simp only[List.mem_cons,List.not_mem_nil,or_false]at hq
   rcases hq with e | e | e | e | e | e<;>(injection e with e _;omega)
 have cv:Ctx Try.prog G (orh [] [(65,hOne [.ptr 5 0,.t (.ag [iv 0,iv 0])] Hb 6 (.t (iv (idxK (genO a b) (0,0):Int)),Hc,7))]):=A1t.nil.ctxH (A8b.cons (hOne_ok cp hfr) .nil) A1u
 refine A0a cv ?_
 have hHb2:((5,Row.cells 88 [.t tt,.t tf,.t ta,.t tb,.mp 4,.t nilS])::(4,Row.map (.ints 2) [])::(3,Row.cells 25 [.t nilS])::(2,Row.cells 25 [.t tb])::(1,Row.cells 25 [.t ta])::[(0,Row.cells 29 [.t tt,.t tf])])=Hb:=hHb.symm
 simp -implicitDefEqProofs [hHb2,-evalK_build,bd0,hOne_eq]
 obtain⟨w1,w2,w3,w4,w5⟩:=wc.ld
 obtain⟨gs,hgs⟩:∃gs,gs=genL (A7d h.1) a b:=⟨_,rfl⟩
 rw[<-hgs]at w5 wc
 have hres:genT h a b = .ag [A0k eNd gs]:=by rw[hgs];rfl
 obtain⟨q,hq1,hq2,hq3⟩:=G6b eNd 61 6 gs
 have bdF:∀{Φ:A1c} {H:Heap} {nx:Nat},A0m Φ H nx (.build [(0,1)] [.slice none 0 0] [0]) [rowP eNd 6 gs]=some (q,H,nx):=fun {Φ H nx}=>by
  rw[<-hq1]
  cases gs<;>rfl
 have sto:A1e 1 Hc (.ptr 3 0) q=some (upd Hc 3 (.cells 25 [rowP eNd 6 gs])):=by
  simp only[A1e,hq2,v3]
  rfl
 have v3':Abs.look (upd Hc 3 (.cells 25 [rowP eNd 6 gs])) 3=some (.cells 25 [rowP eNd 6 gs]):=by rw[A0u,if_pos rfl,v3];rfl
 have ld':A0f true 1 (upd Hc 3 (.cells 25 [rowP eNd 6 gs])) (.ptr 3 0)=some q:=by
  simp only[A0f,v3']
  simp[hq1]
 have tt':=hq3 (upd Hc 3 (.cells 25 [rowP eNd 6 gs])) (wc.nd.imp id fun h=>by rw[A0u,if_neg (by omega)];exact h)
 refine A0d cv ?_
 simp -implicitDefEqProofs [w5,-evalK_build,bdF,sto,ld',tt',hres]
noncomputable def gGen:List T->Option T:=g3 tH tFS tFS fun h a b=>open Classical in if GPre h a b then some (genT h a b)else none
theorem G9y {F:Nat} (hc:∀{tt tf ta tb:T} {h:List Typ×List Ft} {a b:List Nd},IsS eTyp tt h.1->IsS eFt tf h.2->IsS eNd ta a->IsS eNd tb b->GPre h a b->A0y Try.prog G F [.ag [tt,tf],.ag [ta],.ag [tb]] (· = genT h a b)):GOK Try.prog G F gGen:=F0n fun x y z h a b r hx hy hz hr=>by
 obtain⟨u,v,rfl,hu,hv⟩:=hx
 obtain⟨ta,rfl,hta⟩:=hy
 obtain⟨tb,rfl,htb⟩:=hz
 split at hr
 ·rename_i hl;injection hr with hr;subst hr;exact hc hu hv hta htb hl
 ·cases hr
theorem G9z {u v ta tb:T} {h:List Typ×List Ft} {a b:List Nd} (hu:IsS eTyp u h.1) (hv:IsS eFt v h.2) (hta:IsS eNd ta a) (htb:IsS eNd tb b) (hg:GPre h a b):gGen [.ag [u,v],.ag [ta],.ag [tb]]=some (genT h a b):=
 (F0o (τ:=tH) (σ:=tFS) (ρ:=tFS) ⟨u,v,rfl,hu,hv⟩ ⟨ta,rfl,hta⟩ ⟨tb,rfl,htb⟩).trans (if_pos hg)
theorem H0a:GOK Try.prog G 34 gGen:=G9y G5i
def allT (h:List Typ×List Ft) (l:List FSv):T:=.tu [.ag [A0k eNd (allL (A7d h.1) (l.map FSv.nodes))],bv (decide (0<l.length))]
section
variable {t : T} {b : Nat -> Bool} {Φ : A1c}
def plus (b:Nat->Bool) (i:Nat):Nat->Bool:=fun j=>if i=j then true else b j
theorem ld63:A0f false 1 (h63 t b) (.ptr 0 0)=some (.t t):=by simp[A0f,(E8s t b).1,fsR]
theorem mk63:B9p 4 1 1 [.bool false] (.t (iv 6)) (.t (iv 6)) 5=some (.row 5 0 6 1,z63):=rfl
theorem D3w {i d:Nat} {v:PV} (hh:h63 t (plus b i)=h63 t b) (he:∀q∈e63 t (plus b i),Abs.look ((d,v)::e63 t b) q.1=some q.2):Sub Try.prog G 0 ⟨(d,v)::e63 t b,h63 t b,5,33⟩ (s63 t (plus b i)):=by
 unfold s63
 rw[hh]
 exact A7w he
theorem H2n (h:b 0=false):Sub Try.prog G 0 ⟨(7,.ptr 0 0)::e63 t b,h63 t b,5,33⟩ (s63 t (plus b 0)):=D3w rfl (by simp -implicitDefEqProofs [e63,plus])
theorem H2o (h:b 1=false):Sub Try.prog G 0 ⟨(8,.t t)::e63 t b,h63 t b,5,33⟩ (s63 t (plus b 1)):=D3w rfl (by simp -implicitDefEqProofs [e63,plus])
theorem H2p (h:b 2=false):Sub Try.prog G 0 ⟨(9,.t (iv 6))::e63 t b,h63 t b,5,33⟩ (s63 t (plus b 2)):=D3w rfl (by simp -implicitDefEqProofs [e63,plus])
theorem H2q (h:b 4=false):Sub Try.prog G 0 ⟨(11,.ptr 0 0)::e63 t b,h63 t b,5,33⟩ (s63 t (plus b 4)):=D3w rfl (by simp -implicitDefEqProofs [e63,plus])
theorem H2r (h:b 5=false):Sub Try.prog G 0 ⟨(12,.t t)::e63 t b,h63 t b,5,33⟩ (s63 t (plus b 5)):=D3w rfl (by simp -implicitDefEqProofs [e63,plus])
theorem H2s (h:b 6=false):Sub Try.prog G 0 ⟨(13,.t (iv 6))::e63 t b,h63 t b,5,33⟩ (s63 t (plus b 6)):=D3w rfl (by simp -implicitDefEqProofs [e63,plus])
theorem G0u {σ:Nat->Nat} {c:Bool} {k:Nat} (h:c=true->σ k=k):A2d σ (r63 c k)=r63 c k:=by
 cases c with
 | false=>rfl
 | true=>simp[r63,A2d,renL,ren,h rfl]
theorem G0v {c:Bool} {k:Nat} (hk:k<5):A0z 5 (r63 c k)=true:=by
 cases c with
 | false=>rfl
 | true=>simp[r63,A0z,A1z,under,hk]
theorem C5y {i d k:Nat} {v:PV} {row:Row} (hk:(k=1/\i=3/\row=z63)\/(k=2/\i=7/\row=z63)\/(k=3/\i=8/\row=r63 false 1)\/(k=4/\i=9/\row=r63 false 2)) (hi:b i=false) (ok:Ok63 b)
  (he:∀q∈e63 t (plus b i),Abs.look ((d,v)::e63 t b) q.1=some (ren (fun x=>if x=k then 5 else x) q.2)/\under 5 q.2=true) :
  Sub Try.prog G 0 ⟨(d,v)::e63 t b,(5,row)::h63 t b,6,33⟩ (s63 t (plus b i)):=by
 obtain⟨l0,l1,l2,l3,l4⟩:=E8s t b
 have h10:i=3\/i=8->b 10=false:=fun h=>by
  cases hb:b 10 with
  | false=>rfl
  | true=>
   obtain⟨a1,a2⟩:=ok.a hb
   rcases h with rfl | rfl
   ·rw[hi]at a1;cases a1
   ·rw[hi]at a2;cases a2
 have h11:i=7\/i=9->b 11=false:=fun h=>by
  cases hb:b 11 with
  | false=>rfl
  | true=>
   obtain⟨a1,a2⟩:=ok.c hb
   rcases h with rfl | rfl
   ·rw[hi]at a1;cases a1
   ·rw[hi]at a2;cases a2
 have p10:plus b i 10=b 10:=by unfold plus;rw[if_neg (by omega)]
 have p11:plus b i 11=b 11:=by unfold plus;rw[if_neg (by omega)]
 have pj:∀j,j≠i->plus b i j=b j:=fun j h=>by unfold plus;rw[if_neg (Ne.symm h)]
 refine sub63 (k:=k) (by omega) (.inr trivial) (fun q hq e=>?_) (fun q hq e=>?_) (fun q hq=>?_) he
 ·rcases G9f hq with rfl | ⟨h,rfl⟩ | ⟨h,rfl⟩ | ⟨h,rfl⟩ | ⟨h,rfl⟩<;>simp only at e<;>subst e
  ·omega
  ·obtain⟨_,_,rfl⟩ | h' | h' | h':=hk
   ·rfl
   all_goals omega
  ·obtain h' | ⟨_,_,rfl⟩ | h' | h':=hk
   ·omega
   ·rfl
   all_goals omega
  ·obtain h' | h' | ⟨_,hi3,rfl⟩ | h':=hk
   ·omega
   ·omega
   ·rw[p10,h10 (.inr hi3)];rfl
   ·omega
  ·obtain h' | h' | h' | ⟨_,hi3,rfl⟩:=hk
   ·omega
   ·omega
   ·omega
   ·rw[p11,h11 (.inr hi3)];rfl
 ·rcases G9f hq with rfl | ⟨h,rfl⟩ | ⟨h,rfl⟩ | ⟨h,rfl⟩ | ⟨h,rfl⟩<;>simp only at e ⊢
  ·exact⟨rfl,l0⟩
  ·exact⟨rfl,l1 (by rw[<-pj 3 (by omega)];exact h)⟩
  ·exact⟨rfl,l2 (by rw[<-pj 7 (by omega)];exact h)⟩
  ·rw[p10]
   refine⟨G0u fun hc=>if_neg fun hk1=>?_,l3 (by rw[<-pj 8 (by omega)];exact h)⟩
   rw[h10 (.inl (by omega))]at hc
   cases hc
  ·rw[p11]
   refine⟨G0u fun hc=>if_neg fun hk1=>?_,l4 (by rw[<-pj 9 (by omega)];exact h)⟩
   rw[h11 (.inl (by omega))]at hc
   cases hc
 ·rcases G9f hq with rfl | ⟨h,rfl⟩ | ⟨h,rfl⟩ | ⟨h,rfl⟩ | ⟨h,rfl⟩
  ·exact⟨by show 0<5;omega,rfl⟩
  ·exact⟨by show 1<5;omega,rfl⟩
  ·exact⟨by show 2<5;omega,rfl⟩
  ·exact⟨by show 3<5;omega,G0v (by omega)⟩
  ·exact⟨by show 4<5;omega,G0v (by omega)⟩
theorem H2t (h:b 3=false) (ok:Ok63 b):Sub Try.prog G 0 ⟨(10,.row 5 0 6 1)::e63 t b,(5,z63)::h63 t b,6,33⟩ (s63 t (plus b 3)):=
 C5y (k:=1) (.inl ⟨rfl,rfl,rfl⟩) h ok (by simp -implicitDefEqProofs [e63,plus,E8t,C5v,ren,under])
theorem H2u (h:b 7=false) (ok:Ok63 b):Sub Try.prog G 0 ⟨(14,.row 5 0 6 1)::e63 t b,(5,z63)::h63 t b,6,33⟩ (s63 t (plus b 7)):=
 C5y (k:=2) (.inr (.inl ⟨rfl,rfl,rfl⟩)) h ok (by simp -implicitDefEqProofs [e63,plus,E8t,C5v,ren,under])
theorem H2v (h:b 8=false) (ok:Ok63 b):Sub Try.prog G 0 ⟨(3,.ptr 5 0)::e63 t b,(5,r63 false 1)::h63 t b,6,33⟩ (s63 t (plus b 8)):=
 C5y (k:=3) (.inr (.inr (.inl ⟨rfl,rfl,rfl⟩))) h ok (by simp -implicitDefEqProofs [e63,plus,E8t,C5v,ren,under])
theorem H2w (h:b 9=false) (ok:Ok63 b):Sub Try.prog G 0 ⟨(4,.ptr 5 0)::e63 t b,(5,r63 false 2)::h63 t b,6,33⟩ (s63 t (plus b 9)):=
 C5y (k:=4) (.inr (.inr (.inr ⟨rfl,rfl,rfl⟩))) h ok (by simp -implicitDefEqProofs [e63,plus,E8t,C5v,ren,under])
end
section
variable {t : T} {b : Nat -> Bool} {Φ : A1c}
theorem H0b (h3:b 3=true) (h8:b 8=true) (h:b 10=false):A1e 1 (h63 t b) (.ptr 3 0) (.row 1 0 6 1)=some (h63 t (plus b 10)):=by
 have e:upd (h63 t b) 3 (r63 true 1)=h63 t (plus b 10):=by
  show _=(0,fsR t)::((if b 3 then [(1,z63)]else [])++((if b 7 then [(2,z63)]else [])++((if b 8 then [(3,r63 true 1)]else [])++(if b 9 then [(4,r63 (b 11) 2)]else []))))
  unfold h63
  rw[h3,h8]
  cases b 7<;>cases b 9<;>rfl
 rw[<-e]
 have hl:=(E8s t b).2.2.2.1 h8
 rw[h]at hl
 simp only[A1e,hl,r63]
 rfl
theorem H0c (h7:b 7=true) (h9:b 9=true) (h:b 11=false):A1e 1 (h63 t b) (.ptr 4 0) (.row 2 0 6 1)=some (h63 t (plus b 11)):=by
 have e:upd (h63 t b) 4 (r63 true 2)=h63 t (plus b 11):=by
  show _=(0,fsR t)::((if b 3 then [(1,z63)]else [])++((if b 7 then [(2,z63)]else [])++((if b 8 then [(3,r63 (b 10) 1)]else [])++(if b 9 then [(4,r63 true 2)]else []))))
  unfold h63
  rw[h7,h9]
  cases b 3<;>cases b 8<;>rfl
 rw[<-e]
 have hl:=(E8s t b).2.2.2.2 h9
 rw[h]at hl
 simp only[A1e,hl,r63]
 rfl
theorem A7q {i j:Nat} (h:b j=true):plus b i j=true:=by
 unfold plus
 split
 ·rfl
 ·exact h
theorem E5j {i:Nat} (ok:Ok63 b) (h10:i=10->b 3=true/\b 8=true) (h11:i=11->b 7=true/\b 9=true):Ok63 (plus b i):=by
 refine⟨fun h=>?_,fun h=>?_⟩
 ·unfold plus at h
  split at h
  ·rename_i e
   exact⟨A7q (h10 e).1,A7q (h10 e).2⟩
  ·exact⟨A7q (ok.a h).1,A7q (ok.a h).2⟩
 ·unfold plus at h
  split at h
  ·rename_i e
   exact⟨A7q (h11 e).1,A7q (h11 e).2⟩
  ·exact⟨A7q (ok.c h).1,A7q (ok.c h).2⟩
theorem G5j (hΦ:Φ.Sound Try.prog G) {Q:Exit->A0b->Prop} {s:A0b} (hl:B0r (.t t)=some (.t (iv 6))) (h0:Sub Try.prog G 0 s (s63 t fun _=>false)) (stop:Q .normal (s63 t fun _=>true)):A3l Try.prog G 0 (.region 1 o63 true) Q s:=by
 refine E0p A1u hΦ H2i (s63 t) Ok63 (fun _=>rfl) (E5a F9s) h0 ⟨fun h=>(by cases h),fun h=>(by cases h)⟩ (fun b ok i o m ho hm hbi hdeps=>?_) (fun b ok hall=>?_)
 ·have hd:=E4z G9e ho hdeps
  clear hdeps ho
  have ok':(i≠10/\i≠11)->Ok63 (plus b i):=fun h=>E5j ok (fun e=>absurd e h.1) (fun e=>absurd e h.2)
  rcases i with _ | _ | _ | _ | _ | _ | _ | _ | _ | _ | _ | _ | i
  ·injection hm with hm;subst hm
   exact⟨rfl,.ptr 0 0,h63 t b,5,by simp -implicitDefEqProofs [s63,e63],ok' (by omega),H2n hbi⟩
  ·injection hm with hm;subst hm
   have d0:b 0=true:=hd 0 (by simp[dp63])
   exact⟨rfl,.t t,h63 t b,5,by simp -implicitDefEqProofs [s63,e63,d0,ld63],ok' (by omega),H2o hbi⟩
  ·injection hm with hm;subst hm
   have d1:b 1=true:=hd 1 (by simp[dp63])
   exact⟨rfl,.t (iv 6),h63 t b,5,by simp -implicitDefEqProofs [s63,e63,d1,hl],ok' (by omega),H2p hbi⟩
  ·injection hm with hm;subst hm
   have d2:b 2=true:=hd 2 (by simp[dp63])
   exact⟨rfl,.row 5 0 6 1,(5,z63)::h63 t b,6,by simp -implicitDefEqProofs [s63,e63,d2,mk63],ok' (by omega),H2t hbi ok⟩
  ·injection hm with hm;subst hm
   exact⟨rfl,.ptr 0 0,h63 t b,5,by simp -implicitDefEqProofs [s63,e63],ok' (by omega),H2q hbi⟩
  ·injection hm with hm;subst hm
   have d4:b 4=true:=hd 4 (by simp[dp63])
   exact⟨rfl,.t t,h63 t b,5,by simp -implicitDefEqProofs [s63,e63,d4,ld63],ok' (by omega),H2r hbi⟩
  ·injection hm with hm;subst hm
   have d5:b 5=true:=hd 5 (by simp[dp63])
   exact⟨rfl,.t (iv 6),h63 t b,5,by simp -implicitDefEqProofs [s63,e63,d5,hl],ok' (by omega),H2s hbi⟩
  ·injection hm with hm;subst hm
   have d6:b 6=true:=hd 6 (by simp[dp63])
   exact⟨rfl,.row 5 0 6 1,(5,z63)::h63 t b,6,by simp -implicitDefEqProofs [s63,e63,d6,mk63],ok' (by omega),H2u hbi ok⟩
  ·injection hm with hm;subst hm
   exact⟨rfl,.ptr 5 0,(5,r63 false 1)::h63 t b,6,rfl,ok' (by omega),H2v hbi ok⟩
  ·injection hm with hm;subst hm
   exact⟨rfl,.ptr 5 0,(5,r63 false 2)::h63 t b,6,rfl,ok' (by omega),H2w hbi ok⟩
  ·injection hm with hm;subst hm
   have d3:b 3=true:=hd 3 (by simp[dp63])
   have d8:b 8=true:=hd 8 (by simp[dp63])
   exact⟨rfl,.t (.v undef),h63 t (plus b 10),5,by simp -implicitDefEqProofs [s63,e63,d3,d8,H0b d3 d8 hbi],E5j ok (fun _=>⟨d3,d8⟩) (fun e=>by omega),Sub.refl _⟩
  ·injection hm with hm;subst hm
   have d7:b 7=true:=hd 7 (by simp[dp63])
   have d9:b 9=true:=hd 9 (by simp[dp63])
   exact⟨rfl,.t (.v undef),h63 t (plus b 11),5,by simp -implicitDefEqProofs [s63,e63,d7,d9,H0c d7 d9 hbi],E5j ok (fun e=>by omega) (fun _=>⟨d7,d9⟩),Sub.refl _⟩
  ·simp[l63]at hm
 ·have e:s63 t b=s63 t fun _=>true:=by
   have h:=fun i hi=>hall i (by rw[H2j];exact hi)
   simp only[s63,e63,h63,h 0 (by omega),h 1 (by omega),h 2 (by omega),h 3 (by omega),h 4 (by omega),h 5 (by omega),h 6 (by omega),h 7 (by omega),h 8 (by omega),h 9 (by omega),h 10 (by omega),h 11 (by omega)]
  rw[e]
  exact stop
end
set_option maxRecDepth 100000
def sixT:T:=.sl 6 [iv 0,.sl 1 [iv 0,iv 1],iv 0,.sl 1 [iv 0,iv 2],iv 0,.sl 1 [iv 0,iv 3],iv 0,.sl 1 [iv 0,iv 4],iv 0,.sl 1 [iv 0,iv 5],iv 0,.sl 1 [iv 0,iv 0]]
def vs63:List RV:=[.tmp 2]
def H0d:List (Nat×FnM):=[(86,⟨5,49,A7y,[.tmp 6]⟩)]
theorem G5k:D6a Try.prog G H0d:=by
 intro q hq
 simp only[H0d,List.mem_cons,List.not_mem_nil,or_false]at hq
 subst hq
 exact⟨Try.f86,Try.func86,by kernel_rfl,by kernel_rfl,by kernel_rfl,by kernel_rfl⟩
def Φ63:A1c:=E0k H0d [] 60 20
theorem G0w:Ctx Try.prog G Φ63:=⟨A1u,A2r A1u G5k A5m.nil 60 20⟩
theorem G5l {P:Program} {B nx n:Nat} {env env':List (Nat×PV)} {H:Heap} (he:∀q∈env',q.2 = .dead\/Abs.look env q.1=some q.2):Sub P G B ⟨env,H,nx,n⟩ ⟨env',H,nx,n⟩:=fun L a w hi=>
 ⟨L,⟨hi.heap,hi.nx,hi.base,hi.size,hi.defers,fun k p hl=>by
  rcases he (k,p) (A0p hl)with h | h
  ·have h:p = .dead:=h
   rw[h]
   simp only[RepV]
  ·exact hi.env k p h⟩,Ext.refl _ _ _,fun _ _=>rfl⟩
def G6k:Bool:=match runF Φ63 60 M63b (s63 sixT fun _=>true)with
 | some (.ret,s)=>(match resM s vs63 with
  | some [.t (.v (.bool true))]=>true
  | _=>false)
 | _=>false
theorem G0x:G6k=true:=by kernel_rfl
theorem run63:∃s,runF Φ63 60 M63b (s63 sixT fun _=>true)=some (.ret,s)/\resM s vs63=some [.t (bv true)]:=by
 have h:=G0x
 unfold G6k at h
 split at h
 ·rename_i s hs
  split at h
  ·rename_i hr
   exact⟨s,hs,hr⟩
  ·cases h
 ·cases h
theorem H0e:Try.f63.results.toList.mapM (B6v Try.prog)=some vs63:=by kernel_rfl
theorem H0f (args:List PV) (h:args=[.t (.ag [sixT])]):E5q Try.f63 args=⟨[(0,.t (.ag [sixT]))],[],0,33⟩:=by
 subst h
 have:1+(Try.f63.ntmps-1)=33:=by kernel_rfl
 show(⟨[(0,.t (.ag [sixT]))],[],0,1+(Try.f63.ntmps-1)⟩:A0b)=_
 rw[this]
theorem F3l:A0y Try.prog G 63 [.ag [sixT]] (· = bv true):=by
 refine D4b Try.func63 G4t (by kernel_rfl) ?_
 rw[show([T.ag [sixT]].map PV.t)=[.t (.ag [sixT])]from rfl,H0f _ rfl,H2h]
 refine A8s ?_
 have hb:A3l Try.prog G 0 (.seq (.region 1 o63 true) c63b) (Abs.Ends Try.prog G Try.f63 (· = bv true)) ⟨[(2,.t (.v (.bool false))),(1,.ptr 0 0),(0,.t (.ag [sixT]))],[(0,.cells 25 [.t sixT])],1,33⟩:=by
  refine A8s (G5j (t:=sixT) G0w.sound rfl ?_ ?_)
  ·refine(B8y (nx':=5) (env':=[(2,.t (bv false)),(1,.ptr 0 0)]) (R:=[(0,.cells 25 [.t sixT])]) (Nat.zero_le _) (by simp -implicitDefEqProofs [A0z,A1z,under]) (by simp -implicitDefEqProofs [under])).trans ?_
   refine G5l fun q hq=>?_
   simp only[e63,List.mem_cons,List.not_mem_nil,or_false]at hq
   rcases hq with rfl | rfl | rfl | rfl | rfl | rfl | rfl | rfl | rfl | rfl | rfl | rfl<;>first | exact .inl rfl | exact .inr rfl
  ·obtain⟨s',h1,h2⟩:=run63
   refine A5h G0w 60 M63b h1 ?_ c63b G9d rfl
   refine⟨s',bv true,Sub.refl _,?_,rfl⟩
   unfold A5r
   rw[C1y H0e h2]
 have h0:A4q Φ63 M63a ⟨[(0,.t (.ag [sixT]))],[],0,33⟩ (Then Try.prog G 0 (.seq (.region 1 o63 true) c63b) (Abs.Ends Try.prog G Try.f63 (· = bv true))):=by
  have cpa:∀x:T,A0w (.t (.ag [x]))=some [.t x]:=fun _=>rfl
  unfold M63a
  simp -implicitDefEqProofs [cpa]
  exact hb
 exact A0d G0w h0 c63a G9c rfl
end Go.Proofs.Ytbiadmfmjnoecaa
namespace Go.Abs
set_option linter.unusedSimpArgs false
set_option linter.unusedVariables false
open Go
def H2x (H:Heap) (F:List Nat):List Nat:=F.filter fun b=>match look H b with
 | some (.cells _ cs)=>(allT cs).isSome
 | _=>false
def frzR:Nat->A0b->A0b
 | 0,s=>s
 | k+1,s=>match H2x s.H (G8h s.H)with
  | []=>s
  | F=>frzR k (s.frz F)
def G0y (tab:List (Nat×FnM)) (rounds:Nat) (Φ:A1c) (f:FuncId) (args:List T):Option T:=
 match look tab f with
 | some fm=>if args.length=fm.k then
   (match runF Φ rounds fm.M (startM fm.N args)with
   | some (.ret,s)=>resT fm.vs (frzR 4 s)
   | _=>none)
  else none
 | none=>none
def E9g (tab:List (Nat×FnM)) (memo:Memo) (rounds:Nat):Nat->A1c
 | 0=>⟨memo.get,fun _ _ _ _=>none⟩
 | n+1=>⟨fun f args=>match memo.get f args with
   | some r=>some r
   | none=>G0y tab rounds (E9g tab memo rounds n) f args,E7r tab rounds (E9g tab memo rounds n)⟩
section
variable {P : Program} {G : A1f} {B : Nat} {Φ : A1c}
theorem E9h:∀(k:Nat) (s:A0b),Sub P G B s (frzR k s)
 | 0,s=>Sub.refl s
 | k+1,s=>by
  unfold frzR
  split
  ·exact Sub.refl s
  ·exact(B0e _).trans (E9h k _)
theorem E1r (hm:P.follows .mixedOrders=true) {tab:List (Nat×FnM)} (ht:D6a P G tab) (rounds:Nat) (hΦ:Φ.Sound P G) (f:FuncId) (args:List T) (r:T) (h:G0y tab rounds Φ f args=some r):A0y P G f args (· = r):=by
 unfold G0y at h
 split at h
 ·rename_i fm hf
  split at h
  ·rename_i hk
   split at h
   ·rename_i s hr
    unfold resT at h
    split at h
    ·rename_i ps hps
     split at h
     ·rename_i r' F hT
      injection h with h;subst h
      refine(ht _ (A0p hf)).call hk fun c hc hn=>?_
      exact(A5h (Q:=fun e s1=>e = .ret/\s1=s) ⟨hm,hΦ⟩ rounds fm.M hr ⟨rfl,rfl⟩ c hc hn).post fun e s1 hq=>⟨frzR 4 s1,E9h 4 s1,by
       obtain⟨rfl,rfl⟩:=hq
       exact⟨.inr rfl,ps,r',F,hps,hT,rfl⟩⟩
     ·cases h
    ·cases h
   ·cases h
  ·cases h
 ·cases h
theorem B0c (hm:P.follows .mixedOrders=true) {tab:List (Nat×FnM)} (ht:D6a P G tab) {memo:Memo} (hme:A5m P G memo) (rounds:Nat):∀n,(E9g tab memo rounds n).Sound P G
 | 0=>⟨fun _ _ _ h=>Memo.get_sound hme h,fun _ _ _ _ _ _ _ h=>(by cases h),fun _ _ _ _ _ _ _ h=>(by cases h)⟩
 | n+1=>⟨fun f args r h=>by
   simp only[E9g]at h
   split at h
   ·rename_i r' hr
    injection h with h
    subst h
    exact Memo.get_sound hme hr
   ·exact E1r hm ht rounds (B0c hm ht hme rounds n) f args r h,
   fun f ps H nx r H' nx' h=>(A9y hm ht rounds (B0c hm ht hme rounds n) f ps H nx r H' nx' h).1,
   fun f ps H nx r H' nx' h _=>(A9y hm ht rounds (B0c hm ht hme rounds n) f ps H nx r H' nx' h).2⟩
end
end Go.Abs
namespace Go.Proofs.Ytbiadmfmjnoecaa
set_option linter.unusedSimpArgs false
set_option linter.unusedVariables false
open Go Go.Abs
set_option maxRecDepth 100000
def tabN:List (Nat×FnM):=[(65,⟨2,117,A2j,[(.tmp 4)]⟩),(34,⟨3,22,A4r,[(.cell 6 true 1)]⟩),(37,⟨2,29,C1m,[(.cell 4 true 1),(.tmp 5)]⟩),(41,⟨3,52,B9h,[(.tmp 6)]⟩),(67,⟨2,19,C9z,[(.tmp 4)]⟩),(35,⟨3,112,B3a,[(.cell 6 true 1)]⟩),(38,⟨2,29,E1i,[(.cell 4 true 1),(.tmp 5)]⟩),(62,⟨2,32,D3u,[(.cell 4 true 2)]⟩),(61,⟨1,5,E8r,[(.cell 2 true 1)]⟩),(60,⟨0,17,D0c,[(.cell 0 true 2)]⟩),(32,⟨0,114,B0b,[(.tmp 0)]⟩),(86,⟨1,49,A7y,[(.tmp 6)]⟩)]
theorem H0g:D6a Try.prog G tabN:=by
 intro q hq
 simp only[tabN,List.mem_cons,List.not_mem_nil,or_false]at hq
 rcases hq with rfl | rfl | rfl | rfl | rfl | rfl | rfl | rfl | rfl | rfl | rfl | rfl
 ·exact A3b
 ·exact A8g
 ·exact D6w
 ·exact C9y
 ·exact E4x
 ·exact C5h
 ·exact F9r
 ·exact F3c
 ·exact G4s
 ·exact E4y
 ·exact C1n
 ·exact C5i
def tabZ:List (Nat×FnM):=tabN++tabX
theorem G0z:D6a Try.prog G tabZ:=by
 intro q hq
 rcases List.mem_append.1 hq with h | h
 ·exact H0g q h
 ·exact B9a q h
theorem G1a:A0y Try.prog G 60 [] (· = E0n):=(A2r A1u G0z (memo:=[(45,E7v,E7w)]) (A5m.cons H1h A5m.nil) 400 30).t _ _ _ (by kernel_rfl)
theorem G1b:A0y Try.prog G 32 [] (· = .v (.bool true)):=(B0c A1u G0z (memo:=[(60,[],E0n),(63,[.ag [sixT]],bv true)]) (A5m.cons G1a (.cons F3l A5m.nil)) 400 30).t _ _ _ (by kernel_rfl)
theorem G1c {d:List TD} (hd:d.length<=12->DOK d):(hOf d).1.length<=256/\(hOf d).2.length<=64:=by
 have main:∀d',DOK d'->A1i d'=0->(A8m d').length<=256/\(ftL d').length<=64:=fun d' h h5=>by
  refine⟨?_,?_⟩
  ·unfold A8m
   rw[C0z d' (Nat.le_refl _),C0t]
   exact B2s h5
  ·unfold ftL
   rw[List.length_map]
   exact(A2q h h5).fl
 unfold hOf
 split
 ·rename_i h
  exact main d (hd h.1) h.2
 ·split
  ·rename_i h
   exact main preD C3j h
  ·simp
theorem hOf_J {d:List TD} (hd:d.length<=12->DOK d):JOK (hOf d).1:=⟨H1j hd,by have:=(G1c hd).1;omega,G8s hd,G4j hd,G8p hd⟩
theorem F3n {nt nf:Nat} {l:List FSv} (h:D1c nt nf l=true):∀x∈l,(A3g x.nodes/\A1n nt nf x.nodes)/\x.nodes.length<=12:=by
 intro x hx
 refine⟨F8i h x hx,?_⟩
 obtain⟨i,hi,e⟩:=List.getElem_of_mem hx
 have:=A5c (of_decide_eq_true h) i hi
 simp only[fitE,List.getElem?_eq_getElem hi,e]at this
 split at this
 ·rename_i hl
  exact(C7g hl).1
 ·cases this
theorem H0h {d:List TD} (hd:d.length<=12->DOK d) {h:List Typ×List Ft} (hh:h=hOf d) {a b:List Nd} (ha:(A3g a/\A1n h.1.length h.2.length a)/\a.length<=12) (hb:(A3g b/\A1n h.1.length h.2.length b)/\b.length<=12):GPre h a b:=
 ⟨by rw[hh];exact hOf_J hd,⟨ha.1.2,hb.1.2⟩,⟨ha.1.1,hb.1.1⟩,Nat.le_trans (Nat.mul_le_mul ha.2 hb.2) (by decide)⟩
theorem H2y {h:List Typ×List Ft} {a b:List Nd} (hg:GPre h a b) (hf:h.2.length<=64):A3g (genL (A7d h.1) a b)/\A1n h.1.length h.2.length (genL (A7d h.1) a b):=
 ⟨F9e hg.2.1.1 hg.2.1.2 hg.2.2.2 hg.1.join (by omega),C1i hg.1.join hg.2.1.1 hg.2.1.2 hg.2.2.2⟩
noncomputable def E5k:List T->Option T:=g1 (tSl eTD) fun d=>open Classical in if d.length<=12->DOK d then some (hT d)else none
theorem F3o:GOK Try.prog G 30 E5k:=C4w fun a d r ha hr=>by
 split at hr
 ·rename_i h;injection hr with hr;subst hr;exact D1b rfl D0b ha h
 ·cases hr
theorem F3p {t:T} {d:List TD} (ht:IsS eTD t d) (hd:d.length<=12->DOK d):E5k [t]=some (hT d):=(C4x (τ:=tSl eTD) ht).trans (if_pos hd)
theorem F3q:GOK Try.prog G 31 G8l:=A6w fun a b h l r ha hb hr=>by
 obtain⟨u,v,rfl,hu,hv⟩:=ha
 split at hr
 ·rename_i hl;injection hr with hr;subst hr;exact F8k rfl F3b hu hv hb hl
 ·cases hr
def G5m:List T->Option T
 | []=>some (.v (.bool true))
 | _=>none
theorem G5n:GOK Try.prog G 32 G5m:=by
 intro args r h
 unfold G5m at h
 split at h
 ·injection h with h;subst h;exact G1b
 ·cases h
theorem E9i:G5m []=some (.v (.bool true)):=rfl
end Go.Proofs.Ytbiadmfmjnoecaa
