/-
 Auxiliary facts. No statement of the program stands here.
-/
import Derived.Test.YtbiadmfmjnoecaaVPQ30
import Derived.Test.YtbiadmfmjnoecaaVPQ31
namespace Go.Proofs.Ytbiadmfmjnoecaa
set_option linter.unusedSimpArgs false
set_option linter.unusedVariables false
open Go Go.Abs
def mkTD (name:Str) (ss:List Str) (fs:List FD):TD:=⟨name,A0l eStr ss,A0l eFD fs⟩
theorem F9t {name:Str} {ss:List Str} {fs:List FD} (h1:ss.length<=cap) (h2:fs.length<=cap) (h3:name.size<=cap) (h4:∀f∈fs,f.feat.size<=cap):(mkTD name ss fs).OK:=by
 have e1:(mkTD name ss fs).ss=ss:=TD.ss_eq (IsS.tree _ _)
 have e2:(mkTD name ss fs).fs=fs:=TD.fs_eq (IsS.tree _ _)
 exact⟨by rw[e1];exact IsS.tree _ _,by rw[e2];exact IsS.tree _ _,by rw[e1];exact h1,by rw[e2];exact h2,h3,by rw[e2];exact h4⟩
def preD:List TD:=[mkTD ⟨#[116,111,112]⟩ [] [],
 mkTD ⟨#[108,105,115,116]⟩ [⟨#[116,111,112]⟩] [],
 mkTD ⟨#[99,111,110,115]⟩ [⟨#[108,105,115,116]⟩] [⟨⟨#[70,73,82,83,84]⟩,⟨#[116,111,112]⟩⟩,⟨⟨#[82,69,83,84]⟩,⟨#[108,105,115,116]⟩⟩],
 mkTD ⟨#[110,117,108,108]⟩ [⟨#[108,105,115,116]⟩] [],
 mkTD ⟨#[100,108,105,115,116]⟩ [⟨#[116,111,112]⟩] [⟨⟨#[76,73,83,84]⟩,⟨#[108,105,115,116]⟩⟩,⟨⟨#[76,65,83,84]⟩,⟨#[108,105,115,116]⟩⟩],
 mkTD ⟨#[105,110,100,101,120]⟩ [⟨#[116,111,112]⟩] [],
 mkTD ⟨#[104,97,110,100,108,101]⟩ [⟨#[105,110,100,101,120]⟩] [],
 mkTD ⟨#[101,118,101,110,116]⟩ [⟨#[105,110,100,101,120]⟩] [],
 mkTD ⟨#[101,110,116,105,116,121]⟩ [⟨#[105,110,100,101,120]⟩] [],
 mkTD ⟨#[114,101,108]⟩ [⟨#[116,111,112]⟩] [⟨⟨#[76,65,66,69,76]⟩,⟨#[104,97,110,100,108,101]⟩⟩],
 mkTD ⟨#[113,101,113]⟩ [⟨#[116,111,112]⟩] [⟨⟨#[72,73,71,72]⟩,⟨#[104,97,110,100,108,101]⟩⟩,⟨⟨#[76,79,87]⟩,⟨#[104,97,110,100,108,101]⟩⟩],
 mkTD ⟨#[115,101,109]⟩ [⟨#[116,111,112]⟩] [⟨⟨#[84,79,80]⟩,⟨#[104,97,110,100,108,101]⟩⟩,⟨⟨#[73,78,68,69,88]⟩,⟨#[105,110,100,101,120]⟩⟩,⟨⟨#[82,69,76,83]⟩,⟨#[100,108,105,115,116]⟩⟩,⟨⟨#[67,79,78,83]⟩,⟨#[100,108,105,115,116]⟩⟩],
 mkTD ⟨#[115,105,103,110]⟩ [⟨#[116,111,112]⟩] [⟨⟨#[83,69,77]⟩,⟨#[115,101,109]⟩⟩,⟨⟨#[65,82,71,83]⟩,⟨#[108,105,115,116]⟩⟩]]
theorem F9u:IsS eTD B1g preD:=.inr rfl
theorem F2c:DOK preD:=by
 refine⟨by decide,fun x hx=>?_⟩
 simp only[preD,List.mem_cons,List.not_mem_nil,or_false]at hx
 rcases hx with rfl | rfl | rfl | rfl | rfl | rfl | rfl | rfl | rfl | rfl | rfl | rfl | rfl<;>exact F9t (by decide) (by decide) (by decide) (by decide)
theorem F2d:A0y Try.prog G 46 [] (· = B1g):=G1z
noncomputable def hOf (d:List TD):List Typ×List Ft:=if d.length<=12/\A1h d=0 then(C7y d,ftL d)else if A1h preD=0 then(C7y preD,ftL preD)else([],[])
noncomputable def hT (d:List TD):T:=.ag [A0l eTyp (hOf d).1,A0l eFt (hOf d).2]
theorem F2e {d:List TD} (hd:DOK d) (h:A1h d=0):TyOK (C7y d):=by
 intro x hx
 obtain⟨c,hc,e⟩:=D2g hx
 have:=(A8r hd h).cod.size c hc
 rw[e]
 omega
theorem G2a {d:List TD} (hd:d.length<=12->DOK d):TyOK (hOf d).1:=by
 unfold hOf
 split
 ·rename_i h
  exact F2e (hd h.1) h.2
 ·split
  ·rename_i h
   exact F2e F2c h
  ·intro x hx
   cases hx
noncomputable def F6h:List T->Option T
 | []=>some B1g
 | _=>none
theorem F6i:GOK Try.prog G 46 F6h:=by
 intro args r h
 unfold F6h at h
 split at h
 ·injection h with h;subst h;exact F2d
 ·cases h
noncomputable def tw15:Tbl:=[(45,gD B4x),(46,F6h)]
theorem E6s:Ctx Try.prog G (orc tw15):=(A1q.cons (B2w D6h) (.cons F6i .nil)).ctx A1w
theorem C7z {F:Nat} {M:A0n} (hM:M=A5b) (k:FnOK Try.prog G F 1 24 M [.cell 2 true 2]) {t:T} {d:List TD} (ht:IsS eTD t d) (hd:d.length<=12->DOK d):A0y Try.prog G F [t] (· = hT d):=by
 have gp:gD B4x [B1g]=some (B4x preD):=B1q F9u F2c
 have gq:F6h []=some B1g:=rfl
 obtain⟨pr,hpr⟩:∃pr,pr=B1g:=⟨_,rfl⟩
 rw[<-hpr]at gp gq
 have last:¬(d.length<=12/\A1h d=0)->∃u v e,B4x preD = .tu [.ag [u,v],iv e]/\hT d = .ag [u,v]:=by
  intro h
  unfold B4x hT hOf
  rw[if_neg h]
  by_cases hp:A1h preD=0
  ·rw[if_neg (by rw[hp];simp),if_pos hp]
   exact⟨_,_,_,rfl,rfl⟩
  ·rw[if_pos hp,if_neg hp]
   exact⟨_,_,_,rfl,rfl⟩
 subst hM
 refine k.call rfl ?_
 unfold A5b
 refine A0a E6s ?_
 simp -implicitDefEqProofs
 by_cases h12:d.length<=12
 ·have h12':(d.length:Int)<=12:=by omega
  have gc:gD B4x [t]=some (B4x d):=B1q ht (hd h12)
  by_cases hE:A1h d=0
  ·have hc:B4x d = .tu [.ag [A0l eTyp (C7y d),A0l eFt (ftL d)],iv 0]:=by unfold B4x;rw[if_neg (by rw[hE];simp)]
   have hr:hT d = .ag [A0l eTyp (C7y d),A0l eFt (ftL d)]:=by unfold hT hOf;rw[if_pos ⟨h12,hE⟩]
   generalize A0l eTyp (C7y d)=u at hc hr
   generalize A0l eFt (ftL d)=v at hc hr
   rw[hc]at gc
   have cg:A0s (.t (.ag [u,v]))=some [.t u,.t v]:=rfl
   have ag:agOf [.t u,.t v] = .t (.ag [u,v]):=rfl
   refine A0a E6s ?_
   simp -implicitDefEqProofs [ht.len,h12,h12',tw15,gc,extractV,A0h,A1e,cg,ag,A1t,hr]
  ·obtain⟨u,v,e,hc,hr⟩:=last (fun h=>hE h.2)
   rw[hc]at gp
   have hE':=A6h hE
   have hEb:(A1h d==0)=false:=by rw[beq_eq_false_iff_ne];exact hE
   have hcd:B4x d = .tu [.ag [nilS,nilS],iv (A1h d)]:=by unfold B4x;rw[if_pos hE]
   rw[hcd]at gc
   have cn:A0s (.t (.ag [nilS,nilS]))=some [.t nilS,.t nilS]:=rfl
   have cg:A0s (.t (.ag [u,v]))=some [.t u,.t v]:=rfl
   have ag:agOf [.t u,.t v] = .t (.ag [u,v]):=rfl
   refine A0a E6s ?_
   simp -implicitDefEqProofs [ht.len,h12,h12',tw15,gc,extractV,A0h,A1e,cn,A1t,hE,hEb]
   refine A0c E6s ?_
   simp -implicitDefEqProofs [tw15,gq,gp,extractV,A0h,A1e,cg,ag,A1t,hr]
 ·have h12':¬(d.length:Int)<=12:=by omega
  obtain⟨u,v,e,hc,hr⟩:=last (fun h=>h12 h.1)
  rw[hc]at gp
  have cg:A0s (.t (.ag [u,v]))=some [.t u,.t v]:=rfl
  have ag:agOf [.t u,.t v] = .t (.ag [u,v]):=rfl
  refine A0a E6s ?_
  simp -implicitDefEqProofs [ht.len,h12,h12']
  refine A0c E6s ?_
  simp -implicitDefEqProofs [tw15,gq,gp,extractV,A0h,A1e,cg,ag,A1t,hr]
theorem F6j:A0y Try.prog G 17 [] (· = .v (.bool true)):=(A2i A1w B3o (memo:=[(49,D6l,D6m)]) (A6r.cons F9s A6r.nil) 400 30).t _ _ _ (by kernel_rfl)
structure FSv where
 tree:T
 nodes:List Nd
 ok:IsS eNd tree nodes
def eFS:Enc FSv:=⟨1,fun x=>[x.tree],fun _=>rfl,by omega,fun a b h=>by
 obtain⟨a1,a2,a3⟩:=a
 obtain⟨b1,b2,b3⟩:=b
 injection h with h
 have h:a1=b1:=h
 subst h
 have:=(tSl eNd).uniq _ _ _ a3 b3
 subst this
 rfl⟩
theorem G2b {t:T} {l:List FSv} (h:IsS eFS t l) {i:Nat} {x:FSv} (hx:l[i]?=some x):A1k 1 (.t t) (.t (iv (i:Int)))=some (.t (.pt (x.tree::rest eFS l i))):=h.iaddr hx .i64
theorem B7j {l:List Nd} (h:A7f l=true):A3a l:=by
 obtain⟨h1,h2⟩:=D8b h
 exact⟨by omega,fun x hx=>by have:=h2 x hx;omega⟩
noncomputable def F2f:List T->Option T:=g1 tFS fun l=>some (bv (A7f l))
theorem F2g:GOK Try.prog G 47 F2f:=C2l fun a x r ha hr=>by
 obtain⟨u,rfl,hu⟩:=ha
 injection hr with hr;subst hr;exact E4r hu
theorem D6n {t:T} {l:List Nd} (ht:IsS eNd t l):F2f [.ag [t]]=some (bv (A7f l)):=C2m (τ:=tFS) ⟨t,rfl,ht⟩
noncomputable def D9w:List T->Option T:=g2 tH tFS fun h l=>open Classical in if A3a l then some (iv (A6b h.1.length h.2.length l))else none
theorem E6t:GOK Try.prog G 48 D9w:=A5x fun a b h l r ha hb hr=>by
 obtain⟨u,v,rfl,hu,hv⟩:=ha
 obtain⟨w,rfl,hw⟩:=hb
 split at hr
 ·rename_i hs;injection hr with hr;subst hr;exact D9p hu hv hw hs
 ·cases hr
theorem D0o {u v t:T} {ty:List Typ} {fe:List Ft} {l:List Nd} (hu:IsS eTyp u ty) (hv:IsS eFt v fe) (ht:IsS eNd t l) (hs:A3a l):D9w [.ag [u,v],.ag [t]]=some (iv (A6b ty.length fe.length l)):=
 (A4z (τ:=tH) (σ:=tFS) (x:=(ty,fe)) ⟨u,v,rfl,hu,hv⟩ ⟨t,rfl,ht⟩).trans (if_pos hs)
def fitE (nt nf:Nat) (l:List FSv) (i:Nat):Int:=match l[i]? with
 | some x=>if A7f x.nodes then A6b nt nf x.nodes else 1
 | none=>0
def D2k (nt nf:Nat) (l:List FSv):Bool:=decide (fst (fitE nt nf l) l.length=0)
theorem F2h {nt nf:Nat} {l:List FSv} (h:D2k nt nf l=true):∀x∈l,A3a x.nodes/\A2j nt nf x.nodes:=by
 intro x hx
 obtain⟨i,hi,e⟩:=List.getElem_of_mem hx
 have:=A5d (of_decide_eq_true h) i hi
 simp only[fitE,List.getElem?_eq_getElem hi,e]at this
 split at this
 ·rename_i hl
  exact⟨B7j hl,C7x this⟩
 ·cases this
noncomputable def tw16:Tbl:=[(47,F2f),(48,D9w)]
theorem F2i:Ctx Try.prog G (orc tw16):=(A1q.cons F2g (.cons E6t .nil)).ctx A1w
def R16 (tt tf:T):Heap:=[(0,.cells 29 [.t tt,.t tf])]
def S16 (tt tf tl:T) (n i:Nat):A0b:=⟨[(9,.t (iv (i:Int))),(8,.t (iv (n:Int))),(7,.t tl),(2,.ptr 0 0)],R16 tt tf,1,23⟩
theorem F2j {F:Nat} {M:A0n} (hM:M=B4c) (k:FnOK Try.prog G F 2 23 M [.tmp 4]) {tt tf tl:T} {ty:List Typ} {fe:List Ft} {l:List FSv} (hT:IsS eTyp tt ty) (hF:IsS eFt tf fe) (ht:IsS eFS tl l) (hl:l.length<=1000000):A0y Try.prog G F [.ag [tt,tf],tl] (· = bv (D2k ty.length fe.length l)):=by
 have cph:A0s (.t (.ag [tt,tf]))=some [.t tt,.t tf]:=rfl
 have agh:agOf [.t tt,.t tf] = .t (.ag [tt,tf]):=rfl
 subst hM
 refine k.call rfl ?_
 unfold B4c
 refine A0a F2i ?_
 simp -implicitDefEqProofs [cph]
 obtain⟨n,hle,h0,hn⟩:=A6l (fitE ty.length fe.length l) l.length
 refine A0q (fun _:Unit=>S16 tt tf tl l.length l.length) (fun _=>D2k ty.length fe.length l=true) (fun _=>rfl) ?_ ?_
 ·refine A0a F2i ?_
  simp -implicitDefEqProofs [ht.len]
  refine A0g ?_
  refine A1a (S16 tt tf tl l.length) n (fun _=>rfl) ?_ rfl ?_ ?_
  ·refine A0d rfl rfl ?_ ?_<;>simp -implicitDefEqProofs [S16,R16]
  ·intro j hj
   have hjl:j<l.length:=by omega
   obtain⟨x,hx⟩:∃x,l[j]?=some x:=⟨_,List.getElem?_eq_getElem hjl⟩
   have ix:=G2b ht hx
   have e1:IntKind.i64.wrap ((j:Int)+1)=((j+1:Nat):Int):=A0k (by omega) (by omega)
   have hz:=h0 j hj
   simp only[fitE,hx]at hz
   have hli:A7f x.nodes=true:=by
    cases h:A7f x.nodes with
    | true=>rfl
    | false=>rw[h]at hz;simp at hz
   rw[hli]at hz
   simp only[if_true]at hz
   have gl:=D6n x.ok
   have gc:=D0o hT hF x.ok (B7j hli)
   rw[hli]at gl
   rw[hz]at gc
   have cx:A0s (.t (.ag [x.tree]))=some [.t x.tree]:=rfl
   have ag:agOf [.t x.tree] = .t (.ag [x.tree]):=rfl
   refine A0c F2i ?_
   simp -implicitDefEqProofs [S16,R16,hjl,ix,A0h,A1e,cx,A1t,ag,agh,tw16,gl,gc,e1]
   refine C6j (by omega) (fun q hq=>?_) (by simp -implicitDefEqProofs [under])
   simp only[List.mem_cons,List.not_mem_nil,or_false]at hq
   subst hq
   exact⟨rfl,by simp,rfl⟩
  ·refine A0c F2i ?_
   rcases hn with⟨e,hz⟩ | ⟨hjl,hk,he⟩
   ·have hnl:¬n<l.length:=by omega
    simp -implicitDefEqProofs [S16,R16,hnl]
    exact Next.mk () (by simp[D2k,hz]) (A0d rfl rfl (by simp -implicitDefEqProofs [e]) (by simp -implicitDefEqProofs))
   ·obtain⟨x,hx⟩:∃x,l[n]?=some x:=⟨_,List.getElem?_eq_getElem hjl⟩
    have ix:=G2b ht hx
    have hres:D2k ty.length fe.length l=false:=by unfold D2k;rw[he];simp[hk]
    simp only[fitE,hx]at hk
    have gl:=D6n x.ok
    have cx:A0s (.t (.ag [x.tree]))=some [.t x.tree]:=rfl
    have ag:agOf [.t x.tree] = .t (.ag [x.tree]):=rfl
    cases hli:A7f x.nodes with
    | false=>
     rw[hli]at gl
     simp -implicitDefEqProofs [S16,R16,hjl,ix,A0h,A1e,cx,A1t,ag,agh,tw16,gl,hres]
    | true=>
     rw[hli]at gl hk
     simp only[if_true]at hk
     have gc:=D0o hT hF x.ok (B7j hli)
     have hk':(A6b ty.length fe.length x.nodes==0)=false:=by rw[beq_eq_false_iff_ne];exact hk
     simp -implicitDefEqProofs [S16,R16,hjl,ix,A0h,A1e,cx,A1t,ag,agh,tw16,gl,gc,hk,hk',hres]
 ·rintro _ e
  refine A0c F2i ?_
  simp -implicitDefEqProofs [S16,e]
noncomputable def morB (ty:List Typ) (a b:List Nd):Bool:=open Classical in decide (∃m,Mor ty a b m)
theorem F9v (ty:List Typ) (a b:List Nd):∃l:List Int,mapT ty a b = .tu [A0l eInt l,bv (morB ty a b)]/\l.length<=a.length:=by
 unfold mapT morB
 by_cases h:∃m,Mor ty a b m
 ·rw[dif_pos h]
  exact⟨h.choose,by simp[h],by rw[h.choose_spec.len];exact Nat.le_refl _⟩
 ·rw[dif_neg h]
  exact⟨[],by simp[h,A0l],by simp⟩
def C6v (h:List Typ×List Ft) (a b:List Nd):Prop:=TyOK h.1/\(A2j h.1.length h.2.length a/\A2j h.1.length h.2.length b)/\A3a a/\A3a b
noncomputable def gMap:List T->Option T:=g3 tH tFS tFS fun h a b=>open Classical in if C6v h a b then some (mapT h.1 a b)else none
theorem F2k {F:Nat} (hc:∀{tt tf ta tb:T} {ty:List Typ} {fe:List Ft} {a b:List Nd},IsS eTyp tt ty->IsS eFt tf fe->IsS eNd ta a->IsS eNd tb b->TyOK ty->A2j ty.length fe.length a->A2j ty.length fe.length b->A3a a->A3a b->A0y Try.prog G F [.ag [tt,tf],.ag [ta],.ag [tb]] (· = mapT ty a b)):GOK Try.prog G F gMap:=D4e fun x y z h a b r hx hy hz hr=>by
 obtain⟨u,v,rfl,hu,hv⟩:=hx
 obtain⟨ta,rfl,hta⟩:=hy
 obtain⟨tb,rfl,htb⟩:=hz
 split at hr
 ·rename_i hm
  injection hr with hr
  subst hr
  exact hc hu hv hta htb hm.1 hm.2.1.1 hm.2.1.2 hm.2.2.1 hm.2.2.2
 ·cases hr
theorem F9w {u v ta tb:T} {h:List Typ×List Ft} {a b:List Nd} (hu:IsS eTyp u h.1) (hv:IsS eFt v h.2) (hta:IsS eNd ta a) (htb:IsS eNd tb b) (hm:C6v h a b):gMap [.ag [u,v],.ag [ta],.ag [tb]]=some (mapT h.1 a b):=
 (D7v (τ:=tH) (σ:=tFS) (ρ:=tFS) ⟨u,v,rfl,hu,hv⟩ ⟨ta,rfl,hta⟩ ⟨tb,rfl,htb⟩).trans (if_pos hm)
noncomputable def G2c:Tbl:=[(18,gMap),(19,gMap)]
theorem G2d:Ctx Try.prog G (orc G2c):=(A1q.cons (F2k F1t) (.cons (F2k F1x) .nil)).ctx A1w
noncomputable def F2l:List T->Option T:=g3 tH tFS tFS fun h a b=>open Classical in if C6v h a b then some (bv (morB h.1 a b))else none
theorem D6o {u v ta tb:T} {h:List Typ×List Ft} {a b:List Nd} (hu:IsS eTyp u h.1) (hv:IsS eFt v h.2) (hta:IsS eNd ta a) (htb:IsS eNd tb b) (hm:C6v h a b):F2l [.ag [u,v],.ag [ta],.ag [tb]]=some (bv (morB h.1 a b)):=
 (D7v (τ:=tH) (σ:=tFS) (ρ:=tFS) ⟨u,v,rfl,hu,hv⟩ ⟨ta,rfl,hta⟩ ⟨tb,rfl,htb⟩).trans (if_pos hm)
theorem F6k:GOK Try.prog G 21 F2l:=D4e fun x y z h a b r hx hy hz hr=>by
 obtain⟨u,v,rfl,hu,hv⟩:=hx
 obtain⟨ta,rfl,hta⟩:=hy
 obtain⟨tb,rfl,htb⟩:=hz
 split at hr
 ·rename_i hm
  injection hr with hr
  subst hr
  obtain⟨l,hml,_⟩:=F9v h.1 a b
  have g:=F9w hu hv hta htb hm
  rw[hml]at g
  have c1:A0s (.t (.ag [u,v]))=some [.t u,.t v]:=rfl
  have c2:A0s (.t (.ag [ta]))=some [.t ta]:=rfl
  have c3:A0s (.t (.ag [tb]))=some [.t tb]:=rfl
  have a1:agOf [.t u,.t v] = .t (.ag [u,v]):=rfl
  have a2:agOf [.t ta] = .t (.ag [ta]):=rfl
  have a3:agOf [.t tb] = .t (.ag [tb]):=rfl
  refine A8i.runs G2d rfl ?_
  simp -implicitDefEqProofs [A5c,c1,c2,c3,a1,a2,a3,A0h,G2c,g,extractV]
 ·cases hr
noncomputable def F9x:List T->Option T:=g1 (tSl eTD) fun d=>open Classical in if d.length<=12->DOK d then some (hT d)else none
theorem F6l:GOK Try.prog G 15 F9x:=C2l fun a d r ha hr=>by
 split at hr
 ·rename_i h;injection hr with hr;subst hr;exact C7z rfl B2i ha h
 ·cases hr
theorem F6m {t:T} {d:List TD} (ht:IsS eTD t d) (hd:d.length<=12->DOK d):F9x [t]=some (hT d):=(C2m (τ:=tSl eTD) ht).trans (if_pos hd)
noncomputable def F9y:List T->Option T:=g2 tH (tSl eFS) fun h l=>if l.length<=1000000 then some (bv (D2k h.1.length h.2.length l))else none
theorem F6n:GOK Try.prog G 16 F9y:=A5x fun a b h l r ha hb hr=>by
 obtain⟨u,v,rfl,hu,hv⟩:=ha
 split at hr
 ·rename_i hl;injection hr with hr;subst hr;exact F2j rfl C9a hu hv hb hl
 ·cases hr
theorem F6o {u v tl:T} {h:List Typ×List Ft} {l:List FSv} (hu:IsS eTyp u h.1) (hv:IsS eFt v h.2) (ht:IsS eFS tl l) (hl:l.length<=1000000):F9y [.ag [u,v],tl]=some (bv (D2k h.1.length h.2.length l)):=
 (A4z (τ:=tH) (σ:=tSl eFS) ⟨u,v,rfl,hu,hv⟩ ht).trans (if_pos hl)
def gEx:List T->Option T
 | []=>some (.v (.bool true))
 | _=>none
theorem G2e:GOK Try.prog G 17 gEx:=by
 intro args r h
 unfold gEx at h
 split at h
 ·injection h with h;subst h;exact F6j
 ·cases h
theorem F7t:gEx []=some (.v (.bool true)):=rfl
end Go.Proofs.Ytbiadmfmjnoecaa
