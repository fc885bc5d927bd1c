/-
 Auxiliary facts. No statement of the program stands here.
-/
import Derived.Test.YtbiadmfmjnoecaaVRQ29
import Derived.Test.YtbiadmfmjnoecaaVRQ30
namespace Go.Proofs.Ytbiadmfmjnoecaa
set_option linter.unusedSimpArgs false
set_option linter.unusedVariables false
open Go Go.Abs
def mkTD (name:Str) (ss:List Str) (fs:List FD):TD:=⟨name,A0k eStr ss,A0k eFD fs⟩
theorem G8j {name:Str} {ss:List Str} {fs:List FD} (h1:ss.length<=cap) (h2:fs.length<=cap) (h3:name.size<=cap) (h4:∀f∈fs,f.feat.size<=cap):(mkTD name ss fs).OK:=by
 have e1:(mkTD name ss fs).ss=ss:=TD.ss_eq (IsS.tree _ _)
 have e2:(mkTD name ss fs).fs=fs:=TD.fs_eq (IsS.tree _ _)
 exact⟨by rw[e1];exact IsS.tree _ _,by rw[e2];exact IsS.tree _ _,by rw[e1];exact h1,by rw[e2];exact h2,h3,by rw[e2];exact h4⟩
def preD:List TD:=[mkTD ⟨#[116,111,112]⟩ [] [],
 mkTD ⟨#[108,105,115,116]⟩ [⟨#[116,111,112]⟩] [],
 mkTD ⟨#[99,111,110,115]⟩ [⟨#[108,105,115,116]⟩] [⟨⟨#[70,73,82,83,84]⟩,⟨#[116,111,112]⟩⟩,⟨⟨#[82,69,83,84]⟩,⟨#[108,105,115,116]⟩⟩],
 mkTD ⟨#[110,117,108,108]⟩ [⟨#[108,105,115,116]⟩] [],
 mkTD ⟨#[100,108,105,115,116]⟩ [⟨#[116,111,112]⟩] [⟨⟨#[76,73,83,84]⟩,⟨#[108,105,115,116]⟩⟩,⟨⟨#[76,65,83,84]⟩,⟨#[108,105,115,116]⟩⟩],
 mkTD ⟨#[105,110,100,101,120]⟩ [⟨#[116,111,112]⟩] [],
 mkTD ⟨#[104,97,110,100,108,101]⟩ [⟨#[105,110,100,101,120]⟩] [],
 mkTD ⟨#[101,118,101,110,116]⟩ [⟨#[105,110,100,101,120]⟩] [],
 mkTD ⟨#[101,110,116,105,116,121]⟩ [⟨#[105,110,100,101,120]⟩] [],
 mkTD ⟨#[114,101,108]⟩ [⟨#[116,111,112]⟩] [⟨⟨#[76,65,66,69,76]⟩,⟨#[104,97,110,100,108,101]⟩⟩],
 mkTD ⟨#[113,101,113]⟩ [⟨#[116,111,112]⟩] [⟨⟨#[72,73,71,72]⟩,⟨#[104,97,110,100,108,101]⟩⟩,⟨⟨#[76,79,87]⟩,⟨#[104,97,110,100,108,101]⟩⟩],
 mkTD ⟨#[115,101,109]⟩ [⟨#[116,111,112]⟩] [⟨⟨#[84,79,80]⟩,⟨#[104,97,110,100,108,101]⟩⟩,⟨⟨#[73,78,68,69,88]⟩,⟨#[105,110,100,101,120]⟩⟩,⟨⟨#[82,69,76,83]⟩,⟨#[100,108,105,115,116]⟩⟩,⟨⟨#[67,79,78,83]⟩,⟨#[100,108,105,115,116]⟩⟩],
 mkTD ⟨#[115,105,103,110]⟩ [⟨#[116,111,112]⟩] [⟨⟨#[83,69,77]⟩,⟨#[115,101,109]⟩⟩,⟨⟨#[65,82,71,83]⟩,⟨#[108,105,115,116]⟩⟩]]
theorem G8k:IsS eTD B2p preD:=.inr rfl
theorem C3j:DOK preD:=by
 refine⟨by decide,fun x hx=>?_⟩
 simp only[preD,List.mem_cons,List.not_mem_nil,or_false]at hx
 rcases hx with rfl | rfl | rfl | rfl | rfl | rfl | rfl | rfl | rfl | rfl | rfl | rfl | rfl<;>exact G8j (by decide) (by decide) (by decide) (by decide)
theorem F8e:A0y Try.prog G 46 [] (· = B2p):=H1i
noncomputable def hOf (d:List TD):List Typ×List Ft:=if d.length<=12/\A1i d=0 then(A8m d,ftL d)else if A1i preD=0 then(A8m preD,ftL preD)else([],[])
noncomputable def hT (d:List TD):T:=.ag [A0k eTyp (hOf d).1,A0k eFt (hOf d).2]
theorem F8f {d:List TD} (hd:DOK d) (h:A1i d=0):TyOK (A8m d):=by
 intro x hx
 obtain⟨c,hc,e⟩:=D5x hx
 have:=(A2q hd h).cod.size c hc
 rw[e]
 omega
theorem H1j {d:List TD} (hd:d.length<=12->DOK d):TyOK (hOf d).1:=by
 unfold hOf
 split
 ·rename_i h
  exact F8f (hd h.1) h.2
 ·split
  ·rename_i h
   exact F8f C3j h
  ·intro x hx
   cases hx
noncomputable def G3w:List T->Option T
 | []=>some B2p
 | _=>none
theorem G3x:GOK Try.prog G 46 G3w:=by
 intro args r h
 unfold G3w at h
 split at h
 ·injection h with h;subst h;exact F8e
 ·cases h
noncomputable def tw15:Tbl:=[(45,gD B6p),(46,G3w)]
theorem F2r:Ctx Try.prog G (orc tw15):=(A1t.cons (B4m E0i) (.cons G3x .nil)).ctx A1u
theorem D1b {F:Nat} {M:A0n} (hM:M=A5z) (k:FnOK Try.prog G F 1 24 M [.cell 2 true 2]) {t:T} {d:List TD} (ht:IsS eTD t d) (hd:d.length<=12->DOK d):A0y Try.prog G F [t] (· = hT d):=by
 have gp:gD B6p [B2p]=some (B6p preD):=B3e G8k C3j
 have gq:G3w []=some B2p:=rfl
 obtain⟨pr,hpr⟩:∃pr,pr=B2p:=⟨_,rfl⟩
 rw[<-hpr]at gp gq
 have last:¬(d.length<=12/\A1i d=0)->∃u v e,B6p preD = .tu [.ag [u,v],iv e]/\hT d = .ag [u,v]:=by
  intro h
  unfold B6p hT hOf
  rw[if_neg h]
  by_cases hp:A1i preD=0
  ·rw[if_neg (by rw[hp];simp),if_pos hp]
   exact⟨_,_,_,rfl,rfl⟩
  ·rw[if_pos hp,if_neg hp]
   exact⟨_,_,_,rfl,rfl⟩
 subst hM
 refine k.call rfl ?_
 unfold A5z
 refine A0a F2r ?_
 simp -implicitDefEqProofs
 by_cases h12:d.length<=12
 ·have h12':(d.length:Int)<=12:=by omega
  have gc:gD B6p [t]=some (B6p d):=B3e ht (hd h12)
  by_cases hE:A1i d=0
  ·have hc:B6p d = .tu [.ag [A0k eTyp (A8m d),A0k eFt (ftL d)],iv 0]:=by unfold B6p;rw[if_neg (by rw[hE];simp)]
   have hr:hT d = .ag [A0k eTyp (A8m d),A0k eFt (ftL d)]:=by unfold hT hOf;rw[if_pos ⟨h12,hE⟩]
   generalize A0k eTyp (A8m d)=u at hc hr
   generalize A0k eFt (ftL d)=v at hc hr
   rw[hc]at gc
   have cg:A0w (.t (.ag [u,v]))=some [.t u,.t v]:=rfl
   have ag:agOf [.t u,.t v] = .t (.ag [u,v]):=rfl
   refine A0a F2r ?_
   simp -implicitDefEqProofs [ht.len,h12,h12',tw15,gc,extractV,A0f,A1e,cg,ag,A1y,hr]
  ·obtain⟨u,v,e,hc,hr⟩:=last (fun h=>hE h.2)
   rw[hc]at gp
   have hE':=A7h hE
   have hEb:(A1i d==0)=false:=by rw[beq_eq_false_iff_ne];exact hE
   have hcd:B6p d = .tu [.ag [nilS,nilS],iv (A1i d)]:=by unfold B6p;rw[if_pos hE]
   rw[hcd]at gc
   have cn:A0w (.t (.ag [nilS,nilS]))=some [.t nilS,.t nilS]:=rfl
   have cg:A0w (.t (.ag [u,v]))=some [.t u,.t v]:=rfl
   have ag:agOf [.t u,.t v] = .t (.ag [u,v]):=rfl
   refine A0a F2r ?_
   simp -implicitDefEqProofs [ht.len,h12,h12',tw15,gc,extractV,A0f,A1e,cn,A1y,hE,hEb]
   refine A0d F2r ?_
   simp -implicitDefEqProofs [tw15,gq,gp,extractV,A0f,A1e,cg,ag,A1y,hr]
 ·have h12':¬(d.length:Int)<=12:=by omega
  obtain⟨u,v,e,hc,hr⟩:=last (fun h=>h12 h.1)
  rw[hc]at gp
  have cg:A0w (.t (.ag [u,v]))=some [.t u,.t v]:=rfl
  have ag:agOf [.t u,.t v] = .t (.ag [u,v]):=rfl
  refine A0a F2r ?_
  simp -implicitDefEqProofs [ht.len,h12,h12']
  refine A0d F2r ?_
  simp -implicitDefEqProofs [tw15,gq,gp,extractV,A0f,A1e,cg,ag,A1y,hr]
structure FSv where
 tree:T
 nodes:List Nd
 ok:IsS eNd tree nodes
def eFS:Enc FSv:=⟨1,fun x=>[x.tree],fun _=>rfl,by omega,fun a b h=>by
 obtain⟨a1,a2,a3⟩:=a
 obtain⟨b1,b2,b3⟩:=b
 injection h with h
 have h:a1=b1:=h
 subst h
 have:=(tSl eNd).uniq _ _ _ a3 b3
 subst this
 rfl⟩
theorem H1k {t:T} {l:List FSv} (h:IsS eFS t l) {i:Nat} {x:FSv} (hx:l[i]?=some x):A1q 1 (.t t) (.t (iv (i:Int)))=some (.t (.pt (x.tree::rest eFS l i))):=h.iaddr hx .i64
theorem B9b {l:List Nd} (h:A8f l=true):A3g l:=by
 obtain⟨h1,h2⟩:=C7g h
 exact⟨by omega,fun x hx=>by have:=h2 x hx;omega⟩
noncomputable def F8g:List T->Option T:=g1 tFS fun l=>some (bv (A8f l))
theorem F8h:GOK Try.prog G 47 F8g:=C4w fun a x r ha hr=>by
 obtain⟨u,rfl,hu⟩:=ha
 injection hr with hr;subst hr;exact F0v hu
theorem E0o {t:T} {l:List Nd} (ht:IsS eNd t l):F8g [.ag [t]]=some (bv (A8f l)):=C4x (τ:=tFS) ⟨t,rfl,ht⟩
noncomputable def E4i:List T->Option T:=g2 tH tFS fun h l=>open Classical in if A3g l then some (iv (A7b h.1.length h.2.length l))else none
theorem F2s:GOK Try.prog G 48 E4i:=A6w fun a b h l r ha hb hr=>by
 obtain⟨u,v,rfl,hu,hv⟩:=ha
 obtain⟨w,rfl,hw⟩:=hb
 split at hr
 ·rename_i hs;injection hr with hr;subst hr;exact E4d hu hv hw hs
 ·cases hr
theorem D3p {u v t:T} {ty:List Typ} {fe:List Ft} {l:List Nd} (hu:IsS eTyp u ty) (hv:IsS eFt v fe) (ht:IsS eNd t l) (hs:A3g l):E4i [.ag [u,v],.ag [t]]=some (iv (A7b ty.length fe.length l)):=
 (A5y (τ:=tH) (σ:=tFS) (x:=(ty,fe)) ⟨u,v,rfl,hu,hv⟩ ⟨t,rfl,ht⟩).trans (if_pos hs)
def fitE (nt nf:Nat) (l:List FSv) (i:Nat):Int:=match l[i]? with
 | some x=>if A8f x.nodes then A7b nt nf x.nodes else 1
 | none=>0
def D1c (nt nf:Nat) (l:List FSv):Bool:=decide (fst (fitE nt nf l) l.length=0)
theorem F8i {nt nf:Nat} {l:List FSv} (h:D1c nt nf l=true):∀x∈l,A3g x.nodes/\A1n nt nf x.nodes:=by
 intro x hx
 obtain⟨i,hi,e⟩:=List.getElem_of_mem hx
 have:=A5c (of_decide_eq_true h) i hi
 simp only[fitE,List.getElem?_eq_getElem hi,e]at this
 split at this
 ·rename_i hl
  exact⟨B9b hl,D1a this⟩
 ·cases this
noncomputable def tw16:Tbl:=[(47,F8g),(48,E4i)]
theorem F8j:Ctx Try.prog G (orc tw16):=(A1t.cons F8h (.cons F2s .nil)).ctx A1u
def R16 (tt tf:T):Heap:=[(0,.cells 29 [.t tt,.t tf])]
def S16 (tt tf tl:T) (n i:Nat):A0b:=⟨[(9,.t (iv (i:Int))),(8,.t (iv (n:Int))),(7,.t tl),(2,.ptr 0 0)],R16 tt tf,1,23⟩
theorem F8k {F:Nat} {M:A0n} (hM:M=B5s) (k:FnOK Try.prog G F 2 23 M [.tmp 4]) {tt tf tl:T} {ty:List Typ} {fe:List Ft} {l:List FSv} (hT:IsS eTyp tt ty) (hF:IsS eFt tf fe) (ht:IsS eFS tl l) (hl:l.length<=1000000):A0y Try.prog G F [.ag [tt,tf],tl] (· = bv (D1c ty.length fe.length l)):=by
 have cph:A0w (.t (.ag [tt,tf]))=some [.t tt,.t tf]:=rfl
 have agh:agOf [.t tt,.t tf] = .t (.ag [tt,tf]):=rfl
 subst hM
 refine k.call rfl ?_
 unfold B5s
 refine A0a F8j ?_
 simp -implicitDefEqProofs [cph]
 obtain⟨n,hle,h0,hn⟩:=A7l (fitE ty.length fe.length l) l.length
 refine A0s (fun _:Unit=>S16 tt tf tl l.length l.length) (fun _=>D1c ty.length fe.length l=true) (fun _=>rfl) ?_ ?_
 ·refine A0a F8j ?_
  simp -implicitDefEqProofs [ht.len]
  refine A0h ?_
  refine A1b (S16 tt tf tl l.length) n (fun _=>rfl) ?_ rfl ?_ ?_
  ·refine A0c rfl rfl ?_ ?_<;>simp -implicitDefEqProofs [S16,R16]
  ·intro j hj
   have hjl:j<l.length:=by omega
   obtain⟨x,hx⟩:∃x,l[j]?=some x:=⟨_,List.getElem?_eq_getElem hjl⟩
   have ix:=H1k ht hx
   have e1:IntKind.i64.wrap ((j:Int)+1)=((j+1:Nat):Int):=A0l (by omega) (by omega)
   have hz:=h0 j hj
   simp only[fitE,hx]at hz
   have hli:A8f x.nodes=true:=by
    cases h:A8f x.nodes with
    | true=>rfl
    | false=>rw[h]at hz;simp at hz
   rw[hli]at hz
   simp only[if_true]at hz
   have gl:=E0o x.ok
   have gc:=D3p hT hF x.ok (B9b hli)
   rw[hli]at gl
   rw[hz]at gc
   have cx:A0w (.t (.ag [x.tree]))=some [.t x.tree]:=rfl
   have ag:agOf [.t x.tree] = .t (.ag [x.tree]):=rfl
   refine A0d F8j ?_
   simp -implicitDefEqProofs [S16,R16,hjl,ix,A0f,A1e,cx,A1y,ag,agh,tw16,gl,gc,e1]
   refine B8y (by omega) (fun q hq=>?_) (by simp -implicitDefEqProofs [under])
   simp only[List.mem_cons,List.not_mem_nil,or_false]at hq
   subst hq
   exact⟨rfl,by simp,rfl⟩
  ·refine A0d F8j ?_
   rcases hn with⟨e,hz⟩ | ⟨hjl,hk,he⟩
   ·have hnl:¬n<l.length:=by omega
    simp -implicitDefEqProofs [S16,R16,hnl]
    exact Next.mk () (by simp[D1c,hz]) (A0c rfl rfl (by simp -implicitDefEqProofs [e]) (by simp -implicitDefEqProofs))
   ·obtain⟨x,hx⟩:∃x,l[n]?=some x:=⟨_,List.getElem?_eq_getElem hjl⟩
    have ix:=H1k ht hx
    have hres:D1c ty.length fe.length l=false:=by unfold D1c;rw[he];simp[hk]
    simp only[fitE,hx]at hk
    have gl:=E0o x.ok
    have cx:A0w (.t (.ag [x.tree]))=some [.t x.tree]:=rfl
    have ag:agOf [.t x.tree] = .t (.ag [x.tree]):=rfl
    cases hli:A8f x.nodes with
    | false=>
     rw[hli]at gl
     simp -implicitDefEqProofs [S16,R16,hjl,ix,A0f,A1e,cx,A1y,ag,agh,tw16,gl,hres]
    | true=>
     rw[hli]at gl hk
     simp only[if_true]at hk
     have gc:=D3p hT hF x.ok (B9b hli)
     have hk':(A7b ty.length fe.length x.nodes==0)=false:=by rw[beq_eq_false_iff_ne];exact hk
     simp -implicitDefEqProofs [S16,R16,hjl,ix,A0f,A1e,cx,A1y,ag,agh,tw16,gl,gc,hk,hk',hres]
 ·rintro _ e
  refine A0d F8j ?_
  simp -implicitDefEqProofs [S16,e]
noncomputable def G8l:List T->Option T:=g2 tH (tSl eFS) fun h l=>if l.length<=1000000 then some (bv (D1c h.1.length h.2.length l))else none
theorem G3y {u v tl:T} {h:List Typ×List Ft} {l:List FSv} (hu:IsS eTyp u h.1) (hv:IsS eFt v h.2) (ht:IsS eFS tl l) (hl:l.length<=1000000):G8l [.ag [u,v],tl]=some (bv (D1c h.1.length h.2.length l)):=
 (A5y (τ:=tH) (σ:=tSl eFS) ⟨u,v,rfl,hu,hv⟩ ht).trans (if_pos hl)
end Go.Proofs.Ytbiadmfmjnoecaa
