/-
 Auxiliary facts. No statement of the program stands here.
-/
import Derived.Test.YtbiadmfmjnoecaaVAQ30
import Derived.Test.YtbiadmfmjnoecaaVAQ31
namespace Go.Proofs.Ytbiadmfmjnoecaa
set_option linter.unusedSimpArgs false
set_option linter.unusedVariables false
open Go Go.Abs
def mkTD (name:Str) (ss:List Str) (fs:List FD):TD:=⟨name,A0m eStr ss,A0m eFD fs⟩
theorem G7z {name:Str} {ss:List Str} {fs:List FD} (h1:ss.length<=cap) (h2:fs.length<=cap) (h3:name.size<=cap) (h4:∀f∈fs,f.feat.size<=cap):(mkTD name ss fs).OK:=by
 have e1:(mkTD name ss fs).ss=ss:=TD.ss_eq (IsS.tree _ _)
 have e2:(mkTD name ss fs).fs=fs:=TD.fs_eq (IsS.tree _ _)
 exact⟨by rw[e1];exact IsS.tree _ _,by rw[e2];exact IsS.tree _ _,by rw[e1];exact h1,by rw[e2];exact h2,h3,by rw[e2];exact h4⟩
def preD:List TD:=[mkTD ⟨#[116,111,112]⟩ [] [],
 mkTD ⟨#[108,105,115,116]⟩ [⟨#[116,111,112]⟩] [],
 mkTD ⟨#[99,111,110,115]⟩ [⟨#[108,105,115,116]⟩] [⟨⟨#[70,73,82,83,84]⟩,⟨#[116,111,112]⟩⟩,⟨⟨#[82,69,83,84]⟩,⟨#[108,105,115,116]⟩⟩],
 mkTD ⟨#[110,117,108,108]⟩ [⟨#[108,105,115,116]⟩] [],
 mkTD ⟨#[100,108,105,115,116]⟩ [⟨#[116,111,112]⟩] [⟨⟨#[76,73,83,84]⟩,⟨#[108,105,115,116]⟩⟩,⟨⟨#[76,65,83,84]⟩,⟨#[108,105,115,116]⟩⟩],
 mkTD ⟨#[105,110,100,101,120]⟩ [⟨#[116,111,112]⟩] [],
 mkTD ⟨#[104,97,110,100,108,101]⟩ [⟨#[105,110,100,101,120]⟩] [],
 mkTD ⟨#[101,118,101,110,116]⟩ [⟨#[105,110,100,101,120]⟩] [],
 mkTD ⟨#[101,110,116,105,116,121]⟩ [⟨#[105,110,100,101,120]⟩] [],
 mkTD ⟨#[114,101,108]⟩ [⟨#[116,111,112]⟩] [⟨⟨#[76,65,66,69,76]⟩,⟨#[104,97,110,100,108,101]⟩⟩],
 mkTD ⟨#[113,101,113]⟩ [⟨#[116,111,112]⟩] [⟨⟨#[72,73,71,72]⟩,⟨#[104,97,110,100,108,101]⟩⟩,⟨⟨#[76,79,87]⟩,⟨#[104,97,110,100,108,101]⟩⟩],
 mkTD ⟨#[115,101,109]⟩ [⟨#[116,111,112]⟩] [⟨⟨#[84,79,80]⟩,⟨#[104,97,110,100,108,101]⟩⟩,⟨⟨#[73,78,68,69,88]⟩,⟨#[105,110,100,101,120]⟩⟩,⟨⟨#[82,69,76,83]⟩,⟨#[100,108,105,115,116]⟩⟩,⟨⟨#[67,79,78,83]⟩,⟨#[100,108,105,115,116]⟩⟩],
 mkTD ⟨#[115,105,103,110]⟩ [⟨#[116,111,112]⟩] [⟨⟨#[83,69,77]⟩,⟨#[115,101,109]⟩⟩,⟨⟨#[65,82,71,83]⟩,⟨#[108,105,115,116]⟩⟩]]
theorem G8a:IsS eTD B3i preD:=.inr rfl
theorem C4h:DOK preD:=by
 refine⟨by decide,fun x hx=>?_⟩
 simp only[preD,List.mem_cons,List.not_mem_nil,or_false]at hx
 rcases hx with rfl | rfl | rfl | rfl | rfl | rfl | rfl | rfl | rfl | rfl | rfl | rfl | rfl<;>exact G7z (by decide) (by decide) (by decide) (by decide)
theorem F7v:A0y Try.prog G 46 [] (· = B3i):=H0g
noncomputable def hOf (d:List TD):List Typ×List Ft:=if d.length<=12/\A1g d=0 then(A8v d,ftL d)else if A1g preD=0 then(A8v preD,ftL preD)else([],[])
noncomputable def hT (d:List TD):T:=.ag [A0m eTyp (hOf d).1,A0m eFt (hOf d).2]
theorem F7w {d:List TD} (hd:DOK d) (h:A1g d=0):TyOK (A8v d):=by
 intro x hx
 obtain⟨c,hc,e⟩:=D6m hx
 have:=(A2m hd h).cod.size c hc
 rw[e]
 omega
theorem G5z {d:List TD} (hd:d.length<=12->DOK d):TyOK (hOf d).1:=by
 unfold hOf
 split
 ·rename_i h
  exact F7w (hd h.1) h.2
 ·split
  ·rename_i h
   exact F7w C4h h
  ·intro x hx
   cases hx
noncomputable def G3u:List T->Option T
 | []=>some B3i
 | _=>none
theorem G3v:GOK Try.prog G 46 G3u:=by
 intro args r h
 unfold G3u at h
 split at h
 ·injection h with h;subst h;exact F7v
 ·cases h
noncomputable def tw15:Tbl:=[(45,gD B7e),(46,G3u)]
theorem F2g:Ctx Try.prog G (orc tw15):=(A1o.cons (B5i E0t) (.cons G3v .nil)).ctx A1w
theorem D1r {F:Nat} {M:A0s} (hM:M=A5y) (k:FnOK Try.prog G F 1 24 M [.cell 2 true 2]) {t:T} {d:List TD} (ht:IsS eTD t d) (hd:d.length<=12->DOK d):A0y Try.prog G F [t] (· = hT d):=by
 have gp:gD B7e [B3i]=some (B7e preD):=B3y G8a C4h
 have gq:G3u []=some B3i:=rfl
 obtain⟨pr,hpr⟩:∃pr,pr=B3i:=⟨_,rfl⟩
 rw[<-hpr]at gp gq
 have last:¬(d.length<=12/\A1g d=0)->∃u v e,B7e preD = .tu [.ag [u,v],iv e]/\hT d = .ag [u,v]:=by
  intro h
  unfold B7e hT hOf
  rw[if_neg h]
  by_cases hp:A1g preD=0
  ·rw[if_neg (by rw[hp];simp),if_pos hp]
   exact⟨_,_,_,rfl,rfl⟩
  ·rw[if_pos hp,if_neg hp]
   exact⟨_,_,_,rfl,rfl⟩
 subst hM
 refine k.call rfl ?_
 unfold A5y
 refine A0a F2g ?_
 simp -implicitDefEqProofs
 by_cases h12:d.length<=12
 ·have h12':(d.length:Int)<=12:=by omega
  have gc:gD B7e [t]=some (B7e d):=B3y ht (hd h12)
  by_cases hE:A1g d=0
  ·have hc:B7e d = .tu [.ag [A0m eTyp (A8v d),A0m eFt (ftL d)],iv 0]:=by unfold B7e;rw[if_neg (by rw[hE];simp)]
   have hr:hT d = .ag [A0m eTyp (A8v d),A0m eFt (ftL d)]:=by unfold hT hOf;rw[if_pos ⟨h12,hE⟩]
   generalize A0m eTyp (A8v d)=u at hc hr
   generalize A0m eFt (ftL d)=v at hc hr
   rw[hc]at gc
   have cg:A0q (.t (.ag [u,v]))=some [.t u,.t v]:=rfl
   have ag:agOf [.t u,.t v] = .t (.ag [u,v]):=rfl
   refine A0a F2g ?_
   simp -implicitDefEqProofs [ht.len,h12,h12',tw15,gc,extractV,A0f,A0v,cg,ag,A1h,hr]
  ·obtain⟨u,v,e,hc,hr⟩:=last (fun h=>hE h.2)
   rw[hc]at gp
   have hE':=A7o hE
   have hEb:(A1g d==0)=false:=by rw[beq_eq_false_iff_ne];exact hE
   have hcd:B7e d = .tu [.ag [nilS,nilS],iv (A1g d)]:=by unfold B7e;rw[if_pos hE]
   rw[hcd]at gc
   have cn:A0q (.t (.ag [nilS,nilS]))=some [.t nilS,.t nilS]:=rfl
   have cg:A0q (.t (.ag [u,v]))=some [.t u,.t v]:=rfl
   have ag:agOf [.t u,.t v] = .t (.ag [u,v]):=rfl
   refine A0a F2g ?_
   simp -implicitDefEqProofs [ht.len,h12,h12',tw15,gc,extractV,A0f,A0v,cn,A1h,hE,hEb]
   refine A0c F2g ?_
   simp -implicitDefEqProofs [tw15,gq,gp,extractV,A0f,A0v,cg,ag,A1h,hr]
 ·have h12':¬(d.length:Int)<=12:=by omega
  obtain⟨u,v,e,hc,hr⟩:=last (fun h=>h12 h.1)
  rw[hc]at gp
  have cg:A0q (.t (.ag [u,v]))=some [.t u,.t v]:=rfl
  have ag:agOf [.t u,.t v] = .t (.ag [u,v]):=rfl
  refine A0a F2g ?_
  simp -implicitDefEqProofs [ht.len,h12,h12']
  refine A0c F2g ?_
  simp -implicitDefEqProofs [tw15,gq,gp,extractV,A0f,A0v,cg,ag,A1h,hr]
structure FSv where
 tree:T
 nodes:List Nd
 ok:IsS eNd tree nodes
def eFS:Enc FSv:=⟨1,fun x=>[x.tree],fun _=>rfl,by omega,fun a b h=>by
 obtain⟨a1,a2,a3⟩:=a
 obtain⟨b1,b2,b3⟩:=b
 injection h with h
 have h:a1=b1:=h
 subst h
 have:=(tSl eNd).uniq _ _ _ a3 b3
 subst this
 rfl⟩
theorem D6r {t:T} {l:List FSv} (h:IsS eFS t l) {i:Nat} {x:FSv} (hx:l[i]?=some x):A2j 1 (.t t) (.t (iv (i:Int)))=some (.t (.pt (x.tree::rest eFS l i))):=h.iaddr hx .i64
theorem B9l {l:List Nd} (h:A8p l=true):A2t l:=by
 obtain⟨h1,h2⟩:=C7z h
 exact⟨by omega,fun x hx=>by have:=h2 x hx;omega⟩
noncomputable def F7x:List T->Option T:=g1 tFS fun l=>some (bv (A8p l))
theorem F7y:GOK Try.prog G 47 F7x:=C7j fun a x r ha hr=>by
 obtain⟨u,rfl,hu⟩:=ha
 injection hr with hr;subst hr;exact F0i hu
theorem E0z {t:T} {l:List Nd} (ht:IsS eNd t l):F7x [.ag [t]]=some (bv (A8p l)):=C7k (τ:=tFS) ⟨t,rfl,ht⟩
noncomputable def E4o:List T->Option T:=g2 tH tFS fun h l=>open Classical in if A2t l then some (iv (A7g h.1.length h.2.length l))else none
theorem F2h:GOK Try.prog G 48 E4o:=A6z fun a b h l r ha hb hr=>by
 obtain⟨u,v,rfl,hu,hv⟩:=ha
 obtain⟨w,rfl,hw⟩:=hb
 split at hr
 ·rename_i hs;injection hr with hr;subst hr;exact E4g hu hv hw hs
 ·cases hr
theorem D4b {u v t:T} {ty:List Typ} {fe:List Ft} {l:List Nd} (hu:IsS eTyp u ty) (hv:IsS eFt v fe) (ht:IsS eNd t l) (hs:A2t l):E4o [.ag [u,v],.ag [t]]=some (iv (A7g ty.length fe.length l)):=
 (A5x (τ:=tH) (σ:=tFS) (x:=(ty,fe)) ⟨u,v,rfl,hu,hv⟩ ⟨t,rfl,ht⟩).trans (if_pos hs)
def fitE (nt nf:Nat) (l:List FSv) (i:Nat):Int:=match l[i]? with
 | some x=>if A8p x.nodes then A7g nt nf x.nodes else 1
 | none=>0
def B9m (nt nf:Nat) (l:List FSv):Bool:=decide (fst (fitE nt nf l) l.length=0)
theorem F7z {nt nf:Nat} {l:List FSv} (h:B9m nt nf l=true):∀x∈l,A2t x.nodes/\A1d nt nf x.nodes:=by
 intro x hx
 obtain⟨i,hi,e⟩:=List.getElem_of_mem hx
 have:=A4l (of_decide_eq_true h) i hi
 simp only[fitE,List.getElem?_eq_getElem hi,e]at this
 split at this
 ·rename_i hl
  exact⟨B9l hl,D1p this⟩
 ·cases this
noncomputable def tw16:Tbl:=[(47,F7x),(48,E4o)]
theorem F8a:Ctx Try.prog G (orc tw16):=(A1o.cons F7y (.cons F2h .nil)).ctx A1w
def R16 (tt tf:T):Heap:=[(0,.cells 29 [.t tt,.t tf])]
def S16 (tt tf tl:T) (n i:Nat):A0b:=⟨[(9,.t (iv (i:Int))),(8,.t (iv (n:Int))),(7,.t tl),(2,.ptr 0 0)],R16 tt tf,1,23⟩
theorem F8b {F:Nat} {M:A0s} (hM:M=B6k) (k:FnOK Try.prog G F 2 23 M [.tmp 4]) {tt tf tl:T} {ty:List Typ} {fe:List Ft} {l:List FSv} (hT:IsS eTyp tt ty) (hF:IsS eFt tf fe) (ht:IsS eFS tl l) (hl:l.length<=1000000):A0y Try.prog G F [.ag [tt,tf],tl] (· = bv (B9m ty.length fe.length l)):=by
 have cph:A0q (.t (.ag [tt,tf]))=some [.t tt,.t tf]:=rfl
 have agh:agOf [.t tt,.t tf] = .t (.ag [tt,tf]):=rfl
 subst hM
 refine k.call rfl ?_
 unfold B6k
 refine A0a F8a ?_
 simp -implicitDefEqProofs [cph]
 obtain⟨n,hle,h0,hn⟩:=A6a (fitE ty.length fe.length l) l.length
 refine A0r (fun _:Unit=>S16 tt tf tl l.length l.length) (fun _=>B9m ty.length fe.length l=true) (fun _=>rfl) ?_ ?_
 ·refine A0a F8a ?_
  simp -implicitDefEqProofs [ht.len]
  refine A0h ?_
  refine A1a (S16 tt tf tl l.length) n (fun _=>rfl) ?_ rfl ?_ ?_
  ·refine A0d rfl rfl ?_ ?_<;>simp -implicitDefEqProofs [S16,R16]
  ·intro j hj
   have hjl:j<l.length:=by omega
   obtain⟨x,hx⟩:∃x,l[j]?=some x:=⟨_,List.getElem?_eq_getElem hjl⟩
   have ix:=D6r ht hx
   have e1:IntKind.i64.wrap ((j:Int)+1)=((j+1:Nat):Int):=A0k (by omega) (by omega)
   have hz:=h0 j hj
   simp only[fitE,hx]at hz
   have hli:A8p x.nodes=true:=by
    cases h:A8p x.nodes with
    | true=>rfl
    | false=>rw[h]at hz;simp at hz
   rw[hli]at hz
   simp only[if_true]at hz
   have gl:=E0z x.ok
   have gc:=D4b hT hF x.ok (B9l hli)
   rw[hli]at gl
   rw[hz]at gc
   have cx:A0q (.t (.ag [x.tree]))=some [.t x.tree]:=rfl
   have ag:agOf [.t x.tree] = .t (.ag [x.tree]):=rfl
   refine A0c F8a ?_
   simp -implicitDefEqProofs [S16,R16,hjl,ix,A0f,A0v,cx,A1h,ag,agh,tw16,gl,gc,e1]
   refine C4d (by omega) (fun q hq=>?_) (by simp -implicitDefEqProofs [under])
   simp only[List.mem_cons,List.not_mem_nil,or_false]at hq
   subst hq
   exact⟨rfl,by simp,rfl⟩
  ·refine A0c F8a ?_
   rcases hn with⟨e,hz⟩ | ⟨hjl,hk,he⟩
   ·have hnl:¬n<l.length:=by omega
    simp -implicitDefEqProofs [S16,R16,hnl]
    exact Next.mk () (by simp[B9m,hz]) (A0d rfl rfl (by simp -implicitDefEqProofs [e]) (by simp -implicitDefEqProofs))
   ·obtain⟨x,hx⟩:∃x,l[n]?=some x:=⟨_,List.getElem?_eq_getElem hjl⟩
    have ix:=D6r ht hx
    have hres:B9m ty.length fe.length l=false:=by unfold B9m;rw[he];simp[hk]
    simp only[fitE,hx]at hk
    have gl:=E0z x.ok
    have cx:A0q (.t (.ag [x.tree]))=some [.t x.tree]:=rfl
    have ag:agOf [.t x.tree] = .t (.ag [x.tree]):=rfl
    cases hli:A8p x.nodes with
    | false=>
     rw[hli]at gl
     simp -implicitDefEqProofs [S16,R16,hjl,ix,A0f,A0v,cx,A1h,ag,agh,tw16,gl,hres]
    | true=>
     rw[hli]at gl hk
     simp only[if_true]at hk
     have gc:=D4b hT hF x.ok (B9l hli)
     have hk':(A7g ty.length fe.length x.nodes==0)=false:=by rw[beq_eq_false_iff_ne];exact hk
     simp -implicitDefEqProofs [S16,R16,hjl,ix,A0f,A0v,cx,A1h,ag,agh,tw16,gl,gc,hk,hk',hres]
 ·rintro _ e
  refine A0c F8a ?_
  simp -implicitDefEqProofs [S16,e]
noncomputable def morB (ty:List Typ) (a b:List Nd):Bool:=open Classical in decide (∃m,Mor ty a b m)
theorem G8b (ty:List Typ) (a b:List Nd):∃l:List Int,mapT ty a b = .tu [A0m eInt l,bv (morB ty a b)]/\l.length<=a.length:=by
 unfold mapT morB
 by_cases h:∃m,Mor ty a b m
 ·rw[dif_pos h]
  exact⟨h.choose,by simp[h],by rw[h.choose_spec.len];exact Nat.le_refl _⟩
 ·rw[dif_neg h]
  exact⟨[],by simp[h,A0m],by simp⟩
def F2i (h:List Typ×List Ft) (a b:List Nd):Prop:=TyOK h.1/\(A1d h.1.length h.2.length a/\A1d h.1.length h.2.length b)/\A2t a/\A2t b
noncomputable def gMap:List T->Option T:=g3 tH tFS tFS fun h a b=>open Classical in if F2i h a b then some (mapT h.1 a b)else none
theorem F8c {F:Nat} (hc:∀{tt tf ta tb:T} {ty:List Typ} {fe:List Ft} {a b:List Nd},IsS eTyp tt ty->IsS eFt tf fe->IsS eNd ta a->IsS eNd tb b->TyOK ty->A1d ty.length fe.length a->A1d ty.length fe.length b->A2t a->A2t b->A0y Try.prog G F [.ag [tt,tf],.ag [ta],.ag [tb]] (· = mapT ty a b)):GOK Try.prog G F gMap:=D8q fun x y z h a b r hx hy hz hr=>by
 obtain⟨u,v,rfl,hu,hv⟩:=hx
 obtain⟨ta,rfl,hta⟩:=hy
 obtain⟨tb,rfl,htb⟩:=hz
 split at hr
 ·rename_i hm
  injection hr with hr
  subst hr
  exact hc hu hv hta htb hm.1 hm.2.1.1 hm.2.1.2 hm.2.2.1 hm.2.2.2
 ·cases hr
theorem G8c {u v ta tb:T} {h:List Typ×List Ft} {a b:List Nd} (hu:IsS eTyp u h.1) (hv:IsS eFt v h.2) (hta:IsS eNd ta a) (htb:IsS eNd tb b) (hm:F2i h a b):gMap [.ag [u,v],.ag [ta],.ag [tb]]=some (mapT h.1 a b):=
 (D8r (τ:=tH) (σ:=tFS) (ρ:=tFS) ⟨u,v,rfl,hu,hv⟩ ⟨ta,rfl,hta⟩ ⟨tb,rfl,htb⟩).trans (if_pos hm)
noncomputable def H0h:Tbl:=[(18,gMap),(19,gMap)]
theorem H0i:Ctx Try.prog G (orc H0h):=(A1o.cons (F8c F7m) (.cons (F8c F7q) .nil)).ctx A1w
noncomputable def F8d:List T->Option T:=g3 tH tFS tFS fun h a b=>open Classical in if F2i h a b then some (bv (morB h.1 a b))else none
theorem A7z {u v ta tb:T} {h:List Typ×List Ft} {a b:List Nd} (hu:IsS eTyp u h.1) (hv:IsS eFt v h.2) (hta:IsS eNd ta a) (htb:IsS eNd tb b) (hm:F2i h a b):F8d [.ag [u,v],.ag [ta],.ag [tb]]=some (bv (morB h.1 a b)):=
 (D8r (τ:=tH) (σ:=tFS) (ρ:=tFS) ⟨u,v,rfl,hu,hv⟩ ⟨ta,rfl,hta⟩ ⟨tb,rfl,htb⟩).trans (if_pos hm)
theorem G3w:GOK Try.prog G 21 F8d:=D8q fun x y z h a b r hx hy hz hr=>by
 obtain⟨u,v,rfl,hu,hv⟩:=hx
 obtain⟨ta,rfl,hta⟩:=hy
 obtain⟨tb,rfl,htb⟩:=hz
 split at hr
 ·rename_i hm
  injection hr with hr
  subst hr
  obtain⟨l,hml,_⟩:=G8b h.1 a b
  have g:=G8c hu hv hta htb hm
  rw[hml]at g
  have c1:A0q (.t (.ag [u,v]))=some [.t u,.t v]:=rfl
  have c2:A0q (.t (.ag [ta]))=some [.t ta]:=rfl
  have c3:A0q (.t (.ag [tb]))=some [.t tb]:=rfl
  have a1:agOf [.t u,.t v] = .t (.ag [u,v]):=rfl
  have a2:agOf [.t ta] = .t (.ag [ta]):=rfl
  have a3:agOf [.t tb] = .t (.ag [tb]):=rfl
  refine A9z.runs H0i rfl ?_
  simp -implicitDefEqProofs [A5z,c1,c2,c3,a1,a2,a3,A0f,H0h,g,extractV]
 ·cases hr
noncomputable def G3x:List T->Option T:=g2 tH (tSl eFS) fun h l=>if l.length<=1000000 then some (bv (B9m h.1.length h.2.length l))else none
theorem C1o {u v tl:T} {h:List Typ×List Ft} {l:List FSv} (hu:IsS eTyp u h.1) (hv:IsS eFt v h.2) (ht:IsS eFS tl l) (hl:l.length<=1000000):G3x [.ag [u,v],tl]=some (bv (B9m h.1.length h.2.length l)):=
 (A5x (τ:=tH) (σ:=tSl eFS) ⟨u,v,rfl,hu,hv⟩ ht).trans (if_pos hl)
end Go.Proofs.Ytbiadmfmjnoecaa
