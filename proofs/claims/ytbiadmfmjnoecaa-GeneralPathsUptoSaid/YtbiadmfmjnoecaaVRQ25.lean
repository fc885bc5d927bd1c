/-
 Auxiliary facts. No statement of the program stands here.
-/
import Derived.Test.YtbiadmfmjnoecaaVRQ24
import Derived.Test.YtbiadmfmjnoecaaVRQ16
namespace Go.Proofs.Ytbiadmfmjnoecaa
set_option linter.unusedSimpArgs false
set_option linter.unusedVariables false
open Go Go.Abs
theorem E3m {α:Type} {e:Enc α} {ty:Nat} {H:Heap} {b:Nat} {l:List α} (h:A0j e ty H b l) (y:T) :
  toT H (oneOf [rowP e b l,.t y])=some (.tu [A0k e l,y],B1y b l):=by
 have ht:=h.toT
 cases l with
 | nil=>rfl
 | cons x r=>
  show toT H (.tu [rowP e b (x::r),.t y])=_
  simp only[toT,toTs,ht,Option.map_some,List.append_nil]
instance:Inhabited Co:=⟨⟨A2z,[]⟩⟩
def B3f (x:Co) (out:List Co):Nat->Nat
 | 0=>0
 | k+1=>if A6o x (out.getD k default)then B3f x out k else k+1
theorem D5m (x:Co) (out:List Co):∀k,B3f x out k<=k
 | 0=>Nat.le_refl _
 | k+1=>by
  unfold B3f
  have:=D5m x out k
  split<;>omega
def ins (x:Co) (out:List Co):List Co:=out.take (B3f x out out.length)++[x]++out.drop (B3f x out out.length)
theorem F1r (x:Co) (out:List Co):(ins x out).length=out.length+1:=by
 have:=D5m x out out.length
 unfold ins
 simp
 omega
theorem F6x {x y:Co} {out:List Co}:y∈ins x out ↔ y=x\/y∈out:=by
 unfold ins
 rw[List.mem_append,List.mem_append]
 constructor
 ·rintro((h | h) | h)
  ·exact .inr (List.mem_of_mem_take h)
  ·exact .inl (by simpa using h)
  ·exact .inr (List.mem_of_mem_drop h)
 ·rintro(rfl | h)
  ·exact .inl (.inr (by simp))
  ·rw[<-List.take_append_drop (B3f x out out.length) out]at h
   rcases List.mem_append.1 h with h | h
   ·exact .inl (.inl h)
   ·exact .inr h
noncomputable def mkCo (d:List TD) (all:List Str) (codes:List (List W)) (b:List W):Co:=⟨B1f d all codes b,b⟩
noncomputable def coUp (d:List TD) (all:List Str) (codes f:List (List W)):Nat->List Co
 | 0=>[]
 | j+1=>ins (mkCo d all codes (f.getD j [])) (coUp d all codes f j)
theorem B8u (d:List TD) (all:List Str) (codes f:List (List W)):∀j,(coUp d all codes f j).length=j
 | 0=>rfl
 | j+1=>by simp only[coUp,F1r,B8u d all codes f j]
theorem B5z {d:List TD} {all:List Str} {codes f:List (List W)} {y:Co}:∀{j:Nat},j<=f.length->(y∈coUp d all codes f j ↔ ∃i x,i<j/\f[i]?=some x/\y=mkCo d all codes x)
 | 0,_=>by simp[coUp]
 | j+1,hj=>by
  have hgd:f[j]?=some (f.getD j []):=by simp[List.getD_eq_getElem?_getD,show j<f.length by omega]
  rw[coUp,F6x,B5z (j:=j) (by omega)]
  constructor
  ·rintro(rfl | ⟨i,x,h1,h2,h3⟩)
   ·exact⟨j,_,by omega,hgd,rfl⟩
   ·exact⟨i,x,by omega,h2,h3⟩
  ·rintro⟨i,x,h1,h2,h3⟩
   by_cases e:i=j
   ·subst e
    rw[hgd]at h2
    injection h2 with h2
    left
    rw[h3,h2]
   ·exact .inr ⟨i,x,by omega,h2,h3⟩
noncomputable def A0o (d:List TD):List (List W):=(names d).map (A4p d (names d))
noncomputable def A0q (d:List TD):List Co:=coUp d (names d) (A0o d) (A1s (A0o d)) (A1s (A0o d)).length
noncomputable def A4c (d:List TD):T:=
 if A3m d≠0 then .tu [nilS,iv (A3m d)]else if 256<(A1s (A0o d)).length then .tu [nilS,iv 7]else .tu [A0k eCo (A0q d),iv 0]
noncomputable def G7v:List T->Option T:=g3 (tSl eTD) (tSl eStr) tStr fun d all s=>open Classical in if DOK d/\all.length<=256 then some (encB (A4p d all s))else none
theorem G3d:GOK Try.prog G 103 G7v:=F0n fun a b c x y z r ha hb hc hr=>by
 obtain rfl:c=sv z:=hc
 split at hr
 ·rename_i h;injection hr with hr;subst hr;exact F6u ha h.1 hb h.2 z
 ·cases hr
theorem G3e {t u:T} {d:List TD} {all:List Str} (ht:IsS eTD t d) (hd:DOK d) (hu:IsS eStr u all) (hl:all.length<=256) (s:Str):G7v [t,u,sv s]=some (encB (A4p d all s)):=
 (F0o (τ:=tSl eTD) (σ:=tSl eStr) (ρ:=tStr) ht hu rfl).trans (if_pos ⟨hd,hl⟩)
noncomputable def gFam:List T->Option T:=g1 (tSl eB) fun l=>open Classical in if 0<l.length/\l.length<=256/\(∀x∈l,x.length<=64)then some (A0k eB (A1s l))else none
theorem G7w:GOK Try.prog G 104 gFam:=C4w fun a x r ha hr=>by
 split at hr
 ·rename_i h;injection hr with hr;subst hr;exact E3k ha h.1 h.2.1 h.2.2
 ·cases hr
theorem G7x {t:T} {l:List (List W)} (ht:IsS eB t l) (h0:0<l.length) (hl:l.length<=256) (hs:∀x∈l,x.length<=64):gFam [t]=some (A0k eB (A1s l)):=
 (C4x (τ:=tSl eB) ht).trans (if_pos ⟨h0,hl,hs⟩)
noncomputable def F6y:List T->Option T:=g4 (tSl eTD) (tSl eStr) (tSl eB) tB fun d all codes b=>open Classical in if Good d/\codes.length=all.length/\all.length<=256/\(∀s∈all,s.size<=cap)/\(∀x∈codes,x.length<=64)/\b.length<=64 then some (sv (B1f d all codes b))else none
theorem F6z:GOK Try.prog G 105 F6y:=H0r fun a b c e x y z u r ha hb hc he hr=>by
 obtain rfl:e=encB u:=he
 split at hr
 ·rename_i h;injection hr with hr;subst hr;exact F1q ha h.1 hb hc h.2.1 h.2.2.1 h.2.2.2.1 h.2.2.2.2.1 h.2.2.2.2.2
 ·cases hr
noncomputable def E3n:List T->Option T:=g2 (tAg eCo) (tAg eCo) fun a b=>if a.code.length<=1000/\b.code.length<=1000 then some (bv (A6o a b))else none
theorem F1s:GOK Try.prog G 106 E3n:=A6w fun a b x y r ha hb hr=>by
 obtain rfl:a = .ag (eCo.enc x):=ha
 obtain rfl:b = .ag (eCo.enc y):=hb
 split at hr
 ·rename_i h;injection hr with hr;subst hr;exact E3l h.1 h.2
 ·cases hr
theorem F1t {a b:Co} (ha:a.code.length<=1000) (hb:b.code.length<=1000):E3n [.ag (eCo.enc a),.ag (eCo.enc b)]=some (bv (A6o a b)):=
 (A5y (τ:=tAg eCo) (σ:=tAg eCo) (x:=a) (y:=b) rfl rfl).trans (if_pos ⟨ha,hb⟩)
noncomputable def tb20:Tbl:=[(101,gD fun d=>iv (A3m d)),(102,gD fun d=>A0k eStr (names d)),(103,G7v),(104,gFam),(105,F6y),(106,E3n)]
theorem B0k:Ctx Try.prog G (orc tb20):=
 (A1t.cons (B4m E3f) (.cons (B4m fun ht hd=>D3e ht (by have:=hd.1;unfold cap;omega)) (.cons G3d (.cons G7w (.cons F6z (.cons F1s .nil)))))).ctx A1u
theorem A6i {d:List TD} {s:Str}:s∈names d ↔ ∃x∈d,x.name=s:=by
 have key:∀(l:List TD) (acc:List Str),s∈l.foldl (fun out x=>put out x.name) acc ↔ s∈acc\/∃x∈l,x.name=s:=by
  intro l
  induction l with
  | nil=>intro acc;simp
  | cons y l ih=>
   intro acc
   rw[List.foldl_cons,ih,D5g]
   constructor
   ·rintro((h | h) | ⟨x,h1,h2⟩)
    ·exact .inl h
    ·exact .inr ⟨y,by simp,h.symm⟩
    ·exact .inr ⟨x,by simp[h1],h2⟩
   ·rintro(h | ⟨x,h1,h2⟩)
    ·exact .inl (.inl h)
    ·rcases List.mem_cons.1 h1 with rfl | h1
     ·exact .inl (.inr h2.symm)
     ·exact .inr ⟨x,h1,h2⟩
 have:=key d []
 simpa[names]using this
theorem A9x (d:List TD):(names d).length<=d.length:=by
 have:=A7u d d.length
 unfold A2a at this
 rw[List.take_length]at this
 exact this
noncomputable def S76 (t:T) (d:List TD) (j:Nat):A0b:=⟨[(7,.t (iv (j:Int))),(6,rowP eB 0 ((A0o d).take j)),(5,.t (A0k eStr (names d))),(0,.t t)],rowH eB 101 0 ((A0o d).take j),1,92⟩
noncomputable def S76e (t:T) (d:List TD):A0b:=⟨[(6,.t (A0k eB (A0o d))),(5,.t (A0k eStr (names d))),(0,.t t)],[],1,92⟩
noncomputable def S76b (t:T) (d:List TD) (j:Nat):A0b:=⟨[(10,.t (iv (j:Int))),(9,rowP eCo 0 (coUp d (names d) (A0o d) (A1s (A0o d)) j)),(8,.t (A0k eB (A1s (A0o d)))),(6,.t (A0k eB (A0o d))),(5,.t (A0k eStr (names d))),(0,.t t)],rowH eCo 116 0 (coUp d (names d) (A0o d) (A1s (A0o d)) j),1,92⟩
noncomputable def S76c (t:T) (d:List TD) (j:Nat) (x:Co) (k:Nat):A0b:=⟨[(12,.t (iv (k:Int))),(11,.ptr 1 0),(10,.t (iv (j:Int))),(9,rowP eCo 0 (coUp d (names d) (A0o d) (A1s (A0o d)) j)),(8,.t (A0k eB (A1s (A0o d)))),(6,.t (A0k eB (A0o d))),(5,.t (A0k eStr (names d))),(0,.t t)],
 rowH eCo 116 0 (coUp d (names d) (A0o d) (A1s (A0o d)) j)++rowH eCo 116 1 [x],2,92⟩
noncomputable def S76d (t:T) (d:List TD) (j:Nat):A0b:=⟨[(10,.t (iv (j:Int))),(9,rowP eCo 0 (coUp d (names d) (A0o d) (A1s (A0o d)) (j+1))),(8,.t (A0k eB (A1s (A0o d)))),(6,.t (A0k eB (A0o d))),(5,.t (A0k eStr (names d))),(0,.t t)],rowH eCo 116 0 (coUp d (names d) (A0o d) (A1s (A0o d)) (j+1)),1,92⟩
theorem B6a {t:T} {d:List TD} (ht:IsS eTD t d) (hd:DOK d):A0y Try.prog G 76 [t] (· = A4c d):=by
 have hzB:eB.z=1:=rfl
 have hzC:eCo.z=2:=rfl
 have q1:=B3e (f:=fun d=>iv (A3m d)) ht hd
 have q2:=B3e (f:=fun d=>A0k eStr (names d)) ht hd
 refine C7q.call rfl ?_
 unfold B8f
 refine A0a B0k ?_
 simp -implicitDefEqProofs
 by_cases hE:A3m d=0
 ·have hg:=C0o hd hE
  have hnl:(names d).length<=256:=Nat.le_trans (A9x d) hg.len
  have hN:=IsS.tree eStr (names d)
  have hcl:(A0o d).length=(names d).length:=by simp[A0o]
  have hcs:∀x∈A0o d,x.length<=64:=fun x hx=>by
   obtain⟨s,_,rfl⟩:=List.mem_map.1 hx
   exact D9p d _ s
  have hc0:0<(A0o d).length:=by
   rw[hcl]
   have hne:=hg.ne
   cases hd':d with
   | nil=>rw[hd']at hne;simp at hne
   | cons x r=>
    have:x.name∈names (x::r):=A6i.2 ⟨x,by simp,rfl⟩
    exact List.length_pos_of_mem this
  have hnsz:∀s∈names d,s.size<=cap:=fun s hs=>by
   obtain⟨x,hx,rfl⟩:=A6i.1 hs
   exact(hd.2 x hx).size
  refine A0a B0k ?_
  simp -implicitDefEqProofs [tb20,q1,hE]
  refine A0a B0k ?_
  simp -implicitDefEqProofs [tb20,q2]
  refine A0a B0k ?_
  simp -implicitDefEqProofs
  refine A0s (fun _:Unit=>S76e t d) (fun _=>True) (fun _=>rfl) ?_ ?_
  ·refine A0a B0k ?_
   simp -implicitDefEqProofs
   refine A0h ?_
   refine A1b (S76 t d) (names d).length (fun _=>rfl) ?_ rfl ?_ ?_
   ·exact A0i (k:=0) (A0j.nil _ _ _ _) (by omega) (by omega) (by simp -implicitDefEqProofs [rowP,ren,under])
   ·intro j hj
    refine A0d B0k ?_
    obtain⟨s,hs⟩:∃s,(names d)[j]?=some s:=⟨_,List.getElem?_eq_getElem hj⟩
    have ia:=B4p hN hs
    have gc:=G3e ht hd hN hnl s
    have r0:=A0j.head' eB 101 0 ((A0o d).take j)
    have hlt:((A0o d).take j).length=j:=by rw[List.length_take];omega
    have cs:(A0o d).take (j+1)=(A0o d).take j++[A4p d (names d) s]:=by
     have:(A0o d)[j]?=some (A4p d (names d) s):=by simp[A0o,hs]
     rw[List.take_add_one,this];rfl
    have lp:∀(cs:List T) (c:T),A0f false 1 (rowH eB 101 0 ((A0o d).take j)) (.t (.pt (c::cs)))=some (.t c):=fun cs c=>rfl
    have e1:IntKind.i64.wrap ((j:Int)+1)=((j+1:Nat):Int):=A0l (by omega) (by omega)
    have bs:A1p 101 1 [.slice none 0 0] 1 [(0,.t (encB (A4p d (names d) s)))] 1=some (.row 1 0 1 1,.cells 101 [.t (encB (A4p d (names d) s))]):=rfl
    obtain⟨b2,H2,n2,ap2,r2,ne2,_⟩:=A1k (e:=eB) (ty:=101) (by':=24) (nx:=2) (m:=[A4p d (names d) s]) (r0.cons (k:=1) (r:=.cells 101 [.t (encB (A4p d (names d) s))]) (by omega)) (A3r (b:=1) (ty:=101) _ (by simp[eB])) (by rw[hlt];simp;omega) (by rw[hlt];simp;omega)
    rw[hzB]at ap2
    simp -implicitDefEqProofs [S76,hj,hN.len,ia,lp,tb20,gc,bs,ap2,e1]
    rw[cs]
    exact A0i (k:=b2) r2 (by omega) (by omega) (by simp -implicitDefEqProofs [A0g,A0e,ren,under])
   ·refine A0d B0k ?_
    have r1:=A0j.head' eB 101 0 (A0o d)
    have tk:(A0o d).take (names d).length=A0o d:=List.take_of_length_le (by omega)
    simp -implicitDefEqProofs [S76,hN.len]
    rw[tk]
    refine Next.mk () trivial ((B0e [0]).trans (A0c rfl rfl ?_ ?_))
    ·simp -implicitDefEqProofs [S76e,A0b.frz,C8q r1,B8t]
    ·simp -implicitDefEqProofs [S76e]
  ·rintro _ -
   obtain⟨f,hf⟩:∃f,f=A1s (A0o d):=⟨_,rfl⟩
   have hfam:=B5y 300 0 (A0o d)
   have hfl:f.length<=257:=by rw[hf];exact hfam.len (by omega)
   have hfs:∀x∈f,x.length<=64:=by rw[hf];exact hfam.size hcs
   have gfm:=G7x (IsS.tree eB (A0o d)) hc0 (by omega) hcs
   rw[<-hf]at gfm
   have hF:=IsS.tree eB f
   refine A0a B0k ?_
   simp -implicitDefEqProofs [S76e,tb20,gfm]
   by_cases h256:256<f.length
   ·have h256':(256:Int)<(f.length:Int):=by omega
    have hres:A4c d = .tu [nilS,iv 7]:=by unfold A4c;rw[if_neg (by rw[hE];simp),<-hf,if_pos h256]
    rw[hres]
    refine A0d B0k ?_
    simp -implicitDefEqProofs [hF.len,h256,h256']
   ·have h256':¬(256:Int)<(f.length:Int):=by omega
    have hres:A4c d = .tu [A0k eCo (A0q d),iv 0]:=by unfold A4c;rw[if_neg (by rw[hE];simp),<-hf,if_neg h256]
    rw[hres]
    refine A0a B0k ?_
    simp -implicitDefEqProofs [hF.len,h256,h256']
    refine A0a B0k ?_
    simp -implicitDefEqProofs
    refine A0s (fun _:Unit=>S76b t d f.length) (fun _=>True) (fun _=>rfl) ?_ ?_
    ·refine A0a B0k ?_
     simp -implicitDefEqProofs
     refine A0h ?_
     refine A1b (S76b t d) f.length (fun _=>rfl) ?_ rfl ?_ ?_
     ·exact A0i (k:=0) (A0j.nil _ _ _ _) (by omega) (by omega) (by simp -implicitDefEqProofs [hf,coUp,rowP,ren,under])
     ·intro j hj
      obtain⟨x,hx⟩:∃x,f[j]?=some x:=⟨_,List.getElem?_eq_getElem hj⟩
      have hgx:f.getD j []=x:=by simp[List.getD_eq_getElem?_getD,hx]
      have hxl:=hfs x (List.mem_of_getElem? hx)
      obtain⟨out,hout⟩:∃out,out=coUp d (names d) (A0o d) f j:=⟨_,rfl⟩
      have hol:out.length=j:=by rw[hout];exact B8u _ _ _ _ _
      have hoc:∀y∈out,y.code.length<=64:=fun y hy=>by
       rw[hout]at hy
       obtain⟨i,z,h1,h2,rfl⟩:=(B5z (by omega)).1 hy
       exact hfs z (List.mem_of_getElem? h2)
      obtain⟨co,hco⟩:∃co,co=mkCo d (names d) (A0o d) x:=⟨_,rfl⟩
      have hcc:co.code.length<=64:=by rw[hco];exact hxl
      have hnext:coUp d (names d) (A0o d) f (j+1)=ins co out:=by rw[coUp,hgx,<-hco,<-hout]
      have r0:=A0j.head' eCo 116 0 out
      have gn:F6y [t,A0k eStr (names d),A0k eB (A0o d),encB x]=some (sv (B1f d (names d) (A0o d) x)):=
       (H0s (τ:=tSl eTD) (σ:=tSl eStr) (ρ:=tSl eB) (π:=tB) (u:=x) ht hN (IsS.tree eB (A0o d)) rfl).trans (if_pos ⟨hg,hcl,hnl,hnsz,hcs,hxl⟩)
      have ix:=ia_B hF hx
      have lp:∀(cs:List T) (c:T),A0f false 1 (rowH eCo 116 0 out) (.t (.pt (c::cs)))=some (.t c):=fun cs c=>rfl
      have en:eCo.enc co=[sv (B1f d (names d) (A0o d) x),encB x]:=by rw[hco];rfl
      have e1:IntKind.i64.wrap ((j:Int)+1)=((j+1:Nat):Int):=A0l (by omega) (by omega)
      have fl:A5q (fun k=>([(0,1),(1,1)]:List (Nat×Nat))[k]?) [.t (.v (.string ⟨#[]⟩)),.t (.v (.slice none 0 0))] [(0,.t (sv (B1f d (names d) (A0o d) x))),(1,.t (encB x))]=some [.t (sv (B1f d (names d) (A0o d) x)),.t (encB x)]:=rfl
      refine A0a B0k ?_
      simp -implicitDefEqProofs [S76b,<-hf,<-hout,hj,hF.len]
      refine A0s (fun _:Unit=>S76d t d j) (fun _=>True) (fun _=>rfl) ?_ ?_
      ·refine A0h ?_
       refine A0a B0k ?_
       simp -implicitDefEqProofs [ix,lp,tb20,gn,fl,agOf,A1e,A0w,A1y]
       refine A0a B0k ?_
       simp -implicitDefEqProofs [A2f]
       refine A0s (S76c t d j co) (fun k=>k=B3f co out out.length) (fun _=>rfl) ?_ ?_
       ·refine A0h ?_
        refine A2o (S76c t d j co) (fun k=>k) (fun k=>k<=out.length/\B3f co out k=B3f co out out.length) out.length (fun _=>rfl) ⟨Nat.le_refl _,rfl⟩ ?_ rfl ?_
        ·unfold S76c
         rw[<-hf,<-hout]
         refine B1z (e:=eCo) (e':=eCo) (k:=0) (k':=1) (r0.cons (show(1:Nat)≠0 by omega)) (.inr (by simp[A1g,en])) (by omega) (by omega) (by omega) (by omega) (by omega) (by omega) ?_
         simp -implicitDefEqProofs [hol,<-hf,<-hout,A0g,A0e,ren,under]
        ·rintro k ⟨hk,hki⟩
         obtain⟨H0,hH0⟩:∃H0,H0=rowH eCo 116 0 out++rowH eCo 116 1 [co]:=⟨_,rfl⟩
         have a0:A0j eCo 116 H0 0 out:=by rw[hH0];exact A0j.head _ _ _ _ _
         have a1:A0j eCo 116 H0 1 [co]:=by rw[hH0];exact(A0j.head' _ _ _ _).left (by omega)
         have l1:=a1.loadAg (i:=0) (x:=co) rfl
         rw[hzC,Nat.zero_mul]at l1
         refine A0d B0k ?_
         rcases Nat.eq_zero_or_pos k with h0 | h0
         ·subst h0
          simp -implicitDefEqProofs [S76c,<-hf,<-hout,<-hH0]
          refine Next.mk 0 (by rw[<-hki];rfl) ?_
          unfold S76c
          rw[<-hf,<-hout]
          refine B1z (e:=eCo) (e':=eCo) (k:=0) (k':=1) a0 a1 (by omega) (by omega) (by omega) (by omega) (by omega) (by omega) ?_
          simp -implicitDefEqProofs [A0g,A0e,ren,under]
         ·obtain⟨k',hk'⟩:∃k',k'+1=k:=⟨k-1,by omega⟩
          obtain⟨y,hy⟩:∃y,out[k']?=some y:=⟨_,List.getElem?_eq_getElem (by omega)⟩
          have hgy:out.getD k' default=y:=by simp[List.getD_eq_getElem?_getD,hy]
          have iy:=A1r (e:=eCo) (b:=0) hy .i64
          have ly:=a0.loadAg hy
          rw[hzC]at iy ly
          have gb:=F1t (a:=co) (b:=y) (by omega) (Nat.le_trans (hoc y (List.mem_of_getElem? hy)) (by omega))
          have w1:IntKind.i64.wrap ((k:Int)-1)=(k':Int):=by rw[A8h (by omega) (by omega)];omega
          have is:B3f co out k=if A6o co y then B3f co out k' else k:=by rw[<-hk'];simp only[B3f,hgy]
          cases z:A6o co y with
          | true=>
           rw[z]at gb is
           simp only[if_true]at is
           simp -implicitDefEqProofs [S76c,<-hf,<-hout,<-hH0,h0,l1,w1,iy,ly,tb20,gb]
           refine Next.mk k' ⟨⟨by omega,by rw[<-is];exact hki⟩,by omega⟩ ?_
           unfold S76c
           rw[<-hf,<-hout]
           refine B1z (e:=eCo) (e':=eCo) (k:=0) (k':=1) a0 a1 (by omega) (by omega) (by omega) (by omega) (by omega) (by omega) ?_
           simp -implicitDefEqProofs [A0g,A0e,ren,under]
          | false=>
           rw[z]at gb is
           simp only[Bool.false_eq_true,if_false]at is
           simp -implicitDefEqProofs [S76c,<-hf,<-hout,<-hH0,h0,l1,w1,iy,ly,tb20,gb]
           refine Next.mk k (by rw[<-hki];exact is.symm) ?_
           unfold S76c
           rw[<-hf,<-hout]
           refine B1z (e:=eCo) (e':=eCo) (k:=0) (k':=1) a0 a1 (by omega) (by omega) (by omega) (by omega) (by omega) (by omega) ?_
           simp -implicitDefEqProofs [A0g,A0e,ren,under]
       ·rintro k hk
        have hkl:k<=out.length:=by rw[hk];exact D5m _ _ _
        obtain⟨H0,hH0⟩:∃H0,H0=rowH eCo 116 0 out++rowH eCo 116 1 [co]:=⟨_,rfl⟩
        have a0:A0j eCo 116 H0 0 out:=by rw[hH0];exact A0j.head _ _ _ _ _
        have a1:A0j eCo 116 H0 1 [co]:=by rw[hH0];exact(A0j.head' _ _ _ _).left (by omega)
        obtain⟨p1,s1,hp1⟩:=C4c (e:=eCo) 0 out hkl .i64
        obtain⟨p2,s2,hp2⟩:=B6z (e:=eCo) 0 out hkl .i64
        have lt1:(out.take k).length=k:=by rw[List.length_take];omega
        have lt2:(out.drop k).length=out.length-k:=by simp
        obtain⟨b1,H1,n1,ap1,r1,ne1,le1,lk1,ge1⟩:=A1k (e:=eCo) (ty:=116) (by':=40) (nx:=2) (b:=7) (l:=[]) (m:=out.take k) (A0j.nil _ _ H0 _) (hp1 _ _ a0) (by rw[lt1];simp;omega) (by rw[lt1];simp;omega)
        rw[List.nil_append]at ap1 r1
        have a1':A0j eCo 116 H1 1 [co]:=a1.imp id fun h=>by rw[lk1 1 (by omega) (by omega)];exact h
        have l1:=a1'.loadAg (i:=0) (x:=co) rfl
        rw[hzC,Nat.zero_mul]at l1
        obtain⟨b2,H2,n2,ap2,r2,ne2,le2,lk2,ge2⟩:=A1k (e:=eCo) (ty:=116) (by':=40) (nx:=n1+1) (m:=[co]) (r1.cons (r:=.cells 116 ((eCo.enc co).map .t)) (Ne.symm ne1)) (A3r (b:=n1) (ty:=116) co (by simp)) (by rw[lt1];simp;omega) (by rw[lt1];simp;omega)
        have a0':A0j eCo 116 H2 0 out:=a0.imp id fun h=>by
         rw[lk2 0 (by omega) (by omega),look_cons,if_neg (by omega),lk1 0 (by omega) (by omega)]
         exact h
        obtain⟨b3,H3,n3,ap3,r3,ne3,le3,lk3,ge3⟩:=A1k (e:=eCo) (ty:=116) (by':=40) (nx:=n2) (m:=out.drop k) r2 (hp2 _ _ a0') (by simp;omega) (by simp;omega)
        have hins:out.take k++[co]++out.drop k=ins co out:=by unfold ins;rw[<-hk]
        rw[hins]at ap3 r3
        rw[hzC]at ap1 ap2 ap3 s1 s2
        have ap1:appM 116 2 40 H0 2 (.t nilS) p1=some (rowP eCo b1 (out.take k),H1,n1):=ap1
        have bs:A1p 116 2 [.string ⟨#[]⟩,.slice none 0 0] 1 [(0,.t (.ag (eCo.enc co)))] n1=some (.row n1 0 1 2,.cells 116 ((eCo.enc co).map .t)):=by rw[en];rfl
        refine A0d B0k ?_
        simp -implicitDefEqProofs [S76c,<-hf,<-hout,<-hH0,s1,s2,ap1,l1,bs,ap2,ap3]
        refine Next.mk () trivial ?_
        unfold S76d
        rw[<-hf,hnext]
        exact A0i (k:=b3) r3 (by omega) (by omega) (by simp -implicitDefEqProofs [A0g,A0e,ren,under])
      ·rintro _ -
       refine A0d B0k ?_
       have r1:=A0j.head' eCo 116 0 (coUp d (names d) (A0o d) f (j+1))
       simp -implicitDefEqProofs [S76d,<-hf,e1]
       exact A0i (k:=0) r1 (by omega) (by omega) (by simp -implicitDefEqProofs [A0g,A0e,ren,under])
     ·refine A0d B0k ?_
      have r1:=A0j.head' eCo 116 0 (coUp d (names d) (A0o d) (A1s (A0o d)) f.length)
      simp -implicitDefEqProofs [S76b,<-hf,hF.len]
      rw[<-hf]at r1
      exact Next.mk () trivial (A0i (k:=0) r1 (by omega) (by omega) (by simp -implicitDefEqProofs [A0g,A0e,ren,under]))
    ·rintro _ -
     refine A0d B0k ?_
     have tt:=(A0j.head' eCo 116 0 (A0q d)).toT
     have e:coUp d (names d) (A0o d) (A1s (A0o d)) f.length=A0q d:=by rw[hf];rfl
     have t2:=E3m (A0j.head' eCo 116 0 (A0q d)) (iv 0)
     simp -implicitDefEqProofs [S76b,e,-oneOf,t2]
 ·have hE':=A7h hE
  have hres:A4c d = .tu [nilS,iv (A3m d)]:=by unfold A4c;rw[if_pos hE]
  rw[hres]
  refine A0d B0k ?_
  simp -implicitDefEqProofs [tb20,q1,hE']
theorem E3o {t:T} {l:List Co} (h:IsS eCo t l) {i:Nat} {x:Co} (hx:l[i]?=some x):A1q 2 (.t t) (.t (iv (i:Int)))=some (.t (.pt (sv x.name::encB x.code::rest eCo l i))):=h.iaddr hx .i64
theorem G3f {t:T} {l:List TD} (h:IsS eTD t l) {i:Nat} {x:TD} (hx:l[i]?=some x):A1q 3 (.t t) (.t (iv (i:Int)))=some (.t (.pt (sv x.name::x.supers::x.feats::rest eTD l i))):=h.iaddr hx .i64
theorem F7a {t:T} {l:List FD} (h:IsS eFD t l) {i:Nat} {x:FD} (hx:l[i]?=some x):A1q 2 (.t t) (.t (iv (i:Int)))=some (.t (.pt (sv x.feat::sv x.value::rest eFD l i))):=h.iaddr hx .i64
theorem F1u {t:T} {l:List Co} (ht:IsS eCo t l) {i j:Nat} {x y:Co} (hx:l[i]?=some x) (hy:l[j]?=some y) (hxl:x.code.length<=1000) (hyl:y.code.length<=1000) :
  A0y Try.prog G 107 [t,iv (i:Int),iv (j:Int)] (· = bv (subL y.code x.code)):=by
 refine B7e.runs F6v rfl ?_
 have i1:=E3o ht hx
 have i2:=E3o ht hy
 have gs:gB2 fSub [encB y.code,encB x.code]=some (bv (subL y.code x.code)):=B7b (A1h _) (A1h _) hyl hxl
 simp -implicitDefEqProofs [B0h,i1,i2,A0f,tb17,gs]
def B6n (l:List Co) (s:Str):Nat:=l.findIdx fun x=>decide (x.name=s)
def B8v (l:List Co) (s:Str):Int:=if B6n l s<l.length then(B6n l s:Int)else -1
def A4i (t:T) (s:Str) (j:Nat):A0b:=⟨[(5,.t (iv (j:Int))),(1,.t (sv s)),(0,.t t)],[],0,20⟩
theorem E3p {t:T} {l:List Co} (ht:IsS eCo t l) (s:Str) (hl:l.length<=cap):A0y Try.prog G 109 [t,sv s] (· = iv (B8v l s)):=by
 unfold cap at hl
 refine C4h.call rfl ?_
 unfold B4h
 refine A0a ctx0 ?_
 simp -implicitDefEqProofs
 obtain⟨n,hn⟩:∃n,n=l.findIdx fun x=>decide (x.name=s):=⟨_,rfl⟩
 have hle:n<=l.length:=by rw[hn];exact A4o _ _
 have hres:B8v l s=if n<l.length then(n:Int)else -1:=by rw[hn];rfl
 refine A0s (fun _:Unit=>A4i t s l.length) (fun _=>n=l.length) (fun _=>rfl) ?_ ?_
 ·refine A0a ctx0 ?_
  simp -implicitDefEqProofs
  refine A0h ?_
  refine A1b (A4i t s) n (fun _=>rfl) ?_ rfl ?_ ?_
  ·refine A0c rfl rfl ?_ ?_<;>simp -implicitDefEqProofs [A4i]
  ·intro j hj
   refine A0d ctx0 ?_
   have hjl:j<l.length:=by omega
   obtain⟨x,hx⟩:∃x,l[j]?=some x:=⟨_,List.getElem?_eq_getElem hjl⟩
   have hp:=A2w (p:=fun x=>decide (x.name=s)) (by rw[<-hn];exact hj) hx
   have e1:IntKind.i64.wrap ((j:Int)+1)=((j+1:Nat):Int):=A0l (by omega) (by omega)
   have ia:=ht.iaddr hx .i64
   simp only[eCo,List.cons_append,List.nil_append]at ia
   have hp:¬x.name=s:=by simpa using hp
   simp -implicitDefEqProofs [A4i,hjl,ht.len,ia,A0f,e1,A7s,hp]
   refine A0c rfl rfl ?_ ?_<;>simp -implicitDefEqProofs
  ·refine A0d ctx0 ?_
   by_cases e:n=l.length
   ·have hnl:¬n<l.length:=by omega
    simp -implicitDefEqProofs [A4i,ht.len,hnl]
    exact Next.mk () (by first | exact trivial | exact e) (A0c rfl rfl (by simp -implicitDefEqProofs [e]) (by simp -implicitDefEqProofs))
   ·have hjl:n<l.length:=by omega
    obtain⟨x,hx,hp⟩:=A2h (p:=fun x=>decide (x.name=s)) (l:=l) (by rw[<-hn];exact hjl)
    rw[<-hn]at hx
    have ia:=ht.iaddr hx .i64
    simp only[eCo,List.cons_append,List.nil_append]at ia
    have hp:x.name=s:=by simpa using hp
    simp -implicitDefEqProofs [A4i,hjl,ht.len,ia,A0f,A7s,hp]
    rw[hres,if_pos hjl]
 ·rintro _ e
  refine A0d ctx0 ?_
  simp -implicitDefEqProofs [A4i]
  rw[hres,if_neg (by omega)]
def D9r (l:List Co) (b:List W):Int:=if l.findIdx (fun x=>x.code==b)<l.length then(l.findIdx (fun x=>x.code==b):Int)else -1
def S100 (t:T) (b:List W) (j:Nat):A0b:=⟨[(6,.t (iv (j:Int))),(5,.t (encB b)),(0,.t t)],[],0,23⟩
noncomputable def tb21:Tbl:=[(117,gRN),(118,gB2 G7i)]
theorem F1v:Ctx Try.prog G (orc tb21):=(A1t.cons D2n (.cons (B2y D8v) .nil)).ctx A1u
theorem F1w {t u:T} {l:List Co} {b:List W} (ht:IsS eCo t l) (hl:l.length<=cap) (hs:∀x∈l,x.code.length<=1000) (hu:decB u=some b) (hb:b.length<=1000):A0y Try.prog G 100 [t,u] (· = iv (D9r l (A1x b))):=by
 unfold cap at hl
 have gn:gRN [u]=some (encB (A1x b)):=by simp[gRN,hu,hb]
 have hnl:(A1x b).length<=1000:=Nat.le_trans (A9q b) hb
 refine D2x.call rfl ?_
 unfold C2s
 refine A0a F1v ?_
 simp -implicitDefEqProofs
 refine A0a F1v ?_
 simp -implicitDefEqProofs [tb21,gn]
 obtain⟨c,hc⟩:∃c,c=A1x b:=⟨_,rfl⟩
 rw[<-hc]at hnl ⊢
 obtain⟨n,hn⟩:∃n,n=l.findIdx fun x=>x.code==c:=⟨_,rfl⟩
 have hle:n<=l.length:=by rw[hn];exact A4o _ _
 have hres:D9r l c=if n<l.length then(n:Int)else -1:=by rw[hn];rfl
 refine A0s (fun _:Unit=>S100 t c l.length) (fun _=>n=l.length) (fun _=>rfl) ?_ ?_
 ·refine A0a F1v ?_
  simp -implicitDefEqProofs
  refine A0h ?_
  refine A1b (S100 t c) n (fun _=>rfl) ?_ rfl ?_ ?_
  ·refine A0c rfl rfl ?_ ?_<;>simp -implicitDefEqProofs [S100]
  ·intro j hj
   refine A0d F1v ?_
   have hjl:j<l.length:=by omega
   obtain⟨x,hx⟩:∃x,l[j]?=some x:=⟨_,List.getElem?_eq_getElem hjl⟩
   have hp:=A2w (p:=fun x:Co=>x.code==c) (by rw[<-hn];exact hj) hx
   have gs:=F6w x.code c (hs x (List.mem_of_getElem? hx)) hnl
   rw[hp]at gs
   have ia:=E3o ht hx
   have e1:IntKind.i64.wrap ((j:Int)+1)=((j+1:Nat):Int):=A0l (by omega) (by omega)
   simp -implicitDefEqProofs [S100,hjl,ht.len,ia,A0f,tb21,gs,e1]
   refine A0c rfl rfl ?_ ?_<;>simp -implicitDefEqProofs
  ·refine A0d F1v ?_
   by_cases e:n=l.length
   ·have hnl':¬n<l.length:=by omega
    simp -implicitDefEqProofs [S100,ht.len,hnl']
    exact Next.mk () (by first | exact trivial | exact e) (A0c rfl rfl (by simp -implicitDefEqProofs [e]) (by simp -implicitDefEqProofs))
   ·have hjl:n<l.length:=by omega
    obtain⟨x,hx,hp⟩:=A2h (p:=fun x:Co=>x.code==c) (l:=l) (by rw[<-hn];exact hjl)
    rw[<-hn]at hx
    have gs:=F6w x.code c (hs x (List.mem_of_getElem? hx)) hnl
    rw[hp]at gs
    have ia:=E3o ht hx
    simp -implicitDefEqProofs [S100,hjl,ht.len,ia,A0f,tb21,gs]
    rw[hres,if_pos hjl]
 ·rintro _ e
  refine A0d F1v ?_
  simp -implicitDefEqProofs [S100]
  rw[hres,if_neg (by omega)]
noncomputable def fIdx (x:TD) (s:Str):Nat:=x.fs.findIdx fun f=>decide (f.feat=s)
noncomputable def valT (x:TD) (s:Str):T:=match x.fs[fIdx x s]? with
 | some f=>.tu [sv f.value,bv true]
 | none=>.tu [sv A2z,bv false]
def S121 (x:TD) (s:Str) (j:Nat):A0b:=⟨[(6,.t (iv (j:Int))),(2,.ptr 0 0),(1,.t (sv s))],[(0,.cells 123 [.t (sv x.name),.t x.supers,.t x.feats])],1,28⟩
theorem F1x {x:TD} (ok:x.OK) (s:Str):A0y Try.prog G 121 [.ag [sv x.name,x.supers,x.feats],sv s] (· = valT x s):=by
 have hfl:=ok.fsl
 unfold cap at hfl
 refine C7x.call rfl ?_
 unfold B8l
 refine A0a ctx0 ?_
 simp -implicitDefEqProofs [A0w]
 obtain⟨n,hn⟩:∃n,n=fIdx x s:=⟨_,rfl⟩
 have hle:n<=x.fs.length:=by rw[hn];exact A4o _ _
 refine A0s (fun _:Unit=>S121 x s x.fs.length) (fun _=>n=x.fs.length) (fun _=>rfl) ?_ ?_
 ·refine A0a ctx0 ?_
  simp -implicitDefEqProofs
  refine A0h ?_
  refine A1b (S121 x s) n (fun _=>rfl) ?_ rfl ?_ ?_
  ·refine A0c rfl rfl ?_ ?_<;>simp -implicitDefEqProofs [S121]
  ·intro j hj
   refine A0d ctx0 ?_
   have hjl:j<x.fs.length:=by omega
   obtain⟨f,hf⟩:∃f,x.fs[j]?=some f:=⟨_,List.getElem?_eq_getElem hjl⟩
   have hp:¬f.feat=s:=by simpa using A2w (p:=fun f:FD=>decide (f.feat=s)) (l:=x.fs) (by rw[hn]at hj;exact hj) hf
   have ia:=F7a ok.fs hf
   have e1:IntKind.i64.wrap ((j:Int)+1)=((j+1:Nat):Int):=A0l (by omega) (by omega)
   simp -implicitDefEqProofs [S121,hjl,A0f,ok.fs.len,ia,A7s,hp,e1]
   refine A0c rfl rfl ?_ ?_<;>simp -implicitDefEqProofs
  ·refine A0d ctx0 ?_
   by_cases e:n=x.fs.length
   ·have hnl':¬n<x.fs.length:=by omega
    simp -implicitDefEqProofs [S121,A0f,ok.fs.len,hnl']
    exact Next.mk () (by first | exact trivial | exact e) (A0c rfl rfl (by simp -implicitDefEqProofs [e]) (by simp -implicitDefEqProofs))
   ·have hjl:n<x.fs.length:=by omega
    obtain⟨f,hf,hp⟩:=A2h (p:=fun f:FD=>decide (f.feat=s)) (l:=x.fs) (by show fIdx x s<_;rw[<-hn];exact hjl)
    have hf:x.fs[n]?=some f:=by rw[hn];exact hf
    have hp:f.feat=s:=by simpa using hp
    have ia:=F7a ok.fs hf
    have hv:valT x s = .tu [sv f.value,bv true]:=by unfold valT;rw[<-hn,hf]
    simp -implicitDefEqProofs [S121,hjl,A0f,ok.fs.len,ia,A7s,hp,hv]
 ·rintro _ e
  refine A0d ctx0 ?_
  have hv:valT x s = .tu [sv A2z,bv false]:=by
   unfold valT
   have:x.fs[fIdx x s]?=none:=by rw[<-hn,e];simp
   rw[this]
  simp -implicitDefEqProofs [S121,hv]
noncomputable def fUp (x:TD) (out:List Str) (k:Nat):List Str:=(x.fs.take k).foldl (fun o f=>put o f.feat) out
noncomputable def A4j (d:List TD) (j:Nat):List Str:=(d.take j).foldl (fun o x=>fUp x o x.fs.length) []
noncomputable def feats (d:List TD):List Str:=d.foldl (fun o x=>fUp x o x.fs.length) []
theorem E7c {x:TD} {out:List Str} {k:Nat} {f:FD} (h:x.fs[k]?=some f):fUp x out (k+1)=put (fUp x out k) f.feat:=by
 unfold fUp
 rw[List.take_add_one,h]
 simp[List.foldl_append]
theorem C4m {d:List TD} {j:Nat} {x:TD} (h:d[j]?=some x):A4j d (j+1)=fUp x (A4j d j) x.fs.length:=by
 unfold A4j
 rw[List.take_add_one,h]
 simp[List.foldl_append]
theorem E3q (d:List TD):A4j d d.length=feats d:=by unfold A4j feats;rw[List.take_length]
theorem C3b (x:TD) (out:List Str):∀k,(fUp x out k).length<=out.length+k
 | 0=>by simp[fUp]
 | k+1=>by
  have ih:=C3b x out k
  cases h:x.fs[k]? with
  | none=>
   have:fUp x out (k+1)=fUp x out k:=by unfold fUp;rw[List.take_add_one,h];simp
   rw[this];omega
  | some f=>
   rw[E7c h]
   have:=B1a (fUp x out k) f.feat
   omega
theorem B7k {d:List TD} (hf:∀x∈d,x.fs.length<=256):∀j,(A4j d j).length<=256*j
 | 0=>by simp[A4j]
 | j+1=>by
  have ih:=B7k hf j
  cases h:d[j]? with
  | none=>
   have:A4j d (j+1)=A4j d j:=by unfold A4j;rw[List.take_add_one,h];simp
   rw[this];omega
  | some x=>
   rw[C4m h]
   have h1:=C3b x (A4j d j) x.fs.length
   have h2:=hf x (List.mem_of_getElem? h)
   omega
noncomputable def S98 (t:T) (d:List TD) (j:Nat):A0b:=⟨[(4,.t (iv (j:Int))),(3,.t (A0k eStr (A4j d j))),(0,.t t)],[],0,34⟩
noncomputable def S98b (t:T) (x:TD) (out:List Str) (j k:Nat):A0b:=⟨[(5,.t (iv (k:Int))),(4,.t (iv (j:Int))),(3,.t (A0k eStr (fUp x out k))),(0,.t t)],[],0,34⟩
theorem F1y {t:T} {d:List TD} (ht:IsS eTD t d) (hg:Good d):A0y Try.prog G 98 [t] (· = A0k eStr (feats d)):=by
 have hdl:=hg.len
 refine C7s.call rfl ?_
 unfold B8h
 refine A0a A2m ?_
 simp -implicitDefEqProofs
 refine A0a A2m ?_
 simp -implicitDefEqProofs
 refine A0s (fun _:Unit=>S98 t d d.length) (fun _=>True) (fun _=>rfl) ?_ ?_
 ·refine A0a A2m ?_
  simp -implicitDefEqProofs
  refine A0h ?_
  refine A1b (S98 t d) d.length (fun _=>rfl) ?_ rfl ?_ ?_
  ·refine A0c rfl rfl ?_ ?_<;>simp -implicitDefEqProofs [S98,A4j,A0k]
  ·intro j hj
   obtain⟨x,hx⟩:∃x,d[j]?=some x:=⟨_,List.getElem?_eq_getElem hj⟩
   have ok:=hg.ok.2 x (List.mem_of_getElem? hx)
   have hxl:=hg.fsl x (List.mem_of_getElem? hx)
   have ia:=G3f ht hx
   have hln:=B7k hg.fsl j
   refine A0a A2m ?_
   simp -implicitDefEqProofs [S98,hj,ht.len]
   refine A0s (fun _:Unit=>S98b t x (A4j d j) j x.fs.length) (fun _=>True) (fun _=>rfl) ?_ ?_
   ·refine A0h ?_
    refine A0a A2m ?_
    simp -implicitDefEqProofs
    refine A0h ?_
    refine A1b (S98b t x (A4j d j) j) x.fs.length (fun _=>rfl) ?_ rfl ?_ ?_
    ·refine A0c rfl rfl ?_ ?_<;>simp -implicitDefEqProofs [S98b,fUp]
    ·intro k hk
     refine A0d A2m ?_
     obtain⟨f,hf⟩:∃f,x.fs[k]?=some f:=⟨_,List.getElem?_eq_getElem hk⟩
     have ib:=F7a ok.fs hf
     have hfl:=C3b x (A4j d j) k
     have gp:=C2y (IsS.tree eStr (fUp x (A4j d j) k)) f.feat (by unfold cap;omega)
     rw[<-E7c hf]at gp
     have e1:IntKind.i64.wrap ((k:Int)+1)=((k+1:Nat):Int):=A0l (by omega) (by omega)
     simp -implicitDefEqProofs [S98b,ia,A0f,ok.fs.len,hk,ib,tb11,gp,e1]
     refine A0c rfl rfl ?_ ?_<;>simp -implicitDefEqProofs
    ·refine A0d A2m ?_
     simp -implicitDefEqProofs [S98b,ia,A0f,ok.fs.len]
     exact Next.mk () trivial (A0c rfl rfl (by simp -implicitDefEqProofs) (by simp -implicitDefEqProofs))
   ·rintro _ -
    refine A0d A2m ?_
    have e1:IntKind.i64.wrap ((j:Int)+1)=((j+1:Nat):Int):=A0l (by omega) (by omega)
    have fs:=C4m hx
    simp -implicitDefEqProofs [S98b,e1]
    refine A0c rfl rfl ?_ ?_<;>simp -implicitDefEqProofs [fs]
  ·refine A0d A2m ?_
   simp -implicitDefEqProofs [S98,ht.len]
   exact Next.mk () trivial (A0c rfl rfl (by simp -implicitDefEqProofs) (by simp -implicitDefEqProofs))
 ·rintro _ -
  refine A0d A2m ?_
  simp -implicitDefEqProofs [S98,E3q]
noncomputable def hasF (x:TD) (s:Str):Bool:=decide (fIdx x s<x.fs.length)
noncomputable def D0w (x:TD) (s:Str):Str:=((x.fs[fIdx x s]?).map FD.value).getD A2z
theorem G7y (x:TD) (s:Str):valT x s = .tu [sv (D0w x s),bv (hasF x s)]:=by
 unfold valT D0w hasF
 by_cases h:fIdx x s<x.fs.length
 ·rw[List.getElem?_eq_getElem h,decide_eq_true h];rfl
 ·have:x.fs[fIdx x s]?=none:=by simp;omega
  rw[this,decide_eq_false h];rfl
noncomputable def A4k (d:List TD) (s:Str):Nat->List Str
 | 0=>[]
 | j+1=>match d[j]? with
  | some x=>if hasF x s then put (A4k d s j) x.name else A4k d s j
  | none=>A4k d s j
theorem B0l (d:List TD) (s:Str):∀j,(A4k d s j).length<=j
 | 0=>by simp[A4k]
 | j+1=>by
  have ih:=B0l d s j
  simp only[A4k]
  split
  ·split
   ·rename_i x _ _;have:=B1a (A4k d s j) x.name;omega
   ·omega
  ·omega
noncomputable def D3i (d:List TD) (s:Str):List Str:=A7v d (A4k d s d.length)
noncomputable def C4n (d:List TD) (s:Str):T:=if(D3i d s).length=1 then .tu [sv ((D3i d s).getD 0 A2z),bv true]else .tu [sv A2z,bv false]
noncomputable def gVal:List T->Option T:=g2 (tAg eTD) tStr fun x s=>open Classical in if x.OK then some (valT x s)else none
theorem F7b:GOK Try.prog G 121 gVal:=A6w fun a b x y r ha hb hr=>by
 obtain rfl:a = .ag (eTD.enc x):=ha
 obtain rfl:b=sv y:=hb
 split at hr
 ·rename_i h;injection hr with hr;subst hr;exact F1x h y
 ·cases hr
theorem F7c {x:TD} (ok:x.OK) (s:Str):gVal [.ag [sv x.name,x.supers,x.feats],sv s]=some (.tu [sv (D0w x s),bv (hasF x s)]):=by
 rw[<-G7y]
 exact(A5y (τ:=tAg eTD) (σ:=tStr) (x:=x) (y:=s) rfl rfl).trans (if_pos ok)
noncomputable def tb22:Tbl:=[(121,gVal),(120,gPut),(132,C0s)]
theorem F1z:Ctx Try.prog G (orc tb22):=(A1t.cons F7b (.cons G5x (.cons D3g .nil))).ctx A1u
noncomputable def S108 (t:T) (d:List TD) (s:Str) (j:Nat):A0b:=⟨[(7,.t (iv (j:Int))),(6,.t (A0k eStr (A4k d s j))),(1,.t (sv s)),(0,.t t)],[],0,43⟩
theorem F2a {t:T} {d:List TD} (ht:IsS eTD t d) (hg:Good d) (s:Str):A0y Try.prog G 108 [t,sv s] (· = C4n d s):=by
 have hdl:=hg.len
 refine C7v.call rfl ?_
 unfold B8k
 refine A0a F1z ?_
 simp -implicitDefEqProofs
 refine A0a F1z ?_
 simp -implicitDefEqProofs
 refine A0s (fun _:Unit=>S108 t d s d.length) (fun _=>True) (fun _=>rfl) ?_ ?_
 ·refine A0a F1z ?_
  simp -implicitDefEqProofs
  refine A0h ?_
  refine A1b (S108 t d s) d.length (fun _=>rfl) ?_ rfl ?_ ?_
  ·refine A0c rfl rfl ?_ ?_<;>simp -implicitDefEqProofs [S108,A4k,A0k]
  ·intro j hj
   refine A0d F1z ?_
   obtain⟨x,hx⟩:∃x,d[j]?=some x:=⟨_,List.getElem?_eq_getElem hj⟩
   have ok:=hg.ok.2 x (List.mem_of_getElem? hx)
   have ia:=G3f ht hx
   have gv:=F7c ok s
   have hul:=B0l d s j
   have gp:=C2y (IsS.tree eStr (A4k d s j)) x.name (by unfold cap;omega)
   have e1:IntKind.i64.wrap ((j:Int)+1)=((j+1:Nat):Int):=A0l (by omega) (by omega)
   have us:A4k d s (j+1)=if hasF x s then put (A4k d s j) x.name else A4k d s j:=by simp only[A4k,hx]
   cases z:hasF x s with
   | true=>
    rw[z]at gv us
    simp only[if_true]at us
    simp -implicitDefEqProofs [S108,hj,ht.len,ia,A0f,tb22,gv,extractV,gp,e1]
    refine A0c rfl rfl ?_ ?_<;>simp -implicitDefEqProofs [us]
   | false=>
    rw[z]at gv us
    simp only[Bool.false_eq_true,if_false]at us
    simp -implicitDefEqProofs [S108,hj,ht.len,ia,A0f,tb22,gv,extractV,e1]
    refine A0c rfl rfl ?_ ?_<;>simp -implicitDefEqProofs [us]
  ·refine A0d F1z ?_
   simp -implicitDefEqProofs [S108,ht.len]
   exact Next.mk () trivial (A0c rfl rfl (by simp -implicitDefEqProofs) (by simp -implicitDefEqProofs))
 ·rintro _ -
  have hul:=B0l d s d.length
  have gm:=C8r ht hg (IsS.tree eStr (A4k d s d.length)) (by unfold cap;omega)
  obtain⟨l,hl⟩:∃l,l=D3i d s:=⟨_,rfl⟩
  have gm:C0s [t,A0k eStr (A4k d s d.length)]=some (A0k eStr l):=by rw[hl];exact gm
  have hL:=IsS.tree eStr l
  refine A0d F1z ?_
  by_cases h1:l.length=1
  ·have h1':((l.length:Int) != 1)=false:=by rw[h1];rfl
   obtain⟨v,hv⟩:∃v,l[0]?=some v:=⟨_,List.getElem?_eq_getElem (by omega)⟩
   have ia:=B4p hL hv
   simp only[Int.natCast_zero]at ia
   have hres:C4n d s = .tu [sv v,bv true]:=by
    unfold C4n
    rw[<-hl,if_pos h1]
    simp[List.getD_eq_getElem?_getD,hv]
   simp -implicitDefEqProofs [S108,tb22,gm,hL.len,h1',ia,A0f,hres]
  ·have h1':((l.length:Int) != 1)=true:=by simp;omega
   have hres:C4n d s = .tu [sv A2z,bv false]:=by
    unfold C4n
    rw[<-hl,if_neg h1]
   simp -implicitDefEqProofs [S108,tb22,gm,hL.len,h1',hres]
theorem F2b {α:Type} {l m:List α} (hn:l.Nodup) (hs:∀x∈l,x∈m) (hl:m.length<=l.length):∀x∈m,x∈l:=by
 intro a ha
 refine Classical.byContradiction fun hna=>?_
 have:=nodup_le (l:=a::l) (m:=m) (List.nodup_cons.2 ⟨hna,hn⟩) (fun x hx=>by
  rcases List.mem_cons.1 hx with rfl | hx
  ·exact ha
  ·exact hs x hx)
 simp at this
 omega
structure Ord (d:List TD) (out:List Str):Prop where
 nodup:out.Nodup
 sub:∀s∈out,∃x∈d,x.name=s
 ord:∀(k:Nat) s x,out[k]?=some s->x∈d->x.name=s->∀u∈x.ss,u∈out.take k
theorem Good.same {d:List TD} (hg:Good d) {x y:TD} (hx:x∈d) (hy:y∈d) (h:x.name=y.name):x=y:=by
 obtain⟨i,hi,ei⟩:=List.getElem_of_mem hx
 obtain⟨j,hj,ej⟩:=List.getElem_of_mem hy
 have h1:=hg.idx i x (by rw[List.getElem?_eq_getElem hi,ei])
 have h2:=hg.idx j y (by rw[List.getElem?_eq_getElem hj,ej])
 rw[h,h2]at h1
 subst h1
 rw[<-ei,<-ej]
theorem Ord.next {d:List TD} (hg:Good d) {out:List Str} (h:Ord d out) (hp:(pick d out).1=true):Ord d (out++[(pick d out).2]):=by
 obtain⟨x,hx,e,h1,h2⟩:=D9f hp
 refine⟨?_,?_,?_⟩
 ·rw[List.nodup_append]
  refine⟨h.nodup,by simp,fun a ha b hb e2=>?_⟩
  simp only[List.mem_singleton]at hb
  subst hb;subst e2
  rw[<-e]at ha
  rw[(A6d out x.name).2 ha]at h1
  cases h1
 ·intro s hs
  rcases List.mem_append.1 hs with hs | hs
  ·exact h.sub s hs
  ·simp only[List.mem_singleton]at hs
   exact⟨x,hx,by rw[hs,e]⟩
 ·intro k s y hk hy hys u hu
  rcases Nat.lt_or_ge k out.length with hlt | hge
  ·rw[List.getElem?_append_left hlt]at hk
   have:=h.ord k s y hk hy hys u hu
   rw[List.take_append_of_le_length (by omega)]
   exact this
  ·have hk':k=out.length:=by
    have:=(List.getElem?_eq_some_iff.1 hk).1
    simp at this
    omega
   subst hk'
   simp at hk
   have:y=x:=hg.same hy hx (by rw[hys,<-hk,e])
   subst this
   unfold B1b at h2
   rw[List.all_eq_true]at h2
   have:=(A6d out u).1 (h2 u hu)
   simpa using this
theorem C8t {d:List TD} (hg:Good d):∀(k:Nat) (out:List Str),Ord d out->Ord d (B4l d k out)
 | 0,out,h=>h
 | k+1,out,h=>by
  unfold B4l
  split
  ·rename_i hp
   exact C8t hg k _ (h.next hg hp)
  ·exact h
theorem D3j {d:List TD} (hg:Good d):Ord d (A4u d):=
 C8t hg _ _ ⟨List.nodup_nil,(fun _ h=>by cases h),fun k s x h=>by simp at h⟩
noncomputable def rk (d:List TD) (s:Str):Nat:=(A4u d).findIdx fun x=>decide (x=s)
theorem F2c {d:List TD} (hg:Good d) {x:TD} (hx:x∈d):x.name∈A4u d:=by
 have ho:=D3j hg
 refine F2b (m:=d.map TD.name) ho.nodup (fun s hs=>?_) (by simpa using hg.plc) _ (List.mem_map.2 ⟨x,hx,rfl⟩)
 obtain⟨y,hy,e⟩:=ho.sub s hs
 exact List.mem_map.2 ⟨y,hy,e⟩
theorem G7z {d:List TD} (hg:Good d) {x:TD} (hx:x∈d) {u:Str} (hu:u∈x.ss):rk d u<rk d x.name:=by
 have ho:=D3j hg
 have hm:=F2c hg hx
 have hlt:rk d x.name<(A4u d).length:=by
  unfold rk
  rw[List.findIdx_lt_length]
  exact⟨x.name,hm,by simp⟩
 obtain⟨y,hy,hp⟩:=A2h (p:=fun z=>decide (z=x.name)) (l:=A4u d) hlt
 have hy':(A4u d)[rk d x.name]?=some x.name:=by
  have:y=x.name:=by simpa using hp
  subst this
  exact hy
 have hin:=ho.ord _ _ x hy' hx rfl u hu
 obtain⟨i,hi,e⟩:=List.getElem_of_mem hin
 rw[List.getElem_take]at e
 have hil:i<rk d x.name:=by
  rw[List.length_take]at hi
  omega
 have hle:rk d u<=i:=by
  rcases Nat.lt_or_ge i (rk d u)with h | h
  ·have:=A2w (p:=fun z=>decide (z=u)) (l:=A4u d) h (y:=u) (by rw[List.getElem?_eq_getElem (by omega),e])
   simp at this
  ·exact h
 omega
theorem B2o {d:List TD} {v:Str} {todo:List Str} {u:Str}:∀{j:Nat},u∈A3a d v todo j->u∈todo\/∃x∈d,x.name=u/\v∈x.ss
 | 0,h=>by simp[A3a]at h;exact .inl h
 | j+1,h=>by
  cases hx:d[j]? with
  | none=>
   have:A3a d v todo (j+1)=A3a d v todo j:=by unfold A3a;rw[List.take_add_one,hx];simp
   rw[this]at h
   exact B2o h
  | some x=>
   rw[B4n hx]at h
   unfold A9c at h
   split at h
   ·rename_i hc
    simp only[Bool.and_eq_true]at hc
    rcases List.mem_append.1 h with h | h
    ·exact B2o h
    ·simp only[List.mem_singleton]at h
     exact .inr ⟨x,List.mem_of_getElem? hx,h.symm,(A6d _ _).1 hc.1⟩
   ·exact B2o h
theorem D9s {d:List TD} (hg:Good d) {s:Str} (hs:∃x∈d,x.name=s):∀u∈A4w d s,u=s\/rk d s<rk d u:=by
 have:=B5w (next:=A4v d) (In:=fun u=>(∃x∈d,x.name=u)/\(u=s\/rk d s<rk d u)) (fun v todo hv h1 h2=>by
  have hgr:=A5k (d:=d) v h1 (fun u hu=>(h2 u hu).1) d.length (Nat.le_refl _)
  rw[A9d]at hgr
  refine⟨hgr.nodup,fun u hu=>⟨hgr.mem u hu,?_⟩⟩
  rw[<-A9d]at hu
  rcases B2o hu with hu | ⟨x,hx,rfl,hvx⟩
  ·exact(h2 u hu).2
  ·right
   have:=G7z hg hx hvx
   rcases hv.2 with rfl | h
   ·exact this
   ·omega) (d.length+1) 0 [s] (by simp) (by simpa using hs)
 exact fun u hu=>(this.2 u hu).2
theorem C8u {next:Str->List Str->List Str} (hk:∀s todo u,u∈todo->u∈next s todo) {u:Str}:∀(f i:Nat) (todo:List Str),u∈todo->u∈B3y next f i todo
 | 0,i,todo,h=>h
 | f+1,i,todo,h=>by
  simp only[B3y]
  split
  ·exact h
  ·exact C8u hk f (i+1) _ (hk _ _ _ h)
theorem C3c {d:List TD} {s:Str} (hs:∃x∈d,x.name=s):s∈below d s:=by
 obtain⟨x,hx,rfl⟩:=hs
 have hf:¬A6f d x.name<0:=by
  obtain⟨i,hi,e⟩:=List.getElem_of_mem hx
  have:=E7a (d:=d) (i:=i) (x:=x) (by rw[List.getElem?_eq_getElem hi,e]) rfl
  unfold A6f
  rw[if_pos (by omega)]
  omega
 unfold below
 rw[if_neg hf]
 refine B5x.2 (C8u (fun v todo u hu=>?_) _ _ _ (by simp))
 unfold A4v
 have:∀(l:List TD) (acc:List Str),u∈acc->u∈l.foldl (A9c v) acc:=by
  intro l
  induction l with
  | nil=>intro acc h;exact h
  | cons y l ih=>
   intro acc h
   rw[List.foldl_cons]
   refine ih _ ?_
   unfold A9c
   split
   ·exact List.mem_append_left _ h
   ·exact h
 exact this d todo hu
theorem E7d {d:List TD} (hg:Good d) {s u:Str} (hs:∃x∈d,x.name=s) (h:u∈below d s):u=s\/rk d s<rk d u:=by
 unfold below at h
 split at h
 ·cases h
 ·exact D9s hg hs u (B5x.1 h)
theorem G8a {x y:List W} (h:eqS x y=true) (i:Nat):hasL x i=hasL y i:=by
 unfold eqS at h
 simp only[Bool.and_eq_true,A8j]at h
 unfold hasL
 have h1:=h.1 (i / 64)
 have h2:=h.2 (i / 64)
 have e1:((wd x (i / 64)) &&& ~~~ (wd y (i / 64))).getLsbD (i%64)=false:=by rw[h1];simp
 have e2:((wd y (i / 64)) &&& ~~~ (wd x (i / 64))).getLsbD (i%64)=false:=by rw[h2];simp
 have hm:i%64<64:=Nat.mod_lt _ (by omega)
 simp only[BitVec.getLsbD_and,BitVec.getLsbD_not,hm,decide_true,Bool.true_and]at e1 e2
 cases h3:(wd x (i / 64)).getLsbD (i%64)<;>cases h4:(wd y (i / 64)).getLsbD (i%64)<;>simp_all
theorem E7e {d:List TD} (hg:Good d) {a b:Str} (ha:a∈names d) (hb:b∈names d) (h:eqS (A4p d (names d) a) (A4p d (names d) b)=true):a=b:=by
 have hl:(names d).length<=256:=Nat.le_trans (A9x d) hg.len
 have key:∀{a b:Str},a∈names d->b∈names d->(∀i,hasL (A4p d (names d) a) i=hasL (A4p d (names d) b) i)->b∈below d a:=by
  intro a b ha hb hh
  obtain⟨i,hi,e⟩:=List.getElem_of_mem hb
  have hgd:(names d).getD i A2z=b:=by simp[List.getD_eq_getElem?_getD,hi,e]
  have h1:=hh i
  rw[C0r hl,C0r hl,hgd,(A6d (below d b) b).2 (C3c (A6i.1 hb))]at h1
  simp only[decide_eq_true hi,Bool.true_and,Bool.and_true]at h1
  exact(A6d _ _).1 h1
 have hh:=G8a h
 rcases E7d hg (A6i.1 ha) (key ha hb hh)with h1 | h1
 ·exact h1.symm
 ·rcases E7d hg (A6i.1 hb) (key hb ha fun i=>(hh i).symm)with h2 | h2
  ·exact h2
  ·omega
theorem E3r {d:List TD} (hg:Good d) {j:Nat} {s:Str} (hs:(names d)[j]?=some s):B1f d (names d) (A0o d) (A4p d (names d) s)=s:=by
 have hj:=(List.getElem?_eq_some_iff.1 hs).1
 have hcj:(A0o d)[j]?=some (A4p d (names d) s):=by simp[A0o,hs]
 have hself:eqS (A4p d (names d) s) (A4p d (names d) s)=true:=by
  have:subL (A4p d (names d) s) (A4p d (names d) s)=true:=(A8j _ _).2 fun i=>by simp
  unfold eqS;rw[this];rfl
 have hlt:(A0o d).findIdx (fun x=>eqS x (A4p d (names d) s))<(A0o d).length:=by
  rw[List.findIdx_lt_length]
  exact⟨_,List.mem_of_getElem? hcj,hself⟩
 unfold B1f
 rw[if_pos hlt]
 obtain⟨x,hx,hp⟩:=A2h hlt
 have hp:eqS x (A4p d (names d) s)=true:=hp
 obtain⟨i,hi⟩:∃i,i=(A0o d).findIdx (fun x=>eqS x (A4p d (names d) s)):=⟨_,rfl⟩
 rw[<-hi]at hx ⊢
 have hil:i<(names d).length:=by
  have:=(List.getElem?_eq_some_iff.1 hx).1
  simpa[A0o]using this
 have hx2:x=A4p d (names d) ((names d)[i]):=by
  simp[A0o,hil]at hx
  exact hx.symm
 rw[hx2]at hp
 have:=E7e hg (List.getElem_mem hil) (List.mem_of_getElem? hs) hp
 simp[List.getD_eq_getElem?_getD,hil,this]
theorem F7d {d:List TD} (hg:Good d) {s:Str} (hs:∃x∈d,x.name=s):∃(i:Nat) (co:Co),B8v (A0q d) s=(i:Int)/\(A0q d)[i]?=some co/\co.name=s:=by
 have hm:=A6i.2 hs
 obtain⟨j,hj,e⟩:=List.getElem_of_mem hm
 have hs':(names d)[j]?=some s:=by rw[List.getElem?_eq_getElem hj,e]
 have hcj:(A0o d)[j]?=some (A4p d (names d) s):=by simp[A0o,hs']
 obtain⟨r,hr⟩:=(B5y 300 0 (A0o d)).pre
 have hfj:(A1s (A0o d))[j]?=some (A4p d (names d) s):=by
  show(famF 300 0 (A0o d))[j]?=_
  rw[hr,List.getElem?_append_left (List.getElem?_eq_some_iff.1 hcj).1]
  exact hcj
 have hin:mkCo d (names d) (A0o d) (A4p d (names d) s)∈A0q d:=(B5z (Nat.le_refl _)).2 ⟨j,_,(List.getElem?_eq_some_iff.1 hfj).1,hfj,rfl⟩
 have hlt:B6n (A0q d) s<(A0q d).length:=by
  unfold B6n
  rw[List.findIdx_lt_length]
  exact⟨_,hin,by simp[mkCo,E3r hg hs']⟩
 obtain⟨co,hco,hp⟩:=A2h (p:=fun x:Co=>decide (x.name=s)) (l:=A0q d) hlt
 refine⟨B6n (A0q d) s,co,?_,hco,by simpa using hp⟩
 unfold B8v
 rw[if_pos hlt]
theorem E3s {d:List TD} {co:Co} (h:co∈A0q d):co.code.length<=64:=by
 obtain⟨i,x,_,h2,rfl⟩:=(B5z (Nat.le_refl _)).1 h
 refine(B5y 300 0 (A0o d)).size (fun x hx=>?_) x (List.mem_of_getElem? h2)
 obtain⟨s,_,rfl⟩:=List.mem_map.1 hx
 exact D9p d _ s
theorem C0t (d:List TD):(A0q d).length=(A1s (A0o d)).length:=B8u _ _ _ _ _
end Go.Proofs.Ytbiadmfmjnoecaa
