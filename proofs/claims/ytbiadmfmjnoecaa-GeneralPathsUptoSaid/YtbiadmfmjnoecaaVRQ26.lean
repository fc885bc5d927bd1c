/-
 Auxiliary facts. No statement of the program stands here.
-/
import Derived.Test.YtbiadmfmjnoecaaVRQ25
namespace Go.Proofs.Ytbiadmfmjnoecaa
set_option linter.unusedSimpArgs false
set_option linter.unusedVariables false
open Go Go.Abs
noncomputable def C5r:List T->Option T:=g1 tStr fun s=>if s.size<=9223372036854775807 then some (bv (A2y true s))else none
theorem E3t:GOK Try.prog G 135 C5r:=C4w fun a x r ha hr=>by
 obtain rfl:a=sv x:=ha
 split at hr
 ·rename_i h;injection hr with hr;subst hr;exact D9e x h
 ·cases hr
theorem E3u (s:Str) (h:s.size<=cap):C5r [sv s]=some (bv (A2y true s)):=by
 unfold C5r
 rw[C4x (τ:=tStr) rfl,if_pos (by unfold cap at h;omega)]
noncomputable def tb23:Tbl:=[(135,C5r),(102,gD fun d=>A0k eStr (names d)),(127,B7g)]
theorem B4s:Ctx Try.prog G (orc tb23):=(A1t.cons E3t (.cons (B4m fun ht hd=>D3e ht (by have:=hd.1;unfold cap;omega)) (.cons B5u .nil))).ctx A1u
def Off (l:List FD) (s:Str) (j:Nat):Prop:=∀(i:Nat) y,i<j->l[i]?=some y->y.feat≠s
noncomputable def dupF (l:List FD) (k:Nat) (s:Str):Bool:=open Classical in decide (¬Off l s k)
theorem E7f {l:List FD} {k:Nat} {s:Str}:dupF l k s=true ↔ ¬Off l s k:=by
 unfold dupF
 exact @decide_eq_true_iff _ (_)
noncomputable def C3d (d:List TD) (l:List FD) (k:Nat) (f:FD):Int:=if A2y true f.feat=false then 1 else if dupF l k f.feat then 4 else if hasS (names d) f.value=false then 5 else 0
noncomputable def A7o (d:List TD):Int:=A3j (fun _ x=>A3j (C3d d x.fs) x.fs) d
def S119 (t u:T) (j:Nat):A0b:=⟨[(4,.t (iv (j:Int))),(3,.t u),(0,.t t)],[],0,58⟩
def C0u (t u v:T) (j k:Nat):A0b:=⟨[(6,.t (iv (k:Int))),(5,.t v),(4,.t (iv (j:Int))),(3,.t u),(0,.t t)],[],0,58⟩
def C5c (t u v:T) (j k m:Nat):A0b:=⟨[(7,.t (iv (m:Int))),(6,.t (iv (k:Int))),(5,.t v),(4,.t (iv (j:Int))),(3,.t u),(0,.t t)],[],0,58⟩
theorem F2d {t:T} {d:List TD} (ht:IsS eTD t d) (hd:DOK d):A0y Try.prog G 119 [t] (· = iv (A7o d)):=by
 have gN:gD (fun d=>A0k eStr (names d)) [t]=some (A0k eStr (names d)):=B3e ht hd
 have hnl:=A9x d
 obtain⟨hdl,hd⟩:=hd
 obtain⟨u,hu⟩:∃u,u=A0k eStr (names d):=⟨_,rfl⟩
 have hU:IsS eStr u (names d):=hu▸IsS.tree eStr _
 have gA:∀s,B7g [u,sv s]=some (bv (hasS (names d) s)):=fun s=>A6e hU s (by unfold cap;omega)
 rw[<-hu]at gN
 refine A9s.call rfl ?_
 unfold A6c
 refine A0a B4s ?_
 simp -implicitDefEqProofs
 refine A0a B4s ?_
 simp -implicitDefEqProofs [tb23,gN]
 refine A0s (fun _:Unit=>S119 t u d.length) (fun _=>A4t (fun _ (x:TD)=>A3j (C3d d x.fs) x.fs) d d.length) (fun _=>rfl) ?_ ?_
 ·refine A0a B4s ?_
  simp -implicitDefEqProofs
  refine A0h ?_
  refine A2o (S119 t u) (fun j=>d.length-j) (A4t (fun _ (x:TD)=>A3j (C3d d x.fs) x.fs) d) 0 (fun _=>rfl) (A4t.zero _ _) ?_ rfl ?_
  ·refine A0c rfl rfl ?_ ?_<;>simp -implicitDefEqProofs [S119]
  ·intro j hc
   by_cases hj:j<d.length
   ·obtain⟨x,hx⟩:∃x,d[j]?=some x:=⟨_,List.getElem?_eq_getElem hj⟩
    have ok:=hd x (List.mem_of_getElem? hx)
    have ia:=G3f ht hx
    refine A0a B4s ?_
    simp -implicitDefEqProofs [S119,hj,ht.len]
    refine A0s (fun _:Unit=>C0u t u x.feats j x.fs.length) (fun _=>A4t (C3d d x.fs) x.fs x.fs.length) (fun _=>rfl) ?_ ?_
    ·refine A0h ?_
     refine A0a B4s ?_
     simp -implicitDefEqProofs [ia,A0f]
     refine A0a B4s ?_
     simp -implicitDefEqProofs
     refine A0h ?_
     refine A2o (C0u t u x.feats j) (fun k=>x.fs.length-k) (A4t (C3d d x.fs) x.fs) 0 (fun _=>rfl) (A4t.zero _ _) ?_ rfl ?_
     ·refine A0c rfl rfl ?_ ?_<;>simp -implicitDefEqProofs [C0u]
     ·intro k hk
      have hsl:=ok.fsl
      unfold cap at hsl
      by_cases hkl:k<x.fs.length
      ·obtain⟨f,hf⟩:∃f,x.fs[k]?=some f:=⟨_,List.getElem?_eq_getElem hkl⟩
       have ib:=F7a ok.fs hf
       have gf:=E3u f.feat (ok.fsize f (List.mem_of_getElem? hf))
       have e1:IntKind.i64.wrap ((k:Int)+1)=((k+1:Nat):Int):=A0l (by omega) (by omega)
       have ends:∀e:Int,C3d d x.fs k f=e->e≠0->A7o d=e:=fun e hE he=>by
        have h5:=A6g hk hf (by rw[hE];exact he)
        have:=A6g (f:=fun _ (x:TD)=>A3j (C3d d x.fs) x.fs) hc hx (by rw[h5,hE];exact he)
        rw[h5,hE]at this
        exact this
       refine A0a B4s ?_
       simp -implicitDefEqProofs [C0u,hkl,ok.fs.len]
       refine A0s (fun _:Unit=>C0u t u x.feats j k) (fun _=>C3d d x.fs k f=0) (fun _=>rfl) ?_ ?_
       ·refine A0h ?_
        cases z1:A2y true f.feat with
        | false=>
         have h6:=ends 1 (by unfold C3d;rw[if_pos z1]) (by decide)
         refine A0a B4s ?_
         simp -implicitDefEqProofs [ib,A0f,tb23,gf,z1,h6]
        | true=>
         refine A0a B4s ?_
         simp -implicitDefEqProofs [ib,A0f,tb23,gf,z1]
         refine A0s (fun _:Unit=>C5c t u x.feats j k k) (fun _=>Off x.fs f.feat k) (fun _=>rfl) ?_ ?_
         ·refine A0a B4s ?_
          simp -implicitDefEqProofs
          refine A0h ?_
          refine A2o (C5c t u x.feats j k) (fun m=>k-m) (fun m=>m<=k/\Off x.fs f.feat m) 0 (fun _=>rfl) ⟨Nat.zero_le _,fun i y h=>by omega⟩ ?_ rfl ?_
          ·refine A0c rfl rfl ?_ ?_<;>simp -implicitDefEqProofs [C5c]
          ·intro m ⟨hm,ho⟩
           refine A0d B4s ?_
           by_cases hmk:m<k
           ·obtain⟨g,hg⟩:∃g,x.fs[m]?=some g:=⟨_,List.getElem?_eq_getElem (by omega)⟩
            have ic:=F7a ok.fs hg
            have e2:IntKind.i64.wrap ((m:Int)+1)=((m+1:Nat):Int):=A0l (by omega) (by omega)
            by_cases z2:g.feat=f.feat
            ·have hdup:dupF x.fs k f.feat=true:=by
              refine E7f.2 fun h=>h m g hmk hg z2
             have h6:=ends 4 (by unfold C3d;rw[if_neg (by rw[z1];simp),if_pos hdup]) (by decide)
             simp -implicitDefEqProofs [C5c,hmk,ib,ic,A0f,A7s,z2,h6]
            ·simp -implicitDefEqProofs [C5c,hmk,ib,ic,A0f,A7s,z2,e2]
             refine Next.mk (m+1) ⟨⟨by omega,fun i y hi hy=>?_⟩,by omega⟩ (A0c rfl rfl (by simp -implicitDefEqProofs [C5c]) (by simp -implicitDefEqProofs [C5c]))
             rcases Nat.lt_succ_iff_lt_or_eq.1 hi with h | rfl
             ·exact ho i y h hy
             ·rw[hg]at hy;injection hy with hy;exact hy▸z2
           ·have hm':m=k:=by omega
            simp -implicitDefEqProofs [C5c,hmk]
            exact Next.mk () (hm'▸ho) (A0c rfl rfl (by simp -implicitDefEqProofs [C5c,hm']) (by simp -implicitDefEqProofs [C5c]))
         ·rintro _ ho
          have hdup:dupF x.fs k f.feat=false:=by
           refine Bool.eq_false_iff.2 fun h=>E7f.1 h ho
          refine A0d B4s ?_
          cases z3:hasS (names d) f.value with
          | false=>
           have h6:=ends 5 (by unfold C3d;rw[if_neg (by rw[z1];simp),if_neg (by rw[hdup];simp),if_pos z3]) (by decide)
           simp -implicitDefEqProofs [C5c,ib,A0f,tb23,gA,z3,h6]
          | true=>
           simp -implicitDefEqProofs [C5c,ib,A0f,tb23,gA,z3]
           exact Next.mk () (by unfold C3d;rw[if_neg (by rw[z1];simp),if_neg (by rw[hdup];simp),if_neg (by rw[z3];simp)]) (A0c rfl rfl (by simp -implicitDefEqProofs [C0u]) (by simp -implicitDefEqProofs [C0u]))
       ·rintro _ hE
        refine A0d B4s ?_
        simp -implicitDefEqProofs [C0u,e1]
        exact Next.mk (k+1) ⟨hk.succ hf hE,by omega⟩ (A0c rfl rfl (by simp -implicitDefEqProofs [C0u]) (by simp -implicitDefEqProofs [C0u]))
      ·refine A0d B4s ?_
       have hkl':k=x.fs.length:=by have:=hk.1;omega
       simp -implicitDefEqProofs [C0u,hkl,ok.fs.len]
       exact Next.mk () (hkl'▸hk) (A0c rfl rfl (by simp -implicitDefEqProofs [C0u,hkl']) (by simp -implicitDefEqProofs [C0u]))
    ·rintro _ hk
     refine A0d B4s ?_
     have e1:IntKind.i64.wrap ((j:Int)+1)=((j+1:Nat):Int):=A0l (by omega) (by omega)
     simp -implicitDefEqProofs [C0u,e1]
     exact Next.mk (j+1) ⟨hc.succ hx (A5g hk),by omega⟩ (A0c rfl rfl (by simp -implicitDefEqProofs [S119]) (by simp -implicitDefEqProofs [S119]))
   ·have hj':j=d.length:=by have:=hc.1;omega
    refine A0d B4s ?_
    simp -implicitDefEqProofs [S119,hj,ht.len]
    exact Next.mk () (hj'▸hc) (A0c rfl rfl (by simp -implicitDefEqProofs [S119,hj']) (by simp -implicitDefEqProofs [S119]))
 ·rintro _ hc
  refine A0d B4s ?_
  have h6:A7o d=0:=A5g hc
  simp -implicitDefEqProofs [S119,h6]
theorem F7e {d:List TD} (h:A7o d=0) {x:TD} (hx:x∈d) {f:FD} (hf:f∈x.fs):∃y∈d,y.name=f.value:=by
 obtain⟨i,hi,e⟩:=List.getElem_of_mem hx
 obtain⟨k,hk,e'⟩:=List.getElem_of_mem hf
 have h1:=A3u ((A3u h).2 i x hi (by rw[List.getElem?_eq_getElem hi,e]))
 have h2:=h1.2 k f hk (by rw[List.getElem?_eq_getElem hk,e'])
 unfold C3d at h2
 split at h2
 ·cases h2
 ·split at h2
  ·cases h2
  ·split at h2
   ·cases h2
   ·rename_i h3
    refine A6i.1 ?_
    have h4:hasS (names d) f.value=true:=by simpa using h3
    unfold hasS at h4
    simpa using h4
structure Cod (d:List TD) (l:List Co):Prop where
 ne:0<l.length
 len:l.length<=256
 size:∀x∈l,x.code.length<=64
 num:∀s,(∃x∈d,x.name=s)->∃co,B8v l s=((B6n l s:Nat):Int)/\l[B6n l s]?=some co/\co.name=s
def coAt (l:List Co) (i:Nat):List W:=(l[i]?.map Co.code).getD []
theorem D5n {l:List Co} {i:Nat} {x:Co} (h:l[i]?=some x):coAt l i=x.code:=by simp[coAt,h]
noncomputable def C8v:List T->Option T:=g2 (tSl eCo) tStr fun l s=>if l.length<=cap then some (iv (B8v l s))else none
theorem D3k:GOK Try.prog G 109 C8v:=A6w fun a b x y r ha hb hr=>by
 obtain rfl:b=sv y:=hb
 split at hr
 ·rename_i h;injection hr with hr;subst hr;exact E3p ha y h
 ·cases hr
theorem C3e {t:T} {l:List Co} (ht:IsS eCo t l) (s:Str) (hl:l.length<=cap):C8v [t,sv s]=some (iv (B8v l s)):=by
 unfold C8v
 rw[A5y (τ:=tSl eCo) (σ:=tStr) ht rfl,if_pos hl]
noncomputable def D3l:List T->Option T:=g3 (tSl eCo) tInt tInt fun l i j=>open Classical in if 0<=i/\0<=j/\i.toNat<l.length/\j.toNat<l.length/\∀x∈l,x.code.length<=1000 then some (bv (subL (coAt l j.toNat) (coAt l i.toNat)))else none
theorem D9t:GOK Try.prog G 107 D3l:=F0n fun a b c l i j r ha hb hc hr=>by
 obtain rfl:b=iv i:=hb
 obtain rfl:c=iv j:=hc
 split at hr
 ·rename_i h
  obtain⟨h1,h2,h3,h4,h5⟩:=h
  injection hr with hr;subst hr
  obtain⟨i,rfl⟩:=Int.eq_ofNat_of_zero_le h1
  obtain⟨j,rfl⟩:=Int.eq_ofNat_of_zero_le h2
  simp only[Int.toNat_natCast]at h3 h4 ⊢
  have e1:=List.getElem?_eq_getElem h3
  have e2:=List.getElem?_eq_getElem h4
  rw[D5n e1,D5n e2]
  exact F1u ha e1 e2 (h5 _ (List.getElem_mem _)) (h5 _ (List.getElem_mem _))
 ·cases hr
theorem D9u {t:T} {l:List Co} (ht:IsS eCo t l) {i j:Nat} (hi:i<l.length) (hj:j<l.length) (hs:∀x∈l,x.code.length<=1000):D3l [t,iv (i:Int),iv (j:Int)]=some (bv (subL (coAt l j) (coAt l i))):=by
 unfold D3l
 rw[F0o (τ:=tSl eCo) (σ:=tInt) (ρ:=tInt) ht rfl rfl,if_pos ⟨by omega,by omega,by simpa using hi,by simpa using hj,hs⟩]
 rfl
noncomputable def A6l (d:List TD) (l:List Co) (i:Nat) (s:Str):Nat->Bool×List W
 | 0=>(false,coAt l 0)
 | j+1=>match d[j]? with
  | some x=>if(hasF x s&&subL (coAt l i) (coAt l (B6n l x.name)))=true then(true,andN (A6l d l i s j).2 (coAt l (B6n l (D0w x s))))else A6l d l i s j
  | none=>A6l d l i s j
theorem F7f {l:List Co} (h:∀x∈l,x.code.length<=64) (i:Nat):(coAt l i).length<=64:=by
 unfold coAt
 cases e:l[i]? with
 | none=>simp
 | some x=>simpa using h x (List.mem_of_getElem? e)
theorem C3f {d:List TD} {l:List Co} (h:∀x∈l,x.code.length<=64) (i:Nat) (s:Str):∀j,(A6l d l i s j).2.length<=64
 | 0=>F7f h 0
 | j+1=>by
  have ih:=C3f (d:=d) h i s j
  simp only[A6l]
  split
  ·split
   ·exact Nat.le_trans (D5j _ _) ih
   ·exact ih
  ·exact ih
noncomputable def inhT (d:List TD) (l:List Co) (i:Nat) (s:Str):T:=.tu [encB (A6l d l i s d.length).2,bv (A6l d l i s d.length).1]
noncomputable def tb24:Tbl:=[(121,gVal),(109,C8v),(107,D3l),(89,gB2 fAnd)]
theorem E3v:Ctx Try.prog G (orc tb24):=(A1t.cons F7b (.cons D3k (.cons D9t (.cons (B2y C8o) .nil)))).ctx A1u
noncomputable def S99 (t u:T) (d:List TD) (l:List Co) (i:Nat) (s:Str) (j:Nat):A0b:=
 ⟨[(12,.t (iv (j:Int))),(11,.t (encB (A6l d l i s j).2)),(10,.t (bv (A6l d l i s j).1)),(3,.t (sv s)),(2,.t (iv (i:Int))),(1,.t u),(0,.t t)],[],0,60⟩
theorem D0x {t u:T} {d:List TD} {l:List Co} (ht:IsS eTD t d) (hg:Good d) (hv:A7o d=0) (hu:IsS eCo u l) (hc:Cod d l) {i:Nat} (hi:i<l.length) (s:Str) :
  A0y Try.prog G 99 [t,u,iv (i:Int),sv s] (· = inhT d l i s):=by
 have hdl:=hg.len
 have hll:=hc.len
 have hs':∀x∈l,x.code.length<=1000:=fun x hx=>by have:=hc.size x hx;omega
 obtain⟨c0,hc0⟩:∃c,l[0]?=some c:=⟨_,List.getElem?_eq_getElem hc.ne⟩
 have i0:=E3o hu hc0
 simp only[Int.natCast_zero]at i0
 have hq0:A6l d l i s 0=(false,c0.code):=by simp[A6l,D5n hc0]
 refine B4f.call rfl ?_
 unfold A8y
 refine A0a E3v ?_
 simp -implicitDefEqProofs
 refine A0a E3v ?_
 simp -implicitDefEqProofs
 refine A0a E3v ?_
 simp -implicitDefEqProofs [i0,A0f]
 refine A0s (fun _:Unit=>S99 t u d l i s d.length) (fun _=>True) (fun _=>rfl) ?_ ?_
 ·refine A0a E3v ?_
  simp -implicitDefEqProofs
  refine A0h ?_
  refine A1b (S99 t u d l i s) d.length (fun _=>rfl) ?_ rfl ?_ ?_
  ·refine A0c rfl rfl ?_ ?_<;>simp -implicitDefEqProofs [S99,hq0]
  ·intro j hj
   refine A0d E3v ?_
   obtain⟨x,hx⟩:∃x,d[j]?=some x:=⟨_,List.getElem?_eq_getElem hj⟩
   have hm:=List.mem_of_getElem? hx
   have ok:=hg.ok.2 x hm
   have ia:=G3f ht hx
   have gv:=F7c ok s
   have e1:IntKind.i64.wrap ((j:Int)+1)=((j+1:Nat):Int):=A0l (by omega) (by omega)
   obtain⟨co,n1,n2,-⟩:=hc.num x.name ⟨x,hm,rfl⟩
   have gn:=C3e hu x.name (by unfold cap;omega)
   rw[n1]at gn
   have gs:=D9u hu (List.getElem?_eq_some_iff.1 n2).1 hi hs'
   have us:A6l d l i s (j+1)=if(hasF x s&&subL (coAt l i) (coAt l (B6n l x.name)))=true then(true,andN (A6l d l i s j).2 (coAt l (B6n l (D0w x s))))else A6l d l i s j:=by simp only[A6l,hx]
   cases z:hasF x s with
   | false=>
    rw[z]at gv us
    simp only[Bool.false_and,Bool.false_eq_true,if_false]at us
    simp -implicitDefEqProofs [S99,hj,ht.len,ia,A0f,tb24,gv,extractV,e1]
    refine A0c rfl rfl ?_ ?_<;>simp -implicitDefEqProofs [us]
   | true=>
    rw[z]at gv us
    simp only[Bool.true_and]at us
    cases z2:subL (coAt l i) (coAt l (B6n l x.name))with
    | false=>
     rw[z2]at gs us
     simp only[Bool.false_eq_true,if_false]at us
     simp -implicitDefEqProofs [S99,hj,ht.len,ia,A0f,tb24,gv,extractV,e1,gn,gs]
     refine A0c rfl rfl ?_ ?_<;>simp -implicitDefEqProofs [us]
    | true=>
     rw[z2]at gs us
     simp only[if_true]at us
     obtain⟨f,hf1,hf2⟩:∃f∈x.fs,f.value=D0w x s:=by
      have:fIdx x s<x.fs.length:=by simpa[hasF]using z
      refine⟨_,List.getElem_mem this,?_⟩
      unfold D0w
      rw[List.getElem?_eq_getElem this]
      rfl
     obtain⟨y,hy,hy'⟩:=F7e hv hm hf1
     obtain⟨cv,m1,m2,-⟩:=hc.num (D0w x s) ⟨y,hy,hy'.trans hf2⟩
     have gn2:=C3e hu (D0w x s) (by unfold cap;omega)
     rw[m1]at gn2
     have ib:=E3o hu m2
     have ga:gB2 fAnd [encB (A6l d l i s j).2,encB cv.code]=some (encB (andN (A6l d l i s j).2 (coAt l (B6n l (D0w x s))))):=by
      rw[D5n m2]
      exact B7b (A1h _) (A1h _) (by have:=C3f (d:=d) hc.size i s j;omega) (hs' _ (List.mem_of_getElem? m2))
     simp -implicitDefEqProofs [S99,hj,ht.len,ia,A0f,tb24,gv,extractV,e1,gn,gs,gn2,ib,ga]
     refine A0c rfl rfl ?_ ?_<;>simp -implicitDefEqProofs [us]
  ·refine A0d E3v ?_
   simp -implicitDefEqProofs [S99,ht.len]
   exact Next.mk () trivial (A0c rfl rfl (by simp -implicitDefEqProofs) (by simp -implicitDefEqProofs))
 ·rintro _ -
  refine A0d E3v ?_
  simp -implicitDefEqProofs [S99,inhT]
theorem F2e {d:List TD} (hg:Good d) (hf:¬256<(A1s (A0o d)).length):Cod d (A0q d):=by
 have num:∀s,(∃x∈d,x.name=s)->∃co,B8v (A0q d) s=((B6n (A0q d) s:Nat):Int)/\(A0q d)[B6n (A0q d) s]?=some co/\co.name=s:=fun s hs=>by
  obtain⟨i,co,h1,h2,h3⟩:=F7d hg hs
  have:B6n (A0q d) s=i:=by
   unfold B8v at h1
   split at h1<;>omega
  rw[this]
  exact⟨co,h1,h2,h3⟩
 refine⟨?_,by rw[C0t];omega,fun x hx=>E3s hx,num⟩
 obtain⟨co,-,h2,-⟩:=num (d[0]'hg.ne).name ⟨_,List.getElem_mem hg.ne,rfl⟩
 have:=(List.getElem?_eq_some_iff.1 h2).1
 omega
noncomputable def A9f (d:List TD):Int:=if A3m d≠0 then A3m d else if 256<(A1s (A0o d)).length then 7 else 0
theorem F2f {d:List TD} (h:A9f d≠0):A4c d = .tu [nilS,iv (A9f d)]:=by
 unfold A4c A9f at *
 split
 ·rfl
 ·rename_i h1
  rw[if_neg h1]at h
  split
  ·rfl
  ·rename_i h2;rw[if_neg h2]at h;exact(h rfl).elim
theorem C8w {d:List TD} (hd:DOK d) (h:A9f d=0):Good d/\Cod d (A0q d)/\A4c d = .tu [A0k eCo (A0q d),iv 0]:=by
 unfold A9f at h
 have h1:A3m d=0:=Classical.byContradiction fun h1=>by rw[if_pos h1]at h;exact h1 h
 rw[if_neg (by rw[h1];simp)]at h
 have h2:¬256<(A1s (A0o d)).length:=fun h2=>by rw[if_pos h2]at h;cases h
 have hg:=C0o hd h1
 refine⟨hg,F2e hg h2,?_⟩
 unfold A4c
 rw[if_neg (by rw[h1];simp),if_neg h2]
noncomputable def B8w (d:List TD) (s:Str):Bool:=decide ((D3i d s).length=1)
noncomputable def B7l (d:List TD) (s:Str):Str:=if B8w d s then(D3i d s).getD 0 A2z else A2z
theorem F7g (d:List TD) (s:Str):C4n d s = .tu [sv (B7l d s),bv (B8w d s)]:=by
 unfold C4n B7l B8w
 by_cases h:(D3i d s).length=1
 ·rw[if_pos h,if_pos (by simpa using h),decide_eq_true h]
 ·rw[if_neg h,if_neg (by simpa using h),decide_eq_false h]
noncomputable def D9v:List T->Option T:=g1 (tSl eTD) fun d=>open Classical in if Good d then some (A0k eStr (feats d))else none
theorem C8x:GOK Try.prog G 98 D9v:=C4w fun a x r ha hr=>by
 split at hr
 ·rename_i h;injection hr with hr;subst hr;exact F1y ha h
 ·cases hr
theorem C8y {t:T} {d:List TD} (ht:IsS eTD t d) (hg:Good d):D9v [t]=some (A0k eStr (feats d)):=
 (C4x (τ:=tSl eTD) ht).trans (if_pos hg)
noncomputable def E7g:List T->Option T:=g2 (tSl eTD) tStr fun d s=>open Classical in if Good d then some (C4n d s)else none
theorem D9w:GOK Try.prog G 108 E7g:=A6w fun a b x y r ha hb hr=>by
 obtain rfl:b=sv y:=hb
 split at hr
 ·rename_i h;injection hr with hr;subst hr;exact F2a ha h y
 ·cases hr
theorem D9x {t:T} {d:List TD} (ht:IsS eTD t d) (hg:Good d) (s:Str):E7g [t,sv s]=some (.tu [sv (B7l d s),bv (B8w d s)]):=by
 rw[<-F7g]
 exact(A5y (τ:=tSl eTD) (σ:=tStr) ht rfl).trans (if_pos hg)
noncomputable def gInh:List T->Option T:=g4 (tSl eTD) (tSl eCo) tInt tStr fun d l i s=>open Classical in if Good d/\A7o d=0/\Cod d l/\0<=i/\i.toNat<l.length then some (inhT d l i.toNat s)else none
theorem F7h:GOK Try.prog G 99 gInh:=H0r fun a b c e d l i s r ha hb hc he hr=>by
 obtain rfl:c=iv i:=hc
 obtain rfl:e=sv s:=he
 split at hr
 ·rename_i h
  obtain⟨h1,h2,h3,h4,h5⟩:=h
  injection hr with hr;subst hr
  obtain⟨i,rfl⟩:=Int.eq_ofNat_of_zero_le h4
  simp only[Int.toNat_natCast]at h5 ⊢
  exact D0x ha h1 h2 hb h3 h5 s
 ·cases hr
theorem F7i {t u:T} {d:List TD} {l:List Co} (ht:IsS eTD t d) (hg:Good d) (hv:A7o d=0) (hu:IsS eCo u l) (hc:Cod d l) {i:Nat} (hi:i<l.length) (s:Str) :
  gInh [t,u,iv (i:Int),sv s]=some (.tu [encB (A6l d l i s d.length).2,bv (A6l d l i s d.length).1]):=
 (H0s (τ:=tSl eTD) (σ:=tSl eCo) (ρ:=tInt) (π:=tStr) ht hu rfl rfl).trans (if_pos ⟨hg,hv,hc,by omega,by simpa using hi⟩)
noncomputable def B2z (d:List TD) (s:Str):Int:=if B8w d s then 0 else 10
noncomputable def inhE (d:List TD) (l:List Co) (i:Nat) (s:Str):Int:=if(A6l d l i s d.length).1=true/\(A6l d l i s d.length).2.length=0 then 11 else 0
noncomputable def rowE (d:List TD) (i:Nat) (_:Co):Int:=A3j (fun _ s=>inhE d (A0q d) i s) (feats d)
noncomputable def A1i (d:List TD):Int:=
 if A9f d≠0 then A9f d else if 64<(feats d).length then 7 else if A7o d≠0 then A7o d
 else if A3j (fun _ s=>B2z d s) (feats d)≠0 then A3j (fun _ s=>B2z d s) (feats d)else A3j (rowE d) (A0q d)
noncomputable def tb25:Tbl:=[(76,gD A4c),(98,D9v),(119,gD fun d=>iv (A7o d)),(108,E7g),(99,gInh)]
theorem B3g:Ctx Try.prog G (orc tb25):=(A1t.cons (B4m B6a) (.cons C8x (.cons (B4m F2d) (.cons D9w (.cons F7h .nil))))).ctx A1u
def S97 (t u v:T) (j:Nat):A0b:=⟨[(7,.t (iv (j:Int))),(5,.t v),(3,.t u),(0,.t t)],[],0,78⟩
def S97b (t u v:T) (j:Nat):A0b:=⟨[(10,.t (iv (j:Int))),(5,.t v),(3,.t u),(0,.t t)],[],0,78⟩
def S97c (t u v:T) (j k:Nat):A0b:=⟨[(11,.t (iv (k:Int))),(10,.t (iv (j:Int))),(5,.t v),(3,.t u),(0,.t t)],[],0,78⟩
theorem C8z {t:T} {d:List TD} (ht:IsS eTD t d) (hd:DOK d):A0y Try.prog G 97 [t] (· = iv (A1i d)):=by
 have gC:gD A4c [t]=some (A4c d):=B3e ht hd
 have gV:gD (fun d=>iv (A7o d)) [t]=some (iv (A7o d)):=B3e ht hd
 refine C7r.call rfl ?_
 unfold B8g
 refine A0a B3g ?_
 simp -implicitDefEqProofs
 by_cases hE:A9f d=0
 ·obtain⟨hg,hc,hT⟩:=C8w hd hE
  rw[hT]at gC
  have hdl:=hg.len
  have hll:=hc.len
  obtain⟨u,hu⟩:∃u,u=A0k eCo (A0q d):=⟨_,rfl⟩
  rw[<-hu]at gC
  have hU:IsS eCo u (A0q d):=hu▸IsS.tree eCo _
  obtain⟨v,hv⟩:∃v,v=A0k eStr (feats d):=⟨_,rfl⟩
  have hV:IsS eStr v (feats d):=hv▸IsS.tree eStr _
  have gF:=C8y ht hg
  rw[<-hv]at gF
  refine A0a B3g ?_
  simp -implicitDefEqProofs [tb25,gC,extractV]
  refine A0a B3g ?_
  simp -implicitDefEqProofs
  refine A0a B3g ?_
  simp -implicitDefEqProofs [tb25,gF]
  by_cases h64:64<(feats d).length
  ·have h64':(64:Int)<((feats d).length:Int):=by omega
   have hres:A1i d=7:=by unfold A1i;rw[if_neg (by rw[hE];simp),if_pos h64]
   refine A0d B3g ?_
   simp -implicitDefEqProofs [hV.len,h64,h64',hres]
  ·have h64':¬(64:Int)<((feats d).length:Int):=by omega
   refine A0a B3g ?_
   simp -implicitDefEqProofs [hV.len,h64,h64']
   by_cases hD:A7o d=0
   ·rw[hD]at gV
    refine A0a B3g ?_
    simp -implicitDefEqProofs [tb25,gV]
    refine A0s (fun _:Unit=>S97 t u v (feats d).length) (fun _=>A4t (fun _ s=>B2z d s) (feats d) (feats d).length) (fun _=>rfl) ?_ ?_
    ·refine A0a B3g ?_
     simp -implicitDefEqProofs
     refine A0h ?_
     refine A2o (S97 t u v) (fun j=>(feats d).length-j) (A4t (fun _ s=>B2z d s) (feats d)) 0 (fun _=>rfl) (A4t.zero _ _) ?_ rfl ?_
     ·refine A0c rfl rfl ?_ ?_<;>simp -implicitDefEqProofs [S97]
     ·intro j hj
      refine A0d B3g ?_
      by_cases hjl:j<(feats d).length
      ·obtain⟨s,hs⟩:∃s,(feats d)[j]?=some s:=⟨_,List.getElem?_eq_getElem hjl⟩
       have ia:=B4p hV hs
       have gi:=D9x ht hg s
       have e1:IntKind.i64.wrap ((j:Int)+1)=((j+1:Nat):Int):=A0l (by omega) (by omega)
       cases z:B8w d s with
       | false=>
        rw[z]at gi
        have hz:B2z d s=10:=by unfold B2z;rw[if_neg (by rw[z];simp)]
        have h5:=A6g hj hs (by rw[hz];decide)
        have hres:A1i d=10:=by
         unfold A1i
         rw[if_neg (by rw[hE];simp),if_neg h64,if_neg (by rw[hD];simp),h5,hz]
         rfl
        simp -implicitDefEqProofs [S97,hjl,hV.len,ia,A0f,tb25,gi,extractV,hres]
       | true=>
        rw[z]at gi
        have hz:B2z d s=0:=by unfold B2z;rw[if_pos z]
        simp -implicitDefEqProofs [S97,hjl,hV.len,ia,A0f,tb25,gi,extractV,e1]
        exact Next.mk (j+1) ⟨hj.succ hs hz,by omega⟩ (A0c rfl rfl (by simp -implicitDefEqProofs [S97]) (by simp -implicitDefEqProofs [S97]))
      ·have hj':j=(feats d).length:=by have:=hj.1;omega
       simp -implicitDefEqProofs [S97,hjl,hV.len]
       exact Next.mk () (hj'▸hj) (A0c rfl rfl (by simp -implicitDefEqProofs [S97,hj']) (by simp -implicitDefEqProofs [S97]))
    ·rintro _ hI
     have hI0:A3j (fun _ s=>B2z d s) (feats d)=0:=A5g hI
     have hrest:A1i d=A3j (rowE d) (A0q d):=by
      unfold A1i
      rw[if_neg (by rw[hE];simp),if_neg h64,if_neg (by rw[hD];simp),hI0]
      rfl
     refine A0s (fun _:Unit=>S97b t u v (A0q d).length) (fun _=>A4t (rowE d) (A0q d) (A0q d).length) (fun _=>rfl) ?_ ?_
     ·refine A0a B3g ?_
      simp -implicitDefEqProofs [S97]
      refine A0h ?_
      refine A2o (S97b t u v) (fun j=>(A0q d).length-j) (A4t (rowE d) (A0q d)) 0 (fun _=>rfl) (A4t.zero _ _) ?_ rfl ?_
      ·refine A0c rfl rfl ?_ ?_<;>simp -implicitDefEqProofs [S97b]
      ·intro i hi
       by_cases hil:i<(A0q d).length
       ·obtain⟨co,hco⟩:∃co,(A0q d)[i]?=some co:=⟨_,List.getElem?_eq_getElem hil⟩
        refine A0a B3g ?_
        simp -implicitDefEqProofs [S97b,hil,hU.len]
        refine A0s (fun _:Unit=>S97c t u v i (feats d).length) (fun _=>A4t (fun _ s=>inhE d (A0q d) i s) (feats d) (feats d).length) (fun _=>rfl) ?_ ?_
        ·refine A0h ?_
         refine A0a B3g ?_
         simp -implicitDefEqProofs
         refine A0h ?_
         refine A2o (S97c t u v i) (fun k=>(feats d).length-k) (A4t (fun _ s=>inhE d (A0q d) i s) (feats d)) 0 (fun _=>rfl) (A4t.zero _ _) ?_ rfl ?_
         ·refine A0c rfl rfl ?_ ?_<;>simp -implicitDefEqProofs [S97c]
         ·intro k hk
          refine A0d B3g ?_
          by_cases hkl:k<(feats d).length
          ·obtain⟨s,hs⟩:∃s,(feats d)[k]?=some s:=⟨_,List.getElem?_eq_getElem hkl⟩
           have ia:=B4p hV hs
           have gi:=F7i ht hg hD hU hc hil s
           have e1:IntKind.i64.wrap ((k:Int)+1)=((k+1:Nat):Int):=A0l (by omega) (by omega)
           obtain⟨⟨ok,code⟩,hr⟩:∃r,r=A6l d (A0q d) i s d.length:=⟨_,rfl⟩
           rw[<-hr]at gi
           have hlen:B0r (.t (encB code))=some (.t (iv (code.length:Int))):=rfl
           cases ok with
           | false=>
            have hz:inhE d (A0q d) i s=0:=by unfold inhE;rw[<-hr,if_neg (by simp)]
            simp -implicitDefEqProofs [S97c,hkl,hV.len,ia,A0f,tb25,gi,extractV,e1]
            exact Next.mk (k+1) ⟨hk.succ hs hz,by omega⟩ (A0c rfl rfl (by simp -implicitDefEqProofs [S97c]) (by simp -implicitDefEqProofs [S97c]))
           | true=>
            by_cases hz0:code.length=0
            ·have hz:inhE d (A0q d) i s=11:=by unfold inhE;rw[<-hr,if_pos ⟨rfl,hz0⟩]
             have h5:rowE d i co=11:=(A6g hk hs (by rw[hz];decide)).trans hz
             have h6:=A6g hi hco (by rw[h5];decide)
             have hres:A1i d=11:=by rw[hrest,h6,h5]
             simp -implicitDefEqProofs [S97c,hkl,hV.len,ia,A0f,tb25,gi,extractV,hlen,hz0,hres]
            ·have hz:inhE d (A0q d) i s=0:=by unfold inhE;rw[<-hr,if_neg (by simp[hz0])]
             have hz1:((code.length:Int)==0)=false:=by rw[beq_eq_false_iff_ne];omega
             simp -implicitDefEqProofs [S97c,hkl,hV.len,ia,A0f,tb25,gi,extractV,hlen,hz0,hz1,e1]
             exact Next.mk (k+1) ⟨hk.succ hs hz,by omega⟩ (A0c rfl rfl (by simp -implicitDefEqProofs [S97c]) (by simp -implicitDefEqProofs [S97c]))
          ·have hk':k=(feats d).length:=by have:=hk.1;omega
           simp -implicitDefEqProofs [S97c,hkl,hV.len]
           exact Next.mk () (hk'▸hk) (A0c rfl rfl (by simp -implicitDefEqProofs [S97c,hk']) (by simp -implicitDefEqProofs [S97c]))
        ·rintro _ hk
         refine A0d B3g ?_
         have e1:IntKind.i64.wrap ((i:Int)+1)=((i+1:Nat):Int):=A0l (by omega) (by omega)
         simp -implicitDefEqProofs [S97c,e1]
         exact Next.mk (i+1) ⟨hi.succ hco (A5g hk),by omega⟩ (A0c rfl rfl (by simp -implicitDefEqProofs [S97b]) (by simp -implicitDefEqProofs [S97b]))
       ·have hi':i=(A0q d).length:=by have:=hi.1;omega
        refine A0d B3g ?_
        simp -implicitDefEqProofs [S97b,hil,hU.len]
        exact Next.mk () (hi'▸hi) (A0c rfl rfl (by simp -implicitDefEqProofs [S97b,hi']) (by simp -implicitDefEqProofs [S97b]))
     ·rintro _ hC
      refine A0d B3g ?_
      have hres:A1i d=0:=by rw[hrest];exact A5g hC
      simp -implicitDefEqProofs [S97b,hres]
   ·have hD':(A7o d != 0)=true:=by simpa using hD
    have hres:A1i d=A7o d:=by unfold A1i;rw[if_neg (by rw[hE];simp),if_neg h64,if_pos hD]
    refine A0d B3g ?_
    simp -implicitDefEqProofs [tb25,gV,hD,hD',hres]
 ·have hres:A1i d=A9f d:=by unfold A1i;rw[if_pos hE]
  rw[F2f hE]at gC
  have hE':(A9f d != 0)=true:=by simpa using hE
  refine A0d B3g ?_
  simp -implicitDefEqProofs [tb25,gC,extractV,hE,hE',hres]
structure Ft where
 name:Str
 intro:Int
def eFt:Enc Ft:=⟨2,fun x=>[sv x.name,iv x.intro],fun _=>rfl,by omega,fun a b h=>by
 obtain⟨a1,a2⟩:=a
 obtain⟨b1,b2⟩:=b
 simp at h
 simp[h]⟩
noncomputable def mkFt (d:List TD) (l:List Co) (s:Str):Ft:=⟨s,B8v l (B7l d s)⟩
noncomputable def ftUp (d:List TD) (j:Nat):List Ft:=((feats d).take j).map (mkFt d (A0q d))
noncomputable def ftL (d:List TD):List Ft:=(feats d).map (mkFt d (A0q d))
theorem F7j {d:List TD} {j:Nat} {s:Str} (h:(feats d)[j]?=some s):ftUp d (j+1)=ftUp d j++[mkFt d (A0q d) s]:=by
 unfold ftUp
 rw[List.take_add_one,h]
 simp
theorem G3g (d:List TD) {j:Nat} (h:j<=(feats d).length):(ftUp d j).length=j:=by
 unfold ftUp
 rw[List.length_map,List.length_take]
 omega
theorem G3h (d:List TD):ftUp d (feats d).length=ftL d:=by unfold ftUp ftL;rw[List.take_length]
structure Fit (d:List TD):Prop where
 good:Good d
 cod:Cod d (A0q d)
 codes:A4c d = .tu [A0k eCo (A0q d),iv 0]
 fl:(feats d).length<=64
 decls:A7o d=0
 intro:∀s∈feats d,B8w d s=true
 inh:∀(i:Nat),i<(A0q d).length->∀s∈feats d,inhE d (A0q d) i s=0
theorem A2q {d:List TD} (hd:DOK d) (h:A1i d=0):Fit d:=by
 unfold A1i at h
 have hE:A9f d=0:=Classical.byContradiction fun h1=>by rw[if_pos h1]at h;exact h1 h
 rw[if_neg (by rw[hE];simp)]at h
 have h64:¬64<(feats d).length:=fun h1=>by rw[if_pos h1]at h;cases h
 rw[if_neg h64]at h
 have hD:A7o d=0:=Classical.byContradiction fun h1=>by rw[if_pos h1]at h;exact h1 h
 rw[if_neg (by rw[hD];simp)]at h
 have hI:A3j (fun _ s=>B2z d s) (feats d)=0:=Classical.byContradiction fun h1=>by rw[if_pos h1]at h;exact h1 h
 rw[if_neg (by rw[hI];simp)]at h
 obtain⟨hg,hc,hT⟩:=C8w hd hE
 refine⟨hg,hc,hT,by omega,hD,fun s hs=>?_,fun i hi s hs=>?_⟩
 ·obtain⟨j,hj,e⟩:=List.getElem_of_mem hs
  have:B2z d s=0:=(A3u hI).2 j s hj (by rw[List.getElem?_eq_getElem hj,e])
  unfold B2z at this
  split at this
  ·assumption
  ·cases this
 ·obtain⟨j,hj,e⟩:=List.getElem_of_mem hs
  have h1:=(A3u h).2 i _ hi (List.getElem?_eq_getElem hi)
  exact(A3u h1).2 j s hj (by rw[List.getElem?_eq_getElem hj,e])
noncomputable def D0y (d:List TD):T:=if A1i d≠0 then .tu [nilS,iv (A1i d)]else .tu [A0k eFt (ftL d),iv 0]
noncomputable def tb26:Tbl:=[(97,gD fun d=>iv (A1i d)),(76,gD A4c),(98,D9v),(108,E7g),(109,C8v)]
theorem D0z:Ctx Try.prog G (orc tb26):=(A1t.cons (B4m C8z) (.cons (B4m B6a) (.cons C8x (.cons D9w (.cons D3k .nil))))).ctx A1u
noncomputable def S78 (t u v:T) (d:List TD) (j:Nat):A0b:=⟨[(9,.t (iv (j:Int))),(8,rowP eFt 0 (ftUp d j)),(7,.t v),(5,.t u),(0,.t t)],rowH eFt 163 0 (ftUp d j),1,51⟩
theorem D5o {t:T} {d:List TD} (ht:IsS eTD t d) (hd:DOK d):A0y Try.prog G 78 [t] (· = D0y d):=by
 have gK:gD (fun d=>iv (A1i d)) [t]=some (iv (A1i d)):=B3e ht hd
 have gC:gD A4c [t]=some (A4c d):=B3e ht hd
 refine B7d.call rfl ?_
 unfold B0g
 refine A0a D0z ?_
 simp -implicitDefEqProofs
 by_cases hE:A1i d=0
 ·have hF:=A2q hd hE
  have hg:=hF.good
  have hll:=hF.cod.len
  have hfl:=hF.fl
  rw[hF.codes]at gC
  rw[hE]at gK
  obtain⟨u,hu⟩:∃u,u=A0k eCo (A0q d):=⟨_,rfl⟩
  rw[<-hu]at gC
  have hU:IsS eCo u (A0q d):=hu▸IsS.tree eCo _
  obtain⟨v,hv⟩:∃v,v=A0k eStr (feats d):=⟨_,rfl⟩
  have hV:IsS eStr v (feats d):=hv▸IsS.tree eStr _
  have gF:=C8y ht hg
  rw[<-hv]at gF
  refine A0a D0z ?_
  simp -implicitDefEqProofs [tb26,gK]
  refine A0a D0z ?_
  simp -implicitDefEqProofs [tb26,gC,extractV]
  refine A0a D0z ?_
  simp -implicitDefEqProofs [tb26,gF]
  refine A0a D0z ?_
  simp -implicitDefEqProofs
  refine A0s (fun _:Unit=>S78 t u v d (feats d).length) (fun _=>True) (fun _=>rfl) ?_ ?_
  ·refine A0a D0z ?_
   simp -implicitDefEqProofs
   refine A0h ?_
   refine A1b (S78 t u v d) (feats d).length (fun _=>rfl) ?_ rfl ?_ ?_
   ·have e0:ftUp d 0=[]:=rfl
    unfold S78
    rw[e0]
    exact A0i (k:=0) (A0j.nil _ _ _ _) (by omega) (by omega) (by simp -implicitDefEqProofs [A0g,A0e,ren,under,rowP])
   ·intro j hj
    obtain⟨s,hs⟩:∃s,(feats d)[j]?=some s:=⟨_,List.getElem?_eq_getElem hj⟩
    have ia:=B4p hV hs
    have gi:=D9x ht hg s
    have gn:=C3e hU (B7l d s) (by unfold cap;omega)
    have e1:IntKind.i64.wrap ((j:Int)+1)=((j+1:Nat):Int):=A0l (by omega) (by omega)
    have hl:=G3g d (Nat.le_of_lt hj)
    have hsrc:srcP (rowH eFt 163 0 (ftUp d j)) eFt.z (.t (A0k eFt [mkFt d (A0q d) s]))=_:=A3f (IsS.tree eFt [mkFt d (A0q d) s])
    obtain⟨b',H',nx',ap,r1,ne1,le1,lk1,ge1⟩:=A1k (e:=eFt) (ty:=163) (by':=24) (nx:=1) (A0j.head' eFt 163 0 (ftUp d j)) hsrc (by simp;omega) (by simp;omega)
    rw[<-F7j hs]at ap r1
    have hz:eFt.z=2:=rfl
    rw[hz]at ap
    have lp:∀c cs,A0f false 1 (rowH eFt 163 0 (ftUp d j)) (.t (.pt (c::cs)))=some (.t c):=fun _ _=>rfl
    have ts:A6u 163 2 [.string ⟨#[]⟩,.int .i64 0] 1 [(0,.t (.ag [sv s,iv (B8v (A0q d) (B7l d s))]))]=some (.t (A0k eFt [mkFt d (A0q d) s])):=rfl
    have fl:A5q (fun k=>[(0,1),(1,1)][k]?) [.t (.v (.string ⟨#[]⟩)),.t (.v (.int .i64 0))] [(0,.t (sv s)),(1,.t (iv (B8v (A0q d) (B7l d s))))]=some [.t (sv s),.t (iv (B8v (A0q d) (B7l d s)))]:=rfl
    have ag:agOf [.t (sv s),.t (iv (B8v (A0q d) (B7l d s)))] = .t (.ag [sv s,iv (B8v (A0q d) (B7l d s))]):=rfl
    refine A0d D0z ?_
    simp -implicitDefEqProofs [S78,hj,hV.len,ia,lp,tb26,gi,extractV,gn,fl,ag,ts,ap,e1]
    exact A0i (b:=0) (k:=b') (nx':=1) r1 (by omega) (by omega) (by simp -implicitDefEqProofs [A0g,A0e,ren,under])
   ·refine A0d D0z ?_
    simp -implicitDefEqProofs [S78,hV.len]
    exact Next.mk () trivial (A0i (k:=0) (A0j.head' _ _ _ _) (by omega) (by omega) (by simp -implicitDefEqProofs [A0g,A0e,ren,under]))
  ·rintro _ -
   refine A0d D0z ?_
   have hres:D0y d = .tu [A0k eFt (ftL d),iv 0]:=by unfold D0y;rw[if_neg (by rw[hE];simp)]
   have t2:=E3m (A0j.head' eFt 163 0 (ftL d)) (iv 0)
   simp -implicitDefEqProofs [S78,G3h,-oneOf,t2,hres]
 ·have hE':=A7h hE
  have hres:D0y d = .tu [nilS,iv (A1i d)]:=by unfold D0y;rw[if_pos hE]
  refine A0d D0z ?_
  simp -implicitDefEqProofs [tb26,gK,hE,hE',hres]
def E3w (l:List Co) (i j:Nat):Bool:=subL (coAt l j) (coAt l i)
def away (l:List Co) (i j k:Nat):Bool:=decide (k=i)||(decide (k=j)||(!E3w l j k || !E3w l k i))
def C0v (l:List Co) (i j:Nat):Nat->Bool
 | 0=>true
 | k+1=>C0v l i j k&&away l i j k
def D9y (l:List Co) (i j:Nat):Bool:=!(decide (j=i) || !E3w l j i)&&C0v l i j l.length
def A8l (l:List Co) (i:Nat):Nat->List Int
 | 0=>[]
 | j+1=>A8l l i j++if D9y l i j then [(j:Int)]else []
theorem C4o (l:List Co) (i:Nat):∀j,(A8l l i j).length<=j
 | 0=>Nat.le_refl _
 | j+1=>by
  have:=C4o l i j
  simp only[A8l,List.length_append]
  split
  ·simp;omega
  ·simp;omega
noncomputable def tb27:Tbl:=[(107,D3l)]
theorem B8x:Ctx Try.prog G (orc tb27):=(A1t.cons D9t .nil).ctx A1u
def S77 (t:T) (l:List Co) (i j:Nat):A0b:=⟨[(6,.t (iv (j:Int))),(5,rowP eInt 0 (A8l l i j)),(1,.t (iv (i:Int))),(0,.t t)],rowH eInt 3 0 (A8l l i j),1,62⟩
def S77e (t:T) (l:List Co) (i j:Nat):A0b:=⟨[(6,.t (iv (j:Int))),(5,rowP eInt 0 (A8l l i (j+1))),(1,.t (iv (i:Int))),(0,.t t)],rowH eInt 3 0 (A8l l i (j+1)),1,62⟩
def S77i (t:T) (l:List Co) (i j k:Nat):A0b:=⟨[(8,.t (iv (k:Int))),(7,.t (bv (C0v l i j k))),(6,.t (iv (j:Int))),(5,rowP eInt 0 (A8l l i j)),(1,.t (iv (i:Int))),(0,.t t)],rowH eInt 3 0 (A8l l i j),1,62⟩
theorem D9z {t:T} {l:List Co} (ht:IsS eCo t l) (hl:l.length<=256) (hs:∀x∈l,x.code.length<=1000) {i:Nat} (hi:i<l.length):A0y Try.prog G 77 [t,iv (i:Int)] (· = A0k eInt (A8l l i l.length)):=by
 have hz:eInt.z=1:=rfl
 have gs:∀{a b:Nat},a<l.length->b<l.length->D3l [t,iv (a:Int),iv (b:Int)]=some (bv (E3w l a b)):=fun ha hb=>D9u ht ha hb hs
 refine C4e.call rfl ?_
 unfold B4e
 refine A0a B8x ?_
 simp -implicitDefEqProofs
 refine A0a B8x ?_
 simp -implicitDefEqProofs
 refine A0s (fun _:Unit=>S77 t l i l.length) (fun _=>True) (fun _=>rfl) ?_ ?_
 ·refine A0a B8x ?_
  simp -implicitDefEqProofs
  refine A0h ?_
  refine A1b (S77 t l i) l.length (fun _=>rfl) ?_ rfl ?_ ?_
  ·exact A0i (k:=0) (A0j.nil _ _ _ _) (by omega) (by omega) (by simp -implicitDefEqProofs [A8l,rowP,ren,under])
  ·intro j hj
   have r0:=A0j.head' eInt 3 0 (A8l l i j)
   have hcl:=C4o l i j
   have e1:IntKind.i64.wrap ((j:Int)+1)=((j+1:Nat):Int):=A0l (by omega) (by omega)
   have cs:A8l l i (j+1)=A8l l i j++if D9y l i j then [(j:Int)]else []:=rfl
   refine A0a B8x ?_
   simp -implicitDefEqProofs [S77,hj,ht.len]
   refine A0s (fun _:Unit=>S77e t l i j) (fun _=>True) (fun _=>rfl) ?_ ?_
   ·refine A0h ?_
    have g1:=gs hj hi
    by_cases ji:j=i
    ·have hq:D9y l i j=false:=by simp[D9y,ji]
     have cs':A8l l i (j+1)=A8l l i j:=by rw[cs,hq];simp
     have ji':((j:Int)==(i:Int))=true:=by simp[ji]
     subst ji
     refine A0a B8x ?_
     simp -implicitDefEqProofs
     refine Next.mk () trivial ?_
     unfold S77e
     rw[cs']
     exact A0i (k:=0) r0 (by omega) (by omega) (by simp -implicitDefEqProofs [A0g,A0e,ren,under])
    ·have ji':((j:Int)==(i:Int))=false:=by rw[beq_eq_false_iff_ne];omega
     cases z:E3w l j i with
     | false=>
      rw[z]at g1
      have hq:D9y l i j=false:=by simp[D9y,z]
      have cs':A8l l i (j+1)=A8l l i j:=by rw[cs,hq];simp
      refine A0a B8x ?_
      simp -implicitDefEqProofs [ji',ji,tb27,g1]
      refine Next.mk () trivial ?_
      unfold S77e
      rw[cs']
      exact A0i (k:=0) r0 (by omega) (by omega) (by simp -implicitDefEqProofs [A0g,A0e,ren,under])
     | true=>
      rw[z]at g1
      have hq:D9y l i j=C0v l i j l.length:=by simp[D9y,z,ji]
      refine A0a B8x ?_
      simp -implicitDefEqProofs [ji',ji,tb27,g1]
      refine A0a B8x ?_
      simp -implicitDefEqProofs
      refine A0s (fun _:Unit=>S77i t l i j l.length) (fun _=>True) (fun _=>rfl) ?_ ?_
      ·refine A0a B8x ?_
       simp -implicitDefEqProofs
       refine A0h ?_
       refine A1b (S77i t l i j) l.length (fun _=>rfl) ?_ rfl ?_ ?_
       ·exact A0i (k:=0) r0 (by omega) (by omega) (by simp -implicitDefEqProofs [A0g,A0e,ren,under,C0v])
       ·intro k hk
        have e2:IntKind.i64.wrap ((k:Int)+1)=((k+1:Nat):Int):=A0l (by omega) (by omega)
        have ks:C0v l i j (k+1)=(C0v l i j k&&away l i j k):=rfl
        have g2:=gs hj hk
        have g3:=gs hk hi
        have ki:((k:Int)==(i:Int))=decide (k=i):=by
         by_cases h:k=i
         ·simp[h]
         ·rw[decide_eq_false h,beq_eq_false_iff_ne];omega
        have kj:((k:Int)==(j:Int))=decide (k=j):=by
         by_cases h:k=j
         ·simp[h]
         ·rw[decide_eq_false h,beq_eq_false_iff_ne];omega
        refine A0d B8x ?_
        unfold S77i
        rw[ks]
        unfold away
        generalize C0v l i j k=q0 at *
        generalize E3w l j k=q3 at *
        generalize E3w l k i=q4 at *
        generalize decide (k=i)=q1 at *
        generalize decide (k=j)=q2 at *
        cases q0 with
        | false=>(simp -implicitDefEqProofs [hk,ht.len,ki,kj,tb27,g2,g3,e2];exact A0i (k:=0) r0 (by omega) (by omega) (by simp -implicitDefEqProofs [A0g,A0e,ren,under]))
        | true=>
         cases q1 with
         | true=>(simp -implicitDefEqProofs [hk,ht.len,ki,kj,tb27,g2,g3,e2];exact A0i (k:=0) r0 (by omega) (by omega) (by simp -implicitDefEqProofs [A0g,A0e,ren,under]))
         | false=>
          cases q2 with
          | true=>(simp -implicitDefEqProofs [hk,ht.len,ki,kj,tb27,g2,g3,e2];exact A0i (k:=0) r0 (by omega) (by omega) (by simp -implicitDefEqProofs [A0g,A0e,ren,under]))
          | false=>
           cases q3 with
           | false=>(simp -implicitDefEqProofs [hk,ht.len,ki,kj,tb27,g2,g3,e2];exact A0i (k:=0) r0 (by omega) (by omega) (by simp -implicitDefEqProofs [A0g,A0e,ren,under]))
           | true=>cases q4<;>(simp -implicitDefEqProofs [hk,ht.len,ki,kj,tb27,g2,g3,e2];exact A0i (k:=0) r0 (by omega) (by omega) (by simp -implicitDefEqProofs [A0g,A0e,ren,under]))
       ·refine A0d B8x ?_
        simp -implicitDefEqProofs [S77i,ht.len]
        exact Next.mk () trivial (A0i (k:=0) r0 (by omega) (by omega) (by simp -implicitDefEqProofs [A0g,A0e,ren,under]))
      ·rintro _ -
       refine A0d B8x ?_
       rw[hq]at cs
       cases zk:C0v l i j l.length with
       | false=>
        rw[zk]at cs
        simp only[Bool.false_eq_true,if_false,List.append_nil]at cs
        simp -implicitDefEqProofs [S77i,zk]
        refine Next.mk () trivial ?_
        unfold S77e
        rw[cs]
        exact A0i (k:=0) r0 (by omega) (by omega) (by simp -implicitDefEqProofs [A0g,A0e,ren,under])
       | true=>
        rw[zk]at cs
        simp only[if_true]at cs
        have bs:A1p 3 1 [.int .i64 0] 1 [(0,.t (iv (j:Int)))] 1=some (.row 1 0 1 1,.cells 3 [.t (iv (j:Int))]):=rfl
        obtain⟨b2,H2,n2,ap2,r2,ne2,_⟩:=A1k (e:=eInt) (ty:=3) (by':=8) (nx:=2) (m:=[(j:Int)]) (r0.cons (k:=1) (r:=.cells 3 [.t (iv (j:Int))]) (by omega)) (A3r (b:=1) (ty:=3) _ (by simp[eInt])) (by simp;omega) (by simp;omega)
        rw[hz]at ap2
        simp -implicitDefEqProofs [S77i,zk,bs,ap2]
        refine Next.mk () trivial ?_
        unfold S77e
        rw[cs]
        exact A0i (k:=b2) r2 (by omega) (by omega) (by simp -implicitDefEqProofs [A0g,A0e,ren,under])
   ·rintro _ -
    refine A0d B8x ?_
    simp -implicitDefEqProofs [S77e,e1]
    exact A0i (k:=0) (A0j.head' _ _ _ _) (by omega) (by omega) (by simp -implicitDefEqProofs [A0g,A0e,ren,under])
  ·refine A0d B8x ?_
   simp -implicitDefEqProofs [S77,ht.len]
   exact Next.mk () trivial (A0i (k:=0) (A0j.head' _ _ _ _) (by omega) (by omega) (by simp -implicitDefEqProofs [A0g,A0e,ren,under]))
 ·rintro _ -
  refine A0d B8x ?_
  have tt:=(A0j.head' eInt 3 0 (A8l l i l.length)).toT
  simp -implicitDefEqProofs [S77,tt]
structure Typ where
 name:Str
 code:List W
 sups:T
 vals:T
def eTyp:Enc Typ:=⟨4,fun x=>[sv x.name,encB x.code,x.sups,x.vals],fun _=>rfl,by omega,fun a b h=>by
 obtain⟨a1,a2,a3,a4⟩:=a
 obtain⟨b1,b2,b3,b4⟩:=b
 injection h with h1 h2
 injection h2 with h2 h3
 injection h3 with h3 h4
 injection h4 with h4 _
 have e:=A1h a2
 simp only at h2
 rw[h2,A1h]at e
 injection e with e
 injection h1 with h1
 injection h1 with h1
 have h1:a1=b1:=h1
 have h3:a3=b3:=h3
 have h4:a4=b4:=h4
 simp[h1,e,h3,h4]⟩
theorem E7h {t:T} {l:List Typ} (h:IsS eTyp t l) {i:Nat} {x:Typ} (hx:l[i]?=some x):A1q 4 (.t t) (.t (iv (i:Int)))=some (.t (.pt (sv x.name::encB x.code::x.sups::x.vals::rest eTyp l i))):=h.iaddr hx .i64
theorem B4t {α:Type} {e:Enc α} {ty:Nat} {H:Heap} {b c:Nat} {l:List α} (h:A0j e ty H b l) (hc:b≠c):frzP H [c] (rowP e b l)=rowP e b l:=by
 unfold frzP
 rw[h.toT]
 cases l with
 | nil=>rfl
 | cons x r=>simp[B1y,hc]
theorem A0j.frz {α:Type} {e:Enc α} {ty:Nat} {H:Heap} {b c:Nat} {l:List α} (h:A0j e ty H b l) (hc:b≠c):A0j e ty ((remAll H [c]).map fun q=>(q.1,A4f H [c] q.2)) b l:=by
 refine h.imp id fun h=>?_
 have h1:Abs.look (remAll H [c]) b=some (A1g e ty l):=by
  show Abs.look (rem H c) b=_
  rw[A1m,if_neg hc,h]
 rw[A5v,h1]
 simp[A1g,A4f,B8t]
end Go.Proofs.Ytbiadmfmjnoecaa
