/-
 Auxiliary facts. No statement of the program stands here.
-/
import Derived.Test.YtbiadmfmjnoecaaVAQ23
namespace Go.Proofs.Ytbiadmfmjnoecaa
set_option linter.unusedSimpArgs false
set_option linter.unusedVariables false
open Go Go.Abs
theorem B5l {t:T} {l:List Str} (h:IsS eStr t l) {i:Nat} {x:Str} (hx:l[i]?=some x):A2j 1 (.t t) (.t (iv (i:Int)))=some (.t (.pt (sv x::rest eStr l i))):=h.iaddr hx .i64
theorem B6n {next:Str->List Str->List Str} {In:Str->Prop} (hk:∀s todo,In s->todo.Nodup->(∀u∈todo,In u)->(next s todo).Nodup/\∀u∈next s todo,In u) :
  ∀(f i:Nat) (todo:List Str),todo.Nodup->(∀u∈todo,In u)->(B4v next f i todo).Nodup/\∀u∈B4v next f i todo,In u
 | 0,i,todo,h1,h2=>⟨h1,h2⟩
 | f+1,i,todo,h1,h2=>by
  simp only[B4v]
  split
  ·exact⟨h1,h2⟩
  ·rename_i s hs
   obtain⟨h3,h4⟩:=hk s todo (h2 s (List.mem_of_getElem? hs)) h1 h2
   exact B6n hk f (i+1) _ h3 h4
theorem D9p {d:List TD} (hg:Good d) {s:Str} (hs:∃x∈d,x.name=s):(A6i d s).Nodup/\∀u∈A6i d s,∃x∈d,x.name=u:=by
 refine B6n (In:=fun u=>∃x∈d,x.name=u) (fun u todo hu h1 h2=>?_) _ _ _ (by simp) (by simpa using hs)
 obtain⟨p,x,hp,hx,hxs,hidx,hfd⟩:=hg.find hu
 have hsup:D9o d u=x.ss:=by unfold D9o;rw[hidx,hx];rfl
 have:=B0g h1 h2 (fun s hs=>hg.decl (List.mem_of_getElem? hx) hs) x.ss.length (Nat.le_refl _)
 have e:A3j x.ss todo x.ss.length=B1r d u todo:=by unfold A3j B1r;rw[List.take_length,hsup]
 rw[e]at this
 exact⟨this.nodup,this.mem⟩
theorem D9q {d:List TD} {s:Str} (hs:∃x∈d,x.name=s):(A4v d s).Nodup/\∀u∈A4v d s,∃x∈d,x.name=u:=by
 refine B6n (In:=fun u=>∃x∈d,x.name=u) (fun u todo hu h1 h2=>?_) _ _ _ (by simp) (by simpa using hs)
 have:=A5j u h1 h2 d.length (Nat.le_refl _)
 rw[A9m]at this
 exact⟨this.nodup,this.mem⟩
theorem B5m {d:List TD} {s:Str} (h:¬A6g d s<0):∃x∈d,x.name=s:=by
 unfold A6g at h
 split at h
 ·rename_i hi
  obtain⟨x,hx,e⟩:=B6m hi
  exact⟨x,List.mem_of_getElem? hx,e⟩
 ·exact absurd (by decide) h
theorem C1c (l:List Str):(C5h l).length<=l.length:=by
 rw[<-C9e];exact B0f l l.length
theorem F5y {d:List TD} (hg:Good d) (s:Str):(C9g d s).length<=d.length:=by
 unfold C9g
 split
 ·simp
 ·rename_i h
  obtain⟨h1,h2⟩:=D9p hg (B5m h)
  exact Nat.le_trans (C1c _) (B3b h1 h2)
theorem F5z {d:List TD} (s:Str):(below d s).length<=d.length:=by
 unfold below
 split
 ·simp
 ·rename_i h
  obtain⟨h1,h2⟩:=D9q (B5m h)
  exact Nat.le_trans (C1c _) (B3b h1 h2)
theorem D5w {l:List Str} {s u:Str}:u∈put l s ↔ u∈l\/u=s:=by
 unfold put
 simp only
 split
 ·rename_i h
  constructor
  ·exact .inl
  ·rintro(h1 | rfl)
   ·exact h1
   ·exact List.mem_of_getElem? h
 ·constructor
  ·intro h
   rcases List.mem_append.1 h with h | h
   ·rcases List.mem_append.1 h with h | h
    ·exact .inl (List.mem_of_mem_take h)
    ·exact .inr (by simpa using h)
   ·exact .inl (List.mem_of_mem_drop h)
  ·rintro(h1 | rfl)
   ·rw[<-List.take_append_drop (l.findIdx fun x=>!C0t x s) l]at h1
    rcases List.mem_append.1 h1 with h1 | h1
    ·exact List.mem_append_left _ (List.mem_append_left _ h1)
    ·exact List.mem_append_right _ h1
   ·exact List.mem_append_left _ (List.mem_append_right _ (by simp))
theorem D5x {l:List Str}:∀{acc:List Str} {u:Str},u∈l.foldl put acc ↔ u∈acc\/u∈l:=by
 induction l with
 | nil=>intro acc u;simp
 | cons x l ih=>
  intro acc u
  rw[List.foldl_cons,ih,D5w,List.mem_cons]
  constructor
  ·rintro((h | h) | h)
   ·exact .inl h
   ·exact .inr (.inl h)
   ·exact .inr (.inr h)
  ·rintro(h | h | h)
   ·exact .inl (.inl h)
   ·exact .inl (.inr h)
   ·exact .inr h
theorem B6o {l:List Str} {u:Str}:u∈C5h l ↔ u∈l:=by
 unfold C5h
 rw[D5x];simp
def E3o (d:List TD) (out:List Str) (s:Str):List Str:=if 0<=A6g d s then put out s else out
def B0h (d:List TD) (l:List Str) (j:Nat):List Str:=(l.take j).foldl (E3o d) []
def decl (d:List TD) (l:List Str):List Str:=l.foldl (E3o d) []
theorem C9h {d:List TD} {l:List Str} {j:Nat} {x:Str} (h:l[j]?=some x):B0h d l (j+1)=E3o d (B0h d l j) x:=by
 unfold B0h
 rw[List.take_add_one,h]
 simp[List.foldl_append]
theorem A8t (d:List TD) (l:List Str):∀j,(B0h d l j).length<=j
 | 0=>by simp[B0h]
 | j+1=>by
  have ih:=A8t d l j
  cases h:l[j]? with
  | none=>
   have:B0h d l (j+1)=B0h d l j:=by unfold B0h;rw[List.take_add_one,h];simp
   rw[this];omega
  | some x=>
   rw[C9h h]
   unfold E3o
   split
   ·have:=B1p (B0h d l j) x;omega
   ·omega
theorem C3v (d:List TD) (l:List Str):B0h d l l.length=decl d l:=by unfold B0h decl;rw[List.take_length]
theorem G2u {d:List TD} {l:List Str} {u:Str} (h:u∈decl d l):u∈l/\∃x∈d,x.name=u:=by
 have key:∀(l:List Str) (acc:List Str),u∈l.foldl (E3o d) acc->u∈acc\/(u∈l/\∃x∈d,x.name=u):=by
  intro l
  induction l with
  | nil=>intro acc h;exact .inl h
  | cons y l ih=>
   intro acc h
   rw[List.foldl_cons]at h
   rcases ih _ h with h | ⟨h,h'⟩
   ·unfold E3o at h
    split at h
    ·rename_i hf
     rcases D5w.1 h with h | rfl
     ·exact .inl h
     ·exact .inr ⟨by simp,B5m (by omega)⟩
    ·exact .inl h
   ·exact .inr ⟨by simp[h],h'⟩
 rcases key l [] h with h | h
 ·cases h
 ·exact h
def S139 (t u:T) (d:List TD) (l:List Str) (j:Nat):A0b:=⟨[(6,.t (iv (j:Int))),(5,.t (A0m eStr (B0h d l j))),(1,.t u),(0,.t t)],[],0,27⟩
theorem D5y {t u:T} {d:List TD} {l:List Str} (ht:IsS eTD t d) (hu:IsS eStr u l) (hdl:d.length<=cap) (hl:l.length<=cap):A0y Try.prog G 139 [t,u] (· = A0m eStr (decl d l)):=by
 have gf:∀s,D5v [t,sv s]=some (iv (A6g d s)):=fun s=>C1a ht s hdl
 unfold cap at hl
 refine B7s.call rfl ?_
 unfold B0y
 refine A0a A2i ?_
 simp -implicitDefEqProofs
 refine A0a A2i ?_
 simp -implicitDefEqProofs
 refine A0r (fun _:Unit=>S139 t u d l l.length) (fun _=>True) (fun _=>rfl) ?_ ?_
 ·refine A0a A2i ?_
  simp -implicitDefEqProofs
  refine A0h ?_
  refine A1a (S139 t u d l) l.length (fun _=>rfl) ?_ rfl ?_ ?_
  ·refine A0d rfl rfl ?_ ?_<;>simp -implicitDefEqProofs [S139,B0h,A0m]
  ·intro j hj
   refine A0c A2i ?_
   obtain⟨s,hs⟩:∃s,l[j]?=some s:=⟨_,List.getElem?_eq_getElem hj⟩
   have e1:IntKind.i64.wrap ((j:Int)+1)=((j+1:Nat):Int):=A0k (by omega) (by omega)
   have ia:=hu.iaddr hs .i64
   simp only[eStr,List.cons_append,List.nil_append]at ia
   have hln:=A8t d l j
   have gp:=C3t (IsS.tree eStr (B0h d l j)) s (by unfold cap;omega)
   have ds:=C9h (d:=d) hs
   unfold E3o at ds
   by_cases z:0<=A6g d s
   ·rw[if_pos z]at ds
    simp -implicitDefEqProofs [S139,hj,hu.len,ia,A0f,tb11,gf,z,gp,e1]
    refine A0d rfl rfl ?_ ?_<;>simp -implicitDefEqProofs [ds]
   ·rw[if_neg z]at ds
    simp -implicitDefEqProofs [S139,hj,hu.len,ia,A0f,tb11,gf,z,e1]
    refine A0d rfl rfl ?_ ?_<;>simp -implicitDefEqProofs [ds]
  ·refine A0c A2i ?_
   simp -implicitDefEqProofs [S139,hu.len]
   exact Next.mk () trivial (A0d rfl rfl (by simp -implicitDefEqProofs) (by simp -implicitDefEqProofs))
 ·rintro _ -
  refine A0c A2i ?_
  simp -implicitDefEqProofs [S139,C3v]
noncomputable def B7w (up all:List Str) (i:Nat):Nat->Bool
 | 0=>true
 | k+1=>B7w up all i k&&(decide (k=i) || !hasS up (all.getD k A2y))
noncomputable def A9n (d:List TD) (all:List Str):Nat->List Str
 | 0=>[]
 | j+1=>A9n d all j++(if B7w (C9g d (all.getD j A2y)) all j all.length then [all.getD j A2y]else [])
noncomputable def A8h (d:List TD) (l:List Str):List Str:=A9n d (decl d l) (decl d l).length
theorem B5n (d:List TD) (all:List Str):∀j,(A9n d all j).length<=j
 | 0=>by simp[A9n]
 | j+1=>by
  have:=B5n d all j
  simp only[A9n,List.length_append]
  split<;>simp<;>omega
theorem D9r {d:List TD} {all:List Str} {u:Str}:∀{j:Nat},j<=all.length->u∈A9n d all j->u∈all
 | 0,_,h=>by simp[A9n]at h
 | j+1,hj,h=>by
  simp only[A9n]at h
  rcases List.mem_append.1 h with h | h
  ·exact D9r (by omega) h
  ·split at h
   ·simp only[List.mem_singleton]at h
    subst h
    simp[List.getD_eq_getElem?_getD,show j<all.length by omega]
   ·cases h
theorem E3p {d:List TD} {l:List Str} {u:Str} (h:u∈A8h d l):u∈l/\∃x∈d,x.name=u:=G2u (D9r (Nat.le_refl _) h)
noncomputable def F6a:List T->Option T:=g2 (tSl eTD) tStr fun d s=>open Classical in if Good d then some (A0m eStr (C9g d s))else none
theorem G2v:GOK Try.prog G 140 F6a:=A6z fun a b x y r ha hb hr=>by
 obtain rfl:b=sv y:=hb
 split at hr
 ·rename_i h;injection hr with hr;subst hr;exact F0z ha h y
 ·cases hr
theorem F6b {t:T} {d:List TD} (ht:IsS eTD t d) (hg:Good d) (s:Str):F6a [t,sv s]=some (A0m eStr (C9g d s)):=
 (A5x (τ:=tSl eTD) (σ:=tStr) ht rfl).trans (if_pos hg)
noncomputable def G7k:List T->Option T:=g2 (tSl eTD) (tSl eStr) fun d l=>if d.length<=cap/\l.length<=cap then some (A0m eStr (decl d l))else none
theorem G7l:GOK Try.prog G 139 G7k:=A6z fun a b x y r ha hb hr=>by
 split at hr
 ·rename_i h;injection hr with hr;subst hr;exact D5y ha hb h.1 h.2
 ·cases hr
theorem G2w {t u:T} {d:List TD} {l:List Str} (ht:IsS eTD t d) (hu:IsS eStr u l) (hdl:d.length<=cap) (hl:l.length<=cap):G7k [t,u]=some (A0m eStr (decl d l)):=
 (A5x (τ:=tSl eTD) (σ:=tSl eStr) ht hu).trans (if_pos ⟨hdl,hl⟩)
noncomputable def tb15:Tbl:=[(140,F6a),(139,G7k),(127,B7t)]
theorem C1d:Ctx Try.prog G (orc tb15):=(A1o.cons G2v (.cons G7l (.cons B6l .nil))).ctx A1w
noncomputable def S132 (t:T) (d:List TD) (all:List Str) (j:Nat):A0b:=⟨[(7,.t (iv (j:Int))),(6,.t (A0m eStr all)),(5,rowP eStr 0 (A9n d all j)),(0,.t t)],rowH eStr 9 0 (A9n d all j),1,56⟩
noncomputable def D9s (t:T) (d:List TD) (up all:List Str) (j k:Nat):A0b:=⟨[(10,.t (iv (k:Int))),(9,.t (bv (B7w up all j k))),(8,.t (A0m eStr up)),(7,.t (iv (j:Int))),(6,.t (A0m eStr all)),(5,rowP eStr 0 (A9n d all j)),(0,.t t)],rowH eStr 9 0 (A9n d all j),1,56⟩
noncomputable def G2x (t:T) (d:List TD) (all:List Str) (j:Nat):A0b:=⟨[(7,.t (iv (j:Int))),(6,.t (A0m eStr all)),(5,rowP eStr 0 (A9n d all (j+1))),(0,.t t)],rowH eStr 9 0 (A9n d all (j+1)),1,56⟩
theorem D9t {t u:T} {d:List TD} {l:List Str} (ht:IsS eTD t d) (hg:Good d) (hu:IsS eStr u l) (hl:l.length<=cap):A0y Try.prog G 132 [t,u] (· = A0m eStr (A8h d l)):=by
 have hdl:=hg.ok.1
 have q1:=G2w ht hu (by unfold cap;omega) hl
 have hz:eStr.z=1:=rfl
 refine C0y.call rfl ?_
 unfold B2v
 refine A0a C1d ?_
 simp -implicitDefEqProofs
 refine A0a C1d ?_
 simp -implicitDefEqProofs
 refine A0a C1d ?_
 simp -implicitDefEqProofs [tb15,q1]
 have hall:(decl d l).length<=cap:=by rw[<-C3v];exact Nat.le_trans (A8t d l l.length) hl
 unfold A8h
 obtain⟨all,ha⟩:∃all,all=decl d l:=⟨_,rfl⟩
 rw[<-ha]at hall ⊢
 unfold cap at hall
 have hA:=IsS.tree eStr all
 refine A0r (fun _:Unit=>S132 t d all all.length) (fun _=>True) (fun _=>rfl) ?_ ?_
 ·refine A0a C1d ?_
  simp -implicitDefEqProofs
  refine A0h ?_
  refine A1a (S132 t d all) all.length (fun _=>rfl) ?_ rfl ?_ ?_
  ·exact A0j (k:=0) (A0i.nil _ _ _ _) (by omega) (by omega) (by simp -implicitDefEqProofs [A9n,rowP,ren,under])
  ·intro j hj
   obtain⟨s,hs⟩:∃s,all[j]?=some s:=⟨_,List.getElem?_eq_getElem hj⟩
   have hgd:all.getD j A2y=s:=by simp[List.getD_eq_getElem?_getD,hs]
   have ia:=B5l hA hs
   have ga:=F6b ht hg s
   have hal:=F5y hg s
   have r0:=A0i.head' eStr 9 0 (A9n d all j)
   have hml:=B5n d all j
   have lp:∀(cs:List T) (c:T),A0f false 1 (rowH eStr 9 0 (A9n d all j)) (.t (.pt (c::cs)))=some (.t c):=fun cs c=>rfl
   refine A0a C1d ?_
   simp -implicitDefEqProofs [S132,hj,hA.len]
   refine A0r (fun _:Unit=>G2x t d all j) (fun _=>True) (fun _=>rfl) ?_ ?_
   ·refine A0h ?_
    refine A0a C1d ?_
    simp -implicitDefEqProofs [ia,lp,tb15,ga]
    refine A0a C1d ?_
    simp -implicitDefEqProofs
    obtain⟨up,hup⟩:∃up,up=C9g d s:=⟨_,rfl⟩
    rw[<-hup]at hal ⊢
    have hU:=IsS.tree eStr up
    refine A0r (fun _:Unit=>D9s t d up all j all.length) (fun _=>True) (fun _=>rfl) ?_ ?_
    ·refine A0a C1d ?_
     simp -implicitDefEqProofs
     refine A0h ?_
     refine A1a (D9s t d up all j) all.length (fun _=>rfl) ?_ rfl ?_ ?_
     ·exact A0j (k:=0) r0 (by omega) (by omega) (by simp -implicitDefEqProofs [B7w,A0g,A0e,ren,under])
     ·intro k hk
      refine A0c C1d ?_
      obtain⟨v,hv⟩:∃v,all[k]?=some v:=⟨_,List.getElem?_eq_getElem hk⟩
      have hgv:all.getD k A2y=v:=by simp[List.getD_eq_getElem?_getD,hv]
      have ib:=B5l hA hv
      have gm:=A6f hU v (by unfold cap;omega)
      have e1:IntKind.i64.wrap ((k:Int)+1)=((k+1:Nat):Int):=A0k (by omega) (by omega)
      have fs:B7w up all j (k+1)=(B7w up all j k&&(decide (k=j) || !hasS up v)):=by simp only[B7w,hgv]
      cases z1:B7w up all j k with
      | false=>
       rw[z1,Bool.false_and]at fs
       simp -implicitDefEqProofs [D9s,hk,hA.len,z1,e1]
       exact A0j (k:=0) r0 (by omega) (by omega) (by simp -implicitDefEqProofs [fs,A0g,A0e,ren,under])
      | true=>
       by_cases z2:k=j
       ·have z2':((k:Int)==(j:Int))=true:=by rw[z2];simp
        rw[z1,decide_eq_true z2]at fs
        simp only[Bool.true_or,Bool.and_self]at fs
        simp -implicitDefEqProofs [D9s,hk,hA.len,z1,z2',e1]
        exact A0j (k:=0) r0 (by omega) (by omega) (by simp -implicitDefEqProofs [fs,A0g,A0e,ren,under])
       ·have z2':((k:Int)==(j:Int))=false:=by rw[beq_eq_false_iff_ne];omega
        rw[z1,decide_eq_false z2]at fs
        simp only[Bool.true_and,Bool.false_or]at fs
        simp -implicitDefEqProofs [D9s,hk,hA.len,z1,z2',ib,lp,tb15,gm,e1]
        exact A0j (k:=0) r0 (by omega) (by omega) (by simp -implicitDefEqProofs [fs,A0g,A0e,ren,under])
     ·refine A0c C1d ?_
      simp -implicitDefEqProofs [D9s,hA.len]
      exact Next.mk () trivial (A0j (k:=0) r0 (by omega) (by omega) (by simp -implicitDefEqProofs [A0g,A0e,ren,under]))
    ·rintro _ -
     refine A0c C1d ?_
     have ms:A9n d all (j+1)=A9n d all j++(if B7w up all j all.length then [s]else []):=by simp only[A9n,hgd,hup]
     cases z:B7w up all j all.length with
     | false=>
      rw[z]at ms
      simp only[Bool.false_eq_true,if_false,List.append_nil]at ms
      simp -implicitDefEqProofs [D9s,z]
      refine Next.mk () trivial ?_
      unfold G2x
      rw[ms]
      exact A0j (k:=0) r0 (by omega) (by omega) (by simp -implicitDefEqProofs [A0g,A0e,ren,under])
     | true=>
      rw[z]at ms
      simp only[if_true]at ms
      have bs:A1m 9 1 [.string ⟨#[]⟩] 1 [(0,.t (sv s))] 1=some (.row 1 0 1 1,.cells 9 [.t (sv s)]):=rfl
      obtain⟨b2,H2,n2,ap2,r2,ne2,_⟩:=A1k (e:=eStr) (ty:=9) (by':=16) (nx:=2) (m:=[s]) (r0.cons (k:=1) (r:=.cells 9 [.t (sv s)]) (by omega)) (A3d (b:=1) (ty:=9) _ (by simp[eStr])) (by simp;omega) (by simp;omega)
      rw[hz]at ap2
      simp -implicitDefEqProofs [D9s,z,ia,lp,bs,ap2]
      refine Next.mk () trivial ?_
      unfold G2x
      rw[ms]
      exact A0j (k:=b2) r2 (by omega) (by omega) (by simp -implicitDefEqProofs [A0g,A0e,ren,under])
   ·rintro _ -
    refine A0c C1d ?_
    have r1:=A0i.head' eStr 9 0 (A9n d all (j+1))
    have e1:IntKind.i64.wrap ((j:Int)+1)=((j+1:Nat):Int):=A0k (by omega) (by omega)
    simp -implicitDefEqProofs [G2x,e1]
    exact A0j (k:=0) r1 (by omega) (by omega) (by simp -implicitDefEqProofs [A0g,A0e,ren,under])
  ·refine A0c C1d ?_
   have r1:=A0i.head' eStr 9 0 (A9n d all all.length)
   simp -implicitDefEqProofs [S132,hA.len]
   exact Next.mk () trivial (A0j (k:=0) r1 (by omega) (by omega) (by simp -implicitDefEqProofs [A0g,A0e,ren,under]))
 ·rintro _ -
  refine A0c C1d ?_
  have tt:=(A0i.head' eStr 9 0 (A9n d all all.length)).toT
  simp -implicitDefEqProofs [S132,tt]
theorem C1e {a b:T} {l m:List W} (ha:decB a=some l) (hb:decB b=some m) (hl:l.length<=1000) (hm:m.length<=1000):A0y Try.prog G 89 [a,b] (· = fAnd l m):=
 (F5b ha hb hl hm).mono fun _ h=>h.trans (congrArg encB (G7a _ _))
theorem C1f {a b:T} {l m:List W} (ha:decB a=some l) (hb:decB b=some m) (hl:l.length<=1000) (hm:m.length<=1000):A0y Try.prog G 81 [a,b] (· = fSub l m):=by
 have ok:A1o Try.prog G [(111,gB2 F5d)]:=.cons (A6t E2z) .nil
 refine C4u.runs (ok.ctx A1w) rfl ?_
 have e1:=A7v (f:=F5d) ha hb hl hm
 have e2:((((A1y (D8v l m)).length:Nat):Int)==0)=subL l m:=by
  unfold subL
  cases h:(A1y (D8v l m)).length<;>simp
  omega
 simp -implicitDefEqProofs [B4n,e1,F5d,fSub,encB,A6q,e2]
theorem E6q {a b:T} {l m:List W} (ha:decB a=some l) (hb:decB b=some m) (hl:l.length<=1000) (hm:m.length<=1000):A0y Try.prog G 130 [a,b] (· = fEq l m):=by
 have ok:A1o Try.prog G [(81,gB2 fSub)]:=.cons (A6t C1f) .nil
 refine C7f.runs (ok.ctx A1w) rfl ?_
 have e1:=A7v (f:=fSub) ha hb hl hm
 have e2:=A7v (f:=fSub) hb ha hm hl
 cases h:subL l m<;>simp -implicitDefEqProofs [B8f,e1,e2,fSub,fEq,h]
theorem F1a (l:List Int):decI (A0m eInt l)=some l:=by
 have:∀l:List Int,l.flatMap eInt.enc=l.map iv:=by
  intro l
  induction l with
  | nil=>rfl
  | cons x l ih=>rw[List.flatMap_cons,ih];rfl
 cases l with
 | nil=>rfl
 | cons x r=>
  show decI (slT eInt (x::r))=_
  unfold slT
  rw[this]
  exact G7h (x::r)
noncomputable def A3y (low all:List Str):Nat->List Int
 | 0=>[]
 | j+1=>A3y low all j++(if hasS low (all.getD j A2y)then [(j:Int)]else [])
theorem B3c (low all:List Str):∀j,(A3y low all j).length<=j
 | 0=>by simp[A3y]
 | j+1=>by
  have:=B3c low all j
  simp only[A3y,List.length_append]
  split<;>simp<;>omega
theorem B1s {low all:List Str} {n:Int}:∀{j:Nat},n∈A3y low all j ↔ ∃i:Nat,i<j/\n=(i:Int)/\hasS low (all.getD i A2y)=true
 | 0=>by simp[A3y]
 | j+1=>by
  simp only[A3y,List.mem_append]
  rw[B1s]
  constructor
  ·rintro(⟨i,h1,h2,h3⟩ | h)
   ·exact⟨i,by omega,h2,h3⟩
   ·split at h
    ·rename_i hh
     simp only[List.mem_singleton]at h
     exact⟨j,by omega,h,hh⟩
    ·cases h
  ·rintro⟨i,h1,h2,h3⟩
   by_cases e:i=j
   ·subst e
    right
    rw[if_pos h3]
    simp[h2]
   ·exact .inl ⟨i,by omega,h2,h3⟩
noncomputable def A4m (d:List TD) (all:List Str) (s:Str):List W:=A1y (fill 64 (A3y (below d s) all all.length) (A3y (below d s) all all.length).length)
theorem D9u (d:List TD) (all:List Str) (s:Str):(A4m d all s).length<=64:=by
 unfold A4m
 have:=B0b (fill 64 (A3y (below d s) all all.length) (A3y (below d s) all all.length).length)
 rw[A9g]at this
 exact this
theorem C1g {d:List TD} {all:List Str} (hl:all.length<=256) (s:Str) (i:Nat):hasL (A4m d all s) i=(decide (i<all.length)&&hasS (below d s) (all.getD i A2y)):=by
 unfold A4m
 have h1:hasL (A1y (fill 64 (A3y (below d s) all all.length) (A3y (below d s) all all.length).length)) i=hasL (fill 64 (A3y (below d s) all all.length) (A3y (below d s) all all.length).length) i:=by
  unfold hasL;rw[B2t]
 rw[h1,E6m 64 _ (fun n hn=>by obtain⟨k,hk,rfl,_⟩:=B1s.1 hn;omega),List.take_length,Bool.eq_iff_iff,List.any_eq_true,Bool.and_eq_true,decide_eq_true_eq]
 constructor
 ·rintro⟨n,hn,e⟩
  obtain⟨k,hk,rfl,h⟩:=B1s.1 hn
  have:k=i:=by have e2:=of_decide_eq_true e;omega
  subst this
  exact⟨hk,h⟩
 ·rintro⟨h2,h3⟩
  exact⟨(i:Int),B1s.2 ⟨i,h2,rfl,h3⟩,by simp⟩
noncomputable def F6c:List T->Option T:=g2 (tSl eTD) tStr fun d s=>open Classical in if DOK d then some (A0m eStr (below d s))else none
theorem G2y:GOK Try.prog G 126 F6c:=A6z fun a b x y r ha hb hr=>by
 obtain rfl:b=sv y:=hb
 split at hr
 ·rename_i h;injection hr with hr;subst hr;exact F0x ha h y
 ·cases hr
theorem F6d {t:T} {d:List TD} (ht:IsS eTD t d) (hd:DOK d) (s:Str):F6c [t,sv s]=some (A0m eStr (below d s)):=
 (A5x (τ:=tSl eTD) (σ:=tStr) ht rfl).trans (if_pos hd)
noncomputable def tb16:Tbl:=[(126,F6c),(127,B7t),(128,gI ofT)]
theorem E3q:Ctx Try.prog G (orc tb16):=(A1o.cons G2y (.cons B6l (.cons (gI_ok G2p) .nil))).ctx A1w
noncomputable def S103 (low all:List Str) (u:T) (j:Nat):A0b:=⟨[(9,.t (iv (j:Int))),(8,rowP eInt 0 (A3y low all j)),(7,.t (A0m eStr low)),(1,.t u)],rowH eInt 3 0 (A3y low all j),1,37⟩
theorem F6e {t u:T} {d:List TD} {all:List Str} (ht:IsS eTD t d) (hd:DOK d) (hu:IsS eStr u all) (hl:all.length<=256) (s:Str):A0y Try.prog G 103 [t,u,sv s] (· = encB (A4m d all s)):=by
 have hdl:=hd.1
 have gb:=F6d ht hd s
 have hbl:=F5z (d:=d) s
 have hz:eInt.z=1:=rfl
 refine D3i.call rfl ?_
 unfold C3o
 refine A0a E3q ?_
 simp -implicitDefEqProofs
 refine A0a E3q ?_
 simp -implicitDefEqProofs [tb16,gb]
 refine A0a E3q ?_
 simp -implicitDefEqProofs
 unfold A4m
 obtain⟨low,hlow⟩:∃low,low=below d s:=⟨_,rfl⟩
 rw[<-hlow]at hbl ⊢
 have hL:=IsS.tree eStr low
 refine A0r (fun _:Unit=>S103 low all u all.length) (fun _=>True) (fun _=>rfl) ?_ ?_
 ·refine A0a E3q ?_
  simp -implicitDefEqProofs
  refine A0h ?_
  refine A1a (S103 low all u) all.length (fun _=>rfl) ?_ rfl ?_ ?_
  ·exact A0j (k:=0) (A0i.nil _ _ _ _) (by omega) (by omega) (by simp -implicitDefEqProofs [A3y,rowP,ren,under])
  ·intro j hj
   refine A0c E3q ?_
   obtain⟨x,hx⟩:∃x,all[j]?=some x:=⟨_,List.getElem?_eq_getElem hj⟩
   have hgd:all.getD j A2y=x:=by simp[List.getD_eq_getElem?_getD,hx]
   have ia:=B5l hu hx
   have ga:=A6f hL x (by unfold cap;omega)
   have r0:=A0i.head' eInt 3 0 (A3y low all j)
   have hcl:=B3c low all j
   have lp:∀(cs:List T) (c:T),A0f false 1 (rowH eInt 3 0 (A3y low all j)) (.t (.pt (c::cs)))=some (.t c):=fun cs c=>rfl
   have e1:IntKind.i64.wrap ((j:Int)+1)=((j+1:Nat):Int):=A0k (by omega) (by omega)
   have cs:A3y low all (j+1)=A3y low all j++(if hasS low x then [(j:Int)]else []):=by simp only[A3y,hgd]
   cases z:hasS low x with
   | false=>
    rw[z]at cs
    simp only[Bool.false_eq_true,if_false,List.append_nil]at cs
    simp -implicitDefEqProofs [S103,hj,hu.len,ia,lp,tb16,ga,z,e1]
    rw[cs]
    exact A0j (k:=0) r0 (by omega) (by omega) (by simp -implicitDefEqProofs [A0g,A0e,ren,under])
   | true=>
    rw[z]at cs
    simp only[if_true]at cs
    have bs:A1m 3 1 [.int .i64 0] 1 [(0,.t (iv (j:Int)))] 1=some (.row 1 0 1 1,.cells 3 [.t (iv (j:Int))]):=rfl
    obtain⟨b2,H2,n2,ap2,r2,ne2,_⟩:=A1k (e:=eInt) (ty:=3) (by':=8) (nx:=2) (m:=[(j:Int)]) (r0.cons (k:=1) (r:=.cells 3 [.t (iv (j:Int))]) (by omega)) (A3d (b:=1) (ty:=3) _ (by simp[eInt])) (by simp;omega) (by simp;omega)
    rw[hz]at ap2
    simp -implicitDefEqProofs [S103,hj,hu.len,ia,lp,tb16,ga,z,bs,ap2,e1]
    rw[cs]
    exact A0j (k:=b2) r2 (by omega) (by omega) (by simp -implicitDefEqProofs [A0g,A0e,ren,under])
  ·refine A0c E3q ?_
   have r1:=A0i.head' eInt 3 0 (A3y low all all.length)
   simp -implicitDefEqProofs [S103,hu.len]
   exact Next.mk () trivial (A0j (k:=0) r1 (by omega) (by omega) (by simp -implicitDefEqProofs [A0g,A0e,ren,under]))
 ·rintro _ -
  refine A0c E3q ?_
  obtain⟨l,hl'⟩:∃l,l=A3y low all all.length:=⟨_,rfl⟩
  have hcl:=B3c low all all.length
  have hin:l.all inR=true:=by
   rw[List.all_eq_true]
   intro n hn
   rw[hl']at hn
   obtain⟨k,hk,rfl,_⟩:=B1s.1 hn
   simp only[inR,Bool.and_eq_true,decide_eq_true_eq]
   omega
  have ho:ofT l = .tu [encB (A1y (fill 64 l l.length)),.v (.int .i64 0)]:=by unfold ofT;rw[if_pos hin]
  have go:=gI_eq (f:=ofT) (F1a l) (by rw[hl'];omega)
  have tt:=(A0i.head' eInt 3 0 l).toT
  simp -implicitDefEqProofs [S103,<-hl',tt,tb16,go,ho]
def eB:Enc (List W):=⟨1,fun l=>[encB l],fun _=>rfl,by omega,fun a b h=>by
 injection h with h
 have:=A0x a
 rw[h,A0x]at this
 injection this with this
 exact this.symm⟩
theorem ia_B {t:T} {l:List (List W)} (h:IsS eB t l) {i:Nat} {x:List W} (hx:l[i]?=some x):A2j 1 (.t t) (.t (iv (i:Int)))=some (.t (.pt (encB x::rest eB l i))):=h.iaddr hx .i64
def tB:Ty (List W):=⟨fun t l=>t=encB l,fun t a b h h'=>by
 have:=A0x a
 rw[<-h,h',A0x]at this
 injection this with this
 exact this.symm⟩
noncomputable def tb17:Tbl:=[(118,gB2 G7b),(89,gB2 fAnd),(130,gB2 fEq),(81,gB2 fSub),(131,gHas)]
theorem G7m:A1o Try.prog G tb17:=.cons (A6t C8d) (.cons (A6t C1e) (.cons (A6t E6q) (.cons (A6t C1f) (.cons (E3d C8g D5o) .nil))))
theorem F6f:Ctx Try.prog G (orc tb17):=G7m.ctx A1w
theorem F6g (x y:List W) (hx:x.length<=1000) (hy:y.length<=1000):gB2 G7b [encB x,encB y]=some (bv (x==y)):=A7v (A0x x) (A0x y) hx hy
def inB (l:List (List W)) (b:List W):Bool:=l.any fun x=>x==b
def S129 (t:T) (b:List W) (j:Nat):A0b:=⟨[(5,.t (iv (j:Int))),(1,.t (encB b)),(0,.t t)],[],0,18⟩
theorem G7n {t:T} {l:List (List W)} (ht:IsS eB t l) (hl:l.length<=cap) (hs:∀x∈l,x.length<=1000) {b:List W} (hb:b.length<=1000):A0y Try.prog G 129 [t,encB b] (· = bv (inB l b)):=by
 unfold cap at hl
 refine E6n.call rfl ?_
 unfold D5s
 refine A0a F6f ?_
 simp -implicitDefEqProofs
 refine A0r (fun _:Unit=>S129 t b l.length) (fun _=>inB l b=false) (fun _=>rfl) ?_ ?_
 ·refine A0a F6f ?_
  simp -implicitDefEqProofs
  refine A0h ?_
  refine A1u (S129 t b) (fun k=>l.length-k) (fun k=>k<=l.length/\∀(i:Nat) x,i<k->l[i]?=some x->(x==b)=false) 0 (fun _=>rfl) ⟨Nat.zero_le _,fun i s h=>by omega⟩ ?_ rfl ?_
  ·refine A0d rfl rfl ?_ ?_<;>simp -implicitDefEqProofs [S129]
  ·rintro k ⟨hk,hg⟩
   refine A0c F6f ?_
   by_cases hkl:k<l.length
   ·obtain⟨x,hx⟩:∃x,l[k]?=some x:=⟨_,List.getElem?_eq_getElem hkl⟩
    have ia:=ia_B ht hx
    have gs:=F6g x b (hs x (List.mem_of_getElem? hx)) hb
    have e1:IntKind.i64.wrap ((k:Int)+1)=((k+1:Nat):Int):=A0k (by omega) (by omega)
    cases z:x==b with
    | true=>
     have hr:inB l b=true:=by
      unfold inB
      rw[List.any_eq_true]
      exact⟨x,List.mem_of_getElem? hx,z⟩
     rw[z]at gs
     simp -implicitDefEqProofs [S129,hkl,ht.len,ia,A0f,tb17,gs,hr]
    | false=>
     rw[z]at gs
     simp -implicitDefEqProofs [S129,hkl,ht.len,ia,A0f,tb17,gs,e1]
     refine Next.mk (k+1) ⟨⟨by omega,fun i y hi hy=>?_⟩,by omega⟩ (A0d rfl rfl (by simp -implicitDefEqProofs [S129]) (by simp -implicitDefEqProofs [S129]))
     by_cases e:i=k
     ·subst e;rw[hx]at hy;injection hy with hy;subst hy;simpa using z
     ·simpa using hg i y (by omega) hy
   ·have hk':k=l.length:=by omega
    simp -implicitDefEqProofs [S129,hkl,ht.len]
    refine Next.mk () ?_ (A0d rfl rfl (by simp -implicitDefEqProofs [S129,hk']) (by simp -implicitDefEqProofs [S129]))
    unfold inB
    rw[List.any_eq_false]
    intro x hx
    obtain⟨i,hi,e⟩:=List.getElem_of_mem hx
    rw[hg i x (by omega) (by rw[List.getElem?_eq_getElem hi,e])]
    simp
 ·rintro _ hr
  refine A0c F6f ?_
  simp -implicitDefEqProofs [S129,hr]
def andN (x y:List W):List W:=A1y (andL x y)
def A7d (i:Nat) (l:List (List W)) (k:Nat):List (List W):=
 if l.length<=256 then(if(andN (l.getD i []) (l.getD k [])).length=0\/inB l (andN (l.getD i []) (l.getD k []))=true then l else l++[andN (l.getD i []) (l.getD k [])])else l
def A3v (i:Nat) (l:List (List W)):Nat->List (List W)
 | 0=>l
 | k+1=>A7d i (A3v i l k) k
def famF:Nat->Nat->List (List W)->List (List W)
 | 0,_,l=>l
 | f+1,i,l=>if i<l.length/\l.length<=256 then famF f (i+1) (A3v i l i)else l
def A1t (codes:List (List W)):List (List W):=famF 300 0 codes
structure Fam (l m:List (List W)):Prop where
 len:l.length<=257->m.length<=257
 size:(∀x∈l,x.length<=64)->∀x∈m,x.length<=64
 pre:∃r,m=l++r
theorem Fam.refl (l:List (List W)):Fam l l:=⟨fun h=>h,fun h=>h,[],by simp⟩
theorem Fam.trans {l m n:List (List W)} (h:Fam l m) (h':Fam m n):Fam l n:=by
 obtain⟨r,e⟩:=h.pre
 obtain⟨r',e'⟩:=h'.pre
 exact⟨fun x=>h'.len (h.len x),fun x=>h'.size (h.size x),r++r',by rw[e',e,List.append_assoc]⟩
theorem C6k (x y:List W):(andN x y).length<=x.length:=by
 unfold andN
 have h1:=B0b (andL x y)
 have h2:(andL x y).length<=x.length:=by simp[andL];omega
 omega
theorem C9i (i:Nat) (l:List (List W)) (k:Nat):Fam l (A7d i l k):=by
 unfold A7d
 split
 ·rename_i hl
  split
  ·exact Fam.refl l
  ·refine⟨fun _=>by simp;omega,fun hs x hx=>?_,_,rfl⟩
   rcases List.mem_append.1 hx with hx | hx
   ·exact hs x hx
   ·simp only[List.mem_singleton]at hx
    subst hx
    refine Nat.le_trans (C6k _ _) ?_
    by_cases hi:i<l.length
    ·have e:l.getD i []=l[i]:=by simp[List.getD_eq_getElem?_getD,hi]
     rw[e]
     exact hs _ (List.getElem_mem hi)
    ·have e:l.getD i []=[]:=by simp[List.getD_eq_getElem?_getD,hi]
     rw[e];simp
 ·exact Fam.refl l
theorem B1t (i:Nat) (l:List (List W)):∀k,Fam l (A3v i l k)
 | 0=>Fam.refl l
 | k+1=>(B1t i l k).trans (C9i i _ k)
theorem D3p {i:Nat} {l:List (List W)} {k:Nat} (h:¬(A3v i l k).length<=256):∀n,A3v i l (k+n)=A3v i l k
 | 0=>rfl
 | n+1=>by
  have ih:=D3p h n
  show A7d i (A3v i l (k+n)) (k+n)=_
  rw[ih]
  unfold A7d
  rw[if_neg h]
theorem B6p:∀(f i:Nat) (l:List (List W)),Fam l (famF f i l)
 | 0,i,l=>Fam.refl l
 | f+1,i,l=>by
  unfold famF
  split
  ·exact(B1t i l i).trans (B6p f (i+1) _)
  ·exact Fam.refl l
noncomputable def gIn:List T->Option T:=g2 (tSl eB) tB fun l b=>open Classical in if l.length<=cap/\(∀x∈l,x.length<=1000)/\b.length<=1000 then some (bv (inB l b))else none
theorem in_ok:GOK Try.prog G 129 gIn:=A6z fun a b x y r ha hb hr=>by
 obtain rfl:b=encB y:=hb
 split at hr
 ·rename_i h;injection hr with hr;subst hr;exact G7n ha h.1 h.2.1 h.2.2
 ·cases hr
theorem G9w {t:T} {l:List (List W)} (ht:IsS eB t l) (hl:l.length<=cap) (hs:∀x∈l,x.length<=1000) {b:List W} (hb:b.length<=1000):gIn [t,encB b]=some (bv (inB l b)):=
 (A5x (τ:=tSl eB) (σ:=tB) (y:=b) ht rfl).trans (if_pos ⟨hl,hs,hb⟩)
noncomputable def tb18:Tbl:=[(89,gB2 fAnd),(129,gIn)]
theorem D5z:Ctx Try.prog G (orc tb18):=(A1o.cons (A6t C1e) (.cons in_ok .nil)).ctx A1w
def S104 (a:Nat×List (List W)):A0b:=⟨[(4,.t (iv (a.1:Int))),(3,rowP eB 0 a.2)],rowH eB 101 0 a.2,1,54⟩
def G2z (l:List (List W)):A0b:=⟨[(3,rowP eB 0 l)],rowH eB 101 0 l,1,54⟩
def D6a (i:Nat) (l:List (List W)) (k:Nat):A0b:=⟨[(5,.t (iv (k:Int))),(4,.t (iv (i:Int))),(3,rowP eB 0 (A3v i l k))],rowH eB 101 0 (A3v i l k),1,54⟩
theorem E3r {t:T} {codes:List (List W)} (ht:IsS eB t codes) (h0:0<codes.length) (hl:codes.length<=256) (hs:∀x∈codes,x.length<=64):A0y Try.prog G 104 [t] (· = A0m eB (A1t codes)):=by
 have hz:eB.z=1:=rfl
 refine C5c.call rfl ?_
 unfold B5c
 refine A0a D5z ?_
 simp -implicitDefEqProofs
 have bs0:A1m 101 1 [.slice none 0 0] 0 [] 0=some (.row 0 0 0 1,.cells 101 []):=rfl
 have ap0:appM 101 1 24 [(0,.cells 101 [])] 1 (.row 0 0 0 1) (.t t)=some (.row 1 0 codes.length 1,[(1,A2r eB 101 codes)],2):=by
  have hsrc:=A7m (H:=[(0,Row.cells 101 [])]) ht
  rw[hz]at hsrc
  have b1:codes.length*24<=140737488355328:=by omega
  have b2:codes.length<=9223372036854775807:=by omega
  simp[appM,hsrc,A2r,b1,b2]
 refine A0a D5z ?_
 simp -implicitDefEqProofs [bs0,ap0]
 refine A0r (fun _:Unit=>G2z (A1t codes)) (fun _=>True) (fun _=>rfl) ?_ ?_
 ·refine A0a D5z ?_
  simp -implicitDefEqProofs
  refine A0h ?_
  refine A1u S104 (fun a=>300-a.1) (fun a=>a.1<=257/\Fam codes a.2/\famF (300-a.1) a.1 a.2=A1t codes) (0,codes) (fun _=>rfl) ⟨by simp,Fam.refl _,rfl⟩ ?_ rfl ?_
  ·refine A0j (l:=codes) (k:=1) (.inr (by simp)) (by omega) (by omega) ?_
   cases codes with
   | nil=>simp at h0
   | cons x r=>simp -implicitDefEqProofs [rowP,ren,under,eB]
  ·rintro⟨i,l⟩ ⟨hi,hf,he⟩
   simp only at hi hf he
   have hll:l.length<=257:=hf.len (by omega)
   have hsl:=hf.size hs
   have r0:=A0i.head' eB 101 0 l
   by_cases hc:i<l.length/\l.length<=256
   ·have hc1:=hc.1
    have hc2:=hc.2
    have hc2':(l.length:Int)<=256:=by omega
    refine A0a D5z ?_
    simp -implicitDefEqProofs [S104,A1q,hc1,hc2,hc2']
    refine A0r (fun _:Unit=>S104 (i,A3v i l i)) (fun _=>True) (fun _=>rfl) ?_ ?_
    ·refine A0h ?_
     refine A0a D5z ?_
     simp -implicitDefEqProofs
     refine A0h ?_
     refine A1u (D6a i l) (fun k=>i-k) (fun k=>k<=i) 0 (fun _=>rfl) (Nat.zero_le _) ?_ rfl ?_
     ·exact A0j (k:=0) r0 (by omega) (by omega) (by simp -implicitDefEqProofs [A3v,A0g,A0e,ren,under])
     ·intro k hk
      have hfk:=B1t i l k
      have hlk:(A3v i l k).length<=257:=hfk.len hll
      have hsk:=hfk.size hsl
      have rk:=A0i.head' eB 101 0 (A3v i l k)
      have tt:=rk.toT
      refine A0c D5z ?_
      by_cases hki:k<i
      ·by_cases hc3:(A3v i l k).length<=256
       ·have hc3':((A3v i l k).length:Int)<=256:=by omega
        obtain⟨r,hr⟩:=hfk.pre
        have hle:l.length<=(A3v i l k).length:=by rw[hr];simp
        obtain⟨x,hx⟩:∃x,(A3v i l k)[i]?=some x:=⟨_,List.getElem?_eq_getElem (by omega)⟩
        obtain⟨y,hy⟩:∃y,(A3v i l k)[k]?=some y:=⟨_,List.getElem?_eq_getElem (by omega)⟩
        have hxl:=hsk x (List.mem_of_getElem? hx)
        have hyl:=hsk y (List.mem_of_getElem? hy)
        have ix:=A2h (e:=eB) (b:=0) hx .i64
        have iy:=A2h (e:=eB) (b:=0) hy .i64
        have lx:=rk.load (off:=0) (c:=encB x) hx rfl
        have ly:=rk.load (off:=0) (c:=encB y) hy rfl
        rw[hz,Nat.mul_one]at ix iy
        rw[hz,Nat.mul_one,Nat.add_zero]at lx ly
        have ga:gB2 fAnd [encB x,encB y]=some (encB (andN x y)):=A7v (A0x x) (A0x y) (by omega) (by omega)
        have hbl:(andN x y).length<=1000:=Nat.le_trans (C6k x y) (by omega)
        have gi:=G9w (IsS.tree eB (A3v i l k)) (by unfold cap;omega) (fun z hz=>Nat.le_trans (hsk z hz) (by omega)) hbl
        have e1:IntKind.i64.wrap ((k:Int)+1)=((k+1:Nat):Int):=A0k (by omega) (by omega)
        have le:A6q (.t (encB (andN x y)))=some (.t (iv ((andN x y).length:Int))):=rfl
        have fs:A3v i l (k+1)=if(andN x y).length=0\/inB (A3v i l k) (andN x y)=true then A3v i l k else A3v i l k++[andN x y]:=by
         show A7d i (A3v i l k) k=_
         unfold A7d
         have e3:(A3v i l k).getD i []=x:=by simp[List.getD_eq_getElem?_getD,hx]
         have e4:(A3v i l k).getD k []=y:=by simp[List.getD_eq_getElem?_getD,hy]
         rw[if_pos hc3,e3,e4]
        by_cases z1:(andN x y).length=0
        ·have z1':¬(0:Int)<((andN x y).length:Int):=by omega
         have z1n:¬0<(andN x y).length:=by omega
         rw[if_pos (.inl z1)]at fs
         simp -implicitDefEqProofs [D6a,hki,A1q,hc3,hc3',ix,iy,lx,ly,tb18,ga,le,z1',z1n,e1]
         refine Next.mk (k+1) ⟨by omega,by omega⟩ ?_
         unfold D6a
         rw[fs]
         exact A0j (k:=0) rk (by omega) (by omega) (by simp -implicitDefEqProofs [A0g,A0e,ren,under])
        ·have z1':(0:Int)<((andN x y).length:Int):=by omega
         have z1n:0<(andN x y).length:=by omega
         cases z2:inB (A3v i l k) (andN x y)with
         | true=>
          rw[if_pos (.inr z2)]at fs
          simp -implicitDefEqProofs [D6a,hki,A1q,hc3,hc3',ix,iy,lx,ly,tb18,ga,le,z1',z1n,tt,gi,z2,e1]
          refine Next.mk (k+1) ⟨by omega,by omega⟩ ?_
          unfold D6a
          rw[fs]
          exact A0j (k:=0) rk (by omega) (by omega) (by simp -implicitDefEqProofs [A0g,A0e,ren,under])
         | false=>
          rw[if_neg (by rw[z2];simp[z1])]at fs
          have bs:A1m 101 1 [.slice none 0 0] 1 [(0,.t (encB (andN x y)))] 1=some (.row 1 0 1 1,.cells 101 [.t (encB (andN x y))]):=rfl
          obtain⟨b2,H2,n2,ap2,r2,ne2,_⟩:=A1k (e:=eB) (ty:=101) (by':=24) (nx:=2) (m:=[andN x y]) (rk.cons (k:=1) (r:=.cells 101 [.t (encB (andN x y))]) (by omega)) (A3d (b:=1) (ty:=101) _ (by simp[eB])) (by simp;omega) (by simp;omega)
          rw[hz]at ap2
          simp -implicitDefEqProofs [D6a,hki,A1q,hc3,hc3',ix,iy,lx,ly,tb18,ga,le,z1',z1n,tt,gi,z2,bs,ap2,e1]
          refine Next.mk (k+1) ⟨by omega,by omega⟩ ?_
          unfold D6a
          rw[fs]
          exact A0j (k:=b2) r2 (by omega) (by omega) (by simp -implicitDefEqProofs [A0g,A0e,ren,under])
       ·have hc3':¬((A3v i l k).length:Int)<=256:=by omega
        have hst:=D3p hc3 (i-k)
        rw[show k+(i-k)=i by omega]at hst
        simp -implicitDefEqProofs [D6a,hki,A1q,hc3,hc3']
        refine Next.mk () trivial ?_
        unfold S104
        rw[hst]
        exact A0j (k:=0) rk (by omega) (by omega) (by simp -implicitDefEqProofs [A0g,A0e,ren,under])
      ·obtain rfl:i=k:=by omega
       simp -implicitDefEqProofs [D6a,hki]
       refine Next.mk () trivial ?_
       unfold S104
       exact A0j (k:=0) rk (by omega) (by omega) (by simp -implicitDefEqProofs [A0g,A0e,ren,under])
    ·rintro _ -
     refine A0c D5z ?_
     have rk:=A0i.head' eB 101 0 (A3v i l i)
     have e1:IntKind.i64.wrap ((i:Int)+1)=((i+1:Nat):Int):=A0k (by omega) (by omega)
     simp -implicitDefEqProofs [S104,e1]
     refine Next.mk (i+1,A3v i l i) ⟨⟨by simp only;omega,hf.trans (B1t i l i),?_⟩,by simp only;omega⟩ (A0j (k:=0) rk (by omega) (by omega) (by simp -implicitDefEqProofs [A0g,A0e,ren,under]))
     rw[<-he,show 300-i=(300-(i+1))+1 by omega]
     simp only[famF,if_pos hc]
   ·have hfin:A1t codes=l:=by
     rw[<-he]
     cases hh:300-i with
     | zero=>rfl
     | succ f=>simp only[famF,if_neg hc]
    refine A0c D5z ?_
    by_cases hc1:i<l.length
    ·have hc2:¬l.length<=256:=fun h=>hc ⟨hc1,h⟩
     have hc2':¬(l.length:Int)<=256:=by omega
     simp -implicitDefEqProofs [S104,A1q,hc1,hc2,hc2']
     refine Next.mk () trivial ?_
     unfold G2z
     rw[hfin]
     exact A0j (k:=0) r0 (by omega) (by omega) (by simp -implicitDefEqProofs [A0g,A0e,ren,under])
    ·simp -implicitDefEqProofs [S104,A1q,hc1]
     refine Next.mk () trivial ?_
     unfold G2z
     rw[hfin]
     exact A0j (k:=0) r0 (by omega) (by omega) (by simp -implicitDefEqProofs [A0g,A0e,ren,under])
 ·rintro _ -
  refine A0c D5z ?_
  have tt:=(A0i.head' eB 101 0 (A1t codes)).toT
  simp -implicitDefEqProofs [G2z,tt]
theorem B9c {α:Type} {e:Enc α} {ty:Nat} {H:Heap} {b:Nat} {l:List α} (h:A0i e ty H b l):frzP H [b] (rowP e b l) = .t (A0m e l):=by
 unfold frzP
 rw[h.toT]
 cases l<;>simp[B6y]
theorem B3d (H:Heap) (F:List Nat) (x:T):frzP H F (.t x) = .t x:=by simp[frzP]
noncomputable def C1h:List T->Option T:=g2 (tSl eTD) (tSl eStr) fun d l=>open Classical in if Good d/\l.length<=cap then some (A0m eStr (A8h d l))else none
theorem D3q:GOK Try.prog G 132 C1h:=A6z fun a b x y r ha hb hr=>by
 split at hr
 ·rename_i h;injection hr with hr;subst hr;exact D9t ha h.1 hb h.2
 ·cases hr
theorem C9j {t u:T} {d:List TD} {l:List Str} (ht:IsS eTD t d) (hg:Good d) (hu:IsS eStr u l) (hl:l.length<=cap):C1h [t,u]=some (A0m eStr (A8h d l)):=
 (A5x (τ:=tSl eTD) (σ:=tSl eStr) ht hu).trans (if_pos ⟨hg,hl⟩)
noncomputable def tb19:Tbl:=[(130,gB2 fEq),(131,gHas),(132,C1h)]
theorem D1k:Ctx Try.prog G (orc tb19):=(A1o.cons (A6t E6q) (.cons (E3d C8g D5o) (.cons D3q .nil))).ctx A1w
def eqS (x y:List W):Bool:=subL x y&&subL y x
def A5k (all:List Str) (b:List W):Nat->List Str
 | 0=>[]
 | j+1=>A5k all b j++(if hasL b j then [all.getD j A2y]else [])
theorem B3e (all:List Str) (b:List W):∀j,(A5k all b j).length<=j
 | 0=>by simp[A5k]
 | j+1=>by
  have:=B3e all b j
  simp only[A5k,List.length_append]
  split<;>simp<;>omega
theorem D3r {all:List Str} {b:List W} {u:Str}:∀{j:Nat},j<=all.length->u∈A5k all b j->u∈all
 | 0,_,h=>by simp[A5k]at h
 | j+1,hj,h=>by
  simp only[A5k]at h
  rcases List.mem_append.1 h with h | h
  ·exact D3r (by omega) h
  ·split at h
   ·simp only[List.mem_singleton]at h
    subst h
    simp[List.getD_eq_getElem?_getD,show j<all.length by omega]
   ·cases h
abbrev amp:Str:=⟨#[38]⟩
def A4f (l:List Str):Nat->Str
 | 0=>A2y
 | j+1=>(if 0<j then A4f l j++amp else A4f l j)++l.getD j A2y
theorem C9k (l:List Str) (hs:∀s∈l,s.size<=cap):∀j,j<=l.length->(A4f l j).size<=j*(cap+1)
 | 0,_=>by simp[A4f];rfl
 | j+1,hj=>by
  have ih:=C9k l hs j (by omega)
  have h1:(l.getD j A2y).size<=cap:=by
   have e:l.getD j A2y=l[j]:=by simp[List.getD_eq_getElem?_getD,show j<l.length by omega]
   rw[e];exact hs _ (List.getElem_mem _)
  simp only[A4f]
  rw[Nat.succ_mul]
  split
  ·simp only[ByteArray.size_append]
   have:amp.size=1:=rfl
   omega
  ·simp only[ByteArray.size_append]
   omega
noncomputable def B1u (d:List TD) (all:List Str) (codes:List (List W)) (b:List W):Str:=
 if codes.findIdx (fun x=>eqS x b)<codes.length then all.getD (codes.findIdx fun x=>eqS x b) A2y
 else A4f (A8h d (A5k all b all.length)) (A8h d (A5k all b all.length)).length
def G9x (codes:List (List W)) (b:List W):Prop:=codes.findIdx (fun x=>eqS x b)=codes.length
def S105 (t u c:T) (all:List Str) (b:List W) (j:Nat):A0b:=⟨[(10,.t (iv (j:Int))),(9,rowP eStr 0 (A5k all b j)),(3,.t (encB b)),(2,.t c),(1,.t u),(0,.t t)],rowH eStr 9 0 (A5k all b j),1,59⟩
def D9v (l:List Str) (j:Nat):A0b:=⟨[(12,.t (iv (j:Int))),(11,.t (sv (A4f l j))),(9,.t (A0m eStr l))],[],1,59⟩
theorem F1b {t u c:T} {d:List TD} {all:List Str} {codes:List (List W)} (ht:IsS eTD t d) (hg:Good d) (hu:IsS eStr u all) (hc:IsS eB c codes) (hlen:codes.length=all.length) (hl:all.length<=256)
  (hsz:∀s∈all,s.size<=cap) (hcs:∀x∈codes,x.length<=64) {b:List W} (hb:b.length<=64):A0y Try.prog G 105 [t,u,c,encB b] (· = sv (B1u d all codes b)):=by
 have hz:eStr.z=1:=rfl
 refine D3j.call rfl ?_
 unfold C3p
 refine A0a D1k ?_
 simp -implicitDefEqProofs
 refine A0a D1k ?_
 simp -implicitDefEqProofs
 refine A0r (fun _:Unit=>S105 t u c all b all.length) (fun _=>G9x codes b) (fun _=>rfl) ?_ ?_
 ·refine A0a D1k ?_
  simp -implicitDefEqProofs
  refine A0h ?_
  refine A1u (S105 t u c all b) (fun k=>all.length-k) (fun k=>k<=codes.findIdx fun x=>eqS x b) 0 (fun _=>rfl) (Nat.zero_le _) ?_ rfl ?_
  ·exact A0j (k:=0) (A0i.nil _ _ _ _) (by omega) (by omega) (by simp -implicitDefEqProofs [A5k,rowP,ren,under])
  ·intro j hj
   have hle:=A3h (fun x=>eqS x b) codes
   have r0:=A0i.head' eStr 9 0 (A5k all b j)
   refine A0c D1k ?_
   by_cases hjl:j<all.length
   ·obtain⟨x,hx⟩:∃x,codes[j]?=some x:=⟨_,List.getElem?_eq_getElem (by omega)⟩
    obtain⟨s,hs⟩:∃s,all[j]?=some s:=⟨_,List.getElem?_eq_getElem hjl⟩
    have hgd:all.getD j A2y=s:=by simp[List.getD_eq_getElem?_getD,hs]
    have ia:=ia_B hc hx
    have ib:=B5l hu hs
    have ge:gB2 fEq [encB x,encB b]=some (bv (eqS x b)):=A7v (A0x x) (A0x b) (Nat.le_trans (hcs x (List.mem_of_getElem? hx)) (by omega)) (by omega)
    have gh:=E6j (A0x b) j (by omega)
    have e1:IntKind.i64.wrap ((j:Int)+1)=((j+1:Nat):Int):=A0k (by omega) (by omega)
    have hpl:=B3e all b j
    have lp:∀(cs:List T) (c:T),A0f false 1 (rowH eStr 9 0 (A5k all b j)) (.t (.pt (c::cs)))=some (.t c):=fun cs c=>rfl
    cases z1:eqS x b with
    | true=>
     have hidx:codes.findIdx (fun x=>eqS x b)=j:=by
      rcases Nat.lt_or_ge j (codes.findIdx fun x=>eqS x b)with h | h
      ·have:=A2g (p:=fun x=>eqS x b) h hx
       rw[z1]at this;cases this
      ·omega
     have hn:B1u d all codes b=s:=by
      unfold B1u
      rw[hidx,if_pos (by omega),hgd]
     rw[z1]at ge
     simp -implicitDefEqProofs [S105,hjl,hu.len,ia,lp,tb19,ge,ib,hn]
    | false=>
     have hlt:j<codes.findIdx fun x=>eqS x b:=by
      rcases Nat.lt_or_ge j (codes.findIdx fun x=>eqS x b)with h | h
      ·exact h
      ·have hej:codes.findIdx (fun x=>eqS x b)=j:=by omega
       obtain⟨y,hy,hp⟩:=A1s (p:=fun x=>eqS x b) (l:=codes) (by omega)
       rw[hej,hx]at hy
       injection hy with hy
       subst hy
       rw[z1]at hp;cases hp
     rw[z1]at ge
     have ps:A5k all b (j+1)=A5k all b j++(if hasL b j then [s]else []):=by simp only[A5k,hgd]
     cases z2:hasL b j with
     | false=>
      rw[z2]at ps gh
      simp only[Bool.false_eq_true,if_false,List.append_nil]at ps
      simp -implicitDefEqProofs [S105,hjl,hu.len,ia,lp,tb19,ge,gh,e1]
      refine Next.mk (j+1) ⟨by omega,by omega⟩ ?_
      unfold S105
      rw[ps]
      exact A0j (k:=0) r0 (by omega) (by omega) (by simp -implicitDefEqProofs [A0g,A0e,ren,under])
     | true=>
      rw[z2]at ps gh
      simp only[if_true]at ps
      have bs:A1m 9 1 [.string ⟨#[]⟩] 1 [(0,.t (sv s))] 1=some (.row 1 0 1 1,.cells 9 [.t (sv s)]):=rfl
      obtain⟨b2,H2,n2,ap2,r2,ne2,_⟩:=A1k (e:=eStr) (ty:=9) (by':=16) (nx:=2) (m:=[s]) (r0.cons (k:=1) (r:=.cells 9 [.t (sv s)]) (by omega)) (A3d (b:=1) (ty:=9) _ (by simp[eStr])) (by simp;omega) (by simp;omega)
      rw[hz]at ap2
      simp -implicitDefEqProofs [S105,hjl,hu.len,ia,lp,tb19,ge,gh,ib,bs,ap2,e1]
      refine Next.mk (j+1) ⟨by omega,by omega⟩ ?_
      unfold S105
      rw[ps]
      exact A0j (k:=b2) r2 (by omega) (by omega) (by simp -implicitDefEqProofs [A0g,A0e,ren,under])
   ·have hje:j=all.length:=by omega
    subst hje
    simp -implicitDefEqProofs [S105,hu.len]
    exact Next.mk () (by show codes.findIdx (fun x=>eqS x b)=codes.length;omega) (A0j (k:=0) r0 (by omega) (by omega) (by simp -implicitDefEqProofs [A0g,A0e,ren,under]))
 ·rintro _ hnone
  have hnone:codes.findIdx (fun x=>eqS x b)=codes.length:=hnone
  have hn:B1u d all codes b=A4f (A8h d (A5k all b all.length)) (A8h d (A5k all b all.length)).length:=by
   unfold B1u
   rw[if_neg (by omega)]
  rw[hn]
  obtain⟨p,hp⟩:∃p,p=A5k all b all.length:=⟨_,rfl⟩
  have hpl:=B3e all b all.length
  have hpm:∀s∈p,s∈all:=fun s hs=>D3r (Nat.le_refl _) (hp▸hs)
  rw[<-hp]at hpl ⊢
  obtain⟨l,hl2⟩:∃l,l=A8h d p:=⟨_,rfl⟩
  have hll:l.length<=256:=by
   rw[hl2]
   unfold A8h
   have h1:=B5n d (decl d p) (decl d p).length
   have h2:(decl d p).length<=p.length:=by rw[<-C3v];exact A8t d p p.length
   omega
  have hls:∀s∈l,s.size<=cap:=fun s hs=>hsz s (hpm s (E3p (by rw[hl2]at hs;exact hs)).1)
  have gm:=C9j ht hg (IsS.tree eStr p) (by unfold cap;omega)
  rw[<-hl2]at gm ⊢
  have tt:=(A0i.head' eStr 9 0 p).toT
  have hL:=IsS.tree eStr l
  refine A0a D1k ?_
  simp -implicitDefEqProofs [S105,<-hp,tt,tb19,gm]
  refine A0a D1k ?_
  simp -implicitDefEqProofs
  refine A0r (fun _:Unit=>D9v l l.length) (fun _=>True) (fun _=>rfl) ?_ ?_
  ·refine A0a D1k ?_
   simp -implicitDefEqProofs
   refine A0h ?_
   refine A1a (D9v l) l.length (fun _=>rfl) ?_ rfl ?_ ?_
   ·exact C6h (by omega) (by simp -implicitDefEqProofs [D9v,A4f,under])
   ·intro j hj
    refine A0c D1k ?_
    obtain⟨s,hs⟩:∃s,l[j]?=some s:=⟨_,List.getElem?_eq_getElem hj⟩
    have hgd:l.getD j A2y=s:=by simp[List.getD_eq_getElem?_getD,hs]
    have ia:=B5l hL hs
    have e1:IntKind.i64.wrap ((j:Int)+1)=((j+1:Nat):Int):=A0k (by omega) (by omega)
    have hs1:=C9k l hls j (Nat.le_of_lt hj)
    have hs2:=hls s (List.mem_of_getElem? hs)
    unfold cap at hs1 hs2
    have hs3:j*(1000000000000+1)<=256*(1000000000000+1):=Nat.mul_le_mul_right _ (by omega)
    by_cases h0:0<j
    ·have js:A4f l (j+1)=(A4f l j++amp)++s:=by simp only[A4f,if_pos h0,hgd]
     have hsa:(A4f l j++amp).size=(A4f l j).size+1:=by rw[ByteArray.size_append];rfl
     have a1:∀Φ H nx,A0l Φ H nx (.bin false .add none) [.t (sv (A4f l j)),.t (sv amp)]=some (.t (sv (A4f l j++amp)),H,nx):=fun Φ H nx=>C3e _ _ _ _ (by have:amp.size=1:=rfl;omega)
     have a2:∀Φ H nx,A0l Φ H nx (.bin false .add none) [.t (sv (A4f l j++amp)),.t (sv s)]=some (.t (sv ((A4f l j++amp)++s)),H,nx):=fun Φ H nx=>C3e _ _ _ _ (by omega)
     simp -implicitDefEqProofs [D9v,hj,hL.len,h0,a1,ia,A0f,a2,e1]
     exact C6h (by omega) (by simp -implicitDefEqProofs [js,under])
    ·have js:A4f l (j+1)=A4f l j++s:=by simp only[A4f,if_neg h0,hgd]
     have a2:∀Φ H nx,A0l Φ H nx (.bin false .add none) [.t (sv (A4f l j)),.t (sv s)]=some (.t (sv (A4f l j++s)),H,nx):=fun Φ H nx=>C3e _ _ _ _ (by omega)
     simp -implicitDefEqProofs [D9v,hj,hL.len,h0,ia,A0f,a2,e1]
     exact C6h (by omega) (by simp -implicitDefEqProofs [js,under])
   ·refine A0c D1k ?_
    simp -implicitDefEqProofs [D9v,hL.len]
    exact Next.mk () trivial (C6h (by omega) (by simp -implicitDefEqProofs [D9v,under]))
  ·rintro _ -
   refine A0c D1k ?_
   simp -implicitDefEqProofs [D9v]
structure Co where
 name:Str
 code:List W
def eCo:Enc Co:=⟨2,fun x=>[sv x.name,encB x.code],fun _=>rfl,by omega,fun a b h=>by
 obtain⟨a1,a2⟩:=a
 obtain⟨b1,b2⟩:=b
 injection h with h1 h2
 injection h2 with h2 _
 have e:=A0x a2
 simp only at h2
 rw[h2,A0x]at e
 injection e with e
 injection h1 with h1
 injection h1 with h1
 have h1:a1=b1:=h1
 simp[h1,e]⟩
def A2d (a b:Co):Bool:=decide (cnt b.code<cnt a.code)||(decide (cnt a.code=cnt b.code)&&C0t a.name b.name)
theorem E3s {a b:Co} (ha:a.code.length<=1000) (hb:b.code.length<=1000):A0y Try.prog G 106 [.ag (eCo.enc a),.ag (eCo.enc b)] (· = bv (A2d a b)):=by
 have ok:A1o Try.prog G [(133,gB1 fCnt)]:=.cons (F5m E3e) .nil
 have e1:gB1 fCnt [encB a.code]=some (fCnt a.code):=D9g (A0x a.code) ha
 have e2:gB1 fCnt [encB b.code]=some (fCnt b.code):=D9g (A0x b.code) hb
 refine C5d.runs (ok.ctx A1w) rfl ?_
 by_cases h1:cnt b.code<cnt a.code
 ·simp -implicitDefEqProofs [A7w,eCo,A0q,A0f,e1,e2,fCnt,A2d,h1]
 ·by_cases h2:cnt a.code=cnt b.code
  ·simp -implicitDefEqProofs [A7w,eCo,A0q,A0f,e1,e2,fCnt,A2d,h1,h2]
  ·have h2':((cnt a.code:Int)==(cnt b.code:Int))=false:=by rw[beq_eq_false_iff_ne];omega
   simp -implicitDefEqProofs [A7w,eCo,A0q,A0f,e1,e2,fCnt,A2d,h1,h2,h2']
end Go.Proofs.Ytbiadmfmjnoecaa
