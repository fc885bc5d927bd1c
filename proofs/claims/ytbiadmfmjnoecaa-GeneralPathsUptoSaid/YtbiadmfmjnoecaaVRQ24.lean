/-
 Auxiliary facts. No statement of the program stands here.
-/
import Derived.Test.YtbiadmfmjnoecaaVRQ23
namespace Go.Proofs.Ytbiadmfmjnoecaa
set_option linter.unusedSimpArgs false
set_option linter.unusedVariables false
open Go Go.Abs
theorem B4p {t:T} {l:List Str} (h:IsS eStr t l) {i:Nat} {x:Str} (hx:l[i]?=some x):A1q 1 (.t t) (.t (iv (i:Int)))=some (.t (.pt (sv x::rest eStr l i))):=h.iaddr hx .i64
theorem B5w {next:Str->List Str->List Str} {In:Str->Prop} (hk:∀s todo,In s->todo.Nodup->(∀u∈todo,In u)->(next s todo).Nodup/\∀u∈next s todo,In u) :
  ∀(f i:Nat) (todo:List Str),todo.Nodup->(∀u∈todo,In u)->(B3y next f i todo).Nodup/\∀u∈B3y next f i todo,In u
 | 0,i,todo,h1,h2=>⟨h1,h2⟩
 | f+1,i,todo,h1,h2=>by
  simp only[B3y]
  split
  ·exact⟨h1,h2⟩
  ·rename_i s hs
   obtain⟨h3,h4⟩:=hk s todo (h2 s (List.mem_of_getElem? hs)) h1 h2
   exact B5w hk f (i+1) _ h3 h4
theorem D9j {d:List TD} (hg:Good d) {s:Str} (hs:∃x∈d,x.name=s):(A6h d s).Nodup/\∀u∈A6h d s,∃x∈d,x.name=u:=by
 refine B5w (In:=fun u=>∃x∈d,x.name=u) (fun u todo hu h1 h2=>?_) _ _ _ (by simp) (by simpa using hs)
 obtain⟨p,x,hp,hx,hxs,hidx,hfd⟩:=hg.find hu
 have hsup:D9i d u=x.ss:=by unfold D9i;rw[hidx,hx];rfl
 have:=A9v h1 h2 (fun s hs=>hg.decl (List.mem_of_getElem? hx) hs) x.ss.length (Nat.le_refl _)
 have e:A3k x.ss todo x.ss.length=B1c d u todo:=by unfold A3k B1c;rw[List.take_length,hsup]
 rw[e]at this
 exact⟨this.nodup,this.mem⟩
theorem D9k {d:List TD} {s:Str} (hs:∃x∈d,x.name=s):(A4w d s).Nodup/\∀u∈A4w d s,∃x∈d,x.name=u:=by
 refine B5w (In:=fun u=>∃x∈d,x.name=u) (fun u todo hu h1 h2=>?_) _ _ _ (by simp) (by simpa using hs)
 have:=A5k u h1 h2 d.length (Nat.le_refl _)
 rw[A9d]at this
 exact⟨this.nodup,this.mem⟩
theorem B4q {d:List TD} {s:Str} (h:¬A6f d s<0):∃x∈d,x.name=s:=by
 unfold A6f at h
 split at h
 ·rename_i hi
  obtain⟨x,hx,e⟩:=B5v hi
  exact⟨x,List.mem_of_getElem? hx,e⟩
 ·exact absurd (by decide) h
theorem C0p (l:List Str):(C4k l).length<=l.length:=by
 rw[<-C8k];exact A9u l l.length
theorem F6o {d:List TD} (hg:Good d) (s:Str):(C8m d s).length<=d.length:=by
 unfold C8m
 split
 ·simp
 ·rename_i h
  obtain⟨h1,h2⟩:=D9j hg (B4q h)
  exact Nat.le_trans (C0p _) (B2l h1 h2)
theorem F6p {d:List TD} (s:Str):(below d s).length<=d.length:=by
 unfold below
 split
 ·simp
 ·rename_i h
  obtain⟨h1,h2⟩:=D9k (B4q h)
  exact Nat.le_trans (C0p _) (B2l h1 h2)
theorem D5g {l:List Str} {s u:Str}:u∈put l s ↔ u∈l\/u=s:=by
 unfold put
 simp only
 split
 ·rename_i h
  constructor
  ·exact .inl
  ·rintro(h1 | rfl)
   ·exact h1
   ·exact List.mem_of_getElem? h
 ·constructor
  ·intro h
   rcases List.mem_append.1 h with h | h
   ·rcases List.mem_append.1 h with h | h
    ·exact .inl (List.mem_of_mem_take h)
    ·exact .inr (by simpa using h)
   ·exact .inl (List.mem_of_mem_drop h)
  ·rintro(h1 | rfl)
   ·rw[<-List.take_append_drop (l.findIdx fun x=>!C0h x s) l]at h1
    rcases List.mem_append.1 h1 with h1 | h1
    ·exact List.mem_append_left _ (List.mem_append_left _ h1)
    ·exact List.mem_append_right _ h1
   ·exact List.mem_append_left _ (List.mem_append_right _ (by simp))
theorem D5h {l:List Str}:∀{acc:List Str} {u:Str},u∈l.foldl put acc ↔ u∈acc\/u∈l:=by
 induction l with
 | nil=>intro acc u;simp
 | cons x l ih=>
  intro acc u
  rw[List.foldl_cons,ih,D5g,List.mem_cons]
  constructor
  ·rintro((h | h) | h)
   ·exact .inl h
   ·exact .inr (.inl h)
   ·exact .inr (.inr h)
  ·rintro(h | h | h)
   ·exact .inl (.inl h)
   ·exact .inl (.inr h)
   ·exact .inr h
theorem B5x {l:List Str} {u:Str}:u∈C4k l ↔ u∈l:=by
 unfold C4k
 rw[D5h];simp
def E3h (d:List TD) (out:List Str) (s:Str):List Str:=if 0<=A6f d s then put out s else out
def A9w (d:List TD) (l:List Str) (j:Nat):List Str:=(l.take j).foldl (E3h d) []
def decl (d:List TD) (l:List Str):List Str:=l.foldl (E3h d) []
theorem C8n {d:List TD} {l:List Str} {j:Nat} {x:Str} (h:l[j]?=some x):A9w d l (j+1)=E3h d (A9w d l j) x:=by
 unfold A9w
 rw[List.take_add_one,h]
 simp[List.foldl_append]
theorem A8k (d:List TD) (l:List Str):∀j,(A9w d l j).length<=j
 | 0=>by simp[A9w]
 | j+1=>by
  have ih:=A8k d l j
  cases h:l[j]? with
  | none=>
   have:A9w d l (j+1)=A9w d l j:=by unfold A9w;rw[List.take_add_one,h];simp
   rw[this];omega
  | some x=>
   rw[C8n h]
   unfold E3h
   split
   ·have:=B1a (A9w d l j) x;omega
   ·omega
theorem C3a (d:List TD) (l:List Str):A9w d l l.length=decl d l:=by unfold A9w decl;rw[List.take_length]
theorem G2x {d:List TD} {l:List Str} {u:Str} (h:u∈decl d l):u∈l/\∃x∈d,x.name=u:=by
 have key:∀(l:List Str) (acc:List Str),u∈l.foldl (E3h d) acc->u∈acc\/(u∈l/\∃x∈d,x.name=u):=by
  intro l
  induction l with
  | nil=>intro acc h;exact .inl h
  | cons y l ih=>
   intro acc h
   rw[List.foldl_cons]at h
   rcases ih _ h with h | ⟨h,h'⟩
   ·unfold E3h at h
    split at h
    ·rename_i hf
     rcases D5g.1 h with h | rfl
     ·exact .inl h
     ·exact .inr ⟨by simp,B4q (by omega)⟩
    ·exact .inl h
   ·exact .inr ⟨by simp[h],h'⟩
 rcases key l [] h with h | h
 ·cases h
 ·exact h
def S139 (t u:T) (d:List TD) (l:List Str) (j:Nat):A0b:=⟨[(6,.t (iv (j:Int))),(5,.t (A0k eStr (A9w d l j))),(1,.t u),(0,.t t)],[],0,27⟩
theorem D5i {t u:T} {d:List TD} {l:List Str} (ht:IsS eTD t d) (hu:IsS eStr u l) (hdl:d.length<=cap) (hl:l.length<=cap):A0y Try.prog G 139 [t,u] (· = A0k eStr (decl d l)):=by
 have gf:∀s,D5f [t,sv s]=some (iv (A6f d s)):=fun s=>C0n ht s hdl
 unfold cap at hl
 refine B7f.call rfl ?_
 unfold B0i
 refine A0a A2m ?_
 simp -implicitDefEqProofs
 refine A0a A2m ?_
 simp -implicitDefEqProofs
 refine A0s (fun _:Unit=>S139 t u d l l.length) (fun _=>True) (fun _=>rfl) ?_ ?_
 ·refine A0a A2m ?_
  simp -implicitDefEqProofs
  refine A0h ?_
  refine A1b (S139 t u d l) l.length (fun _=>rfl) ?_ rfl ?_ ?_
  ·refine A0c rfl rfl ?_ ?_<;>simp -implicitDefEqProofs [S139,A9w,A0k]
  ·intro j hj
   refine A0d A2m ?_
   obtain⟨s,hs⟩:∃s,l[j]?=some s:=⟨_,List.getElem?_eq_getElem hj⟩
   have e1:IntKind.i64.wrap ((j:Int)+1)=((j+1:Nat):Int):=A0l (by omega) (by omega)
   have ia:=hu.iaddr hs .i64
   simp only[eStr,List.cons_append,List.nil_append]at ia
   have hln:=A8k d l j
   have gp:=C2y (IsS.tree eStr (A9w d l j)) s (by unfold cap;omega)
   have ds:=C8n (d:=d) hs
   unfold E3h at ds
   by_cases z:0<=A6f d s
   ·rw[if_pos z]at ds
    simp -implicitDefEqProofs [S139,hj,hu.len,ia,A0f,tb11,gf,z,gp,e1]
    refine A0c rfl rfl ?_ ?_<;>simp -implicitDefEqProofs [ds]
   ·rw[if_neg z]at ds
    simp -implicitDefEqProofs [S139,hj,hu.len,ia,A0f,tb11,gf,z,e1]
    refine A0c rfl rfl ?_ ?_<;>simp -implicitDefEqProofs [ds]
  ·refine A0d A2m ?_
   simp -implicitDefEqProofs [S139,hu.len]
   exact Next.mk () trivial (A0c rfl rfl (by simp -implicitDefEqProofs) (by simp -implicitDefEqProofs))
 ·rintro _ -
  refine A0d A2m ?_
  simp -implicitDefEqProofs [S139,C3a]
noncomputable def B7j (up all:List Str) (i:Nat):Nat->Bool
 | 0=>true
 | k+1=>B7j up all i k&&(decide (k=i) || !hasS up (all.getD k A2z))
noncomputable def A9e (d:List TD) (all:List Str):Nat->List Str
 | 0=>[]
 | j+1=>A9e d all j++(if B7j (C8m d (all.getD j A2z)) all j all.length then [all.getD j A2z]else [])
noncomputable def A7v (d:List TD) (l:List Str):List Str:=A9e d (decl d l) (decl d l).length
theorem B4r (d:List TD) (all:List Str):∀j,(A9e d all j).length<=j
 | 0=>by simp[A9e]
 | j+1=>by
  have:=B4r d all j
  simp only[A9e,List.length_append]
  split<;>simp<;>omega
theorem D9l {d:List TD} {all:List Str} {u:Str}:∀{j:Nat},j<=all.length->u∈A9e d all j->u∈all
 | 0,_,h=>by simp[A9e]at h
 | j+1,hj,h=>by
  simp only[A9e]at h
  rcases List.mem_append.1 h with h | h
  ·exact D9l (by omega) h
  ·split at h
   ·simp only[List.mem_singleton]at h
    subst h
    simp[List.getD_eq_getElem?_getD,show j<all.length by omega]
   ·cases h
theorem E3i {d:List TD} {l:List Str} {u:Str} (h:u∈A7v d l):u∈l/\∃x∈d,x.name=u:=G2x (D9l (Nat.le_refl _) h)
noncomputable def F6q:List T->Option T:=g2 (tSl eTD) tStr fun d s=>open Classical in if Good d then some (A0k eStr (C8m d s))else none
theorem G2y:GOK Try.prog G 140 F6q:=A6w fun a b x y r ha hb hr=>by
 obtain rfl:b=sv y:=hb
 split at hr
 ·rename_i h;injection hr with hr;subst hr;exact F1o ha h y
 ·cases hr
theorem F6r {t:T} {d:List TD} (ht:IsS eTD t d) (hg:Good d) (s:Str):F6q [t,sv s]=some (A0k eStr (C8m d s)):=
 (A5y (τ:=tSl eTD) (σ:=tStr) ht rfl).trans (if_pos hg)
noncomputable def G7r:List T->Option T:=g2 (tSl eTD) (tSl eStr) fun d l=>if d.length<=cap/\l.length<=cap then some (A0k eStr (decl d l))else none
theorem G7s:GOK Try.prog G 139 G7r:=A6w fun a b x y r ha hb hr=>by
 split at hr
 ·rename_i h;injection hr with hr;subst hr;exact D5i ha hb h.1 h.2
 ·cases hr
theorem G2z {t u:T} {d:List TD} {l:List Str} (ht:IsS eTD t d) (hu:IsS eStr u l) (hdl:d.length<=cap) (hl:l.length<=cap):G7r [t,u]=some (A0k eStr (decl d l)):=
 (A5y (τ:=tSl eTD) (σ:=tSl eStr) ht hu).trans (if_pos ⟨hdl,hl⟩)
noncomputable def tb15:Tbl:=[(140,F6q),(139,G7r),(127,B7g)]
theorem C0q:Ctx Try.prog G (orc tb15):=(A1t.cons G2y (.cons G7s (.cons B5u .nil))).ctx A1u
noncomputable def S132 (t:T) (d:List TD) (all:List Str) (j:Nat):A0b:=⟨[(7,.t (iv (j:Int))),(6,.t (A0k eStr all)),(5,rowP eStr 0 (A9e d all j)),(0,.t t)],rowH eStr 9 0 (A9e d all j),1,56⟩
noncomputable def D9m (t:T) (d:List TD) (up all:List Str) (j k:Nat):A0b:=⟨[(10,.t (iv (k:Int))),(9,.t (bv (B7j up all j k))),(8,.t (A0k eStr up)),(7,.t (iv (j:Int))),(6,.t (A0k eStr all)),(5,rowP eStr 0 (A9e d all j)),(0,.t t)],rowH eStr 9 0 (A9e d all j),1,56⟩
noncomputable def G3a (t:T) (d:List TD) (all:List Str) (j:Nat):A0b:=⟨[(7,.t (iv (j:Int))),(6,.t (A0k eStr all)),(5,rowP eStr 0 (A9e d all (j+1))),(0,.t t)],rowH eStr 9 0 (A9e d all (j+1)),1,56⟩
theorem D9n {t u:T} {d:List TD} {l:List Str} (ht:IsS eTD t d) (hg:Good d) (hu:IsS eStr u l) (hl:l.length<=cap):A0y Try.prog G 132 [t,u] (· = A0k eStr (A7v d l)):=by
 have hdl:=hg.ok.1
 have q1:=G2z ht hu (by unfold cap;omega) hl
 have hz:eStr.z=1:=rfl
 refine C0l.call rfl ?_
 unfold B2f
 refine A0a C0q ?_
 simp -implicitDefEqProofs
 refine A0a C0q ?_
 simp -implicitDefEqProofs
 refine A0a C0q ?_
 simp -implicitDefEqProofs [tb15,q1]
 have hall:(decl d l).length<=cap:=by rw[<-C3a];exact Nat.le_trans (A8k d l l.length) hl
 unfold A7v
 obtain⟨all,ha⟩:∃all,all=decl d l:=⟨_,rfl⟩
 rw[<-ha]at hall ⊢
 unfold cap at hall
 have hA:=IsS.tree eStr all
 refine A0s (fun _:Unit=>S132 t d all all.length) (fun _=>True) (fun _=>rfl) ?_ ?_
 ·refine A0a C0q ?_
  simp -implicitDefEqProofs
  refine A0h ?_
  refine A1b (S132 t d all) all.length (fun _=>rfl) ?_ rfl ?_ ?_
  ·exact A0i (k:=0) (A0j.nil _ _ _ _) (by omega) (by omega) (by simp -implicitDefEqProofs [A9e,rowP,ren,under])
  ·intro j hj
   obtain⟨s,hs⟩:∃s,all[j]?=some s:=⟨_,List.getElem?_eq_getElem hj⟩
   have hgd:all.getD j A2z=s:=by simp[List.getD_eq_getElem?_getD,hs]
   have ia:=B4p hA hs
   have ga:=F6r ht hg s
   have hal:=F6o hg s
   have r0:=A0j.head' eStr 9 0 (A9e d all j)
   have hml:=B4r d all j
   have lp:∀(cs:List T) (c:T),A0f false 1 (rowH eStr 9 0 (A9e d all j)) (.t (.pt (c::cs)))=some (.t c):=fun cs c=>rfl
   refine A0a C0q ?_
   simp -implicitDefEqProofs [S132,hj,hA.len]
   refine A0s (fun _:Unit=>G3a t d all j) (fun _=>True) (fun _=>rfl) ?_ ?_
   ·refine A0h ?_
    refine A0a C0q ?_
    simp -implicitDefEqProofs [ia,lp,tb15,ga]
    refine A0a C0q ?_
    simp -implicitDefEqProofs
    obtain⟨up,hup⟩:∃up,up=C8m d s:=⟨_,rfl⟩
    rw[<-hup]at hal ⊢
    have hU:=IsS.tree eStr up
    refine A0s (fun _:Unit=>D9m t d up all j all.length) (fun _=>True) (fun _=>rfl) ?_ ?_
    ·refine A0a C0q ?_
     simp -implicitDefEqProofs
     refine A0h ?_
     refine A1b (D9m t d up all j) all.length (fun _=>rfl) ?_ rfl ?_ ?_
     ·exact A0i (k:=0) r0 (by omega) (by omega) (by simp -implicitDefEqProofs [B7j,A0g,A0e,ren,under])
     ·intro k hk
      refine A0d C0q ?_
      obtain⟨v,hv⟩:∃v,all[k]?=some v:=⟨_,List.getElem?_eq_getElem hk⟩
      have hgv:all.getD k A2z=v:=by simp[List.getD_eq_getElem?_getD,hv]
      have ib:=B4p hA hv
      have gm:=A6e hU v (by unfold cap;omega)
      have e1:IntKind.i64.wrap ((k:Int)+1)=((k+1:Nat):Int):=A0l (by omega) (by omega)
      have fs:B7j up all j (k+1)=(B7j up all j k&&(decide (k=j) || !hasS up v)):=by simp only[B7j,hgv]
      cases z1:B7j up all j k with
      | false=>
       rw[z1,Bool.false_and]at fs
       simp -implicitDefEqProofs [D9m,hk,hA.len,z1,e1]
       exact A0i (k:=0) r0 (by omega) (by omega) (by simp -implicitDefEqProofs [fs,A0g,A0e,ren,under])
      | true=>
       by_cases z2:k=j
       ·have z2':((k:Int)==(j:Int))=true:=by rw[z2];simp
        rw[z1,decide_eq_true z2]at fs
        simp only[Bool.true_or,Bool.and_self]at fs
        simp -implicitDefEqProofs [D9m,hk,hA.len,z1,z2',e1]
        exact A0i (k:=0) r0 (by omega) (by omega) (by simp -implicitDefEqProofs [fs,A0g,A0e,ren,under])
       ·have z2':((k:Int)==(j:Int))=false:=by rw[beq_eq_false_iff_ne];omega
        rw[z1,decide_eq_false z2]at fs
        simp only[Bool.true_and,Bool.false_or]at fs
        simp -implicitDefEqProofs [D9m,hk,hA.len,z1,z2',ib,lp,tb15,gm,e1]
        exact A0i (k:=0) r0 (by omega) (by omega) (by simp -implicitDefEqProofs [fs,A0g,A0e,ren,under])
     ·refine A0d C0q ?_
      simp -implicitDefEqProofs [D9m,hA.len]
      exact Next.mk () trivial (A0i (k:=0) r0 (by omega) (by omega) (by simp -implicitDefEqProofs [A0g,A0e,ren,under]))
    ·rintro _ -
     refine A0d C0q ?_
     have ms:A9e d all (j+1)=A9e d all j++(if B7j up all j all.length then [s]else []):=by simp only[A9e,hgd,hup]
     cases z:B7j up all j all.length with
     | false=>
      rw[z]at ms
      simp only[Bool.false_eq_true,if_false,List.append_nil]at ms
      simp -implicitDefEqProofs [D9m,z]
      refine Next.mk () trivial ?_
      unfold G3a
      rw[ms]
      exact A0i (k:=0) r0 (by omega) (by omega) (by simp -implicitDefEqProofs [A0g,A0e,ren,under])
     | true=>
      rw[z]at ms
      simp only[if_true]at ms
      have bs:A1p 9 1 [.string ⟨#[]⟩] 1 [(0,.t (sv s))] 1=some (.row 1 0 1 1,.cells 9 [.t (sv s)]):=rfl
      obtain⟨b2,H2,n2,ap2,r2,ne2,_⟩:=A1k (e:=eStr) (ty:=9) (by':=16) (nx:=2) (m:=[s]) (r0.cons (k:=1) (r:=.cells 9 [.t (sv s)]) (by omega)) (A3r (b:=1) (ty:=9) _ (by simp[eStr])) (by simp;omega) (by simp;omega)
      rw[hz]at ap2
      simp -implicitDefEqProofs [D9m,z,ia,lp,bs,ap2]
      refine Next.mk () trivial ?_
      unfold G3a
      rw[ms]
      exact A0i (k:=b2) r2 (by omega) (by omega) (by simp -implicitDefEqProofs [A0g,A0e,ren,under])
   ·rintro _ -
    refine A0d C0q ?_
    have r1:=A0j.head' eStr 9 0 (A9e d all (j+1))
    have e1:IntKind.i64.wrap ((j:Int)+1)=((j+1:Nat):Int):=A0l (by omega) (by omega)
    simp -implicitDefEqProofs [G3a,e1]
    exact A0i (k:=0) r1 (by omega) (by omega) (by simp -implicitDefEqProofs [A0g,A0e,ren,under])
  ·refine A0d C0q ?_
   have r1:=A0j.head' eStr 9 0 (A9e d all all.length)
   simp -implicitDefEqProofs [S132,hA.len]
   exact Next.mk () trivial (A0i (k:=0) r1 (by omega) (by omega) (by simp -implicitDefEqProofs [A0g,A0e,ren,under]))
 ·rintro _ -
  refine A0d C0q ?_
  have tt:=(A0j.head' eStr 9 0 (A9e d all all.length)).toT
  simp -implicitDefEqProofs [S132,tt]
theorem C8o {a b:T} {l m:List W} (ha:decB a=some l) (hb:decB b=some m) (hl:l.length<=1000) (hm:m.length<=1000):A0y Try.prog G 89 [a,b] (· = fAnd l m):=
 (F5r ha hb hl hm).mono fun _ h=>h.trans (congrArg encB (G7h _ _))
theorem D9o {a b:T} {l m:List W} (ha:decB a=some l) (hb:decB b=some m) (hl:l.length<=1000) (hm:m.length<=1000):A0y Try.prog G 81 [a,b] (· = fSub l m):=by
 have ok:A1t Try.prog G [(111,gB2 F5t)]:=.cons (B2y E2s) .nil
 refine C3x.runs (ok.ctx A1u) rfl ?_
 have e1:=B7b (f:=F5t) ha hb hl hm
 have e2:((((A1x (D8o l m)).length:Nat):Int)==0)=subL l m:=by
  unfold subL
  cases h:(A1x (D8o l m)).length<;>simp
  omega
 simp -implicitDefEqProofs [B3q,e1,F5t,fSub,encB,B0r,e2]
theorem E7b {a b:T} {l m:List W} (ha:decB a=some l) (hb:decB b=some m) (hl:l.length<=1000) (hm:m.length<=1000):A0y Try.prog G 130 [a,b] (· = fEq l m):=by
 have ok:A1t Try.prog G [(81,gB2 fSub)]:=.cons (B2y D9o) .nil
 refine C6o.runs (ok.ctx A1u) rfl ?_
 have e1:=B7b (f:=fSub) ha hb hl hm
 have e2:=B7b (f:=fSub) hb ha hm hl
 cases h:subL l m<;>simp -implicitDefEqProofs [B7w,e1,e2,fSub,fEq,h]
theorem F1p (l:List Int):decI (A0k eInt l)=some l:=by
 have:∀l:List Int,l.flatMap eInt.enc=l.map iv:=by
  intro l
  induction l with
  | nil=>rfl
  | cons x l ih=>rw[List.flatMap_cons,ih];rfl
 cases l with
 | nil=>rfl
 | cons x r=>
  show decI (slT eInt (x::r))=_
  unfold slT
  rw[this]
  exact G7o (x::r)
noncomputable def A3z (low all:List Str):Nat->List Int
 | 0=>[]
 | j+1=>A3z low all j++(if hasS low (all.getD j A2z)then [(j:Int)]else [])
theorem B2m (low all:List Str):∀j,(A3z low all j).length<=j
 | 0=>by simp[A3z]
 | j+1=>by
  have:=B2m low all j
  simp only[A3z,List.length_append]
  split<;>simp<;>omega
theorem B1d {low all:List Str} {n:Int}:∀{j:Nat},n∈A3z low all j ↔ ∃i:Nat,i<j/\n=(i:Int)/\hasS low (all.getD i A2z)=true
 | 0=>by simp[A3z]
 | j+1=>by
  simp only[A3z,List.mem_append]
  rw[B1d]
  constructor
  ·rintro(⟨i,h1,h2,h3⟩ | h)
   ·exact⟨i,by omega,h2,h3⟩
   ·split at h
    ·rename_i hh
     simp only[List.mem_singleton]at h
     exact⟨j,by omega,h,hh⟩
    ·cases h
  ·rintro⟨i,h1,h2,h3⟩
   by_cases e:i=j
   ·subst e
    right
    rw[if_pos h3]
    simp[h2]
   ·exact .inl ⟨i,by omega,h2,h3⟩
noncomputable def A4p (d:List TD) (all:List Str) (s:Str):List W:=A1x (fill 64 (A3z (below d s) all all.length) (A3z (below d s) all all.length).length)
theorem D9p (d:List TD) (all:List Str) (s:Str):(A4p d all s).length<=64:=by
 unfold A4p
 have:=A9q (fill 64 (A3z (below d s) all all.length) (A3z (below d s) all all.length).length)
 rw[A8x]at this
 exact this
theorem C0r {d:List TD} {all:List Str} (hl:all.length<=256) (s:Str) (i:Nat):hasL (A4p d all s) i=(decide (i<all.length)&&hasS (below d s) (all.getD i A2z)):=by
 unfold A4p
 have h1:hasL (A1x (fill 64 (A3z (below d s) all all.length) (A3z (below d s) all all.length).length)) i=hasL (fill 64 (A3z (below d s) all all.length) (A3z (below d s) all all.length).length) i:=by
  unfold hasL;rw[B2d]
 rw[h1,E6x 64 _ (fun n hn=>by obtain⟨k,hk,rfl,_⟩:=B1d.1 hn;omega),List.take_length,Bool.eq_iff_iff,List.any_eq_true,Bool.and_eq_true,decide_eq_true_eq]
 constructor
 ·rintro⟨n,hn,e⟩
  obtain⟨k,hk,rfl,h⟩:=B1d.1 hn
  have:k=i:=by have e2:=of_decide_eq_true e;omega
  subst this
  exact⟨hk,h⟩
 ·rintro⟨h2,h3⟩
  exact⟨(i:Int),B1d.2 ⟨i,h2,rfl,h3⟩,by simp⟩
noncomputable def F6s:List T->Option T:=g2 (tSl eTD) tStr fun d s=>open Classical in if DOK d then some (A0k eStr (below d s))else none
theorem G3b:GOK Try.prog G 126 F6s:=A6w fun a b x y r ha hb hr=>by
 obtain rfl:b=sv y:=hb
 split at hr
 ·rename_i h;injection hr with hr;subst hr;exact F1m ha h y
 ·cases hr
theorem F6t {t:T} {d:List TD} (ht:IsS eTD t d) (hd:DOK d) (s:Str):F6s [t,sv s]=some (A0k eStr (below d s)):=
 (A5y (τ:=tSl eTD) (σ:=tStr) ht rfl).trans (if_pos hd)
noncomputable def tb16:Tbl:=[(126,F6s),(127,B7g),(128,gI ofT)]
theorem E3j:Ctx Try.prog G (orc tb16):=(A1t.cons G3b (.cons B5u (.cons (gI_ok G2s) .nil))).ctx A1u
noncomputable def S103 (low all:List Str) (u:T) (j:Nat):A0b:=⟨[(9,.t (iv (j:Int))),(8,rowP eInt 0 (A3z low all j)),(7,.t (A0k eStr low)),(1,.t u)],rowH eInt 3 0 (A3z low all j),1,37⟩
theorem F6u {t u:T} {d:List TD} {all:List Str} (ht:IsS eTD t d) (hd:DOK d) (hu:IsS eStr u all) (hl:all.length<=256) (s:Str):A0y Try.prog G 103 [t,u,sv s] (· = encB (A4p d all s)):=by
 have hdl:=hd.1
 have gb:=F6t ht hd s
 have hbl:=F6p (d:=d) s
 have hz:eInt.z=1:=rfl
 refine D2y.call rfl ?_
 unfold C2t
 refine A0a E3j ?_
 simp -implicitDefEqProofs
 refine A0a E3j ?_
 simp -implicitDefEqProofs [tb16,gb]
 refine A0a E3j ?_
 simp -implicitDefEqProofs
 unfold A4p
 obtain⟨low,hlow⟩:∃low,low=below d s:=⟨_,rfl⟩
 rw[<-hlow]at hbl ⊢
 have hL:=IsS.tree eStr low
 refine A0s (fun _:Unit=>S103 low all u all.length) (fun _=>True) (fun _=>rfl) ?_ ?_
 ·refine A0a E3j ?_
  simp -implicitDefEqProofs
  refine A0h ?_
  refine A1b (S103 low all u) all.length (fun _=>rfl) ?_ rfl ?_ ?_
  ·exact A0i (k:=0) (A0j.nil _ _ _ _) (by omega) (by omega) (by simp -implicitDefEqProofs [A3z,rowP,ren,under])
  ·intro j hj
   refine A0d E3j ?_
   obtain⟨x,hx⟩:∃x,all[j]?=some x:=⟨_,List.getElem?_eq_getElem hj⟩
   have hgd:all.getD j A2z=x:=by simp[List.getD_eq_getElem?_getD,hx]
   have ia:=B4p hu hx
   have ga:=A6e hL x (by unfold cap;omega)
   have r0:=A0j.head' eInt 3 0 (A3z low all j)
   have hcl:=B2m low all j
   have lp:∀(cs:List T) (c:T),A0f false 1 (rowH eInt 3 0 (A3z low all j)) (.t (.pt (c::cs)))=some (.t c):=fun cs c=>rfl
   have e1:IntKind.i64.wrap ((j:Int)+1)=((j+1:Nat):Int):=A0l (by omega) (by omega)
   have cs:A3z low all (j+1)=A3z low all j++(if hasS low x then [(j:Int)]else []):=by simp only[A3z,hgd]
   cases z:hasS low x with
   | false=>
    rw[z]at cs
    simp only[Bool.false_eq_true,if_false,List.append_nil]at cs
    simp -implicitDefEqProofs [S103,hj,hu.len,ia,lp,tb16,ga,z,e1]
    rw[cs]
    exact A0i (k:=0) r0 (by omega) (by omega) (by simp -implicitDefEqProofs [A0g,A0e,ren,under])
   | true=>
    rw[z]at cs
    simp only[if_true]at cs
    have bs:A1p 3 1 [.int .i64 0] 1 [(0,.t (iv (j:Int)))] 1=some (.row 1 0 1 1,.cells 3 [.t (iv (j:Int))]):=rfl
    obtain⟨b2,H2,n2,ap2,r2,ne2,_⟩:=A1k (e:=eInt) (ty:=3) (by':=8) (nx:=2) (m:=[(j:Int)]) (r0.cons (k:=1) (r:=.cells 3 [.t (iv (j:Int))]) (by omega)) (A3r (b:=1) (ty:=3) _ (by simp[eInt])) (by simp;omega) (by simp;omega)
    rw[hz]at ap2
    simp -implicitDefEqProofs [S103,hj,hu.len,ia,lp,tb16,ga,z,bs,ap2,e1]
    rw[cs]
    exact A0i (k:=b2) r2 (by omega) (by omega) (by simp -implicitDefEqProofs [A0g,A0e,ren,under])
  ·refine A0d E3j ?_
   have r1:=A0j.head' eInt 3 0 (A3z low all all.length)
   simp -implicitDefEqProofs [S103,hu.len]
   exact Next.mk () trivial (A0i (k:=0) r1 (by omega) (by omega) (by simp -implicitDefEqProofs [A0g,A0e,ren,under]))
 ·rintro _ -
  refine A0d E3j ?_
  obtain⟨l,hl'⟩:∃l,l=A3z low all all.length:=⟨_,rfl⟩
  have hcl:=B2m low all all.length
  have hin:l.all inR=true:=by
   rw[List.all_eq_true]
   intro n hn
   rw[hl']at hn
   obtain⟨k,hk,rfl,_⟩:=B1d.1 hn
   simp only[inR,Bool.and_eq_true,decide_eq_true_eq]
   omega
  have ho:ofT l = .tu [encB (A1x (fill 64 l l.length)),.v (.int .i64 0)]:=by unfold ofT;rw[if_pos hin]
  have go:=gI_eq (f:=ofT) (F1p l) (by rw[hl'];omega)
  have tt:=(A0j.head' eInt 3 0 l).toT
  simp -implicitDefEqProofs [S103,<-hl',tt,tb16,go,ho]
def eB:Enc (List W):=⟨1,fun l=>[encB l],fun _=>rfl,by omega,fun a b h=>by
 injection h with h
 have:=A1h a
 rw[h,A1h]at this
 injection this with this
 exact this.symm⟩
theorem ia_B {t:T} {l:List (List W)} (h:IsS eB t l) {i:Nat} {x:List W} (hx:l[i]?=some x):A1q 1 (.t t) (.t (iv (i:Int)))=some (.t (.pt (encB x::rest eB l i))):=h.iaddr hx .i64
def tB:Ty (List W):=⟨fun t l=>t=encB l,fun t a b h h'=>by
 have:=A1h a
 rw[<-h,h',A1h]at this
 injection this with this
 exact this.symm⟩
noncomputable def tb17:Tbl:=[(118,gB2 G7i),(89,gB2 fAnd),(130,gB2 fEq),(81,gB2 fSub),(131,gHas)]
theorem G7t:A1t Try.prog G tb17:=.cons (B2y D8v) (.cons (B2y C8o) (.cons (B2y E7b) (.cons (B2y D9o) (.cons (E2w C7m D4y) .nil))))
theorem F6v:Ctx Try.prog G (orc tb17):=G7t.ctx A1u
theorem F6w (x y:List W) (hx:x.length<=1000) (hy:y.length<=1000):gB2 G7i [encB x,encB y]=some (bv (x==y)):=B7b (A1h x) (A1h y) hx hy
def inB (l:List (List W)) (b:List W):Bool:=l.any fun x=>x==b
def S129 (t:T) (b:List W) (j:Nat):A0b:=⟨[(5,.t (iv (j:Int))),(1,.t (encB b)),(0,.t t)],[],0,18⟩
theorem G7u {t:T} {l:List (List W)} (ht:IsS eB t l) (hl:l.length<=cap) (hs:∀x∈l,x.length<=1000) {b:List W} (hb:b.length<=1000):A0y Try.prog G 129 [t,encB b] (· = bv (inB l b)):=by
 unfold cap at hl
 refine E6y.call rfl ?_
 unfold D5c
 refine A0a F6v ?_
 simp -implicitDefEqProofs
 refine A0s (fun _:Unit=>S129 t b l.length) (fun _=>inB l b=false) (fun _=>rfl) ?_ ?_
 ·refine A0a F6v ?_
  simp -implicitDefEqProofs
  refine A0h ?_
  refine A2o (S129 t b) (fun k=>l.length-k) (fun k=>k<=l.length/\∀(i:Nat) x,i<k->l[i]?=some x->(x==b)=false) 0 (fun _=>rfl) ⟨Nat.zero_le _,fun i s h=>by omega⟩ ?_ rfl ?_
  ·refine A0c rfl rfl ?_ ?_<;>simp -implicitDefEqProofs [S129]
  ·rintro k ⟨hk,hg⟩
   refine A0d F6v ?_
   by_cases hkl:k<l.length
   ·obtain⟨x,hx⟩:∃x,l[k]?=some x:=⟨_,List.getElem?_eq_getElem hkl⟩
    have ia:=ia_B ht hx
    have gs:=F6w x b (hs x (List.mem_of_getElem? hx)) hb
    have e1:IntKind.i64.wrap ((k:Int)+1)=((k+1:Nat):Int):=A0l (by omega) (by omega)
    cases z:x==b with
    | true=>
     have hr:inB l b=true:=by
      unfold inB
      rw[List.any_eq_true]
      exact⟨x,List.mem_of_getElem? hx,z⟩
     rw[z]at gs
     simp -implicitDefEqProofs [S129,hkl,ht.len,ia,A0f,tb17,gs,hr]
    | false=>
     rw[z]at gs
     simp -implicitDefEqProofs [S129,hkl,ht.len,ia,A0f,tb17,gs,e1]
     refine Next.mk (k+1) ⟨⟨by omega,fun i y hi hy=>?_⟩,by omega⟩ (A0c rfl rfl (by simp -implicitDefEqProofs [S129]) (by simp -implicitDefEqProofs [S129]))
     by_cases e:i=k
     ·subst e;rw[hx]at hy;injection hy with hy;subst hy;simpa using z
     ·simpa using hg i y (by omega) hy
   ·have hk':k=l.length:=by omega
    simp -implicitDefEqProofs [S129,hkl,ht.len]
    refine Next.mk () ?_ (A0c rfl rfl (by simp -implicitDefEqProofs [S129,hk']) (by simp -implicitDefEqProofs [S129]))
    unfold inB
    rw[List.any_eq_false]
    intro x hx
    obtain⟨i,hi,e⟩:=List.getElem_of_mem hx
    rw[hg i x (by omega) (by rw[List.getElem?_eq_getElem hi,e])]
    simp
 ·rintro _ hr
  refine A0d F6v ?_
  simp -implicitDefEqProofs [S129,hr]
def andN (x y:List W):List W:=A1x (andL x y)
def A6z (i:Nat) (l:List (List W)) (k:Nat):List (List W):=
 if l.length<=256 then(if(andN (l.getD i []) (l.getD k [])).length=0\/inB l (andN (l.getD i []) (l.getD k []))=true then l else l++[andN (l.getD i []) (l.getD k [])])else l
def A3v (i:Nat) (l:List (List W)):Nat->List (List W)
 | 0=>l
 | k+1=>A6z i (A3v i l k) k
def famF:Nat->Nat->List (List W)->List (List W)
 | 0,_,l=>l
 | f+1,i,l=>if i<l.length/\l.length<=256 then famF f (i+1) (A3v i l i)else l
def A1s (codes:List (List W)):List (List W):=famF 300 0 codes
structure Fam (l m:List (List W)):Prop where
 len:l.length<=257->m.length<=257
 size:(∀x∈l,x.length<=64)->∀x∈m,x.length<=64
 pre:∃r,m=l++r
theorem Fam.refl (l:List (List W)):Fam l l:=⟨fun h=>h,fun h=>h,[],by simp⟩
theorem Fam.trans {l m n:List (List W)} (h:Fam l m) (h':Fam m n):Fam l n:=by
 obtain⟨r,e⟩:=h.pre
 obtain⟨r',e'⟩:=h'.pre
 exact⟨fun x=>h'.len (h.len x),fun x=>h'.size (h.size x),r++r',by rw[e',e,List.append_assoc]⟩
theorem D5j (x y:List W):(andN x y).length<=x.length:=by
 unfold andN
 have h1:=A9q (andL x y)
 have h2:(andL x y).length<=x.length:=by simp[andL];omega
 omega
theorem C8p (i:Nat) (l:List (List W)) (k:Nat):Fam l (A6z i l k):=by
 unfold A6z
 split
 ·rename_i hl
  split
  ·exact Fam.refl l
  ·refine⟨fun _=>by simp;omega,fun hs x hx=>?_,_,rfl⟩
   rcases List.mem_append.1 hx with hx | hx
   ·exact hs x hx
   ·simp only[List.mem_singleton]at hx
    subst hx
    refine Nat.le_trans (D5j _ _) ?_
    by_cases hi:i<l.length
    ·have e:l.getD i []=l[i]:=by simp[List.getD_eq_getElem?_getD,hi]
     rw[e]
     exact hs _ (List.getElem_mem hi)
    ·have e:l.getD i []=[]:=by simp[List.getD_eq_getElem?_getD,hi]
     rw[e];simp
 ·exact Fam.refl l
theorem B1e (i:Nat) (l:List (List W)):∀k,Fam l (A3v i l k)
 | 0=>Fam.refl l
 | k+1=>(B1e i l k).trans (C8p i _ k)
theorem D3f {i:Nat} {l:List (List W)} {k:Nat} (h:¬(A3v i l k).length<=256):∀n,A3v i l (k+n)=A3v i l k
 | 0=>rfl
 | n+1=>by
  have ih:=D3f h n
  show A6z i (A3v i l (k+n)) (k+n)=_
  rw[ih]
  unfold A6z
  rw[if_neg h]
theorem B5y:∀(f i:Nat) (l:List (List W)),Fam l (famF f i l)
 | 0,i,l=>Fam.refl l
 | f+1,i,l=>by
  unfold famF
  split
  ·exact(B1e i l i).trans (B5y f (i+1) _)
  ·exact Fam.refl l
noncomputable def gIn:List T->Option T:=g2 (tSl eB) tB fun l b=>open Classical in if l.length<=cap/\(∀x∈l,x.length<=1000)/\b.length<=1000 then some (bv (inB l b))else none
theorem in_ok:GOK Try.prog G 129 gIn:=A6w fun a b x y r ha hb hr=>by
 obtain rfl:b=encB y:=hb
 split at hr
 ·rename_i h;injection hr with hr;subst hr;exact G7u ha h.1 h.2.1 h.2.2
 ·cases hr
theorem H0z {t:T} {l:List (List W)} (ht:IsS eB t l) (hl:l.length<=cap) (hs:∀x∈l,x.length<=1000) {b:List W} (hb:b.length<=1000):gIn [t,encB b]=some (bv (inB l b)):=
 (A5y (τ:=tSl eB) (σ:=tB) (y:=b) ht rfl).trans (if_pos ⟨hl,hs,hb⟩)
noncomputable def tb18:Tbl:=[(89,gB2 fAnd),(129,gIn)]
theorem D5k:Ctx Try.prog G (orc tb18):=(A1t.cons (B2y C8o) (.cons in_ok .nil)).ctx A1u
def S104 (a:Nat×List (List W)):A0b:=⟨[(4,.t (iv (a.1:Int))),(3,rowP eB 0 a.2)],rowH eB 101 0 a.2,1,54⟩
def G3c (l:List (List W)):A0b:=⟨[(3,rowP eB 0 l)],rowH eB 101 0 l,1,54⟩
def D5l (i:Nat) (l:List (List W)) (k:Nat):A0b:=⟨[(5,.t (iv (k:Int))),(4,.t (iv (i:Int))),(3,rowP eB 0 (A3v i l k))],rowH eB 101 0 (A3v i l k),1,54⟩
theorem E3k {t:T} {codes:List (List W)} (ht:IsS eB t codes) (h0:0<codes.length) (hl:codes.length<=256) (hs:∀x∈codes,x.length<=64):A0y Try.prog G 104 [t] (· = A0k eB (A1s codes)):=by
 have hz:eB.z=1:=rfl
 refine C4f.call rfl ?_
 unfold B4g
 refine A0a D5k ?_
 simp -implicitDefEqProofs
 have bs0:A1p 101 1 [.slice none 0 0] 0 [] 0=some (.row 0 0 0 1,.cells 101 []):=rfl
 have ap0:appM 101 1 24 [(0,.cells 101 [])] 1 (.row 0 0 0 1) (.t t)=some (.row 1 0 codes.length 1,[(1,A1g eB 101 codes)],2):=by
  have hsrc:=A3f (H:=[(0,Row.cells 101 [])]) ht
  rw[hz]at hsrc
  have b1:codes.length*24<=140737488355328:=by omega
  have b2:codes.length<=9223372036854775807:=by omega
  simp[appM,hsrc,A1g,b1,b2]
 refine A0a D5k ?_
 simp -implicitDefEqProofs [bs0,ap0]
 refine A0s (fun _:Unit=>G3c (A1s codes)) (fun _=>True) (fun _=>rfl) ?_ ?_
 ·refine A0a D5k ?_
  simp -implicitDefEqProofs
  refine A0h ?_
  refine A2o S104 (fun a=>300-a.1) (fun a=>a.1<=257/\Fam codes a.2/\famF (300-a.1) a.1 a.2=A1s codes) (0,codes) (fun _=>rfl) ⟨by simp,Fam.refl _,rfl⟩ ?_ rfl ?_
  ·refine A0i (l:=codes) (k:=1) (.inr (by simp)) (by omega) (by omega) ?_
   cases codes with
   | nil=>simp at h0
   | cons x r=>simp -implicitDefEqProofs [rowP,ren,under,eB]
  ·rintro⟨i,l⟩ ⟨hi,hf,he⟩
   simp only at hi hf he
   have hll:l.length<=257:=hf.len (by omega)
   have hsl:=hf.size hs
   have r0:=A0j.head' eB 101 0 l
   by_cases hc:i<l.length/\l.length<=256
   ·have hc1:=hc.1
    have hc2:=hc.2
    have hc2':(l.length:Int)<=256:=by omega
    refine A0a D5k ?_
    simp -implicitDefEqProofs [S104,A2f,hc1,hc2,hc2']
    refine A0s (fun _:Unit=>S104 (i,A3v i l i)) (fun _=>True) (fun _=>rfl) ?_ ?_
    ·refine A0h ?_
     refine A0a D5k ?_
     simp -implicitDefEqProofs
     refine A0h ?_
     refine A2o (D5l i l) (fun k=>i-k) (fun k=>k<=i) 0 (fun _=>rfl) (Nat.zero_le _) ?_ rfl ?_
     ·exact A0i (k:=0) r0 (by omega) (by omega) (by simp -implicitDefEqProofs [A3v,A0g,A0e,ren,under])
     ·intro k hk
      have hfk:=B1e i l k
      have hlk:(A3v i l k).length<=257:=hfk.len hll
      have hsk:=hfk.size hsl
      have rk:=A0j.head' eB 101 0 (A3v i l k)
      have tt:=rk.toT
      refine A0d D5k ?_
      by_cases hki:k<i
      ·by_cases hc3:(A3v i l k).length<=256
       ·have hc3':((A3v i l k).length:Int)<=256:=by omega
        obtain⟨r,hr⟩:=hfk.pre
        have hle:l.length<=(A3v i l k).length:=by rw[hr];simp
        obtain⟨x,hx⟩:∃x,(A3v i l k)[i]?=some x:=⟨_,List.getElem?_eq_getElem (by omega)⟩
        obtain⟨y,hy⟩:∃y,(A3v i l k)[k]?=some y:=⟨_,List.getElem?_eq_getElem (by omega)⟩
        have hxl:=hsk x (List.mem_of_getElem? hx)
        have hyl:=hsk y (List.mem_of_getElem? hy)
        have ix:=A1r (e:=eB) (b:=0) hx .i64
        have iy:=A1r (e:=eB) (b:=0) hy .i64
        have lx:=rk.load (off:=0) (c:=encB x) hx rfl
        have ly:=rk.load (off:=0) (c:=encB y) hy rfl
        rw[hz,Nat.mul_one]at ix iy
        rw[hz,Nat.mul_one,Nat.add_zero]at lx ly
        have ga:gB2 fAnd [encB x,encB y]=some (encB (andN x y)):=B7b (A1h x) (A1h y) (by omega) (by omega)
        have hbl:(andN x y).length<=1000:=Nat.le_trans (D5j x y) (by omega)
        have gi:=H0z (IsS.tree eB (A3v i l k)) (by unfold cap;omega) (fun z hz=>Nat.le_trans (hsk z hz) (by omega)) hbl
        have e1:IntKind.i64.wrap ((k:Int)+1)=((k+1:Nat):Int):=A0l (by omega) (by omega)
        have le:B0r (.t (encB (andN x y)))=some (.t (iv ((andN x y).length:Int))):=rfl
        have fs:A3v i l (k+1)=if(andN x y).length=0\/inB (A3v i l k) (andN x y)=true then A3v i l k else A3v i l k++[andN x y]:=by
         show A6z i (A3v i l k) k=_
         unfold A6z
         have e3:(A3v i l k).getD i []=x:=by simp[List.getD_eq_getElem?_getD,hx]
         have e4:(A3v i l k).getD k []=y:=by simp[List.getD_eq_getElem?_getD,hy]
         rw[if_pos hc3,e3,e4]
        by_cases z1:(andN x y).length=0
        ·have z1':¬(0:Int)<((andN x y).length:Int):=by omega
         have z1n:¬0<(andN x y).length:=by omega
         rw[if_pos (.inl z1)]at fs
         simp -implicitDefEqProofs [D5l,hki,A2f,hc3,hc3',ix,iy,lx,ly,tb18,ga,le,z1',z1n,e1]
         refine Next.mk (k+1) ⟨by omega,by omega⟩ ?_
         unfold D5l
         rw[fs]
         exact A0i (k:=0) rk (by omega) (by omega) (by simp -implicitDefEqProofs [A0g,A0e,ren,under])
        ·have z1':(0:Int)<((andN x y).length:Int):=by omega
         have z1n:0<(andN x y).length:=by omega
         cases z2:inB (A3v i l k) (andN x y)with
         | true=>
          rw[if_pos (.inr z2)]at fs
          simp -implicitDefEqProofs [D5l,hki,A2f,hc3,hc3',ix,iy,lx,ly,tb18,ga,le,z1',z1n,tt,gi,z2,e1]
          refine Next.mk (k+1) ⟨by omega,by omega⟩ ?_
          unfold D5l
          rw[fs]
          exact A0i (k:=0) rk (by omega) (by omega) (by simp -implicitDefEqProofs [A0g,A0e,ren,under])
         | false=>
          rw[if_neg (by rw[z2];simp[z1])]at fs
          have bs:A1p 101 1 [.slice none 0 0] 1 [(0,.t (encB (andN x y)))] 1=some (.row 1 0 1 1,.cells 101 [.t (encB (andN x y))]):=rfl
          obtain⟨b2,H2,n2,ap2,r2,ne2,_⟩:=A1k (e:=eB) (ty:=101) (by':=24) (nx:=2) (m:=[andN x y]) (rk.cons (k:=1) (r:=.cells 101 [.t (encB (andN x y))]) (by omega)) (A3r (b:=1) (ty:=101) _ (by simp[eB])) (by simp;omega) (by simp;omega)
          rw[hz]at ap2
          simp -implicitDefEqProofs [D5l,hki,A2f,hc3,hc3',ix,iy,lx,ly,tb18,ga,le,z1',z1n,tt,gi,z2,bs,ap2,e1]
          refine Next.mk (k+1) ⟨by omega,by omega⟩ ?_
          unfold D5l
          rw[fs]
          exact A0i (k:=b2) r2 (by omega) (by omega) (by simp -implicitDefEqProofs [A0g,A0e,ren,under])
       ·have hc3':¬((A3v i l k).length:Int)<=256:=by omega
        have hst:=D3f hc3 (i-k)
        rw[show k+(i-k)=i by omega]at hst
        simp -implicitDefEqProofs [D5l,hki,A2f,hc3,hc3']
        refine Next.mk () trivial ?_
        unfold S104
        rw[hst]
        exact A0i (k:=0) rk (by omega) (by omega) (by simp -implicitDefEqProofs [A0g,A0e,ren,under])
      ·obtain rfl:i=k:=by omega
       simp -implicitDefEqProofs [D5l,hki]
       refine Next.mk () trivial ?_
       unfold S104
       exact A0i (k:=0) rk (by omega) (by omega) (by simp -implicitDefEqProofs [A0g,A0e,ren,under])
    ·rintro _ -
     refine A0d D5k ?_
     have rk:=A0j.head' eB 101 0 (A3v i l i)
     have e1:IntKind.i64.wrap ((i:Int)+1)=((i+1:Nat):Int):=A0l (by omega) (by omega)
     simp -implicitDefEqProofs [S104,e1]
     refine Next.mk (i+1,A3v i l i) ⟨⟨by simp only;omega,hf.trans (B1e i l i),?_⟩,by simp only;omega⟩ (A0i (k:=0) rk (by omega) (by omega) (by simp -implicitDefEqProofs [A0g,A0e,ren,under]))
     rw[<-he,show 300-i=(300-(i+1))+1 by omega]
     simp only[famF,if_pos hc]
   ·have hfin:A1s codes=l:=by
     rw[<-he]
     cases hh:300-i with
     | zero=>rfl
     | succ f=>simp only[famF,if_neg hc]
    refine A0d D5k ?_
    by_cases hc1:i<l.length
    ·have hc2:¬l.length<=256:=fun h=>hc ⟨hc1,h⟩
     have hc2':¬(l.length:Int)<=256:=by omega
     simp -implicitDefEqProofs [S104,A2f,hc1,hc2,hc2']
     refine Next.mk () trivial ?_
     unfold G3c
     rw[hfin]
     exact A0i (k:=0) r0 (by omega) (by omega) (by simp -implicitDefEqProofs [A0g,A0e,ren,under])
    ·simp -implicitDefEqProofs [S104,A2f,hc1]
     refine Next.mk () trivial ?_
     unfold G3c
     rw[hfin]
     exact A0i (k:=0) r0 (by omega) (by omega) (by simp -implicitDefEqProofs [A0g,A0e,ren,under])
 ·rintro _ -
  refine A0d D5k ?_
  have tt:=(A0j.head' eB 101 0 (A1s codes)).toT
  simp -implicitDefEqProofs [G3c,tt]
theorem C8q {α:Type} {e:Enc α} {ty:Nat} {H:Heap} {b:Nat} {l:List α} (h:A0j e ty H b l):frzP H [b] (rowP e b l) = .t (A0k e l):=by
 unfold frzP
 rw[h.toT]
 cases l<;>simp[B1y]
theorem B8t (H:Heap) (F:List Nat) (x:T):frzP H F (.t x) = .t x:=by simp[frzP]
noncomputable def C0s:List T->Option T:=g2 (tSl eTD) (tSl eStr) fun d l=>open Classical in if Good d/\l.length<=cap then some (A0k eStr (A7v d l))else none
theorem D3g:GOK Try.prog G 132 C0s:=A6w fun a b x y r ha hb hr=>by
 split at hr
 ·rename_i h;injection hr with hr;subst hr;exact D9n ha h.1 hb h.2
 ·cases hr
theorem C8r {t u:T} {d:List TD} {l:List Str} (ht:IsS eTD t d) (hg:Good d) (hu:IsS eStr u l) (hl:l.length<=cap):C0s [t,u]=some (A0k eStr (A7v d l)):=
 (A5y (τ:=tSl eTD) (σ:=tSl eStr) ht hu).trans (if_pos ⟨hg,hl⟩)
noncomputable def tb19:Tbl:=[(130,gB2 fEq),(131,gHas),(132,C0s)]
theorem D0v:Ctx Try.prog G (orc tb19):=(A1t.cons (B2y E7b) (.cons (E2w C7m D4y) (.cons D3g .nil))).ctx A1u
def eqS (x y:List W):Bool:=subL x y&&subL y x
def A5l (all:List Str) (b:List W):Nat->List Str
 | 0=>[]
 | j+1=>A5l all b j++(if hasL b j then [all.getD j A2z]else [])
theorem B2n (all:List Str) (b:List W):∀j,(A5l all b j).length<=j
 | 0=>by simp[A5l]
 | j+1=>by
  have:=B2n all b j
  simp only[A5l,List.length_append]
  split<;>simp<;>omega
theorem D3h {all:List Str} {b:List W} {u:Str}:∀{j:Nat},j<=all.length->u∈A5l all b j->u∈all
 | 0,_,h=>by simp[A5l]at h
 | j+1,hj,h=>by
  simp only[A5l]at h
  rcases List.mem_append.1 h with h | h
  ·exact D3h (by omega) h
  ·split at h
   ·simp only[List.mem_singleton]at h
    subst h
    simp[List.getD_eq_getElem?_getD,show j<all.length by omega]
   ·cases h
abbrev amp:Str:=⟨#[38]⟩
def A4h (l:List Str):Nat->Str
 | 0=>A2z
 | j+1=>(if 0<j then A4h l j++amp else A4h l j)++l.getD j A2z
theorem C8s (l:List Str) (hs:∀s∈l,s.size<=cap):∀j,j<=l.length->(A4h l j).size<=j*(cap+1)
 | 0,_=>by simp[A4h];rfl
 | j+1,hj=>by
  have ih:=C8s l hs j (by omega)
  have h1:(l.getD j A2z).size<=cap:=by
   have e:l.getD j A2z=l[j]:=by simp[List.getD_eq_getElem?_getD,show j<l.length by omega]
   rw[e];exact hs _ (List.getElem_mem _)
  simp only[A4h]
  rw[Nat.succ_mul]
  split
  ·simp only[ByteArray.size_append]
   have:amp.size=1:=rfl
   omega
  ·simp only[ByteArray.size_append]
   omega
noncomputable def B1f (d:List TD) (all:List Str) (codes:List (List W)) (b:List W):Str:=
 if codes.findIdx (fun x=>eqS x b)<codes.length then all.getD (codes.findIdx fun x=>eqS x b) A2z
 else A4h (A7v d (A5l all b all.length)) (A7v d (A5l all b all.length)).length
def H1a (codes:List (List W)) (b:List W):Prop:=codes.findIdx (fun x=>eqS x b)=codes.length
def S105 (t u c:T) (all:List Str) (b:List W) (j:Nat):A0b:=⟨[(10,.t (iv (j:Int))),(9,rowP eStr 0 (A5l all b j)),(3,.t (encB b)),(2,.t c),(1,.t u),(0,.t t)],rowH eStr 9 0 (A5l all b j),1,59⟩
def D9q (l:List Str) (j:Nat):A0b:=⟨[(12,.t (iv (j:Int))),(11,.t (sv (A4h l j))),(9,.t (A0k eStr l))],[],1,59⟩
theorem F1q {t u c:T} {d:List TD} {all:List Str} {codes:List (List W)} (ht:IsS eTD t d) (hg:Good d) (hu:IsS eStr u all) (hc:IsS eB c codes) (hlen:codes.length=all.length) (hl:all.length<=256)
  (hsz:∀s∈all,s.size<=cap) (hcs:∀x∈codes,x.length<=64) {b:List W} (hb:b.length<=64):A0y Try.prog G 105 [t,u,c,encB b] (· = sv (B1f d all codes b)):=by
 have hz:eStr.z=1:=rfl
 refine D2z.call rfl ?_
 unfold C2u
 refine A0a D0v ?_
 simp -implicitDefEqProofs
 refine A0a D0v ?_
 simp -implicitDefEqProofs
 refine A0s (fun _:Unit=>S105 t u c all b all.length) (fun _=>H1a codes b) (fun _=>rfl) ?_ ?_
 ·refine A0a D0v ?_
  simp -implicitDefEqProofs
  refine A0h ?_
  refine A2o (S105 t u c all b) (fun k=>all.length-k) (fun k=>k<=codes.findIdx fun x=>eqS x b) 0 (fun _=>rfl) (Nat.zero_le _) ?_ rfl ?_
  ·exact A0i (k:=0) (A0j.nil _ _ _ _) (by omega) (by omega) (by simp -implicitDefEqProofs [A5l,rowP,ren,under])
  ·intro j hj
   have hle:=A4o (fun x=>eqS x b) codes
   have r0:=A0j.head' eStr 9 0 (A5l all b j)
   refine A0d D0v ?_
   by_cases hjl:j<all.length
   ·obtain⟨x,hx⟩:∃x,codes[j]?=some x:=⟨_,List.getElem?_eq_getElem (by omega)⟩
    obtain⟨s,hs⟩:∃s,all[j]?=some s:=⟨_,List.getElem?_eq_getElem hjl⟩
    have hgd:all.getD j A2z=s:=by simp[List.getD_eq_getElem?_getD,hs]
    have ia:=ia_B hc hx
    have ib:=B4p hu hs
    have ge:gB2 fEq [encB x,encB b]=some (bv (eqS x b)):=B7b (A1h x) (A1h b) (Nat.le_trans (hcs x (List.mem_of_getElem? hx)) (by omega)) (by omega)
    have gh:=E6v (A1h b) j (by omega)
    have e1:IntKind.i64.wrap ((j:Int)+1)=((j+1:Nat):Int):=A0l (by omega) (by omega)
    have hpl:=B2n all b j
    have lp:∀(cs:List T) (c:T),A0f false 1 (rowH eStr 9 0 (A5l all b j)) (.t (.pt (c::cs)))=some (.t c):=fun cs c=>rfl
    cases z1:eqS x b with
    | true=>
     have hidx:codes.findIdx (fun x=>eqS x b)=j:=by
      rcases Nat.lt_or_ge j (codes.findIdx fun x=>eqS x b)with h | h
      ·have:=A2w (p:=fun x=>eqS x b) h hx
       rw[z1]at this;cases this
      ·omega
     have hn:B1f d all codes b=s:=by
      unfold B1f
      rw[hidx,if_pos (by omega),hgd]
     rw[z1]at ge
     simp -implicitDefEqProofs [S105,hjl,hu.len,ia,lp,tb19,ge,ib,hn]
    | false=>
     have hlt:j<codes.findIdx fun x=>eqS x b:=by
      rcases Nat.lt_or_ge j (codes.findIdx fun x=>eqS x b)with h | h
      ·exact h
      ·have hej:codes.findIdx (fun x=>eqS x b)=j:=by omega
       obtain⟨y,hy,hp⟩:=A2h (p:=fun x=>eqS x b) (l:=codes) (by omega)
       rw[hej,hx]at hy
       injection hy with hy
       subst hy
       rw[z1]at hp;cases hp
     rw[z1]at ge
     have ps:A5l all b (j+1)=A5l all b j++(if hasL b j then [s]else []):=by simp only[A5l,hgd]
     cases z2:hasL b j with
     | false=>
      rw[z2]at ps gh
      simp only[Bool.false_eq_true,if_false,List.append_nil]at ps
      simp -implicitDefEqProofs [S105,hjl,hu.len,ia,lp,tb19,ge,gh,e1]
      refine Next.mk (j+1) ⟨by omega,by omega⟩ ?_
      unfold S105
      rw[ps]
      exact A0i (k:=0) r0 (by omega) (by omega) (by simp -implicitDefEqProofs [A0g,A0e,ren,under])
     | true=>
      rw[z2]at ps gh
      simp only[if_true]at ps
      have bs:A1p 9 1 [.string ⟨#[]⟩] 1 [(0,.t (sv s))] 1=some (.row 1 0 1 1,.cells 9 [.t (sv s)]):=rfl
      obtain⟨b2,H2,n2,ap2,r2,ne2,_⟩:=A1k (e:=eStr) (ty:=9) (by':=16) (nx:=2) (m:=[s]) (r0.cons (k:=1) (r:=.cells 9 [.t (sv s)]) (by omega)) (A3r (b:=1) (ty:=9) _ (by simp[eStr])) (by simp;omega) (by simp;omega)
      rw[hz]at ap2
      simp -implicitDefEqProofs [S105,hjl,hu.len,ia,lp,tb19,ge,gh,ib,bs,ap2,e1]
      refine Next.mk (j+1) ⟨by omega,by omega⟩ ?_
      unfold S105
      rw[ps]
      exact A0i (k:=b2) r2 (by omega) (by omega) (by simp -implicitDefEqProofs [A0g,A0e,ren,under])
   ·have hje:j=all.length:=by omega
    subst hje
    simp -implicitDefEqProofs [S105,hu.len]
    exact Next.mk () (by show codes.findIdx (fun x=>eqS x b)=codes.length;omega) (A0i (k:=0) r0 (by omega) (by omega) (by simp -implicitDefEqProofs [A0g,A0e,ren,under]))
 ·rintro _ hnone
  have hnone:codes.findIdx (fun x=>eqS x b)=codes.length:=hnone
  have hn:B1f d all codes b=A4h (A7v d (A5l all b all.length)) (A7v d (A5l all b all.length)).length:=by
   unfold B1f
   rw[if_neg (by omega)]
  rw[hn]
  obtain⟨p,hp⟩:∃p,p=A5l all b all.length:=⟨_,rfl⟩
  have hpl:=B2n all b all.length
  have hpm:∀s∈p,s∈all:=fun s hs=>D3h (Nat.le_refl _) (hp▸hs)
  rw[<-hp]at hpl ⊢
  obtain⟨l,hl2⟩:∃l,l=A7v d p:=⟨_,rfl⟩
  have hll:l.length<=256:=by
   rw[hl2]
   unfold A7v
   have h1:=B4r d (decl d p) (decl d p).length
   have h2:(decl d p).length<=p.length:=by rw[<-C3a];exact A8k d p p.length
   omega
  have hls:∀s∈l,s.size<=cap:=fun s hs=>hsz s (hpm s (E3i (by rw[hl2]at hs;exact hs)).1)
  have gm:=C8r ht hg (IsS.tree eStr p) (by unfold cap;omega)
  rw[<-hl2]at gm ⊢
  have tt:=(A0j.head' eStr 9 0 p).toT
  have hL:=IsS.tree eStr l
  refine A0a D0v ?_
  simp -implicitDefEqProofs [S105,<-hp,tt,tb19,gm]
  refine A0a D0v ?_
  simp -implicitDefEqProofs
  refine A0s (fun _:Unit=>D9q l l.length) (fun _=>True) (fun _=>rfl) ?_ ?_
  ·refine A0a D0v ?_
   simp -implicitDefEqProofs
   refine A0h ?_
   refine A1b (D9q l) l.length (fun _=>rfl) ?_ rfl ?_ ?_
   ·exact B9x (by omega) (by simp -implicitDefEqProofs [D9q,A4h,under])
   ·intro j hj
    refine A0d D0v ?_
    obtain⟨s,hs⟩:∃s,l[j]?=some s:=⟨_,List.getElem?_eq_getElem hj⟩
    have hgd:l.getD j A2z=s:=by simp[List.getD_eq_getElem?_getD,hs]
    have ia:=B4p hL hs
    have e1:IntKind.i64.wrap ((j:Int)+1)=((j+1:Nat):Int):=A0l (by omega) (by omega)
    have hs1:=C8s l hls j (Nat.le_of_lt hj)
    have hs2:=hls s (List.mem_of_getElem? hs)
    unfold cap at hs1 hs2
    have hs3:j*(1000000000000+1)<=256*(1000000000000+1):=Nat.mul_le_mul_right _ (by omega)
    by_cases h0:0<j
    ·have js:A4h l (j+1)=(A4h l j++amp)++s:=by simp only[A4h,if_pos h0,hgd]
     have hsa:(A4h l j++amp).size=(A4h l j).size+1:=by rw[ByteArray.size_append];rfl
     have a1:∀Φ H nx,A0m Φ H nx (.bin false .add none) [.t (sv (A4h l j)),.t (sv amp)]=some (.t (sv (A4h l j++amp)),H,nx):=fun Φ H nx=>C2l _ _ _ _ (by have:amp.size=1:=rfl;omega)
     have a2:∀Φ H nx,A0m Φ H nx (.bin false .add none) [.t (sv (A4h l j++amp)),.t (sv s)]=some (.t (sv ((A4h l j++amp)++s)),H,nx):=fun Φ H nx=>C2l _ _ _ _ (by omega)
     simp -implicitDefEqProofs [D9q,hj,hL.len,h0,a1,ia,A0f,a2,e1]
     exact B9x (by omega) (by simp -implicitDefEqProofs [js,under])
    ·have js:A4h l (j+1)=A4h l j++s:=by simp only[A4h,if_neg h0,hgd]
     have a2:∀Φ H nx,A0m Φ H nx (.bin false .add none) [.t (sv (A4h l j)),.t (sv s)]=some (.t (sv (A4h l j++s)),H,nx):=fun Φ H nx=>C2l _ _ _ _ (by omega)
     simp -implicitDefEqProofs [D9q,hj,hL.len,h0,ia,A0f,a2,e1]
     exact B9x (by omega) (by simp -implicitDefEqProofs [js,under])
   ·refine A0d D0v ?_
    simp -implicitDefEqProofs [D9q,hL.len]
    exact Next.mk () trivial (B9x (by omega) (by simp -implicitDefEqProofs [D9q,under]))
  ·rintro _ -
   refine A0d D0v ?_
   simp -implicitDefEqProofs [D9q]
structure Co where
 name:Str
 code:List W
def eCo:Enc Co:=⟨2,fun x=>[sv x.name,encB x.code],fun _=>rfl,by omega,fun a b h=>by
 obtain⟨a1,a2⟩:=a
 obtain⟨b1,b2⟩:=b
 injection h with h1 h2
 injection h2 with h2 _
 have e:=A1h a2
 simp only at h2
 rw[h2,A1h]at e
 injection e with e
 injection h1 with h1
 injection h1 with h1
 have h1:a1=b1:=h1
 simp[h1,e]⟩
def A6o (a b:Co):Bool:=decide (cnt b.code<cnt a.code)||(decide (cnt a.code=cnt b.code)&&C0h a.name b.name)
theorem E3l {a b:Co} (ha:a.code.length<=1000) (hb:b.code.length<=1000):A0y Try.prog G 106 [.ag (eCo.enc a),.ag (eCo.enc b)] (· = bv (A6o a b)):=by
 have ok:A1t Try.prog G [(133,gB1 fCnt)]:=.cons (F6c E2x) .nil
 have e1:gB1 fCnt [encB a.code]=some (fCnt a.code):=D9a (A1h a.code) ha
 have e2:gB1 fCnt [encB b.code]=some (fCnt b.code):=D9a (A1h b.code) hb
 refine C4g.runs (ok.ctx A1u) rfl ?_
 by_cases h1:cnt b.code<cnt a.code
 ·simp -implicitDefEqProofs [A7n,eCo,A0w,A0f,e1,e2,fCnt,A6o,h1]
 ·by_cases h2:cnt a.code=cnt b.code
  ·simp -implicitDefEqProofs [A7n,eCo,A0w,A0f,e1,e2,fCnt,A6o,h1,h2]
  ·have h2':((cnt a.code:Int)==(cnt b.code:Int))=false:=by rw[beq_eq_false_iff_ne];omega
   simp -implicitDefEqProofs [A7n,eCo,A0w,A0f,e1,e2,fCnt,A6o,h1,h2,h2']
end Go.Proofs.Ytbiadmfmjnoecaa
