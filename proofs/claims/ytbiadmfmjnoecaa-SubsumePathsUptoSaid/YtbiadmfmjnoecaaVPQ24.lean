/-
 Auxiliary facts. No statement of the program stands here.
-/
import Derived.Test.YtbiadmfmjnoecaaVPQ23
namespace Go.Proofs.Ytbiadmfmjnoecaa
set_option linter.unusedSimpArgs false
set_option linter.unusedVariables false
open Go Go.Abs
theorem B3a {t:T} {l:List Str} (h:IsS eStr t l) {i:Nat} {x:Str} (hx:l[i]?=some x):A1k 1 (.t t) (.t (iv (i:Int)))=some (.t (.pt (sv x::rest eStr l i))):=h.iaddr hx .i64
theorem B4h {next:Str->List Str->List Str} {In:Str->Prop} (hk:∀s todo,In s->todo.Nodup->(∀u∈todo,In u)->(next s todo).Nodup/\∀u∈next s todo,In u) :
  ∀(f i:Nat) (todo:List Str),todo.Nodup->(∀u∈todo,In u)->(C0i next f i todo).Nodup/\∀u∈C0i next f i todo,In u
 | 0,i,todo,h1,h2=>⟨h1,h2⟩
 | f+1,i,todo,h1,h2=>by
  simp only[C0i]
  split
  ·exact⟨h1,h2⟩
  ·rename_i s hs
   obtain⟨h3,h4⟩:=hk s todo (h2 s (List.mem_of_getElem? hs)) h1 h2
   exact B4h hk f (i+1) _ h3 h4
theorem D5c {d:List TD} (hg:Good d) {s:Str} (hs:∃x∈d,x.name=s):(A5k d s).Nodup/\∀u∈A5k d s,∃x∈d,x.name=u:=by
 refine B4h (In:=fun u=>∃x∈d,x.name=u) (fun u todo hu h1 h2=>?_) _ _ _ (by simp) (by simpa using hs)
 obtain⟨p,x,hp,hx,hxs,hidx,hfd⟩:=hg.find hu
 have hsup:D5b d u=x.ss:=by unfold D5b;rw[hidx,hx];rfl
 have:=A8o h1 h2 (fun s hs=>hg.decl (List.mem_of_getElem? hx) hs) x.ss.length (Nat.le_refl _)
 have e:A2y x.ss todo x.ss.length=A9t d u todo:=by unfold A2y A9t;rw[List.take_length,hsup]
 rw[e]at this
 exact⟨this.nodup,this.mem⟩
theorem D5d {d:List TD} {s:Str} (hs:∃x∈d,x.name=s):(A4g d s).Nodup/\∀u∈A4g d s,∃x∈d,x.name=u:=by
 refine B4h (In:=fun u=>∃x∈d,x.name=u) (fun u todo hu h1 h2=>?_) _ _ _ (by simp) (by simpa using hs)
 have:=A6o u h1 h2 d.length (Nat.le_refl _)
 rw[B1a]at this
 exact⟨this.nodup,this.mem⟩
theorem B3b {d:List TD} {s:Str} (h:¬A5i d s<0):∃x∈d,x.name=s:=by
 unfold A5i at h
 split at h
 ·rename_i hi
  obtain⟨x,hx,e⟩:=B4f hi
  exact⟨x,List.mem_of_getElem? hx,e⟩
 ·exact absurd (by decide) h
theorem B8v (l:List Str):(C2b l).length<=l.length:=by
 rw[<-C5p];exact A8n l l.length
theorem F0f {d:List TD} (hg:Good d) (s:Str):(C5r d s).length<=d.length:=by
 unfold C5r
 split
 ·simp
 ·rename_i h
  obtain⟨h1,h2⟩:=D5c hg (B3b h)
  exact Nat.le_trans (B8v _) (B4g h1 h2)
theorem F0g {d:List TD} (s:Str):(below d s).length<=d.length:=by
 unfold below
 split
 ·simp
 ·rename_i h
  obtain⟨h1,h2⟩:=D5d (B3b h)
  exact Nat.le_trans (B8v _) (B4g h1 h2)
theorem D8t {l:List Str} {s u:Str}:u∈put l s ↔ u∈l\/u=s:=by
 unfold put
 simp only
 split
 ·rename_i h
  constructor
  ·exact .inl
  ·rintro(h1 | rfl)
   ·exact h1
   ·exact List.mem_of_getElem? h
 ·constructor
  ·intro h
   rcases List.mem_append.1 h with h | h
   ·rcases List.mem_append.1 h with h | h
    ·exact .inl (List.mem_of_mem_take h)
    ·exact .inr (by simpa using h)
   ·exact .inl (List.mem_of_mem_drop h)
  ·rintro(h1 | rfl)
   ·rw[<-List.take_append_drop (l.findIdx fun x=>!B8o x s) l]at h1
    rcases List.mem_append.1 h1 with h1 | h1
    ·exact List.mem_append_left _ (List.mem_append_left _ h1)
    ·exact List.mem_append_right _ h1
   ·exact List.mem_append_left _ (List.mem_append_right _ (by simp))
theorem D1q {l:List Str}:∀{acc:List Str} {u:Str},u∈l.foldl put acc ↔ u∈acc\/u∈l:=by
 induction l with
 | nil=>intro acc u;simp
 | cons x l ih=>
  intro acc u
  rw[List.foldl_cons,ih,D8t,List.mem_cons]
  constructor
  ·rintro((h | h) | h)
   ·exact .inl h
   ·exact .inr (.inl h)
   ·exact .inr (.inr h)
  ·rintro(h | h | h)
   ·exact .inl (.inl h)
   ·exact .inl (.inr h)
   ·exact .inr h
theorem D0b {l:List Str} {u:Str}:u∈C2b l ↔ u∈l:=by
 unfold C2b
 rw[D1q];simp
def D8u (d:List TD) (out:List Str) (s:Str):List Str:=if 0<=A5i d s then put out s else out
def A8p (d:List TD) (l:List Str) (j:Nat):List Str:=(l.take j).foldl (D8u d) []
def decl (d:List TD) (l:List Str):List Str:=l.foldl (D8u d) []
theorem C5s {d:List TD} {l:List Str} {j:Nat} {x:Str} (h:l[j]?=some x):A8p d l (j+1)=D8u d (A8p d l j) x:=by
 unfold A8p
 rw[List.take_add_one,h]
 simp[List.foldl_append]
theorem A7k (d:List TD) (l:List Str):∀j,(A8p d l j).length<=j
 | 0=>by simp[A8p]
 | j+1=>by
  have ih:=A7k d l j
  cases h:l[j]? with
  | none=>
   have:A8p d l (j+1)=A8p d l j:=by unfold A8p;rw[List.take_add_one,h];simp
   rw[this];omega
  | some x=>
   rw[C5s h]
   unfold D8u
   split
   ·have:=A9q (A8p d l j) x;omega
   ·omega
theorem C0v (d:List TD) (l:List Str):A8p d l l.length=decl d l:=by unfold A8p decl;rw[List.take_length]
theorem F5d {d:List TD} {l:List Str} {u:Str} (h:u∈decl d l):u∈l/\∃x∈d,x.name=u:=by
 have key:∀(l:List Str) (acc:List Str),u∈l.foldl (D8u d) acc->u∈acc\/(u∈l/\∃x∈d,x.name=u):=by
  intro l
  induction l with
  | nil=>intro acc h;exact .inl h
  | cons y l ih=>
   intro acc h
   rw[List.foldl_cons]at h
   rcases ih _ h with h | ⟨h,h'⟩
   ·unfold D8u at h
    split at h
    ·rename_i hf
     rcases D8t.1 h with h | rfl
     ·exact .inl h
     ·exact .inr ⟨by simp,B3b (by omega)⟩
    ·exact .inl h
   ·exact .inr ⟨by simp[h],h'⟩
 rcases key l [] h with h | h
 ·cases h
 ·exact h
def S139 (t u:T) (d:List TD) (l:List Str) (j:Nat):A0b:=⟨[(6,.t (iv (j:Int))),(5,.t (A0l eStr (A8p d l j))),(1,.t u),(0,.t t)],[],0,27⟩
theorem D1r {t u:T} {d:List TD} {l:List Str} (ht:IsS eTD t d) (hu:IsS eStr u l) (hdl:d.length<=cap) (hl:l.length<=cap):A0y Try.prog G 139 [t,u] (· = A0l eStr (decl d l)):=by
 have gf:∀s,D1p [t,sv s]=some (iv (A5i d s)):=fun s=>B8t ht s hdl
 unfold cap at hl
 refine B5m.call rfl ?_
 unfold A8z
 refine A0a A2d ?_
 simp -implicitDefEqProofs
 refine A0a A2d ?_
 simp -implicitDefEqProofs
 refine A0q (fun _:Unit=>S139 t u d l l.length) (fun _=>True) (fun _=>rfl) ?_ ?_
 ·refine A0a A2d ?_
  simp -implicitDefEqProofs
  refine A0g ?_
  refine A1a (S139 t u d l) l.length (fun _=>rfl) ?_ rfl ?_ ?_
  ·refine A0d rfl rfl ?_ ?_<;>simp -implicitDefEqProofs [S139,A8p,A0l]
  ·intro j hj
   refine A0c A2d ?_
   obtain⟨s,hs⟩:∃s,l[j]?=some s:=⟨_,List.getElem?_eq_getElem hj⟩
   have e1:IntKind.i64.wrap ((j:Int)+1)=((j+1:Nat):Int):=A0k (by omega) (by omega)
   have ia:=hu.iaddr hs .i64
   simp only[eStr,List.cons_append,List.nil_append]at ia
   have hln:=A7k d l j
   have gp:=C0t (IsS.tree eStr (A8p d l j)) s (by unfold cap;omega)
   have ds:=C5s (d:=d) hs
   unfold D8u at ds
   by_cases z:0<=A5i d s
   ·rw[if_pos z]at ds
    simp -implicitDefEqProofs [S139,hj,hu.len,ia,A0h,tb11,gf,z,gp,e1]
    refine A0d rfl rfl ?_ ?_<;>simp -implicitDefEqProofs [ds]
   ·rw[if_neg z]at ds
    simp -implicitDefEqProofs [S139,hj,hu.len,ia,A0h,tb11,gf,z,e1]
    refine A0d rfl rfl ?_ ?_<;>simp -implicitDefEqProofs [ds]
  ·refine A0c A2d ?_
   simp -implicitDefEqProofs [S139,hu.len]
   exact Next.mk () trivial (A0d rfl rfl (by simp -implicitDefEqProofs) (by simp -implicitDefEqProofs))
 ·rintro _ -
  refine A0c A2d ?_
  simp -implicitDefEqProofs [S139,C0v]
noncomputable def B5r (up all:List Str) (i:Nat):Nat->Bool
 | 0=>true
 | k+1=>B5r up all i k&&(decide (k=i) || !hasS up (all.getD k A2r))
noncomputable def A7y (d:List TD) (all:List Str):Nat->List Str
 | 0=>[]
 | j+1=>A7y d all j++(if B5r (C5r d (all.getD j A2r)) all j all.length then [all.getD j A2r]else [])
noncomputable def A6y (d:List TD) (l:List Str):List Str:=A7y d (decl d l) (decl d l).length
theorem B3c (d:List TD) (all:List Str):∀j,(A7y d all j).length<=j
 | 0=>by simp[A7y]
 | j+1=>by
  have:=B3c d all j
  simp only[A7y,List.length_append]
  split<;>simp<;>omega
theorem D5e {d:List TD} {all:List Str} {u:Str}:∀{j:Nat},j<=all.length->u∈A7y d all j->u∈all
 | 0,_,h=>by simp[A7y]at h
 | j+1,hj,h=>by
  simp only[A7y]at h
  rcases List.mem_append.1 h with h | h
  ·exact D5e (by omega) h
  ·split at h
   ·simp only[List.mem_singleton]at h
    subst h
    simp[List.getD_eq_getElem?_getD,show j<all.length by omega]
   ·cases h
theorem D8v {d:List TD} {l:List Str} {u:Str} (h:u∈A6y d l):u∈l/\∃x∈d,x.name=u:=F5d (D5e (Nat.le_refl _) h)
noncomputable def F0h:List T->Option T:=g2 (tSl eTD) tStr fun d s=>open Classical in if Good d then some (A0l eStr (C5r d s))else none
theorem F5e:GOK Try.prog G 140 F0h:=A5x fun a b x y r ha hb hr=>by
 obtain rfl:b=sv y:=hb
 split at hr
 ·rename_i h;injection hr with hr;subst hr;exact E5j ha h y
 ·cases hr
theorem F0i {t:T} {d:List TD} (ht:IsS eTD t d) (hg:Good d) (s:Str):F0h [t,sv s]=some (A0l eStr (C5r d s)):=
 (A4z (τ:=tSl eTD) (σ:=tStr) ht rfl).trans (if_pos hg)
noncomputable def F9b:List T->Option T:=g2 (tSl eTD) (tSl eStr) fun d l=>if d.length<=cap/\l.length<=cap then some (A0l eStr (decl d l))else none
theorem F9c:GOK Try.prog G 139 F9b:=A5x fun a b x y r ha hb hr=>by
 split at hr
 ·rename_i h;injection hr with hr;subst hr;exact D1r ha hb h.1 h.2
 ·cases hr
theorem F5f {t u:T} {d:List TD} {l:List Str} (ht:IsS eTD t d) (hu:IsS eStr u l) (hdl:d.length<=cap) (hl:l.length<=cap):F9b [t,u]=some (A0l eStr (decl d l)):=
 (A4z (τ:=tSl eTD) (σ:=tSl eStr) ht hu).trans (if_pos ⟨hdl,hl⟩)
noncomputable def tb15:Tbl:=[(140,F0h),(139,F9b),(127,B5n)]
theorem B8w:Ctx Try.prog G (orc tb15):=(A1q.cons F5e (.cons F9c (.cons B4e .nil))).ctx A1w
noncomputable def S132 (t:T) (d:List TD) (all:List Str) (j:Nat):A0b:=⟨[(7,.t (iv (j:Int))),(6,.t (A0l eStr all)),(5,rowP eStr 0 (A7y d all j)),(0,.t t)],rowH eStr 9 0 (A7y d all j),1,56⟩
noncomputable def D5f (t:T) (d:List TD) (up all:List Str) (j k:Nat):A0b:=⟨[(10,.t (iv (k:Int))),(9,.t (bv (B5r up all j k))),(8,.t (A0l eStr up)),(7,.t (iv (j:Int))),(6,.t (A0l eStr all)),(5,rowP eStr 0 (A7y d all j)),(0,.t t)],rowH eStr 9 0 (A7y d all j),1,56⟩
noncomputable def F5g (t:T) (d:List TD) (all:List Str) (j:Nat):A0b:=⟨[(7,.t (iv (j:Int))),(6,.t (A0l eStr all)),(5,rowP eStr 0 (A7y d all (j+1))),(0,.t t)],rowH eStr 9 0 (A7y d all (j+1)),1,56⟩
theorem D5g {t u:T} {d:List TD} {l:List Str} (ht:IsS eTD t d) (hg:Good d) (hu:IsS eStr u l) (hl:l.length<=cap):A0y Try.prog G 132 [t,u] (· = A0l eStr (A6y d l)):=by
 have hdl:=hg.ok.1
 have q1:=F5f ht hu (by unfold cap;omega) hl
 have hz:eStr.z=1:=rfl
 refine B8r.call rfl ?_
 unfold B0u
 refine A0a B8w ?_
 simp -implicitDefEqProofs
 refine A0a B8w ?_
 simp -implicitDefEqProofs
 refine A0a B8w ?_
 simp -implicitDefEqProofs [tb15,q1]
 have hall:(decl d l).length<=cap:=by rw[<-C0v];exact Nat.le_trans (A7k d l l.length) hl
 unfold A6y
 obtain⟨all,ha⟩:∃all,all=decl d l:=⟨_,rfl⟩
 rw[<-ha]at hall ⊢
 unfold cap at hall
 have hA:=IsS.tree eStr all
 refine A0q (fun _:Unit=>S132 t d all all.length) (fun _=>True) (fun _=>rfl) ?_ ?_
 ·refine A0a B8w ?_
  simp -implicitDefEqProofs
  refine A0g ?_
  refine A1a (S132 t d all) all.length (fun _=>rfl) ?_ rfl ?_ ?_
  ·exact A0i (k:=0) (A0j.nil _ _ _ _) (by omega) (by omega) (by simp -implicitDefEqProofs [A7y,rowP,ren,under])
  ·intro j hj
   obtain⟨s,hs⟩:∃s,all[j]?=some s:=⟨_,List.getElem?_eq_getElem hj⟩
   have hgd:all.getD j A2r=s:=by simp[List.getD_eq_getElem?_getD,hs]
   have ia:=B3a hA hs
   have ga:=F0i ht hg s
   have hal:=F0f hg s
   have r0:=A0j.head' eStr 9 0 (A7y d all j)
   have hml:=B3c d all j
   have lp:∀(cs:List T) (c:T),A0h false 1 (rowH eStr 9 0 (A7y d all j)) (.t (.pt (c::cs)))=some (.t c):=fun cs c=>rfl
   refine A0a B8w ?_
   simp -implicitDefEqProofs [S132,hj,hA.len]
   refine A0q (fun _:Unit=>F5g t d all j) (fun _=>True) (fun _=>rfl) ?_ ?_
   ·refine A0g ?_
    refine A0a B8w ?_
    simp -implicitDefEqProofs [ia,lp,tb15,ga]
    refine A0a B8w ?_
    simp -implicitDefEqProofs
    obtain⟨up,hup⟩:∃up,up=C5r d s:=⟨_,rfl⟩
    rw[<-hup]at hal ⊢
    have hU:=IsS.tree eStr up
    refine A0q (fun _:Unit=>D5f t d up all j all.length) (fun _=>True) (fun _=>rfl) ?_ ?_
    ·refine A0a B8w ?_
     simp -implicitDefEqProofs
     refine A0g ?_
     refine A1a (D5f t d up all j) all.length (fun _=>rfl) ?_ rfl ?_ ?_
     ·exact A0i (k:=0) r0 (by omega) (by omega) (by simp -implicitDefEqProofs [B5r,A0f,A0e,ren,under])
     ·intro k hk
      refine A0c B8w ?_
      obtain⟨v,hv⟩:∃v,all[k]?=some v:=⟨_,List.getElem?_eq_getElem hk⟩
      have hgv:all.getD k A2r=v:=by simp[List.getD_eq_getElem?_getD,hv]
      have ib:=B3a hA hv
      have gm:=A5h hU v (by unfold cap;omega)
      have e1:IntKind.i64.wrap ((k:Int)+1)=((k+1:Nat):Int):=A0k (by omega) (by omega)
      have fs:B5r up all j (k+1)=(B5r up all j k&&(decide (k=j) || !hasS up v)):=by simp only[B5r,hgv]
      cases z1:B5r up all j k with
      | false=>
       rw[z1,Bool.false_and]at fs
       simp -implicitDefEqProofs [D5f,hk,hA.len,z1,e1]
       exact A0i (k:=0) r0 (by omega) (by omega) (by simp -implicitDefEqProofs [fs,A0f,A0e,ren,under])
      | true=>
       by_cases z2:k=j
       ·have z2':((k:Int)==(j:Int))=true:=by rw[z2];simp
        rw[z1,decide_eq_true z2]at fs
        simp only[Bool.true_or,Bool.and_self]at fs
        simp -implicitDefEqProofs [D5f,hk,hA.len,z1,z2',e1]
        exact A0i (k:=0) r0 (by omega) (by omega) (by simp -implicitDefEqProofs [fs,A0f,A0e,ren,under])
       ·have z2':((k:Int)==(j:Int))=false:=by rw[beq_eq_false_iff_ne];omega
        rw[z1,decide_eq_false z2]at fs
        simp only[Bool.true_and,Bool.false_or]at fs
        simp -implicitDefEqProofs [D5f,hk,hA.len,z1,z2',ib,lp,tb15,gm,e1]
        exact A0i (k:=0) r0 (by omega) (by omega) (by simp -implicitDefEqProofs [fs,A0f,A0e,ren,under])
     ·refine A0c B8w ?_
      simp -implicitDefEqProofs [D5f,hA.len]
      exact Next.mk () trivial (A0i (k:=0) r0 (by omega) (by omega) (by simp -implicitDefEqProofs [A0f,A0e,ren,under]))
    ·rintro _ -
     refine A0c B8w ?_
     have ms:A7y d all (j+1)=A7y d all j++(if B5r up all j all.length then [s]else []):=by simp only[A7y,hgd,hup]
     cases z:B5r up all j all.length with
     | false=>
      rw[z]at ms
      simp only[Bool.false_eq_true,if_false,List.append_nil]at ms
      simp -implicitDefEqProofs [D5f,z]
      refine Next.mk () trivial ?_
      unfold F5g
      rw[ms]
      exact A0i (k:=0) r0 (by omega) (by omega) (by simp -implicitDefEqProofs [A0f,A0e,ren,under])
     | true=>
      rw[z]at ms
      simp only[if_true]at ms
      have bs:A1l 9 1 [.string ⟨#[]⟩] 1 [(0,.t (sv s))] 1=some (.row 1 0 1 1,.cells 9 [.t (sv s)]):=rfl
      obtain⟨b2,H2,n2,ap2,r2,ne2,_⟩:=A1j (e:=eStr) (ty:=9) (by':=16) (nx:=2) (m:=[s]) (r0.cons (k:=1) (r:=.cells 9 [.t (sv s)]) (by omega)) (A2w (b:=1) (ty:=9) _ (by simp[eStr])) (by simp;omega) (by simp;omega)
      rw[hz]at ap2
      simp -implicitDefEqProofs [D5f,z,ia,lp,bs,ap2]
      refine Next.mk () trivial ?_
      unfold F5g
      rw[ms]
      exact A0i (k:=b2) r2 (by omega) (by omega) (by simp -implicitDefEqProofs [A0f,A0e,ren,under])
   ·rintro _ -
    refine A0c B8w ?_
    have r1:=A0j.head' eStr 9 0 (A7y d all (j+1))
    have e1:IntKind.i64.wrap ((j:Int)+1)=((j+1:Nat):Int):=A0k (by omega) (by omega)
    simp -implicitDefEqProofs [F5g,e1]
    exact A0i (k:=0) r1 (by omega) (by omega) (by simp -implicitDefEqProofs [A0f,A0e,ren,under])
  ·refine A0c B8w ?_
   have r1:=A0j.head' eStr 9 0 (A7y d all all.length)
   simp -implicitDefEqProofs [S132,hA.len]
   exact Next.mk () trivial (A0i (k:=0) r1 (by omega) (by omega) (by simp -implicitDefEqProofs [A0f,A0e,ren,under]))
 ·rintro _ -
  refine A0c B8w ?_
  have tt:=(A0j.head' eStr 9 0 (A7y d all all.length)).toT
  simp -implicitDefEqProofs [S132,tt]
theorem C5t {a b:T} {l m:List W} (ha:decB a=some l) (hb:decB b=some m) (hl:l.length<=1000) (hm:m.length<=1000):A0y Try.prog G 89 [a,b] (· = fAnd l m):=
 (E9m ha hb hl hm).mono fun _ h=>h.trans (congrArg encB (F8t _ _))
theorem C5u {a b:T} {l m:List W} (ha:decB a=some l) (hb:decB b=some m) (hl:l.length<=1000) (hm:m.length<=1000):A0y Try.prog G 81 [a,b] (· = fSub l m):=by
 have ok:A1q Try.prog G [(111,gB2 E9o)]:=.cons (B1l D8e) .nil
 refine C1o.runs (ok.ctx A1w) rfl ?_
 have e1:=B5i (f:=E9o) ha hb hl hm
 have e2:((((A1z (D4h l m)).length:Nat):Int)==0)=subL l m:=by
  unfold subL
  cases h:(A1z (D4h l m)).length<;>simp
  omega
 simp -implicitDefEqProofs [B2e,e1,E9o,fSub,encB,B1y,e2]
theorem E1z {a b:T} {l m:List W} (ha:decB a=some l) (hb:decB b=some m) (hl:l.length<=1000) (hm:m.length<=1000):A0y Try.prog G 130 [a,b] (· = fEq l m):=by
 have ok:A1q Try.prog G [(81,gB2 fSub)]:=.cons (B1l C5u) .nil
 refine C3y.runs (ok.ctx A1w) rfl ?_
 have e1:=B5i (f:=fSub) ha hb hl hm
 have e2:=B5i (f:=fSub) hb ha hm hl
 cases h:subL l m<;>simp -implicitDefEqProofs [B6f,e1,e2,fSub,fEq,h]
theorem E5k (l:List Int):decI (A0l eInt l)=some l:=by
 have:∀l:List Int,l.flatMap eInt.enc=l.map iv:=by
  intro l
  induction l with
  | nil=>rfl
  | cons x l ih=>rw[List.flatMap_cons,ih];rfl
 cases l with
 | nil=>rfl
 | cons x r=>
  show decI (slT eInt (x::r))=_
  unfold slT
  rw[this]
  exact F8y (x::r)
noncomputable def A3l (low all:List Str):Nat->List Int
 | 0=>[]
 | j+1=>A3l low all j++(if hasS low (all.getD j A2r)then [(j:Int)]else [])
theorem B1b (low all:List Str):∀j,(A3l low all j).length<=j
 | 0=>by simp[A3l]
 | j+1=>by
  have:=B1b low all j
  simp only[A3l,List.length_append]
  split<;>simp<;>omega
theorem A9u {low all:List Str} {n:Int}:∀{j:Nat},n∈A3l low all j ↔ ∃i:Nat,i<j/\n=(i:Int)/\hasS low (all.getD i A2r)=true
 | 0=>by simp[A3l]
 | j+1=>by
  simp only[A3l,List.mem_append]
  rw[A9u]
  constructor
  ·rintro(⟨i,h1,h2,h3⟩ | h)
   ·exact⟨i,by omega,h2,h3⟩
   ·split at h
    ·rename_i hh
     simp only[List.mem_singleton]at h
     exact⟨j,by omega,h,hh⟩
    ·cases h
  ·rintro⟨i,h1,h2,h3⟩
   by_cases e:i=j
   ·subst e
    right
    rw[if_pos h3]
    simp[h2]
   ·exact .inl ⟨i,by omega,h2,h3⟩
noncomputable def A4h (d:List TD) (all:List Str) (s:Str):List W:=A1z (fill 64 (A3l (below d s) all all.length) (A3l (below d s) all all.length).length)
theorem D5h (d:List TD) (all:List Str) (s:Str):(A4h d all s).length<=64:=by
 unfold A4h
 have:=B2m (fill 64 (A3l (below d s) all all.length) (A3l (below d s) all all.length).length)
 rw[A7t]at this
 exact this
theorem D5i {d:List TD} {all:List Str} (hl:all.length<=256) (s:Str) (i:Nat):hasL (A4h d all s) i=(decide (i<all.length)&&hasS (below d s) (all.getD i A2r)):=by
 unfold A4h
 have h1:hasL (A1z (fill 64 (A3l (below d s) all all.length) (A3l (below d s) all all.length).length)) i=hasL (fill 64 (A3l (below d s) all all.length) (A3l (below d s) all all.length).length) i:=by
  unfold hasL;rw[C3a]
 rw[h1,E1v 64 _ (fun n hn=>by obtain⟨k,hk,rfl,_⟩:=A9u.1 hn;omega),List.take_length,Bool.eq_iff_iff,List.any_eq_true,Bool.and_eq_true,decide_eq_true_eq]
 constructor
 ·rintro⟨n,hn,e⟩
  obtain⟨k,hk,rfl,h⟩:=A9u.1 hn
  have:k=i:=by have e2:=of_decide_eq_true e;omega
  subst this
  exact⟨hk,h⟩
 ·rintro⟨h2,h3⟩
  exact⟨(i:Int),A9u.2 ⟨i,h2,rfl,h3⟩,by simp⟩
noncomputable def F0j:List T->Option T:=g2 (tSl eTD) tStr fun d s=>open Classical in if DOK d then some (A0l eStr (below d s))else none
theorem F5h:GOK Try.prog G 126 F0j:=A5x fun a b x y r ha hb hr=>by
 obtain rfl:b=sv y:=hb
 split at hr
 ·rename_i h;injection hr with hr;subst hr;exact E5h ha h y
 ·cases hr
theorem F0k {t:T} {d:List TD} (ht:IsS eTD t d) (hd:DOK d) (s:Str):F0j [t,sv s]=some (A0l eStr (below d s)):=
 (A4z (τ:=tSl eTD) (σ:=tStr) ht rfl).trans (if_pos hd)
noncomputable def tb16:Tbl:=[(126,F0j),(127,B5n),(128,gI ofT)]
theorem D8w:Ctx Try.prog G (orc tb16):=(A1q.cons F5h (.cons B4e (.cons (gI_ok F4y) .nil))).ctx A1w
noncomputable def S103 (low all:List Str) (u:T) (j:Nat):A0b:=⟨[(9,.t (iv (j:Int))),(8,rowP eInt 0 (A3l low all j)),(7,.t (A0l eStr low)),(1,.t u)],rowH eInt 3 0 (A3l low all j),1,37⟩
theorem F0l {t u:T} {d:List TD} {all:List Str} (ht:IsS eTD t d) (hd:DOK d) (hu:IsS eStr u all) (hl:all.length<=256) (s:Str):A0y Try.prog G 103 [t,u,sv s] (· = encB (A4h d all s)):=by
 have hdl:=hd.1
 have gb:=F0k ht hd s
 have hbl:=F0g (d:=d) s
 have hz:eInt.z=1:=rfl
 refine C9u.call rfl ?_
 unfold C0o
 refine A0a D8w ?_
 simp -implicitDefEqProofs
 refine A0a D8w ?_
 simp -implicitDefEqProofs [tb16,gb]
 refine A0a D8w ?_
 simp -implicitDefEqProofs
 unfold A4h
 obtain⟨low,hlow⟩:∃low,low=below d s:=⟨_,rfl⟩
 rw[<-hlow]at hbl ⊢
 have hL:=IsS.tree eStr low
 refine A0q (fun _:Unit=>S103 low all u all.length) (fun _=>True) (fun _=>rfl) ?_ ?_
 ·refine A0a D8w ?_
  simp -implicitDefEqProofs
  refine A0g ?_
  refine A1a (S103 low all u) all.length (fun _=>rfl) ?_ rfl ?_ ?_
  ·exact A0i (k:=0) (A0j.nil _ _ _ _) (by omega) (by omega) (by simp -implicitDefEqProofs [A3l,rowP,ren,under])
  ·intro j hj
   refine A0c D8w ?_
   obtain⟨x,hx⟩:∃x,all[j]?=some x:=⟨_,List.getElem?_eq_getElem hj⟩
   have hgd:all.getD j A2r=x:=by simp[List.getD_eq_getElem?_getD,hx]
   have ia:=B3a hu hx
   have ga:=A5h hL x (by unfold cap;omega)
   have r0:=A0j.head' eInt 3 0 (A3l low all j)
   have hcl:=B1b low all j
   have lp:∀(cs:List T) (c:T),A0h false 1 (rowH eInt 3 0 (A3l low all j)) (.t (.pt (c::cs)))=some (.t c):=fun cs c=>rfl
   have e1:IntKind.i64.wrap ((j:Int)+1)=((j+1:Nat):Int):=A0k (by omega) (by omega)
   have cs:A3l low all (j+1)=A3l low all j++(if hasS low x then [(j:Int)]else []):=by simp only[A3l,hgd]
   cases z:hasS low x with
   | false=>
    rw[z]at cs
    simp only[Bool.false_eq_true,if_false,List.append_nil]at cs
    simp -implicitDefEqProofs [S103,hj,hu.len,ia,lp,tb16,ga,z,e1]
    rw[cs]
    exact A0i (k:=0) r0 (by omega) (by omega) (by simp -implicitDefEqProofs [A0f,A0e,ren,under])
   | true=>
    rw[z]at cs
    simp only[if_true]at cs
    have bs:A1l 3 1 [.int .i64 0] 1 [(0,.t (iv (j:Int)))] 1=some (.row 1 0 1 1,.cells 3 [.t (iv (j:Int))]):=rfl
    obtain⟨b2,H2,n2,ap2,r2,ne2,_⟩:=A1j (e:=eInt) (ty:=3) (by':=8) (nx:=2) (m:=[(j:Int)]) (r0.cons (k:=1) (r:=.cells 3 [.t (iv (j:Int))]) (by omega)) (A2w (b:=1) (ty:=3) _ (by simp[eInt])) (by simp;omega) (by simp;omega)
    rw[hz]at ap2
    simp -implicitDefEqProofs [S103,hj,hu.len,ia,lp,tb16,ga,z,bs,ap2,e1]
    rw[cs]
    exact A0i (k:=b2) r2 (by omega) (by omega) (by simp -implicitDefEqProofs [A0f,A0e,ren,under])
  ·refine A0c D8w ?_
   have r1:=A0j.head' eInt 3 0 (A3l low all all.length)
   simp -implicitDefEqProofs [S103,hu.len]
   exact Next.mk () trivial (A0i (k:=0) r1 (by omega) (by omega) (by simp -implicitDefEqProofs [A0f,A0e,ren,under]))
 ·rintro _ -
  refine A0c D8w ?_
  obtain⟨l,hl'⟩:∃l,l=A3l low all all.length:=⟨_,rfl⟩
  have hcl:=B1b low all all.length
  have hin:l.all inR=true:=by
   rw[List.all_eq_true]
   intro n hn
   rw[hl']at hn
   obtain⟨k,hk,rfl,_⟩:=A9u.1 hn
   simp only[inR,Bool.and_eq_true,decide_eq_true_eq]
   omega
  have ho:ofT l = .tu [encB (A1z (fill 64 l l.length)),.v (.int .i64 0)]:=by unfold ofT;rw[if_pos hin]
  have go:=gI_eq (f:=ofT) (E5k l) (by rw[hl'];omega)
  have tt:=(A0j.head' eInt 3 0 l).toT
  simp -implicitDefEqProofs [S103,<-hl',tt,tb16,go,ho]
def eB:Enc (List W):=⟨1,fun l=>[encB l],fun _=>rfl,by omega,fun a b h=>by
 injection h with h
 have:=A1g a
 rw[h,A1g]at this
 injection this with this
 exact this.symm⟩
theorem ia_B {t:T} {l:List (List W)} (h:IsS eB t l) {i:Nat} {x:List W} (hx:l[i]?=some x):A1k 1 (.t t) (.t (iv (i:Int)))=some (.t (.pt (encB x::rest eB l i))):=h.iaddr hx .i64
def tB:Ty (List W):=⟨fun t l=>t=encB l,fun t a b h h'=>by
 have:=A1g a
 rw[<-h,h',A1g]at this
 injection this with this
 exact this.symm⟩
noncomputable def tb17:Tbl:=[(118,gB2 F8u),(89,gB2 fAnd),(130,gB2 fEq),(81,gB2 fSub),(131,gHas)]
theorem F9d:A1q Try.prog G tb17:=.cons (B1l D4o) (.cons (B1l C5t) (.cons (B1l E1z) (.cons (B1l C5u) (.cons (D8h C4s D1j) .nil))))
theorem F0m:Ctx Try.prog G (orc tb17):=F9d.ctx A1w
theorem F0n (x y:List W) (hx:x.length<=1000) (hy:y.length<=1000):gB2 F8u [encB x,encB y]=some (bv (x==y)):=B5i (A1g x) (A1g y) hx hy
def inB (l:List (List W)) (b:List W):Bool:=l.any fun x=>x==b
def S129 (t:T) (b:List W) (j:Nat):A0b:=⟨[(5,.t (iv (j:Int))),(1,.t (encB b)),(0,.t t)],[],0,18⟩
theorem F9e {t:T} {l:List (List W)} (ht:IsS eB t l) (hl:l.length<=cap) (hs:∀x∈l,x.length<=1000) {b:List W} (hb:b.length<=1000):A0y Try.prog G 129 [t,encB b] (· = bv (inB l b)):=by
 unfold cap at hl
 refine E1w.call rfl ?_
 unfold D1m
 refine A0a F0m ?_
 simp -implicitDefEqProofs
 refine A0q (fun _:Unit=>S129 t b l.length) (fun _=>inB l b=false) (fun _=>rfl) ?_ ?_
 ·refine A0a F0m ?_
  simp -implicitDefEqProofs
  refine A0g ?_
  refine A1r (S129 t b) (fun k=>l.length-k) (fun k=>k<=l.length/\∀(i:Nat) x,i<k->l[i]?=some x->(x==b)=false) 0 (fun _=>rfl) ⟨Nat.zero_le _,fun i s h=>by omega⟩ ?_ rfl ?_
  ·refine A0d rfl rfl ?_ ?_<;>simp -implicitDefEqProofs [S129]
  ·rintro k ⟨hk,hg⟩
   refine A0c F0m ?_
   by_cases hkl:k<l.length
   ·obtain⟨x,hx⟩:∃x,l[k]?=some x:=⟨_,List.getElem?_eq_getElem hkl⟩
    have ia:=ia_B ht hx
    have gs:=F0n x b (hs x (List.mem_of_getElem? hx)) hb
    have e1:IntKind.i64.wrap ((k:Int)+1)=((k+1:Nat):Int):=A0k (by omega) (by omega)
    cases z:x==b with
    | true=>
     have hr:inB l b=true:=by
      unfold inB
      rw[List.any_eq_true]
      exact⟨x,List.mem_of_getElem? hx,z⟩
     rw[z]at gs
     simp -implicitDefEqProofs [S129,hkl,ht.len,ia,A0h,tb17,gs,hr]
    | false=>
     rw[z]at gs
     simp -implicitDefEqProofs [S129,hkl,ht.len,ia,A0h,tb17,gs,e1]
     refine Next.mk (k+1) ⟨⟨by omega,fun i y hi hy=>?_⟩,by omega⟩ (A0d rfl rfl (by simp -implicitDefEqProofs [S129]) (by simp -implicitDefEqProofs [S129]))
     by_cases e:i=k
     ·subst e;rw[hx]at hy;injection hy with hy;subst hy;simpa using z
     ·simpa using hg i y (by omega) hy
   ·have hk':k=l.length:=by omega
    simp -implicitDefEqProofs [S129,hkl,ht.len]
    refine Next.mk () ?_ (A0d rfl rfl (by simp -implicitDefEqProofs [S129,hk']) (by simp -implicitDefEqProofs [S129]))
    unfold inB
    rw[List.any_eq_false]
    intro x hx
    obtain⟨i,hi,e⟩:=List.getElem_of_mem hx
    rw[hg i x (by omega) (by rw[List.getElem?_eq_getElem hi,e])]
    simp
 ·rintro _ hr
  refine A0c F0m ?_
  simp -implicitDefEqProofs [S129,hr]
def andN (x y:List W):List W:=A1z (andL x y)
def B7c (i:Nat) (l:List (List W)) (k:Nat):List (List W):=
 if l.length<=256 then(if(andN (l.getD i []) (l.getD k [])).length=0\/inB l (andN (l.getD i []) (l.getD k []))=true then l else l++[andN (l.getD i []) (l.getD k [])])else l
def A4s (i:Nat) (l:List (List W)):Nat->List (List W)
 | 0=>l
 | k+1=>B7c i (A4s i l k) k
def famF:Nat->Nat->List (List W)->List (List W)
 | 0,_,l=>l
 | f+1,i,l=>if i<l.length/\l.length<=256 then famF f (i+1) (A4s i l i)else l
def A2z (codes:List (List W)):List (List W):=famF 300 0 codes
structure Fam (l m:List (List W)):Prop where
 len:l.length<=257->m.length<=257
 size:(∀x∈l,x.length<=64)->∀x∈m,x.length<=64
 pre:∃r,m=l++r
theorem Fam.refl (l:List (List W)):Fam l l:=⟨fun h=>h,fun h=>h,[],by simp⟩
theorem Fam.trans {l m n:List (List W)} (h:Fam l m) (h':Fam m n):Fam l n:=by
 obtain⟨r,e⟩:=h.pre
 obtain⟨r',e'⟩:=h'.pre
 exact⟨fun x=>h'.len (h.len x),fun x=>h'.size (h.size x),r++r',by rw[e',e,List.append_assoc]⟩
theorem D1s (x y:List W):(andN x y).length<=x.length:=by
 unfold andN
 have h1:=B2m (andL x y)
 have h2:(andL x y).length<=x.length:=by simp[andL];omega
 omega
theorem D8x (i:Nat) (l:List (List W)) (k:Nat):Fam l (B7c i l k):=by
 unfold B7c
 split
 ·rename_i hl
  split
  ·exact Fam.refl l
  ·refine⟨fun _=>by simp;omega,fun hs x hx=>?_,_,rfl⟩
   rcases List.mem_append.1 hx with hx | hx
   ·exact hs x hx
   ·simp only[List.mem_singleton]at hx
    subst hx
    refine Nat.le_trans (D1s _ _) ?_
    by_cases hi:i<l.length
    ·have e:l.getD i []=l[i]:=by simp[List.getD_eq_getElem?_getD,hi]
     rw[e]
     exact hs _ (List.getElem_mem hi)
    ·have e:l.getD i []=[]:=by simp[List.getD_eq_getElem?_getD,hi]
     rw[e];simp
 ·exact Fam.refl l
theorem B8x (i:Nat) (l:List (List W)):∀k,Fam l (A4s i l k)
 | 0=>Fam.refl l
 | k+1=>(B8x i l k).trans (D8x i _ k)
theorem D0c {i:Nat} {l:List (List W)} {k:Nat} (h:¬(A4s i l k).length<=256):∀n,A4s i l (k+n)=A4s i l k
 | 0=>rfl
 | n+1=>by
  have ih:=D0c h n
  show B7c i (A4s i l (k+n)) (k+n)=_
  rw[ih]
  unfold B7c
  rw[if_neg h]
theorem C3d:∀(f i:Nat) (l:List (List W)),Fam l (famF f i l)
 | 0,i,l=>Fam.refl l
 | f+1,i,l=>by
  unfold famF
  split
  ·exact(B8x i l i).trans (C3d f (i+1) _)
  ·exact Fam.refl l
noncomputable def gIn:List T->Option T:=g2 (tSl eB) tB fun l b=>open Classical in if l.length<=cap/\(∀x∈l,x.length<=1000)/\b.length<=1000 then some (bv (inB l b))else none
theorem in_ok:GOK Try.prog G 129 gIn:=A5x fun a b x y r ha hb hr=>by
 obtain rfl:b=encB y:=hb
 split at hr
 ·rename_i h;injection hr with hr;subst hr;exact F9e ha h.1 h.2.1 h.2.2
 ·cases hr
theorem G1n {t:T} {l:List (List W)} (ht:IsS eB t l) (hl:l.length<=cap) (hs:∀x∈l,x.length<=1000) {b:List W} (hb:b.length<=1000):gIn [t,encB b]=some (bv (inB l b)):=
 (A4z (τ:=tSl eB) (σ:=tB) (y:=b) ht rfl).trans (if_pos ⟨hl,hs,hb⟩)
noncomputable def tb18:Tbl:=[(89,gB2 fAnd),(129,gIn)]
theorem D1t:Ctx Try.prog G (orc tb18):=(A1q.cons (B1l C5t) (.cons in_ok .nil)).ctx A1w
def S104 (a:Nat×List (List W)):A0b:=⟨[(4,.t (iv (a.1:Int))),(3,rowP eB 0 a.2)],rowH eB 101 0 a.2,1,54⟩
def F5i (l:List (List W)):A0b:=⟨[(3,rowP eB 0 l)],rowH eB 101 0 l,1,54⟩
def D1u (i:Nat) (l:List (List W)) (k:Nat):A0b:=⟨[(5,.t (iv (k:Int))),(4,.t (iv (i:Int))),(3,rowP eB 0 (A4s i l k))],rowH eB 101 0 (A4s i l k),1,54⟩
theorem D8y {t:T} {codes:List (List W)} (ht:IsS eB t codes) (h0:0<codes.length) (hl:codes.length<=256) (hs:∀x∈codes,x.length<=64):A0y Try.prog G 104 [t] (· = A0l eB (A2z codes)):=by
 have hz:eB.z=1:=rfl
 refine C1w.call rfl ?_
 unfold B2q
 refine A0a D1t ?_
 simp -implicitDefEqProofs
 have bs0:A1l 101 1 [.slice none 0 0] 0 [] 0=some (.row 0 0 0 1,.cells 101 []):=rfl
 have ap0:appM 101 1 24 [(0,.cells 101 [])] 1 (.row 0 0 0 1) (.t t)=some (.row 1 0 codes.length 1,[(1,A1m eB 101 codes)],2):=by
  have hsrc:=A5a (H:=[(0,Row.cells 101 [])]) ht
  rw[hz]at hsrc
  have b1:codes.length*24<=140737488355328:=by omega
  have b2:codes.length<=9223372036854775807:=by omega
  simp[appM,hsrc,A1m,b1,b2]
 refine A0a D1t ?_
 simp -implicitDefEqProofs [bs0,ap0]
 refine A0q (fun _:Unit=>F5i (A2z codes)) (fun _=>True) (fun _=>rfl) ?_ ?_
 ·refine A0a D1t ?_
  simp -implicitDefEqProofs
  refine A0g ?_
  refine A1r S104 (fun a=>300-a.1) (fun a=>a.1<=257/\Fam codes a.2/\famF (300-a.1) a.1 a.2=A2z codes) (0,codes) (fun _=>rfl) ⟨by simp,Fam.refl _,rfl⟩ ?_ rfl ?_
  ·refine A0i (l:=codes) (k:=1) (.inr (by simp)) (by omega) (by omega) ?_
   cases codes with
   | nil=>simp at h0
   | cons x r=>simp -implicitDefEqProofs [rowP,ren,under,eB]
  ·rintro⟨i,l⟩ ⟨hi,hf,he⟩
   simp only at hi hf he
   have hll:l.length<=257:=hf.len (by omega)
   have hsl:=hf.size hs
   have r0:=A0j.head' eB 101 0 l
   by_cases hc:i<l.length/\l.length<=256
   ·have hc1:=hc.1
    have hc2:=hc.2
    have hc2':(l.length:Int)<=256:=by omega
    refine A0a D1t ?_
    simp -implicitDefEqProofs [S104,A1o,hc1,hc2,hc2']
    refine A0q (fun _:Unit=>S104 (i,A4s i l i)) (fun _=>True) (fun _=>rfl) ?_ ?_
    ·refine A0g ?_
     refine A0a D1t ?_
     simp -implicitDefEqProofs
     refine A0g ?_
     refine A1r (D1u i l) (fun k=>i-k) (fun k=>k<=i) 0 (fun _=>rfl) (Nat.zero_le _) ?_ rfl ?_
     ·exact A0i (k:=0) r0 (by omega) (by omega) (by simp -implicitDefEqProofs [A4s,A0f,A0e,ren,under])
     ·intro k hk
      have hfk:=B8x i l k
      have hlk:(A4s i l k).length<=257:=hfk.len hll
      have hsk:=hfk.size hsl
      have rk:=A0j.head' eB 101 0 (A4s i l k)
      have tt:=rk.toT
      refine A0c D1t ?_
      by_cases hki:k<i
      ·by_cases hc3:(A4s i l k).length<=256
       ·have hc3':((A4s i l k).length:Int)<=256:=by omega
        obtain⟨r,hr⟩:=hfk.pre
        have hle:l.length<=(A4s i l k).length:=by rw[hr];simp
        obtain⟨x,hx⟩:∃x,(A4s i l k)[i]?=some x:=⟨_,List.getElem?_eq_getElem (by omega)⟩
        obtain⟨y,hy⟩:∃y,(A4s i l k)[k]?=some y:=⟨_,List.getElem?_eq_getElem (by omega)⟩
        have hxl:=hsk x (List.mem_of_getElem? hx)
        have hyl:=hsk y (List.mem_of_getElem? hy)
        have ix:=A1p (e:=eB) (b:=0) hx .i64
        have iy:=A1p (e:=eB) (b:=0) hy .i64
        have lx:=rk.load (off:=0) (c:=encB x) hx rfl
        have ly:=rk.load (off:=0) (c:=encB y) hy rfl
        rw[hz,Nat.mul_one]at ix iy
        rw[hz,Nat.mul_one,Nat.add_zero]at lx ly
        have ga:gB2 fAnd [encB x,encB y]=some (encB (andN x y)):=B5i (A1g x) (A1g y) (by omega) (by omega)
        have hbl:(andN x y).length<=1000:=Nat.le_trans (D1s x y) (by omega)
        have gi:=G1n (IsS.tree eB (A4s i l k)) (by unfold cap;omega) (fun z hz=>Nat.le_trans (hsk z hz) (by omega)) hbl
        have e1:IntKind.i64.wrap ((k:Int)+1)=((k+1:Nat):Int):=A0k (by omega) (by omega)
        have le:B1y (.t (encB (andN x y)))=some (.t (iv ((andN x y).length:Int))):=rfl
        have fs:A4s i l (k+1)=if(andN x y).length=0\/inB (A4s i l k) (andN x y)=true then A4s i l k else A4s i l k++[andN x y]:=by
         show B7c i (A4s i l k) k=_
         unfold B7c
         have e3:(A4s i l k).getD i []=x:=by simp[List.getD_eq_getElem?_getD,hx]
         have e4:(A4s i l k).getD k []=y:=by simp[List.getD_eq_getElem?_getD,hy]
         rw[if_pos hc3,e3,e4]
        by_cases z1:(andN x y).length=0
        ·have z1':¬(0:Int)<((andN x y).length:Int):=by omega
         have z1n:¬0<(andN x y).length:=by omega
         rw[if_pos (.inl z1)]at fs
         simp -implicitDefEqProofs [D1u,hki,A1o,hc3,hc3',ix,iy,lx,ly,tb18,ga,le,z1',z1n,e1]
         refine Next.mk (k+1) ⟨by omega,by omega⟩ ?_
         unfold D1u
         rw[fs]
         exact A0i (k:=0) rk (by omega) (by omega) (by simp -implicitDefEqProofs [A0f,A0e,ren,under])
        ·have z1':(0:Int)<((andN x y).length:Int):=by omega
         have z1n:0<(andN x y).length:=by omega
         cases z2:inB (A4s i l k) (andN x y)with
         | true=>
          rw[if_pos (.inr z2)]at fs
          simp -implicitDefEqProofs [D1u,hki,A1o,hc3,hc3',ix,iy,lx,ly,tb18,ga,le,z1',z1n,tt,gi,z2,e1]
          refine Next.mk (k+1) ⟨by omega,by omega⟩ ?_
          unfold D1u
          rw[fs]
          exact A0i (k:=0) rk (by omega) (by omega) (by simp -implicitDefEqProofs [A0f,A0e,ren,under])
         | false=>
          rw[if_neg (by rw[z2];simp[z1])]at fs
          have bs:A1l 101 1 [.slice none 0 0] 1 [(0,.t (encB (andN x y)))] 1=some (.row 1 0 1 1,.cells 101 [.t (encB (andN x y))]):=rfl
          obtain⟨b2,H2,n2,ap2,r2,ne2,_⟩:=A1j (e:=eB) (ty:=101) (by':=24) (nx:=2) (m:=[andN x y]) (rk.cons (k:=1) (r:=.cells 101 [.t (encB (andN x y))]) (by omega)) (A2w (b:=1) (ty:=101) _ (by simp[eB])) (by simp;omega) (by simp;omega)
          rw[hz]at ap2
          simp -implicitDefEqProofs [D1u,hki,A1o,hc3,hc3',ix,iy,lx,ly,tb18,ga,le,z1',z1n,tt,gi,z2,bs,ap2,e1]
          refine Next.mk (k+1) ⟨by omega,by omega⟩ ?_
          unfold D1u
          rw[fs]
          exact A0i (k:=b2) r2 (by omega) (by omega) (by simp -implicitDefEqProofs [A0f,A0e,ren,under])
       ·have hc3':¬((A4s i l k).length:Int)<=256:=by omega
        have hst:=D0c hc3 (i-k)
        rw[show k+(i-k)=i by omega]at hst
        simp -implicitDefEqProofs [D1u,hki,A1o,hc3,hc3']
        refine Next.mk () trivial ?_
        unfold S104
        rw[hst]
        exact A0i (k:=0) rk (by omega) (by omega) (by simp -implicitDefEqProofs [A0f,A0e,ren,under])
      ·obtain rfl:i=k:=by omega
       simp -implicitDefEqProofs [D1u,hki]
       refine Next.mk () trivial ?_
       unfold S104
       exact A0i (k:=0) rk (by omega) (by omega) (by simp -implicitDefEqProofs [A0f,A0e,ren,under])
    ·rintro _ -
     refine A0c D1t ?_
     have rk:=A0j.head' eB 101 0 (A4s i l i)
     have e1:IntKind.i64.wrap ((i:Int)+1)=((i+1:Nat):Int):=A0k (by omega) (by omega)
     simp -implicitDefEqProofs [S104,e1]
     refine Next.mk (i+1,A4s i l i) ⟨⟨by simp only;omega,hf.trans (B8x i l i),?_⟩,by simp only;omega⟩ (A0i (k:=0) rk (by omega) (by omega) (by simp -implicitDefEqProofs [A0f,A0e,ren,under]))
     rw[<-he,show 300-i=(300-(i+1))+1 by omega]
     simp only[famF,if_pos hc]
   ·have hfin:A2z codes=l:=by
     rw[<-he]
     cases hh:300-i with
     | zero=>rfl
     | succ f=>simp only[famF,if_neg hc]
    refine A0c D1t ?_
    by_cases hc1:i<l.length
    ·have hc2:¬l.length<=256:=fun h=>hc ⟨hc1,h⟩
     have hc2':¬(l.length:Int)<=256:=by omega
     simp -implicitDefEqProofs [S104,A1o,hc1,hc2,hc2']
     refine Next.mk () trivial ?_
     unfold F5i
     rw[hfin]
     exact A0i (k:=0) r0 (by omega) (by omega) (by simp -implicitDefEqProofs [A0f,A0e,ren,under])
    ·simp -implicitDefEqProofs [S104,A1o,hc1]
     refine Next.mk () trivial ?_
     unfold F5i
     rw[hfin]
     exact A0i (k:=0) r0 (by omega) (by omega) (by simp -implicitDefEqProofs [A0f,A0e,ren,under])
 ·rintro _ -
  refine A0c D1t ?_
  have tt:=(A0j.head' eB 101 0 (A2z codes)).toT
  simp -implicitDefEqProofs [F5i,tt]
theorem D1v {α:Type} {e:Enc α} {ty:Nat} {H:Heap} {b:Nat} {l:List α} (h:A0j e ty H b l):frzP H [b] (rowP e b l) = .t (A0l e l):=by
 unfold frzP
 rw[h.toT]
 cases l<;>simp[B0m]
theorem C0w (H:Heap) (F:List Nat) (x:T):frzP H F (.t x) = .t x:=by simp[frzP]
noncomputable def B8y:List T->Option T:=g2 (tSl eTD) (tSl eStr) fun d l=>open Classical in if Good d/\l.length<=cap then some (A0l eStr (A6y d l))else none
theorem D0d:GOK Try.prog G 132 B8y:=A5x fun a b x y r ha hb hr=>by
 split at hr
 ·rename_i h;injection hr with hr;subst hr;exact D5g ha h.1 hb h.2
 ·cases hr
theorem C5v {t u:T} {d:List TD} {l:List Str} (ht:IsS eTD t d) (hg:Good d) (hu:IsS eStr u l) (hl:l.length<=cap):B8y [t,u]=some (A0l eStr (A6y d l)):=
 (A4z (τ:=tSl eTD) (σ:=tSl eStr) ht hu).trans (if_pos ⟨hg,hl⟩)
noncomputable def tb19:Tbl:=[(130,gB2 fEq),(131,gHas),(132,B8y)]
theorem C7s:Ctx Try.prog G (orc tb19):=(A1q.cons (B1l E1z) (.cons (D8h C4s D1j) (.cons D0d .nil))).ctx A1w
def eqS (x y:List W):Bool:=subL x y&&subL y x
def A4r (all:List Str) (b:List W):Nat->List Str
 | 0=>[]
 | j+1=>A4r all b j++(if hasL b j then [all.getD j A2r]else [])
theorem B1c (all:List Str) (b:List W):∀j,(A4r all b j).length<=j
 | 0=>by simp[A4r]
 | j+1=>by
  have:=B1c all b j
  simp only[A4r,List.length_append]
  split<;>simp<;>omega
theorem D0e {all:List Str} {b:List W} {u:Str}:∀{j:Nat},j<=all.length->u∈A4r all b j->u∈all
 | 0,_,h=>by simp[A4r]at h
 | j+1,hj,h=>by
  simp only[A4r]at h
  rcases List.mem_append.1 h with h | h
  ·exact D0e (by omega) h
  ·split at h
   ·simp only[List.mem_singleton]at h
    subst h
    simp[List.getD_eq_getElem?_getD,show j<all.length by omega]
   ·cases h
abbrev amp:Str:=⟨#[38]⟩
def A3t (l:List Str):Nat->Str
 | 0=>A2r
 | j+1=>(if 0<j then A3t l j++amp else A3t l j)++l.getD j A2r
theorem C5w (l:List Str) (hs:∀s∈l,s.size<=cap):∀j,j<=l.length->(A3t l j).size<=j*(cap+1)
 | 0,_=>by simp[A3t];rfl
 | j+1,hj=>by
  have ih:=C5w l hs j (by omega)
  have h1:(l.getD j A2r).size<=cap:=by
   have e:l.getD j A2r=l[j]:=by simp[List.getD_eq_getElem?_getD,show j<l.length by omega]
   rw[e];exact hs _ (List.getElem_mem _)
  simp only[A3t]
  rw[Nat.succ_mul]
  split
  ·simp only[ByteArray.size_append]
   have:amp.size=1:=rfl
   omega
  ·simp only[ByteArray.size_append]
   omega
noncomputable def A9v (d:List TD) (all:List Str) (codes:List (List W)) (b:List W):Str:=
 if codes.findIdx (fun x=>eqS x b)<codes.length then all.getD (codes.findIdx fun x=>eqS x b) A2r
 else A3t (A6y d (A4r all b all.length)) (A6y d (A4r all b all.length)).length
def G1o (codes:List (List W)) (b:List W):Prop:=codes.findIdx (fun x=>eqS x b)=codes.length
def S105 (t u c:T) (all:List Str) (b:List W) (j:Nat):A0b:=⟨[(10,.t (iv (j:Int))),(9,rowP eStr 0 (A4r all b j)),(3,.t (encB b)),(2,.t c),(1,.t u),(0,.t t)],rowH eStr 9 0 (A4r all b j),1,59⟩
def D5j (l:List Str) (j:Nat):A0b:=⟨[(12,.t (iv (j:Int))),(11,.t (sv (A3t l j))),(9,.t (A0l eStr l))],[],1,59⟩
theorem E5l {t u c:T} {d:List TD} {all:List Str} {codes:List (List W)} (ht:IsS eTD t d) (hg:Good d) (hu:IsS eStr u all) (hc:IsS eB c codes) (hlen:codes.length=all.length) (hl:all.length<=256)
  (hsz:∀s∈all,s.size<=cap) (hcs:∀x∈codes,x.length<=64) {b:List W} (hb:b.length<=64):A0y Try.prog G 105 [t,u,c,encB b] (· = sv (A9v d all codes b)):=by
 have hz:eStr.z=1:=rfl
 refine C9v.call rfl ?_
 unfold C0p
 refine A0a C7s ?_
 simp -implicitDefEqProofs
 refine A0a C7s ?_
 simp -implicitDefEqProofs
 refine A0q (fun _:Unit=>S105 t u c all b all.length) (fun _=>G1o codes b) (fun _=>rfl) ?_ ?_
 ·refine A0a C7s ?_
  simp -implicitDefEqProofs
  refine A0g ?_
  refine A1r (S105 t u c all b) (fun k=>all.length-k) (fun k=>k<=codes.findIdx fun x=>eqS x b) 0 (fun _=>rfl) (Nat.zero_le _) ?_ rfl ?_
  ·exact A0i (k:=0) (A0j.nil _ _ _ _) (by omega) (by omega) (by simp -implicitDefEqProofs [A4r,rowP,ren,under])
  ·intro j hj
   have hle:=A3z (fun x=>eqS x b) codes
   have r0:=A0j.head' eStr 9 0 (A4r all b j)
   refine A0c C7s ?_
   by_cases hjl:j<all.length
   ·obtain⟨x,hx⟩:∃x,codes[j]?=some x:=⟨_,List.getElem?_eq_getElem (by omega)⟩
    obtain⟨s,hs⟩:∃s,all[j]?=some s:=⟨_,List.getElem?_eq_getElem hjl⟩
    have hgd:all.getD j A2r=s:=by simp[List.getD_eq_getElem?_getD,hs]
    have ia:=ia_B hc hx
    have ib:=B3a hu hs
    have ge:gB2 fEq [encB x,encB b]=some (bv (eqS x b)):=B5i (A1g x) (A1g b) (Nat.le_trans (hcs x (List.mem_of_getElem? hx)) (by omega)) (by omega)
    have gh:=E1s (A1g b) j (by omega)
    have e1:IntKind.i64.wrap ((j:Int)+1)=((j+1:Nat):Int):=A0k (by omega) (by omega)
    have hpl:=B1c all b j
    have lp:∀(cs:List T) (c:T),A0h false 1 (rowH eStr 9 0 (A4r all b j)) (.t (.pt (c::cs)))=some (.t c):=fun cs c=>rfl
    cases z1:eqS x b with
    | true=>
     have hidx:codes.findIdx (fun x=>eqS x b)=j:=by
      rcases Nat.lt_or_ge j (codes.findIdx fun x=>eqS x b)with h | h
      ·have:=A2n (p:=fun x=>eqS x b) h hx
       rw[z1]at this;cases this
      ·omega
     have hn:A9v d all codes b=s:=by
      unfold A9v
      rw[hidx,if_pos (by omega),hgd]
     rw[z1]at ge
     simp -implicitDefEqProofs [S105,hjl,hu.len,ia,lp,tb19,ge,ib,hn]
    | false=>
     have hlt:j<codes.findIdx fun x=>eqS x b:=by
      rcases Nat.lt_or_ge j (codes.findIdx fun x=>eqS x b)with h | h
      ·exact h
      ·have hej:codes.findIdx (fun x=>eqS x b)=j:=by omega
       obtain⟨y,hy,hp⟩:=A2a (p:=fun x=>eqS x b) (l:=codes) (by omega)
       rw[hej,hx]at hy
       injection hy with hy
       subst hy
       rw[z1]at hp;cases hp
     rw[z1]at ge
     have ps:A4r all b (j+1)=A4r all b j++(if hasL b j then [s]else []):=by simp only[A4r,hgd]
     cases z2:hasL b j with
     | false=>
      rw[z2]at ps gh
      simp only[Bool.false_eq_true,if_false,List.append_nil]at ps
      simp -implicitDefEqProofs [S105,hjl,hu.len,ia,lp,tb19,ge,gh,e1]
      refine Next.mk (j+1) ⟨by omega,by omega⟩ ?_
      unfold S105
      rw[ps]
      exact A0i (k:=0) r0 (by omega) (by omega) (by simp -implicitDefEqProofs [A0f,A0e,ren,under])
     | true=>
      rw[z2]at ps gh
      simp only[if_true]at ps
      have bs:A1l 9 1 [.string ⟨#[]⟩] 1 [(0,.t (sv s))] 1=some (.row 1 0 1 1,.cells 9 [.t (sv s)]):=rfl
      obtain⟨b2,H2,n2,ap2,r2,ne2,_⟩:=A1j (e:=eStr) (ty:=9) (by':=16) (nx:=2) (m:=[s]) (r0.cons (k:=1) (r:=.cells 9 [.t (sv s)]) (by omega)) (A2w (b:=1) (ty:=9) _ (by simp[eStr])) (by simp;omega) (by simp;omega)
      rw[hz]at ap2
      simp -implicitDefEqProofs [S105,hjl,hu.len,ia,lp,tb19,ge,gh,ib,bs,ap2,e1]
      refine Next.mk (j+1) ⟨by omega,by omega⟩ ?_
      unfold S105
      rw[ps]
      exact A0i (k:=b2) r2 (by omega) (by omega) (by simp -implicitDefEqProofs [A0f,A0e,ren,under])
   ·have hje:j=all.length:=by omega
    subst hje
    simp -implicitDefEqProofs [S105,hu.len]
    exact Next.mk () (by show codes.findIdx (fun x=>eqS x b)=codes.length;omega) (A0i (k:=0) r0 (by omega) (by omega) (by simp -implicitDefEqProofs [A0f,A0e,ren,under]))
 ·rintro _ hnone
  have hnone:codes.findIdx (fun x=>eqS x b)=codes.length:=hnone
  have hn:A9v d all codes b=A3t (A6y d (A4r all b all.length)) (A6y d (A4r all b all.length)).length:=by
   unfold A9v
   rw[if_neg (by omega)]
  rw[hn]
  obtain⟨p,hp⟩:∃p,p=A4r all b all.length:=⟨_,rfl⟩
  have hpl:=B1c all b all.length
  have hpm:∀s∈p,s∈all:=fun s hs=>D0e (Nat.le_refl _) (hp▸hs)
  rw[<-hp]at hpl ⊢
  obtain⟨l,hl2⟩:∃l,l=A6y d p:=⟨_,rfl⟩
  have hll:l.length<=256:=by
   rw[hl2]
   unfold A6y
   have h1:=B3c d (decl d p) (decl d p).length
   have h2:(decl d p).length<=p.length:=by rw[<-C0v];exact A7k d p p.length
   omega
  have hls:∀s∈l,s.size<=cap:=fun s hs=>hsz s (hpm s (D8v (by rw[hl2]at hs;exact hs)).1)
  have gm:=C5v ht hg (IsS.tree eStr p) (by unfold cap;omega)
  rw[<-hl2]at gm ⊢
  have tt:=(A0j.head' eStr 9 0 p).toT
  have hL:=IsS.tree eStr l
  refine A0a C7s ?_
  simp -implicitDefEqProofs [S105,<-hp,tt,tb19,gm]
  refine A0a C7s ?_
  simp -implicitDefEqProofs
  refine A0q (fun _:Unit=>D5j l l.length) (fun _=>True) (fun _=>rfl) ?_ ?_
  ·refine A0a C7s ?_
   simp -implicitDefEqProofs
   refine A0g ?_
   refine A1a (D5j l) l.length (fun _=>rfl) ?_ rfl ?_ ?_
   ·exact B8f (by omega) (by simp -implicitDefEqProofs [D5j,A3t,under])
   ·intro j hj
    refine A0c C7s ?_
    obtain⟨s,hs⟩:∃s,l[j]?=some s:=⟨_,List.getElem?_eq_getElem hj⟩
    have hgd:l.getD j A2r=s:=by simp[List.getD_eq_getElem?_getD,hs]
    have ia:=B3a hL hs
    have e1:IntKind.i64.wrap ((j:Int)+1)=((j+1:Nat):Int):=A0k (by omega) (by omega)
    have hs1:=C5w l hls j (Nat.le_of_lt hj)
    have hs2:=hls s (List.mem_of_getElem? hs)
    unfold cap at hs1 hs2
    have hs3:j*(1000000000000+1)<=256*(1000000000000+1):=Nat.mul_le_mul_right _ (by omega)
    by_cases h0:0<j
    ·have js:A3t l (j+1)=(A3t l j++amp)++s:=by simp only[A3t,if_pos h0,hgd]
     have hsa:(A3t l j++amp).size=(A3t l j).size+1:=by rw[ByteArray.size_append];rfl
     have a1:∀Φ H nx,A0m Φ H nx (.bin false .add none) [.t (sv (A3t l j)),.t (sv amp)]=some (.t (sv (A3t l j++amp)),H,nx):=fun Φ H nx=>C0h _ _ _ _ (by have:amp.size=1:=rfl;omega)
     have a2:∀Φ H nx,A0m Φ H nx (.bin false .add none) [.t (sv (A3t l j++amp)),.t (sv s)]=some (.t (sv ((A3t l j++amp)++s)),H,nx):=fun Φ H nx=>C0h _ _ _ _ (by omega)
     simp -implicitDefEqProofs [D5j,hj,hL.len,h0,a1,ia,A0h,a2,e1]
     exact B8f (by omega) (by simp -implicitDefEqProofs [js,under])
    ·have js:A3t l (j+1)=A3t l j++s:=by simp only[A3t,if_neg h0,hgd]
     have a2:∀Φ H nx,A0m Φ H nx (.bin false .add none) [.t (sv (A3t l j)),.t (sv s)]=some (.t (sv (A3t l j++s)),H,nx):=fun Φ H nx=>C0h _ _ _ _ (by omega)
     simp -implicitDefEqProofs [D5j,hj,hL.len,h0,ia,A0h,a2,e1]
     exact B8f (by omega) (by simp -implicitDefEqProofs [js,under])
   ·refine A0c C7s ?_
    simp -implicitDefEqProofs [D5j,hL.len]
    exact Next.mk () trivial (B8f (by omega) (by simp -implicitDefEqProofs [D5j,under]))
  ·rintro _ -
   refine A0c C7s ?_
   simp -implicitDefEqProofs [D5j]
structure Co where
 name:Str
 code:List W
def eCo:Enc Co:=⟨2,fun x=>[sv x.name,encB x.code],fun _=>rfl,by omega,fun a b h=>by
 obtain⟨a1,a2⟩:=a
 obtain⟨b1,b2⟩:=b
 injection h with h1 h2
 injection h2 with h2 _
 have e:=A1g a2
 simp only at h2
 rw[h2,A1g]at e
 injection e with e
 injection h1 with h1
 injection h1 with h1
 have h1:a1=b1:=h1
 simp[h1,e]⟩
def A8q (a b:Co):Bool:=decide (cnt b.code<cnt a.code)||(decide (cnt a.code=cnt b.code)&&B8o a.name b.name)
theorem D8z {a b:Co} (ha:a.code.length<=1000) (hb:b.code.length<=1000):A0y Try.prog G 106 [.ag (eCo.enc a),.ag (eCo.enc b)] (· = bv (A8q a b)):=by
 have ok:A1q Try.prog G [(133,gB1 fCnt)]:=.cons (F7j D8j) .nil
 have e1:gB1 fCnt [encB a.code]=some (fCnt a.code):=E9t (A1g a.code) ha
 have e2:gB1 fCnt [encB b.code]=some (fCnt b.code):=E9t (A1g b.code) hb
 refine C1x.runs (ok.ctx A1w) rfl ?_
 by_cases h1:cnt b.code<cnt a.code
 ·simp -implicitDefEqProofs [A6n,eCo,A0s,A0h,e1,e2,fCnt,A8q,h1]
 ·by_cases h2:cnt a.code=cnt b.code
  ·simp -implicitDefEqProofs [A6n,eCo,A0s,A0h,e1,e2,fCnt,A8q,h1,h2]
  ·have h2':((cnt a.code:Int)==(cnt b.code:Int))=false:=by rw[beq_eq_false_iff_ne];omega
   simp -implicitDefEqProofs [A6n,eCo,A0s,A0h,e1,e2,fCnt,A8q,h1,h2,h2']
end Go.Proofs.Ytbiadmfmjnoecaa
