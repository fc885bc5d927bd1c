/-
 Auxiliary facts. No statement of the program stands here.
-/
import Derived.Test.YtbiadmfmjnoecaaVRQ22
import Derived.Test.YtbiadmfmjnoecaaVRQ16
namespace Go.Proofs.Ytbiadmfmjnoecaa
set_option linter.unusedSimpArgs false
set_option linter.unusedVariables false
open Go Go.Abs
theorem nodup_le {α:Type}:∀{l m:List α},l.Nodup->(∀x∈l,x∈m)->l.length<=m.length
 | [],m,_,_=>by simp
 | a::l,m,hn,hs=>by
  obtain⟨m1,m2,e⟩:=List.append_of_mem (hs a (by simp))
  rw[List.nodup_cons]at hn
  have:=nodup_le (l:=l) (m:=m1++m2) hn.2 fun x hx=>by
   have h1:=hs x (by simp[hx])
   rw[e]at h1
   simp only[List.mem_append,List.mem_cons]at h1 ⊢
   rcases h1 with h1 | rfl | h1
   ·exact .inl h1
   ·exact absurd hx hn.1
   ·exact .inr h1
  rw[e]
  simp only[List.length_append,List.length_cons]at this ⊢
  omega
noncomputable def B2k (out:List Str) (st:Bool×Str) (x:TD):Bool×Str:=
 if hasS out x.name || !B1b x out then st else(true,if !st.1||C0h x.name st.2 then x.name else st.2)
abbrev A2z:Str:=⟨#[]⟩
noncomputable def pick (d:List TD) (out:List Str):Bool×Str:=d.foldl (B2k out) (false,A2z)
noncomputable def B7i (d:List TD) (out:List Str) (i:Nat):Bool×Str:=(d.take i).foldl (B2k out) (false,A2z)
theorem E3d {d:List TD} {out:List Str} {i:Nat} {x:TD} (h:d[i]?=some x):B7i d out (i+1)=B2k out (B7i d out i) x:=by
 unfold B7i
 rw[List.take_add_one,h]
 simp[List.foldl_append]
theorem F1k (d:List TD) (out:List Str):B7i d out d.length=pick d out:=by unfold B7i pick;rw[List.take_length]
theorem D9f {d:List TD} {out:List Str} (h:(pick d out).1=true):∃x∈d,x.name=(pick d out).2/\hasS out x.name=false/\B1b x out=true:=by
 have key:∀(l:List TD) (st:Bool×Str),(∀x∈l,x∈d)->(st.1=true->∃x∈d,x.name=st.2/\hasS out x.name=false/\B1b x out=true) ->
   (l.foldl (B2k out) st).1=true->∃x∈d,x.name=(l.foldl (B2k out) st).2/\hasS out x.name=false/\B1b x out=true:=by
  intro l
  induction l with
  | nil=>intro st _ hst h;exact hst h
  | cons x l ih=>
   intro st hl hst h
   rw[List.foldl_cons]at h ⊢
   refine ih _ (fun y hy=>hl y (by simp[hy])) (fun hs=>?_) h
   unfold B2k at hs ⊢
   split at hs
   ·rename_i h1
    rw[if_pos h1]
    exact hst hs
   ·rename_i h1
    rw[if_neg h1]
    simp only[Bool.or_eq_true,Bool.not_eq_true',not_or,Bool.not_eq_false]at h1
    by_cases h2:(!st.1||C0h x.name st.2)=true
    ·rw[if_pos h2]
     exact⟨x,hl x (by simp),rfl,by simpa using h1.1,h1.2⟩
    ·rw[if_neg h2]
     simp only[Bool.or_eq_true,Bool.not_eq_true',not_or,Bool.not_eq_false]at h2
     exact hst h2.1
 exact key d (false,A2z) (fun x hx=>hx) (fun h=>by cases h) h
noncomputable def B4l (d:List TD):Nat->List Str->List Str
 | 0,out=>out
 | k+1,out=>if(pick d out).1 then B4l d k (out++[(pick d out).2])else out
noncomputable def A4u (d:List TD):List Str:=B4l d (d.length+1) []
theorem D9g {d:List TD} {out:List Str} (h:(pick d out).1=false) (k:Nat):B4l d k out=out:=by
 cases k with
 | zero=>rfl
 | succ k=>simp[B4l,h]
structure Plc (d:List TD) (out:List Str):Prop where
 nodup:out.Nodup
 sub:∀s∈out,∃x∈d,x.name=s
 eq:B4l d (d.length+1-out.length) out=A4u d
theorem Plc.le {d:List TD} {out:List Str} (h:Plc d out):out.length<=d.length:=by
 have:=nodup_le (m:=d.map TD.name) h.nodup fun s hs=>by
  obtain⟨x,hx,e⟩:=h.sub s hs
  exact List.mem_map.2 ⟨x,hx,e⟩
 simpa using this
theorem Plc.nil (d:List TD):Plc d []:=⟨List.nodup_nil,(fun _ h=>by cases h),rfl⟩
theorem Plc.next {d:List TD} {out:List Str} (h:Plc d out) (hp:(pick d out).1=true):Plc d (out++[(pick d out).2]):=by
 obtain⟨x,hx,e,h1,h2⟩:=D9f hp
 have hle:=h.le
 refine⟨?_,?_,?_⟩
 ·rw[List.nodup_append]
  refine⟨h.nodup,by simp,fun a ha b hb=>?_⟩
  simp only[List.mem_singleton]at hb
  subst hb
  intro e2
  subst e2
  rw[<-e]at ha
  rw[(A6d out x.name).2 ha]at h1
  cases h1
 ·intro s hs
  rcases List.mem_append.1 hs with hs | hs
  ·exact h.sub s hs
  ·simp only[List.mem_singleton]at hs
   exact⟨x,hx,by rw[hs,e]⟩
 ·rw[<-h.eq,List.length_append,List.length_singleton,show d.length+1-out.length=(d.length+1-(out.length+1))+1 by omega]
  simp[B4l,hp]
noncomputable def F6k:List T->Option T:=g2 (tAg eTD) (tSl eStr) fun x l=>open Classical in if x.OK/\l.length<=cap then some (bv (B1b x l))else none
theorem G2w:GOK Try.prog G 138 F6k:=A6w fun a b x y r ha hb hr=>by
 obtain rfl:a = .ag (eTD.enc x):=ha
 split at hr
 ·rename_i h;injection hr with hr;subst hr;exact F1j h.1 hb h.2
 ·cases hr
theorem F6l {x:TD} (ok:x.OK) {u:T} {l:List Str} (hu:IsS eStr u l) (hl:l.length<=cap):F6k [.ag [sv x.name,x.supers,x.feats],u]=some (bv (B1b x l)):=by
 exact(A5y (τ:=tAg eTD) (σ:=tSl eStr) (x:=x) (y:=l) rfl hu).trans (if_pos ⟨ok,hl⟩)
noncomputable def tb13:Tbl:=[(127,B7g),(138,F6k)]
theorem C5a:Ctx Try.prog G (orc tb13):=(A1t.cons B5u (.cons G2w .nil)).ctx A1u
def S125 (t:T) (a:Bool×List Str):A0b:=⟨[(4,.t (bv a.1)),(3,rowP eStr 0 a.2),(0,.t t)],rowH eStr 9 0 a.2,1,52⟩
noncomputable def D0u (t:T) (d:List TD) (out:List Str) (i:Nat):A0b:=⟨[(6,.t (iv (i:Int))),(5,.t (sv (B7i d out i).2)),(4,.t (bv (B7i d out i).1)),(3,rowP eStr 0 out),(0,.t t)],rowH eStr 9 0 out,1,52⟩
theorem E3e {t:T} {d:List TD} (ht:IsS eTD t d) (hd:DOK d):A0y Try.prog G 125 [t] (· = A0k eStr (A4u d)):=by
 obtain⟨hdl,hd⟩:=hd
 refine C4j.call rfl ?_
 unfold B4j
 refine A0a C5a ?_
 simp -implicitDefEqProofs
 refine A0a C5a ?_
 simp -implicitDefEqProofs
 refine A0s (fun _:Unit=>S125 t (false,A4u d)) (fun _=>True) (fun _=>rfl) ?_ ?_
 ·refine A0a C5a ?_
  simp -implicitDefEqProofs
  refine A0h ?_
  refine A2o (S125 t) (fun a=>if a.1 then d.length+2-a.2.length else 0) (fun a=>Plc d a.2/\(a.1=false->(pick d a.2).1=false)) (true,[]) (fun _=>rfl) ⟨Plc.nil d,fun h=>by cases h⟩ ?_ rfl ?_
  ·exact A0i (k:=0) (A0j.nil _ _ _ _) (by omega) (by omega) (by simp -implicitDefEqProofs [rowP,ren,under])
  ·rintro⟨m,out⟩ ⟨hp,hm⟩
   have hle:out.length<=d.length:=hp.le
   have r0:=A0j.head' eStr 9 0 out
   have tt:=r0.toT
   cases m with
   | false=>
    have he:out=A4u d:=by rw[<-hp.eq,D9g (hm rfl)]
    refine A0d C5a ?_
    simp -implicitDefEqProofs [S125]
    rw[he]
    exact Next.mk () trivial (Sub.refl _ |>.trans (A0i (k:=0) (A0j.head' _ _ _ _) (by omega) (by omega) (by simp -implicitDefEqProofs [A0g,A0e,ren,under])))
   | true=>
    refine A0a C5a ?_
    simp -implicitDefEqProofs [S125]
    refine A0h ?_
    refine A0a C5a ?_
    simp -implicitDefEqProofs
    refine A0a C5a ?_
    simp -implicitDefEqProofs
    refine A0s (fun _:Unit=>D0u t d out d.length) (fun _=>True) (fun _=>rfl) ?_ ?_
    ·refine A0a C5a ?_
     simp -implicitDefEqProofs
     refine A0h ?_
     refine A1b (D0u t d out) d.length (fun _=>rfl) ?_ rfl ?_ ?_
     ·exact A0i (k:=0) r0 (by omega) (by omega) (by simp -implicitDefEqProofs [B7i,A0g,A0e,ren,under])
     ·intro i hi
      refine A0d C5a ?_
      obtain⟨x,hx⟩:∃x,d[i]?=some x:=⟨_,List.getElem?_eq_getElem hi⟩
      have ok:=hd x (List.mem_of_getElem? hx)
      have e1:IntKind.i64.wrap ((i:Int)+1)=((i+1:Nat):Int):=A0l (by omega) (by omega)
      have ia:=ht.iaddr hx .i64
      simp only[eTD,List.cons_append,List.nil_append]at ia
      have ga:=A6e (IsS.tree eStr out) x.name (by unfold cap;omega)
      have gr:=F6l ok (IsS.tree eStr out) (by unfold cap;omega)
      have ps:=E3d (out:=out) hx
      unfold B2k at ps
      cases z1:hasS out x.name with
      | true=>
       rw[z1]at ps
       simp only[Bool.true_or,if_true]at ps
       simp -implicitDefEqProofs [D0u,hi,ht.len,ia,A0f,tt,tb13,ga,z1,e1]
       exact A0i (k:=0) r0 (by omega) (by omega) (by simp -implicitDefEqProofs [ps,A0g,A0e,ren,under])
      | false=>
       cases z2:B1b x out with
       | false=>
        rw[z1,z2]at ps
        simp only[Bool.false_or,Bool.not_false,if_true]at ps
        simp -implicitDefEqProofs [D0u,hi,ht.len,ia,A0f,tt,tb13,ga,gr,z1,z2,e1]
        exact A0i (k:=0) r0 (by omega) (by omega) (by simp -implicitDefEqProofs [ps,A0g,A0e,ren,under])
       | true=>
        rw[z1,z2]at ps
        simp only[Bool.false_or,Bool.not_true,Bool.false_eq_true,if_false]at ps
        cases z3:(B7i d out i).1 with
        | false=>
         rw[z3]at ps
         simp only[Bool.not_false,Bool.true_or,if_true]at ps
         simp -implicitDefEqProofs [D0u,hi,ht.len,ia,A0f,tt,tb13,ga,gr,z1,z2,z3,e1]
         exact A0i (k:=0) r0 (by omega) (by omega) (by simp -implicitDefEqProofs [ps,A0g,A0e,ren,under])
        | true=>
         rw[z3]at ps
         cases z4:C0h x.name (B7i d out i).2 with
         | true=>
          rw[z4]at ps
          simp only[Bool.or_true,if_true]at ps
          simp -implicitDefEqProofs [D0u,hi,ht.len,ia,A0f,tt,tb13,ga,gr,z1,z2,z3,z4,e1]
          exact A0i (k:=0) r0 (by omega) (by omega) (by simp -implicitDefEqProofs [ps,A0g,A0e,ren,under])
         | false=>
          rw[z4]at ps
          simp only[Bool.not_true,Bool.or_self,Bool.false_eq_true,if_false]at ps
          simp -implicitDefEqProofs [D0u,hi,ht.len,ia,A0f,tt,tb13,ga,gr,z1,z2,z3,z4,e1]
          exact A0i (k:=0) r0 (by omega) (by omega) (by simp -implicitDefEqProofs [ps,A0g,A0e,ren,under])
     ·refine A0d C5a ?_
      simp -implicitDefEqProofs [D0u,ht.len]
      exact Next.mk () trivial (A0i (k:=0) r0 (by omega) (by omega) (by simp -implicitDefEqProofs [A0g,A0e,ren,under]))
    ·rintro _ -
     refine A0d C5a ?_
     have pa:=F1k d out
     cases z:(pick d out).1 with
     | false=>
      simp -implicitDefEqProofs [D0u,pa,z]
      refine Next.mk (false,out) ⟨⟨hp,fun _=>z⟩,by simp;omega⟩ (A0i (k:=0) r0 (by omega) (by omega) (by simp -implicitDefEqProofs [A0g,A0e,ren,under]))
     | true=>
      have hn:=hp.next z
      have hnl:(out++[(pick d out).2]).length<=d.length:=hn.le
      rw[List.length_append,List.length_singleton]at hnl
      have bs:A1p 9 1 [.string ⟨#[]⟩] 1 [(0,.t (sv (pick d out).2))] 1=some (.row 1 0 1 1,.cells 9 [.t (sv (pick d out).2)]):=rfl
      obtain⟨b2,H2,n2,ap2,r2,ne2,_⟩:=A1k (e:=eStr) (ty:=9) (by':=16) (nx:=2) (m:=[(pick d out).2]) (r0.cons (k:=1) (r:=.cells 9 [.t (sv (pick d out).2)]) (by omega)) (A3r (b:=1) (ty:=9) _ (by simp[eStr])) (by simp;omega) (by simp;omega)
      have hsz:eStr.z=1:=rfl
      rw[hsz]at ap2
      simp -implicitDefEqProofs [D0u,pa,z,bs,ap2]
      refine Next.mk (true,out++[(pick d out).2]) ⟨⟨hn,fun h=>by cases h⟩,by simp;omega⟩ (A0i (k:=b2) r2 (by omega) (by omega) (by simp -implicitDefEqProofs [A0g,A0e,ren,under]))
 ·rintro _ -
  refine A0d C5a ?_
  have tt:=(A0j.head' eStr 9 0 (A4u d)).toT
  simp -implicitDefEqProofs [S125,tt]
noncomputable def gD (f:List TD->T):List T->Option T:=g1 (tSl eTD) fun d=>open Classical in if DOK d then some (f d)else none
theorem B4m {F:Nat} {f:List TD->T} (h:∀{t:T} {d:List TD},IsS eTD t d->DOK d->A0y Try.prog G F [t] (· = f d)):GOK Try.prog G F (gD f):=C4w fun a x r ha hr=>by
 split at hr
 ·rename_i hd;injection hr with hr;subst hr;exact h ha hd
 ·cases hr
theorem B3e {f:List TD->T} {t:T} {d:List TD} (ht:IsS eTD t d) (hd:DOK d):gD f [t]=some (f d):=
 (C4x (τ:=tSl eTD) ht).trans (if_pos hd)
noncomputable def A9b (d:List TD) (j:Nat):Nat:=(d.take j).countP fun x=>x.ss.isEmpty
noncomputable def roots (d:List TD):Nat:=d.countP fun x=>x.ss.isEmpty
theorem D9h {d:List TD} {j:Nat} {x:TD} (h:d[j]?=some x):A9b d (j+1)=A9b d j+if x.ss.length=0 then 1 else 0:=by
 unfold A9b
 rw[List.take_add_one,h,List.countP_append]
 by_cases hx:x.ss.length=0
 ·have:x.ss.isEmpty=true:=by simpa using hx
  rw[if_pos hx]
  simp[this]
 ·have:x.ss.isEmpty=false:=by
   cases h2:x.ss with
   | nil=>rw[h2]at hx;simp at hx
   | cons a r=>rfl
  rw[if_neg hx]
  simp[this]
theorem F1l (d:List TD) (j:Nat):A9b d j<=d.length:=by
 unfold A9b
 have:=List.countP_le_length (p:=fun x:TD=>x.ss.isEmpty) (l:=d.take j)
 simp at this
 omega
noncomputable def A3m (d:List TD):Int:=
 if A8z d≠0 then A8z d else if B7h d≠0 then B7h d else if A9a d≠0 then A9a d else if roots d≠1 then 1 else if(A4u d).length<d.length then 6 else 0
noncomputable def tb14:Tbl:=[(122,gD fun d=>iv (A8z d)),(123,gD fun d=>iv (B7h d)),(124,gD fun d=>iv (A9a d)),(125,gD fun d=>A0k eStr (A4u d))]
theorem C5b:Ctx Try.prog G (orc tb14):=(A1t.cons (B4m F1i) (.cons (B4m E3b) (.cons (B4m E3c) (.cons (B4m E3e) .nil)))).ctx A1u
noncomputable def S101 (t:T) (d:List TD) (j:Nat):A0b:=⟨[(7,.t (iv (j:Int))),(6,.t (iv (A9b d j:Int))),(0,.t t)],[],0,46⟩
theorem A7h {E:Int} (h:¬E=0):(E != 0)=true:=by simpa using h
theorem E3f {t:T} {d:List TD} (ht:IsS eTD t d) (hd:DOK d):A0y Try.prog G 101 [t] (· = iv (A3m d)):=by
 have hdl:=hd.1
 have q1:=B3e (f:=fun d=>iv (A8z d)) ht hd
 have q2:=B3e (f:=fun d=>iv (B7h d)) ht hd
 have q3:=B3e (f:=fun d=>iv (A9a d)) ht hd
 have q4:=B3e (f:=fun d=>A0k eStr (A4u d)) ht hd
 refine C7t.call rfl ?_
 unfold B8i
 refine A0a C5b ?_
 simp -implicitDefEqProofs
 by_cases h1:A8z d=0
 ·refine A0a C5b ?_
  simp -implicitDefEqProofs [tb14,q1,h1]
  by_cases h2:B7h d=0
  ·refine A0a C5b ?_
   simp -implicitDefEqProofs [tb14,q2,h2]
   by_cases h3:A9a d=0
   ·refine A0a C5b ?_
    simp -implicitDefEqProofs [tb14,q3,h3]
    refine A0a C5b ?_
    simp -implicitDefEqProofs
    have hE:A3m d=if roots d≠1 then 1 else if(A4u d).length<d.length then 6 else 0:=by simp[A3m,h1,h2,h3]
    rw[hE]
    refine A0s (fun _:Unit=>S101 t d d.length) (fun _=>True) (fun _=>rfl) ?_ ?_
    ·refine A0a C5b ?_
     simp -implicitDefEqProofs
     refine A0h ?_
     refine A1b (S101 t d) d.length (fun _=>rfl) ?_ rfl ?_ ?_
     ·refine A0c rfl rfl ?_ ?_<;>simp -implicitDefEqProofs [S101,A9b]
     ·intro j hj
      refine A0d C5b ?_
      obtain⟨x,hx⟩:∃x,d[j]?=some x:=⟨_,List.getElem?_eq_getElem hj⟩
      have ok:=hd.2 x (List.mem_of_getElem? hx)
      have e1:IntKind.i64.wrap ((j:Int)+1)=((j+1:Nat):Int):=A0l (by omega) (by omega)
      have hr:=F1l d j
      have e2:IntKind.i64.wrap ((A9b d j:Int)+1)=((A9b d j+1:Nat):Int):=A0l (by omega) (by omega)
      have ia:=ht.iaddr hx .i64
      simp only[eTD,List.cons_append,List.nil_append]at ia
      have rs:=D9h hx
      by_cases z:x.ss.length=0
      ·rw[if_pos z]at rs
       have z':((x.ss.length:Int)==0)=true:=by rw[z];rfl
       simp -implicitDefEqProofs [S101,hj,ht.len,ia,A0f,ok.ss.len,z',e1,e2]
       refine A0c rfl rfl ?_ ?_<;>simp -implicitDefEqProofs [rs]
      ·rw[if_neg z]at rs
       have z':((x.ss.length:Int)==0)=false:=by rw[beq_eq_false_iff_ne];omega
       simp -implicitDefEqProofs [S101,hj,ht.len,ia,A0f,ok.ss.len,z',e1]
       refine A0c rfl rfl ?_ ?_<;>simp -implicitDefEqProofs [rs]
     ·refine A0d C5b ?_
      simp -implicitDefEqProofs [S101,ht.len]
      exact Next.mk () trivial (A0c rfl rfl (by simp -implicitDefEqProofs) (by simp -implicitDefEqProofs))
    ·rintro _ -
     refine A0d C5b ?_
     have ra:A9b d d.length=roots d:=by unfold A9b roots;rw[List.take_length]
     by_cases h4:roots d=1
     ·have h4':((roots d:Int) != 1)=false:=by rw[h4];rfl
      by_cases h5:(A4u d).length<d.length
      ·simp -implicitDefEqProofs [S101,ra,h4',h4,tb14,q4,(IsS.tree eStr (A4u d)).len,ht.len,h5]
      ·simp -implicitDefEqProofs [S101,ra,h4',h4,tb14,q4,(IsS.tree eStr (A4u d)).len,ht.len,h5]
     ·have h4':((roots d:Int) != 1)=true:=by simp;omega
      simp -implicitDefEqProofs [S101,ra,h4',h4]
   ·have hE:A3m d=A9a d:=by simp[A3m,h1,h2,h3]
    rw[hE]
    have h3':=A7h h3
    refine A0d C5b ?_
    simp -implicitDefEqProofs [tb14,q3,h3']
  ·have hE:A3m d=B7h d:=by simp[A3m,h1,h2]
   rw[hE]
   have h2':=A7h h2
   refine A0d C5b ?_
   simp -implicitDefEqProofs [tb14,q2,h2']
 ·have hE:A3m d=A8z d:=by simp[A3m,h1]
  rw[hE]
  have h1':=A7h h1
  refine A0d C5b ?_
  simp -implicitDefEqProofs [tb14,q1,h1']
theorem B5v {d:List TD} {s:Str} (h:idxOf d s<d.length):∃x,d[idxOf d s]?=some x/\x.name=s:=by
 obtain⟨x,hx,hp⟩:=A2h (p:=fun x:TD=>decide (x.name=s)) (l:=d) h
 exact⟨x,hx,by simpa using hp⟩
theorem E7a {d:List TD} {s:Str} {i:Nat} {x:TD} (hx:d[i]?=some x) (hs:x.name=s):idxOf d s<=i:=by
 rcases Nat.lt_or_ge i (idxOf d s)with h | h
 ·have:=A2w (p:=fun x:TD=>decide (x.name=s)) (l:=d) h hx
  simp[hs]at this
 ·exact h
structure Good (d:List TD):Prop where
 ok:DOK d
 len:d.length<=256
 ssl:∀x∈d,x.ss.length<=256
 fsl:∀x∈d,x.fs.length<=256
 idx:∀(i:Nat) x,d[i]?=some x->idxOf d x.name=i
 sup:∀x∈d,∀s∈x.ss,idxOf d s<d.length
 plc:d.length<=(A4u d).length
 ne:0<d.length
theorem C0o {d:List TD} (hd:DOK d) (h:A3m d=0):Good d:=by
 unfold A3m at h
 have h1:A8z d=0:=Classical.byContradiction fun h1=>by rw[if_pos h1]at h;exact h1 h
 rw[if_neg (by rw[h1];simp)]at h
 have h2:B7h d=0:=Classical.byContradiction fun h1=>by rw[if_pos h1]at h;exact h1 h
 rw[if_neg (by rw[h2];simp)]at h
 have h3:A9a d=0:=Classical.byContradiction fun h1=>by rw[if_pos h1]at h;exact h1 h
 rw[if_neg (by rw[h3];simp)]at h
 have h4:roots d=1:=Classical.byContradiction fun h1=>by rw[if_pos h1]at h;cases h
 rw[if_neg (by rw[h4];simp)]at h
 have h5:¬(A4u d).length<d.length:=fun h1=>by rw[if_pos h1]at h;cases h
 have s0:¬256<d.length:=fun h6=>by
  have:A8z d=7:=by unfold A8z;rw[if_pos h6]
  rw[this]at h1
  cases h1
 have s1:A4t (fun _ x=>D0s x) d d.length:=A3u (by
  have:A8z d=A3j (fun _ x=>D0s x) d:=by unfold A8z A3j;rw[if_neg s0]
  rw[<-this];exact h1)
 have s2:A4t (D0t d) d d.length:=A3u (by rw[<-F6j];exact h2)
 have s3:A4t (fun _ x=>A3j (supE d x.ss) x.ss) d d.length:=A3u h3
 have at_:∀x∈d,∃i:Nat,i<d.length/\d[i]?=some x:=fun x hx=>by
  obtain⟨i,hi,e⟩:=List.getElem_of_mem hx
  exact⟨i,hi,by rw[List.getElem?_eq_getElem hi,e]⟩
 have sz:∀x∈d,x.ss.length<=256/\x.fs.length<=256:=fun x hx=>by
  obtain⟨i,hi,e⟩:=at_ x hx
  have:D0s x=0:=s1.2 i x hi e
  unfold D0s at this
  split at this
  ·cases this
  ·omega
 refine⟨hd,by omega,fun x hx=>(sz x hx).1,fun x hx=>(sz x hx).2,fun i x hx=>?_,fun x hx s hs=>?_,by omega,?_⟩
 ·have hi:=(List.getElem?_eq_some_iff.1 hx).1
  have hn:=s2.2 i x hi hx
  have hle:=E7a hx rfl
  unfold D0t at hn
  split at hn
  ·cases hn
  ·split at hn
   ·cases hn
   ·rename_i hf
    unfold A6f at hf
    rw[if_pos (by omega)]at hf
    omega
 ·obtain⟨i,hi,e⟩:=at_ x hx
  have h6:=A3u (s3.2 i x hi e)
  obtain⟨k,hk,e2⟩:=List.getElem_of_mem hs
  have:=h6.2 k s hk (by rw[List.getElem?_eq_getElem hk,e2])
  unfold supE at this
  split at this
  ·cases this
  ·rename_i hf
   unfold A6f at hf
   split at hf
   ·assumption
   ·omega
 ·cases d with
  | nil=>simp[roots]at h4
  | cons x r=>simp
theorem B2l {d:List TD} {todo:List Str} (hn:todo.Nodup) (hm:∀s∈todo,∃x∈d,x.name=s):todo.length<=d.length:=by
 have:=nodup_le (m:=d.map TD.name) hn fun s hs=>by
  obtain⟨x,hx,e⟩:=hm s hs
  exact List.mem_map.2 ⟨x,hx,e⟩
 simpa using this
noncomputable def A9c (s:Str) (todo:List Str) (x:TD):List Str:=if hasS x.ss s && !hasS todo x.name then todo++[x.name]else todo
noncomputable def A4v (d:List TD) (s:Str) (todo:List Str):List Str:=d.foldl (A9c s) todo
noncomputable def A4w (d:List TD) (s:Str):List Str:=B3y (A4v d) (d.length+1) 0 [s]
noncomputable def below (d:List TD) (s:Str):List Str:=if A6f d s<0 then []else(A4w d s).foldl put []
structure Grow (d:List TD) (a b:List Str):Prop where
 nodup:b.Nodup
 mem:∀s∈b,∃x∈d,x.name=s
 pre:∃m,b=a++m
theorem Grow.refl {d:List TD} {a:List Str} (h:a.Nodup) (hm:∀s∈a,∃x∈d,x.name=s):Grow d a a:=⟨h,hm,[],by simp⟩
theorem Grow.add {d:List TD} {a b:List Str} (h:Grow d a b) {x:TD} (hx:x∈d) (hn:hasS b x.name=false):Grow d a (b++[x.name]):=by
 obtain⟨m,e⟩:=h.pre
 refine⟨?_,?_,m++[x.name],by rw[e,List.append_assoc]⟩
 ·rw[List.nodup_append]
  refine⟨h.nodup,by simp,fun u hu v hv e2=>?_⟩
  simp only[List.mem_singleton]at hv
  subst hv;subst e2
  rw[(A6d b x.name).2 hu]at hn
  cases hn
 ·intro s hs
  rcases List.mem_append.1 hs with hs | hs
  ·exact h.mem s hs
  ·simp only[List.mem_singleton]at hs
   exact⟨x,hx,hs.symm⟩
theorem Grow.at_ {d:List TD} {a b:List Str} (h:Grow d a b) {i:Nat} {s:Str} (hs:a[i]?=some s):b[i]?=some s:=by
 obtain⟨m,rfl⟩:=h.pre
 rw[List.getElem?_append_left (List.getElem?_eq_some_iff.1 hs).1]
 exact hs
theorem Grow.len {d:List TD} {a b:List Str} (h:Grow d a b):a.length<=b.length:=by
 obtain⟨m,rfl⟩:=h.pre
 simp
noncomputable def A3a (d:List TD) (s:Str) (todo:List Str) (j:Nat):List Str:=(d.take j).foldl (A9c s) todo
theorem B4n {d:List TD} {s:Str} {todo:List Str} {j:Nat} {x:TD} (h:d[j]?=some x):A3a d s todo (j+1)=A9c s (A3a d s todo j) x:=by
 unfold A3a
 rw[List.take_add_one,h]
 simp[List.foldl_append]
theorem A9d (d:List TD) (s:Str) (todo:List Str):A3a d s todo d.length=A4v d s todo:=by unfold A3a A4v;rw[List.take_length]
theorem A5k {d:List TD} (s:Str) {todo:List Str} (h:todo.Nodup) (hm:∀s∈todo,∃x∈d,x.name=s):∀j,j<=d.length->Grow d todo (A3a d s todo j)
 | 0,_=>by simpa[A3a]using Grow.refl h hm
 | j+1,hj=>by
  have ih:=A5k s h hm j (by omega)
  obtain⟨x,hx⟩:∃x,d[j]?=some x:=⟨_,List.getElem?_eq_getElem (by omega)⟩
  rw[B4n hx]
  unfold A9c
  split
  ·rename_i hc
   simp only[Bool.and_eq_true,Bool.not_eq_true']at hc
   exact ih.add (List.mem_of_getElem? hx) hc.2
  ·exact ih
noncomputable def C4k (l:List Str):List Str:=l.foldl put []
noncomputable def B4o (l:List Str) (j:Nat):List Str:=(l.take j).foldl put []
theorem C2z {l:List Str} {j:Nat} {x:Str} (h:l[j]?=some x):B4o l (j+1)=put (B4o l j) x:=by
 unfold B4o
 rw[List.take_add_one,h]
 simp[List.foldl_append]
theorem A9u (l:List Str):∀j,(B4o l j).length<=j
 | 0=>by simp[B4o]
 | j+1=>by
  have ih:=A9u l j
  cases h:l[j]? with
  | none=>
   have:B4o l (j+1)=B4o l j:=by unfold B4o;rw[List.take_add_one,h];simp
   rw[this];omega
  | some x=>
   rw[C2z h]
   have:=B1a (B4o l j) x
   omega
theorem C8k (l:List Str):B4o l l.length=C4k l:=by unfold B4o C4k;rw[List.take_length]
def S126 (t:T) (a:Nat×List Str):A0b:=⟨[(6,.t (iv (a.1:Int))),(5,rowP eStr 0 a.2),(0,.t t)],rowH eStr 9 0 a.2,1,69⟩
noncomputable def E3g (t:T) (d:List TD) (s:Str) (todo:List Str) (i j:Nat):A0b:=⟨[(7,.t (iv (j:Int))),(6,.t (iv (i:Int))),(5,rowP eStr 0 (A3a d s todo j)),(0,.t t)],rowH eStr 9 0 (A3a d s todo j),1,69⟩
noncomputable def F6m (l:List Str) (j:Nat):A0b:=⟨[(9,.t (iv (j:Int))),(8,.t (A0k eStr (B4o l j))),(5,rowP eStr 0 l)],rowH eStr 9 0 l,1,69⟩
theorem F1m {t:T} {d:List TD} (ht:IsS eTD t d) (hd:DOK d) (s0:Str):A0y Try.prog G 126 [t,sv s0] (· = A0k eStr (below d s0)):=by
 have hdl:=hd.1
 have gf:=C0n ht s0 (by unfold cap;omega)
 have hz:eStr.z=1:=rfl
 refine C8a.call rfl ?_
 unfold B8o
 refine A0a A2m ?_
 simp -implicitDefEqProofs
 by_cases h0:A6f d s0<0
 ·refine A0d A2m ?_
  have:below d s0=[]:=by unfold below;rw[if_pos h0]
  simp -implicitDefEqProofs [tb11,gf,h0,this,A0k]
 ·have hb:below d s0=C4k (A4w d s0):=by unfold below;rw[if_neg h0];rfl
  rw[hb]
  have hdecl:∃x∈d,x.name=s0:=by
   unfold A6f at h0
   split at h0
   ·rename_i hi
    obtain⟨x,hx,e⟩:=B5v hi
    exact⟨x,List.mem_of_getElem? hx,e⟩
   ·exact absurd (by decide) h0
  refine A0a A2m ?_
  simp -implicitDefEqProofs [tb11,gf,h0]
  have bs0:A1p 9 1 [.string ⟨#[]⟩] 1 [(0,.t (sv s0))] 0=some (.row 0 0 1 1,.cells 9 [.t (sv s0)]):=rfl
  refine A0a A2m ?_
  simp -implicitDefEqProofs [bs0]
  refine A0s (fun _:Unit=>S126 t ((A4w d s0).length,A4w d s0)) (fun _=>(A4w d s0).length<=d.length) (fun _=>rfl) ?_ ?_
  ·refine A0a A2m ?_
   simp -implicitDefEqProofs
   refine A0h ?_
   refine A2o (S126 t) (fun a=>d.length+1-a.1) (fun a=>Work (A4v d) (fun s=>∃x∈d,x.name=s) d.length [s0] a.1 a.2) (0,[s0]) (fun _=>rfl) ⟨by simp,by simpa using hdecl,by simp,rfl⟩ ?_ rfl ?_
   ·exact A0i (l:=[s0]) (k:=0) (.inr (by simp[A1g,eStr])) (by omega) (by omega) (by simp -implicitDefEqProofs [rowP,eStr,ren,under])
   ·rintro⟨i,todo⟩ hw
    have hbd:todo.length<=d.length:=B2l hw.nodup hw.mem
    have hile:i<=todo.length:=hw.le
    have r0:=A0j.head' eStr 9 0 todo
    by_cases hi:i<todo.length
    ·obtain⟨s,hs⟩:∃s,todo[i]?=some s:=⟨_,List.getElem?_eq_getElem hi⟩
     refine A0a A2m ?_
     simp -implicitDefEqProofs [S126,A2f,hi]
     refine A0s (fun _:Unit=>E3g t d s todo i d.length) (fun _=>True) (fun _=>rfl) ?_ ?_
     ·refine A0h ?_
      refine A0a A2m ?_
      simp -implicitDefEqProofs
      refine A0h ?_
      refine A1b (E3g t d s todo i) d.length (fun _=>rfl) ?_ rfl ?_ ?_
      ·exact A0i (k:=0) r0 (by omega) (by omega) (by simp -implicitDefEqProofs [A3a,A0g,A0e,ren,under])
      ·intro j hj
       refine A0d A2m ?_
       obtain⟨x,hx⟩:∃x,d[j]?=some x:=⟨_,List.getElem?_eq_getElem hj⟩
       have ok:=hd.2 x (List.mem_of_getElem? hx)
       have hg:=A5k s hw.nodup hw.mem j (by omega)
       have hgl:(A3a d s todo j).length<=d.length:=B2l hg.nodup hg.mem
       have rj:=A0j.head' eStr 9 0 (A3a d s todo j)
       have tt:=rj.toT
       have hsj:=hg.at_ hs
       have ir:=A1r (e:=eStr) (b:=0) hsj .i64
       have ld:=rj.load (off:=0) (c:=sv s) hsj rfl
       rw[hz,Nat.mul_one]at ir
       rw[hz,Nat.mul_one,Nat.add_zero]at ld
       have e1:IntKind.i64.wrap ((j:Int)+1)=((j+1:Nat):Int):=A0l (by omega) (by omega)
       have ia:=ht.iaddr hx .i64
       simp only[eTD,List.cons_append,List.nil_append]at ia
       have g1':=A6e ok.ss s ok.ssl
       have g2':=A6e (IsS.tree eStr (A3a d s todo j)) x.name (by unfold cap;omega)
       have bu:=B4n (s:=s) (todo:=todo) hx
       unfold A9c at bu
       have lp:∀(cs:List T) (c:T),A0f false 1 (rowH eStr 9 0 (A3a d s todo j)) (.t (.pt (c::cs)))=some (.t c):=fun cs c=>rfl
       cases z1:hasS x.ss s with
       | false=>
        rw[z1]at bu
        simp only[Bool.false_and,Bool.false_eq_true,if_false]at bu
        simp -implicitDefEqProofs [E3g,hj,ht.len,ia,lp,ir,ld,tb11,g1',z1,e1]
        rw[bu]
        exact A0i (k:=0) rj (by omega) (by omega) (by simp -implicitDefEqProofs [A0g,A0e,ren,under])
       | true=>
        cases z2:hasS (A3a d s todo j) x.name with
        | true=>
         rw[z1,z2]at bu
         simp only[Bool.true_and,Bool.not_true,Bool.false_eq_true,if_false]at bu
         simp -implicitDefEqProofs [E3g,hj,ht.len,ia,lp,ir,ld,tt,tb11,g1',g2',z1,z2,e1]
         rw[bu]
         exact A0i (k:=0) rj (by omega) (by omega) (by simp -implicitDefEqProofs [A0g,A0e,ren,under])
        | false=>
         rw[z1,z2]at bu
         simp only[Bool.true_and,Bool.not_false,if_true]at bu
         have bs:A1p 9 1 [.string ⟨#[]⟩] 1 [(0,.t (sv x.name))] 1=some (.row 1 0 1 1,.cells 9 [.t (sv x.name)]):=rfl
         obtain⟨b2,H2,n2,ap2,r2,ne2,_⟩:=A1k (e:=eStr) (ty:=9) (by':=16) (nx:=2) (m:=[x.name]) (rj.cons (k:=1) (r:=.cells 9 [.t (sv x.name)]) (by omega)) (A3r (b:=1) (ty:=9) _ (by simp[eStr])) (by simp;omega) (by simp;omega)
         rw[hz]at ap2
         simp -implicitDefEqProofs [E3g,hj,ht.len,ia,lp,ir,ld,tt,tb11,g1',g2',z1,z2,bs,ap2,e1]
         rw[bu]
         exact A0i (k:=b2) r2 (by omega) (by omega) (by simp -implicitDefEqProofs [A0g,A0e,ren,under])
      ·refine A0d A2m ?_
       have rj:=A0j.head' eStr 9 0 (A3a d s todo d.length)
       simp -implicitDefEqProofs [E3g,ht.len]
       exact Next.mk () trivial (A0i (k:=0) rj (by omega) (by omega) (by simp -implicitDefEqProofs [A0g,A0e,ren,under]))
     ·rintro _ -
      refine A0d A2m ?_
      have hg:=A5k s hw.nodup hw.mem d.length (Nat.le_refl _)
      have rj:=A0j.head' eStr 9 0 (A3a d s todo d.length)
      have e1:IntKind.i64.wrap ((i:Int)+1)=((i+1:Nat):Int):=A0l (by omega) (by omega)
      simp -implicitDefEqProofs [E3g,e1]
      exact Next.mk (i+1,A3a d s todo d.length) ⟨hw.step hs hbd (A9d d s todo) hg.nodup hg.mem hg.len,by simp only;omega⟩ (A0i (k:=0) rj (by omega) (by omega) (by simp -implicitDefEqProofs [A0g,A0e,ren,under]))
    ·have hie:i=todo.length:=by omega
     have he:A4w d s0=todo:=hw.stop hie
     refine A0d A2m ?_
     simp -implicitDefEqProofs [S126,A2f,hi]
     rw[he]
     exact Next.mk () (by first | exact hbd | exact trivial) (A0i (k:=0) r0 (by omega) (by omega) (by simp -implicitDefEqProofs [hie,A0g,A0e,ren,under]))
  ·rintro _ hbl
   obtain⟨l,hl⟩:∃l,l=A4w d s0:=⟨_,rfl⟩
   rw[<-hl]at hbl ⊢
   have r0:=A0j.head' eStr 9 0 l
   refine A0a A2m ?_
   simp -implicitDefEqProofs [S126]
   refine A0s (fun _:Unit=>F6m l l.length) (fun _=>True) (fun _=>rfl) ?_ ?_
   ·refine A0a A2m ?_
    simp -implicitDefEqProofs
    refine A0h ?_
    refine A1b (F6m l) l.length (fun _=>rfl) ?_ rfl ?_ ?_
    ·exact A0i (k:=0) r0 (by omega) (by omega) (by simp -implicitDefEqProofs [B4o,A0k,A0g,A0e,ren,under])
    ·intro j hj
     refine A0d A2m ?_
     obtain⟨s,hs⟩:∃s,l[j]?=some s:=⟨_,List.getElem?_eq_getElem hj⟩
     have ir:=A1r (e:=eStr) (b:=0) hs .i64
     have ld:=r0.load (off:=0) (c:=sv s) hs rfl
     rw[hz,Nat.mul_one]at ir
     rw[hz,Nat.mul_one,Nat.add_zero]at ld
     have hpl:=A9u l j
     have gp:=C2y (IsS.tree eStr (B4o l j)) s (by unfold cap;omega)
     rw[<-C2z hs]at gp
     have e1:IntKind.i64.wrap ((j:Int)+1)=((j+1:Nat):Int):=A0l (by omega) (by omega)
     simp -implicitDefEqProofs [F6m,A2f,hj,ir,ld,tb11,gp,e1]
     exact A0i (k:=0) r0 (by omega) (by omega) (by simp -implicitDefEqProofs [A0g,A0e,ren,under])
    ·refine A0d A2m ?_
     simp -implicitDefEqProofs [F6m,A2f]
     exact Next.mk () trivial (A0i (k:=0) r0 (by omega) (by omega) (by simp -implicitDefEqProofs [A0g,A0e,ren,under]))
   ·rintro _ -
    refine A0d A2m ?_
    simp -implicitDefEqProofs [F6m,C8k]
noncomputable def C8l (todo:List Str) (s:Str):List Str:=if !hasS todo s then todo++[s]else todo
noncomputable def D9i (d:List TD) (s:Str):List Str:=((d[idxOf d s]?).map TD.ss).getD []
noncomputable def B1c (d:List TD) (s:Str) (todo:List Str):List Str:=(D9i d s).foldl C8l todo
noncomputable def A6h (d:List TD) (s:Str):List Str:=B3y (B1c d) (d.length+1) 0 [s]
noncomputable def C8m (d:List TD) (s:Str):List Str:=if A6f d s<0 then []else C4k (A6h d s)
noncomputable def A3k (l:List Str) (todo:List Str) (j:Nat):List Str:=(l.take j).foldl C8l todo
theorem C4l {l todo:List Str} {j:Nat} {x:Str} (h:l[j]?=some x):A3k l todo (j+1)=C8l (A3k l todo j) x:=by
 unfold A3k
 rw[List.take_add_one,h]
 simp[List.foldl_append]
theorem A9v {d:List TD} {l todo:List Str} (h:todo.Nodup) (hm:∀s∈todo,∃x∈d,x.name=s) (hl:∀s∈l,∃x∈d,x.name=s):∀j,j<=l.length->Grow d todo (A3k l todo j)
 | 0,_=>by simpa[A3k]using Grow.refl h hm
 | j+1,hj=>by
  have ih:=A9v h hm hl j (by omega)
  obtain⟨x,hx⟩:∃x,l[j]?=some x:=⟨_,List.getElem?_eq_getElem (by omega)⟩
  rw[C4l hx]
  unfold C8l
  obtain⟨y,hy,e⟩:=hl x (List.mem_of_getElem? hx)
  split
  ·rename_i hc
   simp only[Bool.not_eq_true']at hc
   subst e
   exact ih.add hy hc
  ·exact ih
theorem Good.decl {d:List TD} (hg:Good d) {x:TD} (hx:x∈d) {s:Str} (hs:s∈x.ss):∃y∈d,y.name=s:=by
 obtain⟨y,hy,e⟩:=B5v (hg.sup x hx s hs)
 exact⟨y,List.mem_of_getElem? hy,e⟩
theorem Good.find {d:List TD} (hg:Good d) {s:Str} (h:∃x∈d,x.name=s):∃(i:Nat) (x:TD),i<d.length/\d[i]?=some x/\x.name=s/\idxOf d s=i/\A6f d s=(i:Int):=by
 obtain⟨x,hx,rfl⟩:=h
 obtain⟨i,hi,e⟩:=List.getElem_of_mem hx
 have hx':d[i]?=some x:=by rw[List.getElem?_eq_getElem hi,e]
 have h1:=hg.idx i x hx'
 refine⟨i,x,hi,hx',rfl,h1,?_⟩
 unfold A6f
 rw[h1,if_pos hi]
def S140 (t:T) (a:Nat×List Str):A0b:=⟨[(6,.t (iv (a.1:Int))),(5,rowP eStr 0 a.2),(0,.t t)],rowH eStr 9 0 a.2,1,66⟩
noncomputable def F1n (t u:T) (l todo:List Str) (i j:Nat):A0b:=⟨[(8,.t (iv (j:Int))),(7,.t u),(6,.t (iv (i:Int))),(5,rowP eStr 0 (A3k l todo j)),(0,.t t)],rowH eStr 9 0 (A3k l todo j),1,66⟩
noncomputable def F6n (l:List Str) (j:Nat):A0b:=⟨[(10,.t (iv (j:Int))),(9,.t (A0k eStr (B4o l j))),(5,rowP eStr 0 l)],rowH eStr 9 0 l,1,66⟩
theorem F1o {t:T} {d:List TD} (ht:IsS eTD t d) (hg:Good d) (s0:Str):A0y Try.prog G 140 [t,sv s0] (· = A0k eStr (C8m d s0)):=by
 have hdl:=hg.ok.1
 have gf:∀s,D5f [t,sv s]=some (iv (A6f d s)):=fun s=>C0n ht s (by unfold cap;omega)
 have hz:eStr.z=1:=rfl
 refine C8d.call rfl ?_
 unfold B8r
 refine A0a A2m ?_
 simp -implicitDefEqProofs
 by_cases h0:A6f d s0<0
 ·refine A0d A2m ?_
  have:C8m d s0=[]:=by unfold C8m;rw[if_pos h0]
  simp -implicitDefEqProofs [tb11,gf,h0,this,A0k]
 ·have hb:C8m d s0=C4k (A6h d s0):=by unfold C8m;rw[if_neg h0]
  rw[hb]
  have hdecl:∃x∈d,x.name=s0:=by
   unfold A6f at h0
   split at h0
   ·rename_i hi
    obtain⟨x,hx,e⟩:=B5v hi
    exact⟨x,List.mem_of_getElem? hx,e⟩
   ·exact absurd (by decide) h0
  refine A0a A2m ?_
  simp -implicitDefEqProofs [tb11,gf,h0]
  have bs0:A1p 9 1 [.string ⟨#[]⟩] 1 [(0,.t (sv s0))] 0=some (.row 0 0 1 1,.cells 9 [.t (sv s0)]):=rfl
  refine A0a A2m ?_
  simp -implicitDefEqProofs [bs0]
  refine A0s (fun _:Unit=>S140 t ((A6h d s0).length,A6h d s0)) (fun _=>(A6h d s0).length<=d.length) (fun _=>rfl) ?_ ?_
  ·refine A0a A2m ?_
   simp -implicitDefEqProofs
   refine A0h ?_
   refine A2o (S140 t) (fun a=>d.length+1-a.1) (fun a=>Work (B1c d) (fun s=>∃x∈d,x.name=s) d.length [s0] a.1 a.2) (0,[s0]) (fun _=>rfl) ⟨by simp,by simpa using hdecl,by simp,rfl⟩ ?_ rfl ?_
   ·exact A0i (l:=[s0]) (k:=0) (.inr (by simp[A1g,eStr])) (by omega) (by omega) (by simp -implicitDefEqProofs [rowP,eStr,ren,under])
   ·rintro⟨i,todo⟩ hw
    have hbd:todo.length<=d.length:=B2l hw.nodup hw.mem
    have hile:i<=todo.length:=hw.le
    have r0:=A0j.head' eStr 9 0 todo
    by_cases hi:i<todo.length
    ·obtain⟨s,hs⟩:∃s,todo[i]?=some s:=⟨_,List.getElem?_eq_getElem hi⟩
     obtain⟨p,x,hp,hx,hxs,hidx,hfd⟩:=hg.find (hw.mem s (List.mem_of_getElem? hs))
     have ok:=hg.ok.2 x (List.mem_of_getElem? hx)
     have hsup:D9i d s=x.ss:=by unfold D9i;rw[hidx,hx];rfl
     have hxl:=ok.ssl
     unfold cap at hxl
     have ir:=A1r (e:=eStr) (b:=0) hs .i64
     have ld:=r0.load (off:=0) (c:=sv s) hs rfl
     rw[hz,Nat.mul_one]at ir
     rw[hz,Nat.mul_one,Nat.add_zero]at ld
     have ia:=ht.iaddr hx .i64
     simp only[eTD,List.cons_append,List.nil_append]at ia
     have gfs:=gf s
     rw[hfd]at gfs
     refine A0a A2m ?_
     simp -implicitDefEqProofs [S140,A2f,hi]
     refine A0s (fun _:Unit=>F1n t x.supers x.ss todo i x.ss.length) (fun _=>True) (fun _=>rfl) ?_ ?_
     ·refine A0h ?_
      have lp:∀(cs:List T) (c:T),A0f false 1 (rowH eStr 9 0 todo) (.t (.pt (c::cs)))=some (.t c):=fun cs c=>rfl
      refine A0a A2m ?_
      simp -implicitDefEqProofs [ir,ld,tb11,gfs,ia,lp]
      refine A0a A2m ?_
      simp -implicitDefEqProofs
      refine A0h ?_
      refine A1b (F1n t x.supers x.ss todo i) x.ss.length (fun _=>rfl) ?_ rfl ?_ ?_
      ·exact A0i (k:=0) r0 (by omega) (by omega) (by simp -implicitDefEqProofs [A3k,A0g,A0e,ren,under])
      ·intro j hj
       refine A0d A2m ?_
       obtain⟨y,hy⟩:∃y,x.ss[j]?=some y:=⟨_,List.getElem?_eq_getElem hj⟩
       have hgr:=A9v hw.nodup hw.mem (fun s hs=>hg.decl (List.mem_of_getElem? hx) hs) j (Nat.le_of_lt hj)
       have hgl:(A3k x.ss todo j).length<=d.length:=B2l hgr.nodup hgr.mem
       have rj:=A0j.head' eStr 9 0 (A3k x.ss todo j)
       have tt:=rj.toT
       have ib:=ok.ss.iaddr hy .i64
       simp only[eStr,List.cons_append,List.nil_append]at ib
       have e1:IntKind.i64.wrap ((j:Int)+1)=((j+1:Nat):Int):=A0l (by omega) (by omega)
       have ga:=A6e (IsS.tree eStr (A3k x.ss todo j)) y (by unfold cap;omega)
       have bu:=C4l (todo:=todo) hy
       unfold C8l at bu
       have lp:∀(cs:List T) (c:T),A0f false 1 (rowH eStr 9 0 (A3k x.ss todo j)) (.t (.pt (c::cs)))=some (.t c):=fun cs c=>rfl
       cases z2:hasS (A3k x.ss todo j) y with
       | true=>
        rw[z2]at bu
        simp only[Bool.not_true,Bool.false_eq_true,if_false]at bu
        simp -implicitDefEqProofs [F1n,hj,ok.ss.len,ib,lp,tt,tb11,ga,z2,e1]
        rw[bu]
        exact A0i (k:=0) rj (by omega) (by omega) (by simp -implicitDefEqProofs [A0g,A0e,ren,under])
       | false=>
        rw[z2]at bu
        simp only[Bool.not_false,if_true]at bu
        have bs:A1p 9 1 [.string ⟨#[]⟩] 1 [(0,.t (sv y))] 1=some (.row 1 0 1 1,.cells 9 [.t (sv y)]):=rfl
        obtain⟨b2,H2,n2,ap2,r2,ne2,_⟩:=A1k (e:=eStr) (ty:=9) (by':=16) (nx:=2) (m:=[y]) (rj.cons (k:=1) (r:=.cells 9 [.t (sv y)]) (by omega)) (A3r (b:=1) (ty:=9) _ (by simp[eStr])) (by simp;omega) (by simp;omega)
        rw[hz]at ap2
        simp -implicitDefEqProofs [F1n,hj,ok.ss.len,ib,lp,tt,tb11,ga,z2,bs,ap2,e1]
        rw[bu]
        exact A0i (k:=b2) r2 (by omega) (by omega) (by simp -implicitDefEqProofs [A0g,A0e,ren,under])
      ·refine A0d A2m ?_
       have rj:=A0j.head' eStr 9 0 (A3k x.ss todo x.ss.length)
       simp -implicitDefEqProofs [F1n,ok.ss.len]
       exact Next.mk () trivial (A0i (k:=0) rj (by omega) (by omega) (by simp -implicitDefEqProofs [A0g,A0e,ren,under]))
     ·rintro _ -
      refine A0d A2m ?_
      have hgr:=A9v hw.nodup hw.mem (fun s hs=>hg.decl (List.mem_of_getElem? hx) hs) x.ss.length (Nat.le_refl _)
      have rj:=A0j.head' eStr 9 0 (A3k x.ss todo x.ss.length)
      have e1:IntKind.i64.wrap ((i:Int)+1)=((i+1:Nat):Int):=A0l (by omega) (by omega)
      have hn:A3k x.ss todo x.ss.length=B1c d s todo:=by unfold A3k B1c;rw[List.take_length,hsup]
      simp -implicitDefEqProofs [F1n,e1]
      exact Next.mk (i+1,A3k x.ss todo x.ss.length) ⟨hw.step hs hbd hn hgr.nodup hgr.mem hgr.len,by simp only;omega⟩ (A0i (k:=0) rj (by omega) (by omega) (by simp -implicitDefEqProofs [A0g,A0e,ren,under]))
    ·have hie:i=todo.length:=by omega
     have he:A6h d s0=todo:=hw.stop hie
     refine A0d A2m ?_
     simp -implicitDefEqProofs [S140,A2f,hi]
     rw[he]
     exact Next.mk () (by first | exact hbd | exact trivial) (A0i (k:=0) r0 (by omega) (by omega) (by simp -implicitDefEqProofs [hie,A0g,A0e,ren,under]))
  ·rintro _ hbl
   obtain⟨l,hl⟩:∃l,l=A6h d s0:=⟨_,rfl⟩
   rw[<-hl]at hbl ⊢
   have r0:=A0j.head' eStr 9 0 l
   refine A0a A2m ?_
   simp -implicitDefEqProofs [S140]
   refine A0s (fun _:Unit=>F6n l l.length) (fun _=>True) (fun _=>rfl) ?_ ?_
   ·refine A0a A2m ?_
    simp -implicitDefEqProofs
    refine A0h ?_
    refine A1b (F6n l) l.length (fun _=>rfl) ?_ rfl ?_ ?_
    ·exact A0i (k:=0) r0 (by omega) (by omega) (by simp -implicitDefEqProofs [B4o,A0k,A0g,A0e,ren,under])
    ·intro j hj
     refine A0d A2m ?_
     obtain⟨s,hs⟩:∃s,l[j]?=some s:=⟨_,List.getElem?_eq_getElem hj⟩
     have ir:=A1r (e:=eStr) (b:=0) hs .i64
     have ld:=r0.load (off:=0) (c:=sv s) hs rfl
     rw[hz,Nat.mul_one]at ir
     rw[hz,Nat.mul_one,Nat.add_zero]at ld
     have hpl:=A9u l j
     have gp:=C2y (IsS.tree eStr (B4o l j)) s (by unfold cap;omega)
     rw[<-C2z hs]at gp
     have e1:IntKind.i64.wrap ((j:Int)+1)=((j+1:Nat):Int):=A0l (by omega) (by omega)
     simp -implicitDefEqProofs [F6n,A2f,hj,ir,ld,tb11,gp,e1]
     exact A0i (k:=0) r0 (by omega) (by omega) (by simp -implicitDefEqProofs [A0g,A0e,ren,under])
    ·refine A0d A2m ?_
     simp -implicitDefEqProofs [F6n,A2f]
     exact Next.mk () trivial (A0i (k:=0) r0 (by omega) (by omega) (by simp -implicitDefEqProofs [A0g,A0e,ren,under]))
   ·rintro _ -
    refine A0d A2m ?_
    simp -implicitDefEqProofs [F6n,C8k]
end Go.Proofs.Ytbiadmfmjnoecaa
