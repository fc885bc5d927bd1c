/-
 Auxiliary facts. No statement of the program stands here.
-/
import Derived.Test.YtbiadmfmjnoecaaVPQ22
import Derived.Test.YtbiadmfmjnoecaaVPQ16
namespace Go.Proofs.Ytbiadmfmjnoecaa
set_option linter.unusedSimpArgs false
set_option linter.unusedVariables false
open Go Go.Abs
theorem nodup_le {α:Type}:∀{l m:List α},l.Nodup->(∀x∈l,x∈m)->l.length<=m.length
 | [],m,_,_=>by simp
 | a::l,m,hn,hs=>by
  obtain⟨m1,m2,e⟩:=List.append_of_mem (hs a (by simp))
  rw[List.nodup_cons]at hn
  have:=nodup_le (l:=l) (m:=m1++m2) hn.2 fun x hx=>by
   have h1:=hs x (by simp[hx])
   rw[e]at h1
   simp only[List.mem_append,List.mem_cons]at h1 ⊢
   rcases h1 with h1 | rfl | h1
   ·exact .inl h1
   ·exact absurd hx hn.1
   ·exact .inr h1
  rw[e]
  simp only[List.length_append,List.length_cons]at this ⊢
  omega
noncomputable def B0z (out:List Str) (st:Bool×Str) (x:TD):Bool×Str:=
 if hasS out x.name || !A9r x out then st else(true,if !st.1||B8o x.name st.2 then x.name else st.2)
abbrev A2r:Str:=⟨#[]⟩
noncomputable def pick (d:List TD) (out:List Str):Bool×Str:=d.foldl (B0z out) (false,A2r)
noncomputable def B5q (d:List TD) (out:List Str) (i:Nat):Bool×Str:=(d.take i).foldl (B0z out) (false,A2r)
theorem D8p {d:List TD} {out:List Str} {i:Nat} {x:TD} (h:d[i]?=some x):B5q d out (i+1)=B0z out (B5q d out i) x:=by
 unfold B5q
 rw[List.take_add_one,h]
 simp[List.foldl_append]
theorem E5f (d:List TD) (out:List Str):B5q d out d.length=pick d out:=by unfold B5q pick;rw[List.take_length]
theorem D4y {d:List TD} {out:List Str} (h:(pick d out).1=true):∃x∈d,x.name=(pick d out).2/\hasS out x.name=false/\A9r x out=true:=by
 have key:∀(l:List TD) (st:Bool×Str),(∀x∈l,x∈d)->(st.1=true->∃x∈d,x.name=st.2/\hasS out x.name=false/\A9r x out=true) ->
   (l.foldl (B0z out) st).1=true->∃x∈d,x.name=(l.foldl (B0z out) st).2/\hasS out x.name=false/\A9r x out=true:=by
  intro l
  induction l with
  | nil=>intro st _ hst h;exact hst h
  | cons x l ih=>
   intro st hl hst h
   rw[List.foldl_cons]at h ⊢
   refine ih _ (fun y hy=>hl y (by simp[hy])) (fun hs=>?_) h
   unfold B0z at hs ⊢
   split at hs
   ·rename_i h1
    rw[if_pos h1]
    exact hst hs
   ·rename_i h1
    rw[if_neg h1]
    simp only[Bool.or_eq_true,Bool.not_eq_true',not_or,Bool.not_eq_false]at h1
    by_cases h2:(!st.1||B8o x.name st.2)=true
    ·rw[if_pos h2]
     exact⟨x,hl x (by simp),rfl,by simpa using h1.1,h1.2⟩
    ·rw[if_neg h2]
     simp only[Bool.or_eq_true,Bool.not_eq_true',not_or,Bool.not_eq_false]at h2
     exact hst h2.1
 exact key d (false,A2r) (fun x hx=>hx) (fun h=>by cases h) h
noncomputable def B2v (d:List TD):Nat->List Str->List Str
 | 0,out=>out
 | k+1,out=>if(pick d out).1 then B2v d k (out++[(pick d out).2])else out
noncomputable def A4f (d:List TD):List Str:=B2v d (d.length+1) []
theorem D4z {d:List TD} {out:List Str} (h:(pick d out).1=false) (k:Nat):B2v d k out=out:=by
 cases k with
 | zero=>rfl
 | succ k=>simp[B2v,h]
structure Plc (d:List TD) (out:List Str):Prop where
 nodup:out.Nodup
 sub:∀s∈out,∃x∈d,x.name=s
 eq:B2v d (d.length+1-out.length) out=A4f d
theorem Plc.le {d:List TD} {out:List Str} (h:Plc d out):out.length<=d.length:=by
 have:=nodup_le (m:=d.map TD.name) h.nodup fun s hs=>by
  obtain⟨x,hx,e⟩:=h.sub s hs
  exact List.mem_map.2 ⟨x,hx,e⟩
 simpa using this
theorem Plc.nil (d:List TD):Plc d []:=⟨List.nodup_nil,(fun _ h=>by cases h),rfl⟩
theorem Plc.next {d:List TD} {out:List Str} (h:Plc d out) (hp:(pick d out).1=true):Plc d (out++[(pick d out).2]):=by
 obtain⟨x,hx,e,h1,h2⟩:=D4y hp
 have hle:=h.le
 refine⟨?_,?_,?_⟩
 ·rw[List.nodup_append]
  refine⟨h.nodup,by simp,fun a ha b hb=>?_⟩
  simp only[List.mem_singleton]at hb
  subst hb
  intro e2
  subst e2
  rw[<-e]at ha
  rw[(A8m out x.name).2 ha]at h1
  cases h1
 ·intro s hs
  rcases List.mem_append.1 hs with hs | hs
  ·exact h.sub s hs
  ·simp only[List.mem_singleton]at hs
   exact⟨x,hx,by rw[hs,e]⟩
 ·rw[<-h.eq,List.length_append,List.length_singleton,show d.length+1-out.length=(d.length+1-(out.length+1))+1 by omega]
  simp[B2v,hp]
noncomputable def F0b:List T->Option T:=g2 (tAg eTD) (tSl eStr) fun x l=>open Classical in if x.OK/\l.length<=cap then some (bv (A9r x l))else none
theorem F5c:GOK Try.prog G 138 F0b:=A5x fun a b x y r ha hb hr=>by
 obtain rfl:a = .ag (eTD.enc x):=ha
 split at hr
 ·rename_i h;injection hr with hr;subst hr;exact E5e h.1 hb h.2
 ·cases hr
theorem F0c {x:TD} (ok:x.OK) {u:T} {l:List Str} (hu:IsS eStr u l) (hl:l.length<=cap):F0b [.ag [sv x.name,x.supers,x.feats],u]=some (bv (A9r x l)):=by
 exact(A4z (τ:=tAg eTD) (σ:=tSl eStr) (x:=x) (y:=l) rfl hu).trans (if_pos ⟨ok,hl⟩)
noncomputable def tb13:Tbl:=[(127,B5n),(138,F0b)]
theorem C2o:Ctx Try.prog G (orc tb13):=(A1q.cons B4e (.cons F5c .nil)).ctx A1w
def S125 (t:T) (a:Bool×List Str):A0b:=⟨[(4,.t (bv a.1)),(3,rowP eStr 0 a.2),(0,.t t)],rowH eStr 9 0 a.2,1,52⟩
noncomputable def C7r (t:T) (d:List TD) (out:List Str) (i:Nat):A0b:=⟨[(6,.t (iv (i:Int))),(5,.t (sv (B5q d out i).2)),(4,.t (bv (B5q d out i).1)),(3,rowP eStr 0 out),(0,.t t)],rowH eStr 9 0 out,1,52⟩
theorem D8q {t:T} {d:List TD} (ht:IsS eTD t d) (hd:DOK d):A0y Try.prog G 125 [t] (· = A0l eStr (A4f d)):=by
 obtain⟨hdl,hd⟩:=hd
 refine C2a.call rfl ?_
 unfold B2t
 refine A0a C2o ?_
 simp -implicitDefEqProofs
 refine A0a C2o ?_
 simp -implicitDefEqProofs
 refine A0q (fun _:Unit=>S125 t (false,A4f d)) (fun _=>True) (fun _=>rfl) ?_ ?_
 ·refine A0a C2o ?_
  simp -implicitDefEqProofs
  refine A0g ?_
  refine A1r (S125 t) (fun a=>if a.1 then d.length+2-a.2.length else 0) (fun a=>Plc d a.2/\(a.1=false->(pick d a.2).1=false)) (true,[]) (fun _=>rfl) ⟨Plc.nil d,fun h=>by cases h⟩ ?_ rfl ?_
  ·exact A0i (k:=0) (A0j.nil _ _ _ _) (by omega) (by omega) (by simp -implicitDefEqProofs [rowP,ren,under])
  ·rintro⟨m,out⟩ ⟨hp,hm⟩
   have hle:out.length<=d.length:=hp.le
   have r0:=A0j.head' eStr 9 0 out
   have tt:=r0.toT
   cases m with
   | false=>
    have he:out=A4f d:=by rw[<-hp.eq,D4z (hm rfl)]
    refine A0c C2o ?_
    simp -implicitDefEqProofs [S125]
    rw[he]
    exact Next.mk () trivial (Sub.refl _ |>.trans (A0i (k:=0) (A0j.head' _ _ _ _) (by omega) (by omega) (by simp -implicitDefEqProofs [A0f,A0e,ren,under])))
   | true=>
    refine A0a C2o ?_
    simp -implicitDefEqProofs [S125]
    refine A0g ?_
    refine A0a C2o ?_
    simp -implicitDefEqProofs
    refine A0a C2o ?_
    simp -implicitDefEqProofs
    refine A0q (fun _:Unit=>C7r t d out d.length) (fun _=>True) (fun _=>rfl) ?_ ?_
    ·refine A0a C2o ?_
     simp -implicitDefEqProofs
     refine A0g ?_
     refine A1a (C7r t d out) d.length (fun _=>rfl) ?_ rfl ?_ ?_
     ·exact A0i (k:=0) r0 (by omega) (by omega) (by simp -implicitDefEqProofs [B5q,A0f,A0e,ren,under])
     ·intro i hi
      refine A0c C2o ?_
      obtain⟨x,hx⟩:∃x,d[i]?=some x:=⟨_,List.getElem?_eq_getElem hi⟩
      have ok:=hd x (List.mem_of_getElem? hx)
      have e1:IntKind.i64.wrap ((i:Int)+1)=((i+1:Nat):Int):=A0k (by omega) (by omega)
      have ia:=ht.iaddr hx .i64
      simp only[eTD,List.cons_append,List.nil_append]at ia
      have ga:=A5h (IsS.tree eStr out) x.name (by unfold cap;omega)
      have gr:=F0c ok (IsS.tree eStr out) (by unfold cap;omega)
      have ps:=D8p (out:=out) hx
      unfold B0z at ps
      cases z1:hasS out x.name with
      | true=>
       rw[z1]at ps
       simp only[Bool.true_or,if_true]at ps
       simp -implicitDefEqProofs [C7r,hi,ht.len,ia,A0h,tt,tb13,ga,z1,e1]
       exact A0i (k:=0) r0 (by omega) (by omega) (by simp -implicitDefEqProofs [ps,A0f,A0e,ren,under])
      | false=>
       cases z2:A9r x out with
       | false=>
        rw[z1,z2]at ps
        simp only[Bool.false_or,Bool.not_false,if_true]at ps
        simp -implicitDefEqProofs [C7r,hi,ht.len,ia,A0h,tt,tb13,ga,gr,z1,z2,e1]
        exact A0i (k:=0) r0 (by omega) (by omega) (by simp -implicitDefEqProofs [ps,A0f,A0e,ren,under])
       | true=>
        rw[z1,z2]at ps
        simp only[Bool.false_or,Bool.not_true,Bool.false_eq_true,if_false]at ps
        cases z3:(B5q d out i).1 with
        | false=>
         rw[z3]at ps
         simp only[Bool.not_false,Bool.true_or,if_true]at ps
         simp -implicitDefEqProofs [C7r,hi,ht.len,ia,A0h,tt,tb13,ga,gr,z1,z2,z3,e1]
         exact A0i (k:=0) r0 (by omega) (by omega) (by simp -implicitDefEqProofs [ps,A0f,A0e,ren,under])
        | true=>
         rw[z3]at ps
         cases z4:B8o x.name (B5q d out i).2 with
         | true=>
          rw[z4]at ps
          simp only[Bool.or_true,if_true]at ps
          simp -implicitDefEqProofs [C7r,hi,ht.len,ia,A0h,tt,tb13,ga,gr,z1,z2,z3,z4,e1]
          exact A0i (k:=0) r0 (by omega) (by omega) (by simp -implicitDefEqProofs [ps,A0f,A0e,ren,under])
         | false=>
          rw[z4]at ps
          simp only[Bool.not_true,Bool.or_self,Bool.false_eq_true,if_false]at ps
          simp -implicitDefEqProofs [C7r,hi,ht.len,ia,A0h,tt,tb13,ga,gr,z1,z2,z3,z4,e1]
          exact A0i (k:=0) r0 (by omega) (by omega) (by simp -implicitDefEqProofs [ps,A0f,A0e,ren,under])
     ·refine A0c C2o ?_
      simp -implicitDefEqProofs [C7r,ht.len]
      exact Next.mk () trivial (A0i (k:=0) r0 (by omega) (by omega) (by simp -implicitDefEqProofs [A0f,A0e,ren,under]))
    ·rintro _ -
     refine A0c C2o ?_
     have pa:=E5f d out
     cases z:(pick d out).1 with
     | false=>
      simp -implicitDefEqProofs [C7r,pa,z]
      refine Next.mk (false,out) ⟨⟨hp,fun _=>z⟩,by simp;omega⟩ (A0i (k:=0) r0 (by omega) (by omega) (by simp -implicitDefEqProofs [A0f,A0e,ren,under]))
     | true=>
      have hn:=hp.next z
      have hnl:(out++[(pick d out).2]).length<=d.length:=hn.le
      rw[List.length_append,List.length_singleton]at hnl
      have bs:A1l 9 1 [.string ⟨#[]⟩] 1 [(0,.t (sv (pick d out).2))] 1=some (.row 1 0 1 1,.cells 9 [.t (sv (pick d out).2)]):=rfl
      obtain⟨b2,H2,n2,ap2,r2,ne2,_⟩:=A1j (e:=eStr) (ty:=9) (by':=16) (nx:=2) (m:=[(pick d out).2]) (r0.cons (k:=1) (r:=.cells 9 [.t (sv (pick d out).2)]) (by omega)) (A2w (b:=1) (ty:=9) _ (by simp[eStr])) (by simp;omega) (by simp;omega)
      have hsz:eStr.z=1:=rfl
      rw[hsz]at ap2
      simp -implicitDefEqProofs [C7r,pa,z,bs,ap2]
      refine Next.mk (true,out++[(pick d out).2]) ⟨⟨hn,fun h=>by cases h⟩,by simp;omega⟩ (A0i (k:=b2) r2 (by omega) (by omega) (by simp -implicitDefEqProofs [A0f,A0e,ren,under]))
 ·rintro _ -
  refine A0c C2o ?_
  have tt:=(A0j.head' eStr 9 0 (A4f d)).toT
  simp -implicitDefEqProofs [S125,tt]
noncomputable def gD (f:List TD->T):List T->Option T:=g1 (tSl eTD) fun d=>open Classical in if DOK d then some (f d)else none
theorem B2w {F:Nat} {f:List TD->T} (h:∀{t:T} {d:List TD},IsS eTD t d->DOK d->A0y Try.prog G F [t] (· = f d)):GOK Try.prog G F (gD f):=C2l fun a x r ha hr=>by
 split at hr
 ·rename_i hd;injection hr with hr;subst hr;exact h ha hd
 ·cases hr
theorem B1q {f:List TD->T} {t:T} {d:List TD} (ht:IsS eTD t d) (hd:DOK d):gD f [t]=some (f d):=
 (C2m (τ:=tSl eTD) ht).trans (if_pos hd)
noncomputable def A7x (d:List TD) (j:Nat):Nat:=(d.take j).countP fun x=>x.ss.isEmpty
noncomputable def roots (d:List TD):Nat:=d.countP fun x=>x.ss.isEmpty
theorem D5a {d:List TD} {j:Nat} {x:TD} (h:d[j]?=some x):A7x d (j+1)=A7x d j+if x.ss.length=0 then 1 else 0:=by
 unfold A7x
 rw[List.take_add_one,h,List.countP_append]
 by_cases hx:x.ss.length=0
 ·have:x.ss.isEmpty=true:=by simpa using hx
  rw[if_pos hx]
  simp[this]
 ·have:x.ss.isEmpty=false:=by
   cases h2:x.ss with
   | nil=>rw[h2]at hx;simp at hx
   | cons a r=>rfl
  rw[if_neg hx]
  simp[this]
theorem E5g (d:List TD) (j:Nat):A7x d j<=d.length:=by
 unfold A7x
 have:=List.countP_le_length (p:=fun x:TD=>x.ss.isEmpty) (l:=d.take j)
 simp at this
 omega
noncomputable def A4q (d:List TD):Int:=
 if A7v d≠0 then A7v d else if B5p d≠0 then B5p d else if A7w d≠0 then A7w d else if roots d≠1 then 1 else if(A4f d).length<d.length then 6 else 0
noncomputable def tb14:Tbl:=[(122,gD fun d=>iv (A7v d)),(123,gD fun d=>iv (B5p d)),(124,gD fun d=>iv (A7w d)),(125,gD fun d=>A0l eStr (A4f d))]
theorem C2p:Ctx Try.prog G (orc tb14):=(A1q.cons (B2w E5d) (.cons (B2w D8n) (.cons (B2w D8o) (.cons (B2w D8q) .nil)))).ctx A1w
noncomputable def S101 (t:T) (d:List TD) (j:Nat):A0b:=⟨[(7,.t (iv (j:Int))),(6,.t (iv (A7x d j:Int))),(0,.t t)],[],0,46⟩
theorem A6h {E:Int} (h:¬E=0):(E != 0)=true:=by simpa using h
theorem D8r {t:T} {d:List TD} (ht:IsS eTD t d) (hd:DOK d):A0y Try.prog G 101 [t] (· = iv (A4q d)):=by
 have hdl:=hd.1
 have q1:=B1q (f:=fun d=>iv (A7v d)) ht hd
 have q2:=B1q (f:=fun d=>iv (B5p d)) ht hd
 have q3:=B1q (f:=fun d=>iv (A7w d)) ht hd
 have q4:=B1q (f:=fun d=>A0l eStr (A4f d)) ht hd
 refine C4y.call rfl ?_
 unfold B6r
 refine A0a C2p ?_
 simp -implicitDefEqProofs
 by_cases h1:A7v d=0
 ·refine A0a C2p ?_
  simp -implicitDefEqProofs [tb14,q1,h1]
  by_cases h2:B5p d=0
  ·refine A0a C2p ?_
   simp -implicitDefEqProofs [tb14,q2,h2]
   by_cases h3:A7w d=0
   ·refine A0a C2p ?_
    simp -implicitDefEqProofs [tb14,q3,h3]
    refine A0a C2p ?_
    simp -implicitDefEqProofs
    have hE:A4q d=if roots d≠1 then 1 else if(A4f d).length<d.length then 6 else 0:=by simp[A4q,h1,h2,h3]
    rw[hE]
    refine A0q (fun _:Unit=>S101 t d d.length) (fun _=>True) (fun _=>rfl) ?_ ?_
    ·refine A0a C2p ?_
     simp -implicitDefEqProofs
     refine A0g ?_
     refine A1a (S101 t d) d.length (fun _=>rfl) ?_ rfl ?_ ?_
     ·refine A0d rfl rfl ?_ ?_<;>simp -implicitDefEqProofs [S101,A7x]
     ·intro j hj
      refine A0c C2p ?_
      obtain⟨x,hx⟩:∃x,d[j]?=some x:=⟨_,List.getElem?_eq_getElem hj⟩
      have ok:=hd.2 x (List.mem_of_getElem? hx)
      have e1:IntKind.i64.wrap ((j:Int)+1)=((j+1:Nat):Int):=A0k (by omega) (by omega)
      have hr:=E5g d j
      have e2:IntKind.i64.wrap ((A7x d j:Int)+1)=((A7x d j+1:Nat):Int):=A0k (by omega) (by omega)
      have ia:=ht.iaddr hx .i64
      simp only[eTD,List.cons_append,List.nil_append]at ia
      have rs:=D5a hx
      by_cases z:x.ss.length=0
      ·rw[if_pos z]at rs
       have z':((x.ss.length:Int)==0)=true:=by rw[z];rfl
       simp -implicitDefEqProofs [S101,hj,ht.len,ia,A0h,ok.ss.len,z',e1,e2]
       refine A0d rfl rfl ?_ ?_<;>simp -implicitDefEqProofs [rs]
      ·rw[if_neg z]at rs
       have z':((x.ss.length:Int)==0)=false:=by rw[beq_eq_false_iff_ne];omega
       simp -implicitDefEqProofs [S101,hj,ht.len,ia,A0h,ok.ss.len,z',e1]
       refine A0d rfl rfl ?_ ?_<;>simp -implicitDefEqProofs [rs]
     ·refine A0c C2p ?_
      simp -implicitDefEqProofs [S101,ht.len]
      exact Next.mk () trivial (A0d rfl rfl (by simp -implicitDefEqProofs) (by simp -implicitDefEqProofs))
    ·rintro _ -
     refine A0c C2p ?_
     have ra:A7x d d.length=roots d:=by unfold A7x roots;rw[List.take_length]
     by_cases h4:roots d=1
     ·have h4':((roots d:Int) != 1)=false:=by rw[h4];rfl
      by_cases h5:(A4f d).length<d.length
      ·simp -implicitDefEqProofs [S101,ra,h4',h4,tb14,q4,(IsS.tree eStr (A4f d)).len,ht.len,h5]
      ·simp -implicitDefEqProofs [S101,ra,h4',h4,tb14,q4,(IsS.tree eStr (A4f d)).len,ht.len,h5]
     ·have h4':((roots d:Int) != 1)=true:=by simp;omega
      simp -implicitDefEqProofs [S101,ra,h4',h4]
   ·have hE:A4q d=A7w d:=by simp[A4q,h1,h2,h3]
    rw[hE]
    have h3':=A6h h3
    refine A0c C2p ?_
    simp -implicitDefEqProofs [tb14,q3,h3']
  ·have hE:A4q d=B5p d:=by simp[A4q,h1,h2]
   rw[hE]
   have h2':=A6h h2
   refine A0c C2p ?_
   simp -implicitDefEqProofs [tb14,q2,h2']
 ·have hE:A4q d=A7v d:=by simp[A4q,h1]
  rw[hE]
  have h1':=A6h h1
  refine A0c C2p ?_
  simp -implicitDefEqProofs [tb14,q1,h1']
theorem B4f {d:List TD} {s:Str} (h:C7o d s<d.length):∃x,d[C7o d s]?=some x/\x.name=s:=by
 obtain⟨x,hx,hp⟩:=A2a (p:=fun x:TD=>decide (x.name=s)) (l:=d) h
 exact⟨x,hx,by simpa using hp⟩
theorem E1y {d:List TD} {s:Str} {i:Nat} {x:TD} (hx:d[i]?=some x) (hs:x.name=s):C7o d s<=i:=by
 rcases Nat.lt_or_ge i (C7o d s)with h | h
 ·have:=A2n (p:=fun x:TD=>decide (x.name=s)) (l:=d) h hx
  simp[hs]at this
 ·exact h
structure Good (d:List TD):Prop where
 ok:DOK d
 len:d.length<=256
 ssl:∀x∈d,x.ss.length<=256
 fsl:∀x∈d,x.fs.length<=256
 idx:∀(i:Nat) x,d[i]?=some x->C7o d x.name=i
 sup:∀x∈d,∀s∈x.ss,C7o d s<d.length
 plc:d.length<=(A4f d).length
 ne:0<d.length
theorem B8u {d:List TD} (hd:DOK d) (h:A4q d=0):Good d:=by
 unfold A4q at h
 have h1:A7v d=0:=Classical.byContradiction fun h1=>by rw[if_pos h1]at h;exact h1 h
 rw[if_neg (by rw[h1];simp)]at h
 have h2:B5p d=0:=Classical.byContradiction fun h1=>by rw[if_pos h1]at h;exact h1 h
 rw[if_neg (by rw[h2];simp)]at h
 have h3:A7w d=0:=Classical.byContradiction fun h1=>by rw[if_pos h1]at h;exact h1 h
 rw[if_neg (by rw[h3];simp)]at h
 have h4:roots d=1:=Classical.byContradiction fun h1=>by rw[if_pos h1]at h;cases h
 rw[if_neg (by rw[h4];simp)]at h
 have h5:¬(A4f d).length<d.length:=fun h1=>by rw[if_pos h1]at h;cases h
 have s0:¬256<d.length:=fun h6=>by
  have:A7v d=7:=by unfold A7v;rw[if_pos h6]
  rw[this]at h1
  cases h1
 have s1:A4e (fun _ x=>C7p x) d d.length:=A3h (by
  have:A7v d=A2x (fun _ x=>C7p x) d:=by unfold A7v A2x;rw[if_neg s0]
  rw[<-this];exact h1)
 have s2:A4e (C7q d) d d.length:=A3h (by rw[<-F0a];exact h2)
 have s3:A4e (fun _ x=>A2x (supE d x.ss) x.ss) d d.length:=A3h h3
 have at_:∀x∈d,∃i:Nat,i<d.length/\d[i]?=some x:=fun x hx=>by
  obtain⟨i,hi,e⟩:=List.getElem_of_mem hx
  exact⟨i,hi,by rw[List.getElem?_eq_getElem hi,e]⟩
 have sz:∀x∈d,x.ss.length<=256/\x.fs.length<=256:=fun x hx=>by
  obtain⟨i,hi,e⟩:=at_ x hx
  have:C7p x=0:=s1.2 i x hi e
  unfold C7p at this
  split at this
  ·cases this
  ·omega
 refine⟨hd,by omega,fun x hx=>(sz x hx).1,fun x hx=>(sz x hx).2,fun i x hx=>?_,fun x hx s hs=>?_,by omega,?_⟩
 ·have hi:=(List.getElem?_eq_some_iff.1 hx).1
  have hn:=s2.2 i x hi hx
  have hle:=E1y hx rfl
  unfold C7q at hn
  split at hn
  ·cases hn
  ·split at hn
   ·cases hn
   ·rename_i hf
    unfold A5i at hf
    rw[if_pos (by omega)]at hf
    omega
 ·obtain⟨i,hi,e⟩:=at_ x hx
  have h6:=A3h (s3.2 i x hi e)
  obtain⟨k,hk,e2⟩:=List.getElem_of_mem hs
  have:=h6.2 k s hk (by rw[List.getElem?_eq_getElem hk,e2])
  unfold supE at this
  split at this
  ·cases this
  ·rename_i hf
   unfold A5i at hf
   split at hf
   ·assumption
   ·omega
 ·cases d with
  | nil=>simp[roots]at h4
  | cons x r=>simp
theorem B4g {d:List TD} {todo:List Str} (hn:todo.Nodup) (hm:∀s∈todo,∃x∈d,x.name=s):todo.length<=d.length:=by
 have:=nodup_le (m:=d.map TD.name) hn fun s hs=>by
  obtain⟨x,hx,e⟩:=hm s hs
  exact List.mem_map.2 ⟨x,hx,e⟩
 simpa using this
noncomputable def B2x (s:Str) (todo:List Str) (x:TD):List Str:=if hasS x.ss s && !hasS todo x.name then todo++[x.name]else todo
noncomputable def A9s (d:List TD) (s:Str) (todo:List Str):List Str:=d.foldl (B2x s) todo
noncomputable def A4g (d:List TD) (s:Str):List Str:=C0i (A9s d) (d.length+1) 0 [s]
noncomputable def below (d:List TD) (s:Str):List Str:=if A5i d s<0 then []else(A4g d s).foldl put []
structure Grow (d:List TD) (a b:List Str):Prop where
 nodup:b.Nodup
 mem:∀s∈b,∃x∈d,x.name=s
 pre:∃m,b=a++m
theorem Grow.refl {d:List TD} {a:List Str} (h:a.Nodup) (hm:∀s∈a,∃x∈d,x.name=s):Grow d a a:=⟨h,hm,[],by simp⟩
theorem Grow.add {d:List TD} {a b:List Str} (h:Grow d a b) {x:TD} (hx:x∈d) (hn:hasS b x.name=false):Grow d a (b++[x.name]):=by
 obtain⟨m,e⟩:=h.pre
 refine⟨?_,?_,m++[x.name],by rw[e,List.append_assoc]⟩
 ·rw[List.nodup_append]
  refine⟨h.nodup,by simp,fun u hu v hv e2=>?_⟩
  simp only[List.mem_singleton]at hv
  subst hv;subst e2
  rw[(A8m b x.name).2 hu]at hn
  cases hn
 ·intro s hs
  rcases List.mem_append.1 hs with hs | hs
  ·exact h.mem s hs
  ·simp only[List.mem_singleton]at hs
   exact⟨x,hx,hs.symm⟩
theorem Grow.at_ {d:List TD} {a b:List Str} (h:Grow d a b) {i:Nat} {s:Str} (hs:a[i]?=some s):b[i]?=some s:=by
 obtain⟨m,rfl⟩:=h.pre
 rw[List.getElem?_append_left (List.getElem?_eq_some_iff.1 hs).1]
 exact hs
theorem Grow.len {d:List TD} {a b:List Str} (h:Grow d a b):a.length<=b.length:=by
 obtain⟨m,rfl⟩:=h.pre
 simp
noncomputable def A2q (d:List TD) (s:Str) (todo:List Str) (j:Nat):List Str:=(d.take j).foldl (B2x s) todo
theorem B2y {d:List TD} {s:Str} {todo:List Str} {j:Nat} {x:TD} (h:d[j]?=some x):A2q d s todo (j+1)=B2x s (A2q d s todo j) x:=by
 unfold A2q
 rw[List.take_add_one,h]
 simp[List.foldl_append]
theorem B1a (d:List TD) (s:Str) (todo:List Str):A2q d s todo d.length=A9s d s todo:=by unfold A2q A9s;rw[List.take_length]
theorem A6o {d:List TD} (s:Str) {todo:List Str} (h:todo.Nodup) (hm:∀s∈todo,∃x∈d,x.name=s):∀j,j<=d.length->Grow d todo (A2q d s todo j)
 | 0,_=>by simpa[A2q]using Grow.refl h hm
 | j+1,hj=>by
  have ih:=A6o s h hm j (by omega)
  obtain⟨x,hx⟩:∃x,d[j]?=some x:=⟨_,List.getElem?_eq_getElem (by omega)⟩
  rw[B2y hx]
  unfold B2x
  split
  ·rename_i hc
   simp only[Bool.and_eq_true,Bool.not_eq_true']at hc
   exact ih.add (List.mem_of_getElem? hx) hc.2
  ·exact ih
noncomputable def C2b (l:List Str):List Str:=l.foldl put []
noncomputable def B2z (l:List Str) (j:Nat):List Str:=(l.take j).foldl put []
theorem C0u {l:List Str} {j:Nat} {x:Str} (h:l[j]?=some x):B2z l (j+1)=put (B2z l j) x:=by
 unfold B2z
 rw[List.take_add_one,h]
 simp[List.foldl_append]
theorem A8n (l:List Str):∀j,(B2z l j).length<=j
 | 0=>by simp[B2z]
 | j+1=>by
  have ih:=A8n l j
  cases h:l[j]? with
  | none=>
   have:B2z l (j+1)=B2z l j:=by unfold B2z;rw[List.take_add_one,h];simp
   rw[this];omega
  | some x=>
   rw[C0u h]
   have:=A9q (B2z l j) x
   omega
theorem C5p (l:List Str):B2z l l.length=C2b l:=by unfold B2z C2b;rw[List.take_length]
def S126 (t:T) (a:Nat×List Str):A0b:=⟨[(6,.t (iv (a.1:Int))),(5,rowP eStr 0 a.2),(0,.t t)],rowH eStr 9 0 a.2,1,69⟩
noncomputable def D8s (t:T) (d:List TD) (s:Str) (todo:List Str) (i j:Nat):A0b:=⟨[(7,.t (iv (j:Int))),(6,.t (iv (i:Int))),(5,rowP eStr 0 (A2q d s todo j)),(0,.t t)],rowH eStr 9 0 (A2q d s todo j),1,69⟩
noncomputable def F0d (l:List Str) (j:Nat):A0b:=⟨[(9,.t (iv (j:Int))),(8,.t (A0l eStr (B2z l j))),(5,rowP eStr 0 l)],rowH eStr 9 0 l,1,69⟩
theorem E5h {t:T} {d:List TD} (ht:IsS eTD t d) (hd:DOK d) (s0:Str):A0y Try.prog G 126 [t,sv s0] (· = A0l eStr (below d s0)):=by
 have hdl:=hd.1
 have gf:=B8t ht s0 (by unfold cap;omega)
 have hz:eStr.z=1:=rfl
 refine C5f.call rfl ?_
 unfold B6x
 refine A0a A2d ?_
 simp -implicitDefEqProofs
 by_cases h0:A5i d s0<0
 ·refine A0c A2d ?_
  have:below d s0=[]:=by unfold below;rw[if_pos h0]
  simp -implicitDefEqProofs [tb11,gf,h0,this,A0l]
 ·have hb:below d s0=C2b (A4g d s0):=by unfold below;rw[if_neg h0];rfl
  rw[hb]
  have hdecl:∃x∈d,x.name=s0:=by
   unfold A5i at h0
   split at h0
   ·rename_i hi
    obtain⟨x,hx,e⟩:=B4f hi
    exact⟨x,List.mem_of_getElem? hx,e⟩
   ·exact absurd (by decide) h0
  refine A0a A2d ?_
  simp -implicitDefEqProofs [tb11,gf,h0]
  have bs0:A1l 9 1 [.string ⟨#[]⟩] 1 [(0,.t (sv s0))] 0=some (.row 0 0 1 1,.cells 9 [.t (sv s0)]):=rfl
  refine A0a A2d ?_
  simp -implicitDefEqProofs [bs0]
  refine A0q (fun _:Unit=>S126 t ((A4g d s0).length,A4g d s0)) (fun _=>(A4g d s0).length<=d.length) (fun _=>rfl) ?_ ?_
  ·refine A0a A2d ?_
   simp -implicitDefEqProofs
   refine A0g ?_
   refine A1r (S126 t) (fun a=>d.length+1-a.1) (fun a=>Work (A9s d) (fun s=>∃x∈d,x.name=s) d.length [s0] a.1 a.2) (0,[s0]) (fun _=>rfl) ⟨by simp,by simpa using hdecl,by simp,rfl⟩ ?_ rfl ?_
   ·exact A0i (l:=[s0]) (k:=0) (.inr (by simp[A1m,eStr])) (by omega) (by omega) (by simp -implicitDefEqProofs [rowP,eStr,ren,under])
   ·rintro⟨i,todo⟩ hw
    have hbd:todo.length<=d.length:=B4g hw.nodup hw.mem
    have hile:i<=todo.length:=hw.le
    have r0:=A0j.head' eStr 9 0 todo
    by_cases hi:i<todo.length
    ·obtain⟨s,hs⟩:∃s,todo[i]?=some s:=⟨_,List.getElem?_eq_getElem hi⟩
     refine A0a A2d ?_
     simp -implicitDefEqProofs [S126,A1o,hi]
     refine A0q (fun _:Unit=>D8s t d s todo i d.length) (fun _=>True) (fun _=>rfl) ?_ ?_
     ·refine A0g ?_
      refine A0a A2d ?_
      simp -implicitDefEqProofs
      refine A0g ?_
      refine A1a (D8s t d s todo i) d.length (fun _=>rfl) ?_ rfl ?_ ?_
      ·exact A0i (k:=0) r0 (by omega) (by omega) (by simp -implicitDefEqProofs [A2q,A0f,A0e,ren,under])
      ·intro j hj
       refine A0c A2d ?_
       obtain⟨x,hx⟩:∃x,d[j]?=some x:=⟨_,List.getElem?_eq_getElem hj⟩
       have ok:=hd.2 x (List.mem_of_getElem? hx)
       have hg:=A6o s hw.nodup hw.mem j (by omega)
       have hgl:(A2q d s todo j).length<=d.length:=B4g hg.nodup hg.mem
       have rj:=A0j.head' eStr 9 0 (A2q d s todo j)
       have tt:=rj.toT
       have hsj:=hg.at_ hs
       have ir:=A1p (e:=eStr) (b:=0) hsj .i64
       have ld:=rj.load (off:=0) (c:=sv s) hsj rfl
       rw[hz,Nat.mul_one]at ir
       rw[hz,Nat.mul_one,Nat.add_zero]at ld
       have e1:IntKind.i64.wrap ((j:Int)+1)=((j+1:Nat):Int):=A0k (by omega) (by omega)
       have ia:=ht.iaddr hx .i64
       simp only[eTD,List.cons_append,List.nil_append]at ia
       have g1':=A5h ok.ss s ok.ssl
       have g2':=A5h (IsS.tree eStr (A2q d s todo j)) x.name (by unfold cap;omega)
       have bu:=B2y (s:=s) (todo:=todo) hx
       unfold B2x at bu
       have lp:∀(cs:List T) (c:T),A0h false 1 (rowH eStr 9 0 (A2q d s todo j)) (.t (.pt (c::cs)))=some (.t c):=fun cs c=>rfl
       cases z1:hasS x.ss s with
       | false=>
        rw[z1]at bu
        simp only[Bool.false_and,Bool.false_eq_true,if_false]at bu
        simp -implicitDefEqProofs [D8s,hj,ht.len,ia,lp,ir,ld,tb11,g1',z1,e1]
        rw[bu]
        exact A0i (k:=0) rj (by omega) (by omega) (by simp -implicitDefEqProofs [A0f,A0e,ren,under])
       | true=>
        cases z2:hasS (A2q d s todo j) x.name with
        | true=>
         rw[z1,z2]at bu
         simp only[Bool.true_and,Bool.not_true,Bool.false_eq_true,if_false]at bu
         simp -implicitDefEqProofs [D8s,hj,ht.len,ia,lp,ir,ld,tt,tb11,g1',g2',z1,z2,e1]
         rw[bu]
         exact A0i (k:=0) rj (by omega) (by omega) (by simp -implicitDefEqProofs [A0f,A0e,ren,under])
        | false=>
         rw[z1,z2]at bu
         simp only[Bool.true_and,Bool.not_false,if_true]at bu
         have bs:A1l 9 1 [.string ⟨#[]⟩] 1 [(0,.t (sv x.name))] 1=some (.row 1 0 1 1,.cells 9 [.t (sv x.name)]):=rfl
         obtain⟨b2,H2,n2,ap2,r2,ne2,_⟩:=A1j (e:=eStr) (ty:=9) (by':=16) (nx:=2) (m:=[x.name]) (rj.cons (k:=1) (r:=.cells 9 [.t (sv x.name)]) (by omega)) (A2w (b:=1) (ty:=9) _ (by simp[eStr])) (by simp;omega) (by simp;omega)
         rw[hz]at ap2
         simp -implicitDefEqProofs [D8s,hj,ht.len,ia,lp,ir,ld,tt,tb11,g1',g2',z1,z2,bs,ap2,e1]
         rw[bu]
         exact A0i (k:=b2) r2 (by omega) (by omega) (by simp -implicitDefEqProofs [A0f,A0e,ren,under])
      ·refine A0c A2d ?_
       have rj:=A0j.head' eStr 9 0 (A2q d s todo d.length)
       simp -implicitDefEqProofs [D8s,ht.len]
       exact Next.mk () trivial (A0i (k:=0) rj (by omega) (by omega) (by simp -implicitDefEqProofs [A0f,A0e,ren,under]))
     ·rintro _ -
      refine A0c A2d ?_
      have hg:=A6o s hw.nodup hw.mem d.length (Nat.le_refl _)
      have rj:=A0j.head' eStr 9 0 (A2q d s todo d.length)
      have e1:IntKind.i64.wrap ((i:Int)+1)=((i+1:Nat):Int):=A0k (by omega) (by omega)
      simp -implicitDefEqProofs [D8s,e1]
      exact Next.mk (i+1,A2q d s todo d.length) ⟨hw.step hs hbd (B1a d s todo) hg.nodup hg.mem hg.len,by simp only;omega⟩ (A0i (k:=0) rj (by omega) (by omega) (by simp -implicitDefEqProofs [A0f,A0e,ren,under]))
    ·have hie:i=todo.length:=by omega
     have he:A4g d s0=todo:=hw.stop hie
     refine A0c A2d ?_
     simp -implicitDefEqProofs [S126,A1o,hi]
     rw[he]
     exact Next.mk () (by first | exact hbd | exact trivial) (A0i (k:=0) r0 (by omega) (by omega) (by simp -implicitDefEqProofs [hie,A0f,A0e,ren,under]))
  ·rintro _ hbl
   obtain⟨l,hl⟩:∃l,l=A4g d s0:=⟨_,rfl⟩
   rw[<-hl]at hbl ⊢
   have r0:=A0j.head' eStr 9 0 l
   refine A0a A2d ?_
   simp -implicitDefEqProofs [S126]
   refine A0q (fun _:Unit=>F0d l l.length) (fun _=>True) (fun _=>rfl) ?_ ?_
   ·refine A0a A2d ?_
    simp -implicitDefEqProofs
    refine A0g ?_
    refine A1a (F0d l) l.length (fun _=>rfl) ?_ rfl ?_ ?_
    ·exact A0i (k:=0) r0 (by omega) (by omega) (by simp -implicitDefEqProofs [B2z,A0l,A0f,A0e,ren,under])
    ·intro j hj
     refine A0c A2d ?_
     obtain⟨s,hs⟩:∃s,l[j]?=some s:=⟨_,List.getElem?_eq_getElem hj⟩
     have ir:=A1p (e:=eStr) (b:=0) hs .i64
     have ld:=r0.load (off:=0) (c:=sv s) hs rfl
     rw[hz,Nat.mul_one]at ir
     rw[hz,Nat.mul_one,Nat.add_zero]at ld
     have hpl:=A8n l j
     have gp:=C0t (IsS.tree eStr (B2z l j)) s (by unfold cap;omega)
     rw[<-C0u hs]at gp
     have e1:IntKind.i64.wrap ((j:Int)+1)=((j+1:Nat):Int):=A0k (by omega) (by omega)
     simp -implicitDefEqProofs [F0d,A1o,hj,ir,ld,tb11,gp,e1]
     exact A0i (k:=0) r0 (by omega) (by omega) (by simp -implicitDefEqProofs [A0f,A0e,ren,under])
    ·refine A0c A2d ?_
     simp -implicitDefEqProofs [F0d,A1o]
     exact Next.mk () trivial (A0i (k:=0) r0 (by omega) (by omega) (by simp -implicitDefEqProofs [A0f,A0e,ren,under]))
   ·rintro _ -
    refine A0c A2d ?_
    simp -implicitDefEqProofs [F0d,C5p]
noncomputable def C5q (todo:List Str) (s:Str):List Str:=if !hasS todo s then todo++[s]else todo
noncomputable def D5b (d:List TD) (s:Str):List Str:=((d[C7o d s]?).map TD.ss).getD []
noncomputable def A9t (d:List TD) (s:Str) (todo:List Str):List Str:=(D5b d s).foldl C5q todo
noncomputable def A5k (d:List TD) (s:Str):List Str:=C0i (A9t d) (d.length+1) 0 [s]
noncomputable def C5r (d:List TD) (s:Str):List Str:=if A5i d s<0 then []else C2b (A5k d s)
noncomputable def A2y (l:List Str) (todo:List Str) (j:Nat):List Str:=(l.take j).foldl C5q todo
theorem C2c {l todo:List Str} {j:Nat} {x:Str} (h:l[j]?=some x):A2y l todo (j+1)=C5q (A2y l todo j) x:=by
 unfold A2y
 rw[List.take_add_one,h]
 simp[List.foldl_append]
theorem A8o {d:List TD} {l todo:List Str} (h:todo.Nodup) (hm:∀s∈todo,∃x∈d,x.name=s) (hl:∀s∈l,∃x∈d,x.name=s):∀j,j<=l.length->Grow d todo (A2y l todo j)
 | 0,_=>by simpa[A2y]using Grow.refl h hm
 | j+1,hj=>by
  have ih:=A8o h hm hl j (by omega)
  obtain⟨x,hx⟩:∃x,l[j]?=some x:=⟨_,List.getElem?_eq_getElem (by omega)⟩
  rw[C2c hx]
  unfold C5q
  obtain⟨y,hy,e⟩:=hl x (List.mem_of_getElem? hx)
  split
  ·rename_i hc
   simp only[Bool.not_eq_true']at hc
   subst e
   exact ih.add hy hc
  ·exact ih
theorem Good.decl {d:List TD} (hg:Good d) {x:TD} (hx:x∈d) {s:Str} (hs:s∈x.ss):∃y∈d,y.name=s:=by
 obtain⟨y,hy,e⟩:=B4f (hg.sup x hx s hs)
 exact⟨y,List.mem_of_getElem? hy,e⟩
theorem Good.find {d:List TD} (hg:Good d) {s:Str} (h:∃x∈d,x.name=s):∃(i:Nat) (x:TD),i<d.length/\d[i]?=some x/\x.name=s/\C7o d s=i/\A5i d s=(i:Int):=by
 obtain⟨x,hx,rfl⟩:=h
 obtain⟨i,hi,e⟩:=List.getElem_of_mem hx
 have hx':d[i]?=some x:=by rw[List.getElem?_eq_getElem hi,e]
 have h1:=hg.idx i x hx'
 refine⟨i,x,hi,hx',rfl,h1,?_⟩
 unfold A5i
 rw[h1,if_pos hi]
def S140 (t:T) (a:Nat×List Str):A0b:=⟨[(6,.t (iv (a.1:Int))),(5,rowP eStr 0 a.2),(0,.t t)],rowH eStr 9 0 a.2,1,66⟩
noncomputable def E5i (t u:T) (l todo:List Str) (i j:Nat):A0b:=⟨[(8,.t (iv (j:Int))),(7,.t u),(6,.t (iv (i:Int))),(5,rowP eStr 0 (A2y l todo j)),(0,.t t)],rowH eStr 9 0 (A2y l todo j),1,66⟩
noncomputable def F0e (l:List Str) (j:Nat):A0b:=⟨[(10,.t (iv (j:Int))),(9,.t (A0l eStr (B2z l j))),(5,rowP eStr 0 l)],rowH eStr 9 0 l,1,66⟩
theorem E5j {t:T} {d:List TD} (ht:IsS eTD t d) (hg:Good d) (s0:Str):A0y Try.prog G 140 [t,sv s0] (· = A0l eStr (C5r d s0)):=by
 have hdl:=hg.ok.1
 have gf:∀s,D1p [t,sv s]=some (iv (A5i d s)):=fun s=>B8t ht s (by unfold cap;omega)
 have hz:eStr.z=1:=rfl
 refine C5i.call rfl ?_
 unfold B7a
 refine A0a A2d ?_
 simp -implicitDefEqProofs
 by_cases h0:A5i d s0<0
 ·refine A0c A2d ?_
  have:C5r d s0=[]:=by unfold C5r;rw[if_pos h0]
  simp -implicitDefEqProofs [tb11,gf,h0,this,A0l]
 ·have hb:C5r d s0=C2b (A5k d s0):=by unfold C5r;rw[if_neg h0]
  rw[hb]
  have hdecl:∃x∈d,x.name=s0:=by
   unfold A5i at h0
   split at h0
   ·rename_i hi
    obtain⟨x,hx,e⟩:=B4f hi
    exact⟨x,List.mem_of_getElem? hx,e⟩
   ·exact absurd (by decide) h0
  refine A0a A2d ?_
  simp -implicitDefEqProofs [tb11,gf,h0]
  have bs0:A1l 9 1 [.string ⟨#[]⟩] 1 [(0,.t (sv s0))] 0=some (.row 0 0 1 1,.cells 9 [.t (sv s0)]):=rfl
  refine A0a A2d ?_
  simp -implicitDefEqProofs [bs0]
  refine A0q (fun _:Unit=>S140 t ((A5k d s0).length,A5k d s0)) (fun _=>(A5k d s0).length<=d.length) (fun _=>rfl) ?_ ?_
  ·refine A0a A2d ?_
   simp -implicitDefEqProofs
   refine A0g ?_
   refine A1r (S140 t) (fun a=>d.length+1-a.1) (fun a=>Work (A9t d) (fun s=>∃x∈d,x.name=s) d.length [s0] a.1 a.2) (0,[s0]) (fun _=>rfl) ⟨by simp,by simpa using hdecl,by simp,rfl⟩ ?_ rfl ?_
   ·exact A0i (l:=[s0]) (k:=0) (.inr (by simp[A1m,eStr])) (by omega) (by omega) (by simp -implicitDefEqProofs [rowP,eStr,ren,under])
   ·rintro⟨i,todo⟩ hw
    have hbd:todo.length<=d.length:=B4g hw.nodup hw.mem
    have hile:i<=todo.length:=hw.le
    have r0:=A0j.head' eStr 9 0 todo
    by_cases hi:i<todo.length
    ·obtain⟨s,hs⟩:∃s,todo[i]?=some s:=⟨_,List.getElem?_eq_getElem hi⟩
     obtain⟨p,x,hp,hx,hxs,hidx,hfd⟩:=hg.find (hw.mem s (List.mem_of_getElem? hs))
     have ok:=hg.ok.2 x (List.mem_of_getElem? hx)
     have hsup:D5b d s=x.ss:=by unfold D5b;rw[hidx,hx];rfl
     have hxl:=ok.ssl
     unfold cap at hxl
     have ir:=A1p (e:=eStr) (b:=0) hs .i64
     have ld:=r0.load (off:=0) (c:=sv s) hs rfl
     rw[hz,Nat.mul_one]at ir
     rw[hz,Nat.mul_one,Nat.add_zero]at ld
     have ia:=ht.iaddr hx .i64
     simp only[eTD,List.cons_append,List.nil_append]at ia
     have gfs:=gf s
     rw[hfd]at gfs
     refine A0a A2d ?_
     simp -implicitDefEqProofs [S140,A1o,hi]
     refine A0q (fun _:Unit=>E5i t x.supers x.ss todo i x.ss.length) (fun _=>True) (fun _=>rfl) ?_ ?_
     ·refine A0g ?_
      have lp:∀(cs:List T) (c:T),A0h false 1 (rowH eStr 9 0 todo) (.t (.pt (c::cs)))=some (.t c):=fun cs c=>rfl
      refine A0a A2d ?_
      simp -implicitDefEqProofs [ir,ld,tb11,gfs,ia,lp]
      refine A0a A2d ?_
      simp -implicitDefEqProofs
      refine A0g ?_
      refine A1a (E5i t x.supers x.ss todo i) x.ss.length (fun _=>rfl) ?_ rfl ?_ ?_
      ·exact A0i (k:=0) r0 (by omega) (by omega) (by simp -implicitDefEqProofs [A2y,A0f,A0e,ren,under])
      ·intro j hj
       refine A0c A2d ?_
       obtain⟨y,hy⟩:∃y,x.ss[j]?=some y:=⟨_,List.getElem?_eq_getElem hj⟩
       have hgr:=A8o hw.nodup hw.mem (fun s hs=>hg.decl (List.mem_of_getElem? hx) hs) j (Nat.le_of_lt hj)
       have hgl:(A2y x.ss todo j).length<=d.length:=B4g hgr.nodup hgr.mem
       have rj:=A0j.head' eStr 9 0 (A2y x.ss todo j)
       have tt:=rj.toT
       have ib:=ok.ss.iaddr hy .i64
       simp only[eStr,List.cons_append,List.nil_append]at ib
       have e1:IntKind.i64.wrap ((j:Int)+1)=((j+1:Nat):Int):=A0k (by omega) (by omega)
       have ga:=A5h (IsS.tree eStr (A2y x.ss todo j)) y (by unfold cap;omega)
       have bu:=C2c (todo:=todo) hy
       unfold C5q at bu
       have lp:∀(cs:List T) (c:T),A0h false 1 (rowH eStr 9 0 (A2y x.ss todo j)) (.t (.pt (c::cs)))=some (.t c):=fun cs c=>rfl
       cases z2:hasS (A2y x.ss todo j) y with
       | true=>
        rw[z2]at bu
        simp only[Bool.not_true,Bool.false_eq_true,if_false]at bu
        simp -implicitDefEqProofs [E5i,hj,ok.ss.len,ib,lp,tt,tb11,ga,z2,e1]
        rw[bu]
        exact A0i (k:=0) rj (by omega) (by omega) (by simp -implicitDefEqProofs [A0f,A0e,ren,under])
       | false=>
        rw[z2]at bu
        simp only[Bool.not_false,if_true]at bu
        have bs:A1l 9 1 [.string ⟨#[]⟩] 1 [(0,.t (sv y))] 1=some (.row 1 0 1 1,.cells 9 [.t (sv y)]):=rfl
        obtain⟨b2,H2,n2,ap2,r2,ne2,_⟩:=A1j (e:=eStr) (ty:=9) (by':=16) (nx:=2) (m:=[y]) (rj.cons (k:=1) (r:=.cells 9 [.t (sv y)]) (by omega)) (A2w (b:=1) (ty:=9) _ (by simp[eStr])) (by simp;omega) (by simp;omega)
        rw[hz]at ap2
        simp -implicitDefEqProofs [E5i,hj,ok.ss.len,ib,lp,tt,tb11,ga,z2,bs,ap2,e1]
        rw[bu]
        exact A0i (k:=b2) r2 (by omega) (by omega) (by simp -implicitDefEqProofs [A0f,A0e,ren,under])
      ·refine A0c A2d ?_
       have rj:=A0j.head' eStr 9 0 (A2y x.ss todo x.ss.length)
       simp -implicitDefEqProofs [E5i,ok.ss.len]
       exact Next.mk () trivial (A0i (k:=0) rj (by omega) (by omega) (by simp -implicitDefEqProofs [A0f,A0e,ren,under]))
     ·rintro _ -
      refine A0c A2d ?_
      have hgr:=A8o hw.nodup hw.mem (fun s hs=>hg.decl (List.mem_of_getElem? hx) hs) x.ss.length (Nat.le_refl _)
      have rj:=A0j.head' eStr 9 0 (A2y x.ss todo x.ss.length)
      have e1:IntKind.i64.wrap ((i:Int)+1)=((i+1:Nat):Int):=A0k (by omega) (by omega)
      have hn:A2y x.ss todo x.ss.length=A9t d s todo:=by unfold A2y A9t;rw[List.take_length,hsup]
      simp -implicitDefEqProofs [E5i,e1]
      exact Next.mk (i+1,A2y x.ss todo x.ss.length) ⟨hw.step hs hbd hn hgr.nodup hgr.mem hgr.len,by simp only;omega⟩ (A0i (k:=0) rj (by omega) (by omega) (by simp -implicitDefEqProofs [A0f,A0e,ren,under]))
    ·have hie:i=todo.length:=by omega
     have he:A5k d s0=todo:=hw.stop hie
     refine A0c A2d ?_
     simp -implicitDefEqProofs [S140,A1o,hi]
     rw[he]
     exact Next.mk () (by first | exact hbd | exact trivial) (A0i (k:=0) r0 (by omega) (by omega) (by simp -implicitDefEqProofs [hie,A0f,A0e,ren,under]))
  ·rintro _ hbl
   obtain⟨l,hl⟩:∃l,l=A5k d s0:=⟨_,rfl⟩
   rw[<-hl]at hbl ⊢
   have r0:=A0j.head' eStr 9 0 l
   refine A0a A2d ?_
   simp -implicitDefEqProofs [S140]
   refine A0q (fun _:Unit=>F0e l l.length) (fun _=>True) (fun _=>rfl) ?_ ?_
   ·refine A0a A2d ?_
    simp -implicitDefEqProofs
    refine A0g ?_
    refine A1a (F0e l) l.length (fun _=>rfl) ?_ rfl ?_ ?_
    ·exact A0i (k:=0) r0 (by omega) (by omega) (by simp -implicitDefEqProofs [B2z,A0l,A0f,A0e,ren,under])
    ·intro j hj
     refine A0c A2d ?_
     obtain⟨s,hs⟩:∃s,l[j]?=some s:=⟨_,List.getElem?_eq_getElem hj⟩
     have ir:=A1p (e:=eStr) (b:=0) hs .i64
     have ld:=r0.load (off:=0) (c:=sv s) hs rfl
     rw[hz,Nat.mul_one]at ir
     rw[hz,Nat.mul_one,Nat.add_zero]at ld
     have hpl:=A8n l j
     have gp:=C0t (IsS.tree eStr (B2z l j)) s (by unfold cap;omega)
     rw[<-C0u hs]at gp
     have e1:IntKind.i64.wrap ((j:Int)+1)=((j+1:Nat):Int):=A0k (by omega) (by omega)
     simp -implicitDefEqProofs [F0e,A1o,hj,ir,ld,tb11,gp,e1]
     exact A0i (k:=0) r0 (by omega) (by omega) (by simp -implicitDefEqProofs [A0f,A0e,ren,under])
    ·refine A0c A2d ?_
     simp -implicitDefEqProofs [F0e,A1o]
     exact Next.mk () trivial (A0i (k:=0) r0 (by omega) (by omega) (by simp -implicitDefEqProofs [A0f,A0e,ren,under]))
   ·rintro _ -
    refine A0c A2d ?_
    simp -implicitDefEqProofs [F0e,C5p]
end Go.Proofs.Ytbiadmfmjnoecaa
