/-
 Auxiliary facts. No statement of the program stands here.
-/
import Derived.Test.YtbiadmfmjnoecaaVAQ36
import Derived.Test.YtbiadmfmjnoecaaVAQ37
namespace Go.Proofs.Ytbiadmfmjnoecaa
set_option linter.unusedSimpArgs false
set_option linter.unusedVariables false
open Go Go.Abs
def fOrN (l m:List W):T:=encB (orN l m)
def G8m (l:List W):T:=iv (cnt l)
def F9o (l m:List W):T:=bv (l==m)
def tj1:Tbl:=[(70,gB2 fOrN),(71,gB2 fSub),(72,gB1 G8m)]
theorem cj1:Ctx Try.prog G (orc tj1):=(A1o.cons (A6t G6y) (.cons (A6t E6k) (.cons (F5m F0m) .nil))).ctx A1w
def SJ (tt tf:T) (n:Nat) (c:List W) (b:Nat->Nat) (i:Nat):A0b:=⟨[(27,.t (iv (i:Int))),(26,.t (iv (n:Int))),(25,.t tt),(8,.t (iv (b i:Int))),(7,.t (encB c)),(3,.ptr 0 0)],[(0,.cells 29 [.t tt,.t tf])],1,52⟩
theorem F9p (x y:List W):(orN x y).length<=max x.length y.length:=by
 unfold orN
 refine Nat.le_trans (B0b _) ?_
 simp[orL]
theorem F9q {tt tf:T} {ty:List Typ} (hT:IsS eTyp tt ty) (hok:TyOK ty) (hl:ty.length<=1000000) {i j:Nat} (hi:i<ty.length) (hj:j<ty.length) :
  A0y Try.prog G 41 [.ag [tt,tf],iv (i:Int),iv (j:Int)] (· = iv (A2q ty (i:Int) (j:Int))):=by
 obtain⟨x,hx⟩:∃x,ty[i]?=some x:=⟨_,List.getElem?_eq_getElem hi⟩
 obtain⟨y,hy⟩:∃y,ty[j]?=some y:=⟨_,List.getElem?_eq_getElem hj⟩
 have hxl:=hok x (List.mem_of_getElem? hx)
 have hyl:=hok y (List.mem_of_getElem? hy)
 have cp:A0q (.t (.ag [tt,tf]))=some [.t tt,.t tf]:=rfl
 have i1:=B0j hT hx
 have i2:=B0j hT hy
 have go:gB2 fOrN [encB x.code,encB y.code]=some (encB (orN x.code y.code)):=A7v (A0x _) (A0x _) hxl hyl
 obtain⟨c,hc⟩:∃c,c=orN x.code y.code:=⟨_,rfl⟩
 have hcl:c.length<=1000:=by have:=F9p x.code y.code;rw[hc];omega
 have hres:A2q ty (i:Int) (j:Int)=((A6u ty c ty.length:Nat):Int):=by
  unfold A2q
  rw[Int.toNat_natCast,Int.toNat_natCast,A3w hx,A3w hy,hc]
 rw[<-hc]at go
 refine D0o.call rfl ?_
 unfold B9q
 refine A0a cj1 ?_
 simp -implicitDefEqProofs [cp]
 refine A0a cj1 ?_
 simp -implicitDefEqProofs [i1,i2,A0f,tj1,go]
 refine A0a cj1 ?_
 simp -implicitDefEqProofs
 refine A0r (fun _:Unit=>SJ tt tf ty.length c (A6u ty c) ty.length) (fun _=>True) (fun _=>rfl) ?_ ?_
 ·refine A0a cj1 ?_
  simp -implicitDefEqProofs [A0f,hT.len]
  refine A0h ?_
  refine A1a (SJ tt tf ty.length c (A6u ty c)) ty.length (fun _=>rfl) ?_ rfl ?_ ?_
  ·refine A0d rfl rfl ?_ ?_<;>simp -implicitDefEqProofs [SJ,A6u]
  ·intro k hk
   obtain⟨z,hz⟩:∃z,ty[k]?=some z:=⟨_,List.getElem?_eq_getElem hk⟩
   obtain⟨b,hb⟩:∃b,b=A6u ty c k:=⟨_,rfl⟩
   have hbl:b<ty.length:=by
    have:∀n,n<=ty.length->A6u ty c n<ty.length:=by
     intro n
     induction n with
     | zero=>intro _;show 0<_;omega
     | succ n ih=>
      intro hn
      unfold A6u
      split
      ·omega
      ·exact ih (by omega)
    rw[hb]
    exact this k (by omega)
   obtain⟨v,hv⟩:∃v,ty[b]?=some v:=⟨_,List.getElem?_eq_getElem hbl⟩
   have iz:=B0j hT hz
   have ib:=B0j hT hv
   have hzl:=hok z (List.mem_of_getElem? hz)
   have hvl:=hok v (List.mem_of_getElem? hv)
   have gs:gB2 fSub [encB c,encB z.code]=some (bv (subL c z.code)):=A7v (A0x _) (A0x _) hcl hzl
   have gz:gB1 G8m [encB z.code]=some (iv (cnt z.code)):=D9g (A0x _) hzl
   have gv:gB1 G8m [encB v.code]=some (iv (cnt v.code)):=D9g (A0x _) hvl
   have e1:IntKind.i64.wrap ((k:Int)+1)=((k+1:Nat):Int):=A0k (by omega) (by omega)
   have hnext:A6u ty c (k+1)=if subL c z.code=true/\cnt z.code<cnt v.code then k else b:=by
    show(if subL c (A1p ty k)=true/\cnt (A1p ty k)<cnt (A1p ty (A6u ty c k))then k else A6u ty c k)=_
    rw[<-hb,A3w hz,A3w hv]
   have cz:A0q (.t (.ag [sv z.name,encB z.code,z.sups,z.vals]))=some [.t (sv z.name),.t (encB z.code),.t z.sups,.t z.vals]:=rfl
   refine A0c cj1 ?_
   cases hs:subL c z.code with
   | false=>
    rw[hs]at gs
    rw[if_neg (by rw[hs];simp)]at hnext
    simp -implicitDefEqProofs [SJ,<-hb,hk,iz,A0f,A0v,A1h,cz,tj1,gs,e1]
    rw[hnext]
    refine C4d (by omega) ?_ ?_<;>simp -implicitDefEqProofs [A1b,A2c,under]
   | true=>
    rw[hs]at gs
    by_cases hc2:cnt z.code<cnt v.code
    ·have hc2':(cnt z.code:Int)<(cnt v.code:Int):=by omega
     rw[if_pos ⟨hs,hc2⟩]at hnext
     simp -implicitDefEqProofs [SJ,<-hb,hk,iz,ib,A0f,A0v,A1h,cz,tj1,gs,gz,gv,hc2,hc2',e1]
     rw[hnext]
     refine C4d (by omega) ?_ ?_<;>simp -implicitDefEqProofs [A1b,A2c,under]
    ·have hc2':¬(cnt z.code:Int)<(cnt v.code:Int):=by omega
     rw[if_neg (fun h=>hc2 h.2)]at hnext
     simp -implicitDefEqProofs [SJ,<-hb,hk,iz,ib,A0f,A0v,A1h,cz,tj1,gs,gz,gv,hc2,hc2',e1]
     rw[hnext]
     refine C4d (by omega) ?_ ?_<;>simp -implicitDefEqProofs [A1b,A2c,under]
  ·refine A0c cj1 ?_
   simp -implicitDefEqProofs [SJ]
   exact Next.mk () trivial (A0d rfl rfl (by simp -implicitDefEqProofs) (by simp -implicitDefEqProofs))
 ·rintro _ _
  refine A0c cj1 ?_
  simp -implicitDefEqProofs [SJ,hres]
def tj2:Tbl:=[(118,gB2 F9o)]
theorem cj2:Ctx Try.prog G (orc tj2):=(A1o.cons (A6t C8d) .nil).ctx A1w
def SFd (tt tf:T) (c:List W) (j:Nat):A0b:=⟨[(6,.t (iv (j:Int))),(1,.t (encB c)),(2,.ptr 0 0)],[(0,.cells 29 [.t tt,.t tf])],1,23⟩
def F2t (ty:List Typ) (c:List W):T:=if ty.findIdx (fun x=>x.code==c)<ty.length then .tu [iv (ty.findIdx (fun x=>x.code==c):Nat),bv true]else .tu [iv 0,bv false]
theorem F2u {tt tf:T} {ty:List Typ} (hT:IsS eTyp tt ty) (hok:TyOK ty) (hl:ty.length<=1000000) {c:List W} (hc:c.length<=1000):A0y Try.prog G 90 [.ag [tt,tf],encB c] (· = F2t ty c):=by
 have cp:A0q (.t (.ag [tt,tf]))=some [.t tt,.t tf]:=rfl
 refine D3g.call rfl ?_
 unfold C3m
 refine A0a cj2 ?_
 simp -implicitDefEqProofs [cp]
 obtain⟨n,hn⟩:∃n,n=ty.findIdx fun x=>x.code==c:=⟨_,rfl⟩
 have hle:n<=ty.length:=by rw[hn];exact A3h _ _
 have hres:F2t ty c=if n<ty.length then .tu [iv (n:Int),bv true]else .tu [iv 0,bv false]:=by rw[hn];rfl
 refine A0r (fun _:Unit=>SFd tt tf c ty.length) (fun _=>n=ty.length) (fun _=>rfl) ?_ ?_
 ·refine A0a cj2 ?_
  simp -implicitDefEqProofs
  refine A0h ?_
  refine A1a (SFd tt tf c) n (fun _=>rfl) ?_ rfl ?_ ?_
  ·refine A0d rfl rfl ?_ ?_<;>simp -implicitDefEqProofs [SFd]
  ·intro j hj
   refine A0c cj2 ?_
   have hjl:j<ty.length:=by omega
   obtain⟨x,hx⟩:∃x,ty[j]?=some x:=⟨_,List.getElem?_eq_getElem hjl⟩
   have hp:=A2g (p:=fun x:Typ=>x.code==c) (by rw[<-hn];exact hj) hx
   have gs:gB2 F9o [encB x.code,encB c]=some (bv (x.code==c)):=A7v (A0x _) (A0x _) (hok x (List.mem_of_getElem? hx)) hc
   rw[hp]at gs
   have ia:=B0j hT hx
   have e1:IntKind.i64.wrap ((j:Int)+1)=((j+1:Nat):Int):=A0k (by omega) (by omega)
   simp -implicitDefEqProofs [SFd,hjl,hT.len,ia,A0f,tj2,gs,e1]
   refine A0d rfl rfl ?_ ?_<;>simp -implicitDefEqProofs
  ·refine A0c cj2 ?_
   by_cases e:n=ty.length
   ·have hnl':¬n<ty.length:=by omega
    simp -implicitDefEqProofs [SFd,A0f,hT.len,hnl']
    exact Next.mk () (by first | exact trivial | exact e) (A0d rfl rfl (by simp -implicitDefEqProofs [e]) (by simp -implicitDefEqProofs))
   ·have hjl:n<ty.length:=by omega
    obtain⟨x,hx,hp⟩:=A1s (p:=fun x:Typ=>x.code==c) (l:=ty) (by rw[<-hn];exact hjl)
    rw[<-hn]at hx
    have gs:gB2 F9o [encB x.code,encB c]=some (bv (x.code==c)):=A7v (A0x _) (A0x _) (hok x (List.mem_of_getElem? hx)) hc
    rw[hp]at gs
    have ia:=B0j hT hx
    rw[if_pos hjl]at hres
    simp -implicitDefEqProofs [SFd,hjl,hT.len,ia,A0f,tj2,gs,hres]
 ·rintro _ e
  rw[if_neg (by omega)]at hres
  refine A0c cj2 ?_
  simp -implicitDefEqProofs [SFd,hres]
structure JOK (ty:List Typ):Prop where
 ok:TyOK ty
 len:ty.length<=1000000
 top:F2k ty
 meet:D4e ty
 inj:C6a ty
theorem JOK.join {ty:List Typ} (h:JOK ty):A9r ty (A2q ty):=E8f h.top h.meet
noncomputable def F9r:List T->Option T:=g2 tH tB fun h c=>open Classical in if TyOK h.1/\h.1.length<=1000000/\c.length<=1000 then some (F2t h.1 c)else none
theorem F9s:GOK Try.prog G 90 F9r:=A6z fun a b h c r ha hb hr=>by
 obtain⟨u,v,rfl,hu,hv⟩:=ha
 obtain rfl:b=encB c:=hb
 split at hr
 ·rename_i hl;injection hr with hr;subst hr;exact F2u hu hl.1 hl.2.1 hl.2.2
 ·cases hr
theorem F9t {u v:T} {h:List Typ×List Ft} {c:List W} (hu:IsS eTyp u h.1) (hv:IsS eFt v h.2) (ho:TyOK h.1) (hl:h.1.length<=1000000) (hc:c.length<=1000):F9r [.ag [u,v],encB c]=some (F2t h.1 c):=
 (A5x (τ:=tH) (σ:=tB) ⟨u,v,rfl,hu,hv⟩ rfl).trans (if_pos ⟨ho,hl,hc⟩)
noncomputable def tj3:Tbl:=[(88,gB2 fOrN),(81,gB2 fSub),(89,gB2 fAnd),(90,F9r)]
theorem cj3:Ctx Try.prog G (orc tj3):=(A1o.cons (A6t G2g) (.cons (A6t C1f) (.cons (A6t C1e) (.cons F9s .nil)))).ctx A1w
def SRJ (tt tf:T) (c:List W) (d:Nat->List W) (k:Nat):A0b:=⟨[(9,.t (iv (k:Int))),(8,.t (encB (d k))),(7,.t (encB c)),(3,.ptr 0 0)],[(0,.cells 29 [.t tt,.t tf])],1,60⟩
theorem F2v {tt tf:T} {h:List Typ×List Ft} (hT:IsS eTyp tt h.1) (hF:IsS eFt tf h.2) (hj:JOK h.1) {s t:Nat} (hs:s<h.1.length) (ht:t<h.1.length) :
  A0y Try.prog G 66 [.ag [tt,tf],iv (s:Int),iv (t:Int)] (· = iv (A2q h.1 (s:Int) (t:Int))):=by
 obtain⟨ty,hty⟩:∃ty,ty=h.1:=⟨_,rfl⟩
 have hl:=hj.len
 have hok:=hj.ok
 obtain⟨jr1,jr2⟩:=G4i hj.top hj.meet hj.inj (s:=(s:Int)) (t:=(t:Int)) (by omega) (by omega) (by omega) (by omega)
 rw[<-jr2]
 have gf:=fun c hc=>F9t (c:=c) hT hF hok hl hc
 rw[<-hty]at hT hs ht hl hok jr1 gf ⊢
 obtain⟨x,hx⟩:∃x,ty[s]?=some x:=⟨_,List.getElem?_eq_getElem hs⟩
 obtain⟨y,hy⟩:∃y,ty[t]?=some y:=⟨_,List.getElem?_eq_getElem ht⟩
 obtain⟨z0,hz0⟩:∃z,ty[0]?=some z:=⟨_,List.getElem?_eq_getElem (by omega)⟩
 have hxl:=hok x (List.mem_of_getElem? hx)
 have hyl:=hok y (List.mem_of_getElem? hy)
 have cp:A0q (.t (.ag [tt,tf]))=some [.t tt,.t tf]:=rfl
 have ag:agOf [.t tt,.t tf] = .t (.ag [tt,tf]):=rfl
 have i1:=B0j hT hx
 have i2:=B0j hT hy
 have i0:A2j 4 (.t tt) (.t (.v (.int .i64 0)))=some (.t (.pt (sv z0.name::encB z0.code::z0.sups::z0.vals::rest eTyp ty 0))):=B0j hT hz0
 have go:gB2 fOrN [encB x.code,encB y.code]=some (encB (orN x.code y.code)):=A7v (A0x _) (A0x _) hxl hyl
 obtain⟨c,hc⟩:∃c,c=orN x.code y.code:=⟨_,rfl⟩
 have hcl:c.length<=1000:=by have:=F9p x.code y.code;rw[hc];omega
 rw[<-hc]at go
 have hdl:=fun n=>C4j (c:=c) hok n
 have hd0:A4q ty c 0=z0.code:=A3w hz0
 have hres:F2t ty (A4q ty c ty.length) = .tu [iv ((F2p ty (s:Int) (t:Int):Nat):Int),bv true]:=by
  unfold F2t
  have:F2p ty (s:Int) (t:Int)=ty.findIdx fun x=>x.code==A4q ty c ty.length:=by
   unfold F2p
   rw[Int.toNat_natCast,Int.toNat_natCast,A3w hx,A3w hy,hc]
  rw[<-this,if_pos jr1]
 refine D3e.call rfl ?_
 unfold C3l
 refine A0a cj3 ?_
 simp -implicitDefEqProofs [cp]
 refine A0a cj3 ?_
 simp -implicitDefEqProofs [i1,i2,A0f,tj3,go]
 refine A0a cj3 ?_
 simp -implicitDefEqProofs [i0,A0f]
 refine A0r (fun _:Unit=>SRJ tt tf c (A4q ty c) ty.length) (fun _=>True) (fun _=>rfl) ?_ ?_
 ·refine A0a cj3 ?_
  simp -implicitDefEqProofs
  refine A0h ?_
  refine A1a (SRJ tt tf c (A4q ty c)) ty.length (fun _=>rfl) ?_ rfl ?_ ?_
  ·refine A0d rfl rfl ?_ ?_<;>simp -implicitDefEqProofs [SRJ,hd0]
  ·intro k hk
   obtain⟨z,hz⟩:∃z,ty[k]?=some z:=⟨_,List.getElem?_eq_getElem hk⟩
   have iz:=B0j hT hz
   have hzl:=hok z (List.mem_of_getElem? hz)
   have gs:gB2 fSub [encB c,encB z.code]=some (bv (subL c z.code)):=A7v (A0x _) (A0x _) hcl hzl
   have ga:gB2 fAnd [encB (A4q ty c k),encB z.code]=some (encB (andN (A4q ty c k) z.code)):=A7v (A0x _) (A0x _) (hdl k) hzl
   have e1:IntKind.i64.wrap ((k:Int)+1)=((k+1:Nat):Int):=A0k (by omega) (by omega)
   have hnext:A4q ty c (k+1)=if subL c z.code=true then andN (A4q ty c k) z.code else A4q ty c k:=by
    show(if subL c (A1p ty k)=true then andN (A4q ty c k) (A1p ty k)else A4q ty c k)=_
    rw[A3w hz]
   refine A0c cj3 ?_
   cases hs:subL c z.code with
   | false=>
    rw[hs]at gs
    rw[if_neg (by rw[hs];simp)]at hnext
    simp -implicitDefEqProofs [SRJ,hk,hT.len,iz,A0f,tj3,gs,e1]
    exact A0d rfl rfl (by simp -implicitDefEqProofs [hnext]) (by simp -implicitDefEqProofs)
   | true=>
    rw[hs]at gs
    rw[if_pos hs]at hnext
    simp -implicitDefEqProofs [SRJ,hk,hT.len,iz,A0f,tj3,gs,ga,e1]
    exact A0d rfl rfl (by simp -implicitDefEqProofs [hnext]) (by simp -implicitDefEqProofs)
  ·refine A0c cj3 ?_
   simp -implicitDefEqProofs [SRJ,A0f,hT.len]
   exact Next.mk () trivial (A0d rfl rfl (by simp -implicitDefEqProofs) (by simp -implicitDefEqProofs))
 ·rintro _ _
  refine A0c cj3 ?_
  simp -implicitDefEqProofs [SRJ,A0f,ag,tj3,gf _ (hdl _),hres,extractV]
noncomputable def E1u:List T->Option T:=g3 tH tInt tInt fun h s t=>open Classical in if JOK h.1/\(0<=s/\s<(h.1.length:Int))/\0<=t/\t<(h.1.length:Int)then some (iv (A2q h.1 s t))else none
theorem E8l {F:Nat} (hc:∀{tt tf:T} {h:List Typ×List Ft},IsS eTyp tt h.1->IsS eFt tf h.2->JOK h.1->∀{s t:Nat},s<h.1.length->t<h.1.length->A0y Try.prog G F [.ag [tt,tf],iv (s:Int),iv (t:Int)] (· = iv (A2q h.1 (s:Int) (t:Int)))):GOK Try.prog G F E1u:=D8q fun a b c h s t r ha hb hc' hr=>by
 obtain⟨u,v,rfl,hu,hv⟩:=ha
 obtain rfl:b=iv s:=hb
 obtain rfl:c=iv t:=hc'
 split at hr
 ·rename_i hl
  injection hr with hr
  subst hr
  obtain⟨hj,⟨s0,s1⟩,t0,t1⟩:=hl
  have:=hc hu hv hj (s:=s.toNat) (t:=t.toNat) (by omega) (by omega)
  rwa[show((s.toNat:Nat):Int)=s by omega,show((t.toNat:Nat):Int)=t by omega]at this
 ·cases hr
theorem E8m {u v:T} {h:List Typ×List Ft} (hu:IsS eTyp u h.1) (hv:IsS eFt v h.2) (hj:JOK h.1) {s t:Int} (hs:0<=s/\s<(h.1.length:Int)) (ht:0<=t/\t<(h.1.length:Int)):E1u [.ag [u,v],iv s,iv t]=some (iv (A2q h.1 s t)):=
 (D8r (τ:=tH) (σ:=tInt) (ρ:=tInt) ⟨u,v,rfl,hu,hv⟩ rfl rfl).trans (if_pos ⟨hj,hs,ht⟩)
theorem G4v:GOK Try.prog G 41 E1u:=E8l fun hT _ hj _ _ hs ht=>F9q hT hj.ok hj.len hs ht
theorem G4w:GOK Try.prog G 66 E1u:=E8l F2v
def nd0 (t:Int):Nd:=⟨t,nilS,[],IsS.nil⟩
def arR (s:Arc):Row:=.cells 81 [.t (iv s.feat),.t (iv s.to)]
def A2o (xs ys:List Arc) (i:Nat):List (Int×(Nat×Nat)):=(xs.take i).flatMap fun s=>both s ys
theorem C4m {xs ys:List Arc} {i:Nat} {s:Arc} (h:xs[i]?=some s):A2o xs ys (i+1)=A2o xs ys i++both s ys:=by
 unfold A2o
 rw[List.take_add_one,h,List.flatMap_append]
 simp
theorem F9u {s t:Arc} {ys:List Arc} {j:Nat} (h:ys[j]?=some t):both s (ys.take (j+1))=both s (ys.take j)++(if s.feat=t.feat then [(s.feat,(s.to.toNat,t.to.toNat))]else []):=by
 unfold both
 rw[List.take_add_one,h,List.filterMap_append]
 congr 1
 by_cases e:s.feat=t.feat
 ·simp[e]
 ·simp[e]
theorem E8n (s:Arc) (l:List Arc):(both s l).length<=l.length:=List.length_filterMap_le _ _
theorem E1v (xs ys:List Arc) (i:Nat):(A2o xs ys i).length<=i*ys.length:=by
 induction i with
 | zero=>simp[A2o]
 | succ i ih=>
  cases h:xs[i]? with
  | none=>
   have e:A2o xs ys (i+1)=A2o xs ys i:=by
    unfold A2o
    rw[List.take_add_one,h,List.flatMap_append]
    simp
   rw[e,Nat.succ_mul]
   omega
  | some s=>
   rw[C4m h,List.length_append,Nat.succ_mul]
   have:=E8n s ys
   omega
theorem E1w {a b:List Nd} {p:Nat×Nat} {i:Nat} {c:Int×(Nat×Nat)} (h:c∈A2o (A9v a p.1) (A9v b p.2) i):c∈A1l a b p:=by
 obtain⟨s,hs,hc⟩:=List.mem_flatMap.1 h
 exact List.mem_flatMap.2 ⟨s,List.mem_of_mem_take hs,hc⟩
section
variable {tt tf ta tb : T} {h : List Typ × List Ft} {a b : List Nd}
def midL (a b:List Nd) (k:Nat) (p:Nat×Nat) (L:List (Nat×Nat)) (D:List (Int×(Nat×Nat))):List (Nat×Nat):=midK (A1l a b) k p L D
def midN (jn:Int->Int->Int) (a b:List Nd) (k:Nat) (p:Nat×Nat) (L:List (Nat×Nat)) (N:List Nd) (D:List (Int×(Nat×Nat))):List Nd:=
 N++nd0 (typP jn a b p)::B4d (A1l a b) (typP jn a b) (L.length+1) (midL a b k p L D)
def midA (a b:List Nd) (k:Nat) (p:Nat×Nat) (L:List (Nat×Nat)) (D:List (Int×(Nat×Nat))):List Arc:=D.map (arcK (midL a b k p L D))
def SV1 (tt tf ta tb:T) (y:Nd) (tx:T) (n m:Nat) (L:List (Nat×Nat)) (N:List Nd) (A:List Arc) (i:Nat):A0b:=
 ⟨[(77,.t (iv (i:Int))),(76,.t (iv (n:Int))),(75,.t tx),(9,.ptr 5 0),(10,rowP eArc 4 A),(7,.t (iv (m:Int))),(0,.ptr 0 0)],gzH tt tf ta tb 0 1 3 L N (rowH eArc 81 4 A++[(5,ndR y)]),7,117⟩
def SV2 (tt tf ta tb:T) (y:Nd) (tx:T) (s:Arc) (n m:Nat) (L:List (Nat×Nat)) (N:List Nd) (A:List Arc) (i j:Nat):A0b:=
 ⟨[(84,.t (iv (j:Int))),(83,.t (iv (y.arcs.length:Int))),(82,.t y.tree),(12,.ptr 6 0),(77,.t (iv (i:Int))),(76,.t (iv (n:Int))),(75,.t tx),(9,.ptr 5 0),(10,rowP eArc 4 A),(7,.t (iv (m:Int))),(0,.ptr 0 0)],
  gzH tt tf ta tb 0 1 3 L N (rowH eArc 81 4 A++[(5,ndR y),(6,arR s)]),7,117⟩
def SV3 (tt tf ta tb tr:T) (m:Nat) (L:List (Nat×Nat)) (N:List Nd):A0b:=⟨[(10,.t tr),(7,.t (iv (m:Int))),(0,.ptr 0 0)],gzH tt tf ta tb 0 1 3 L N [],7,117⟩
noncomputable def tv4:Tbl:=[(41,E1u)]
theorem cv4:Ctx Try.prog G (orc tv4):=(A1o.cons G4v .nil).ctx A1w
def σv (k k' ky ks x:Nat):Nat:=if x=3 then k else if x=4 then k' else if x=5 then ky else if x=6 then ks else x
theorem H0m {k k' ky ks x y:Nat} (hd:k≠k'/\k≠ky/\k≠ks/\k'≠ky/\k'≠ks/\ky≠ks/\2<=k/\2<=k'/\2<=ky/\2<=ks) (h1:x=0\/x=1\/x=3\/x=4\/x=5\/x=6) (h2:y=0\/y=1\/y=3\/y=4\/y=5\/y=6) (e:σv k k' ky ks x=σv k k' ky ks y):x=y:=by
 unfold σv at e
 rcases h1 with rfl | rfl | rfl | rfl | rfl | rfl<;>rcases h2 with rfl | rfl | rfl | rfl | rfl | rfl<;>simp at e ⊢ <;> omega
theorem F9v {P:Program} {B nx n:Nat} {k k' ky ks:Nat} {L:List (Nat×Nat)} {N:List Nd} {A:List Arc} {y:Nd} {env env':List (Nat×PV)} {H R:Heap} (hB:B<=3) (w:Gz tt tf ta tb 0 1 k L N H) (ar:A0i eArc 81 H k' A) (hy:Abs.look H ky=some (ndR y))
  (hR:R=[(5,ndR y)]\/∃s,R=[(5,ndR y),(6,arR s)]/\Abs.look H ks=some (arR s)) (hd:k≠k'/\k≠ky/\k≠ks/\k'≠ky/\k'≠ks/\ky≠ks/\2<=k/\2<=k'/\2<=ky/\2<=ks)
  (he:∀q∈env',Abs.look env q.1=some (ren (σv k k' ky ks) q.2)/\under 7 q.2=true) :
  Sub P G B ⟨env,H,nx,n⟩ ⟨env',gzH tt tf ta tb 0 1 3 L N (rowH eArc 81 4 A++R),7,n⟩:=by
 have mem:∀q∈rowH eArc 81 4 A++R,(A≠[]/\q=(4,A2r eArc 81 A))\/q=(5,ndR y)\/∃s,q=(6,arR s)/\Abs.look H ks=some (arR s):=by
  intro q hq
  rcases List.mem_append.1 hq with hq | hq
  ·exact .inl (A1r hq)
  ·rcases hR with rfl | ⟨s,rfl,hs⟩
   ·exact .inr (.inl (by simpa using hq))
   ·simp only[List.mem_cons,List.not_mem_nil,or_false]at hq
    rcases hq with rfl | rfl
    ·exact .inr (.inl rfl)
    ·exact .inr (.inr ⟨s,rfl,hs⟩)
 refine E8j (σv k k' ky ks) (fun x hx=>?_) hB (by omega) w (fun q hq=>?_) (fun x y' hx hy' e=>?_) he
 ·unfold σv
  rw[if_neg (by omega),if_neg (by omega),if_neg (by omega),if_neg (by omega)]
 ·rcases mem q hq with⟨hn,rfl⟩ | rfl | ⟨s,rfl,hs⟩
  ·simp only[A1i,A1e]
   exact⟨ar.resolve_left hn,by omega,trivial⟩
  ·exact⟨hy,by show 5<7;omega,rfl⟩
  ·exact⟨hs,by show 6<7;omega,rfl⟩
 ·have num:∀x,(x=0\/x=1\/x=3\/∃q∈rowH eArc 81 4 A++R,q.1=x)->x=0\/x=1\/x=3\/x=4\/x=5\/x=6:=by
   rintro x (hx | hx | hx | ⟨q,hq,rfl⟩)
   ·omega
   ·omega
   ·omega
   ·rcases mem q hq with⟨_,rfl⟩ | rfl | ⟨s,rfl,_⟩
    ·exact .inr (.inr (.inr (.inl rfl)))
    ·exact .inr (.inr (.inr (.inr (.inl rfl))))
    ·exact .inr (.inr (.inr (.inr (.inr rfl))))
  exact H0m hd (num x hx) (num y' hy') e
theorem A8w {g m n z:Nat} {L:List (Nat×Nat)} {N:List Nd} {R:Heap} (hg:z≠g) (hm:z≠m) (hn:z≠n):Abs.look (gzH tt tf ta tb g m n L N R) z=Abs.look R z:=by
 unfold gzH
 rw[look_cons,if_neg (Ne.symm hg),look_cons,if_neg (Ne.symm hm)]
 cases N with
 | nil=>rfl
 | cons y r=>
  show Abs.look ((n,_)::R) z=_
  rw[look_cons,if_neg (Ne.symm hn)]
theorem C6o {n z:Nat} {A:List Arc} {R:Heap} (hn:z≠n):Abs.look (rowH eArc 81 n A++R) z=Abs.look R z:=by
 cases A with
 | nil=>rfl
 | cons y r=>
  show Abs.look ((n,_)::R) z=_
  rw[look_cons,if_neg (Ne.symm hn)]
theorem D7e {L:List (Nat×Nat)} {N:List Nd} {A:List Arc} {R:Heap}:A0i eArc 81 (gzH tt tf ta tb 0 1 3 L N (rowH eArc 81 4 A++R)) 4 A:=by
 rcases A0i.head eArc 81 R 4 A with h | h
 ·exact .inl h
 ·exact .inr (by rw[A8w (by omega) (by omega) (by omega)];exact h)
theorem rem3 {H:Heap} {x y z k:Nat} (hx:k≠x) (hy:k≠y) (hz:k≠z):Abs.look (rem (rem (rem H x) y) z) k=Abs.look H k:=by
 rw[A1n,if_neg hz,A1n,if_neg hy,A1n,if_neg hx]
theorem H0n (H:Heap) (F:List Nat) (b:Nat):frzP H F (.mp b) = .mp b:=rfl
theorem Gz.frz {g m n k:Nat} {L:List (Nat×Nat)} {N:List Nd} {H:Heap} (w:Gz tt tf ta tb g m n L N H) (hg:g≠k) (hm:m≠k) (hn:n≠k):Gz tt tf ta tb g m n L N ((remAll H [k]).map fun q=>(q.1,A3c H [k] q.2)) where
 gz:=by
  have h1:Abs.look (remAll H [k]) g=some (gzR tt tf ta tb m n N):=by
   show Abs.look (rem H k) g=_
   rw[A1n,if_neg hg,w.gz]
  rw[A7l,h1]
  simp only[gzR,Option.map_some,A3c,List.map_cons,List.map_nil,B3d,H0n,A9p w.nd hn]
 mp:=by
  have h1:Abs.look (remAll H [k]) m=some (mapR L):=by
   show Abs.look (rem H k) m=_
   rw[A1n,if_neg hm,w.mp]
  rw[A7l,h1]
  rfl
 nd:=A0i.frz w.nd hn
 gm:=w.gm
 gn:=w.gn
 mn:=w.mn
theorem Gz.set {g m n:Nat} {L:List (Nat×Nat)} {N:List Nd} {H:Heap} (w:Gz tt tf ta tb g m n L N H) (i:Nat) (x:Nd):Gz tt tf ta tb g m n L (N.set i x) (upd H n (A2r eNd 61 (N.set i x))) where
 gz:=by
  rw[A0n,if_neg w.gn,w.gz]
  simp only[gzR,B0k eNd n (show N.length=(N.set i x).length by simp)]
 mp:=by rw[A0n,if_neg w.mn];exact w.mp
 nd:=by
  rcases w.nd with h | h
  ·left;simp[h]
  ·right;rw[A0n,if_pos rfl,h];rfl
 gm:=w.gm
 gn:=w.gn
 mn:=w.mn
theorem G4x {jn:Int->Int->Int} {k:Nat} {p:Nat×Nat} {L:List (Nat×Nat)} {N:List Nd} {D:List (Int×(Nat×Nat))} (hN:N.length=L.length) (hl:L.length+1<=(midL a b k p L D).length):(midN jn a b k p L N D).length=(midL a b k p L D).length:=by
 unfold midN B4d
 simp only[List.length_append,List.length_cons,List.length_map,List.length_drop]
 omega
set_option maxHeartbeats 2000000 in
theorem E4y (hT:IsS eTyp tt h.1) (hF:IsS eFt tf h.2) (hta:IsS eNd ta a) (htb:IsS eNd tb b) (hj:JOK h.1) (ha:A1d h.1.length h.2.length a) (hb:A1d h.1.length h.2.length b) (sa:A2t a) (sb:A2t b) :
  ∀(k:Nat) (p:Nat×Nat) (L:List (Nat×Nat)) (N:List Nd),p∈B4c a b->L.Nodup->(∀y∈L,y∈B4c a b)->N.length=L.length->unv (B4c a b) L<=k ->
  A8z Try.prog G 65 [.ptr 0 0,.t (.ag [iv (p.1:Int),iv (p.2:Int)])] (gzH tt tf ta tb 0 1 2 L N []) 3 (.t (iv (idxK (vis (A1l a b) k p L) p:Int)))
   (gzH tt tf ta tb 0 1 3 (vis (A1l a b) k p L) (N++B4d (A1l a b) (typP (A2q h.1) a b) L.length (vis (A1l a b) k p L)) []) 4:=by
 have hU:=B3m ha hb
 have hz:eNd.z=2:=rfl
 have found:∀(k:Nat) (p:Nat×Nat) (L:List (Nat×Nat)) (N:List Nd),p∈L->A8z Try.prog G 65 [.ptr 0 0,.t (.ag [iv (p.1:Int),iv (p.2:Int)])] (gzH tt tf ta tb 0 1 2 L N []) 3 (.t (iv (idxK (vis (A1l a b) k p L) p:Int)))
   (gzH tt tf ta tb 0 1 3 (vis (A1l a b) k p L) (N++B4d (A1l a b) (typP (A2q h.1) a b) L.length (vis (A1l a b) k p L)) []) 4:=by
  intro k p L N hp
  have hv:vis (A1l a b) k p L=L:=if_pos hp
  rw[hv,F9h,List.append_nil]
  obtain⟨H0,hH0⟩:∃H0,H0=gzH tt tf ta tb 0 1 2 L N []:=⟨_,rfl⟩
  have w0:Gz tt tf ta tb 0 1 2 L N H0:=by rw[hH0];exact Gz.mk' _ _ _ (by omega) (by omega) (by omega)
  rw[<-hH0]
  refine A3a.callP rfl ?_
  unfold A2b
  have w1:=w0.cons (k:=3) (r:=.cells 91 [.t (iv (p.1:Int)),.t (iv (p.2:Int))]) (by omega) (by omega) (by omega)
  obtain⟨l1,l2,l3,l4,l5⟩:=w1.ld
  have cp:A0q (.t (.ag [iv (p.1:Int),iv (p.2:Int)]))=some [.t (iv (p.1:Int)),.t (iv (p.2:Int))]:=rfl
  have ag:agOf [.t (iv (p.1:Int)),.t (iv (p.2:Int))] = .t (.ag [iv (p.1:Int),iv (p.2:Int)]):=rfl
  have lb:A0f true 2 ((3,Row.cells 91 [.t (iv (p.1:Int)),.t (iv (p.2:Int))])::H0) (.ptr 3 0)=some (.t (.ag [iv (p.1:Int),iv (p.2:Int)])):=by simp[A0f,ag]
  have gp:=w1.get (nx:=4) p
  rw[if_pos hp,decide_eq_true hp]at gp
  refine A0a cv4 ?_
  simp -implicitDefEqProofs [cp]
  refine A0c cv4 ?_
  simp -implicitDefEqProofs [l4,lb,gp,extractV]
  refine⟨.inr rfl,⟨[(4,.t (iv (idxK L p:Int)))],gzH tt tf ta tb 0 1 3 L N [],4,117⟩,[.t (iv (idxK L p:Int))],?_,rfl,rfl,rfl,rfl⟩
  exact E8j (fun x=>if x=3 then 2 else x) (fun x hx=>if_neg (by omega)) (by omega) (by omega) w1 (fun q hq=>by cases hq) (fun x y hx hy e=>by
   simp only[List.not_mem_nil,false_and,exists_false,or_false]at hx hy
   rcases hx with rfl | rfl | rfl<;>rcases hy with rfl | rfl | rfl<;>simp at e ⊢) (by simp -implicitDefEqProofs [ren,under])
 intro k
 induction k with
 | zero=>
  intro p L N hp hL hLs hN hk
  refine found 0 p L N ?_
  apply Classical.byContradiction
  intro hn
  have:=D6x hp hn
  omega
 | succ k ih=>
  intro p L N hp hL hLs hN hk
  by_cases hpL:p∈L
  ·exact found (k+1) p L N hpL
  obtain⟨p1,p2⟩:=A4x.1 hp
  obtain⟨x,hx0⟩:∃x,x=ndAt a (p.1:Int):=⟨_,rfl⟩
  obtain⟨y,hy0⟩:∃y,y=ndAt b (p.2:Int):=⟨_,rfl⟩
  have hxa:a[p.1]?=some x:=by rw[hx0];exact(ha.nd p1).2
  have hyb:b[p.2]?=some y:=by rw[hy0];exact(hb.nd p2).2
  have ix:=B3w hta hxa
  have iy:=B3w htb hyb
  have hxl:=sa.arcs x (List.mem_of_getElem? hxa)
  have hyl:=sb.arcs y (List.mem_of_getElem? hyb)
  obtain⟨H0,hH0⟩:∃H0,H0=gzH tt tf ta tb 0 1 2 L N []:=⟨_,rfl⟩
  have w0:Gz tt tf ta tb 0 1 2 L N H0:=by rw[hH0];exact Gz.mk' _ _ _ (by omega) (by omega) (by omega)
  rw[<-hH0]
  refine A3a.callP rfl ?_
  unfold A2b
  have w1:=w0.cons (k:=3) (r:=.cells 91 [.t (iv (p.1:Int)),.t (iv (p.2:Int))]) (by omega) (by omega) (by omega)
  obtain⟨H1,hH1⟩:∃H1,H1=(3,Row.cells 91 [.t (iv (p.1:Int)),.t (iv (p.2:Int))])::H0:=⟨_,rfl⟩
  have cp:A0q (.t (.ag [iv (p.1:Int),iv (p.2:Int)]))=some [.t (iv (p.1:Int)),.t (iv (p.2:Int))]:=rfl
  have ag:agOf [.t (iv (p.1:Int)),.t (iv (p.2:Int))] = .t (.ag [iv (p.1:Int),iv (p.2:Int)]):=rfl
  have lb:∀{H:Heap},Abs.look H 3=some (Row.cells 91 [.t (iv (p.1:Int)),.t (iv (p.2:Int))])->A0f true 2 H (.ptr 3 0)=some (.t (.ag [iv (p.1:Int),iv (p.2:Int)]))/\A0f false 1 H (.ptr 3 0)=some (.t (iv (p.1:Int)))/\A0f false 1 H (.ptr 3 1)=some (.t (iv (p.2:Int))):=fun h=>by
   simp[A0f,h,ag]
  have b1:Abs.look H1 3=some (Row.cells 91 [.t (iv (p.1:Int)),.t (iv (p.2:Int))]):=by rw[hH1];rfl
  obtain⟨lb1,lb2,lb3⟩:=lb b1
  rw[<-hH1]at w1
  obtain⟨l1,l2,l3,l4,l5⟩:=w1.ld
  have gp:=w1.get (nx:=4) p
  rw[if_neg hpL,decide_eq_false hpL]at gp
  refine A0a cv4 ?_
  simp -implicitDefEqProofs [cp]
  rw[<-hH1]
  refine A0a cv4 ?_
  simp -implicitDefEqProofs [l4,lb1,gp,extractV]
  obtain⟨sp,w2⟩:=w1.put (nx:=4) hpL
  obtain⟨H2,hH2⟩:∃H2,H2=upd H1 1 (mapR (L++[p])):=⟨_,rfl⟩
  rw[<-hH2]at sp w2
  refine A0a cv4 ?_
  simp -implicitDefEqProofs [l5,A1q,hN]
  refine A0a cv4 ?_
  simp -implicitDefEqProofs [l4,lb1,sp]
  obtain⟨m1,m2,m3,m4,m5⟩:=w2.ld
  have b2:Abs.look H2 3=some (Row.cells 91 [.t (iv (p.1:Int)),.t (iv (p.2:Int))]):=by rw[hH2,A0n,if_neg (by omega)];exact b1
  obtain⟨c1,c2,c3⟩:=lb b2
  have lt:∀(H:Heap) c d cs,A0f true 2 H (.t (.pt (c::d::cs)))=some (.t (.ag [c,d])):=fun _ _ _ _=>rfl
  have lf:∀(H:Heap) c cs,A0f false 1 H (.t (.pt (c::cs)))=some (.t c):=fun _ _ _=>rfl
  have st6:A0v 2 ((7,Row.cells 61 [.t (iv 0),.t nilS])::(6,Row.cells 61 [.t (iv 0),.t nilS])::H2) (.ptr 6 0) (.t (.ag [iv x.type,x.tree]))=some ((7,Row.cells 61 [.t (iv 0),.t nilS])::(6,ndR x)::H2):=rfl
  have st7:A0v 2 ((7,Row.cells 61 [.t (iv 0),.t nilS])::(6,ndR x)::H2) (.ptr 7 0) (.t (.ag [iv y.type,y.tree]))=some ((7,ndR y)::(6,ndR x)::H2):=rfl
  have w3:=(w2.cons (k:=6) (r:=ndR x) (by omega) (by omega) (by omega)).cons (k:=7) (r:=.cells 61 [.t (iv 0),.t nilS]) (by omega) (by omega) (by omega)
  obtain⟨n1,n2,n3,n4,n5⟩:=w3.ld
  have b3:Abs.look ((7,Row.cells 61 [.t (iv 0),.t nilS])::(6,ndR x)::H2) 3=some (Row.cells 91 [.t (iv (p.1:Int)),.t (iv (p.2:Int))]):=by rw[look_cons,if_neg (by omega),look_cons,if_neg (by omega)];exact b2
  obtain⟨d1,d2,d3⟩:=lb b3
  refine A0a cv4 ?_
  simp -implicitDefEqProofs [m2,m3,c2,c3,ix,iy,lt,st6,n3,d3,st7]
  have w4:=(w2.cons (k:=6) (r:=ndR x) (by omega) (by omega) (by omega)).cons (k:=7) (r:=ndR y) (by omega) (by omega) (by omega)
  obtain⟨H4,hH4⟩:∃H4,H4=(7,ndR y)::(6,ndR x)::H2:=⟨_,rfl⟩
  have b6:Abs.look H4 6=some (ndR x):=by rw[hH4];rfl
  have b7:Abs.look H4 7=some (ndR y):=by rw[hH4];rfl
  rw[<-hH4]at w4
  obtain⟨o1,o2,o3,o4,o5⟩:=w4.ld
  have q1:A0f false 1 H4 (.ptr 6 0)=some (.t (iv x.type)):=by simp[A0f,b6,ndR]
  have q2:A0f false 1 H4 (.ptr 7 0)=some (.t (iv y.type)):=by simp[A0f,b7,ndR]
  obtain⟨ty,hty⟩:∃ty,ty=typP (A2q h.1) a b p:=⟨_,rfl⟩
  have gj:E1u [.ag [tt,tf],iv x.type,iv y.type]=some (iv ty):=by
   rw[hty]
   unfold typP
   rw[<-hx0,<-hy0]
   have r1:=ha.tyr p1
   have r2:=hb.tyr p2
   rw[<-hx0]at r1
   rw[<-hy0]at r2
   exact E8m hT hF hj r1 r2
  have bd:∀{Φ:A1f} {H:Heap} {nx:Nat},A0l Φ H nx (.build [(0,1),(1,1)] [.int .i64 0,.slice none 0 0] [0]) [.t (iv ty)]=some (.t (.ag [iv ty,nilS]),H,nx):=rfl
  have ts:A9a 61 2 [.int .i64 0,.slice none 0 0] 1 [(0,.t (.ag [iv ty,nilS]))]=some (.t (.sl 1 [iv ty,nilS])):=rfl
  have hLl:L.length<=4096*4096:=by
   have h1:=C1x hL hLs
   have h2:=A9t a b
   have h3:a.length*b.length<=4096*4096:=Nat.mul_le_mul ha.form.le hb.form.le
   omega
  obtain⟨bn,H5,n5',ap5,r5,ne5,le5,lk5,ge5⟩:=A1k (e:=eNd) (ty:=61) (by':=32) (nx:=8) (m:=[nd0 ty]) w4.nd (A7m (t:=.sl 1 [iv ty,nilS]) (.inr rfl)) (by simp[hN];omega) (by simp[hN];omega)
  rw[hz]at ap5
  obtain⟨st5,w5⟩:=w4.nodes (fun z hz=>lk5 z (by omega) (by omega)) r5 (by omega) (by omega)
  obtain⟨H6,hH6⟩:∃H6,H6=upd H5 0 (gzR tt tf ta tb 1 bn (N++[nd0 ty])):=⟨_,rfl⟩
  rw[<-hH6]at st5 w5
  have e6:Abs.look H6 6=some (ndR x):=by rw[hH6,A0n,if_neg (by omega),lk5 6 (by omega) (by omega)];exact b6
  have e7:Abs.look H6 7=some (ndR y):=by rw[hH6,A0n,if_neg (by omega),lk5 7 (by omega) (by omega)];exact b7
  refine A0a cv4 ?_
  simp -implicitDefEqProofs [<-hH4,o5,o1,q1,q2,tv4,gj,-evalK_build,bd,ts,ap5,st5]
  refine A0a cv4 ?_
  simp -implicitDefEqProofs
  have hxs:A9v a p.1=x.arcs:=by unfold A9v;rw[<-hx0]
  have hys:A9v b p.2=y.arcs:=by unfold A9v;rw[<-hy0]
  have hall:A1l a b p=A2o x.arcs y.arcs x.arcs.length:=by
   unfold A1l A2o
   rw[hxs,hys,List.take_length]
  obtain⟨jn,hjn⟩:∃jn,jn=A2q h.1:=⟨_,rfl⟩
  rw[<-hjn]at hty ih ⊢
  have hDU:∀D:List (Int×(Nat×Nat)),(∀c∈D,c∈A1l a b p)->∀c∈D,c.2∈B4c a b:=fun D hD c hc=>hU p hp c (hD c hc)
  have hds:∀i,∀c∈A2o x.arcs y.arcs i,c∈A1l a b p:=fun i c hc=>by rw[<-hxs,<-hys]at hc;exact E1w hc
  have hbs:∀(s:Arc) (j:Nat),s∈x.arcs->∀c∈both s (y.arcs.take j),c∈A1l a b p:=fun s j hs c hc=>by
   obtain⟨t,ht,e,rfl⟩:=C1r.1 hc
   exact A9s.2 ⟨s,by rw[hxs];exact hs,t,by rw[hys];exact List.mem_of_mem_take ht,e,rfl⟩
  have hrun:∀D,(∀c∈D,c∈A1l a b p)->_:=fun D hD=>F9l hU hp hpL hk (hDU D hD)
  refine A0r (fun _:Unit=>SV3 tt tf ta tb (A0m eArc (midA a b k p L (A1l a b p))) L.length (midL a b k p L (A1l a b p)) (midN jn a b k p L N (A1l a b p))) (fun _=>True) (fun _=>rfl) ?_ ?_
  ·have q3:A0f false 1 H6 (.ptr 6 1)=some (.t x.tree):=by simp[A0f,e6,ndR]
   refine A0a cv4 ?_
   simp -implicitDefEqProofs [q3,x.ok.len]
   refine A0h ?_
   refine A1a (fun i=>SV1 tt tf ta tb y x.tree x.arcs.length L.length (midL a b k p L (A2o x.arcs y.arcs i)) (midN jn a b k p L N (A2o x.arcs y.arcs i)) (midA a b k p L (A2o x.arcs y.arcs i)) i) x.arcs.length (fun _=>rfl) ?_ rfl ?_ ?_
   ·have e1:midN jn a b k p L N (A2o x.arcs y.arcs 0)=N++[nd0 ty]:=by
     unfold midN
     rw[<-hty]
     show N++nd0 ty::((L++[p]).drop (L.length+1)).map _=_
     rw[List.drop_of_length_le (by simp)]
     rfl
    have e2:midL a b k p L (A2o x.arcs y.arcs 0)=L++[p]:=rfl
    have e3:midA a b k p L (A2o x.arcs y.arcs 0)=[]:=rfl
    show Abs.Sub _ _ _ _ (SV1 tt tf ta tb y x.tree x.arcs.length L.length _ _ _ 0)
    rw[e1,e2,e3]
    exact F9v (k':=bn+1) (ky:=7) (ks:=bn+2) (by omega) w5 (A0i.nil _ _ _ _) e7 (.inl rfl) (by omega) (by simp -implicitDefEqProofs [σv,ren,under,rowP])
   ·intro i hi
    obtain⟨s,hs⟩:∃s,x.arcs[i]?=some s:=⟨_,List.getElem?_eq_getElem hi⟩
    have hsm:=List.mem_of_getElem? hs
    have hto:=ha.form.to x (List.mem_of_getElem? hxa) s hsm
    have is:=A5h x.ok hs
    have e1:IntKind.i64.wrap ((i:Int)+1)=((i+1:Nat):Int):=A0k (by omega) (by omega)
    obtain⟨Hi,hHi⟩:∃Hi,Hi=gzH tt tf ta tb 0 1 3 (midL a b k p L (A2o x.arcs y.arcs i)) (midN jn a b k p L N (A2o x.arcs y.arcs i)) (rowH eArc 81 4 (midA a b k p L (A2o x.arcs y.arcs i))++[(5,ndR y)]):=⟨_,rfl⟩
    have wi:Gz tt tf ta tb 0 1 3 (midL a b k p L (A2o x.arcs y.arcs i)) (midN jn a b k p L N (A2o x.arcs y.arcs i)) Hi:=by rw[hHi];exact Gz.mk' _ _ _ (by omega) (by omega) (by omega)
    have ri:A0i eArc 81 Hi 4 (midA a b k p L (A2o x.arcs y.arcs i)):=by rw[hHi];exact D7e
    have y5:Abs.look Hi 5=some (ndR y):=by rw[hHi,A8w (by omega) (by omega) (by omega),C6o (by omega)];rfl
    have st12:A0v 2 ((7,Row.cells 81 [.t (iv 0),.t (iv 0)])::Hi) (.ptr 7 0) (.t (.ag [iv s.feat,iv s.to]))=some ((7,arR s)::Hi):=rfl
    have q5:A0f false 1 ((7,arR s)::Hi) (.ptr 5 1)=some (.t y.tree):=by simp[A0f,y5,ndR]
    show MC _ _ _ _ _ _ (SV1 tt tf ta tb y x.tree x.arcs.length L.length _ _ _ i)
    unfold SV1
    rw[<-hHi]
    refine A0a cv4 ?_
    simp -implicitDefEqProofs [hi]
    refine A0a cv4 ?_
    simp -implicitDefEqProofs
    refine A0r (fun _:Unit=>SV1 tt tf ta tb y x.tree x.arcs.length L.length (midL a b k p L (A2o x.arcs y.arcs (i+1))) (midN jn a b k p L N (A2o x.arcs y.arcs (i+1))) (midA a b k p L (A2o x.arcs y.arcs (i+1))) i) (fun _=>True) (fun _=>rfl) ?_ ?_
    ·refine A0h ?_
     refine A0a cv4 ?_
     simp -implicitDefEqProofs [is,lt,st12]
     refine A0a cv4 ?_
     simp -implicitDefEqProofs [q5,y.ok.len]
     refine A0h ?_
     refine A1a (fun j=>SV2 tt tf ta tb y x.tree s x.arcs.length L.length (midL a b k p L (A2o x.arcs y.arcs i++both s (y.arcs.take j))) (midN jn a b k p L N (A2o x.arcs y.arcs i++both s (y.arcs.take j))) (midA a b k p L (A2o x.arcs y.arcs i++both s (y.arcs.take j))) i j) y.arcs.length (fun _=>rfl) ?_ rfl ?_ ?_
     ·have e0:A2o x.arcs y.arcs i++both s (y.arcs.take 0)=A2o x.arcs y.arcs i:=by show _++[]=_;rw[List.append_nil]
      show Abs.Sub _ _ _ _ (SV2 tt tf ta tb y x.tree s x.arcs.length L.length _ _ _ i 0)
      rw[e0]
      exact F9v (k:=3) (k':=4) (ky:=5) (ks:=7) (by omega) (wi.cons (by omega) (by omega) (by omega)) (ri.cons (by omega)) (by rw[look_cons,if_neg (by omega)];exact y5) (.inr ⟨s,rfl,rfl⟩) (by omega) (by simp -implicitDefEqProofs [σv,ren,A0g,under,A0e])
     ·intro j hj
      obtain⟨t,ht⟩:∃t,y.arcs[j]?=some t:=⟨_,List.getElem?_eq_getElem hj⟩
      have htm:=List.mem_of_getElem? ht
      have hto':=hb.form.to y (List.mem_of_getElem? hyb) t htm
      have it:=A5h y.ok ht
      have e2:IntKind.i64.wrap ((j:Int)+1)=((j+1:Nat):Int):=A0k (by omega) (by omega)
      obtain⟨D,hD⟩:∃D,D=A2o x.arcs y.arcs i++both s (y.arcs.take j):=⟨_,rfl⟩
      have hDs:∀c∈D,c∈A1l a b p:=fun c hc=>by
       rw[hD]at hc
       rcases List.mem_append.1 hc with hc | hc
       ·exact hds i c hc
       ·exact hbs s j hsm c hc
      obtain⟨g1,g2,g3,g4⟩:=hrun D hDs
      have hsucc:=F9u (s:=s) ht
      obtain⟨Hj,hHj⟩:∃Hj,Hj=gzH tt tf ta tb 0 1 3 (midL a b k p L D) (midN jn a b k p L N D) (rowH eArc 81 4 (midA a b k p L D)++[(5,ndR y),(6,arR s)]):=⟨_,rfl⟩
      have wj:Gz tt tf ta tb 0 1 3 (midL a b k p L D) (midN jn a b k p L N D) Hj:=by rw[hHj];exact Gz.mk' _ _ _ (by omega) (by omega) (by omega)
      have rj:A0i eArc 81 Hj 4 (midA a b k p L D):=by rw[hHj];exact D7e
      have j5:Abs.look Hj 5=some (ndR y):=by rw[hHj,A8w (by omega) (by omega) (by omega),C6o (by omega)];rfl
      have j6:Abs.look Hj 6=some (arR s):=by rw[hHj,A8w (by omega) (by omega) (by omega),C6o (by omega)];rfl
      have st14:A0v 2 ((7,Row.cells 81 [.t (iv 0),.t (iv 0)])::Hj) (.ptr 7 0) (.t (.ag [iv t.feat,iv t.to]))=some ((7,arR t)::Hj):=rfl
      obtain⟨Hb,hHb⟩:∃Hb,Hb=(7,arR t)::Hj:=⟨_,rfl⟩
      have k6:Abs.look Hb 6=some (arR s):=by rw[hHb,look_cons,if_neg (by omega)];exact j6
      have k7:Abs.look Hb 7=some (arR t):=by rw[hHb];rfl
      have u1:A0f false 1 Hb (.ptr 6 0)=some (.t (iv s.feat)):=by simp[A0f,k6,arR]
      have u2:A0f false 1 Hb (.ptr 7 0)=some (.t (iv t.feat)):=by simp[A0f,k7,arR]
      have u3:A0f false 1 Hb (.ptr 6 1)=some (.t (iv s.to)):=by simp[A0f,k6,arR]
      have u4:A0f false 1 Hb (.ptr 7 1)=some (.t (iv t.to)):=by simp[A0f,k7,arR]
      have wb:Gz tt tf ta tb 0 1 3 (midL a b k p L D) (midN jn a b k p L N D) Hb:=by rw[hHb];exact wj.cons (by omega) (by omega) (by omega)
      by_cases hf:s.feat=t.feat
      ·rw[if_pos hf]at hsucc
       obtain⟨c,hc⟩:∃c,c=(s.feat,(s.to.toNat,t.to.toNat)):=⟨_,rfl⟩
       rw[<-hc]at hsucc
       have hcs:c∈A1l a b p:=A9s.2 ⟨s,by rw[hxs];exact hsm,t,by rw[hys];exact htm,hf,hc⟩
       have hcU:=hU p hp c hcs
       obtain⟨e3,e4⟩:=G4t (typ:=typP jn a b) hU hL hp hpL hk (hDU D hDs) hcU
       have a1:((c.2.1:Nat):Int)=s.to:=by rw[hc];show((s.to.toNat:Nat):Int)=s.to;omega
       have a2:((c.2.2:Nat):Int)=t.to:=by rw[hc];show((t.to.toNat:Nat):Int)=t.to;omega
       have a3:c.1=t.feat:=by rw[hc];exact hf
       have hnd1:(L++[p]).Nodup:=by
        rw[List.nodup_append]
        exact⟨hL,by simp,fun z hz w hw e=>by rw[List.mem_singleton]at hw;rw[e,hw]at hz;exact hpL hz⟩
       have hsub1:∀z∈L++[p],z∈B4c a b:=fun z hz=>by
        rcases List.mem_append.1 hz with hz | hz
        ·exact hLs z hz
        ·rw[List.mem_singleton]at hz;rw[hz];exact hp
       have hml:=G4x (a:=a) (b:=b) (jn:=jn) (p:=p) hN g4
       have cp:=F9m (ih c.2 (midL a b k p L D) (midN jn a b k p L N D) hcU (g1.nodup hnd1) (g1.sub hsub1) hml g3) wb (NX:=8) (by omega) (by omega) (by omega)
       have hv2:vis (A1l a b) k c.2 (midL a b k p L D)=midL a b k p L (D++[c]):=E8i.symm
       have hn2:midN jn a b k p L N D++B4d (A1l a b) (typP jn a b) (midL a b k p L D).length (midL a b k p L (D++[c]))=midN jn a b k p L N (D++[c]):=by
        unfold midN
        rw[List.append_assoc,List.cons_append]
        exact congrArg (fun z=>N++nd0 (typP jn a b p)::z) e3.symm
       rw[hv2,hn2,a1,a2]at cp
       have hA2:midA a b k p L (D++[c])=midA a b k p L D++[⟨t.feat,(idxK (midL a b k p L (D++[c])) c.2:Int)⟩]:=by rw[<-a3];exact e4
       obtain⟨z,hz'⟩:∃z:Int,z=(idxK (midL a b k p L (D++[c])) c.2:Int):=⟨_,rfl⟩
       rw[<-hz']at cp hA2
       obtain⟨Hc,hHc⟩:∃Hc,Hc=gzH tt tf ta tb 0 1 8 (midL a b k p L (D++[c])) (midN jn a b k p L N (D++[c])) (rem (rem (rem Hb 0) 1) 3):=⟨_,rfl⟩
       have wc:Gz tt tf ta tb 0 1 8 (midL a b k p L (D++[c])) (midN jn a b k p L N (D++[c])) Hc:=by rw[hHc];exact Gz.mk' _ _ _ (by omega) (by omega) (by omega)
       have v5:Abs.look Hc 5=some (ndR y):=by rw[hHc,A8w (by omega) (by omega) (by omega),rem3 (by omega) (by omega) (by omega),hHb,look_cons,if_neg (by omega)];exact j5
       have v6:Abs.look Hc 6=some (arR s):=by rw[hHc,A8w (by omega) (by omega) (by omega),rem3 (by omega) (by omega) (by omega)];exact k6
       have rc:A0i eArc 81 Hc 4 (midA a b k p L D):=rj.imp id fun q=>by rw[hHc,A8w (by omega) (by omega) (by omega),rem3 (by omega) (by omega) (by omega),hHb,look_cons,if_neg (by omega)];exact q
       rw[<-hHc]at cp
       have hfr:(∀b0 x0,Abs.look Hb b0=some x0->b0<8)->∀b0 x0,Abs.look Hc b0=some x0->b0<9:=fun hb0 b0 x0 h0=>by
        rw[hHc]at h0
        rcases B5z (A0t h0)with e | e | ⟨_,e⟩ | hq
        ·injection e with e _;omega
        ·injection e with e _;omega
        ·injection e with e _;omega
        ·have hq:=A6k (A6k (A6k hq))
         rw[hHb]at hq
         rcases List.mem_cons.1 hq with e | hq
         ·injection e with e _;omega
         ·rw[hHj]at hq
          rcases B5z hq with e | e | ⟨_,e⟩ | hq
          ·injection e with e _;omega
          ·injection e with e _;omega
          ·injection e with e _;omega
          ·rcases List.mem_append.1 hq with hq | hq
           ·obtain⟨_,e⟩:=A1r hq
            injection e with e _;omega
           ·simp only[List.mem_cons,List.not_mem_nil,or_false]at hq
            rcases hq with e | e
            ·injection e with e _;omega
            ·injection e with e _;omega
       have cv:Ctx Try.prog G (orh [] [(65,hOne [.ptr 0 0,.t (.ag [iv s.to,iv t.to])] Hb 8 (.t (iv z),Hc,9))]):=A1o.nil.ctxH (B1j.cons (D5k cp hfr) .nil) A1w
       have u5:A0f false 1 Hc (.ptr 6 0)=some (.t (iv s.feat)):=by simp[A0f,v6,arR]
       rw[hf]at u1 u5
       have bd2:∀{Φ:A1f} {H:Heap} {nx:Nat} (f r:Int),A0l Φ H nx (.build [(0,1),(1,1)] [.int .i64 0,.int .i64 0] [0,1]) [.t (iv f),.t (iv r)]=some (.t (.ag [iv f,iv r]),H,nx):=fun _ _=>rfl
       have ts2:A9a 81 2 [.int .i64 0,.int .i64 0] 1 [(0,.t (.ag [iv t.feat,iv z]))]=some (.t (.sl 1 [iv t.feat,iv z])):=rfl
       have hal:(midA a b k p L D).length<=1000000*1000000+1000000:=by
        unfold midA
        rw[List.length_map,hD,List.length_append]
        have h1:=E8n s (y.arcs.take j)
        have h2:=E1v x.arcs y.arcs i
        have h3:i*y.arcs.length<=1000000*1000000:=Nat.mul_le_mul (by omega) (by omega)
        rw[List.length_take]at h1
        omega
       obtain⟨b',H',n',ap,r',ne',le',lk',ge'⟩:=A1k (e:=eArc) (ty:=81) (by':=16) (nx:=9) (m:=[⟨t.feat,z⟩]) rc (A7m (t:=.sl 1 [iv t.feat,iv z]) (.inr rfl)) (by simp;omega) (by simp;omega)
       rw[show eArc.z=2 from rfl,<-hA2]at ap
       rw[<-hA2]at r'
       refine A0c cv ?_
       rw[hsucc,<-List.append_assoc,<-hD]
       unfold SV2
       rw[<-hHj]
       simp -implicitDefEqProofs [hj,it,lt,st14,<-hHb,u1,u2,u3,u4,u5,-evalK_build,bd2,D5j,ts2,ap,e2]
       refine F9v (k:=8) (k':=b') (ky:=5) (ks:=6) (by omega) (wc.keep fun z hz=>lk' z (by omega) (by omega)) r' ?_ (.inr ⟨s,rfl,?_⟩) (by omega) (by simp -implicitDefEqProofs [σv,ren,A0g,under,A0e])
       ·rw[lk' 5 (by omega) (by omega)];exact v5
       ·rw[lk' 6 (by omega) (by omega)];exact v6
      ·rw[if_neg hf,List.append_nil]at hsucc
       refine A0c cv4 ?_
       rw[hsucc,<-hD]
       unfold SV2
       rw[<-hHj]
       simp -implicitDefEqProofs [hj,it,lt,st14,<-hHb,u1,u2,hf,e2]
       rw[hHj]
       refine F9v (k:=3) (k':=4) (ky:=5) (ks:=6) (by omega) wb ?_ ?_ (.inr ⟨s,rfl,k6⟩) (by omega) (by simp -implicitDefEqProofs [σv,ren,A0g,under,A0e])
       ·rw[hHb];exact rj.cons (by omega)
       ·rw[hHb,look_cons,if_neg (by omega)];exact j5
     ·refine A0c cv4 ?_
      have e0:A2o x.arcs y.arcs i++both s (y.arcs.take y.arcs.length)=A2o x.arcs y.arcs (i+1):=by rw[List.take_length,C4m hs]
      rw[e0]
      simp -implicitDefEqProofs [SV2]
      refine Next.mk () trivial ?_
      have we:∀(L':List (Nat×Nat)) (N':List Nd) (A':List Arc),Gz tt tf ta tb 0 1 3 L' N' (gzH tt tf ta tb 0 1 3 L' N' (rowH eArc 81 4 A'++[(5,ndR y),(6,arR s)])):=fun _ _ _=>Gz.mk' _ _ _ (by omega) (by omega) (by omega)
      refine F9v (k:=3) (k':=4) (ky:=5) (ks:=6) (by omega) (we _ _ _) D7e ?_ (.inl rfl) (by omega) (by simp -implicitDefEqProofs [σv,ren,A0g,under,A0e])
      rw[A8w (by omega) (by omega) (by omega),C6o (by omega)]
      rfl
    ·rintro _ _
     refine A0c cv4 ?_
     simp -implicitDefEqProofs [SV1,e1]
     exact A3e (by simp -implicitDefEqProofs)
   ·refine A0c cv4 ?_
    simp -implicitDefEqProofs [SV1]
    refine Next.mk () trivial ?_
    rw[<-hall]
    have we:=Gz.mk' (tt:=tt) (tf:=tf) (ta:=ta) (tb:=tb) (g:=0) (m:=1) (n:=3) (midL a b k p L (A1l a b p)) (midN jn a b k p L N (A1l a b p)) (rowH eArc 81 4 (midA a b k p L (A1l a b p))++[(5,ndR y)]) (by omega) (by omega) (by omega)
    have re:=D7e (tt:=tt) (tf:=tf) (ta:=ta) (tb:=tb) (L:=midL a b k p L (A1l a b p)) (N:=midN jn a b k p L N (A1l a b p)) (A:=midA a b k p L (A1l a b p)) (R:=[(5,ndR y)])
    refine(A9c [4]).trans ?_
    unfold SV3 A0b.frz
    exact E8j (fun x=>x) (fun _ _=>rfl) (by omega) (by omega) (we.frz (by omega) (by omega) (by omega)) (fun q hq=>by cases hq) (fun x y _ _ e=>e) (by simp -implicitDefEqProofs [B9c re,B3d,C4b,ren,under])
  ·rintro _ _
   obtain⟨g1,g2,g3,g4⟩:=hrun (A1l a b p) (fun c hc=>hc)
   obtain⟨r,hr⟩:=g1.pre
   have hr:midL a b k p L (A1l a b p)=L++[p]++r:=hr
   obtain⟨A,hA⟩:∃A,A=midA a b k p L (A1l a b p):=⟨_,rfl⟩
   obtain⟨L',hL'⟩:∃L',L'=midL a b k p L (A1l a b p):=⟨_,rfl⟩
   obtain⟨N',hN'⟩:∃N',N'=midN jn a b k p L N (A1l a b p):=⟨_,rfl⟩
   have hv:vis (A1l a b) (k+1) p L=L':=by rw[hL'];exact(G8l hpL).symm
   have hgn:N'[L.length]?=some (nd0 ty):=by
    rw[hN',hty]
    unfold midN
    rw[List.getElem?_append_right (by omega),hN,Nat.sub_self]
    rfl
   have hset:N'.set L.length (mkNd ty A)=N++B4d (A1l a b) (typP jn a b) L.length L':=by
    have e1:B4d (A1l a b) (typP jn a b) L.length L'=mkNd ty A::B4d (A1l a b) (typP jn a b) (L.length+1) L':=by
     unfold B4d
     have d1:L'.drop L.length=p::r:=by rw[hL',hr,List.append_assoc,List.drop_left];rfl
     have d2:L'.drop (L.length+1)=r:=by rw[hL',hr,show L.length+1=(L++[p]).length by simp,List.drop_left]
     rw[d1,d2,List.map_cons]
     congr 1
     show mkNd (typP jn a b p) ((A1l a b p).map (arcK L'))=mkNd ty A
     rw[<-hty,hA,hL']
     rfl
    rw[e1,hN']
    unfold midN
    rw[<-hL',List.set_append_right _ _ (by omega),hN,Nat.sub_self]
    rfl
   have hidx:idxK L' p=L.length:=by
    rw[hL',hr,E8g (by simp),G4p hpL]
   rw[hv,<-hset,hidx]
   rw[<-hA,<-hL',<-hN']
   have hlen:(mkNd ty A).tree=A0m eArc A:=rfl
   have wf:=Gz.mk' (tt:=tt) (tf:=tf) (ta:=ta) (tb:=tb) (g:=0) (m:=1) (n:=3) L' N' [] (by omega) (by omega) (by omega)
   have sw:SV3 tt tf ta tb (A0m eArc A) L.length L' N'=⟨[(10,.t (A0m eArc A)),(7,.t (iv (L.length:Int))),(0,.ptr 0 0)],gzH tt tf ta tb 0 1 3 L' N' [],7,117⟩:=rfl
   obtain⟨Hf,hHf⟩:∃Hf,Hf=gzH tt tf ta tb 0 1 3 L' N' []:=⟨_,rfl⟩
   rw[<-hHf]at wf sw
   obtain⟨f1,f2,f3,f4,f5⟩:=wf.ld
   have ia:=A2h (e:=eNd) (b:=3) hgn .i64
   have st:=C0u (e:=eNd) (ty:=61) (b:=3) (H:=Hf) (off:=1) (y:=mkNd ty A) (c:=A0m eArc A) (wf.nd.resolve_left (by intro h;rw[h]at hgn;simp at hgn)) hgn (by decide) rfl (by cases A<;>rfl)
   rw[hz]at ia st
   refine A0c cv4 ?_
   rw[sw]
   simp -implicitDefEqProofs [f5,ia,st]
   refine⟨.inr rfl,⟨[(4,.t (iv (L.length:Int)))],gzH tt tf ta tb 0 1 3 L' (N'.set L.length (mkNd ty A)) [],4,117⟩,[.t (iv (L.length:Int))],?_,rfl,rfl,rfl,rfl⟩
   exact E8j (fun x=>x) (fun _ _=>rfl) (by omega) (by omega) (wf.set L.length (mkNd ty A)) (fun q hq=>by cases hq) (fun x y _ _ e=>e) (by simp -implicitDefEqProofs [E6x,under])
end
def GPre (h:List Typ×List Ft) (a b:List Nd):Prop:=JOK h.1/\(A1d h.1.length h.2.length a/\A1d h.1.length h.2.length b)/\(A2t a/\A2t b)/\a.length*b.length<=4096
def genT (h:List Typ×List Ft) (a b:List Nd):T:=.ag [A0m eNd (genL (A2q h.1) a b)]
theorem G4y {tt tf ta tb:T} {h:List Typ×List Ft} {a b:List Nd} (hT:IsS eTyp tt h.1) (hF:IsS eFt tf h.2) (hta:IsS eNd ta a) (htb:IsS eNd tb b) (hg:GPre h a b) :
  A0y Try.prog G 34 [.ag [tt,tf],.ag [ta],.ag [tb]] (· = genT h a b):=by
 obtain⟨hj,⟨ha,hb⟩,⟨sa,sb⟩,_⟩:=hg
 have hz:eNd.z=2:=rfl
 refine A8q.call rfl ?_
 unfold A4r
 have cph:A0q (.t (.ag [tt,tf]))=some [.t tt,.t tf]:=rfl
 have cpa:∀x:T,A0q (.t (.ag [x]))=some [.t x]:=fun _=>rfl
 have agh:agOf [.t tt,.t tf] = .t (.ag [tt,tf]):=rfl
 have aga:∀x:T,agOf [.t x] = .t (.ag [x]):=fun _=>rfl
 have bdG:∀{Φ:A1f} {H:Heap} {nx:Nat},A0l Φ H nx (.build [(0,2),(2,1),(3,1),(4,1),(5,1)] [.slice none 0 0,.slice none 0 0,.slice none 0 0,.slice none 0 0,.map none,.slice none 0 0] [0,1,2,3]) [.t (.ag [tt,tf]),.t (.ag [ta]),.t (.ag [tb]),.mp 4]=some (.ag [.t tt,.t tf,.t ta,.t tb,.mp 4,.t nilS],H,nx):=rfl
 have cpg:A0q (.ag [.t tt,.t tf,.t ta,.t tb,.mp 4,.t nilS])=some [.t tt,.t tf,.t ta,.t tb,.mp 4,.t nilS]:=rfl
 have bd0:∀{Φ:A1f} {H:Heap} {nx:Nat},A0l Φ H nx (.build [(0,1),(1,1)] [.int .i64 0,.int .i64 0] [0,1]) [.t (.v (.int .i64 0)),.t (.v (.int .i64 0))]=some (.t (.ag [iv 0,iv 0]),H,nx):=rfl
 refine A0a cv4 ?_
 simp -implicitDefEqProofs [cph,cpa]
 refine A0a cv4 ?_
 simp -implicitDefEqProofs [A0f,agh,aga,-evalK_build,bdG,cpg]
 obtain⟨Hb,hHb⟩:∃Hb:Heap,Hb=[(5,gzR tt tf ta tb 4 0 []),(4,mapR []),(3,.cells 25 [.t nilS]),(2,.cells 25 [.t tb]),(1,.cells 25 [.t ta]),(0,.cells 29 [.t tt,.t tf])]:=⟨_,rfl⟩
 have wb:Gz tt tf ta tb 5 4 0 [] [] Hb:=by
  rw[hHb]
  exact⟨rfl,rfl,A0i.nil _ _ _ _,by omega,by omega,by omega⟩
 have cp:A8z Try.prog G 65 [.ptr 5 0,.t (.ag [iv 0,iv 0])] Hb 6 (.t (iv (idxK (genO a b) (0,0):Int))) (gzH tt tf ta tb 5 4 6 (genO a b) (genL (A2q h.1) a b) (rem (rem (rem Hb 5) 4) 0)) 7:=
  F9m (E4y hT hF hta htb hj ha hb sa sb (a.length*b.length) (0,0) [] [] (C1s ha hb) List.nodup_nil (by simp) rfl (by rw[B3l,A9t];exact Nat.le_refl _)) wb (by omega) (by omega) (by omega)
 obtain⟨Hc,hHc⟩:∃Hc,Hc=gzH tt tf ta tb 5 4 6 (genO a b) (genL (A2q h.1) a b) (rem (rem (rem Hb 5) 4) 0):=⟨_,rfl⟩
 have wc:Gz tt tf ta tb 5 4 6 (genO a b) (genL (A2q h.1) a b) Hc:=by rw[hHc];exact Gz.mk' _ _ _ (by omega) (by omega) (by omega)
 have v3:Abs.look Hc 3=some (.cells 25 [.t nilS]):=by rw[hHc,A8w (by omega) (by omega) (by omega),rem3 (by omega) (by omega) (by omega),hHb];rfl
 rw[<-hHc]at cp
 have hfr:(∀b0 x0,Abs.look Hb b0=some x0->b0<6)->∀b0 x0,Abs.look Hc b0=some x0->b0<7:=fun hb0 b0 x0 h0=>by
  rw[hHc]at h0
  rcases B5z (A0t h0)with e | e | ⟨_,e⟩ | hq
  ·injection e with e _;omega
  ·injection e with e _;omega
  ·injection e with e _;omega
  ·have hq:=A6k (A6k (A6k hq))
   rw[hHb]at hq
   simp only[List.mem_cons,List.not_mem_nil,or_false]at hq
   rcases hq with e | e | e | e | e | e<;>(injection e with e _;omega)
 have cv:Ctx Try.prog G (orh [] [(65,hOne [.ptr 5 0,.t (.ag [iv 0,iv 0])] Hb 6 (.t (iv (idxK (genO a b) (0,0):Int)),Hc,7))]):=A1o.nil.ctxH (B1j.cons (D5k cp hfr) .nil) A1w
 refine A0a cv ?_
 have hHb2:((5,Row.cells 88 [.t tt,.t tf,.t ta,.t tb,.mp 4,.t nilS])::(4,Row.map (.ints 2) [])::(3,Row.cells 25 [.t nilS])::(2,Row.cells 25 [.t tb])::(1,Row.cells 25 [.t ta])::[(0,Row.cells 29 [.t tt,.t tf])])=Hb:=hHb.symm
 simp -implicitDefEqProofs [hHb2,-evalK_build,bd0,D5j]
 obtain⟨w1,w2,w3,w4,w5⟩:=wc.ld
 obtain⟨gs,hgs⟩:∃gs,gs=genL (A2q h.1) a b:=⟨_,rfl⟩
 rw[<-hgs]at w5 wc
 have hres:genT h a b = .ag [A0m eNd gs]:=by rw[hgs];rfl
 obtain⟨q,hq1,hq2,hq3⟩:=G5s eNd 61 6 gs
 have bdF:∀{Φ:A1f} {H:Heap} {nx:Nat},A0l Φ H nx (.build [(0,1)] [.slice none 0 0] [0]) [rowP eNd 6 gs]=some (q,H,nx):=fun {Φ H nx}=>by
  rw[<-hq1]
  cases gs<;>rfl
 have sto:A0v 1 Hc (.ptr 3 0) q=some (upd Hc 3 (.cells 25 [rowP eNd 6 gs])):=by
  simp only[A0v,hq2,v3]
  rfl
 have v3':Abs.look (upd Hc 3 (.cells 25 [rowP eNd 6 gs])) 3=some (.cells 25 [rowP eNd 6 gs]):=by rw[A0n,if_pos rfl,v3];rfl
 have ld':A0f true 1 (upd Hc 3 (.cells 25 [rowP eNd 6 gs])) (.ptr 3 0)=some q:=by
  simp only[A0f,v3']
  simp[hq1]
 have tt':=hq3 (upd Hc 3 (.cells 25 [rowP eNd 6 gs])) (wc.nd.imp id fun h=>by rw[A0n,if_neg (by omega)];exact h)
 refine A0c cv ?_
 simp -implicitDefEqProofs [w5,-evalK_build,bdF,sto,ld',tt',hres]
noncomputable def gGen:List T->Option T:=g3 tH tFS tFS fun h a b=>open Classical in if GPre h a b then some (genT h a b)else none
theorem F9w {F:Nat} (hc:∀{tt tf ta tb:T} {h:List Typ×List Ft} {a b:List Nd},IsS eTyp tt h.1->IsS eFt tf h.2->IsS eNd ta a->IsS eNd tb b->GPre h a b->A0y Try.prog G F [.ag [tt,tf],.ag [ta],.ag [tb]] (· = genT h a b)):GOK Try.prog G F gGen:=D8q fun x y z h a b r hx hy hz hr=>by
 obtain⟨u,v,rfl,hu,hv⟩:=hx
 obtain⟨ta,rfl,hta⟩:=hy
 obtain⟨tb,rfl,htb⟩:=hz
 split at hr
 ·rename_i hl;injection hr with hr;subst hr;exact hc hu hv hta htb hl
 ·cases hr
theorem B3p {u v ta tb:T} {h:List Typ×List Ft} {a b:List Nd} (hu:IsS eTyp u h.1) (hv:IsS eFt v h.2) (hta:IsS eNd ta a) (htb:IsS eNd tb b) (hg:GPre h a b):gGen [.ag [u,v],.ag [ta],.ag [tb]]=some (genT h a b):=
 (D8r (τ:=tH) (σ:=tFS) (ρ:=tFS) ⟨u,v,rfl,hu,hv⟩ ⟨ta,rfl,hta⟩ ⟨tb,rfl,htb⟩).trans (if_pos hg)
theorem F9x:GOK Try.prog G 34 gGen:=F9w G4y
end Go.Proofs.Ytbiadmfmjnoecaa
