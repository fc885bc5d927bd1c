/-
 Auxiliary facts. No statement of the program stands here.
-/
import Derived.Test.YtbiadmfmjnoecaaVRQ36
import Derived.Test.YtbiadmfmjnoecaaVRQ35
import Derived.Test.YtbiadmfmjnoecaaVRQ14
import Derived.Test.YtbiadmfmjnoecaaVRQ12
import Derived.Test.YtbiadmfmjnoecaaVRQ40
import Derived.Test.YtbiadmfmjnoecaaVRQ38
namespace Go.Proofs.Ytbiadmfmjnoecaa
set_option linter.unusedSimpArgs false
set_option linter.unusedVariables false
open Go Go.Abs
def gzR (tt tf ta tb:T) (m n:Nat) (N:List Nd):Row:=.cells 88 [.t tt,.t tf,.t ta,.t tb,.mp m,rowP eNd n N]
def mapR (L:List (Nat×Nat)):Row:=.map (.ints 2) (mapF 0 L)
def gzH (tt tf ta tb:T) (g m n:Nat) (L:List (Nat×Nat)) (N:List Nd) (R:Heap):Heap:=(g,gzR tt tf ta tb m n N)::(m,mapR L)::(rowH eNd 61 n N++R)
structure Gz (tt tf ta tb:T) (g m n:Nat) (L:List (Nat×Nat)) (N:List Nd) (H:Heap):Prop where
 gz:Abs.look H g=some (gzR tt tf ta tb m n N)
 mp:Abs.look H m=some (mapR L)
 nd:A0j eNd 61 H n N
 gm:g≠m
 gn:g≠n
 mn:m≠n
section
variable {tt tf ta tb : T} {nx : Nat}
theorem Gz.mk' {g m n:Nat} (L:List (Nat×Nat)) (N:List Nd) (R:Heap) (gm:g≠m) (gn:g≠n) (mn:m≠n):Gz tt tf ta tb g m n L N (gzH tt tf ta tb g m n L N R):=
 ⟨by simp[gzH],by simp[gzH,gm],((A0j.head _ _ _ _ _).cons mn).cons gn,gm,gn,mn⟩
theorem B5j {g m n:Nat} {L:List (Nat×Nat)} {N:List Nd} {R:Heap} {q:Nat×Row} (h:q∈gzH tt tf ta tb g m n L N R):q=(g,gzR tt tf ta tb m n N)\/q=(m,mapR L)\/(N≠[]/\q=(n,A1g eNd 61 N))\/q∈R:=by
 unfold gzH at h
 rcases List.mem_cons.1 h with h | h
 ·exact .inl h
 ·rcases List.mem_cons.1 h with h | h
  ·exact .inr (.inl h)
  ·rcases List.mem_append.1 h with h | h
   ·exact .inr (.inr (.inl (A1j h)))
   ·exact .inr (.inr (.inr h))
theorem C3q (σ:Nat->Nat) (m n:Nat) (N:List Nd):A2d σ (gzR tt tf ta tb m n N)=gzR tt tf ta tb (σ m) (σ n) N:=by
 simp only[gzR,A2d,renL,ren,A0g]
theorem B5k {nx:Nat} {m n:Nat} (N:List Nd) (hm:m<nx) (hn:n<nx):A0z nx (gzR tt tf ta tb m n N)=true:=by
 simp only[gzR,A0z,A1z,under,A0e _ _ _ _ hn,Bool.and_self,Bool.and_true,Bool.true_and,decide_eq_true_eq]
 exact hm
theorem D0f (σ:Nat->Nat) (L:List (Nat×Nat)):A2d σ (mapR L)=mapR L:=rfl
theorem E9c {P:Program} {B nx nx' n:Nat} (σ:Nat->Nat) {L:List (Nat×Nat)} {N:List Nd} {env env':List (Nat×PV)} {H R:Heap} (hσ:∀x,x<3->σ x=x) (hB:B<=3) (hn:4<=nx') (w:Gz tt tf ta tb 0 1 (σ 3) L N H)
  (hR:∀q∈R,Abs.look H (σ q.1)=some (A2d σ q.2)/\q.1<nx'/\A0z nx' q.2=true)
  (hi:∀x y,(x=0\/x=1\/x=3\/∃q∈R,q.1=x)->(y=0\/y=1\/y=3\/∃q∈R,q.1=y)->σ x=σ y->x=y)
  (he:∀q∈env',Abs.look env q.1=some (ren σ q.2)/\under nx' q.2=true) :
  Sub P G B ⟨env,H,nx,n⟩ ⟨env',gzH tt tf ta tb 0 1 3 L N R,nx',n⟩:=by
 have s0:σ 0=0:=hσ 0 (by omega)
 have s1:σ 1=1:=hσ 1 (by omega)
 refine B1t σ rfl (by show B<=nx';omega) (fun x hx=>hσ x (by omega)) he (fun q hq=>?_) (fun q hq q' hq' e=>?_)
 ·rcases B5j hq with rfl | rfl | ⟨hn',rfl⟩ | hq
  ·simp only[C3q,s0,s1]
   exact⟨w.gz,by omega,B5k _ (by omega) (by omega)⟩
  ·simp only[D0f,s1]
   exact⟨w.mp,by omega,rfl⟩
  ·simp only[A1l,A0t]
   exact⟨w.nd.resolve_left hn',by omega,trivial⟩
  ·exact hR q hq
 ·have key:∀q∈gzH tt tf ta tb 0 1 3 L N R,q.1=0\/q.1=1\/q.1=3\/∃q'∈R,q'.1=q.1:=by
   intro q hq
   rcases B5j hq with rfl | rfl | ⟨_,rfl⟩ | hq
   ·exact .inl rfl
   ·exact .inr (.inl rfl)
   ·exact .inr (.inr (.inl rfl))
   ·exact .inr (.inr (.inr ⟨q,hq,rfl⟩))
  exact hi _ _ (key q hq) (key q' hq') e
theorem Gz.keep {g m n:Nat} {L:List (Nat×Nat)} {N:List Nd} {H H':Heap} (w:Gz tt tf ta tb g m n L N H) (h:∀x,x=g\/x=m\/x=n->Abs.look H' x=Abs.look H x):Gz tt tf ta tb g m n L N H':=
 ⟨by rw[h g (.inl rfl)];exact w.gz,by rw[h m (.inr (.inl rfl))];exact w.mp,w.nd.imp id fun q=>by rw[h n (.inr (.inr rfl))];exact q,w.gm,w.gn,w.mn⟩
theorem Gz.cons {g m n k:Nat} {L:List (Nat×Nat)} {N:List Nd} {H:Heap} {r:Row} (w:Gz tt tf ta tb g m n L N H) (hg:k≠g) (hm:k≠m) (hn:k≠n):Gz tt tf ta tb g m n L N ((k,r)::H):=
 w.keep fun x hx=>by
  rw[look_cons,if_neg]
  rcases hx with rfl | rfl | rfl<;>assumption
theorem Gz.ld {g m n:Nat} {L:List (Nat×Nat)} {N:List Nd} {H:Heap} (w:Gz tt tf ta tb g m n L N H):A0f true 2 H (.ptr g 0)=some (.t (.ag [tt,tf]))/\A0f false 1 H (.ptr g 2)=some (.t ta)/\A0f false 1 H (.ptr g 3)=some (.t tb)/\A0f false 1 H (.ptr g 4)=some (.mp m)/\A0f false 1 H (.ptr g 5)=some (rowP eNd n N):=by
 refine⟨?_,?_,?_,?_,?_⟩<;>simp only[A0f,w.gz,gzR]<;>rfl
theorem Gz.put {g m n:Nat} {L:List (Nat×Nat)} {N:List Nd} {H:Heap} (w:Gz tt tf ta tb g m n L N H) {p:Nat×Nat} (hp:p∉L):hxM (.mset (.ints 2)) H nx [.mp m,.t (.ag [iv (p.1:Int),iv (p.2:Int)]),.t (iv (L.length:Int))]=some (.t (.v undef),upd H m (mapR (L++[p])),nx)/\Gz tt tf ta tb g m n (L++[p]) N (upd H m (mapR (L++[p]))):=by
 have e:=E1q p L 0 hp
 rw[Nat.zero_add]at e
 refine⟨?_,?_,?_,w.nd.imp id fun q=>?_,w.gm,w.gn,w.mn⟩
 ·rw[show iv (L.length:Int) = .v (.int .i64 (L.length:Int))from rfl,hxM_mset w.mp (keyT_two _ _),e]
  rfl
 ·rw[A0u,if_neg w.gm]
  exact w.gz
 ·rw[A0u,if_pos rfl,w.mp]
  rfl
 ·rw[A0u,if_neg (Ne.symm w.mn)]
  exact q
theorem Gz.get {g m n:Nat} {L:List (Nat×Nat)} {N:List Nd} {H:Heap} (w:Gz tt tf ta tb g m n L N H) (p:Nat×Nat):hxM (.mget (.ints 2) (.int .i64 0) true) H nx [.mp m,.t (.ag [iv (p.1:Int),iv (p.2:Int)])]=some (.t (.tu [if p∈L then iv (idxK L p:Int)else iv 0,bv (decide (p∈L))]),H,nx):=by
 rw[hxM_mget w.mp (keyT_two _ _),E1p]
 by_cases h:p∈L
 ·rw[if_pos h,if_pos h,decide_eq_true h,Nat.zero_add]
  rfl
 ·rw[if_neg h,if_neg h,decide_eq_false h]
  rfl
theorem Gz.nodes {g m n k:Nat} {L:List (Nat×Nat)} {N N':List Nd} {H H2:Heap} (w:Gz tt tf ta tb g m n L N H) (h:∀x,x=g\/x=m->Abs.look H2 x=Abs.look H x) (hr:A0j eNd 61 H2 k N') (hg:g≠k) (hm:m≠k) :
  A1e 1 H2 (.ptr g 5) (rowP eNd k N')=some (upd H2 g (gzR tt tf ta tb m k N'))/\Gz tt tf ta tb g m k L N' (upd H2 g (gzR tt tf ta tb m k N')):=by
 have h2:Abs.look H2 g=some (gzR tt tf ta tb m n N):=(h g (.inl rfl)).trans w.gz
 refine⟨?_,?_,?_,hr.imp id fun q=>?_,w.gm,hg,hm⟩
 ·simp only[A1e,B0z,h2,gzR]
  rfl
 ·rw[A0u,if_pos rfl,h2]
  rfl
 ·rw[A0u,if_neg (Ne.symm w.gm),h m (.inr rfl)]
  exact w.mp
 ·rw[A0u,if_neg (Ne.symm hg)]
  exact q
theorem G0o {P:Program} {f:FuncId} {L L':List (Nat×Nat)} {N N':List Nd} {u r:T} (h:A5s P G f [.ptr 0 0,.t u] (gzH tt tf ta tb 0 1 2 L N []) 3 (.t r) (gzH tt tf ta tb 0 1 3 L' N' []) 4)
  {a b c NX:Nat} {Hb:Heap} (w:Gz tt tf ta tb a b c L N Hb) (ha:a<NX) (hb:b<NX) (hc:c<NX) :
  A5s P G f [.ptr a 0,.t u] Hb NX (.t r) (gzH tt tf ta tb a b NX L' N' (rem (rem (rem Hb a) b) c)) (NX+1):=by
 let σ:Nat->Nat:=fun x=>if x=0 then a else if x=1 then b else c
 have s0:σ 0=a:=rfl
 have s1:σ 1=b:=rfl
 have s2:σ 2=c:=rfl
 have l0:A4s σ 3 NX 0=a:=rfl
 have l1:A4s σ 3 NX 1=b:=rfl
 have l3:A4s σ 3 NX 3=NX:=rfl
 have cs:∀x,x<3->x=0\/x=1\/x=2:=fun x hx=>by omega
 have ab:=w.gm
 have ac:=w.gn
 have bc:=w.mn
 have:=h.lift σ NX Hb (gzH tt tf ta tb a b NX L' N' (rem (rem (rem Hb a) b) c)) ?_ ?_ (by omega) ?_ rfl rfl ?_ ?_
 ·simpa[renL,ren,s0]using this
 ·intro x hx
  rcases cs x hx with rfl | rfl | rfl
  ·exact ha
  ·exact hb
  ·exact hc
 ·intro x y hx hy e
  rcases cs x hx with rfl | rfl | rfl<;>rcases cs y hy with rfl | rfl | rfl<;>simp only[s0,s1,s2]at e<;>first | rfl | omega
 ·intro q hq
  rcases B5j hq with rfl | rfl | ⟨hn,rfl⟩ | hq
  ·simp only[C3q,s0,s1,s2]
   exact⟨w.gz,by omega,B5k _ (by omega) (by omega)⟩
  ·simp only[D0f,s1]
   exact⟨w.mp,by omega,rfl⟩
  ·simp only[A1l,A0t,s2]
   exact⟨w.nd.resolve_left hn,by omega,trivial⟩
  ·cases hq
 ·intro q hq
  rcases B5j hq with rfl | rfl | ⟨hn,rfl⟩ | hq
  ·exact⟨by omega,B5k _ (by omega) (by omega)⟩
  ·exact⟨by omega,rfl⟩
  ·exact⟨by omega,A0t _ _ _ _⟩
  ·cases hq
 ·intro x y hx
  have w':=Gz.mk' (tt:=tt) (tf:=tf) (ta:=ta) (tb:=tb) (g:=0) (m:=1) (n:=3) L' N' [] (by omega) (by omega) (by omega)
  have hrem:Abs.look (rem (rem (rem Hb a) b) c) x=some y->Abs.look Hb x=some y/\x≠a/\x≠b/\x≠c:=by
   intro h
   rw[A1m]at h
   split at h
   ·cases h
   ·rw[A1m]at h
    split at h
    ·cases h
    ·rw[A1m]at h
     split at h
     ·cases h
     ·exact⟨h,by assumption,by assumption,by assumption⟩
  have hother:Abs.look (rem (rem (rem Hb a) b) c) x=some y->Abs.look Hb x=some y/\∀b0 x0,Abs.look (gzH tt tf ta tb 0 1 2 L N []) b0=some x0->σ b0≠x:=by
   intro h
   obtain⟨h1,h2,h3,h4⟩:=hrem h
   refine⟨h1,fun b0 x0 h0 e=>?_⟩
   rcases B5j (A0p h0)with e' | e' | ⟨_,e'⟩ | hq
   ·injection e' with e1 _
    rw[e1,s0]at e
    exact h2 e.symm
   ·injection e' with e1 _
    rw[e1,s1]at e
    exact h3 e.symm
   ·injection e' with e1 _
    rw[e1,s2]at e
    exact h4 e.symm
   ·cases hq
  unfold gzH at hx
  rw[look_cons]at hx
  by_cases xa:a=x
  ·rw[if_pos xa]at hx
   injection hx with hx
   subst hx
   exact .inl ⟨0,_,w'.gz,xa.symm.trans l0.symm,by rw[C3q,l1,l3]⟩
  ·rw[if_neg xa,look_cons]at hx
   by_cases xb:b=x
   ·rw[if_pos xb]at hx
    injection hx with hx
    subst hx
    exact .inl ⟨1,_,w'.mp,xb.symm.trans l1.symm,rfl⟩
   ·rw[if_neg xb]at hx
    have hnd:Abs.look (rowH eNd 61 NX N'++rem (rem (rem Hb a) b) c) x=some y->(N'≠[]/\x=NX/\y=A1g eNd 61 N')\/Abs.look (rem (rem (rem Hb a) b) c) x=some y:=by
     intro h
     cases N' with
     | nil=>exact .inr h
     | cons z r=>
      simp only[rowH,List.cons_append,List.nil_append,look_cons]at h
      by_cases e:NX=x
      ·rw[if_pos e]at h
       injection h with h
       exact .inl ⟨by simp,e.symm,h.symm⟩
      ·rw[if_neg e]at h
       exact .inr h
    rcases hnd hx with⟨hn,e1,e2⟩ | hx
    ·exact .inl ⟨3,_,w'.nd.resolve_left hn,e1.trans l3.symm,by rw[A1l,e2]⟩
    ·exact .inr (hother hx)
end
def fOrN (l m:List W):T:=encB (orN l m)
def G9w (l:List W):T:=iv (cnt l)
def tj1:Tbl:=[(70,gB2 fOrN),(71,gB2 fSub),(72,gB1 G9w)]
theorem cj1:Ctx Try.prog G (orc tj1):=(A1t.cons (B2y G7f) (.cons (B2y G2k) (.cons (F6c F0z) .nil))).ctx A1u
def SJ (tt tf:T) (n:Nat) (c:List W) (b:Nat->Nat) (i:Nat):A0b:=⟨[(27,.t (iv (i:Int))),(26,.t (iv (n:Int))),(25,.t tt),(8,.t (iv (b i:Int))),(7,.t (encB c)),(3,.ptr 0 0)],[(0,.cells 29 [.t tt,.t tf])],1,52⟩
theorem G9x (x y:List W):(orN x y).length<=max x.length y.length:=by
 unfold orN
 refine Nat.le_trans (A9q _) ?_
 simp[orL]
theorem G0p {tt tf:T} {ty:List Typ} (hT:IsS eTyp tt ty) (hok:TyOK ty) (hl:ty.length<=1000000) {i j:Nat} (hi:i<ty.length) (hj:j<ty.length) :
  A0y Try.prog G 41 [.ag [tt,tf],iv (i:Int),iv (j:Int)] (· = iv (A7d ty (i:Int) (j:Int))):=by
 obtain⟨x,hx⟩:∃x,ty[i]?=some x:=⟨_,List.getElem?_eq_getElem hi⟩
 obtain⟨y,hy⟩:∃y,ty[j]?=some y:=⟨_,List.getElem?_eq_getElem hj⟩
 have hxl:=hok x (List.mem_of_getElem? hx)
 have hyl:=hok y (List.mem_of_getElem? hy)
 have cp:A0w (.t (.ag [tt,tf]))=some [.t tt,.t tf]:=rfl
 have i1:=E7h hT hx
 have i2:=E7h hT hy
 have go:gB2 fOrN [encB x.code,encB y.code]=some (encB (orN x.code y.code)):=B7b (A1h _) (A1h _) hxl hyl
 obtain⟨c,hc⟩:∃c,c=orN x.code y.code:=⟨_,rfl⟩
 have hcl:c.length<=1000:=by have:=G9x x.code y.code;rw[hc];omega
 have hres:A7d ty (i:Int) (j:Int)=((A6p ty c ty.length:Nat):Int):=by
  unfold A7d
  rw[Int.toNat_natCast,Int.toNat_natCast,B0a hx,B0a hy,hc]
 rw[<-hc]at go
 refine C9y.call rfl ?_
 unfold B9h
 refine A0a cj1 ?_
 simp -implicitDefEqProofs [cp]
 refine A0a cj1 ?_
 simp -implicitDefEqProofs [i1,i2,A0f,tj1,go]
 refine A0a cj1 ?_
 simp -implicitDefEqProofs
 refine A0s (fun _:Unit=>SJ tt tf ty.length c (A6p ty c) ty.length) (fun _=>True) (fun _=>rfl) ?_ ?_
 ·refine A0a cj1 ?_
  simp -implicitDefEqProofs [A0f,hT.len]
  refine A0h ?_
  refine A1b (SJ tt tf ty.length c (A6p ty c)) ty.length (fun _=>rfl) ?_ rfl ?_ ?_
  ·refine A0c rfl rfl ?_ ?_<;>simp -implicitDefEqProofs [SJ,A6p]
  ·intro k hk
   obtain⟨z,hz⟩:∃z,ty[k]?=some z:=⟨_,List.getElem?_eq_getElem hk⟩
   obtain⟨b,hb⟩:∃b,b=A6p ty c k:=⟨_,rfl⟩
   have hbl:b<ty.length:=by
    have:∀n,n<=ty.length->A6p ty c n<ty.length:=by
     intro n
     induction n with
     | zero=>intro _;show 0<_;omega
     | succ n ih=>
      intro hn
      unfold A6p
      split
      ·omega
      ·exact ih (by omega)
    rw[hb]
    exact this k (by omega)
   obtain⟨v,hv⟩:∃v,ty[b]?=some v:=⟨_,List.getElem?_eq_getElem hbl⟩
   have iz:=E7h hT hz
   have ib:=E7h hT hv
   have hzl:=hok z (List.mem_of_getElem? hz)
   have hvl:=hok v (List.mem_of_getElem? hv)
   have gs:gB2 fSub [encB c,encB z.code]=some (bv (subL c z.code)):=B7b (A1h _) (A1h _) hcl hzl
   have gz:gB1 G9w [encB z.code]=some (iv (cnt z.code)):=D9a (A1h _) hzl
   have gv:gB1 G9w [encB v.code]=some (iv (cnt v.code)):=D9a (A1h _) hvl
   have e1:IntKind.i64.wrap ((k:Int)+1)=((k+1:Nat):Int):=A0l (by omega) (by omega)
   have hnext:A6p ty c (k+1)=if subL c z.code=true/\cnt z.code<cnt v.code then k else b:=by
    show(if subL c (A2p ty k)=true/\cnt (A2p ty k)<cnt (A2p ty (A6p ty c k))then k else A6p ty c k)=_
    rw[<-hb,B0a hz,B0a hv]
   have cz:A0w (.t (.ag [sv z.name,encB z.code,z.sups,z.vals]))=some [.t (sv z.name),.t (encB z.code),.t z.sups,.t z.vals]:=rfl
   refine A0d cj1 ?_
   cases hs:subL c z.code with
   | false=>
    rw[hs]at gs
    rw[if_neg (by rw[hs];simp)]at hnext
    simp -implicitDefEqProofs [SJ,<-hb,hk,iz,A0f,A1e,A1y,cz,tj1,gs,e1]
    rw[hnext]
    refine B8y (by omega) ?_ ?_<;>simp -implicitDefEqProofs [A0z,A1z,under]
   | true=>
    rw[hs]at gs
    by_cases hc2:cnt z.code<cnt v.code
    ·have hc2':(cnt z.code:Int)<(cnt v.code:Int):=by omega
     rw[if_pos ⟨hs,hc2⟩]at hnext
     simp -implicitDefEqProofs [SJ,<-hb,hk,iz,ib,A0f,A1e,A1y,cz,tj1,gs,gz,gv,hc2,hc2',e1]
     rw[hnext]
     refine B8y (by omega) ?_ ?_<;>simp -implicitDefEqProofs [A0z,A1z,under]
    ·have hc2':¬(cnt z.code:Int)<(cnt v.code:Int):=by omega
     rw[if_neg (fun h=>hc2 h.2)]at hnext
     simp -implicitDefEqProofs [SJ,<-hb,hk,iz,ib,A0f,A1e,A1y,cz,tj1,gs,gz,gv,hc2,hc2',e1]
     rw[hnext]
     refine B8y (by omega) ?_ ?_<;>simp -implicitDefEqProofs [A0z,A1z,under]
  ·refine A0d cj1 ?_
   simp -implicitDefEqProofs [SJ]
   exact Next.mk () trivial (A0c rfl rfl (by simp -implicitDefEqProofs) (by simp -implicitDefEqProofs))
 ·rintro _ _
  refine A0d cj1 ?_
  simp -implicitDefEqProofs [SJ,hres]
structure JOK (ty:List Typ):Prop where
 ok:TyOK ty
 len:ty.length<=1000000
 top:F9k ty
 meet:E8k ty
 inj:G8o ty
theorem JOK.join {ty:List Typ} (h:JOK ty):B5c ty (A7d ty):=G4l h.top h.meet
noncomputable def F3k:List T->Option T:=g3 tH tInt tInt fun h s t=>open Classical in if JOK h.1/\(0<=s/\s<(h.1.length:Int))/\0<=t/\t<(h.1.length:Int)then some (iv (A7d h.1 s t))else none
theorem G5g {F:Nat} (hc:∀{tt tf:T} {h:List Typ×List Ft},IsS eTyp tt h.1->IsS eFt tf h.2->JOK h.1->∀{s t:Nat},s<h.1.length->t<h.1.length->A0y Try.prog G F [.ag [tt,tf],iv (s:Int),iv (t:Int)] (· = iv (A7d h.1 (s:Int) (t:Int)))):GOK Try.prog G F F3k:=F0n fun a b c h s t r ha hb hc' hr=>by
 obtain⟨u,v,rfl,hu,hv⟩:=ha
 obtain rfl:b=iv s:=hb
 obtain rfl:c=iv t:=hc'
 split at hr
 ·rename_i hl
  injection hr with hr
  subst hr
  obtain⟨hj,⟨s0,s1⟩,t0,t1⟩:=hl
  have:=hc hu hv hj (s:=s.toNat) (t:=t.toNat) (by omega) (by omega)
  rwa[show((s.toNat:Nat):Int)=s by omega,show((t.toNat:Nat):Int)=t by omega]at this
 ·cases hr
theorem E9d {u v:T} {h:List Typ×List Ft} (hu:IsS eTyp u h.1) (hv:IsS eFt v h.2) (hj:JOK h.1) {s t:Int} (hs:0<=s/\s<(h.1.length:Int)) (ht:0<=t/\t<(h.1.length:Int)):F3k [.ag [u,v],iv s,iv t]=some (iv (A7d h.1 s t)):=
 (F0o (τ:=tH) (σ:=tInt) (ρ:=tInt) ⟨u,v,rfl,hu,hv⟩ rfl rfl).trans (if_pos ⟨hj,hs,ht⟩)
theorem E9e:GOK Try.prog G 41 F3k:=G5g fun hT _ hj _ _ hs ht=>G0p hT hj.ok hj.len hs ht
def nd0 (t:Int):Nd:=⟨t,nilS,[],IsS.nil⟩
def arR (s:Arc):Row:=.cells 81 [.t (iv s.feat),.t (iv s.to)]
def A4m (xs ys:List Arc) (i:Nat):List (Int×(Nat×Nat)):=(xs.take i).flatMap fun s=>both s ys
theorem D3v {xs ys:List Arc} {i:Nat} {s:Arc} (h:xs[i]?=some s):A4m xs ys (i+1)=A4m xs ys i++both s ys:=by
 unfold A4m
 rw[List.take_add_one,h,List.flatMap_append]
 simp
theorem G0q {s t:Arc} {ys:List Arc} {j:Nat} (h:ys[j]?=some t):both s (ys.take (j+1))=both s (ys.take j)++(if s.feat=t.feat then [(s.feat,(s.to.toNat,t.to.toNat))]else []):=by
 unfold both
 rw[List.take_add_one,h,List.filterMap_append]
 congr 1
 by_cases e:s.feat=t.feat
 ·simp[e]
 ·simp[e]
theorem E9f (s:Arc) (l:List Arc):(both s l).length<=l.length:=List.length_filterMap_le _ _
theorem G0r (xs ys:List Arc) (i:Nat):(A4m xs ys i).length<=i*ys.length:=by
 induction i with
 | zero=>simp[A4m]
 | succ i ih=>
  cases h:xs[i]? with
  | none=>
   have e:A4m xs ys (i+1)=A4m xs ys i:=by
    unfold A4m
    rw[List.take_add_one,h,List.flatMap_append]
    simp
   rw[e,Nat.succ_mul]
   omega
  | some s=>
   rw[D3v h,List.length_append,Nat.succ_mul]
   have:=E9f s ys
   omega
theorem G0s {a b:List Nd} {p:Nat×Nat} {i:Nat} {c:Int×(Nat×Nat)} (h:c∈A4m (A2s a p.1) (A2s b p.2) i):c∈A2l a b p:=by
 obtain⟨s,hs,hc⟩:=List.mem_flatMap.1 h
 exact List.mem_flatMap.2 ⟨s,List.mem_of_mem_take hs,hc⟩
section
variable {tt tf ta tb : T} {h : List Typ × List Ft} {a b : List Nd}
def midL (a b:List Nd) (k:Nat) (p:Nat×Nat) (L:List (Nat×Nat)) (D:List (Int×(Nat×Nat))):List (Nat×Nat):=midK (A2l a b) k p L D
def midN (jn:Int->Int->Int) (a b:List Nd) (k:Nat) (p:Nat×Nat) (L:List (Nat×Nat)) (N:List Nd) (D:List (Int×(Nat×Nat))):List Nd:=
 N++nd0 (typP jn a b p)::B3h (A2l a b) (typP jn a b) (L.length+1) (midL a b k p L D)
def midA (a b:List Nd) (k:Nat) (p:Nat×Nat) (L:List (Nat×Nat)) (D:List (Int×(Nat×Nat))):List Arc:=D.map (arcK (midL a b k p L D))
def SV1 (tt tf ta tb:T) (y:Nd) (tx:T) (n m:Nat) (L:List (Nat×Nat)) (N:List Nd) (A:List Arc) (i:Nat):A0b:=
 ⟨[(77,.t (iv (i:Int))),(76,.t (iv (n:Int))),(75,.t tx),(9,.ptr 5 0),(10,rowP eArc 4 A),(7,.t (iv (m:Int))),(0,.ptr 0 0)],gzH tt tf ta tb 0 1 3 L N (rowH eArc 81 4 A++[(5,ndR y)]),7,117⟩
def SV2 (tt tf ta tb:T) (y:Nd) (tx:T) (s:Arc) (n m:Nat) (L:List (Nat×Nat)) (N:List Nd) (A:List Arc) (i j:Nat):A0b:=
 ⟨[(84,.t (iv (j:Int))),(83,.t (iv (y.arcs.length:Int))),(82,.t y.tree),(12,.ptr 6 0),(77,.t (iv (i:Int))),(76,.t (iv (n:Int))),(75,.t tx),(9,.ptr 5 0),(10,rowP eArc 4 A),(7,.t (iv (m:Int))),(0,.ptr 0 0)],
  gzH tt tf ta tb 0 1 3 L N (rowH eArc 81 4 A++[(5,ndR y),(6,arR s)]),7,117⟩
def SV3 (tt tf ta tb tr:T) (m:Nat) (L:List (Nat×Nat)) (N:List Nd):A0b:=⟨[(10,.t tr),(7,.t (iv (m:Int))),(0,.ptr 0 0)],gzH tt tf ta tb 0 1 3 L N [],7,117⟩
noncomputable def tv4:Tbl:=[(41,F3k)]
theorem cv4:Ctx Try.prog G (orc tv4):=(A1t.cons E9e .nil).ctx A1u
def σv (k k' ky ks x:Nat):Nat:=if x=3 then k else if x=4 then k' else if x=5 then ky else if x=6 then ks else x
theorem H2l {k k' ky ks x y:Nat} (hd:k≠k'/\k≠ky/\k≠ks/\k'≠ky/\k'≠ks/\ky≠ks/\2<=k/\2<=k'/\2<=ky/\2<=ks) (h1:x=0\/x=1\/x=3\/x=4\/x=5\/x=6) (h2:y=0\/y=1\/y=3\/y=4\/y=5\/y=6) (e:σv k k' ky ks x=σv k k' ky ks y):x=y:=by
 unfold σv at e
 rcases h1 with rfl | rfl | rfl | rfl | rfl | rfl<;>rcases h2 with rfl | rfl | rfl | rfl | rfl | rfl<;>simp at e ⊢ <;> omega
theorem G0t {P:Program} {B nx n:Nat} {k k' ky ks:Nat} {L:List (Nat×Nat)} {N:List Nd} {A:List Arc} {y:Nd} {env env':List (Nat×PV)} {H R:Heap} (hB:B<=3) (w:Gz tt tf ta tb 0 1 k L N H) (ar:A0j eArc 81 H k' A) (hy:Abs.look H ky=some (ndR y))
  (hR:R=[(5,ndR y)]\/∃s,R=[(5,ndR y),(6,arR s)]/\Abs.look H ks=some (arR s)) (hd:k≠k'/\k≠ky/\k≠ks/\k'≠ky/\k'≠ks/\ky≠ks/\2<=k/\2<=k'/\2<=ky/\2<=ks)
  (he:∀q∈env',Abs.look env q.1=some (ren (σv k k' ky ks) q.2)/\under 7 q.2=true) :
  Sub P G B ⟨env,H,nx,n⟩ ⟨env',gzH tt tf ta tb 0 1 3 L N (rowH eArc 81 4 A++R),7,n⟩:=by
 have mem:∀q∈rowH eArc 81 4 A++R,(A≠[]/\q=(4,A1g eArc 81 A))\/q=(5,ndR y)\/∃s,q=(6,arR s)/\Abs.look H ks=some (arR s):=by
  intro q hq
  rcases List.mem_append.1 hq with hq | hq
  ·exact .inl (A1j hq)
  ·rcases hR with rfl | ⟨s,rfl,hs⟩
   ·exact .inr (.inl (by simpa using hq))
   ·simp only[List.mem_cons,List.not_mem_nil,or_false]at hq
    rcases hq with rfl | rfl
    ·exact .inr (.inl rfl)
    ·exact .inr (.inr ⟨s,rfl,hs⟩)
 refine E9c (σv k k' ky ks) (fun x hx=>?_) hB (by omega) w (fun q hq=>?_) (fun x y' hx hy' e=>?_) he
 ·unfold σv
  rw[if_neg (by omega),if_neg (by omega),if_neg (by omega),if_neg (by omega)]
 ·rcases mem q hq with⟨hn,rfl⟩ | rfl | ⟨s,rfl,hs⟩
  ·simp only[A1l,A0t]
   exact⟨ar.resolve_left hn,by omega,trivial⟩
  ·exact⟨hy,by show 5<7;omega,rfl⟩
  ·exact⟨hs,by show 6<7;omega,rfl⟩
 ·have num:∀x,(x=0\/x=1\/x=3\/∃q∈rowH eArc 81 4 A++R,q.1=x)->x=0\/x=1\/x=3\/x=4\/x=5\/x=6:=by
   rintro x (hx | hx | hx | ⟨q,hq,rfl⟩)
   ·omega
   ·omega
   ·omega
   ·rcases mem q hq with⟨_,rfl⟩ | rfl | ⟨s,rfl,_⟩
    ·exact .inr (.inr (.inr (.inl rfl)))
    ·exact .inr (.inr (.inr (.inr (.inl rfl))))
    ·exact .inr (.inr (.inr (.inr (.inr rfl))))
  exact H2l hd (num x hx) (num y' hy') e
theorem A8o {g m n z:Nat} {L:List (Nat×Nat)} {N:List Nd} {R:Heap} (hg:z≠g) (hm:z≠m) (hn:z≠n):Abs.look (gzH tt tf ta tb g m n L N R) z=Abs.look R z:=by
 unfold gzH
 rw[look_cons,if_neg (Ne.symm hg),look_cons,if_neg (Ne.symm hm)]
 cases N with
 | nil=>rfl
 | cons y r=>
  show Abs.look ((n,_)::R) z=_
  rw[look_cons,if_neg (Ne.symm hn)]
theorem C5x {n z:Nat} {A:List Arc} {R:Heap} (hn:z≠n):Abs.look (rowH eArc 81 n A++R) z=Abs.look R z:=by
 cases A with
 | nil=>rfl
 | cons y r=>
  show Abs.look ((n,_)::R) z=_
  rw[look_cons,if_neg (Ne.symm hn)]
theorem D7a {L:List (Nat×Nat)} {N:List Nd} {A:List Arc} {R:Heap}:A0j eArc 81 (gzH tt tf ta tb 0 1 3 L N (rowH eArc 81 4 A++R)) 4 A:=by
 rcases A0j.head eArc 81 R 4 A with h | h
 ·exact .inl h
 ·exact .inr (by rw[A8o (by omega) (by omega) (by omega)];exact h)
theorem rem3 {H:Heap} {x y z k:Nat} (hx:k≠x) (hy:k≠y) (hz:k≠z):Abs.look (rem (rem (rem H x) y) z) k=Abs.look H k:=by
 rw[A1m,if_neg hz,A1m,if_neg hy,A1m,if_neg hx]
theorem H2m (H:Heap) (F:List Nat) (b:Nat):frzP H F (.mp b) = .mp b:=rfl
theorem Gz.frz {g m n k:Nat} {L:List (Nat×Nat)} {N:List Nd} {H:Heap} (w:Gz tt tf ta tb g m n L N H) (hg:g≠k) (hm:m≠k) (hn:n≠k):Gz tt tf ta tb g m n L N ((remAll H [k]).map fun q=>(q.1,A4f H [k] q.2)) where
 gz:=by
  have h1:Abs.look (remAll H [k]) g=some (gzR tt tf ta tb m n N):=by
   show Abs.look (rem H k) g=_
   rw[A1m,if_neg hg,w.gz]
  rw[A5v,h1]
  simp only[gzR,Option.map_some,A4f,List.map_cons,List.map_nil,B8t,H2m,B4t w.nd hn]
 mp:=by
  have h1:Abs.look (remAll H [k]) m=some (mapR L):=by
   show Abs.look (rem H k) m=_
   rw[A1m,if_neg hm,w.mp]
  rw[A5v,h1]
  rfl
 nd:=A0j.frz w.nd hn
 gm:=w.gm
 gn:=w.gn
 mn:=w.mn
theorem Gz.set {g m n:Nat} {L:List (Nat×Nat)} {N:List Nd} {H:Heap} (w:Gz tt tf ta tb g m n L N H) (i:Nat) (x:Nd):Gz tt tf ta tb g m n L (N.set i x) (upd H n (A1g eNd 61 (N.set i x))) where
 gz:=by
  rw[A0u,if_neg w.gn,w.gz]
  simp only[gzR,D5r eNd n (show N.length=(N.set i x).length by simp)]
 mp:=by rw[A0u,if_neg w.mn];exact w.mp
 nd:=by
  rcases w.nd with h | h
  ·left;simp[h]
  ·right;rw[A0u,if_pos rfl,h];rfl
 gm:=w.gm
 gn:=w.gn
 mn:=w.mn
theorem G5h {jn:Int->Int->Int} {k:Nat} {p:Nat×Nat} {L:List (Nat×Nat)} {N:List Nd} {D:List (Int×(Nat×Nat))} (hN:N.length=L.length) (hl:L.length+1<=(midL a b k p L D).length):(midN jn a b k p L N D).length=(midL a b k p L D).length:=by
 unfold midN B3h
 simp only[List.length_append,List.length_cons,List.length_map,List.length_drop]
 omega
set_option maxHeartbeats 2000000 in
theorem E5i (hT:IsS eTyp tt h.1) (hF:IsS eFt tf h.2) (hta:IsS eNd ta a) (htb:IsS eNd tb b) (hj:JOK h.1) (ha:A1n h.1.length h.2.length a) (hb:A1n h.1.length h.2.length b) (sa:A3g a) (sb:A3g b) :
  ∀(k:Nat) (p:Nat×Nat) (L:List (Nat×Nat)) (N:List Nd),p∈C3l a b->L.Nodup->(∀y∈L,y∈C3l a b)->N.length=L.length->unv (C3l a b) L<=k ->
  A5s Try.prog G 65 [.ptr 0 0,.t (.ag [iv (p.1:Int),iv (p.2:Int)])] (gzH tt tf ta tb 0 1 2 L N []) 3 (.t (iv (idxK (vis (A2l a b) k p L) p:Int)))
   (gzH tt tf ta tb 0 1 3 (vis (A2l a b) k p L) (N++B3h (A2l a b) (typP (A7d h.1) a b) L.length (vis (A2l a b) k p L)) []) 4:=by
 have hU:=B9f ha hb
 have hz:eNd.z=2:=rfl
 have found:∀(k:Nat) (p:Nat×Nat) (L:List (Nat×Nat)) (N:List Nd),p∈L->A5s Try.prog G 65 [.ptr 0 0,.t (.ag [iv (p.1:Int),iv (p.2:Int)])] (gzH tt tf ta tb 0 1 2 L N []) 3 (.t (iv (idxK (vis (A2l a b) k p L) p:Int)))
   (gzH tt tf ta tb 0 1 3 (vis (A2l a b) k p L) (N++B3h (A2l a b) (typP (A7d h.1) a b) L.length (vis (A2l a b) k p L)) []) 4:=by
  intro k p L N hp
  have hv:vis (A2l a b) k p L=L:=if_pos hp
  rw[hv,G0l,List.append_nil]
  obtain⟨H0,hH0⟩:∃H0,H0=gzH tt tf ta tb 0 1 2 L N []:=⟨_,rfl⟩
  have w0:Gz tt tf ta tb 0 1 2 L N H0:=by rw[hH0];exact Gz.mk' _ _ _ (by omega) (by omega) (by omega)
  rw[<-hH0]
  refine A3b.callP rfl ?_
  unfold A2j
  have w1:=w0.cons (k:=3) (r:=.cells 91 [.t (iv (p.1:Int)),.t (iv (p.2:Int))]) (by omega) (by omega) (by omega)
  obtain⟨l1,l2,l3,l4,l5⟩:=w1.ld
  have cp:A0w (.t (.ag [iv (p.1:Int),iv (p.2:Int)]))=some [.t (iv (p.1:Int)),.t (iv (p.2:Int))]:=rfl
  have ag:agOf [.t (iv (p.1:Int)),.t (iv (p.2:Int))] = .t (.ag [iv (p.1:Int),iv (p.2:Int)]):=rfl
  have lb:A0f true 2 ((3,Row.cells 91 [.t (iv (p.1:Int)),.t (iv (p.2:Int))])::H0) (.ptr 3 0)=some (.t (.ag [iv (p.1:Int),iv (p.2:Int)])):=by simp[A0f,ag]
  have gp:=w1.get (nx:=4) p
  rw[if_pos hp,decide_eq_true hp]at gp
  refine A0a cv4 ?_
  simp -implicitDefEqProofs [cp]
  refine A0d cv4 ?_
  simp -implicitDefEqProofs [l4,lb,gp,extractV]
  refine⟨.inr rfl,⟨[(4,.t (iv (idxK L p:Int)))],gzH tt tf ta tb 0 1 3 L N [],4,117⟩,[.t (iv (idxK L p:Int))],?_,rfl,rfl,rfl,rfl⟩
  exact E9c (fun x=>if x=3 then 2 else x) (fun x hx=>if_neg (by omega)) (by omega) (by omega) w1 (fun q hq=>by cases hq) (fun x y hx hy e=>by
   simp only[List.not_mem_nil,false_and,exists_false,or_false]at hx hy
   rcases hx with rfl | rfl | rfl<;>rcases hy with rfl | rfl | rfl<;>simp at e ⊢) (by simp -implicitDefEqProofs [ren,under])
 intro k
 induction k with
 | zero=>
  intro p L N hp hL hLs hN hk
  refine found 0 p L N ?_
  apply Classical.byContradiction
  intro hn
  have:=D6m hp hn
  omega
 | succ k ih=>
  intro p L N hp hL hLs hN hk
  by_cases hpL:p∈L
  ·exact found (k+1) p L N hpL
  obtain⟨p1,p2⟩:=A7p.1 hp
  obtain⟨x,hx0⟩:∃x,x=ndAt a (p.1:Int):=⟨_,rfl⟩
  obtain⟨y,hy0⟩:∃y,y=ndAt b (p.2:Int):=⟨_,rfl⟩
  have hxa:a[p.1]?=some x:=by rw[hx0];exact(ha.nd p1).2
  have hyb:b[p.2]?=some y:=by rw[hy0];exact(hb.nd p2).2
  have ix:=B6m hta hxa
  have iy:=B6m htb hyb
  have hxl:=sa.arcs x (List.mem_of_getElem? hxa)
  have hyl:=sb.arcs y (List.mem_of_getElem? hyb)
  obtain⟨H0,hH0⟩:∃H0,H0=gzH tt tf ta tb 0 1 2 L N []:=⟨_,rfl⟩
  have w0:Gz tt tf ta tb 0 1 2 L N H0:=by rw[hH0];exact Gz.mk' _ _ _ (by omega) (by omega) (by omega)
  rw[<-hH0]
  refine A3b.callP rfl ?_
  unfold A2j
  have w1:=w0.cons (k:=3) (r:=.cells 91 [.t (iv (p.1:Int)),.t (iv (p.2:Int))]) (by omega) (by omega) (by omega)
  obtain⟨H1,hH1⟩:∃H1,H1=(3,Row.cells 91 [.t (iv (p.1:Int)),.t (iv (p.2:Int))])::H0:=⟨_,rfl⟩
  have cp:A0w (.t (.ag [iv (p.1:Int),iv (p.2:Int)]))=some [.t (iv (p.1:Int)),.t (iv (p.2:Int))]:=rfl
  have ag:agOf [.t (iv (p.1:Int)),.t (iv (p.2:Int))] = .t (.ag [iv (p.1:Int),iv (p.2:Int)]):=rfl
  have lb:∀{H:Heap},Abs.look H 3=some (Row.cells 91 [.t (iv (p.1:Int)),.t (iv (p.2:Int))])->A0f true 2 H (.ptr 3 0)=some (.t (.ag [iv (p.1:Int),iv (p.2:Int)]))/\A0f false 1 H (.ptr 3 0)=some (.t (iv (p.1:Int)))/\A0f false 1 H (.ptr 3 1)=some (.t (iv (p.2:Int))):=fun h=>by
   simp[A0f,h,ag]
  have b1:Abs.look H1 3=some (Row.cells 91 [.t (iv (p.1:Int)),.t (iv (p.2:Int))]):=by rw[hH1];rfl
  obtain⟨lb1,lb2,lb3⟩:=lb b1
  rw[<-hH1]at w1
  obtain⟨l1,l2,l3,l4,l5⟩:=w1.ld
  have gp:=w1.get (nx:=4) p
  rw[if_neg hpL,decide_eq_false hpL]at gp
  refine A0a cv4 ?_
  simp -implicitDefEqProofs [cp]
  rw[<-hH1]
  refine A0a cv4 ?_
  simp -implicitDefEqProofs [l4,lb1,gp,extractV]
  obtain⟨sp,w2⟩:=w1.put (nx:=4) hpL
  obtain⟨H2,hH2⟩:∃H2,H2=upd H1 1 (mapR (L++[p])):=⟨_,rfl⟩
  rw[<-hH2]at sp w2
  refine A0a cv4 ?_
  simp -implicitDefEqProofs [l5,A2f,hN]
  refine A0a cv4 ?_
  simp -implicitDefEqProofs [l4,lb1,sp]
  obtain⟨m1,m2,m3,m4,m5⟩:=w2.ld
  have b2:Abs.look H2 3=some (Row.cells 91 [.t (iv (p.1:Int)),.t (iv (p.2:Int))]):=by rw[hH2,A0u,if_neg (by omega)];exact b1
  obtain⟨c1,c2,c3⟩:=lb b2
  have lt:∀(H:Heap) c d cs,A0f true 2 H (.t (.pt (c::d::cs)))=some (.t (.ag [c,d])):=fun _ _ _ _=>rfl
  have lf:∀(H:Heap) c cs,A0f false 1 H (.t (.pt (c::cs)))=some (.t c):=fun _ _ _=>rfl
  have st6:A1e 2 ((7,Row.cells 61 [.t (iv 0),.t nilS])::(6,Row.cells 61 [.t (iv 0),.t nilS])::H2) (.ptr 6 0) (.t (.ag [iv x.type,x.tree]))=some ((7,Row.cells 61 [.t (iv 0),.t nilS])::(6,ndR x)::H2):=rfl
  have st7:A1e 2 ((7,Row.cells 61 [.t (iv 0),.t nilS])::(6,ndR x)::H2) (.ptr 7 0) (.t (.ag [iv y.type,y.tree]))=some ((7,ndR y)::(6,ndR x)::H2):=rfl
  have w3:=(w2.cons (k:=6) (r:=ndR x) (by omega) (by omega) (by omega)).cons (k:=7) (r:=.cells 61 [.t (iv 0),.t nilS]) (by omega) (by omega) (by omega)
  obtain⟨n1,n2,n3,n4,n5⟩:=w3.ld
  have b3:Abs.look ((7,Row.cells 61 [.t (iv 0),.t nilS])::(6,ndR x)::H2) 3=some (Row.cells 91 [.t (iv (p.1:Int)),.t (iv (p.2:Int))]):=by rw[look_cons,if_neg (by omega),look_cons,if_neg (by omega)];exact b2
  obtain⟨d1,d2,d3⟩:=lb b3
  refine A0a cv4 ?_
  simp -implicitDefEqProofs [m2,m3,c2,c3,ix,iy,lt,st6,n3,d3,st7]
  have w4:=(w2.cons (k:=6) (r:=ndR x) (by omega) (by omega) (by omega)).cons (k:=7) (r:=ndR y) (by omega) (by omega) (by omega)
  obtain⟨H4,hH4⟩:∃H4,H4=(7,ndR y)::(6,ndR x)::H2:=⟨_,rfl⟩
  have b6:Abs.look H4 6=some (ndR x):=by rw[hH4];rfl
  have b7:Abs.look H4 7=some (ndR y):=by rw[hH4];rfl
  rw[<-hH4]at w4
  obtain⟨o1,o2,o3,o4,o5⟩:=w4.ld
  have q1:A0f false 1 H4 (.ptr 6 0)=some (.t (iv x.type)):=by simp[A0f,b6,ndR]
  have q2:A0f false 1 H4 (.ptr 7 0)=some (.t (iv y.type)):=by simp[A0f,b7,ndR]
  obtain⟨ty,hty⟩:∃ty,ty=typP (A7d h.1) a b p:=⟨_,rfl⟩
  have gj:F3k [.ag [tt,tf],iv x.type,iv y.type]=some (iv ty):=by
   rw[hty]
   unfold typP
   rw[<-hx0,<-hy0]
   have r1:=ha.tyr p1
   have r2:=hb.tyr p2
   rw[<-hx0]at r1
   rw[<-hy0]at r2
   exact E9d hT hF hj r1 r2
  have bd:∀{Φ:A1c} {H:Heap} {nx:Nat},A0m Φ H nx (.build [(0,1),(1,1)] [.int .i64 0,.slice none 0 0] [0]) [.t (iv ty)]=some (.t (.ag [iv ty,nilS]),H,nx):=rfl
  have ts:A6u 61 2 [.int .i64 0,.slice none 0 0] 1 [(0,.t (.ag [iv ty,nilS]))]=some (.t (.sl 1 [iv ty,nilS])):=rfl
  have hLl:L.length<=4096*4096:=by
   have h1:=G0m hL hLs
   have h2:=B5d a b
   have h3:a.length*b.length<=4096*4096:=Nat.mul_le_mul ha.form.le hb.form.le
   omega
  obtain⟨bn,H5,n5',ap5,r5,ne5,le5,lk5,ge5⟩:=A1k (e:=eNd) (ty:=61) (by':=32) (nx:=8) (m:=[nd0 ty]) w4.nd (A3f (t:=.sl 1 [iv ty,nilS]) (.inr rfl)) (by simp[hN];omega) (by simp[hN];omega)
  rw[hz]at ap5
  obtain⟨st5,w5⟩:=w4.nodes (fun z hz=>lk5 z (by omega) (by omega)) r5 (by omega) (by omega)
  obtain⟨H6,hH6⟩:∃H6,H6=upd H5 0 (gzR tt tf ta tb 1 bn (N++[nd0 ty])):=⟨_,rfl⟩
  rw[<-hH6]at st5 w5
  have e6:Abs.look H6 6=some (ndR x):=by rw[hH6,A0u,if_neg (by omega),lk5 6 (by omega) (by omega)];exact b6
  have e7:Abs.look H6 7=some (ndR y):=by rw[hH6,A0u,if_neg (by omega),lk5 7 (by omega) (by omega)];exact b7
  refine A0a cv4 ?_
  simp -implicitDefEqProofs [<-hH4,o5,o1,q1,q2,tv4,gj,-evalK_build,bd,ts,ap5,st5]
  refine A0a cv4 ?_
  simp -implicitDefEqProofs
  have hxs:A2s a p.1=x.arcs:=by unfold A2s;rw[<-hx0]
  have hys:A2s b p.2=y.arcs:=by unfold A2s;rw[<-hy0]
  have hall:A2l a b p=A4m x.arcs y.arcs x.arcs.length:=by
   unfold A2l A4m
   rw[hxs,hys,List.take_length]
  obtain⟨jn,hjn⟩:∃jn,jn=A7d h.1:=⟨_,rfl⟩
  rw[<-hjn]at hty ih ⊢
  have hDU:∀D:List (Int×(Nat×Nat)),(∀c∈D,c∈A2l a b p)->∀c∈D,c.2∈C3l a b:=fun D hD c hc=>hU p hp c (hD c hc)
  have hds:∀i,∀c∈A4m x.arcs y.arcs i,c∈A2l a b p:=fun i c hc=>by rw[<-hxs,<-hys]at hc;exact G0s hc
  have hbs:∀(s:Arc) (j:Nat),s∈x.arcs->∀c∈both s (y.arcs.take j),c∈A2l a b p:=fun s j hs c hc=>by
   obtain⟨t,ht,e,rfl⟩:=C1h.1 hc
   exact B1j.2 ⟨s,by rw[hxs];exact hs,t,by rw[hys];exact List.mem_of_mem_take ht,e,rfl⟩
  have hrun:∀D,(∀c∈D,c∈A2l a b p)->_:=fun D hD=>G0n hU hp hpL hk (hDU D hD)
  refine A0s (fun _:Unit=>SV3 tt tf ta tb (A0k eArc (midA a b k p L (A2l a b p))) L.length (midL a b k p L (A2l a b p)) (midN jn a b k p L N (A2l a b p))) (fun _=>True) (fun _=>rfl) ?_ ?_
  ·have q3:A0f false 1 H6 (.ptr 6 1)=some (.t x.tree):=by simp[A0f,e6,ndR]
   refine A0a cv4 ?_
   simp -implicitDefEqProofs [q3,x.ok.len]
   refine A0h ?_
   refine A1b (fun i=>SV1 tt tf ta tb y x.tree x.arcs.length L.length (midL a b k p L (A4m x.arcs y.arcs i)) (midN jn a b k p L N (A4m x.arcs y.arcs i)) (midA a b k p L (A4m x.arcs y.arcs i)) i) x.arcs.length (fun _=>rfl) ?_ rfl ?_ ?_
   ·have e1:midN jn a b k p L N (A4m x.arcs y.arcs 0)=N++[nd0 ty]:=by
     unfold midN
     rw[<-hty]
     show N++nd0 ty::((L++[p]).drop (L.length+1)).map _=_
     rw[List.drop_of_length_le (by simp)]
     rfl
    have e2:midL a b k p L (A4m x.arcs y.arcs 0)=L++[p]:=rfl
    have e3:midA a b k p L (A4m x.arcs y.arcs 0)=[]:=rfl
    show Abs.Sub _ _ _ _ (SV1 tt tf ta tb y x.tree x.arcs.length L.length _ _ _ 0)
    rw[e1,e2,e3]
    exact G0t (k':=bn+1) (ky:=7) (ks:=bn+2) (by omega) w5 (A0j.nil _ _ _ _) e7 (.inl rfl) (by omega) (by simp -implicitDefEqProofs [σv,ren,under,rowP])
   ·intro i hi
    obtain⟨s,hs⟩:∃s,x.arcs[i]?=some s:=⟨_,List.getElem?_eq_getElem hi⟩
    have hsm:=List.mem_of_getElem? hs
    have hto:=ha.form.to x (List.mem_of_getElem? hxa) s hsm
    have is:=A7k x.ok hs
    have e1:IntKind.i64.wrap ((i:Int)+1)=((i+1:Nat):Int):=A0l (by omega) (by omega)
    obtain⟨Hi,hHi⟩:∃Hi,Hi=gzH tt tf ta tb 0 1 3 (midL a b k p L (A4m x.arcs y.arcs i)) (midN jn a b k p L N (A4m x.arcs y.arcs i)) (rowH eArc 81 4 (midA a b k p L (A4m x.arcs y.arcs i))++[(5,ndR y)]):=⟨_,rfl⟩
    have wi:Gz tt tf ta tb 0 1 3 (midL a b k p L (A4m x.arcs y.arcs i)) (midN jn a b k p L N (A4m x.arcs y.arcs i)) Hi:=by rw[hHi];exact Gz.mk' _ _ _ (by omega) (by omega) (by omega)
    have ri:A0j eArc 81 Hi 4 (midA a b k p L (A4m x.arcs y.arcs i)):=by rw[hHi];exact D7a
    have y5:Abs.look Hi 5=some (ndR y):=by rw[hHi,A8o (by omega) (by omega) (by omega),C5x (by omega)];rfl
    have st12:A1e 2 ((7,Row.cells 81 [.t (iv 0),.t (iv 0)])::Hi) (.ptr 7 0) (.t (.ag [iv s.feat,iv s.to]))=some ((7,arR s)::Hi):=rfl
    have q5:A0f false 1 ((7,arR s)::Hi) (.ptr 5 1)=some (.t y.tree):=by simp[A0f,y5,ndR]
    show MC _ _ _ _ _ _ (SV1 tt tf ta tb y x.tree x.arcs.length L.length _ _ _ i)
    unfold SV1
    rw[<-hHi]
    refine A0a cv4 ?_
    simp -implicitDefEqProofs [hi]
    refine A0a cv4 ?_
    simp -implicitDefEqProofs
    refine A0s (fun _:Unit=>SV1 tt tf ta tb y x.tree x.arcs.length L.length (midL a b k p L (A4m x.arcs y.arcs (i+1))) (midN jn a b k p L N (A4m x.arcs y.arcs (i+1))) (midA a b k p L (A4m x.arcs y.arcs (i+1))) i) (fun _=>True) (fun _=>rfl) ?_ ?_
    ·refine A0h ?_
     refine A0a cv4 ?_
     simp -implicitDefEqProofs [is,lt,st12]
     refine A0a cv4 ?_
     simp -implicitDefEqProofs [q5,y.ok.len]
     refine A0h ?_
     refine A1b (fun j=>SV2 tt tf ta tb y x.tree s x.arcs.length L.length (midL a b k p L (A4m x.arcs y.arcs i++both s (y.arcs.take j))) (midN jn a b k p L N (A4m x.arcs y.arcs i++both s (y.arcs.take j))) (midA a b k p L (A4m x.arcs y.arcs i++both s (y.arcs.take j))) i j) y.arcs.length (fun _=>rfl) ?_ rfl ?_ ?_
     ·have e0:A4m x.arcs y.arcs i++both s (y.arcs.take 0)=A4m x.arcs y.arcs i:=by show _++[]=_;rw[List.append_nil]
      show Abs.Sub _ _ _ _ (SV2 tt tf ta tb y x.tree s x.arcs.length L.length _ _ _ i 0)
      rw[e0]
      exact G0t (k:=3) (k':=4) (ky:=5) (ks:=7) (by omega) (wi.cons (by omega) (by omega) (by omega)) (ri.cons (by omega)) (by rw[look_cons,if_neg (by omega)];exact y5) (.inr ⟨s,rfl,rfl⟩) (by omega) (by simp -implicitDefEqProofs [σv,ren,A0g,under,A0e])
     ·intro j hj
      obtain⟨t,ht⟩:∃t,y.arcs[j]?=some t:=⟨_,List.getElem?_eq_getElem hj⟩
      have htm:=List.mem_of_getElem? ht
      have hto':=hb.form.to y (List.mem_of_getElem? hyb) t htm
      have it:=A7k y.ok ht
      have e2:IntKind.i64.wrap ((j:Int)+1)=((j+1:Nat):Int):=A0l (by omega) (by omega)
      obtain⟨D,hD⟩:∃D,D=A4m x.arcs y.arcs i++both s (y.arcs.take j):=⟨_,rfl⟩
      have hDs:∀c∈D,c∈A2l a b p:=fun c hc=>by
       rw[hD]at hc
       rcases List.mem_append.1 hc with hc | hc
       ·exact hds i c hc
       ·exact hbs s j hsm c hc
      obtain⟨g1,g2,g3,g4⟩:=hrun D hDs
      have hsucc:=G0q (s:=s) ht
      obtain⟨Hj,hHj⟩:∃Hj,Hj=gzH tt tf ta tb 0 1 3 (midL a b k p L D) (midN jn a b k p L N D) (rowH eArc 81 4 (midA a b k p L D)++[(5,ndR y),(6,arR s)]):=⟨_,rfl⟩
      have wj:Gz tt tf ta tb 0 1 3 (midL a b k p L D) (midN jn a b k p L N D) Hj:=by rw[hHj];exact Gz.mk' _ _ _ (by omega) (by omega) (by omega)
      have rj:A0j eArc 81 Hj 4 (midA a b k p L D):=by rw[hHj];exact D7a
      have j5:Abs.look Hj 5=some (ndR y):=by rw[hHj,A8o (by omega) (by omega) (by omega),C5x (by omega)];rfl
      have j6:Abs.look Hj 6=some (arR s):=by rw[hHj,A8o (by omega) (by omega) (by omega),C5x (by omega)];rfl
      have st14:A1e 2 ((7,Row.cells 81 [.t (iv 0),.t (iv 0)])::Hj) (.ptr 7 0) (.t (.ag [iv t.feat,iv t.to]))=some ((7,arR t)::Hj):=rfl
      obtain⟨Hb,hHb⟩:∃Hb,Hb=(7,arR t)::Hj:=⟨_,rfl⟩
      have k6:Abs.look Hb 6=some (arR s):=by rw[hHb,look_cons,if_neg (by omega)];exact j6
      have k7:Abs.look Hb 7=some (arR t):=by rw[hHb];rfl
      have u1:A0f false 1 Hb (.ptr 6 0)=some (.t (iv s.feat)):=by simp[A0f,k6,arR]
      have u2:A0f false 1 Hb (.ptr 7 0)=some (.t (iv t.feat)):=by simp[A0f,k7,arR]
      have u3:A0f false 1 Hb (.ptr 6 1)=some (.t (iv s.to)):=by simp[A0f,k6,arR]
      have u4:A0f false 1 Hb (.ptr 7 1)=some (.t (iv t.to)):=by simp[A0f,k7,arR]
      have wb:Gz tt tf ta tb 0 1 3 (midL a b k p L D) (midN jn a b k p L N D) Hb:=by rw[hHb];exact wj.cons (by omega) (by omega) (by omega)
      by_cases hf:s.feat=t.feat
      ·rw[if_pos hf]at hsucc
       obtain⟨c,hc⟩:∃c,c=(s.feat,(s.to.toNat,t.to.toNat)):=⟨_,rfl⟩
       rw[<-hc]at hsucc
       have hcs:c∈A2l a b p:=B1j.2 ⟨s,by rw[hxs];exact hsm,t,by rw[hys];exact htm,hf,hc⟩
       have hcU:=hU p hp c hcs
       obtain⟨e3,e4⟩:=G5f (typ:=typP jn a b) hU hL hp hpL hk (hDU D hDs) hcU
       have a1:((c.2.1:Nat):Int)=s.to:=by rw[hc];show((s.to.toNat:Nat):Int)=s.to;omega
       have a2:((c.2.2:Nat):Int)=t.to:=by rw[hc];show((t.to.toNat:Nat):Int)=t.to;omega
       have a3:c.1=t.feat:=by rw[hc];exact hf
       have hnd1:(L++[p]).Nodup:=by
        rw[List.nodup_append]
        exact⟨hL,by simp,fun z hz w hw e=>by rw[List.mem_singleton]at hw;rw[e,hw]at hz;exact hpL hz⟩
       have hsub1:∀z∈L++[p],z∈C3l a b:=fun z hz=>by
        rcases List.mem_append.1 hz with hz | hz
        ·exact hLs z hz
        ·rw[List.mem_singleton]at hz;rw[hz];exact hp
       have hml:=G5h (a:=a) (b:=b) (jn:=jn) (p:=p) hN g4
       have cp:=G0o (ih c.2 (midL a b k p L D) (midN jn a b k p L N D) hcU (g1.nodup hnd1) (g1.sub hsub1) hml g3) wb (NX:=8) (by omega) (by omega) (by omega)
       have hv2:vis (A2l a b) k c.2 (midL a b k p L D)=midL a b k p L (D++[c]):=E9b.symm
       have hn2:midN jn a b k p L N D++B3h (A2l a b) (typP jn a b) (midL a b k p L D).length (midL a b k p L (D++[c]))=midN jn a b k p L N (D++[c]):=by
        unfold midN
        rw[List.append_assoc,List.cons_append]
        exact congrArg (fun z=>N++nd0 (typP jn a b p)::z) e3.symm
       rw[hv2,hn2,a1,a2]at cp
       have hA2:midA a b k p L (D++[c])=midA a b k p L D++[⟨t.feat,(idxK (midL a b k p L (D++[c])) c.2:Int)⟩]:=by rw[<-a3];exact e4
       obtain⟨z,hz'⟩:∃z:Int,z=(idxK (midL a b k p L (D++[c])) c.2:Int):=⟨_,rfl⟩
       rw[<-hz']at cp hA2
       obtain⟨Hc,hHc⟩:∃Hc,Hc=gzH tt tf ta tb 0 1 8 (midL a b k p L (D++[c])) (midN jn a b k p L N (D++[c])) (rem (rem (rem Hb 0) 1) 3):=⟨_,rfl⟩
       have wc:Gz tt tf ta tb 0 1 8 (midL a b k p L (D++[c])) (midN jn a b k p L N (D++[c])) Hc:=by rw[hHc];exact Gz.mk' _ _ _ (by omega) (by omega) (by omega)
       have v5:Abs.look Hc 5=some (ndR y):=by rw[hHc,A8o (by omega) (by omega) (by omega),rem3 (by omega) (by omega) (by omega),hHb,look_cons,if_neg (by omega)];exact j5
       have v6:Abs.look Hc 6=some (arR s):=by rw[hHc,A8o (by omega) (by omega) (by omega),rem3 (by omega) (by omega) (by omega)];exact k6
       have rc:A0j eArc 81 Hc 4 (midA a b k p L D):=rj.imp id fun q=>by rw[hHc,A8o (by omega) (by omega) (by omega),rem3 (by omega) (by omega) (by omega),hHb,look_cons,if_neg (by omega)];exact q
       rw[<-hHc]at cp
       have hfr:(∀b0 x0,Abs.look Hb b0=some x0->b0<8)->∀b0 x0,Abs.look Hc b0=some x0->b0<9:=fun hb0 b0 x0 h0=>by
        rw[hHc]at h0
        rcases B5j (A0p h0)with e | e | ⟨_,e⟩ | hq
        ·injection e with e _;omega
        ·injection e with e _;omega
        ·injection e with e _;omega
        ·have hq:=A6j (A6j (A6j hq))
         rw[hHb]at hq
         rcases List.mem_cons.1 hq with e | hq
         ·injection e with e _;omega
         ·rw[hHj]at hq
          rcases B5j hq with e | e | ⟨_,e⟩ | hq
          ·injection e with e _;omega
          ·injection e with e _;omega
          ·injection e with e _;omega
          ·rcases List.mem_append.1 hq with hq | hq
           ·obtain⟨_,e⟩:=A1j hq
            injection e with e _;omega
           ·simp only[List.mem_cons,List.not_mem_nil,or_false]at hq
            rcases hq with e | e
            ·injection e with e _;omega
            ·injection e with e _;omega
       have cv:Ctx Try.prog G (orh [] [(65,hOne [.ptr 0 0,.t (.ag [iv s.to,iv t.to])] Hb 8 (.t (iv z),Hc,9))]):=A1t.nil.ctxH (A8b.cons (hOne_ok cp hfr) .nil) A1u
       have u5:A0f false 1 Hc (.ptr 6 0)=some (.t (iv s.feat)):=by simp[A0f,v6,arR]
       rw[hf]at u1 u5
       have bd2:∀{Φ:A1c} {H:Heap} {nx:Nat} (f r:Int),A0m Φ H nx (.build [(0,1),(1,1)] [.int .i64 0,.int .i64 0] [0,1]) [.t (iv f),.t (iv r)]=some (.t (.ag [iv f,iv r]),H,nx):=fun _ _=>rfl
       have ts2:A6u 81 2 [.int .i64 0,.int .i64 0] 1 [(0,.t (.ag [iv t.feat,iv z]))]=some (.t (.sl 1 [iv t.feat,iv z])):=rfl
       have hal:(midA a b k p L D).length<=1000000*1000000+1000000:=by
        unfold midA
        rw[List.length_map,hD,List.length_append]
        have h1:=E9f s (y.arcs.take j)
        have h2:=G0r x.arcs y.arcs i
        have h3:i*y.arcs.length<=1000000*1000000:=Nat.mul_le_mul (by omega) (by omega)
        rw[List.length_take]at h1
        omega
       obtain⟨b',H',n',ap,r',ne',le',lk',ge'⟩:=A1k (e:=eArc) (ty:=81) (by':=16) (nx:=9) (m:=[⟨t.feat,z⟩]) rc (A3f (t:=.sl 1 [iv t.feat,iv z]) (.inr rfl)) (by simp;omega) (by simp;omega)
       rw[show eArc.z=2 from rfl,<-hA2]at ap
       rw[<-hA2]at r'
       refine A0d cv ?_
       rw[hsucc,<-List.append_assoc,<-hD]
       unfold SV2
       rw[<-hHj]
       simp -implicitDefEqProofs [hj,it,lt,st14,<-hHb,u1,u2,u3,u4,u5,-evalK_build,bd2,hOne_eq,ts2,ap,e2]
       refine G0t (k:=8) (k':=b') (ky:=5) (ks:=6) (by omega) (wc.keep fun z hz=>lk' z (by omega) (by omega)) r' ?_ (.inr ⟨s,rfl,?_⟩) (by omega) (by simp -implicitDefEqProofs [σv,ren,A0g,under,A0e])
       ·rw[lk' 5 (by omega) (by omega)];exact v5
       ·rw[lk' 6 (by omega) (by omega)];exact v6
      ·rw[if_neg hf,List.append_nil]at hsucc
       refine A0d cv4 ?_
       rw[hsucc,<-hD]
       unfold SV2
       rw[<-hHj]
       simp -implicitDefEqProofs [hj,it,lt,st14,<-hHb,u1,u2,hf,e2]
       rw[hHj]
       refine G0t (k:=3) (k':=4) (ky:=5) (ks:=6) (by omega) wb ?_ ?_ (.inr ⟨s,rfl,k6⟩) (by omega) (by simp -implicitDefEqProofs [σv,ren,A0g,under,A0e])
       ·rw[hHb];exact rj.cons (by omega)
       ·rw[hHb,look_cons,if_neg (by omega)];exact j5
     ·refine A0d cv4 ?_
      have e0:A4m x.arcs y.arcs i++both s (y.arcs.take y.arcs.length)=A4m x.arcs y.arcs (i+1):=by rw[List.take_length,D3v hs]
      rw[e0]
      simp -implicitDefEqProofs [SV2]
      refine Next.mk () trivial ?_
      have we:∀(L':List (Nat×Nat)) (N':List Nd) (A':List Arc),Gz tt tf ta tb 0 1 3 L' N' (gzH tt tf ta tb 0 1 3 L' N' (rowH eArc 81 4 A'++[(5,ndR y),(6,arR s)])):=fun _ _ _=>Gz.mk' _ _ _ (by omega) (by omega) (by omega)
      refine G0t (k:=3) (k':=4) (ky:=5) (ks:=6) (by omega) (we _ _ _) D7a ?_ (.inl rfl) (by omega) (by simp -implicitDefEqProofs [σv,ren,A0g,under,A0e])
      rw[A8o (by omega) (by omega) (by omega),C5x (by omega)]
      rfl
    ·rintro _ _
     refine A0d cv4 ?_
     simp -implicitDefEqProofs [SV1,e1]
     exact A7w (by simp -implicitDefEqProofs)
   ·refine A0d cv4 ?_
    simp -implicitDefEqProofs [SV1]
    refine Next.mk () trivial ?_
    rw[<-hall]
    have we:=Gz.mk' (tt:=tt) (tf:=tf) (ta:=ta) (tb:=tb) (g:=0) (m:=1) (n:=3) (midL a b k p L (A2l a b p)) (midN jn a b k p L N (A2l a b p)) (rowH eArc 81 4 (midA a b k p L (A2l a b p))++[(5,ndR y)]) (by omega) (by omega) (by omega)
    have re:=D7a (tt:=tt) (tf:=tf) (ta:=ta) (tb:=tb) (L:=midL a b k p L (A2l a b p)) (N:=midN jn a b k p L N (A2l a b p)) (A:=midA a b k p L (A2l a b p)) (R:=[(5,ndR y)])
    refine(B0e [4]).trans ?_
    unfold SV3 A0b.frz
    exact E9c (fun x=>x) (fun _ _=>rfl) (by omega) (by omega) (we.frz (by omega) (by omega) (by omega)) (fun q hq=>by cases hq) (fun x y _ _ e=>e) (by simp -implicitDefEqProofs [C8q re,B8t,D5q,ren,under])
  ·rintro _ _
   obtain⟨g1,g2,g3,g4⟩:=hrun (A2l a b p) (fun c hc=>hc)
   obtain⟨r,hr⟩:=g1.pre
   have hr:midL a b k p L (A2l a b p)=L++[p]++r:=hr
   obtain⟨A,hA⟩:∃A,A=midA a b k p L (A2l a b p):=⟨_,rfl⟩
   obtain⟨L',hL'⟩:∃L',L'=midL a b k p L (A2l a b p):=⟨_,rfl⟩
   obtain⟨N',hN'⟩:∃N',N'=midN jn a b k p L N (A2l a b p):=⟨_,rfl⟩
   have hv:vis (A2l a b) (k+1) p L=L':=by rw[hL'];exact(G9v hpL).symm
   have hgn:N'[L.length]?=some (nd0 ty):=by
    rw[hN',hty]
    unfold midN
    rw[List.getElem?_append_right (by omega),hN,Nat.sub_self]
    rfl
   have hset:N'.set L.length (mkNd ty A)=N++B3h (A2l a b) (typP jn a b) L.length L':=by
    have e1:B3h (A2l a b) (typP jn a b) L.length L'=mkNd ty A::B3h (A2l a b) (typP jn a b) (L.length+1) L':=by
     unfold B3h
     have d1:L'.drop L.length=p::r:=by rw[hL',hr,List.append_assoc,List.drop_left];rfl
     have d2:L'.drop (L.length+1)=r:=by rw[hL',hr,show L.length+1=(L++[p]).length by simp,List.drop_left]
     rw[d1,d2,List.map_cons]
     congr 1
     show mkNd (typP jn a b p) ((A2l a b p).map (arcK L'))=mkNd ty A
     rw[<-hty,hA,hL']
     rfl
    rw[e1,hN']
    unfold midN
    rw[<-hL',List.set_append_right _ _ (by omega),hN,Nat.sub_self]
    rfl
   have hidx:idxK L' p=L.length:=by
    rw[hL',hr,E8y (by simp),G5e hpL]
   rw[hv,<-hset,hidx]
   rw[<-hA,<-hL',<-hN']
   have hlen:(mkNd ty A).tree=A0k eArc A:=rfl
   have wf:=Gz.mk' (tt:=tt) (tf:=tf) (ta:=ta) (tb:=tb) (g:=0) (m:=1) (n:=3) L' N' [] (by omega) (by omega) (by omega)
   have sw:SV3 tt tf ta tb (A0k eArc A) L.length L' N'=⟨[(10,.t (A0k eArc A)),(7,.t (iv (L.length:Int))),(0,.ptr 0 0)],gzH tt tf ta tb 0 1 3 L' N' [],7,117⟩:=rfl
   obtain⟨Hf,hHf⟩:∃Hf,Hf=gzH tt tf ta tb 0 1 3 L' N' []:=⟨_,rfl⟩
   rw[<-hHf]at wf sw
   obtain⟨f1,f2,f3,f4,f5⟩:=wf.ld
   have ia:=A1r (e:=eNd) (b:=3) hgn .i64
   have st:=B0y (e:=eNd) (ty:=61) (b:=3) (H:=Hf) (off:=1) (y:=mkNd ty A) (c:=A0k eArc A) (wf.nd.resolve_left (by intro h;rw[h]at hgn;simp at hgn)) hgn (by decide) rfl (by cases A<;>rfl)
   rw[hz]at ia st
   refine A0d cv4 ?_
   rw[sw]
   simp -implicitDefEqProofs [f5,ia,st]
   refine⟨.inr rfl,⟨[(4,.t (iv (L.length:Int)))],gzH tt tf ta tb 0 1 3 L' (N'.set L.length (mkNd ty A)) [],4,117⟩,[.t (iv (L.length:Int))],?_,rfl,rfl,rfl,rfl⟩
   exact E9c (fun x=>x) (fun _ _=>rfl) (by omega) (by omega) (wf.set L.length (mkNd ty A)) (fun q hq=>by cases hq) (fun x y _ _ e=>e) (by simp -implicitDefEqProofs [C4p,under])
end
end Go.Proofs.Ytbiadmfmjnoecaa
