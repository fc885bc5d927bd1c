/-
 Auxiliary facts. No statement of the program stands here.
-/
import Derived.Test.YtbiadmfmjnoecaaVRQ27
namespace Go.Proofs.Ytbiadmfmjnoecaa
set_option linter.unusedSimpArgs false
set_option linter.unusedVariables false
open Go Go.Abs
theorem G6a {α:Type} {e:Enc α} {ty:Nat} {H:Heap} {b:Nat} {l:List α} (h:A0j e ty H b l) {F:List Nat} (hF:b∈F):frzP H F (rowP e b l) = .t (A0k e l):=by
 unfold frzP
 rw[h.toT]
 cases l with
 | nil=>simp[B1y]
 | cons x r=>simp[B1y,hF]
theorem G6b {α:Type} (e:Enc α) (ty b:Nat) (l:List α):∃q,agOf [rowP e b l]=q/\A0w q=some [rowP e b l]/\∀H,A0j e ty H b l->toT H q=some (.ag [A0k e l],B1y b l):=by
 refine⟨_,rfl,?_,fun H h=>?_⟩
 ·cases l<;>rfl
 ·have ht:=h.toT
  cases l with
  | nil=>rfl
  | cons x r=>
   show toT H (.ag [rowP e b (x::r)])=_
   simp only[Abs.toT,Abs.toTs,ht]
   simp[B1y]
theorem D3o {t:T} {a b c:Nat} {num ord:List Int} {R:Heap} {x:Nat} (ha:x≠a) (hb:x≠b) (hc:x≠c):Abs.look (B0f t a b c num ord R) x=Abs.look R x:=by
 unfold B0f
 rw[look_cons,if_neg (Ne.symm ha)]
 cases num<;>cases ord<;>simp[rowH,Ne.symm hb,Ne.symm hc]
def rep (n:Nat):List Int:=List.replicate n (-1)
theorem E7o (n:Nat):rep (n+1)=rep n++[-1]:=List.replicate_succ'
def fsR (t:T):Row:=.cells 25 [.t t]
def F1R (t:T) (i:Nat):Heap:=[(0,fsR t),(1,fsR nilS),(2,A6a t 3 7 (rep i) [])]
def F1 (t:T) (root i:Nat):A0b:=⟨[(6,.t (iv (i:Int))),(5,.ptr 2 0),(4,.ptr 1 0),(2,.ptr 0 0),(1,.t (iv (root:Int)))],F1R t i++rowH eInt 3 3 (rep i),8,88⟩
def C5e (t tn to:T):Row:=.cells 138 [.t t,.t tn,.t to]
def K1 (t tn to:T):A0b:=⟨[(5,.ptr 2 0),(4,.ptr 1 0),(2,.ptr 0 0)],[(0,fsR t),(1,fsR nilS),(2,C5e t tn to)],9,88⟩
def outR (b:Nat) (g:List Nd):Row:=.cells 25 [rowP eNd b g]
def R2 (t tn to:T) (g:List Nd):Heap:=[(0,fsR t),(1,fsR nilS),(2,C5e t tn to),(9,outR 10 g)]
def F2 (t tn to:T) (i:Nat) (g:List Nd):A0b:=⟨[(8,.t (iv (i:Int))),(7,.ptr 9 0),(5,.ptr 2 0),(4,.ptr 1 0),(2,.ptr 0 0)],R2 t tn to g++rowH eNd 61 10 g,11,88⟩
def ndR (x:Nd):Row:=.cells 61 [.t (iv x.type),.t x.tree]
def R3 (t tn to:T) (g:List Nd) (x:Nd):Heap:=[(0,fsR t),(1,fsR nilS),(2,C5e t tn to),(9,outR 10 g),(11,ndR x)]
def mixA (num:List Int) (s:List Arc) (k:Nat):List Arc:=(renA num s).take k++s.drop k
def F3 (t tn to:T) (i:Nat) (g:List Nd) (x:Nd) (num:List Int) (k:Nat):A0b:=
 ⟨[(11,.t (iv (k:Int))),(10,rowP eArc 12 (mixA num (A3s x.arcs) k)),(9,.ptr 11 0),(8,.t (iv (i:Int))),(7,.ptr 9 0),(5,.ptr 2 0),(4,.ptr 1 0),(2,.ptr 0 0)],
  R3 t tn to g x++(rowH eNd 61 10 g++rowH eArc 81 12 (mixA num (A3s x.arcs) k)),13,88⟩
def F3m (t tn to tr:T) (i:Nat) (g:List Nd) (x:Nd):A0b:=
 ⟨[(10,.t tr),(9,.ptr 11 0),(8,.t (iv (i:Int))),(7,.ptr 9 0),(5,.ptr 2 0),(4,.ptr 1 0),(2,.ptr 0 0)],R3 t tn to g x++rowH eNd 61 10 g,12,88⟩
theorem D5t (num:List Int) (s:List Arc) {k:Nat} (hk:k<=s.length):(mixA num s k).length=s.length:=by
 have:(renA num s).length=s.length:=by simp[renA]
 simp only[mixA,List.length_append,List.length_take,List.length_drop]
 omega
theorem G8d {num:List Int} {s:List Arc} {k:Nat} {a:Arc} (h:s[k]?=some a):(mixA num s k)[k]?=some a/\(mixA num s k).set k ⟨a.feat,nAt num a.to.toNat⟩=mixA num s (k+1):=by
 have hk:=(List.getElem?_eq_some_iff.1 h).1
 have hl:(renA num s).length=s.length:=by simp[renA]
 have ht:((renA num s).take k).length=k:=by rw[List.length_take];omega
 have hd:s.drop k=a::s.drop (k+1):=by
  rw[List.drop_eq_getElem_cons hk,(List.getElem?_eq_some_iff.1 h).2]
 have hr:(renA num s)[k]?=some ⟨a.feat,nAt num a.to.toNat⟩:=by simp[renA,h]
 constructor
 ·unfold mixA
  rw[List.getElem?_append_right (by omega),ht,hd]
  simp
 ·unfold mixA
  rw[List.set_append_right _ _ (by omega),ht,hd,List.take_add_one,hr]
  simp
set_option maxRecDepth 100000 in
theorem F7s {t:T} {l:List Nd} (ht:IsS eNd t l) (hl:l.length<=100000) (ha:∀x∈l,x.arcs.length<=1000000) (hto:∀x∈l,∀a∈x.arcs,0<=a.to/\a.to<(l.length:Int)) {root:Nat} (hr:root<l.length) :
  A0y Try.prog G 68 [.ag [t],iv (root:Int)] (· = .ag [A0k eNd (A4x l root)]):=by
 have hz:eInt.z=1:=rfl
 have cp:A0w (.t (.ag [t]))=some [.t t]:=rfl
 refine D2h.call rfl ?_
 unfold C2i
 refine A0a cth5 ?_
 simp -implicitDefEqProofs [cp]
 have fl:A5q (fun k=>[(0,1),(1,1),(2,1)][k]?) [.t nilS,.t nilS,.t nilS] [(0,.t (.ag [t]))]=some [.t t,.t nilS,.t nilS]:=rfl
 have ag:agOf [.t t,.t nilS,.t nilS] = .t (.ag [t,nilS,nilS]):=rfl
 have ag0:agOf [.t t] = .t (.ag [t]):=rfl
 have cp3:A0w (.t (.ag [t,nilS,nilS]))=some [.t t,.t nilS,.t nilS]:=rfl
 refine A0a cth5 ?_
 simp -implicitDefEqProofs [A0f,ag0,fl,ag,cp3]
 refine A0s (fun _:Unit=>F1 t root l.length) (fun _=>True) (fun _=>rfl) ?_ ?_
 ·refine A0a cth5 ?_
  simp -implicitDefEqProofs
  refine A0h ?_
  refine A1b (F1 t root) l.length (fun _=>rfl) ?_ rfl ?_ ?_
  ·refine sub_rowR (k:=3) (A0j.nil _ _ _ _) (by omega) (by omega) (fun q hq=>?_) (by simp -implicitDefEqProofs [ren,under])
   simp[F1R]at hq
   rcases hq with rfl | rfl | rfl<;>simp[fsR,A6a,rep,rowP,A2d,renL,ren,A0z,A1z,under]
  ·intro i hi
   have e1:IntKind.i64.wrap ((i:Int)+1)=((i+1:Nat):Int):=A0l (by omega) (by omega)
   have hrl:(rep i).length=i:=by simp[rep]
   obtain⟨H0,hH0⟩:∃H0,H0=F1R t i++rowH eInt 3 3 (rep i):=⟨_,rfl⟩
   have l0:Abs.look H0 0=some (fsR t):=by rw[hH0];rfl
   have l1:Abs.look H0 1=some (fsR nilS):=by rw[hH0];rfl
   have l2:Abs.look H0 2=some (A6a t 3 7 (rep i) []):=by rw[hH0];rfl
   have r3:A0j eInt 3 H0 3 (rep i):=by rw[hH0];exact A0j.right (A0j.head' _ _ _ _) (by simp[F1R])
   have ld0:A0f false 1 H0 (.ptr 0 0)=some (.t t):=by simp[A0f,l0,fsR]
   have ld1:A0f false 1 H0 (.ptr 2 1)=some (rowP eInt 3 (rep i)):=by simp[A0f,l2,A6a]
   have bs:A1p 3 1 [.int .i64 0] 1 [(0,.t (iv (-1)))] 8=some (.row 8 0 1 1,.cells 3 ((eInt.enc (-1)).map .t)):=rfl
   obtain⟨b2,H2,n2,ap2,r2,ne2,le2,lk2,ge2⟩:=A1k (e:=eInt) (ty:=3) (by':=8) (nx:=9) (m:=[(-1:Int)]) (r3.cons (k:=8) (r:=.cells 3 ((eInt.enc (-1)).map .t)) (by omega)) (A3r (b:=8) (ty:=3) (-1) (by simp)) (by simp;omega) (by simp;omega)
   rw[hz,<-E7o]at ap2
   rw[<-E7o]at r2
   have m0:Abs.look H2 0=some (fsR t):=by rw[lk2 0 (by omega) (by omega),look_cons,if_neg (by omega)];exact l0
   have m1:Abs.look H2 1=some (fsR nilS):=by rw[lk2 1 (by omega) (by omega),look_cons,if_neg (by omega)];exact l1
   have m2:Abs.look H2 2=some (A6a t 3 7 (rep i) []):=by rw[lk2 2 (by omega) (by omega),look_cons,if_neg (by omega)];exact l2
   have st2:A1e 1 H2 (.ptr 2 1) (rowP eInt b2 (rep (i+1)))=some (upd H2 2 (A6a t b2 7 (rep (i+1)) [])):=by
    simp only[A1e,B0z,m2,A6a]
    rfl
   have r4:A0j eInt 3 (upd H2 2 (A6a t b2 7 (rep (i+1)) [])) b2 (rep (i+1)):=r2.imp id fun h=>by rw[A0u,if_neg (by omega)];exact h
   refine A0d cth5 ?_
   unfold F1
   rw[<-hH0]
   simp -implicitDefEqProofs [hi,ht.len,ld0,ld1,bs,ap2,st2,e1]
   refine sub_rowR (k:=b2) r4 (by omega) (by omega) (fun q hq=>?_) (by simp -implicitDefEqProofs [ren,under])
   simp only[F1R,List.mem_cons,List.not_mem_nil,or_false]at hq
   rcases hq with rfl | rfl | rfl
   ·exact⟨by rw[A0u,if_neg (by omega),m0];rfl,by omega,by omega,by show 0≠b2;omega,rfl⟩
   ·exact⟨by rw[A0u,if_neg (by omega),m1];rfl,by omega,by omega,by show 1≠b2;omega,rfl⟩
   ·exact⟨by rw[A0u,if_pos rfl,m2,A9p];rfl,by omega,by omega,by show 2≠b2;omega,A7g _ _ _ (by omega) (by omega)⟩
  ·refine A0d cth5 ?_
   have ld0:A0f false 1 (F1R t l.length++rowH eInt 3 3 (rep l.length)) (.ptr 0 0)=some (.t t):=rfl
   unfold F1
   simp -implicitDefEqProofs [ht.len,ld0]
   exact Next.mk () trivial (A7w (by simp -implicitDefEqProofs))
 ·rintro _ -
  obtain⟨H0,hH0⟩:∃H0,H0=F1R t l.length++rowH eInt 3 3 (rep l.length):=⟨_,rfl⟩
  have l0:Abs.look H0 0=some (fsR t):=by rw[hH0];rfl
  have l1:Abs.look H0 1=some (fsR nilS):=by rw[hH0];rfl
  have l2:Abs.look H0 2=some (A6a t 3 7 (rep l.length) []):=by rw[hH0];rfl
  have r3:A0j eInt 3 H0 3 (rep l.length):=by rw[hH0];exact A0j.right (A0j.head' _ _ _ _) (by simp[F1R])
  have w0:Walk t 2 3 7 (rep l.length) [] H0:=⟨l2,r3,A0j.nil _ _ _ _,by omega,by omega,by omega⟩
  have hneg:nAt (rep l.length) root<0:=by unfold rep;rw[E4a hr];omega
  have vc:=D8s (D3m ht hl ha hto l.length root (rep l.length) [] (G5z l) hneg (by unfold rep;rw[E7k];exact Nat.le_refl _)) w0 (NX:=8) (by omega) (by omega) (by omega)
  obtain⟨st,hst⟩:∃st,st=visA l root:=⟨_,rfl⟩
  have e:visF l l.length root (rep l.length,[])=st:=hst.symm
  rw[e]at vc
  obtain⟨H1,hH1⟩:∃H1,H1=B0f t 2 3 8 st.1 st.2 (rem (rem (rem H0 2) 3) 7):=⟨_,rfl⟩
  have w1:Walk t 2 3 8 st.1 st.2 H1:=by rw[hH1];exact Walk.mk' _ _ _ _ (by omega) (by omega) (by omega)
  have k0:Abs.look H1 0=some (fsR t):=by
   rw[hH1,D3o (by omega) (by omega) (by omega),A1m,if_neg (by omega),A1m,if_neg (by omega),A1m,if_neg (by omega)]
   exact l0
  have k1:Abs.look H1 1=some (fsR nilS):=by
   rw[hH1,D3o (by omega) (by omega) (by omega),A1m,if_neg (by omega),A1m,if_neg (by omega),A1m,if_neg (by omega)]
   exact l1
  rw[<-hH1]at vc
  have cv:Ctx Try.prog G (orh [] [(91,hOne [.ptr 2 0,.t (iv (root:Int))] H0 8 (.t (.tu []),H1,8+1))]):=by
   refine A1t.nil.ctxH (A8b.cons (hOne_ok vc fun hf b y hb=>?_) .nil) A1u
   rw[hH1]at hb
   rcases A7m (A0p hb)with e | ⟨_,e⟩ | ⟨_,e⟩ | hq
   ·injection e with e _;omega
   ·injection e with e _;omega
   ·injection e with e _;omega
   ·have:=A6j (A6j (A6j hq))
    rw[hH0]at this
    rcases List.mem_append.1 this with hq | hq
    ·simp only[F1R,List.mem_cons,List.not_mem_nil,or_false,Prod.mk.injEq]at hq
     rcases hq with⟨e,_⟩ | ⟨e,_⟩ | ⟨e,_⟩<;>omega
    ·obtain⟨_,e⟩:=A1j hq
     injection e with e _;omega
  refine A0a cv ?_
  unfold F1
  rw[<-hH0]
  simp -implicitDefEqProofs [hOne_eq]
  obtain⟨tn,htn⟩:∃tn,tn=A0k eInt st.1:=⟨_,rfl⟩
  obtain⟨to,hto'⟩:∃to,to=A0k eInt st.2:=⟨_,rfl⟩
  have hN:IsS eInt tn st.1:=htn▸IsS.tree _ _
  have hO:IsS eInt to st.2:=hto'▸IsS.tree _ _
  refine MC.sub (s':=K1 t tn to) ?_ rfl ?_
  ·refine(B0e [3,8]).trans ?_
   unfold K1 A0b.frz
   have fz:∀(x:Nat) (r r':Row),x≠3->x≠8->Abs.look H1 x=some r->A4f H1 [3,8] r=r'->Abs.look ((remAll H1 [3,8]).map fun q=>(q.1,A4f H1 [3,8] q.2)) x=some r':=by
    intro x r r' h3 h8 hx e
    have:Abs.look (remAll H1 [3,8]) x=some r:=by
     show Abs.look (rem (rem H1 3) 8) x=_
     rw[A1m,if_neg h8,A1m,if_neg h3,hx]
    rw[A5v,this,<-e]
    rfl
   refine A0c rfl rfl ?_ ?_
   ·simp -implicitDefEqProofs [D5q]
   ·intro q hq
    simp only[List.mem_cons,List.not_mem_nil,or_false]at hq
    rcases hq with rfl | rfl | rfl
    ·exact fz 0 _ _ (by omega) (by omega) k0 (by simp[fsR,A4f,B8t])
    ·exact fz 1 _ _ (by omega) (by omega) k1 (by simp[fsR,A4f,B8t])
    ·refine fz 2 _ _ (by omega) (by omega) w1.walk ?_
     simp only[A6a,C5e,A4f,List.map_cons,List.map_nil,B8t,G6a w1.num (F:=[3,8]) (by simp),G6a w1.ord (F:=[3,8]) (by simp),<-htn,<-hto']
  ·obtain⟨hvi,hvj⟩:=E4b hto hr
   rw[<-hst]at hvi hvj
   have hzN:eNd.z=2:=rfl
   have hzA:eArc.z=2:=rfl
   obtain⟨gs,hgs⟩:∃gs,gs=A4x l root:=⟨_,rfl⟩
   have hgl:gs.length=st.2.length:=by rw[hgs,hst];simp[A4x]
   have hol:st.2.length<=l.length:=by have:=hvi.sum;omega
   refine A0a cth5 ?_
   simp -implicitDefEqProofs [K1]
   refine A0s (fun _:Unit=>F2 t tn to st.2.length gs) (fun _=>True) (fun _=>rfl) ?_ ?_
   ·refine A0a cth5 ?_
    simp -implicitDefEqProofs
    refine A0h ?_
    refine A1b (fun i=>F2 t tn to i (gs.take i)) st.2.length (fun _=>rfl) ?_ rfl ?_ ?_
    ·refine sub_rowR (k:=10) (A0j.nil _ _ _ _) (by omega) (by omega) (fun q hq=>?_) (by simp -implicitDefEqProofs [ren,under])
     simp only[R2,List.mem_cons,List.not_mem_nil,or_false]at hq
     rcases hq with rfl | rfl | rfl | rfl<;>simp[fsR,C5e,outR,rowP,A2d,renL,ren,A0z,A1z,under]
    ·intro i hi
     obtain⟨n,hn⟩:∃n,st.2[i]?=some n:=⟨_,List.getElem?_eq_getElem hi⟩
     obtain⟨hn0,hnl,_⟩:=hvj.at' i n hn
     obtain⟨m,hm⟩:∃m:Nat,n=(m:Int):=⟨n.toNat,by omega⟩
     obtain⟨x,hx⟩:∃x,l[m]?=some x:=⟨_,List.getElem?_eq_getElem (by omega)⟩
     have hxm:=List.mem_of_getElem? hx
     have hxa:=ha x hxm
     have hnext:gs.take (i+1)=gs.take i++[C3g st.1 x]:=by
      have:gs[i]?=some (C3g st.1 x):=by
       rw[hgs]
       unfold A4x
       rw[<-hst,List.getElem?_map,hn]
       simp[ndAt,hm,hx]
      rw[List.take_add_one,this]
      rfl
     have e1:IntKind.i64.wrap ((i:Int)+1)=((i+1:Nat):Int):=A0l (by omega) (by omega)
     rw[hnext]
     have htl:(gs.take i).length<=i:=by rw[List.length_take];omega
     obtain⟨g,hg⟩:∃g,g=gs.take i:=⟨_,rfl⟩
     rw[<-hg]at htl ⊢
     obtain⟨sa,hsa⟩:∃sa,sa=A3s x.arcs:=⟨_,rfl⟩
     have hsl:sa.length=x.arcs.length:=by rw[hsa];exact C7i _
     obtain⟨tr,htr⟩:∃tr,tr=A0k eArc (renA st.1 sa):=⟨_,rfl⟩
     obtain⟨H0,hH0⟩:∃H0,H0=R2 t tn to g++rowH eNd 61 10 g:=⟨_,rfl⟩
     have l0:Abs.look H0 0=some (fsR t):=by rw[hH0];rfl
     have l1:Abs.look H0 1=some (fsR nilS):=by rw[hH0];rfl
     have l2:Abs.look H0 2=some (C5e t tn to):=by rw[hH0];rfl
     have l9:Abs.look H0 9=some (outR 10 g):=by rw[hH0];rfl
     have r10:A0j eNd 61 H0 10 g:=by rw[hH0];exact A0j.right (A0j.head' _ _ _ _) (by simp[R2])
     have ld0:A0f false 1 H0 (.ptr 0 0)=some (.t t):=by simp[A0f,l0,fsR]
     have ld2:A0f false 1 H0 (.ptr 2 2)=some (.t to):=by simp[A0f,l2,C5e]
     have io:A1q 1 (.t to) (.t (iv (i:Int)))=some (.t (.pt (iv (m:Int)::rest eInt st.2 i))):=by rw[<-hm];exact hO.iaddr hn .i64
     have ix:=B6m ht hx
     have lp:∀c cs,A0f false 1 H0 (.t (.pt (c::cs)))=some (.t c):=fun _ _=>rfl
     have la:∀cs,A0f true 2 H0 (.t (.pt (iv x.type::x.tree::cs)))=some (.t (.ag [iv x.type,x.tree])):=fun cs=>by simp[A0f]
     have cx:A0w (.t (.ag [iv x.type,x.tree]))=some [.t (iv x.type),.t x.tree]:=rfl
     refine A0a cth5 ?_
     simp -implicitDefEqProofs [F2,<-hH0,hi,ld2,hO.len]
     refine A0s (fun _:Unit=>F2 t tn to i (g++[C3g st.1 x])) (fun _=>True) (fun _=>rfl) ?_ ?_
     ·refine A0h ?_
      refine A0a cth5 ?_
      simp -implicitDefEqProofs [ld0,ld2,io,lp,ix,la,A1e,cx,A1y]
      have hso:=D2m x.ok hxa ((11,ndR x)::H0) 12
      rw[<-hsa]at hso
      unfold ndR at hso
      refine A0a cth5 ?_
      simp -implicitDefEqProofs [A0f,hw5,hso]
      refine A0s (fun _:Unit=>F3m t tn to tr i g x) (fun _=>True) (fun _=>rfl) ?_ ?_
      ·refine A0a cth5 ?_
       simp -implicitDefEqProofs
       refine A0h ?_
       refine A1b (F3 t tn to i g x st.1) sa.length (fun _=>rfl) ?_ rfl ?_ ?_
       ·have m0:mixA st.1 sa 0=sa:=by simp[mixA]
        unfold F3
        rw[<-hsa,m0]
        have h12:A0j eArc 81 (rowH eArc 81 12 sa++((11,ndR x)::H0)) 12 sa:=A0j.head _ _ _ _ _
        have h10:A0j eNd 61 (rowH eArc 81 12 sa++((11,ndR x)::H0)) 10 g:=(r10.cons (by omega)).left (by omega)
        have lk:∀c,c≠12->Abs.look (rowH eArc 81 12 sa++((11,ndR x)::H0)) c=Abs.look ((11,ndR x)::H0) c:=by
         intro c hc
         cases sa with
         | nil=>rfl
         | cons y r=>simp[rowH,Ne.symm hc]
        refine C0w (k:=12) h12 h10 (by omega) (by omega) (by omega) (by omega) (by omega) (fun q hq=>?_) (by simp -implicitDefEqProofs [A0g,A0e,ren,under])
        simp only[R3,List.mem_cons,List.not_mem_nil,or_false]at hq
        rcases hq with rfl | rfl | rfl | rfl | rfl
        ·exact⟨(lk 0 (by omega)).trans (by rw[look_cons,if_neg (by omega),l0];rfl),by omega,by omega,by omega,rfl⟩
        ·exact⟨(lk 1 (by omega)).trans (by rw[look_cons,if_neg (by omega),l1];rfl),by omega,by omega,by omega,rfl⟩
        ·exact⟨(lk 2 (by omega)).trans (by rw[look_cons,if_neg (by omega),l2];rfl),by omega,by omega,by omega,rfl⟩
        ·exact⟨(lk 9 (by omega)).trans (by rw[look_cons,if_neg (by omega),l9];simp[outR,A2d,renL,A0g]),by omega,by omega,by omega,by simp[outR,A0z,A1z,A0e]⟩
        ·exact⟨(lk 11 (by omega)).trans (by rw[look_cons,if_pos rfl];rfl),by omega,by omega,by omega,rfl⟩
       ·intro k hk
        obtain⟨a,hak⟩:∃a,sa[k]?=some a:=⟨_,List.getElem?_eq_getElem hk⟩
        have ham:a∈x.arcs:=B3z.1 (by rw[<-hsa];exact List.mem_of_getElem? hak)
        obtain⟨h0,h1⟩:=hto x hxm a ham
        obtain⟨m',hm'⟩:∃m':Nat,a.to=(m':Int):=⟨a.to.toNat,by omega⟩
        have e2:IntKind.i64.wrap ((k:Int)+1)=((k+1:Nat):Int):=A0l (by omega) (by omega)
        obtain⟨hmk,hset⟩:=G8d (num:=st.1) hak
        have hgm:st.1[m']?=some (nAt st.1 m'):=by
         unfold nAt
         rw[List.getD_eq_getElem?_getD,List.getElem?_eq_getElem (by rw[hvi.len];omega)]
         rfl
        have iN:A1q 1 (.t tn) (.t (iv (m':Int)))=some (.t (.pt (iv (nAt st.1 m')::rest eInt st.1 m'))):=hN.iaddr hgm .i64
        have hto2:a.to.toNat=m':=by omega
        rw[hto2]at hset
        obtain⟨mx,hmx⟩:∃mx,mx=mixA st.1 sa k:=⟨_,rfl⟩
        have hmxl:mx.length=sa.length:=by rw[hmx];exact D5t _ _ (by omega)
        rw[<-hmx]at hmk hset
        obtain⟨Hk,hHk⟩:∃Hk,Hk=R3 t tn to g x++(rowH eNd 61 10 g++rowH eArc 81 12 mx):=⟨_,rfl⟩
        have q0:Abs.look Hk 0=some (fsR t):=by rw[hHk];rfl
        have q1:Abs.look Hk 1=some (fsR nilS):=by rw[hHk];rfl
        have q2:Abs.look Hk 2=some (C5e t tn to):=by rw[hHk];rfl
        have q9:Abs.look Hk 9=some (outR 10 g):=by rw[hHk];rfl
        have q11:Abs.look Hk 11=some (ndR x):=by rw[hHk];rfl
        have hR10:∀q∈rowH eNd 61 10 g,q.1≠12:=fun q hq=>by obtain⟨_,rfl⟩:=A1j hq;show 10≠12;omega
        have q12:A0j eArc 81 Hk 12 mx:=by
         rw[hHk,<-List.append_assoc]
         refine A0j.right (A0j.head' _ _ _ _) (fun q hq=>?_)
         rcases List.mem_append.1 hq with hq | hq
         ·simp only[R3,List.mem_cons,List.not_mem_nil,or_false]at hq
          rcases hq with rfl | rfl | rfl | rfl | rfl<;>simp
         ·exact hR10 q hq
        have q10:A0j eNd 61 Hk 10 g:=by
         rw[hHk]
         exact A0j.right (A0j.head _ _ _ _ _) (by simp[R3])
        have ld:A0f false 1 Hk (.ptr 2 1)=some (.t tn):=by simp[A0f,q2,C5e]
        have lp:∀c cs,A0f false 1 Hk (.t (.pt (c::cs)))=some (.t c):=fun _ _=>rfl
        have ic:=A1r (e:=eArc) (b:=12) hmk .i64
        have ly:=q12.load (off:=1) (c:=iv (m':Int)) hmk (by rw[<-hm'];rfl)
        have q12':Abs.look Hk 12=some (A1g eArc 81 mx):=q12.resolve_left (fun h=>by rw[h]at hmxl;simp at hmxl;omega)
        have sto:=B0y (e:=eArc) (off:=1) (y:=⟨a.feat,nAt st.1 m'⟩) (c:=iv (nAt st.1 m')) q12' hmk (by decide) rfl rfl
        rw[hset]at sto
        rw[hzA]at ic ly sto
        have hrow:rowP eArc 12 mx=rowP eArc 12 (mixA st.1 sa (k+1)):=D5r _ _ (by rw[hmxl,D5t _ _ (by omega)])
        have hml:(mixA st.1 sa k).length=sa.length:=D5t _ _ (by omega)
        refine A0d cth5 ?_
        unfold F3
        rw[<-hsa,<-hmx,<-hHk]
        simp -implicitDefEqProofs [hk,hmxl,A2f,ld,lp,ic,ly,iN,sto,e2]
        have h12:A0j eArc 81 (upd Hk 12 (A1g eArc 81 (mixA st.1 sa (k+1)))) 12 (mixA st.1 sa (k+1)):=.inr (by rw[A0u,if_pos rfl,q12'];rfl)
        have h10:A0j eNd 61 (upd Hk 12 (A1g eArc 81 (mixA st.1 sa (k+1)))) 10 g:=q10.imp id fun h=>by rw[A0u,if_neg (by omega)];exact h
        refine C0w (k:=12) (b:=12) (nx':=13) h12 h10 (by omega) (by omega) (by omega) (by omega) (by omega) (fun q hq=>?_) (by simp -implicitDefEqProofs [A0g,A0e,ren,under,hrow])
        simp only[R3,List.mem_cons,List.not_mem_nil,or_false]at hq
        rcases hq with rfl | rfl | rfl | rfl | rfl
        ·exact⟨by rw[A0u,if_neg (by omega),q0];rfl,by omega,by omega,by omega,rfl⟩
        ·exact⟨by rw[A0u,if_neg (by omega),q1];rfl,by omega,by omega,by omega,rfl⟩
        ·exact⟨by rw[A0u,if_neg (by omega),q2];rfl,by omega,by omega,by omega,rfl⟩
        ·exact⟨by rw[A0u,if_neg (by omega),q9];simp[outR,A2d,renL,A0g],by omega,by omega,by omega,by simp[outR,A0z,A1z,A0e]⟩
        ·exact⟨by rw[A0u,if_neg (by omega),q11];rfl,by omega,by omega,by omega,rfl⟩
       ·have hmE:mixA st.1 sa sa.length=renA st.1 sa:=by
         have:(renA st.1 sa).length=sa.length:=by simp[renA]
         unfold mixA
         rw[List.drop_length,List.append_nil,<-this,List.take_length]
        have hRl:(renA st.1 sa).length=sa.length:=by simp[renA]
        refine A0d cth5 ?_
        unfold F3
        rw[<-hsa,hmE]
        obtain⟨Hk,hHk⟩:∃Hk,Hk=R3 t tn to g x++(rowH eNd 61 10 g++rowH eArc 81 12 (renA st.1 sa)):=⟨_,rfl⟩
        have hR10:∀q∈rowH eNd 61 10 g,q.1≠12:=fun q hq=>by obtain⟨_,rfl⟩:=A1j hq;show 10≠12;omega
        have q12:A0j eArc 81 Hk 12 (renA st.1 sa):=by
         rw[hHk,<-List.append_assoc]
         refine A0j.right (A0j.head' _ _ _ _) (fun q hq=>?_)
         rcases List.mem_append.1 hq with hq | hq
         ·simp only[R3,List.mem_cons,List.not_mem_nil,or_false]at hq
          rcases hq with rfl | rfl | rfl | rfl | rfl<;>simp
         ·exact hR10 q hq
        have q10:A0j eNd 61 Hk 10 g:=by
         rw[hHk]
         exact A0j.right (A0j.head _ _ _ _ _) (by simp[R3])
        have fz:∀(c:Nat) (r r':Row),c≠12->Abs.look Hk c=some r->A4f Hk [12] r=r'->Abs.look ((remAll Hk [12]).map fun q=>(q.1,A4f Hk [12] q.2)) c=some r':=by
         intro c r r' hc hx e
         have:Abs.look (remAll Hk [12]) c=some r:=by
          show Abs.look (rem Hk 12) c=_
          rw[A1m,if_neg hc,hx]
         rw[A5v,this,<-e]
         rfl
        rw[<-hHk]
        simp -implicitDefEqProofs [A2f,hRl]
        refine Next.mk () trivial ((B0e [12]).trans ?_)
        unfold F3m A0b.frz
        refine sub_rowR (k:=10) (A0j.frz q10 (c:=12) (by omega)) (by omega) (by omega) (fun q hq=>?_) ?_
        ·simp only[R3,List.mem_cons,List.not_mem_nil,or_false]at hq
         rcases hq with rfl | rfl | rfl | rfl | rfl
         ·exact⟨fz 0 (fsR t) _ (by omega) (by rw[hHk];rfl) (by simp[fsR,A4f,B8t,A2d,renL,ren]),by omega,by omega,by omega,rfl⟩
         ·exact⟨fz 1 (fsR nilS) _ (by omega) (by rw[hHk];rfl) (by simp[fsR,A4f,B8t,A2d,renL,ren]),by omega,by omega,by omega,rfl⟩
         ·exact⟨fz 2 (C5e t tn to) _ (by omega) (by rw[hHk];rfl) (by simp[C5e,A4f,B8t,A2d,renL,ren]),by omega,by omega,by omega,rfl⟩
         ·exact⟨fz 9 (outR 10 g) _ (by omega) (by rw[hHk];rfl) (by simp[outR,A4f,B4t q10 (c:=12) (by omega),A2d,renL,A0g]),by omega,by omega,by omega,by simp[outR,A0z,A1z,A0e]⟩
         ·exact⟨fz 11 (ndR x) _ (by omega) (by rw[hHk];rfl) (by simp[ndR,A4f,B8t,A2d,renL,ren]),by omega,by omega,by omega,rfl⟩
        ·simp -implicitDefEqProofs [C8q q12,B8t,D5q,ren,under,<-htr]
      ·rintro _ -
       obtain⟨Hm,hHm⟩:∃Hm,Hm=R3 t tn to g x++rowH eNd 61 10 g:=⟨_,rfl⟩
       have q0:Abs.look Hm 0=some (fsR t):=by rw[hHm];rfl
       have q1:Abs.look Hm 1=some (fsR nilS):=by rw[hHm];rfl
       have q2:Abs.look Hm 2=some (C5e t tn to):=by rw[hHm];rfl
       have q9:Abs.look Hm 9=some (outR 10 g):=by rw[hHm];rfl
       have q11:Abs.look Hm 11=some (ndR x):=by rw[hHm];rfl
       have q10:A0j eNd 61 Hm 10 g:=by
        rw[hHm]
        exact A0j.right (A0j.head' _ _ _ _) (by simp[R3])
       have ld9:A0f false 1 Hm (.ptr 9 0)=some (rowP eNd 10 g):=by simp[A0f,q9,outR]
       have ld11:A0f false 1 Hm (.ptr 11 0)=some (.t (iv x.type)):=by simp[A0f,q11,ndR]
       have fl:A5q (fun k=>[(0,1),(1,1)][k]?) [.t (.v (.int .i64 0)),.t nilS] [(0,.t (iv x.type)),(1,.t tr)]=some [.t (iv x.type),.t tr]:=by
        rw[htr]
        cases renA st.1 sa<;>rfl
       have ag:agOf [.t (iv x.type),.t tr] = .t (.ag [iv x.type,tr]):=rfl
       have hen:eNd.enc (C3g st.1 x)=[iv x.type,tr]:=by rw[htr,hsa];rfl
       have bs:A1p 61 2 [.int .i64 0,.slice none 0 0] 1 [(0,.t (.ag [iv x.type,tr]))] 12=some (.row 12 0 1 2,.cells 61 ((eNd.enc (C3g st.1 x)).map .t)):=by
        rw[hen,htr]
        cases renA st.1 sa<;>rfl
       obtain⟨b2,H2,n2,ap2,r2,ne2,le2,lk2,ge2⟩:=A1k (e:=eNd) (ty:=61) (by':=32) (nx:=13) (m:=[C3g st.1 x]) (q10.cons (k:=12) (r:=.cells 61 ((eNd.enc (C3g st.1 x)).map .t)) (by omega)) (A3r (b:=12) (ty:=61) (C3g st.1 x) (by simp)) (by simp;omega) (by simp;omega)
       rw[hzN]at ap2
       have m9:Abs.look H2 9=some (outR 10 g):=by rw[lk2 9 (by omega) (by omega),look_cons,if_neg (by omega)];exact q9
       have sto:A1e 1 H2 (.ptr 9 0) (rowP eNd b2 (g++[C3g st.1 x]))=some (upd H2 9 (outR b2 (g++[C3g st.1 x]))):=by
        simp only[A1e,B0z,m9,outR]
        rfl
       refine A0d cth5 ?_
       simp -implicitDefEqProofs [F3m,<-hHm,ld9,ld11,fl,ag,bs,ap2,sto]
       refine Next.mk () trivial ?_
       refine sub_rowR (k:=b2) (r2.imp id fun h=>by rw[A0u,if_neg (by omega)];exact h) (by omega) (by omega) (fun q hq=>?_) (by simp -implicitDefEqProofs [ren,under])
       simp only[R2,List.mem_cons,List.not_mem_nil,or_false]at hq
       rcases hq with rfl | rfl | rfl | rfl
       ·exact⟨by rw[A0u,if_neg (by omega),lk2 0 (by omega) (by omega),look_cons,if_neg (by omega),q0];rfl,by omega,by omega,by show 0≠b2;omega,rfl⟩
       ·exact⟨by rw[A0u,if_neg (by omega),lk2 1 (by omega) (by omega),look_cons,if_neg (by omega),q1];rfl,by omega,by omega,by show 1≠b2;omega,rfl⟩
       ·exact⟨by rw[A0u,if_neg (by omega),lk2 2 (by omega) (by omega),look_cons,if_neg (by omega),q2];rfl,by omega,by omega,by show 2≠b2;omega,rfl⟩
       ·exact⟨by rw[A0u,if_pos rfl,m9];simp[outR,A2d,renL,A0g],by omega,by omega,by show 9≠b2;omega,by simp[outR,A0z,A1z,A0e]⟩
     ·rintro _ -
      refine A0d cth5 ?_
      simp -implicitDefEqProofs [F2,e1]
      exact A7w (by simp -implicitDefEqProofs)
    ·refine A0d cth5 ?_
     have ld2:∀g,A0f false 1 (R2 t tn to g++rowH eNd 61 10 g) (.ptr 2 2)=some (.t to):=fun _=>rfl
     have htk:gs.take st.2.length=gs:=by rw[<-hgl,List.take_length]
     simp -implicitDefEqProofs [F2,ld2,hO.len,htk]
     exact Next.mk () trivial (A7w (by simp -implicitDefEqProofs))
   ·rintro _ -
    obtain⟨q,hq1,hq2,hq3⟩:=G6b eNd 61 10 gs
    obtain⟨H0,hH0⟩:∃H0,H0=R2 t tn to gs++rowH eNd 61 10 gs:=⟨_,rfl⟩
    have l1:Abs.look H0 1=some (fsR nilS):=by rw[hH0];rfl
    have l9:Abs.look H0 9=some (outR 10 gs):=by rw[hH0];rfl
    have r10:A0j eNd 61 H0 10 gs:=by rw[hH0];exact A0j.right (A0j.head' _ _ _ _) (by simp[R2])
    have ld:A0f true 1 H0 (.ptr 9 0)=some q:=by simp[A0f,l9,outR,hq1]
    have sto:A1e 1 H0 (.ptr 1 0) q=some (upd H0 1 (outR 10 gs)):=by
     simp only[A1e,hq2,l1,fsR]
     rfl
    have l1':Abs.look (upd H0 1 (outR 10 gs)) 1=some (outR 10 gs):=by rw[A0u,if_pos rfl,l1];rfl
    have ld':A0f true 1 (upd H0 1 (outR 10 gs)) (.ptr 1 0)=some q:=by
     simp only[A0f,l1']
     simp[outR,hq1]
    have tt:=hq3 (upd H0 1 (outR 10 gs)) (r10.imp id fun h=>by rw[A0u,if_neg (by omega)];exact h)
    refine A0d cth5 ?_
    rw[<-hgs]
    simp -implicitDefEqProofs [F2,<-hH0,ld,sto,ld',tt]
noncomputable def G3l:List T->Option T:=g2 tFS tInt fun l n=>open Classical in if A3g l/\(∀x∈l,∀a∈x.arcs,0<=a.to/\a.to<(l.length:Int))/\0<=n/\n<(l.length:Int)then some (.ag [A0k eNd (A4x l n.toNat)])else none
theorem G3m:GOK Try.prog G 68 G3l:=A6w fun a b x y r ha hb hr=>by
 obtain⟨u,rfl,hu⟩:=ha
 obtain rfl:b=iv y:=hb
 split at hr
 ·rename_i h
  injection hr with hr
  subst hr
  obtain⟨h1,h2,h3,h4⟩:=h
  have e:y=(y.toNat:Int):=by omega
  have:=F7s hu h1.len h1.arcs h2 (root:=y.toNat) (by omega)
  rw[<-e]at this
  exact this
 ·cases hr
theorem G3n {t:T} {l:List Nd} (ht:IsS eNd t l) (h:A3g l) (hto:∀x∈l,∀a∈x.arcs,0<=a.to/\a.to<(l.length:Int)) {n:Nat} (hn:n<l.length):G3l [.ag [t],iv (n:Int)]=some (.ag [A0k eNd (A4x l n)]):=
 (A5y (τ:=tFS) (σ:=tInt) ⟨t,rfl,ht⟩ rfl).trans (if_pos ⟨h,hto,by omega,by omega⟩)
noncomputable def B4w (l:List Nd):T:=if A9k l≠0 then .tu [.ag [nilS],iv (A9k l)]else .tu [.ag [A0k eNd (A4x l 0)],iv 0]
noncomputable def tw10:Tbl:=[(110,F5n),(68,G3l)]
theorem ctw10:Ctx Try.prog G (orc tw10):=(A1t.cons G2e (.cons G3m .nil)).ctx A1u
theorem F2l {t:T} {l:List Nd} (ht:IsS eNd t l) (h:A3g l):A0y Try.prog G 80 [.ag [t]] (· = B4w l):=by
 have cp:A0w (.t (.ag [t]))=some [.t t]:=rfl
 have ag:agOf [.t t] = .t (.ag [t]):=rfl
 have gf:=G2f ht h.arcs
 refine C7a.runs ctw10 rfl ?_
 by_cases hE:A9k l=0
 ·have hF:=C7h hE
  rw[hE]at gf
  have gr:=G3n ht h hF.to (n:=0) hF.pos
  obtain⟨g,hg⟩:∃g,g=A0k eNd (A4x l 0):=⟨_,rfl⟩
  have hres:B4w l = .tu [.ag [g],iv 0]:=by unfold B4w;rw[if_neg (by rw[hE];simp),hg]
  rw[<-hg]at gr
  have gr:G3l [.ag [t],.v (.int .i64 0)]=some (.ag [g]):=gr
  have cg:A0w (.t (.ag [g]))=some [.t g]:=rfl
  have ag':agOf [.t g] = .t (.ag [g]):=rfl
  simp -implicitDefEqProofs [B2b,cp,A0f,A1e,A1y,ag,ag',cg,tw10,gf,gr,hres]
 ·have hE':=A7h hE
  have hres:B4w l = .tu [.ag [nilS],iv (A9k l)]:=by unfold B4w;rw[if_pos hE]
  have fl:A5q (fun k=>[(0,1)][k]?) [.t nilS] []=some [.t nilS]:=rfl
  have ag':agOf [.t nilS] = .t (.ag [nilS]):=rfl
  have cg:A0w (.t (.ag [nilS]))=some [.t nilS]:=rfl
  simp -implicitDefEqProofs [B2b,cp,A0f,A1e,A1y,ag,ag',cg,fl,tw10,gf,hE,hE',hres]
noncomputable def F7t:List T->Option T:=g1 tFS fun l=>open Classical in if A3g l then some (B4w l)else none
theorem F7u:GOK Try.prog G 80 F7t:=C4w fun a x r ha hr=>by
 obtain⟨u,rfl,hu⟩:=ha
 split at hr
 ·rename_i h;injection hr with hr;subst hr;exact F2l hu h
 ·cases hr
theorem F7v {t:T} {l:List Nd} (ht:IsS eNd t l) (h:A3g l):F7t [.ag [t]]=some (B4w l):=
 (C4x (τ:=tFS) ⟨t,rfl,ht⟩).trans (if_pos h)
theorem F2m {l:List Nd} (h:A3g l) (hto:∀x∈l,∀a∈x.arcs,0<=a.to/\a.to<(l.length:Int)) {n:Nat} (hn:n<l.length):A3g (A4x l n):=by
 obtain⟨hvi,hvj⟩:=E4b hto hn
 have h1:=hvi.sum
 have hl:=h.len
 refine⟨by simp only[A4x,List.length_map];omega,fun x hx=>?_⟩
 unfold A4x at hx
 obtain⟨m,hm,rfl⟩:=List.mem_map.1 hx
 show(renA _ (A3s _)).length<=_
 simp only[renA,List.length_map,C7i]
 obtain⟨j,hj,e⟩:=List.getElem_of_mem hm
 obtain⟨h2,h3,_⟩:=hvj.at' j m (by rw[List.getElem?_eq_getElem hj,e])
 have hm':m.toNat<l.length:=by omega
 unfold ndAt
 rw[List.getElem?_eq_getElem hm']
 exact h.arcs _ (List.getElem_mem hm')
def rngA (nf:Nat) (x:Nd) (k:Nat):Int:=match x.arcs[k]? with
 | some a=>if(nf:Int)<=a.feat then 2 else 0
 | none=>0
def rngE (nt nf:Nat) (l:List Nd) (i:Nat):Int:=match l[i]? with
 | some x=>if(nt:Int)<=x.type then 2 else fst (rngA nf x) x.arcs.length
 | none=>0
def A7b (nt nf:Nat) (l:List Nd):Int:=if A9k l≠0 then A9k l else if fst (rngE nt nf l) l.length≠0 then fst (rngE nt nf l) l.length else if eqE l (A4x l 0)then 0 else 3
noncomputable def F7w:Tbl:=[(80,F7t),(33,E4c)]
theorem A4y:Ctx Try.prog G (orc F7w):=(A1t.cons F7u (.cons F2j .nil)).ctx A1u
def R48 (tt tf t g:T):Heap:=[(0,.cells 29 [.t tt,.t tf]),(1,.cells 25 [.t t]),(2,.cells 25 [.t g])]
def S48 (tt tf t g:T) (i:Nat):A0b:=⟨[(7,.t (iv (i:Int))),(5,.ptr 2 0),(3,.ptr 1 0),(2,.ptr 0 0)],R48 tt tf t g,3,57⟩
def R48i (tt tf t g:T) (x:Nd):Heap:=[(0,.cells 29 [.t tt,.t tf]),(1,.cells 25 [.t t]),(2,.cells 25 [.t g]),(3,ndR x)]
def S48i (tt tf t g:T) (i:Nat) (x:Nd) (k:Nat):A0b:=⟨[(9,.t (iv (k:Int))),(8,.ptr 3 0),(7,.t (iv (i:Int))),(5,.ptr 2 0),(3,.ptr 1 0),(2,.ptr 0 0)],R48i tt tf t g x,4,57⟩
theorem E4d {tt tf t:T} {ty:List Typ} {fe:List Ft} {l:List Nd} (hT:IsS eTyp tt ty) (hF:IsS eFt tf fe) (ht:IsS eNd t l) (h:A3g l):A0y Try.prog G 48 [.ag [tt,tf],.ag [t]] (· = iv (A7b ty.length fe.length l)):=by
 have cp:A0w (.t (.ag [t]))=some [.t t]:=rfl
 have cph:A0w (.t (.ag [tt,tf]))=some [.t tt,.t tf]:=rfl
 have ag:agOf [.t t] = .t (.ag [t]):=rfl
 have gc:=F7v ht h
 have hl:=h.len
 refine C6w.call rfl ?_
 unfold B8c
 refine A0a A4y ?_
 simp -implicitDefEqProofs [cp,cph]
 by_cases hE:A9k l=0
 ·have hFo:=C7h hE
  have hsm:=F2m h hFo.to (n:=0) hFo.pos
  obtain⟨g,hg⟩:∃g,g=A0k eNd (A4x l 0):=⟨_,rfl⟩
  have hG:IsS eNd g (A4x l 0):=hg▸IsS.tree _ _
  have hc:B4w l = .tu [.ag [g],iv 0]:=by unfold B4w;rw[if_neg (by rw[hE];simp),hg]
  rw[hc]at gc
  have cg:A0w (.t (.ag [g]))=some [.t g]:=rfl
  have ag':agOf [.t g] = .t (.ag [g]):=rfl
  have ge:=F2k ht hG h hsm
  have hres:A7b ty.length fe.length l=if fst (rngE ty.length fe.length l) l.length≠0 then fst (rngE ty.length fe.length l) l.length else if eqE l (A4x l 0)then 0 else 3:=by
   unfold A7b
   rw[if_neg (by rw[hE];simp)]
  refine A0a A4y ?_
  simp -implicitDefEqProofs [A0f,ag,F7w,gc,extractV,A1e,cg,A1y]
  refine A0a A4y ?_
  simp -implicitDefEqProofs
  obtain⟨n,hle,h0,hn⟩:=A7l (rngE ty.length fe.length l) l.length
  refine A0s (fun _:Unit=>S48 tt tf t g l.length) (fun _=>n=l.length) (fun _=>rfl) ?_ ?_
  ·refine A0a A4y ?_
   simp -implicitDefEqProofs
   refine A0h ?_
   refine A1b (S48 tt tf t g) n (fun _=>rfl) ?_ rfl ?_ ?_
   ·refine A0c rfl rfl ?_ ?_<;>simp -implicitDefEqProofs [S48,R48]
   ·intro i hi
    have hil:i<l.length:=by omega
    obtain⟨x,hx⟩:∃x,l[i]?=some x:=⟨_,List.getElem?_eq_getElem hil⟩
    have hxa:=h.arcs x (List.mem_of_getElem? hx)
    have e1:IntKind.i64.wrap ((i:Int)+1)=((i+1:Nat):Int):=A0l (by omega) (by omega)
    have ix:=B6m ht hx
    have cx:A0w (.t (.ag [iv x.type,x.tree]))=some [.t (iv x.type),.t x.tree]:=rfl
    have hz:=h0 i hi
    simp only[rngE,hx]at hz
    have c1:¬(ty.length:Int)<=x.type:=fun h=>by rw[if_pos h]at hz;cases hz
    rw[if_neg c1]at hz
    refine A0a A4y ?_
    simp -implicitDefEqProofs [S48,R48,A0f,hil,ht.len]
    refine A0s (fun _:Unit=>S48 tt tf t g i) (fun _=>True) (fun _=>rfl) ?_ ?_
    ·refine A0h ?_
     refine A0a A4y ?_
     simp -implicitDefEqProofs [A0f,ix,A1e,cx,A1y]
     refine A0a A4y ?_
     simp -implicitDefEqProofs [A0f,hT.len,c1]
     refine A0a A4y ?_
     simp -implicitDefEqProofs
     refine A0h ?_
     refine A1b (S48i tt tf t g i x) x.arcs.length (fun _=>rfl) ?_ rfl ?_ ?_
     ·refine A0c rfl rfl ?_ ?_<;>simp -implicitDefEqProofs [S48i,R48i,ndR]
     ·intro k hk
      obtain⟨a,hak⟩:∃a,x.arcs[k]?=some a:=⟨_,List.getElem?_eq_getElem hk⟩
      have e2:IntKind.i64.wrap ((k:Int)+1)=((k+1:Nat):Int):=A0l (by omega) (by omega)
      have ib:=A7k x.ok hak
      have hd:=A5c hz k hk
      simp only[rngA,hak]at hd
      have hd:¬(fe.length:Int)<=a.feat:=fun h=>by rw[if_pos h]at hd;cases hd
      refine A0d A4y ?_
      simp -implicitDefEqProofs [S48i,R48i,ndR,A0f,hk,x.ok.len,ib,hF.len,hd,e2]
      refine A0c rfl rfl ?_ ?_<;>simp -implicitDefEqProofs
     ·refine A0d A4y ?_
      simp -implicitDefEqProofs [S48i,R48i,ndR,A0f,x.ok.len]
      refine Next.mk () trivial (B8y (by omega) (fun q hq=>?_) ?_)
      ·simp only[S48,R48,List.mem_cons,List.not_mem_nil,or_false]at hq
       rcases hq with rfl | rfl | rfl<;>exact⟨rfl,by simp,rfl⟩
      ·simp -implicitDefEqProofs [S48,under]
    ·rintro _ -
     refine A0d A4y ?_
     simp -implicitDefEqProofs [S48,R48,e1]
     refine A0c rfl rfl ?_ ?_<;>simp -implicitDefEqProofs
   ·rcases hn with⟨e,_⟩ | ⟨hil,hk,he⟩
    ·refine A0d A4y ?_
     have hnl:¬n<l.length:=by omega
     simp -implicitDefEqProofs [S48,R48,A0f,ht.len,hnl]
     exact Next.mk () e (A0c rfl rfl (by simp -implicitDefEqProofs [e]) (by simp -implicitDefEqProofs))
    ·obtain⟨x,hx⟩:∃x,l[n]?=some x:=⟨_,List.getElem?_eq_getElem hil⟩
     have hxa:=h.arcs x (List.mem_of_getElem? hx)
     have ix:=B6m ht hx
     have cx:A0w (.t (.ag [iv x.type,x.tree]))=some [.t (iv x.type),.t x.tree]:=rfl
     have hres2:A7b ty.length fe.length l=rngE ty.length fe.length l n:=by rw[hres,if_pos (by rw[he];exact hk),he]
     have hv:rngE ty.length fe.length l n=if(ty.length:Int)<=x.type then 2 else fst (rngA fe.length x) x.arcs.length:=by simp only[rngE,hx]
     refine A0a A4y ?_
     simp -implicitDefEqProofs [S48,R48,A0f,hil,ht.len]
     refine A0s (fun _:Unit=>S48 tt tf t g n) (fun _=>False) (fun _=>rfl) ?_ (fun _ h=>h.elim)
     refine A0h ?_
     refine A0a A4y ?_
     simp -implicitDefEqProofs [A0f,ix,A1e,cx,A1y]
     by_cases c1:(ty.length:Int)<=x.type
     ·rw[if_pos c1]at hv
      rw[hv]at hres2
      refine A0a A4y ?_
      simp -implicitDefEqProofs [A0f,hT.len,c1,hres2]
     ·rw[if_neg c1]at hv
      rw[hv]at hres2 hk
      refine A0a A4y ?_
      simp -implicitDefEqProofs [A0f,hT.len,c1]
      obtain⟨k,hkl,hk0,hkn⟩:=A7l (rngA fe.length x) x.arcs.length
      obtain⟨hkn,hd,hvv⟩:k<x.arcs.length/\rngA fe.length x k≠0/\fst (rngA fe.length x) x.arcs.length=rngA fe.length x k:=by
       rcases hkn with⟨_,h⟩ | h
       ·exact absurd h hk
       ·exact h
      obtain⟨a,hak⟩:∃a,x.arcs[k]?=some a:=⟨_,List.getElem?_eq_getElem hkn⟩
      have hda:(fe.length:Int)<=a.feat:=Classical.byContradiction fun h=>hd (by simp[rngA,hak,h])
      have hr2:A7b ty.length fe.length l=2:=by rw[hres2,hvv];simp[rngA,hak,hda]
      refine A0a A4y ?_
      simp -implicitDefEqProofs
      refine A0h ?_
      refine A1b (S48i tt tf t g n x) k (fun _=>rfl) ?_ rfl ?_ ?_
      ·refine A0c rfl rfl ?_ ?_<;>simp -implicitDefEqProofs [S48i,R48i,ndR]
      ·intro j hj
       have hjn:j<x.arcs.length:=by omega
       obtain⟨b,hb⟩:∃b,x.arcs[j]?=some b:=⟨_,List.getElem?_eq_getElem hjn⟩
       have e2:IntKind.i64.wrap ((j:Int)+1)=((j+1:Nat):Int):=A0l (by omega) (by omega)
       have ib:=A7k x.ok hb
       have hd:=hk0 j hj
       simp only[rngA,hb]at hd
       have hd:¬(fe.length:Int)<=b.feat:=fun h=>by rw[if_pos h]at hd;cases hd
       refine A0d A4y ?_
       simp -implicitDefEqProofs [S48i,R48i,ndR,A0f,hjn,x.ok.len,ib,hF.len,hd,e2]
       refine A0c rfl rfl ?_ ?_<;>simp -implicitDefEqProofs
      ·have ib:=A7k x.ok hak
       refine A0d A4y ?_
       simp -implicitDefEqProofs [S48i,R48i,ndR,A0f,hkn,x.ok.len,ib,hF.len,hda,hr2]
  ·rintro _ e
   have hz:fst (rngE ty.length fe.length l) l.length=0:=by
    rcases hn with⟨_,he⟩ | ⟨h,_⟩
    ·exact he
    ·omega
   rw[hz]at hres
   simp only[ne_eq,not_true_eq_false,if_false]at hres
   refine A0d A4y ?_
   cases hq:eqE l (A4x l 0)with
   | true=>
    rw[hq]at ge hres
    simp only[if_true]at hres
    simp -implicitDefEqProofs [S48,R48,A0f,ag,ag',F7w,ge,hres]
   | false=>
    rw[hq]at ge hres
    simp only[Bool.false_eq_true,if_false]at hres
    simp -implicitDefEqProofs [S48,R48,A0f,ag,ag',F7w,ge,hres]
 ·have hE':=A7h hE
  have hc:B4w l = .tu [.ag [nilS],iv (A9k l)]:=by unfold B4w;rw[if_pos hE]
  rw[hc]at gc
  have hres:A7b ty.length fe.length l=A9k l:=by unfold A7b;rw[if_pos hE]
  have cg:A0w (.t (.ag [nilS]))=some [.t nilS]:=rfl
  refine A0d A4y ?_
  simp -implicitDefEqProofs [A0f,ag,F7w,gc,extractV,A1e,cg,A1y,hE,hE',hres]
structure A1n (nt nf:Nat) (l:List Nd):Prop where
 form:Form l
 type:∀x∈l,x.type<(nt:Int)
 feat:∀x∈l,∀a∈x.arcs,a.feat<(nf:Int)
 canon:l.map Nd.key=(A4x l 0).map Nd.key
theorem D1a {nt nf:Nat} {l:List Nd} (h:A7b nt nf l=0):A1n nt nf l:=by
 unfold A7b at h
 have hE:A9k l=0:=Classical.byContradiction fun h1=>by rw[if_pos h1]at h;exact h1 h
 rw[if_neg (by rw[hE];simp)]at h
 have hR:fst (rngE nt nf l) l.length=0:=Classical.byContradiction fun h1=>by rw[if_pos h1]at h;exact h1 h
 rw[if_neg (by rw[hR];simp)]at h
 have hq:eqE l (A4x l 0)=true:=by
  cases hq:eqE l (A4x l 0)with
  | true=>rfl
  | false=>rw[hq]at h;simp at h
 have key:∀x∈l,x.type<(nt:Int)/\∀a∈x.arcs,a.feat<(nf:Int):=by
  intro x hx
  obtain⟨i,hi,e⟩:=List.getElem_of_mem hx
  have h1:=A5c hR i hi
  simp only[rngE,List.getElem?_eq_getElem hi,e]at h1
  split at h1
  ·cases h1
  ·refine⟨by omega,fun a ha=>?_⟩
   obtain⟨k,hk,e⟩:=List.getElem_of_mem ha
   have h2:=A5c h1 k hk
   simp only[rngA,List.getElem?_eq_getElem hk,e]at h2
   split at h2
   ·cases h2
   ·omega
 exact⟨C7h hE,fun x hx=>(key x hx).1,fun x hx=>(key x hx).2,G8c.1 hq⟩
theorem A1n.par {nt nf:Nat} {l:List Nd} (h:A1n nt nf l) {j:Nat} (h0:0<j) (hj:j<l.length):∃(i:Nat) (z:Nd) (a:Arc),i<j/\l[i]?=some z/\a∈z.arcs/\a.to=(j:Int):=by
 have hk:∀i:Nat,(l[i]?).map Nd.key=((A4x l 0)[i]?).map Nd.key:=fun i=>by rw[<-List.getElem?_map,<-List.getElem?_map,h.canon]
 have hlen:(A4x l 0).length=l.length:=by simpa using (congrArg List.length h.canon).symm
 obtain⟨i,z,a,h1,h2,h3,h4⟩:=G3j h.form.to h.form.pos h0 (List.getElem?_eq_getElem (by omega:j<(A4x l 0).length))
 have:=hk i
 rw[h2]at this
 obtain⟨z',hz',e⟩:=A0v this
 injection e with e1 e2
 exact⟨i,z',a,h1,hz',by rw[e2];exact h3,h4⟩
def tgt (x:Nd) (f:Int):Int:=match x.arcs.find? (fun a=>decide (a.feat=f))with
 | some a=>a.to
 | none=>-1
def hsub (ty:List Typ) (s t:Int):Bool:=match ty[s.toNat]?,ty[t.toNat]? with
 | some x,some y=>subL y.code x.code
 | _,_=>false
structure Mor (ty:List Typ) (a b:List Nd) (m:List Int):Prop where
 len:m.length=a.length
 root:nAt m 0=0
 rng:∀i,i<a.length->0<=nAt m i/\nAt m i<(b.length:Int)
 type:∀(i:Nat) x,a[i]?=some x->hsub ty x.type (ndAt b (nAt m i)).type=true
 arc:∀(i:Nat) x,a[i]?=some x->∀c∈x.arcs,tgt (ndAt b (nAt m i)) c.feat=nAt m c.to.toNat
theorem D5u {l:List Nd} {k:Nat} {y:Nd} (h:l[k]?=some y):ndAt l (k:Int)=y:=by simp[ndAt,h]
section
variable {nt nf : Nat} {ty : List Typ} {a b : List Nd} {m : List Int}
theorem G8e {m:List Int} {j:Nat} {v:Int} (h:m[j]?=some v):nAt m j=v:=by
 unfold nAt
 rw[List.getD_eq_getElem?_getD,h]
 rfl
end
end Go.Proofs.Ytbiadmfmjnoecaa
