/-
 Auxiliary facts. No statement of the program stands here.
-/
import Derived.Test.YtbiadmfmjnoecaaVRQ39
import Derived.Test.YtbiadmfmjnoecaaVRQ36
namespace Go.Proofs.Ytbiadmfmjnoecaa
set_option linter.unusedSimpArgs false
set_option linter.unusedVariables false
open Go Go.Abs
set_option maxRecDepth 100000
set_option maxHeartbeats 1000000 in
theorem E5d {l k:Nat} {x:Loop} (hx:L39 x):G6j l x k:=by
 intro H nx m p outs h1 h2 h4 hlen hm L w us hok hnx hus
 have hul:us.size=2:=by simpa using hus.length
 obtain⟨u0,u1,rfl⟩:∃u0 u1,us = #[u0,u1]:=by
  obtain⟨ul⟩:=us
  match ul,hul with
  | [u0,u1],_=>exact⟨u0,u1,rfl⟩
 simp only[A1a]at hus
 obtain⟨a0,q0,e0,hr0,a1,q1,e1,hr1,e2⟩:=hus
 injection e0 with e0 e0'
 subst e0
 subst e0'
 injection e1 with e1 e1'
 subst e1
 subst e1'
 have hr4:=hok.rep 4 _ h4
 simp only[A4b]at hr4
 obtain⟨hμ4,hl,hp2⟩:=hr4
 rw[hμ4]at hl
 refine⟨x.fn,_,x.assign,x.body,run_yield hl (by rw[hx.params];rfl),roundIn_of_wpIn trivial ?_⟩
 have htm:(x.params.zip #[u0,u1]).foldl (fun tmps (t,a)=>tmps.setIfInBounds t a) x.tmps=(x.tmps.setIfInBounds 12 u0).setIfInBounds 13 u1:=by rw[hx.params];simp
 rw[htm,hx.assign,G9l,hx.body,G9m]
 have hsz:=hx.size
 have hi0:Interp Try.prog G nx L ⟨[(13,.t (A0k eInt p)),(12,.t (iv (m:Int))),(3,.ptr 2 0)],H,nx,19⟩ { tmps:=(x.tmps.setIfInBounds 12 u0).setIfInBounds 13 u1,defers:=[] } w:=by
  refine⟨hok,hnx,by rw[hnx];exact Nat.le_refl _,by simp[hsz],rfl,fun j q hj=>?_⟩
  simp only[Abs.look]at hj
  split at hj
  ·rename_i e;injection hj with hj;subst hj;subst e
   have:((x.tmps.setIfInBounds 12 u0).setIfInBounds 13 u1).getD 13 undef=u1:=by simp[hsz]
   rw[this];exact hr1
  ·split at hj
   ·rename_i e;injection hj with hj;subst hj;subst e
    have:((x.tmps.setIfInBounds 12 u0).setIfInBounds 13 u1).getD 12 undef=u0:=by simp[hsz]
    rw[this];exact hr0
   ·split at hj
    ·rename_i e;injection hj with hj;subst hj;subst e
     have:((x.tmps.setIfInBounds 12 u0).setIfInBounds 13 u1).getD 3 undef=x.tmps.getD 3 undef:=by simp[hsz]
     rw[this];exact hp2
    ·cases hj
 refine wpIn_seq (wpIn_mono (D0e (ro:=some l) (s':=⟨[(4,.t (iv (m:Int))),(13,.t (A0k eInt p)),(12,.t (iv (m:Int))),(3,.ptr 2 0)],H,nx,19⟩) rfl G9n nd39a rfl hi0) ?_)
 rintro e a1 w1 ⟨s1,L1,⟨rfl,rfl⟩,hi1,hx1,hb1⟩
 refine wpIn_mono (D0e (ro:=some l) (s':=⟨[(5,.t (A0k eInt p)),(4,.t (iv (m:Int))),(13,.t (A0k eInt p)),(12,.t (iv (m:Int))),(3,.ptr 2 0)],H,nx,19⟩) rfl G9o nd39b rfl hi1) ?_
 rintro e a2 w2 ⟨s2,L2,⟨rfl,rfl⟩,hi2,hx2,hb2⟩
 have hr4:=hi2.heap.rep 4 _ h4
 simp only[A4b]at hr4
 obtain⟨hμ4',hl2,_⟩:=hr4
 rw[hμ4']at hl2
 refine⟨_,run_beginRound hl2 hx.state,?_⟩
 obtain⟨ok3,hm3,hx3⟩:=D6x (y:={ x with state:=.busy }) hi2.heap h4 rfl
 have hi3:Interp Try.prog G nx L2 ⟨[(5,.t (A0k eInt p)),(4,.t (iv (m:Int))),(13,.t (A0k eInt p)),(12,.t (iv (m:Int))),(3,.ptr 2 0)],upd H 4 (.lp l { x with state:=.busy } 3 (.ptr 2 0)),nx,19⟩ a2 (w2.putObj l (.loop { x with state:=.busy })):=
  ⟨ok3,hi2.nx,hi2.base,hi2.size,hi2.defers,fun j q hj=>RepV.keep hm3 q (hi2.env j q hj)⟩
 obtain⟨H3,hH3⟩:∃H3,H3=upd H 4 (.lp l { x with state:=.busy } 3 (.ptr 2 0)):=⟨_,rfl⟩
 have k1:Abs.look H3 1=some (A1g ePth 33 outs):=by rw[hH3,A0u,if_neg (by omega)];exact h1
 have k2:Abs.look H3 2=some (.cells 55 [rowP ePth 1 outs]):=by rw[hH3,A0u,if_neg (by omega)];exact h2
 obtain⟨q,hq⟩:∃q,outs[m]?=some q:=⟨_,List.getElem?_eq_getElem (by omega)⟩
 have ld:A0f false 1 H3 (.ptr 2 0)=some (rowP ePth 1 outs):=by simp[A0f,k2]
 have ia:A1q 1 (rowP ePth 1 outs) (.t (iv (m:Int)))=some (.ptr 1 m):=by
  have:=A1r (e:=ePth) (b:=1) hq .i64
  rw[show ePth.z=1 from rfl,Nat.mul_one]at this
  exact this
 have stt:A1e 1 H3 (.ptr 1 m) (.t (A0k eInt p))=some (upd H3 1 (A1g ePth 33 (outs.set m p))):=by
  have:=B0y (e:=ePth) (off:=0) (y:=p) (c:=A0k eInt p) k1 hq (by decide) rfl (by cases p<;>rfl)
  rw[show ePth.z=1 from rfl,Nat.mul_one,Nat.add_zero]at this
  exact this
 rw[<-hH3]at hi3
 refine wpIn_block (wpIn_mono (D0e (ro:=some l) (s':=⟨[(17,.ptr 1 m),(16,.t (A0k eInt p)),(15,.t (iv (m:Int))),(14,rowP ePth 1 outs),(5,.t (A0k eInt p)),(4,.t (iv (m:Int))),(13,.t (A0k eInt p)),(12,.t (iv (m:Int))),(3,.ptr 2 0)],upd H3 1 (A1g ePth 33 (outs.set m p)),nx,19⟩) rfl G9p nd39c (by simp -implicitDefEqProofs [runL,l39c,C4v,Mini.wants,A0b.put,Abs.look,ld,ia,stt]) hi3) ?_)
 rintro e a4 w4 ⟨s4,L4,⟨rfl,rfl⟩,hi4,hx4,hb4⟩
 have k4:Abs.look (upd H3 1 (A1g ePth 33 (outs.set m p))) 4=some (.lp l { x with state:=.busy } 3 (.ptr 2 0)):=by
  rw[A0u,if_neg (by omega),hH3,A0u,if_pos rfl,h4]
  rfl
 have hr5:=hi4.heap.rep 4 _ k4
 simp only[A4b]at hr5
 obtain⟨hμ5,hl5,_⟩:=hr5
 rw[hμ5]at hl5
 refine⟨_,_,run_endRound none hl5,?_⟩
 have ex:({ { x with state:=.busy }with state:=(if(none:Option Code).isNone then .ready else .done),pending:=none }:Loop)=x:=by
  have h1:=hx.state
  have h2:=hx.pend
  obtain⟨st,pe,fn,tm,pa,as',bo,de⟩:=x
  simp only at h1 h2
  subst h1
  subst h2
  rfl
 rw[ex]
 obtain⟨ok5,hm5,hx5⟩:=D6x (y:=x) hi4.heap k4 rfl
 have ec:∀b,Abs.look (upd H 1 (A1g ePth 33 (outs.set m p))) b=Abs.look (upd (upd H3 1 (A1g ePth 33 (outs.set m p))) 4 (.lp l x 3 (.ptr 2 0))) b:=by
  intro b
  rw[hH3]
  simp only[A0u]
  by_cases b4:b=4
  ·subst b4
   simp[h4]
  ·by_cases b1:b=1
   ·subst b1
    simp
   ·simp[b4,b1]
 have hxx:Ext L H w L4 (upd (upd H3 1 (A1g ePth 33 (outs.set m p))) 4 (.lp l x 3 (.ptr 2 0))) (w4.putObj l (.loop x)):=((((hx1.trans hx2).trans (hH3▸hx3)).trans hx4).trans hx5)
 have hxe:=G0d hxx ec
 refine⟨.bool true,L4,rfl,by simp only[RepV,RepT],E1l ok5 ec,hi4.nx,G4z hok hxe (by rw[hnx];exact Nat.le_of_eq hi4.nx.symm) fun b hb=>?_,hxe⟩
 rw[hnx]at hb
 rw[hb4 b hb,hb2 b hb,hb1 b hb]
def addD (ds:List Deferred) (a:Act):Act:={ a with defers:=a.defers++ds }
theorem D6y (ds:List Deferred) (a:Act) (d:Option Tmp) (v:Value):(addD ds a).put d v=addD ds (a.put d v):=by cases d<;>rfl
section
variable {F : Fence} {n : Nat} {P : Program} {ops : Array Oper} {Q : Exit -> Act -> World -> Prop}
theorem C5w (ds:List Deferred):∀(l:List Oper) (a:Act) (w:World),wpListIn F n P ops Q l a w->wpListIn F n P ops (fun e a w=>∃a0,a=addD ds a0/\Q e a0 w) l (addD ds a) w
 | [],a,w,h=>⟨a,rfl,h⟩
 | o::l,a,w,h=>by
  have out:∀{e:Ending},e = .outgrown->LetsOut Q->LetsOut fun e a w=>∃a0,a=addD ds a0/\Q e a0 w:=fun _ ⟨a0,w0,h0⟩=>⟨addD ds a0,w0,a0,rfl,h0⟩
  unfold wpListIn at h ⊢
  show if Region.wanted o (yielded ops a.tmps)=true then _ else _
  split
  ·rename_i hw
   rw[if_pos hw]at h
   refine⟨fun f hf=>h.1 f hf,?_⟩
   have h2:=h.2
   show o.uponIn F n P (addD ds a) _ _ ((o.semAt F.round a.eval).run P w)
   generalize (o.semAt F.round a.eval).run P w=r at h2 ⊢
   have next:∀v w',wpListIn F n P ops Q l (a.put o.dst v) w'->wpListIn F n P ops (fun e a w=>∃a0,a=addD ds a0/\Q e a0 w) l ((addD ds a).put o.dst v) w':=fun v w' h=>by
    rw[D6y]
    exact C5w ds l _ _ h
   cases r with
   | ok x w'=>
    cases x<;>simp only[Oper.uponIn]at h2 ⊢
    case value v=>exact next v w' h2
    case skip=>exact next undef w' h2
    case defer d=>
     have e:({ addD ds a with defers:=d::(addD ds a).defers }:Act).put o.dst undef=addD ds (({ a with defers:=d::a.defers }:Act).put o.dst undef):=D6y ds { a with defers:=d::a.defers } o.dst undef
     rw[e]
     exact C5w ds l _ _ h2
    case enter f args=>
     refine⟨h2.1,CallsIn.mono h2.2 fun e w'' he=>?_⟩
     cases e with
     | returned v=>exact next v w'' he
     | panicked c=>exact⟨a,rfl,he⟩
     | outgrown=>exact out rfl he
    case row row args=>exact⟨h2.1,RowsIn.mono h2.2 fun v w'' he=>next v w'' he⟩
    case round l' f tmps assign body=>
     refine⟨h2.1,RoundIn.mono h2.2 fun e w'' he=>?_⟩
     cases e with
     | returned v=>exact next v w'' he
     | panicked c=>exact⟨a,rfl,he⟩
     | outgrown=>exact out rfl he
   | halt x w'=>
    cases x<;>simp only[Oper.uponIn]at h2 ⊢
    case panic v=>exact⟨a,rfl,h2⟩
  ·rename_i hw
   rw[if_neg hw]at h
   refine⟨fun f hf=>h.1 f hf,?_⟩
   rw[D6y]
   exact C5w ds l _ _ h.2
end
section
variable {P : Program} {Gl : A1f} {L L' : Abs.Loc} {H H' K : Heap} {w w' : World}
theorem F3g (h:A1o P Gl L H w) (e:∀b r,Abs.look H' b=some r->Abs.look H b=some r):A1o P Gl L H' w:=
 ⟨h.lt,fun b r hb=>h.rep b r (e b r hb),fun b r hb=>h.apart b r (e b r hb),fun b b' r r' hb hb'=>h.inj b b' r r' (e b r hb) (e b' r' hb'),fun b r hb=>h.nx b r (e b r hb),h.glob⟩
theorem G9r (h:Ext L K w L' H w') (e:∀b r,Abs.look H' b=some r->Abs.look H b=some r):Ext L K w L' H' w':=
 ⟨h.size,h.same,h.more,h.new,fun g ⟨b,r,hb,q⟩=>h.mine g ⟨b,r,e b r hb,q⟩,h.shape,h.outer⟩
theorem F3h (hok:A1o P Gl L H w) (o:Obj):A1o P Gl L H (w.alloc o)/\Mono L w L (w.alloc o)/\Ext L H w L H (w.alloc o):=by
 have hold:∀g,g<w.heap.size->(w.alloc o).heap[g]?=w.heap[g]?:=fun g hg=>by
  show(w.heap.push o)[g]?=w.heap[g]?
  rw[Array.getElem?_push_lt hg,Array.getElem?_eq_getElem hg]
 have hsz:w.heap.size<=(w.alloc o).heap.size:=by simp
 have hsh:A3h w (w.alloc o):=fun g hg arr ty fz he=>⟨arr,fz,by rw[<-hold g hg];exact he,rfl⟩
 have hm:Mono L w L (w.alloc o):=⟨fun b hb=>⟨hb,hold b (hok.lt b hb)⟩,Nat.le_refl _,fun _ _=>rfl,hsz,hsh⟩
 exact⟨⟨fun b hb=>Nat.lt_of_lt_of_le (hok.lt b hb) hsz,fun b r hb=>(hok.rep b r hb).keep hm (hold _ (hok.rep b r hb).lt),hok.apart,hok.inj,hok.nx,A3y hok hm.keeps⟩,hm,
  ⟨hsz,fun g hg _=>hold g hg,fun _ h=>h,fun _ h=>.inl h,fun _ h=>.inr h,hsh,⟨rfl,rfl,rfl⟩⟩⟩
theorem E5e (hok:A1o P Gl L H w) {D:Nat} {o o':Obj} (hD:w.heap[D]?=some o) (hc:∀arr ty fz,o' ≠ .cells arr ty fz) (hI:¬L.I D) (hr:∀b r,Abs.look H b=some r->L.μ b≠D) :
  A1o P Gl L H (w.putObj D o')/\Mono L w L (w.putObj D o'):=by
 have hother:∀g,g≠D->(w.putObj D o').heap[g]?=w.heap[g]?:=fun g hg=>World.putObj_heap_other hg
 have hlt:=(Array.getElem?_eq_some_iff.1 hD).1
 have hsh:A3h w (w.putObj D o'):=fun g hg arr ty fz he=>by
  by_cases e:g=D
  ·rw[e,World.putObj_heap_same hlt]at he
   injection he with he
   exact absurd he (hc arr ty fz)
  ·rw[hother g e]at he
   exact⟨arr,fz,he,rfl⟩
 have hm:Mono L w L (w.putObj D o'):=⟨fun b hb=>⟨hb,hother b fun e=>hI (e▸hb)⟩,Nat.le_refl _,fun _ _=>rfl,by simp,hsh⟩
 exact⟨⟨fun b hb=>by rw[World.putObj_size];exact hok.lt b hb,fun b r hb=>(hok.rep b r hb).keep hm (hother _ (hr b r hb)),hok.apart,hok.inj,hok.nx,A3y hok hm.keeps⟩,hm⟩
end
theorem G0e {P:Program} {Gl:A1f} {B N:Nat} {c:Code} {s s':A0b} {L:Abs.Loc} {a:Act} {w:World} {K:Act->World->Prop} {Q:Exit->Act->World->Prop} (h:AK P Gl B N c (fun e s2=>e = .normal/\s2=s') s) (hn:s.n=N) (hi:Interp P Gl B L s a w)
  (hk:∀L' a' w',Interp P Gl B L' s' a' w'->Ext L s.H w L' s'.H w'->K a' w'):c.wpIn Fence.wide 0 P (Exit.then K Q) a w:=
 wpIn_wide.2 (wp_mono (h hn L a w hi) fun e a' w' ⟨s1,L1,⟨h1,h2⟩,hi1,hx,_⟩=>by subst h1;subst h2;exact hk L1 a' w' hi1 hx)
theorem E5f {t:T} (H:Heap) (nx:Nat):A5s Try.prog G 69 [.t (.ag [t])] H nx (.fn (.func 93) [] [.ptr nx 0]) ((nx,.cells 25 [.t t])::H) (nx+1):=by
 have cp:A0w (.t (.ag [t]))=some [.t t]:=rfl
 refine D6f.callP rfl ?_
 unfold C1c
 refine A0d ctx0 ?_
 simp -implicitDefEqProofs [cp]
 exact⟨.inr rfl,_,[.fn (.func 93) [] [.ptr nx 0]],Sub.refl _,rfl,rfl,rfl,rfl⟩
theorem G0f (n:Nat):A9j [Value.slice none 0 0] n=((List.replicate n ([]:List Int)).flatMap ePth.enc).map .t:=by
 refine List.ext_getElem? fun j=>?_
 have hl:(A9j [Value.slice none 0 0] n).length=n:=by rw[A5i];simp
 have hr:(((List.replicate n ([]:List Int)).flatMap ePth.enc).map PV.t).length=n:=by rw[List.length_map,A2e];simp[ePth]
 by_cases h:j<n
 ·obtain⟨c,hc⟩:∃c,(A9j [Value.slice none 0 0] n)[j]?=some c:=⟨_,List.getElem?_eq_getElem (by omega)⟩
  have:=(C5k hc).2
  rw[hc,this]
  have e:((List.replicate n ([]:List Int)).flatMap ePth.enc).map PV.t=List.replicate n (.t nilS):=by
   clear hc this hl hr h
   induction n with
   | zero=>rfl
   | succ n ih=>
    rw[List.replicate_succ,List.replicate_succ,List.flatMap_cons,List.map_append,ih]
    rfl
  rw[e,List.getElem?_replicate,if_pos h]
  simp[Nat.mod_one]
 ·rw[List.getElem?_eq_none (by omega),List.getElem?_eq_none (by omega)]
theorem G5a {n nx:Nat} (h0:0<n) (h:n<=1000000):B9p 33 1 24 [.slice none 0 0] (.t (iv (n:Int))) (.t (iv (n:Int))) nx=some (rowP ePth nx (List.replicate n []),A1g ePth 33 (List.replicate n [])):=by
 have hp:rowP ePth nx (List.replicate n []) = .row nx 0 n 1:=by
  obtain⟨k,rfl⟩:∃k,n=k+1:=⟨n-1,by omega⟩
  rw[List.replicate_succ]
  simp[rowP,ePth]
 rw[hp]
 simp only[B9p,Int.toNat_natCast]
 rw[if_pos ⟨by omega,by omega,by omega,by omega⟩,G0f]
 rfl
theorem E8w:Try.f39.body=some b39:=by kernel_rfl
theorem H2k:b39 = .seq (hdC b39) (.seq (hdC (tlC b39)) (.seq (.seq (hdC (hdC (tlC (tlC b39)))) (.block 0 RF39)) (.seq (.region (idC (hdC (tlC (tlC (tlC b39))))) (E4w (hdC (tlC (tlC (tlC b39))))) false) .ret))):=by kernel_rfl
noncomputable def o39d:Array Oper:=E4w (hdC (tlC (tlC (tlC b39))))
def M39a:A0n:=.ops [⟨some 1,.box 25,[.tmp 0],none⟩,⟨some 2,.mv,[.k (.t (.v (.slice none 0 0)))],none⟩]
def M39b:A0n:=.ops [⟨some 6,.faddr 0,[.tmp 1],none⟩,⟨some 7,.load false 1,[.tmp 6],none⟩,⟨some 8,.lensl,[.tmp 7],none⟩,⟨some 9,.make 33 1 24 [.slice none 0 0],[.tmp 8,.tmp 8],none⟩,⟨some 3,.alloc 55 [.slice none 0 0],[],none⟩,⟨none,.store 1,[.tmp 3,.tmp 9],none⟩]
def M39c:A0n:=.ops [⟨some 10,.load true 1,[.tmp 1],none⟩,⟨some 11,.hcall 69,[.tmp 10],none⟩]
def l39d:List Mini:=[⟨some 18,.load false 1,[.tmp 3],none⟩,⟨some 2,.mv,[.tmp 18],none⟩]
theorem c39a:comp Try.prog G 19 (hdC b39)=some M39a:=by kernel_rfl
theorem c39b:comp Try.prog G 19 (hdC (tlC b39))=some M39b:=by kernel_rfl
theorem c39c:comp Try.prog G 19 (hdC (hdC (tlC (tlC b39))))=some M39c:=by kernel_rfl
theorem G9s:o39d.toList.mapM (A2c Try.prog G 19 false o39d)=some l39d:=by kernel_rfl
theorem nd39d:E5c o39d=true:=by kernel_rfl
theorem n39 (k:Nat) (h:k=1):k+(Try.f39.ntmps-k)=19:=by subst h;kernel_rfl
theorem r39:Try.f39.results.toList=[.tmp 2]:=by kernel_rfl
theorem fn93:IsFn Try.prog 93:=⟨Try.f93,b93,Try.func93,E8q,by kernel_rfl⟩
def H39 (t:T) (k:Nat):Heap:=[(3,.cells 25 [.t t]),(2,.cells 55 [rowP ePth 1 (List.replicate k [])]),(1,A1g ePth 33 (List.replicate k [])),(0,.cells 25 [.t t])]
def S39 (t:T) (k:Nat):A0b:=⟨[(11,.fn (.func 93) [] [.ptr 3 0]),(3,.ptr 2 0)],H39 t k,4,19⟩
section
variable {nf : Nat} {ty : List Typ} {t : T} {a : List Nd}
set_option maxHeartbeats 1000000 in
theorem pre39 (ht:IsS eNd t a) (hpos:0<a.length) (hl:a.length<=100000) {L:Abs.Loc} {a0:Act} {w:World} {c:Code} {Q:Exit->Act->World->Prop} (hi:Interp Try.prog G 0 L ⟨[(0,.t (.ag [t]))],[],0,19⟩ a0 w)
  (hk:∀L' a' w',Interp Try.prog G 0 L' (S39 t a.length) a' w'->Ext L [] w L' (H39 t a.length) w'->RF39.wpIn Fence.wide 0 Try.prog (Exit.inBlock 0 (Exit.then (fun a w=>c.wpIn Fence.wide 0 Try.prog Q a w) Q)) a' w') :
  (Code.seq (hdC b39) (.seq (hdC (tlC b39)) (.seq (.seq (hdC (hdC (tlC (tlC b39)))) (.block 0 RF39)) c))).wpIn Fence.wide 0 Try.prog Q a0 w:=by
 have cp:A0w (.t (.ag [t]))=some [.t t]:=rfl
 have ag:agOf [.t t] = .t (.ag [t]):=rfl
 have mk:=G5a (nx:=1) hpos (by omega)
 have hc:=E5f (t:=t) ([(2,.cells 55 [rowP ePth 1 (List.replicate a.length [])]),(1,A1g ePth 33 (List.replicate a.length [])),(0,.cells 25 [.t t])]) 3
 have cv:Ctx Try.prog G (orh [] [(69,hOne [.t (.ag [t])] [(2,.cells 55 [rowP ePth 1 (List.replicate a.length [])]),(1,A1g ePth 33 (List.replicate a.length [])),(0,.cells 25 [.t t])] 3 (.fn (.func 93) [] [.ptr 3 0],H39 t a.length,4))]):=by
  refine A1t.nil.ctxH (A8b.cons (hOne_ok hc fun hf b y hb=>?_) .nil) A1u
  simp only[H39,look_cons]at hb
  split at hb
  ·omega
  ·have:=hf b y hb
   omega
 refine wpIn_seq (G0e (s':=⟨[(2,.t nilS),(1,.ptr 0 0),(0,.t (.ag [t]))],[(0,.cells 25 [.t t])],1,19⟩) (C3k ctx0 c39a (by unfold M39a;simp -implicitDefEqProofs [cp])) rfl hi fun L1 a1 w1 hi1 hx1=>?_)
 have cr:A0w (rowP ePth 1 (List.replicate a.length []))=some [rowP ePth 1 (List.replicate a.length [])]:=by cases a<;>rfl
 refine wpIn_seq (G0e (s':=⟨[(3,.ptr 2 0),(9,rowP ePth 1 (List.replicate a.length [])),(8,.t (iv (a.length:Int))),(7,.t t),(6,.ptr 0 0),(2,.t nilS),(1,.ptr 0 0),(0,.t (.ag [t]))],
  [(2,.cells 55 [rowP ePth 1 (List.replicate a.length [])]),(1,A1g ePth 33 (List.replicate a.length [])),(0,.cells 25 [.t t])],3,19⟩) (C3k ctx0 c39b (by unfold M39b;simp -implicitDefEqProofs [A0f,ht.len,mk,A1e,cr,A1y])) rfl hi1 fun L2 a2 w2 hi2 hx2=>?_)
 refine wpIn_seq (wpIn_seq (G0e (s':=⟨[(11,.fn (.func 93) [] [.ptr 3 0]),(10,.t (.ag [t])),(3,.ptr 2 0),(9,rowP ePth 1 (List.replicate a.length [])),(8,.t (iv (a.length:Int))),(7,.t t),(6,.ptr 0 0),(2,.t nilS),(1,.ptr 0 0),(0,.t (.ag [t]))],H39 t a.length,4,19⟩)
  (C3k cv c39c (by unfold M39c;simp -implicitDefEqProofs [A0f,ag,hOne_eq])) rfl hi2 fun L3 a3 w3 hi3 hx3=>?_))
 have hi3':Interp Try.prog G 0 L3 (S39 t a.length) a3 w3:=⟨hi3.heap,hi3.nx,hi3.base,hi3.size,hi3.defers,fun k q hq=>hi3.env k q (by
  simp only[S39,Abs.look]at hq
  split at hq
  ·rename_i e;subst e;exact hq
  ·split at hq
   ·rename_i e;subst e;exact hq
   ·cases hq)⟩
 exact wpIn_block (hk L3 a3 w3 hi3' ((hx1.trans hx2).trans hx3))
set_option maxHeartbeats 2000000 in
theorem F3i (ht:IsS eNd t a) (ha:A1n ty.length nf a) (hs:A3g a):A0y Try.prog G 39 [.ag [t]] (· = A0k ePth (A1d a)):=by
 have hpos:=ha.form.pos
 have hal:=hs.len
 refine⟨⟨Try.f39,b39,Try.func39,E8w,by kernel_rfl⟩,fun I w us hlt hglob hargs=>callsIn_wide (n:=0).1 (callsIn_of_wp_marks Try.func39 E8w trivial ?_)⟩
 have hlen:us.size=1:=by simpa using hargs.length
 obtain⟨L0,hL0⟩:∃L0:Abs.Loc,L0=⟨I,fun _=>0,0⟩:=⟨_,rfl⟩
 have hI0:L0.I=I:=by rw[hL0]
 have hok0:A1o Try.prog G L0 [] w:=by
  rw[hL0]
  exact⟨hlt,fun b r h=>by simp[Abs.look]at h,fun b r h=>by simp[Abs.look]at h,fun b b' r r' h=>by simp[Abs.look]at h,fun b r h=>by simp[Abs.look]at h,hglob⟩
 have hi0:Interp Try.prog G 0 L0 ⟨[(0,.t (.ag [t]))],[],0,19⟩ { tmps:=us++Array.replicate (Try.f39.ntmps-us.size) undef,defers:=[] } w:=by
  refine⟨hok0,by rw[hL0],Nat.zero_le _,?_,rfl,fun k p hl=>?_⟩
  ·rw[Array.size_append,Array.size_replicate]
   exact n39 _ hlen
  ·simp only[Abs.look]at hl
   split at hl
   ·rename_i e
    injection hl with hl
    subst hl
    subst e
    have hrep:=A1a.ofT (P:=Try.prog) (L:=L0) (hI0▸hargs)
    obtain⟨x,hx,hr⟩:=hrep.at_ 0 rfl
    have hx':us[0]?=some x:=by simpa using hx
    have hk':0<us.size:=(Array.getElem?_eq_some_iff.1 hx').1
    rw[Array.getD_eq_getD_getElem?,Array.getElem?_append_left hk',hx']
    exact hr
   ·cases hl
 rw[H2k]
 refine pre39 ht hpos hal hi0 fun L3 a3 w3 hi3 hx3=>?_
 rw[G9k]
 refine wpIn_rangeFunc ?_
 intro fn _
 have h11:=hi3.env 11 _ rfl
 simp only[RepV,A1a]at h11
 obtain⟨us1,vs1,e11,h1,u,r1,h2,hu,h3⟩:=h11
 have hus1:us1 = #[]:=by cases us1;simpa using h1
 have hvs1:vs1 = #[u]:=by cases vs1;simp_all
 subst hus1
 subst hvs1
 obtain⟨x,hx⟩:∃x:Loop,x={ state:=.ready,pending:=none,fn:=fn,tmps:=a3.tmps,params:=#[12,13],assign:=as39,body:=bd39,defers:=w3.heap.size }:=⟨_,rfl⟩
 have hx39:L39 x:=by rw[hx];exact⟨rfl,rfl,rfl,rfl,rfl,hi3.size⟩
 have hxt:x.tmps=a3.tmps:=by rw[hx]
 obtain⟨w1,hw1⟩:∃w1,w1=(w3.alloc (.deferred (some []))).alloc (.loop x):=⟨_,rfl⟩
 obtain⟨okA,mA,xA⟩:=F3h hi3.heap (.deferred (some []))
 have hsz:(w3.alloc (.deferred (some []))).heap.size=w3.heap.size+1:=by simp
 have s3:=hi3.env 3 _ rfl
 obtain⟨okB,mB,xB⟩:=C5j (w':=w1) (o:=.loop x) (r:=.lp (w3.heap.size+1) x 3 (.ptr 2 0)) okA (by rw[hw1];exact⟨rfl,rfl,rfl⟩) (by rw[hw1];rfl) (by
  simp only[A4b]
  refine⟨hsz,?_,?_⟩
  ·rw[hw1]
   exact World.alloc_heap_new _ _
  ·rw[hxt]
   exact RepV.keep (mA.trans (B0o okA (by rw[hw1];rfl))) _ s3)
 rw[hi3.nx]at okB xB
 obtain⟨L4,hL4⟩:∃L4,L4=L3.grow (w3.alloc (.deferred (some []))).heap.size:=⟨_,rfl⟩
 rw[<-hL4]at okB xB mB
 have hnx4:L4.nx=5:=by rw[hL4];show L3.nx+1=5;rw[hi3.nx];rfl
 have sub4:∀b r,Abs.look (R93a t (w3.heap.size+1) x (List.replicate a.length [])) b=some r->Abs.look ((4,.lp (w3.heap.size+1) x 3 (.ptr 2 0))::H39 t a.length) b=some r:=by
  intro b r h
  have:=A0p h
  simp only[R93a,List.mem_cons,List.not_mem_nil,or_false]at this
  rcases this with e | e | e | e<;>(injection e with e1 e2;subst e1;subst e2;rfl)
 have okC:=F3g okB sub4
 have xC:=G9r xB sub4
 refine⟨w3.heap.size+1,[{ target:=.collected w3.heap.size,args:=#[] }],w1,{ target:=.fn (.func 93) #[u],args:=#[.func (.yield (w3.heap.size+1)) #[] #[]] },w1,93,#[.func (.yield (w3.heap.size+1)) #[] #[],u],w1,?_,?_,fun _ _=>trivial,?_,fun h=>(by cases h),?_⟩
 ·rw[hw1,hx]
  exact run_enterLoop_outer _ _ _ _ _
 ·have hg:a3.eval (.tmp 11) = .func (.func 93) #[] #[u]:=e11
  simp only[resolve,hg]
  simp[go_sem]
 ·simp[invoke,go_sem,fn93.run]
 refine callsIn_wide.2 (((E1k ht ha hs (E5d hx39)).2 L4 w1 _ okC hnx4 ?_).mono ?_)
 ·simp only[A1a]
  exact⟨_,_,rfl,by simp only[yv,RepV,RepT],_,_,rfl,RepV.keep (mA.trans mB) _ hu,rfl⟩
 rintro e w5 ⟨v5,L5,rfl,hv5,ok5,hnx5,m5,x5⟩
 have row4:=ok5.rep 4 _ rfl
 simp only[A4b]at row4
 obtain⟨μ4,hl5,sl5⟩:=row4
 rw[μ4]at hl5
 have hend:=run_endLoop (P:=Try.prog) hl5 (by rw[hx39.state];decide)
 rw[hx39.pend]at hend
 refine⟨none,_,hend,?_⟩
 obtain⟨y,hy⟩:∃y:Loop,y={ x with state:=.exhausted,pending:=none }:=⟨_,rfl⟩
 obtain⟨ok6,m6,x6⟩:=D6x (y:=y) ok5 (b:=4) rfl (by rw[hy])
 rw[<-hy]
 obtain⟨H6,hH6⟩:∃H6,H6=upd (R93a t (w3.heap.size+1) x (A1d a)) 4 (.lp (w3.heap.size+1) y 3 (.ptr 2 0)):=⟨_,rfl⟩
 rw[<-hH6]at ok6 x6
 obtain⟨w6,hw6⟩:∃w6,w6=w5.putObj (w3.heap.size+1) (.loop y):=⟨_,rfl⟩
 rw[<-hw6]at ok6 m6 x6 ⊢
 have k2:Abs.look H6 2=some (.cells 55 [rowP ePth 1 (A1d a)]):=by rw[hH6];rfl
 have k1:Abs.look H6 1=some (A1g ePth 33 (A1d a)):=by rw[hH6];rfl
 have kb:∀b r,Abs.look H6 b=some r->0<b/\b<5:=by
  intro b r h
  rw[hH6,A0u]at h
  split at h
  ·omega
  ·have:=A0p h
   simp only[R93a,List.mem_cons,List.not_mem_nil,or_false]at this
   rcases this with e | e | e | e<;>(injection e with e1 e2;omega)
 have hd6:({ a3 with defers:=[{ target:=.collected w3.heap.size,args:=#[] }]++a3.defers }:Act)=addD [{ target:=.collected w3.heap.size,args:=#[] }] { tmps:=a3.tmps,defers:=[] }:=by
  rw[hi3.defers]
  rfl
 rw[hd6]
 have hi6:Interp Try.prog G 0 L5 ⟨[(3,.ptr 2 0)],H6,5,19⟩ { tmps:=a3.tmps,defers:=[] } w6:=by
  refine⟨ok6,hnx5,Nat.zero_le _,hi3.size,rfl,fun k p hl=>?_⟩
  simp only[Abs.look]at hl
  split at hl
  ·rename_i e
   injection hl with hl
   subst hl
   subst e
   rw[<-hxt]
   exact RepV.keep m6 _ sl5
  ·cases hl
 have ld:A0f false 1 H6 (.ptr 2 0)=some (rowP ePth 1 (A1d a)):=by simp[A0f,k2]
 have hrun:runL (orc []) l39d ⟨[(3,.ptr 2 0)],H6,5,19⟩=some ⟨[(2,rowP ePth 1 (A1d a)),(18,rowP ePth 1 (A1d a)),(3,.ptr 2 0)],H6,5,19⟩:=by
  simp -implicitDefEqProofs [runL,l39d,C4v,Mini.wants,A0b.put,Abs.look,ld]
 have hlist:=G9q (ro:=none) rfl G9s nd39d hrun hi6
 show(Code.seq (.region _ o39d false) .ret).wpIn Fence.wide 0 Try.prog _ _ w6
 refine wpIn_seq (wpIn_mono (wpIn_region_list (C5w [{ target:=.collected w3.heap.size,args:=#[] }] _ _ _ hlist)) ?_)
 rintro e a7 w7 ⟨a0,rfl,s7,L7,⟨rfl,rfl⟩,hi7,hx7,hb7⟩
 refine wpIn_ret ?_
 show LeavesInM Fence.wide 0 Try.prog Try.f39 a0.tmps _ (a0.defers++[{ target:=.collected w3.heap.size,args:=#[] }]) .returning w7
 rw[hi7.defers]
 have lt3:∀b r,Abs.look (H39 t a.length) b=some r->L3.μ b<w3.heap.size:=fun b r h=>(hi3.heap.rep b r h).lt
 have μD:∀b,0<b->b<5->L4.μ b≠w3.heap.size:=by
  intro b h0 h5
  rw[hL4]
  show(if b=L3.nx then _ else L3.μ b)≠_
  rw[hi3.nx]
  by_cases e:b=4
  ·subst e
   show(w3.alloc _).heap.size≠_
   rw[hsz]
   omega
  ·show(if b=4 then _ else L3.μ b)≠_
   rw[if_neg e]
   have:L3.μ b<w3.heap.size:=by
    have hb:b=1\/b=2\/b=3:=by omega
    rcases hb with rfl | rfl | rfl
    ·exact lt3 1 _ rfl
    ·exact lt3 2 _ rfl
    ·exact lt3 3 _ rfl
   omega
 have D1:w1.heap[w3.heap.size]?=some (.deferred (some [])):=by
  have hlt':w3.heap.size<(w3.alloc (.deferred (some []))).heap.size:=by rw[hsz];omega
  rw[hw1]
  show((w3.alloc (.deferred (some []))).heap.push _)[w3.heap.size]?=_
  rw[Array.getElem?_push_lt hlt',<-Array.getElem?_eq_getElem hlt']
  exact World.alloc_heap_new _ _
 have l1:w3.heap.size<w1.heap.size:=(Array.getElem?_eq_some_iff.1 D1).1
 have D5:w5.heap[w3.heap.size]?=some (.deferred (some [])):=by
  rw[x5.same _ l1 (fun⟨b,r,hb,e⟩=>?_)]
  ·exact D1
  ·have:=A0p hb
   simp only[R93a,List.mem_cons,List.not_mem_nil,or_false]at this
   rcases this with q | q | q | q<;>(injection q with q1 q2;exact μD b (by omega) (by omega) e)
 have D6:w6.heap[w3.heap.size]?=some (.deferred (some [])):=by
  rw[hw6,World.putObj_heap_other (by omega)]
  exact D5
 have μD5:∀b,0<b->b<5->L5.μ b≠w3.heap.size:=fun b h0 h5=>by
  rw[m5.μ b (by rw[hnx4];exact h5)]
  exact μD b h0 h5
 have D7:w7.heap[w3.heap.size]?=some (.deferred (some [])):=by
  rw[hx7.same _ (Array.getElem?_eq_some_iff.1 D6).1 (fun⟨b,r,hb,e⟩=>μD5 b (kb b r hb).1 (kb b r hb).2 e)]
  exact D6
 have xall:Ext L0 [] w L7 H6 w7:=((((hx3.trans xA).trans xC).trans x5).trans x6).trans hx7
 have oldD:w.heap.size<=w3.heap.size:=hx3.size
 have nomine:∀g,¬Mine L0 [] g:=fun g ⟨b,r,h,_⟩=>by simp[Abs.look]at h
 have notmine:¬Mine L4 (R93a t (w3.heap.size+1) x (List.replicate a.length [])) w3.heap.size:=by
  rintro⟨b,r,hb,e⟩
  have:=A0p hb
  simp only[R93a,List.mem_cons,List.not_mem_nil,or_false]at this
  rcases this with q | q | q | q<;>(injection q with q1 q2;exact μD b (by omega) (by omega) e)
 have notmine5:¬Mine L5 H6 w3.heap.size:=fun⟨b,r,hb,e⟩=>μD5 b (kb b r hb).1 (kb b r hb).2 e
 have l6:=(Array.getElem?_eq_some_iff.1 D6).1
 have hID:¬L7.I w3.heap.size:=by
  intro h
  rcases hx7.new _ h with h | h | h
  ·rcases x5.new _ h with h | h | h
   ·rw[hL4]at h
    have:=hi3.heap.lt _ h
    omega
   ·omega
   ·exact notmine h
  ·exact absurd l6 (by have h':w6.heap.size<=w3.heap.size:=h;omega)
  ·exact notmine5 h
 obtain⟨ok8,m8⟩:=E5e (o':=.deferred none) hi7.heap D7 (fun arr ty fz e=>by cases e) hID fun b r hb e=>by
  rcases hx7.mine _ ⟨b,r,hb,e⟩with h | h
  ·exact absurd l6 (by have h':w6.heap.size<=w3.heap.size:=h;omega)
  ·exact notmine5 h
 refine⟨(fun e=>by cases e),.inl ⟨w3.heap.size,_,rfl,run_takeDeferred D7,?_⟩⟩
 have hi8:Interp Try.prog G 0 L7 ⟨[(2,rowP ePth 1 (A1d a)),(18,rowP ePth 1 (A1d a)),(3,.ptr 2 0)],H6,5,19⟩ a0 (w7.putObj w3.heap.size (.deferred none)):=⟨ok8,hi7.nx,hi7.base,hi7.size,hi7.defers,fun k p h=>RepV.keep m8 p (hi7.env k p h)⟩
 have hres:A5r Try.prog Try.f39 ⟨[(2,rowP ePth 1 (A1d a)),(18,rowP ePth 1 (A1d a)),(3,.ptr 2 0)],H6,5,19⟩=some (rowP ePth 1 (A1d a)):=by
  unfold A5r
  rw[r39]
  rfl
 obtain⟨v,hrun8,hv8⟩:=A8u hi8 hres
 have hT:=A0j.toT (e:=ePth) (ty:=33) (l:=A1d a) (.inr k1)
 refine⟨v,hrun8,v,A0k ePth (A1d a),fun g=>L7.I g\/Lent L7 H6 (B1y 1 (A1d a)) g,rfl,rfl,C6e ok8 _ hT hv8 _ (fun b hb=>hb),xall.outer.trans ⟨rfl,rfl,rfl⟩,?_,fun g hg=>?_,fun g hg=>.inl (xall.more g (hI0▸hg)),fun g hg=>?_,fun g hg=>?_⟩
 ·rw[World.putObj_size]
  exact xall.size
 ·rw[World.putObj_heap_other (by omega)]
  exact xall.same g hg (nomine g)
 ·rcases hg with hg | ⟨b,_,⟨r,hr⟩,e⟩
  ·rcases xall.new g hg with h | h | h
   ·exact .inl (hI0▸h)
   ·exact .inr h
   ·exact absurd h (nomine g)
  ·rcases xall.mine g ⟨b,r,hr,e⟩with h | h
   ·exact .inr h
   ·exact absurd h (nomine g)
 ·rcases hg with hg | ⟨b,_,⟨r,hr⟩,rfl⟩
  ·exact ok8.lt g hg
  ·exact(ok8.rep b r hr).lt
end
noncomputable def E8x:List T->Option T:=g1 tFS fun a=>open Classical in if A2b a then some (A0k ePth (A1d a))else none
theorem E1m:GOK Try.prog G 39 E8x:=C4w fun u a r hu hr=>by
 obtain⟨t,rfl,ht⟩:=hu
 split at hr
 ·rename_i h
  injection hr with hr
  subst hr
  obtain⟨hs,ty,nf,hv⟩:=h
  exact F3i ht hv hs
 ·cases hr
theorem C1p {t:T} {a:List Nd} (ht:IsS eNd t a) (h:A2b a):E8x [.ag [t]]=some (A0k ePth (A1d a)):=(C4x (τ:=tFS) ⟨t,rfl,ht⟩).trans (if_pos h)
theorem A2b.first {a:List Nd} (h:A2b a):C3m a (A1d a):=by
 obtain⟨_,ty,nf,hv⟩:=h
 exact G4q hv
theorem A2b.short {a:List Nd} (h:A2b a) (n:Nat):((A1d a).getD n []).length<=100000:=by
 obtain⟨hs,ty,nf,hv⟩:=h
 rw[List.getD_eq_getElem?_getD]
 cases e:(A1d a)[n]? with
 | none=>simp
 | some p=>
  have h1:=C9x hv (List.mem_of_getElem? e)
  have h2:=hs.len
  simp only[Option.getD_some]
  omega
theorem G0g {a:List Nd} (h:A2b a) {n:Nat} (hn:n<a.length):(A1d a)[n]?=some ((A1d a).getD n []):=by
 have hl:n<(A1d a).length:=by rw[h.first.len];exact hn
 rw[List.getD_eq_getElem?_getD,List.getElem?_eq_getElem hl]
 rfl
def eShr:Enc (List Int×List Int):=⟨2,fun x=>[A0k eInt x.1,A0k eInt x.2],fun _=>rfl,by omega,fun a b h=>by
 injection h with h1 h2
 injection h2 with h2 _
 obtain⟨a1,a2⟩:=a
 obtain⟨b1,b2⟩:=b
 have e1:a1=b1:=(tSl eInt).uniq _ _ _ (IsS.tree eInt a1) (h1▸IsS.tree eInt b1)
 have e2:a2=b2:=(tSl eInt).uniq _ _ _ (IsS.tree eInt a2) (h2▸IsS.tree eInt b2)
 rw[e1,e2]⟩
section
variable {P : Program} {B : Nat}
theorem G5b {α:Type} {e:Enc α} {ty b:Nat} {H:Heap} {l:List α} (h:A0j e ty H b l):frzP H [b] (rowP e b l) = .t (A0k e l):=by
 unfold frzP
 rw[h.toT]
 cases l<;>simp[B1y]
theorem G0h {α:Type} {e:Enc α} {ty b c:Nat} {H:Heap} {l:List α} (h:A0j e ty H c l) (hc:c≠b):frzP H [b] (rowP e c l)=rowP e c l:=by
 unfold frzP
 rw[h.toT]
 cases l with
 | nil=>rfl
 | cons x r=>simp[B1y,hc]
theorem G0i {α:Type} {e:Enc α} {ty:Nat} {H:Heap} {F:List Nat} (l:List α):A4f H F (A1g e ty l)=A1g e ty l:=by
 simp only[A4f,A1g,List.map_map]
 congr 1
theorem G5c (F:List Nat) {env env':List (Nat×PV)} {H R:Heap} {nx nx' n:Nat} (hB:B<=nx') (hR:∀q∈R,q.1∉F/\(∃r0,Abs.look H q.1=some r0/\A4f H F r0=q.2)/\q.1<nx'/\A0z nx' q.2=true)
  (he:∀q∈env',(∃p0,Abs.look env q.1=some p0/\frzP H F p0=q.2)/\under nx' q.2=true):Sub P G B ⟨env,H,nx,n⟩ ⟨env',R,nx',n⟩:=by
 refine(B0e F).trans ?_
 unfold A0b.frz
 refine B8y hB (fun q hq=>?_) fun q hq=>?_
 ·obtain⟨h1,⟨r0,h2,h3⟩,h4,h5⟩:=hR q hq
  refine⟨?_,h4,h5⟩
  rw[A5v,B4z _ _ _ h1,h2,<-h3]
  rfl
 ·obtain⟨⟨p0,h1,h2⟩,h3⟩:=he q hq
  refine⟨?_,h3⟩
  rw[A5v,h1,<-h2]
  rfl
end
def shUp (a:List Nd) (F:List (List Int)) (n:Nat):List (List Int×List Int):=(List.range n).flatMap fun n=>(A2s a n).filterMap (eqsN F n)
def shIn (a:List Nd) (F:List (List Int)) (n k:Nat):List (List Int×List Int):=shUp a F n++((A2s a n).take k).filterMap (eqsN F n)
theorem E1n (a:List Nd) (F:List (List Int)) (n:Nat):shUp a F (n+1)=shIn a F n (A2s a n).length:=by
 unfold shUp shIn
 rw[List.range_succ,List.flatMap_append,List.take_length]
 simp[shUp]
theorem G0j {a:List Nd} {F:List (List Int)} {n k:Nat} {c:Arc} (h:(A2s a n)[k]?=some c):shIn a F n (k+1)=shIn a F n k++(eqsN F n c).toList:=by
 unfold shIn
 rw[List.take_add_one,h,List.filterMap_append,<-List.append_assoc]
 cases e:eqsN F n c<;>simp[e]
theorem D6z {a:List Nd} (hs:A3g a) (F:List (List Int)):∀n,n<=a.length->(shUp a F n).length<=n*1000000
 | 0,_=>by simp[shUp]
 | n+1,hn=>by
  have ih:=D6z hs F n (by omega)
  have h1:(A2s a n).length<=1000000:=by
   unfold A2s
   have hm:a[n]?=some (ndAt a (n:Int)):=by
    have:=D6i (l:=a) (k:=(n:Int)) (by omega) (by omega)
    rwa[Int.toNat_natCast]at this
   exact hs.arcs _ (List.mem_of_getElem? hm)
  have h2:=List.length_filterMap_le (eqsN F n) (A2s a n)
  rw[E1n]
  unfold shIn
  rw[List.length_append,List.take_length,Nat.succ_mul]
  omega
theorem G5d {a:List Nd} (hs:A3g a) (F:List (List Int)) {n k:Nat} (hn:n<a.length):(shIn a F n k).length<=200000000000:=by
 have h0:=D6z hs F n (by omega)
 have h1:(A2s a n).length<=1000000:=by
  unfold A2s
  have hm:a[n]?=some (ndAt a (n:Int)):=by
   have:=D6i (l:=a) (k:=(n:Int)) (by omega) (by omega)
   rwa[Int.toNat_natCast]at this
  exact hs.arcs _ (List.mem_of_getElem? hm)
 have h2:=List.length_filterMap_le (eqsN F n) ((A2s a n).take k)
 have h3:((A2s a n).take k).length<=(A2s a n).length:=by rw[List.length_take];omega
 have h4:=hs.len
 have h5:n*1000000<=100000*1000000:=Nat.mul_le_mul_right _ (by omega)
 unfold shIn
 rw[List.length_append]
 omega
noncomputable def tx39:Tbl:=[(39,E8x),(74,gEqI)]
theorem cx39:Ctx Try.prog G (orh tx39 hx30):=(A1t.cons E1m (.cons G8v .nil)).ctxH (A8b.cons E1e .nil) A1u
def S43 (t ft:T) (len:Nat) (out:List (List Int×List Int)) (i:Nat):A0b:=⟨[(15,.t (iv (i:Int))),(14,.t (iv (len:Int))),(13,.t t),(4,rowP eShr 0 out),(3,.t ft)],rowH eShr 68 0 out,1,57⟩
def S43i (t ft:T) (len n:Nat) (ta:T) (kl:Nat) (out:List (List Int×List Int)) (k:Nat):A0b:=
 ⟨[(23,.t (iv (k:Int))),(22,.t (iv (kl:Int))),(21,.t ta),(5,.t (iv (n:Int))),(15,.t (iv (n:Int))),(14,.t (iv (len:Int))),(13,.t t),(4,rowP eShr 0 out),(3,.t ft)],rowH eShr 68 0 out,1,57⟩
section
variable {t : T} {a : List Nd}
set_option maxHeartbeats 4000000 in
theorem E5g (ht:IsS eNd t a) (h:A2b a):A0y Try.prog G 43 [.ag [t]] (· = A0k eShr (A3c a (A1d a))):=by
 have cp:A0w (.t (.ag [t]))=some [.t t]:=rfl
 have ag:agOf [.t t] = .t (.ag [t]):=rfl
 have gf:=C1p ht h
 have hs:=h.1
 have hal:=hs.len
 have hfs:=h.short
 have hfg:∀n,n<a.length->(A1d a)[n]?=some ((A1d a).getD n []):=fun n hn=>G0g h hn
 have hFl:=h.first.len
 have hbr:∀n,n<a.length->∀c∈A2s a n,0<=c.to/\c.to.toNat<a.length:=by
  obtain⟨_,ty,nf,hv⟩:=h
  exact fun n hn c hc=>hv.tor hn hc
 have hIF:IsS ePth (A0k ePth (A1d a)) (A1d a):=IsS.tree _ _
 have hsh:A3c a (A1d a)=shUp a (A1d a) a.length:=rfl
 rw[hsh]
 generalize A1d a=F at *
 generalize A0k ePth F=ft at *
 refine D6g.call rfl ?_
 unfold C1d
 refine A0a cx39 ?_
 simp -implicitDefEqProofs [cp]
 refine A0a cx39 ?_
 simp -implicitDefEqProofs [A0f,ag,tx39,gf]
 refine A0a cx39 ?_
 simp -implicitDefEqProofs
 refine A0s (fun _:Unit=>S43 t ft a.length (shUp a F a.length) a.length) (fun _=>True) (fun _=>rfl) ?_ ?_
 ·refine A0a cx39 ?_
  simp -implicitDefEqProofs [A0f,ht.len]
  refine A0h ?_
  refine A1b (fun n=>S43 t ft a.length (shUp a F n) n) a.length (fun _=>rfl) ?_ rfl ?_ ?_
  ·exact A0i (k:=0) (A0j.nil _ _ _ _) (by omega) (by omega) (by simp -implicitDefEqProofs [shUp,rowP,ren,under])
  ·intro n hn
   obtain⟨x,hx⟩:∃x,a[n]?=some x:=⟨_,List.getElem?_eq_getElem hn⟩
   have hxa:=hs.arcs x (List.mem_of_getElem? hx)
   have ea:A2s a n=x.arcs:=by unfold A2s;rw[D5u hx]
   have ix:=B6m ht hx
   have e1:IntKind.i64.wrap ((n:Int)+1)=((n+1:Nat):Int):=A0l (by omega) (by omega)
   have cn:A0w (.t (.ag [iv x.type,x.tree]))=some [.t (iv x.type),.t x.tree]:=rfl
   refine A0a cx39 ?_
   simp -implicitDefEqProofs [S43,hn]
   refine A0a cx39 ?_
   simp -implicitDefEqProofs
   refine A0s (fun _:Unit=>S43 t ft a.length (shUp a F (n+1)) n) (fun _=>True) (fun _=>rfl) ?_ ?_
   ·refine A0h ?_
    obtain⟨H0,hH0⟩:∃H0,H0=rowH eShr 68 0 (shUp a F n):=⟨_,rfl⟩
    have lt:∀cs,A0f true 2 H0 (.t (.pt (iv x.type::x.tree::cs)))=some (.t (.ag [iv x.type,x.tree])):=fun cs=>by simp[A0f]
    rw[<-hH0]
    refine A0a cx39 ?_
    simp -implicitDefEqProofs [ix,lt,A1e,cn,A1y]
    refine A0a cx39 ?_
    simp -implicitDefEqProofs [A0f,x.ok.len]
    refine A0h ?_
    refine A1b (fun k=>S43i t ft a.length n x.tree x.arcs.length (shIn a F n k) k) x.arcs.length (fun _=>rfl) ?_ rfl ?_ ?_
    ·have e0:shIn a F n 0=shUp a F n:=by simp[shIn]
     rw[hH0]
     unfold S43i
     rw[e0]
     exact A0i (k:=0) ((A0j.head' _ _ _ _).cons (by omega)) (by omega) (by omega) (by simp -implicitDefEqProofs [A0g,A0e,ren,under])
    ·intro k hk
     obtain⟨c,hc⟩:∃c,x.arcs[k]?=some c:=⟨_,List.getElem?_eq_getElem hk⟩
     have hto:=hbr n hn c (by rw[ea];exact List.mem_of_getElem? hc)
     obtain⟨f,to⟩:=c
     obtain⟨m,rfl⟩:∃m:Nat,to=(m:Int):=⟨to.toNat,by simp only at hto;omega⟩
     simp only[Int.toNat_natCast]at hto
     have hm:=hto.2
     have hnext:=G0j (a:=a) (F:=F) (n:=n) (by rw[ea];exact hc)
     have hol:=G5d (k:=k) hs F hn
     have ia:=A7k x.ok hc
     have ca:A0w (.t (.ag [iv f,iv (m:Int)]))=some [.t (iv f),.t (iv (m:Int))]:=rfl
     have e2:IntKind.i64.wrap ((k:Int)+1)=((k+1:Nat):Int):=A0l (by omega) (by omega)
     obtain⟨p,hp⟩:∃p,p=F.getD n []:=⟨_,rfl⟩
     obtain⟨q,hq⟩:∃q,q=F.getD m []:=⟨_,rfl⟩
     have hFp:=hfg n hn
     have hFq:=hfg m hm
     have hpl:=hfs n
     have hql:=hfs m
     have heq:eqsN F n ⟨f,(m:Int)⟩=if p++[f]=q then none else some (q,p++[f]):=by
      unfold eqsN
      rw[Int.toNat_natCast,<-hp,<-hq]
     rw[<-hp]at hFp hpl
     rw[<-hq]at hFq hql
     rw[heq]at hnext
     have i1:A1q 1 (.t ft) (.t (iv (n:Int)))=some (.t (.pt (A0k eInt p::rest ePth F n))):=hIF.iaddr hFp .i64
     have i2:A1q 1 (.t ft) (.t (iv (m:Int)))=some (.t (.pt (A0k eInt q::rest ePth F m))):=hIF.iaddr hFq .i64
     generalize shIn a F n k=out at *
     obtain⟨H1,hH1⟩:∃H1,H1=rowH eShr 68 0 out:=⟨_,rfl⟩
     have r0:A0j eShr 68 H1 0 out:=by rw[hH1];exact A0j.head' _ _ _ _
     obtain⟨ar,har⟩:∃ar,ar=Row.cells 81 [.t (iv f),.t (iv (m:Int))]:=⟨_,rfl⟩
     have lt2:∀cs,A0f true 2 H1 (.t (.pt (iv f::iv (m:Int)::cs)))=some (.t (.ag [iv f,iv (m:Int)])):=fun cs=>by simp[A0f]
     have lp:∀(H:Heap) c cs,A0f false 1 H (.t (.pt (c::cs)))=some (.t c):=fun _ _ _=>rfl
     have l8:∀H:Heap,Abs.look H 1=some ar->A0f false 1 H (.ptr 1 0)=some (.t (iv f))/\A0f false 1 H (.ptr 1 1)=some (.t (iv (m:Int))):=fun H hl=>by
      rw[har]at hl
      exact⟨by simp[A0f,hl],by simp[A0f,hl]⟩
     have ts:A6u 3 1 [.int .i64 0] 1 [(0,.t (iv f))]=some (.t (.sl 1 [iv f])):=rfl
     have hcl:=E1f (IsS.tree eInt p) (by omega) (fun e=>by rw[e];rfl) ((1,ar)::H1) 2
     obtain⟨b2,H2,n2,ap,r2,ne2,le2,lk2,ge2⟩:=A1k (e:=eInt) (ty:=3) (by':=8) (nx:=3) (m:=[f]) (A0j.head eInt 3 ((1,ar)::H1) 2 p) (A3f (t:=.sl 1 [iv f]) (.inr rfl)) (by simp;omega) (by simp;omega)
     have ap:appM 3 1 8 (rowH eInt 3 2 p++(1,ar)::H1) 3 (rowP eInt 2 p) (.t (.sl 1 [iv f]))=some (rowP eInt b2 (p++[f]),H2,n2):=ap
     have lkH:∀c,c≠2->c<3->Abs.look H2 c=Abs.look ((1,ar)::H1) c:=fun c h1 h2=>by rw[lk2 c h1 h2,C1o h1]
     have a1:=(l8 ((1,ar)::H1) rfl).1
     have a2:=(l8 (rowH eInt 3 2 p++(1,ar)::H1) (by rw[C1o (by omega)];rfl)).1
     have a3:=(l8 H2 (by rw[lkH 1 (by omega) (by omega)];rfl)).1
     refine A0a cx39 ?_
     unfold S43i
     rw[<-hH1]
     simp -implicitDefEqProofs [hk]
     refine A0a cx39 ?_
     simp -implicitDefEqProofs
     refine A0s (fun _:Unit=>S43i t ft a.length n x.tree x.arcs.length (shIn a F n (k+1)) k) (fun _=>True) (fun _=>rfl) ?_ ?_
     ·refine A0h ?_
      refine A0a cx39 ?_
      simp -implicitDefEqProofs [ia,lt2,A1e,ca,A1y]
      rw[<-har]
      refine A0a cx39 ?_
      simp -implicitDefEqProofs [i1,lp,a1,a2,a3,ts,hx30,hcl,ap]
      refine MC.sub (s':=⟨[(9,.t (A0k eInt (p++[f]))),(8,.ptr 1 0),(23,.t (iv (k:Int))),(22,.t (iv (x.arcs.length:Int))),(21,.t x.tree),(5,.t (iv (n:Int))),(15,.t (iv (n:Int))),(14,.t (iv (a.length:Int))),(13,.t t),(4,rowP eShr 0 out),(3,.t ft)],(1,ar)::H1,2,57⟩) ?_ rfl ?_
      ·refine G5c [b2] (by omega) (fun z hz=>?_) fun z hz=>?_
       ·rcases List.mem_cons.1 hz with rfl | hz
        ·refine⟨by simp;omega,⟨ar,by rw[lkH 1 (by omega) (by omega)];rfl,?_⟩,by simp,by rw[har];rfl⟩
         rw[har]
         rfl
        ·rw[hH1]at hz
         obtain⟨h1,rfl⟩:=A1j hz
         refine⟨by simp;omega,⟨_,by rw[lkH 0 (by omega) (by omega),look_cons,if_neg (by omega)];exact r0.resolve_left h1,G0i _⟩,by simp,A0t _ _ _ _⟩
       ·have r0':A0j eShr 68 H2 0 out:=r0.imp id fun h=>by rw[lkH 0 (by omega) (by omega),look_cons,if_neg (by omega)];exact h
        have f4:=G0h (b:=b2) r0' (by omega)
        have f9:=G5b r2
        simp only[List.mem_cons,List.not_mem_nil,or_false]at hz
        rcases hz with rfl | rfl | rfl | rfl | rfl | rfl | rfl | rfl | rfl | rfl | rfl
        ·exact⟨⟨_,rfl,f9⟩,rfl⟩
        ·exact⟨⟨_,rfl,rfl⟩,rfl⟩
        ·exact⟨⟨_,rfl,rfl⟩,rfl⟩
        ·exact⟨⟨_,rfl,rfl⟩,rfl⟩
        ·exact⟨⟨_,rfl,rfl⟩,rfl⟩
        ·exact⟨⟨_,rfl,rfl⟩,rfl⟩
        ·exact⟨⟨_,rfl,rfl⟩,rfl⟩
        ·exact⟨⟨_,rfl,rfl⟩,rfl⟩
        ·exact⟨⟨_,rfl,rfl⟩,rfl⟩
        ·exact⟨⟨_,rfl,f4⟩,A0e _ _ _ _ (by omega)⟩
        ·exact⟨⟨_,rfl,rfl⟩,rfl⟩
      ·have b1:=(l8 ((1,ar)::H1) rfl).2
       have gq:=G8w (IsS.tree eInt (p++[f])) (IsS.tree eInt q) (by simp;omega)
       by_cases e:p++[f]=q
       ·have ee:B5g (p++[f]) q=true:=decide_eq_true e
        rw[ee]at gq
        rw[if_pos e]at hnext
        refine A0d cx39 ?_
        simp -implicitDefEqProofs [b1,i2,lp,tx39,gq]
        refine Next.mk () trivial ?_
        rw[hnext]
        simp only[Option.toList_none,List.append_nil]
        rw[hH1]
        exact A0i (k:=0) ((A0j.head' _ _ _ _).cons (by omega)) (by omega) (by omega) (by simp -implicitDefEqProofs [A0g,A0e,ren,under])
       ·have ee:B5g (p++[f]) q=false:=decide_eq_false e
        rw[ee]at gq
        rw[if_neg e]at hnext
        have bd:∀{Φ:A1c} {H:Heap} {nx:Nat},A0m Φ H nx (.build [(0,1),(1,1)] [.slice none 0 0,.slice none 0 0] [0,1]) [.t (A0k eInt q),.t (A0k eInt (p++[f]))]=some (.t (.ag [A0k eInt q,A0k eInt (p++[f])]),H,nx):=by
         intro Φ H nx
         cases q<;>cases p<;>rfl
        have bs:A1p 68 2 [.slice none 0 0,.slice none 0 0] 1 [(0,.t (.ag [A0k eInt q,A0k eInt (p++[f])]))] 2=some (.row 2 0 1 2,.cells 68 [.t (A0k eInt q),.t (A0k eInt (p++[f]))]):=rfl
        obtain⟨b3,H3,n3,ap3,r3,ne3,le3,lk3,ge3⟩:=A1k (e:=eShr) (ty:=68) (by':=48) (nx:=3) (m:=[(q,p++[f])]) ((r0.cons (k:=1) (r:=ar) (by omega)).cons (k:=2) (r:=.cells 68 ((eShr.enc (q,p++[f])).map .t)) (by omega)) (A3r (b:=2) (ty:=68) (q,p++[f]) (by simp)) (by simp;omega) (by simp;omega)
        have ap3:appM 68 2 48 ((2,.cells 68 [.t (A0k eInt q),.t (A0k eInt (p++[f]))])::(1,ar)::H1) 3 (rowP eShr 0 out) (.row 2 0 1 2)=some (rowP eShr b3 (out++[(q,p++[f])]),H3,n3):=ap3
        refine A0d cx39 ?_
        simp -implicitDefEqProofs [b1,i2,lp,tx39,gq,-evalK_build,bd,bs,ap3]
        refine Next.mk () trivial ?_
        rw[hnext]
        simp only[Option.toList_some]
        exact A0i (k:=b3) r3 (by omega) (by omega) (by simp -implicitDefEqProofs [A0g,A0e,ren,under])
     ·rintro _ -
      refine A0d cx39 ?_
      simp -implicitDefEqProofs [S43i,e2]
      exact A0i (k:=0) (A0j.head' _ _ _ _) (by omega) (by omega) (by simp -implicitDefEqProofs [A0g,A0e,ren,under])
    ·refine A0d cx39 ?_
     simp -implicitDefEqProofs [S43i]
     refine Next.mk () trivial ?_
     rw[E1n,ea]
     exact A0i (k:=0) (A0j.head' _ _ _ _) (by omega) (by omega) (by simp -implicitDefEqProofs [A0g,A0e,ren,under])
   ·rintro _ -
    refine A0d cx39 ?_
    simp -implicitDefEqProofs [S43,e1]
    exact A0i (k:=0) (A0j.head' _ _ _ _) (by omega) (by omega) (by simp -implicitDefEqProofs [A0g,A0e,ren,under])
  ·refine A0d cx39 ?_
   simp -implicitDefEqProofs [S43]
   exact Next.mk () trivial (A0i (k:=0) (A0j.head' _ _ _ _) (by omega) (by omega) (by simp -implicitDefEqProofs [A0g,A0e,ren,under]))
 ·rintro _ -
  have tt:=A0j.toT (A0j.head' eShr 68 0 (shUp a F a.length))
  refine A0d cx39 ?_
  simp -implicitDefEqProofs [S43,tt]
noncomputable def E5h:List T->Option T:=g1 tFS fun a=>open Classical in if A2b a then some (A0k eShr (A3c a (A1d a)))else none
theorem F3j:GOK Try.prog G 43 E5h:=C4w fun u a r hu hr=>by
 obtain⟨t,rfl,ht⟩:=hu
 split at hr
 ·rename_i h
  injection hr with hr
  subst hr
  exact E5g ht h
 ·cases hr
theorem C3p (ht:IsS eNd t a) (h:A2b a):E5h [.ag [t]]=some (A0k eShr (A3c a (A1d a))):=(C4x (τ:=tFS) ⟨t,rfl,ht⟩).trans (if_pos h)
end
section
variable {K : Type} [DecidableEq K] {succ : K -> List (Int × K)} {typ : K -> Int}
theorem E8y {L r:List K} {x:K} (h:x∈L):idxK (L++r) x=idxK L x:=by
 unfold idxK
 rw[List.idxOf_append,if_pos h]
theorem E1o {L:List K} {x y:K}:idxK (y::L) x=if y=x then 0 else idxK L x+1:=by
 unfold idxK
 rw[List.idxOf_cons]
 by_cases e:y=x
 ·subst e;simp
 ·rw[if_neg e,show(y==x)=false by simpa using e]
  rfl
theorem G5e {L:List K} {x:K} (h:x∉L):idxK (L++[x]) x=L.length:=by
 unfold idxK
 rw[List.idxOf_append,if_neg h]
 simp
theorem E8z {L r:List K} {ar:List (Int×K)} (h:∀c∈ar,c.2∈L):ar.map (arcK (L++r))=ar.map (arcK L):=
 List.map_congr_left fun c hc=>by unfold arcK;rw[E8y (h c hc)]
theorem G9t {L r:List K} {x:K} (h:∀c∈succ x,c.2∈L):ndK succ typ (L++r) x=ndK succ typ L x:=by
 unfold ndK
 rw[E8z h]
def B3h (succ:K->List (Int×K)) (typ:K->Int) (n:Nat) (L:List K):List Nd:=(L.drop n).map (ndK succ typ L)
theorem G0k {n:Nat} {L1 L2:List K} (h:∃r,L2=L1++r) (hc:∀x∈L1.drop n,∀c∈succ x,c.2∈L1) (hn:n<=L1.length):B3h succ typ n L2=B3h succ typ n L1++B3h succ typ L1.length L2:=by
 obtain⟨r,rfl⟩:=h
 unfold B3h
 rw[List.drop_append_of_le_length hn,List.map_append,List.drop_left]
 congr 1
 exact List.map_congr_left fun x hx=>G9t (hc x hx)
theorem G0l (L:List K):B3h succ typ L.length L=[]:=by simp[B3h]
theorem G0m {U:List K}:∀{L:List K},L.Nodup->(∀y∈L,y∈U)->L.length+unv U L<=U.length
 | L,hn,hs=>by
  have key:∀(L M:List K),(L++M).Nodup->(∀y∈L++M,y∈U)->M.length+unv U (L++M)<=unv U L:=by
   intro L M
   induction M generalizing L with
   | nil=>intro _ _;simp
   | cons y M ih=>
    intro hn hs
    have e:L++y::M=(L++[y])++M:=by simp
    rw[e]at hn hs ⊢
    have h1:=ih (L++[y]) hn hs
    have hy:y∉L:=by
     have:=(List.nodup_append.1 hn).1
     have:=(List.nodup_append.1 this).2.2
     exact fun hm=>this y hm y (by simp) rfl
    have h2:=B9d (hs y (by simp)) hy
    rw[List.length_cons]
    omega
  have:=key [] L (by simpa using hn) (by simpa using hs)
  rw[B5a]at this
  simpa using this
end
def mapF (n:Nat):List (Nat×Nat)->List (Key×Value)
 | []=>[]
 | p::r=>(.n [(p.1:Int),(p.2:Int)],.int .i64 (n:Int))::mapF (n+1) r
theorem E9a {p q:Nat×Nat}:(Key.n [(p.1:Int),(p.2:Int)] = .n [(q.1:Int),(q.2:Int)]) ↔ p=q:=by
 obtain⟨a,b⟩:=p
 obtain⟨c,d⟩:=q
 simp
 omega
theorem E1p (p:Nat×Nat):∀(L:List (Nat×Nat)) (n:Nat),getK (mapF n L) (.n [(p.1:Int),(p.2:Int)])=if p∈L then some (.int .i64 ((n+idxK L p:Nat):Int))else none
 | [],n=>by simp[mapF,getK]
 | q::L,n=>by
  unfold mapF getK
  have ih:=E1p p L (n+1)
  by_cases e:q=p
  ·subst e
   rw[if_pos rfl,if_pos (by simp),E1o,if_pos rfl]
   rfl
  ·rw[if_neg (fun h=>e (E9a.1 h)),ih]
   have e':¬p=q:=fun h=>e h.symm
   by_cases hm:p∈L
   ·have hi:idxK (q::L) p=idxK L p+1:=by rw[E1o,if_neg e]
    rw[if_pos hm,if_pos (by simp[hm]),hi,show n+1+idxK L p=n+(idxK L p+1)by omega]
   ·rw[if_neg hm,if_neg (by simp[hm,e'])]
theorem E1q (p:Nat×Nat):∀(L:List (Nat×Nat)) (n:Nat),p∉L->setK (mapF n L) (.n [(p.1:Int),(p.2:Int)]) (.int .i64 ((n+L.length:Nat):Int))=mapF n (L++[p])
 | [],n,_=>by simp[mapF,setK]
 | q::L,n,h=>by
  have e:¬q=p:=fun e=>h (by simp[e])
  show setK ((.n [(q.1:Int),(q.2:Int)],.int .i64 (n:Int))::mapF (n+1) L) _ _=(.n [(q.1:Int),(q.2:Int)],.int .i64 (n:Int))::mapF (n+1) (L++[p])
  unfold setK
  rw[if_neg (fun h'=>e (E9a.1 h'))]
  have ih:=E1q p L (n+1) fun hm=>h (by simp[hm])
  rw[List.length_cons,show n+(L.length+1)=n+1+L.length by omega,ih]
section
variable {K : Type} [DecidableEq K] {succ : K -> List (Int × K)} {typ : K -> Int} {U : List K}
def vis (succ:K->List (Int×K)) (k:Nat) (x:K) (L:List K):List K:=if x∈L then L else dfs succ k x L
theorem G9u (hU:Closed succ U) {k:Nat} {x:K} {L:List K} (hx:x∈U) (hk:unv U L<=k):Ran succ U L (vis succ k x L)/\x∈vis succ k x L:=by
 unfold vis
 by_cases h:x∈L
 ·rw[if_pos h]
  exact⟨Ran.refl _ _ _,h⟩
 ·rw[if_neg h]
  exact B9e hU k x L hx h hk
def midK (succ:K->List (Int×K)) (k:Nat) (x:K) (L:List K) (D:List (Int×K)):List K:=D.foldl (A4l (dfs succ k)) (L++[x])
theorem G9v {k:Nat} {x:K} {L:List K} (h:x∉L):midK succ k x L (succ x)=vis succ (k+1) x L:=by
 unfold vis
 rw[if_neg h]
 rfl
theorem E9b {k:Nat} {x:K} {L:List K} {D:List (Int×K)} {c:Int×K}:midK succ k x L (D++[c])=vis succ k c.2 (midK succ k x L D):=by
 unfold midK
 rw[List.foldl_append]
 rfl
theorem G0n (hU:Closed succ U) {k:Nat} {x:K} {L:List K} (hx:x∈U) (hn:x∉L) (hk:unv U L<=k+1) {D:List (Int×K)} (hD:∀c∈D,c.2∈U) :
  Ran succ U (L++[x]) (midK succ k x L D)/\(∀c∈D,c.2∈midK succ k x L D)/\unv U (midK succ k x L D)<=k/\L.length+1<=(midK succ k x L D).length:=by
 have hk':unv U (L++[x])<=k:=by have:=B9d hx hn;omega
 obtain⟨h1,h2⟩:=D6n (B9e hU k) D (L++[x]) hD hk'
 refine⟨h1,h2,Nat.le_trans (E8c fun y hy=>h1.mem hy) hk',?_⟩
 obtain⟨r,e⟩:=h1.pre
 show _<=(D.foldl (A4l (dfs succ k)) (L++[x])).length
 rw[e]
 simp
theorem G5f (hU:Closed succ U) {k:Nat} {x:K} {L:List K} (hL:L.Nodup) (hx:x∈U) (hn:x∉L) (hk:unv U L<=k+1) {D:List (Int×K)} (hD:∀c∈D,c.2∈U) {c:Int×K} (hc:c.2∈U) :
  B3h succ typ (L.length+1) (midK succ k x L (D++[c]))=B3h succ typ (L.length+1) (midK succ k x L D)++B3h succ typ (midK succ k x L D).length (midK succ k x L (D++[c])) /\
  (D++[c]).map (arcK (midK succ k x L (D++[c])))=D.map (arcK (midK succ k x L D))++[⟨c.1,(idxK (midK succ k x L (D++[c])) c.2:Int)⟩]:=by
 obtain⟨h1,h2,h3,h4⟩:=G0n hU hx hn hk hD
 rw[E9b]
 obtain⟨g1,g2⟩:=G9u hU hc h3
 refine⟨G0k g1.pre (fun y hy d hd=>?_) h4,?_⟩
 ·have hym:=List.mem_of_mem_drop hy
  obtain⟨r,e⟩:=h1.pre
  have hnd:(midK succ k x L D).Nodup:=h1.nodup (by
   rw[List.nodup_append]
   exact⟨hL,by simp,fun y hy z hz e'=>by rw[List.mem_singleton]at hz;rw[e',hz]at hy;exact hn hy⟩)
  rw[e,show L.length+1=(L++[x]).length by simp,List.drop_left]at hy
  have hyL:y∉L++[x]:=fun hm=>by
   rw[e]at hnd
   exact(List.nodup_append.1 hnd).2.2 y hm y hy rfl
  exact h1.closed y hym hyL d hd
 ·obtain⟨r,e⟩:=g1.pre
  rw[List.map_append,e,E8z h2]
  rfl
end
end Go.Proofs.Ytbiadmfmjnoecaa
