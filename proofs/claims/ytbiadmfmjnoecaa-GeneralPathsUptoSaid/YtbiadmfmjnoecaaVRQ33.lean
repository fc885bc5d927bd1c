/-
 Auxiliary facts. No statement of the program stands here.
-/
import Derived.Test.YtbiadmfmjnoecaaVRQ32
import Derived.RangeFuncRecord
import Derived.TacticsIn
import Derived.OrdersIn
namespace Go.Abs
set_option linter.unusedSimpArgs false
set_option linter.unusedVariables false
open Go
section
variable {P : Program} {G : A1f} {B : Nat} {s : A0b} {o : Oper} {n : Nat}
abbrev F2u (ro:Option Nat):Fence:={ Fence.wide with round:=ro }
theorem F8m {ro:Option Nat} {a:Act} {w:World} {K:Act->World->Prop} {R:Exit->Act->World->Prop} (hnd:ro=none\/∀c,o.op ≠ .defer c) (h:o.wp P a w K R) :
  o.wpIn (F2u ro) n P a w K R:=by
 refine⟨fun _ _=>trivial,?_⟩
 have e:o.semAt ro a.eval=execOp a.eval o:=by
  rcases hnd with rfl | h
  ·rfl
  ·exact Oper.semAt_eq _ _ _ h
 show o.uponIn (F2u ro) n P a K R ((o.semAt ro a.eval).run P w)
 rw[e]
 unfold Oper.wp at h
 generalize (execOp a.eval o).run P w=r at *
 cases r with
 | ok x w'=>
  cases x<;>simp only[Oper.upon]at h
  case value=>exact h
  case skip=>exact h
  case defer=>exact h
  case enter f args=>exact⟨fun h=>(by cases h),callsIn_wide.2 h⟩
  case row row args=>
   refine⟨fun h=>(by cases h),fun c cs _=>?_⟩
   obtain⟨v,w2,hR,hs⟩:=h c cs
   exact⟨v,w2,hR,stepsIn_wide.2 hs⟩
 | halt x w'=>
  cases x<;>simp only[Oper.upon]at h
  case panic=>exact h
theorem D6c {ro:Option Nat} {ops:Array Oper} {Q:Exit->Act->World->Prop} (hQ:¬LetsOut Q):∀(l:List Oper) {a:Act} {w:World},(ro=none\/∀o∈l,∀c,o.op ≠ .defer c)->wpList P ops Q l a w->wpListIn (F2u ro) n P ops Q l a w
 | [],_,_,_,h=>h
 | o::l,a,w,hnd,h=>by
  have hnd':=hnd.imp id fun h o ho=>h o (List.mem_cons_of_mem _ ho)
  unfold wpList at h
  unfold wpListIn
  split
  ·rename_i hw
   rw[if_pos hw]at h
   rcases h with h | ⟨_,h⟩
   ·exact Oper.wpIn_mono (fun a w h=>D6c hQ l hnd' h) (F8m (hnd.imp id fun h=>h o List.mem_cons_self) h)
   ·exact absurd h hQ
  ·rename_i hw
   rw[if_neg hw]at h
   exact⟨fun _ _=>trivial,D6c hQ l hnd' h⟩
theorem F8n {ro:Option Nat} {id:Nat} {ops:Array Oper} {Q:A0b->Prop} (hnd:ro=none\/∀o∈ops.toList,∀c,o.op ≠ .defer c) (h:AOps P G B ops ops.toList Q s) {L:Loc} {a:Act} {w:World} (hi:Interp P G B L s a w) :
  (Code.region id ops false).wpIn (F2u ro) n P (Post P G B (fun e s'=>e = .normal/\Q s') L s.H w) a w:=by
 have:=h L a w hi
 refine wpIn_region ?_
 rw[List.range_eq_range',<-Array.length_toList,wpOpsIn_eq_wpListIn ops.toList 0 (by simp)]
 refine D6c ?_ _ hnd this
 rintro⟨a0,w0,s1,L1,⟨e,_⟩,_⟩
 cases e
def G3z (P:Program) (G:A1f) (B:Nat) (o:Oper) (s:A0b) (r:PV) (H':Heap) (nx':Nat):Prop:=
 ∀(L:Loc) (a:Act) (w:World) (R:Exit->Act->World->Prop),Interp P G B L s a w->o.wpIn Fence.wide 0 P a w (fun a' w'=>∃v L',a'=a.put o.dst v/\RepV P L' w' r v/\A1o P G L' H' w'/\L'.nx=nx'/\Mono L w L' w'/\Ext L s.H w L' H' w') R
theorem AOp.fenced {r:PV} {H':Heap} {nx':Nat} (h:AOp P G B o s r H' nx'):G3z P G B o s r H' nx':=fun L a w R hi=>
 F8m (ro:=none) (.inl rfl) (A2t (fun _ _ h=>h) (fun _ _ _ h=>h.elim) (h L a w hi))
def F8o (P:Program) (G:A1f) (l:Nat) (ps:List PV) (H:Heap) (nx:Nat) (r:PV) (H':Heap) (nx':Nat):Prop:=
 ∀(L:Loc) (w:World) (us:Array Value),A1o P G L H w->L.nx=nx->A1a P L w ps us.toList ->
  ∃fn tmps assign body,(Instr.yield l us).run P w = .ok (.round l fn tmps assign body) w /\
   RoundIn Fence.wide 0 P l fn tmps assign body w fun e w'=>∃v L',e = .returned v/\RepV P L' w' r v/\A1o P G L' H' w'/\L'.nx=nx'/\Mono L w L' w'/\Ext L H w L' H' w'
theorem F8p {x:Operand} {args:Array Operand} {ts:Array TypeId} {l:Nat} {r:PV} {H':Heap} {nx':Nat} (ho:o.op = .call ⟨.value x,args,ts⟩) (hx:s.ev G x = .t (.v (.func (.yield l) #[] #[])))
  (hy:F8o P G l (args.toList.map (s.ev G)) s.H s.nx r H' nx'):G3z P G B o s r H' nx':=fun L a w R hi=>by
 obtain⟨fn,tmps,assign,body,hrun,hR⟩:=hy L w _ hi.heap hi.nx (C5m hi args)
 have hv:=hi.ev x
 rw[hx]at hv
 simp only[RepV,RepT]at hv
 refine⟨fun _ _=>trivial,?_⟩
 have e:(o.semAt Fence.wide.round a.eval).run P w = .ok (.round l fn tmps assign body) w:=by
  show(execOp a.eval o).run P w=_
  simp[execOp,ho,resolve,hv,Deferred.ofValue,invoke,hrun]
 rw[e]
 refine⟨fun h=>(by cases h),RoundIn.mono hR ?_⟩
 rintro e w' ⟨v,L',rfl,hv,hok,hnx,hm,hx⟩
 exact⟨v,L',rfl,hv,hok,hnx,hm,hx⟩
theorem D1d (hmix:P.follows .mixedOrders=true) {N:Nat} {Q:Exit->A0b->Prop} {id:Nat} {ops:Array Oper}
  (can:(Nat->Bool)->A0b) (Ok:(Nat->Bool)->Prop) (hn:∀b,(can b).n=N)
  (back:∀(i:Nat) o,ops[i]?=some o->∀e∈o.after.toList,Region.binds .any e=true->e.on<i)
  (h0:Sub P G B s (can fun _=>false)) (ok0:Ok fun _=>false)
  (step:∀b,Ok b->∀(i:Nat) o,ops[i]?=some o->b i=false->(∀e∈o.after.toList,Region.binds .any e=true->b e.on=true) ->
   (can b).wants ops o=some true/\(∀k,o.dst=some k->k<N)/\∃r H' nx',G3z P G B o (can b) r H' nx'/\Ok (fun j=>if i=j then true else b j) /\
    Sub P G B (({ can b with H:=H',nx:=nx' }:A0b).put o.dst r) (can fun j=>if i=j then true else b j))
  (stop:∀b,Ok b->(∀i,i<ops.size->b i=true)->Q .normal (can b)):A3l P G B (.region id ops true) Q s:=by
 intro L0 a0 w0 hi0
 refine wpIn_wide (n:=0).1 (wpIn_region_any hmix ?_)
 have main:∀(fuel:Nat) (S:Array Bool) (L:Loc) (a:Act) (w:World),S.size=ops.size->ops.size<=cnt S+fuel->Ok (fun i=>S.getD i false)->Interp P G B L (can fun i=>S.getD i false) a w ->
   Ext L0 s.H w0 L (can fun i=>S.getD i false).H w->(∀b,b<B->L.μ b=L0.μ b)->wpAnyIn Fence.wide 0 P .any ops (Post P G B Q L0 s.H w0) fuel S a w:=by
  intro fuel
  induction fuel with
  | zero=>
   intro S L a w hs hc hok hi hx hμ
   have hall:=D4h (S:=S) (by omega)
   refine⟨?_,_,L,stop _ hok (fun i hi=>hall i (by omega)),hi,hx,hμ⟩
   rw[List.eq_nil_iff_forall_not_mem]
   intro i hi
   obtain⟨h1,h2,_⟩:=A8q hi
   rw[A5u (by omega),hall i (by omega)]at h2
   cases h2
  | succ fuel ih=>
   intro S L a w hs hc hok hi hx hμ
   refine⟨fun hr=>⟨_,L,stop _ hok (fun i=>?_),hi,hx,hμ⟩,fun i hir=>?_⟩
   ·induction i using Nat.strongRecOn with
    | _ i ihi=>
     intro hil
     cases hS':S.getD i false with
     | true=>rfl
     | false=>
      exfalso
      have:i∈Region.ready .any ops S:=D4g (o:=ops[i]) (Array.getElem?_eq_getElem hil) (by rw[A5u (by omega)];exact hS')
       (fun e he hb=>by
        have:=back i _ (Array.getElem?_eq_getElem hil) e he hb
        exact ihi _ this (by omega))
      rw[hr]at this
      cases this
   ·obtain⟨hi1,hun,o,ho,hp⟩:=A8q hir
    rw[A5u (by omega)]at hun
    obtain⟨hww,hd,r,H',nx',haop,hok',hsub⟩:=step _ hok i o ho hun hp
    have hd':∀k,o.dst=some k->k<(can fun i=>S.getD i false).n:=fun k hk=>by rw[hn];exact hd k hk
    have hset:(fun j=>(S.setIfInBounds i true).getD j false)=fun j=>if i=j then true else S.getD j false:=by
     funext j
     exact A5b S i j (by omega)
    have hc':ops.size<=cnt (S.setIfInBounds i true)+fuel:=by rw[E2e (by omega) hun];omega
    unfold wpOpIn
    rw[ho]
    simp only
    rw[if_pos (hi.wants hww)]
    refine Oper.wpIn_mono ?_ (haop L a w _ hi)
    rintro a' w' ⟨v,L',rfl,hr,hheap,rfl,hmo,hxx⟩
    have hi':=B5l hi hd' hr hheap hmo
    obtain⟨L2,hi2,hx2,hμ2⟩:=hsub L' _ w' hi'
    rw[B7p]at hx2
    refine ih _ L2 _ w' (by simpa using hs) hc' (by rw[hset];exact hok') (by rw[hset];exact hi2) (by rw[hset];exact(hx.trans hxx).trans hx2) (fun b hb=>?_)
    rw[hμ2 b hb,hmo.μ b (Nat.lt_of_lt_of_le hb hi.base),hμ b hb]
 obtain⟨hok,hm,hx⟩:=hi0.heap.of_heap (w':={ w0 with drawn:=w0.drawn+1 }) ⟨rfl,rfl,rfl⟩ rfl
 have hi0':Interp P G B L0 s a0 { w0 with drawn:=w0.drawn+1 }:=⟨hok,hi0.nx,hi0.base,hi0.size,hi0.defers,fun k u hu=>RepV.keep hm u (hi0.env k u hu)⟩
 obtain⟨L1,hi1,hx1,hμ1⟩:=h0 L0 a0 _ hi0'
 have hfalse:(fun i=>(Array.replicate ops.size false).getD i false)=fun _:Nat=>false:=by
  funext i
  simp only[Array.getD_eq_getD_getElem?,Array.getElem?_replicate]
  split<;>rfl
 refine main ops.size _ L1 a0 _ (by simp) (by omega) (by rw[hfalse];exact ok0) (by rw[hfalse];exact hi1) (by rw[hfalse];exact hx.trans hx1) hμ1
theorem AOp.frz {r:PV} {H':Heap} {nx':Nat} {x:T} {F:List Nat} (h:AOp P G B o s r H' nx') (hT:toT H' r=some (x,F)):AOp P G B o s (.t x) (remAll H' F) nx':=fun L a w hi=>by
 refine A2t ?_ (fun _ _ _ h=>h) (h L a w hi)
 rintro a' w' ⟨v,L',rfl,hr,hok,hnx,hm,hx⟩
 have hm2:Mono L' w' { L' with I:=fun g=>L'.I g\/Lent L' H' F g } w':=⟨fun g hg=>⟨.inl hg,rfl⟩,Nat.le_refl _,fun _ _=>rfl,Nat.le_refl _,A3h.refl w'⟩
 refine⟨v,{ L' with I:=fun g=>L'.I g\/Lent L' H' F g },rfl,?_,⟨?_,fun b r0 hb=>?_,fun b r0 hb hI=>?_,fun b b' r0 r1 hb hb' e=>?_,fun b r0 hb=>?_,A3y hok hm2.keeps⟩,hnx,hm.trans hm2,?_⟩
 ·simp only[RepV]
  exact C6e hok r hT hr F (fun b hb=>hb)
 ·rintro b (h | ⟨k,_,⟨r,hr⟩,rfl⟩)
  ·exact hok.lt b h
  ·exact(hok.rep k r hr).lt
 ·exact(hok.rep b r0 (A1w F H' b r0 hb).1).keep hm2 rfl
 ·obtain⟨hb',hnF⟩:=A1w F H' b r0 hb
  rcases hI with hI | ⟨k,hk,⟨r1,h1⟩,e⟩
  ·exact hok.apart b r0 hb' hI
  ·exact hnF ((hok.inj k b r1 r0 h1 hb' e)▸hk)
 ·exact hok.inj b b' r0 r1 (A1w F H' b r0 hb).1 (A1w F H' b' r1 hb').1 e
 ·exact hok.nx b r0 (A1w F H' b r0 hb).1
 ·refine⟨hx.size,hx.same,fun g h=>.inl (hx.more g h),fun g h=>?_,fun g ⟨k,r,hk,e⟩=>hx.mine g ⟨k,r,(A1w F H' k r hk).1,e⟩,hx.shape,hx.outer⟩
  rcases h with h | ⟨k,_,⟨r,hr⟩,e⟩
  ·exact hx.new g h
  ·rcases hx.mine g ⟨k,r,hr,e⟩with h | h
   ·exact .inr (.inl h)
   ·exact .inr (.inr h)
theorem C1a (hmix:P.follows .mixedOrders=true) {Φ:A1c} (hΦ:Φ.Sound P G) {N:Nat} {Q:Exit->A0b->Prop} {id:Nat} {ops:Array Oper} {l:List Mini} (ha0:ops.toList.mapM (A2c P G N true ops)=some l)
  (can:(Nat->Bool)->A0b) (Ok:(Nat->Bool)->Prop) (hn:∀b,(can b).n=N)
  (back:∀(i:Nat) o,ops[i]?=some o->∀e∈o.after.toList,Region.binds .any e=true->e.on<i)
  (h0:Sub P G B s (can fun _=>false)) (ok0:Ok fun _=>false)
  (step:∀b,Ok b->∀(i:Nat) o m,ops[i]?=some o->l[i]?=some m->b i=false->(∀e∈o.after.toList,Region.binds .any e=true->b e.on=true) ->
   m.g=none/\∃r H' nx',(A0m Φ (can b).H (can b).nx m.k (m.xs.map (·.ev (can b).env))=some (r,H',nx')\/G3z P G B o (can b) r H' nx' \/
    ∃r0 H0 x F,A0m Φ (can b).H (can b).nx m.k (m.xs.map (·.ev (can b).env))=some (r0,H0,nx')/\toT H0 r0=some (x,F)/\r = .t x/\H'=remAll H0 F)/\Ok (fun j=>if i=j then true else b j) /\
    Sub P G B (({ can b with H:=H',nx:=nx' }:A0b).put m.dst r) (can fun j=>if i=j then true else b j))
  (stop:∀b,Ok b->(∀i,i<ops.size->b i=true)->Q .normal (can b)):A3l P G B (.region id ops true) Q s:=by
 have ha:=A3e ha0
 refine D1d hmix can Ok hn back h0 ok0 (fun b hok i o ho hun hp=>?_) stop
 obtain⟨m,hm,hcomp⟩:=(ha.at_ i).1 o (by simpa using ho)
 obtain⟨hk,hdst,hd,hw⟩:=A5t hcomp
 obtain⟨hg,r,H',nx',he,hok',hsub⟩:=step b hok i o m ho hm hun hp
 refine⟨by rw[hw];simp[Mini.wants,hg],hd,r,H',nx',?_,hok',by rw[<-hdst];exact hsub⟩
 rcases he with he | he | ⟨r0,H0,x,F,he,hT,rfl,rfl⟩
 ·exact(B3l hΦ hk he).fenced
 ·exact he
 ·exact((B3l hΦ hk he).frz hT).fenced
theorem B4z:∀(F:List Nat) (H:Heap) (k:Nat),k∉F->look (remAll H F) k=look H k
 | [],H,k,_=>rfl
 | b::F,H,k,h=>by
  rw[List.mem_cons,not_or]at h
  show look (remAll (rem H b) F) k=_
  rw[B4z F _ k h.2,A1m,if_neg h.1]
theorem E7x {H:Heap} {b:Nat} {q:Nat×Row} (h:q∈rem H b):q∈H/\q.1≠b:=by
 induction H with
 | nil=>simp[rem]at h
 | cons x H ih=>
  obtain⟨k,r⟩:=x
  unfold rem at h
  split at h
  ·obtain⟨h1,h2⟩:=ih h
   exact⟨List.mem_cons_of_mem _ h1,h2⟩
  ·rename_i hk
   rcases List.mem_cons.1 h with rfl | h
   ·exact⟨List.mem_cons_self,hk⟩
   ·obtain⟨h1,h2⟩:=ih h
    exact⟨List.mem_cons_of_mem _ h1,h2⟩
theorem C9k (A C:Heap) (b:Nat):look (A++C) b=(look A b).or (look C b):=by
 induction A with
 | nil=>rfl
 | cons x A ih=>
  rw[List.cons_append,look_cons,look_cons]
  split
  ·rfl
  ·exact ih
def envB:List (Nat×PV×PV)->Nat->(Nat->Bool)->List (Nat×PV)
 | [],_,_=>[]
 | (k,v,d)::r,j,b=>(k,if b j then v else d)::envB r (j+1) b
theorem C1b {b:Nat->Bool}:∀{T:List (Nat×PV×PV)} {j:Nat} {q:Nat×PV},q∈envB T j b->∃i x,T[i]?=some x/\q=(x.1,if b (j+i)then x.2.1 else x.2.2)
 | [],_,_,h=>by cases h
 | (k,v,d)::r,j,q,h=>by
  rcases List.mem_cons.1 h with rfl | h
  ·exact⟨0,_,rfl,rfl⟩
  ·obtain⟨i,x,h1,h2⟩:=C1b h
   exact⟨i+1,x,by simpa using h1,by rw[h2,show j+1+i=j+(i+1)by omega]⟩
theorem C9l {b:Nat->Bool} {E:List (Nat×PV)}:∀{T:List (Nat×PV×PV)} {j i:Nat} {x:Nat×PV×PV},(T.map (·.1)).Nodup->T[i]?=some x->look (envB T j b++E) x.1=some (if b (j+i)then x.2.1 else x.2.2)
 | [],_,_,_,_,h=>by simp at h
 | (k,v,d)::r,j,0,x,_,h=>by
  simp only[List.getElem?_cons_zero,Option.some.injEq]at h
  subst h
  simp[envB,look]
 | (k,v,d)::r,j,i+1,x,hn,h=>by
  simp only[List.getElem?_cons_succ]at h
  rw[List.map_cons,List.nodup_cons]at hn
  have hne:k≠x.1:=fun e=>hn.1 (e▸List.mem_map.2 ⟨x,List.mem_of_getElem? h,rfl⟩)
  simp only[envB,List.cons_append,look,if_neg hne]
  rw[C9l (j:=j+1) hn.2 h,show j+1+i=j+(i+1)by omega]
theorem B0m {b:Nat->Bool} {E:List (Nat×PV)} {k:Nat}:∀{T:List (Nat×PV×PV)} {j:Nat},k∉T.map (·.1)->look (envB T j b++E) k=look E k
 | [],_,_=>rfl
 | (k',v,d)::r,j,h=>by
  rw[List.map_cons,List.mem_cons,not_or]at h
  simp only[envB,List.cons_append,look,if_neg (Ne.symm h.1)]
  exact B0m h.2
theorem A9g {nx N:Nat} {env env':List (Nat×PV)} {H:Heap} (he:∀q∈env',look env q.1=some q.2):Sub P G B ⟨env,H,nx,N⟩ ⟨env',H,nx,N⟩:=by
 intro L a w hi
 refine⟨L,⟨hi.heap,hi.nx,hi.base,hi.size,hi.defers,fun k p h=>hi.env k p (he _ (A0p h))⟩,?_,fun _ _=>rfl⟩
 exact⟨Nat.le_refl _,fun _ _ _=>rfl,fun _ h=>h,fun _ h=>.inl h,fun g ⟨b,r,h,e⟩=>.inr ⟨b,r,h,e⟩,A3h.refl w,A6q.refl w⟩
theorem E0q {nx N:Nat} {env env':List (Nat×PV)} {H:Heap} (he:∀q∈env',q.2 = .dead\/look env q.1=some q.2):Sub P G B ⟨env,H,nx,N⟩ ⟨env',H,nx,N⟩:=fun L a w hi=>
 ⟨L,⟨hi.heap,hi.nx,hi.base,hi.size,hi.defers,fun k p hl=>by
  rcases he (k,p) (A0p hl)with h | h
  ·have h:p = .dead:=h
   rw[h]
   simp only[RepV]
  ·exact hi.env k p h⟩,Ext.refl _ _ _,fun _ _=>rfl⟩
theorem E7y {T:List (Nat×PV×PV)} {E:List (Nat×PV)} {H:Heap} {nx N i:Nat} {x:Nat×PV×PV} {b:Nat->Bool} (hT:(T.map (·.1)).Nodup) (hE:∀q∈E,q.1∉T.map (·.1)/\look E q.1=some q.2) (hx:T[i]?=some x) :
  Sub P G B ⟨(x.1,x.2.1)::(envB T 0 b++E),H,nx,N⟩ ⟨envB T 0 (fun j=>if i=j then true else b j)++E,H,nx,N⟩:=by
 refine A9g fun q hq=>?_
 rcases List.mem_append.1 hq with hq | hq
 ·obtain⟨j,y,h1,rfl⟩:=C1b hq
  simp only[Nat.zero_add,look]
  by_cases e:i=j
  ·subst e
   rw[hx]at h1
   injection h1 with h1
   subst h1
   simp
  ·have hne:x.1≠y.1:=fun h=>e (by
    have h2:(T.map (·.1))[i]?=(T.map (·.1))[j]?:=by rw[List.getElem?_map,List.getElem?_map,hx,h1];simp[h]
    exact(List.getElem?_inj (by simpa using (List.getElem?_eq_some_iff.1 hx).1) hT).1 h2)
   rw[if_neg hne,if_neg e,C9l hT h1,Nat.zero_add]
 ·obtain⟨h1,h2⟩:=hE q hq
  have hne:x.1≠q.1:=fun h=>h1 (h▸List.mem_map.2 ⟨x,List.mem_of_getElem? hx,rfl⟩)
  simp only[look,if_neg hne]
  rw[B0m h1]
  exact h2
mutual
theorem A9h {n:Nat} {σ:Nat->Nat} (h:∀b,b<n->σ b=b):∀p:PV,under n p=true->ren σ p=p
 | .t _,_=>by simp only[ren]
 | .row b o m z,hu=>by simp only[ren,under,decide_eq_true_eq]at hu ⊢;rw[h b hu]
 | .ptr b o,hu=>by simp only[ren,under,decide_eq_true_eq]at hu ⊢;rw[h b hu]
 | .ag cs,hu=>by simp only[ren,under]at hu ⊢;rw[B6d h cs hu]
 | .tu cs,hu=>by simp only[ren,under]at hu ⊢;rw[B6d h cs hu]
 | .fn f a c,hu=>by simp only[ren,under,Bool.and_eq_true]at hu ⊢;rw[B6d h a hu.1,B6d h c hu.2]
 | .ic t x,hu=>by simp only[ren,under]at hu ⊢;rw[A9h h x hu]
 | .mp b,hu=>by simp only[ren,under,decide_eq_true_eq]at hu ⊢;rw[h b hu]
 | .dead,_=>by simp only[ren]
theorem B6d {n:Nat} {σ:Nat->Nat} (h:∀b,b<n->σ b=b):∀ps:List PV,A1z n ps=true->renL σ ps=ps
 | [],_=>rfl
 | p::ps,hu=>by simp only[renL,A1z,Bool.and_eq_true]at hu ⊢;rw[A9h h p hu.1,B6d h ps hu.2]
end
mutual
theorem A4a {n m:Nat} (h:n<=m):∀p:PV,under n p=true->under m p=true
 | .t _,_=>by simp only[under]
 | .row b o k z,hu=>by simp only[under,decide_eq_true_eq]at hu ⊢;omega
 | .ptr b o,hu=>by simp only[under,decide_eq_true_eq]at hu ⊢;omega
 | .ag cs,hu=>by simp only[under]at hu ⊢;exact A7c h cs hu
 | .tu cs,hu=>by simp only[under]at hu ⊢;exact A7c h cs hu
 | .fn f a c,hu=>by simp only[under,Bool.and_eq_true]at hu ⊢;exact⟨A7c h a hu.1,A7c h c hu.2⟩
 | .ic t x,hu=>by simp only[under]at hu ⊢;exact A4a h x hu
 | .mp b,hu=>by simp only[under,decide_eq_true_eq]at hu ⊢;omega
 | .dead,_=>by simp only[under]
theorem A7c {n m:Nat} (h:n<=m):∀ps:List PV,A1z n ps=true->A1z m ps=true
 | [],_=>rfl
 | p::ps,hu=>by simp only[A1z,Bool.and_eq_true]at hu ⊢;exact⟨A4a h p hu.1,A7c h ps hu.2⟩
end
theorem B6e {n:Nat} {σ:Nat->Nat} (h:∀b,b<n->σ b=b) (r:Row) (hu:A0z n r=true):A2d σ r=r:=by
 cases r with
 | cells ty cs=>simp only[A2d,A0z]at hu ⊢;rw[B6d h cs hu]
 | iter t pos=>rfl
 | map kk es=>rfl
 | lp l x k p=>simp only[A2d,A0z]at hu ⊢;rw[A9h h p hu]
theorem A3w {n m:Nat} (h:n<=m) (r:Row) (hu:A0z n r=true):A0z m r=true:=by
 cases r with
 | cells ty cs=>simp only[A0z]at hu ⊢;exact A7c h cs hu
 | iter t pos=>rfl
 | map kk es=>rfl
 | lp l x k p=>simp only[A0z]at hu ⊢;exact A4a h p hu
theorem D6d {T:List (Nat×PV×PV)} {E:List (Nat×PV)} {i nx:Nat} {x:Nat×PV×PV} {r:PV} {b:Nat->Bool} {σ:Nat->Nat} (hT:(T.map (·.1)).Nodup) (hE:∀q∈E,q.1∉T.map (·.1)/\look E q.1=some q.2) (hx:T[i]?=some x)
  (hr:r=ren σ x.2.1) (hu:under nx x.2.1=true) (hf:∀(j:Nat) y,T[j]?=some y->j≠i->(b j=true->ren σ y.2.1=y.2.1/\under nx y.2.1=true)/\ren σ y.2.2=y.2.2/\under nx y.2.2=true) (hfE:∀q∈E,ren σ q.2=q.2/\under nx q.2=true) :
  ∀q∈envB T 0 (fun j=>if i=j then true else b j)++E,look ((x.1,r)::(envB T 0 b++E)) q.1=some (ren σ q.2)/\under nx q.2=true:=by
 intro q hq
 rcases List.mem_append.1 hq with hq | hq
 ·obtain⟨j,y,h1,rfl⟩:=C1b hq
  simp only[Nat.zero_add,look]
  by_cases e:i=j
  ·subst e
   rw[hx]at h1
   injection h1 with h1
   subst h1
   simp[hr,hu]
  ·have hne:x.1≠y.1:=fun h=>e (by
    have h2:(T.map (·.1))[i]?=(T.map (·.1))[j]?:=by rw[List.getElem?_map,List.getElem?_map,hx,h1];simp[h]
    exact(List.getElem?_inj (by simpa using (List.getElem?_eq_some_iff.1 hx).1) hT).1 h2)
   obtain⟨f1,f2,f3⟩:=hf j y h1 (Ne.symm e)
   rw[if_neg hne,if_neg e,C9l hT h1,Nat.zero_add]
   cases hb:b j with
   | true=>
    obtain⟨g1,g2⟩:=f1 hb
    simp only[if_true]
    exact⟨by rw[g1],g2⟩
   | false=>
    simp only[Bool.false_eq_true,if_false]
    exact⟨by rw[f2],f3⟩
 ·obtain⟨h1,h2⟩:=hE q hq
  have hne:x.1≠q.1:=fun h=>h1 (h▸List.mem_map.2 ⟨x,List.mem_of_getElem? hx,rfl⟩)
  obtain⟨f1,f2⟩:=hfE q hq
  simp only[look,if_neg hne]
  rw[B0m h1,f1]
  exact⟨h2,f2⟩
def AK (P:Program) (G:A1f) (B N:Nat) (c:Code) (Q:Exit->A0b->Prop) (s:A0b):Prop:=s.n=N->A3l P G B c Q s
variable {N : Nat} {Φ : A1c} {Q : Exit -> A0b -> Prop} {c d : Code} {x : A0n}
theorem C3k (hΦ:Ctx P G Φ) (hc:comp P G N c=some x) (h:A4q Φ x s Q):AK P G B N c Q s:=A0d hΦ h c hc
theorem A2i (hΦ:Ctx P G Φ) (hc:comp P G N c=some x) (h:A4q Φ x s (B1u (fun s1=>AK P G B N d Q s1) Q)):AK P G B N (.seq c d) Q s:=by
 obtain⟨e,s',h1,h2⟩:=A5w x h
 intro hn
 refine A8s (A8a hΦ x h1 ?_ c hc hn)
 cases e
 case normal=>exact h2 ((B2v x h1).trans hn)
 all_goals exact h2
theorem F8q {α:Type} (S:α->A0b) (Ok:α->Prop) (hN:∀a,(S a).n=N) (h1:AK P G B N c (B7u P G B S Ok Q) s) (h2:∀a,Ok a->AK P G B N d Q (S a)):AK P G B N (.seq c d) Q s:=by
 intro hn
 refine A8s (A3l.post (h1 hn) fun e s1 q=>?_)
 cases e
 case normal=>
  obtain⟨a,ha,hs⟩:=q
  exact⟨S a,hs,h2 a ha (hN a)⟩
 all_goals exact⟨s1,Sub.refl s1,q⟩
theorem C5t {id:Nat} (h:AK P G B N c (B0d id Q) s):AK P G B N (.block id c) Q s:=fun hn=>C6b (h hn)
theorem E7z {α:Type} (S:α->A0b) (μ:α->Nat) (Ok:α->Prop) (a0:α) (hN:∀a,(S a).n=N) (hok:Ok a0) (h0:Sub P G B s (S a0))
  (round:∀a,Ok a->AK P G B N c (B7u P G B S (fun a'=>Ok a'/\μ a'<μ a) Q) (S a)):AK P G B N (.loop c) Q s:=by
 intro hn
 refine A3l.sub h0 ?_
 refine D1j (fun k s=>∃a,Ok a/\μ a=k/\s=S a) (μ a0) ⟨a0,hok,rfl,rfl⟩ ?_
 rintro k s ⟨a,ha,rfl,rfl⟩
 refine(round a ha (hN a)).mono fun e s1 q=>?_
 cases e
 case normal=>obtain⟨a',h1,h2⟩:=q;exact⟨μ a',h1.2,S a',h2,a',h1.1,rfl,rfl⟩
 all_goals exact q
theorem D6e {f:FuncId} {fn:Func} {vs:List RV} {ps:List PV} {H H':Heap} {nx nx':Nat} {r:PV} (hf:P.funcs[f]?=some fn) (hb:fn.body=some c) (hname:(fn.name == "runtime.NumGoroutine")=false)
  (hrs:fn.results.toList.mapM (B6v P)=some vs) (hN:ps.length+(fn.ntmps-ps.length)=N)
  (h:AK P G nx N c (G7d P G nx vs fun r0 H0 nx0=>r0=r/\H0=H'/\nx0=nx') ⟨startsP 0 ps,H,nx,N⟩):A5s P G f ps H nx r H' nx':=by
 refine⟨⟨fn,c,hf,hb,hname⟩,fun L w us hok hnx hargs=>calls_of_wp hf hb ?_⟩
 have hlen:us.size=ps.length:=by simpa using hargs.length
 have hi:Interp P G nx L ⟨startsP 0 ps,H,nx,N⟩ { tmps:=us++Array.replicate (fn.ntmps-us.size) undef,defers:=[] } w:=by
  refine⟨hok,hnx,by rw[hnx];exact Nat.le_refl _,by simp[hlen,hN],rfl,fun k p hl=>?_⟩
  simp only[C1z]at hl
  obtain⟨_,hk⟩:=A8v _ k 0 p hl
  simp only[Nat.sub_zero]at hk
  obtain⟨x,hx,hr⟩:=hargs.at_ k hk
  have hx':us[k]?=some x:=by simpa using hx
  have hk':k<us.size:=(Array.getElem?_eq_some_iff.1 hx').1
  rw[Array.getD_eq_getD_getElem?,Array.getElem?_append_left hk',hx']
  exact hr
 refine wp_mono (h rfl L _ w hi) fun e a' w' ⟨s1,L1,q,hi1,hx,hμ⟩=>?_
 obtain⟨he,s2,rs,hsub,hres,hr,hH,hnx2⟩:=q
 obtain⟨L2,hi2,hx2,hμ2⟩:=hsub L1 a' w' hi1
 have hrv:A5r P fn s2=some (oneOf rs):=by
  unfold A5r
  rw[C1y hrs hres]
  rcases rs with _ | ⟨x,_ | ⟨y,r⟩⟩<;>rfl
 obtain⟨v,hrun,hv⟩:=A8u hi2 hrv
 have hxx:=hx.trans hx2
 have hm:Mono L w L2 w':=⟨hxx.keeps hok,by rw[hnx];exact hi2.base,fun b hb=>(hμ2 b (by omega)).trans (hμ b (by omega)),hxx.size,hxx.shape⟩
 have hfin:a'.defers=[]/\∃v,(results fn a'.tmps).run P w' = .ok v w' /\
   ∃v' L',Ending.returned v = .returned v'/\RepV P L' w' r v'/\A1o P G L' H' w'/\L'.nx=nx'/\Mono L w L' w'/\Ext L H w L' H' w':=
  ⟨hi2.defers,v,hrun,v,L2,rfl,hr▸hv,hH▸hi2.heap,hi2.nx.trans hnx2,hm,hH▸hxx⟩
 rcases he with rfl | rfl
 ·exact hfin
 ·exact hfin
end
end Go.Abs
