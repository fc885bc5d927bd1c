/-
 Auxiliary facts. No statement of the program stands here.
-/
import Derived.Test.YtbiadmfmjnoecaaVRQ05
namespace Go.Abs
set_option linter.unusedSimpArgs false
set_option linter.unusedVariables false
open Go
def D4a (P:Program) (t:TypeId):Option (Nat->Option (Nat×Nat)):=
 match P.underlying t with
 | some (.array _ e)=>(P.info? e).map fun i=>fun k=>some (k*i.size,i.size)
 | some (.struct fields)=>(fields.toList.mapM (fun f=>(P.info? f.type).map fun i=>(f.offset,i.size))).map fun places=>fun k=>places[k]?
 | _=>none
def D1o (P:Program) (t:TypeId) (parts:List (Nat×PV)):Option PV:=
 match D4a P t,A3o P t with
 | some place,some zc=>(A5q place (zc.map fun x=>.t (.v x)) parts).map agOf
 | _,_=>none
section
variable {P : Program} {G : A1f} {B : Nat} {s : A0b} {o : Oper}
theorem F4b {t:TypeId} {parts:Array (Nat×Operand)} {r:PV} (ho:o.op = .build t parts) (h:D1o P t (parts.toList.map fun p=>(p.1,s.ev G p.2))=some r):AOp P G B o s r s.H s.nx:=by
 refine A5n fun L a w hi=>?_
 unfold D1o at h
 split at h
 ·rename_i place zc hpl hzc
  cases hf:A5q place (zc.map fun x=>.t (.v x)) (parts.toList.map fun p=>(p.1,s.ev G p.2))with
  | none=>rw[hf]at h;cases h
  | some cs=>
   rw[hf]at h
   injection h with h;subst h
   unfold A3o at hzc
   split at hzc
   ·rename_i it hit
    split at hzc
    ·rename_i z hz
     split at hzc
     ·rename_i h1
      injection hzc with hzc;subst hzc
      obtain⟨hp1,hp2⟩:=D7o hi parts.toList
      obtain⟨arr,hfill,hrep,h1'⟩:=C6d (L:=L) (w:=w) _ _ _ _ z.cells hp1 hp2 (D1n P L w _) (List.all_eq_true.1 h1) hf
      have hpl2:(parts.map fun(k,x)=>(k,a.eval x)).toList=parts.toList.map fun p=>(p.1,a.eval p.2):=by simp
      have hb:P.built t (parts.map fun(k,x)=>(k,a.eval x)).toList=some arr:=by
       unfold Program.built
       unfold D4a at hpl
       rw[hpl2]
       split at hpl
       ·rename_i n e hu
        cases hie:P.info? e with
        | none=>rw[hie]at hpl;cases hpl
        | some ie=>
         rw[hie]at hpl
         injection hpl with hpl
         subst hpl
         simp only[hit,hu,hz,hie,hfill]
       ·rename_i fields hu
        cases hm:fields.toList.mapM (fun f=>(P.info? f.type).map fun i=>(f.offset,i.size))with
        | none=>rw[hm]at hpl;cases hpl
        | some places=>
         rw[hm]at hpl
         injection hpl with hpl
         subst hpl
         simp only[hit,hu,hz,hm,List.getElem?_toArray,hfill]
       ·cases hpl
      have hrun:=run_build (P:=P) w t _ arr hb
      refine⟨.agg arr,?_,D3z h1' hrep⟩
      simp only[execOp,ho,Sem.run_bind,hrun,Result.andThen_ok]
      rfl
     ·cases hzc
    ·cases hzc
   ·cases hzc
 ·cases h
def opV (P:Program) (H:Heap) (nx:Nat) (ev:Operand->PV) (o:Op):Option (PV×Heap×Nat):=
 match o with
 | .store t a x=>(D1m P H t (ev a) (ev x)).map fun H'=>(.t (.v undef),H',nx)
 | .makeSlice t l c=>(E9u P t (ev l) (ev c) nx).map fun q=>(q.1,(nx,q.2)::H,nx+1)
 | .buildSlice t len parts=>(A3p P t len (parts.toList.map fun p=>(p.1,ev p.2)) nx).map fun q=>(q.1,(nx,q.2)::H,nx+1)
 | .build t parts=>(D1o P t (parts.toList.map fun p=>(p.1,ev p.2))).map fun r=>(r,H,nx)
 | .box t x=>(A0w (ev x)).map fun ps=>(.ptr nx 0,(nx,.cells t ps)::H,nx+1)
 | .alloc t=>(A3o P t).map fun zc=>(.ptr nx 0,(nx,.cells t (zc.map fun x=>.t (.v x)))::H,nx+1)
 | .call ⟨.builtin .append,⟨[x,y]⟩,⟨[t,t']⟩⟩=>if t=t' then C1t P H nx t (ev x) (ev y)else none
 | o=>(A3x P H ev o).map fun r=>(r,H,nx)
theorem G6o {r:PV} {H':Heap} {nx':Nat} (h:opV P s.H s.nx (s.ev G) o.op=some (r,H',nx')):AOp P G B o s r H' nx':=by
 unfold opV at h
 split at h
 ·rename_i t x y ho
  cases hs:D1m P s.H t (s.ev G x) (s.ev G y)with
  | none=>rw[hs]at h;cases h
  | some H1=>
   rw[hs]at h
   injection h with h;injection h with h1 h2;injection h2 with h2 h3;subst h1;subst h2;subst h3
   exact F3w ho hs
 ·rename_i t x y ho
  cases hs:E9u P t (s.ev G x) (s.ev G y) s.nx with
  | none=>rw[hs]at h;cases h
  | some q=>
   rw[hs]at h
   injection h with h;injection h with h1 h2;injection h2 with h2 h3;subst h1;subst h2;subst h3
   exact G1k ho hs
 ·rename_i t len parts ho
  cases hs:A3p P t len (parts.toList.map fun p=>(p.1,s.ev G p.2)) s.nx with
  | none=>rw[hs]at h;cases h
  | some q=>
   rw[hs]at h
   injection h with h;injection h with h1 h2;injection h2 with h2 h3;subst h1;subst h2;subst h3
   exact D0k ho hs
 ·rename_i t parts ho
  cases hs:D1o P t (parts.toList.map fun p=>(p.1,s.ev G p.2))with
  | none=>rw[hs]at h;cases h
  | some q=>
   rw[hs]at h
   injection h with h;injection h with h1 h2;injection h2 with h2 h3;subst h1;subst h2;subst h3
   exact F4b ho hs
 ·rename_i t x ho
  cases hs:A0w (s.ev G x)with
  | none=>rw[hs]at h;cases h
  | some q=>
   rw[hs]at h
   injection h with h;injection h with h1 h2;injection h2 with h2 h3;subst h1;subst h2;subst h3
   exact G6n ho hs
 ·rename_i t ho
  cases hs:A3o P t with
  | none=>rw[hs]at h;cases h
  | some q=>
   rw[hs]at h
   injection h with h;injection h with h1 h2;injection h2 with h2 h3;subst h1;subst h2;subst h3
   exact F3y ho hs
 ·rename_i x y t t' ho
  split at h
  ·rename_i e
   subst e
   exact E9w ho h
  ·cases h
 ·cases hs:A3x P s.H (s.ev G) o.op with
  | none=>rw[hs]at h;cases h
  | some q=>
   rw[hs]at h
   injection h with h;injection h with h1 h2;injection h2 with h2 h3;subst h1;subst h2;subst h3
   exact E9t hs
end
def IsFn (P:Program) (f:FuncId):Prop:=∃fn c,P.funcs[f]?=some fn/\fn.body=some c/\(fn.name == "runtime.NumGoroutine")=false
theorem IsFn.run {P:Program} {f:FuncId} (h:IsFn P f) (args:Array Value) (w:World):(callFunc f args).run P w = .ok (.enter f args) w:=by
 obtain⟨fn,c,hf,hb,hn⟩:=h
 have hn':¬fn.name = "runtime.NumGoroutine":=by simpa using hn
 simp[callFunc,hf,hn',hb]
def A0y (P:Program) (G:A1f) (f:FuncId) (args:List T) (R:T->Prop):Prop:=
 IsFn P f/\∀(I:Nat->Prop) (w:World) (us:Array Value),(∀b,I b->b<w.heap.size)->(∀g cs,look G g=some cs->I g/\RepG I w cs g)->RepL I w args us.toList ->
  Calls P f us w fun e w'=>∃v r I',e = .returned v/\R r/\RepT I' w' r v/\A6q w w'/\w.heap.size<=w'.heap.size/\(∀g,g<w.heap.size->w'.heap[g]?=w.heap[g]?) /\
   (∀g,I g->I' g)/\(∀g,I' g->I g\/w.heap.size<=g)/\(∀g,I' g->g<w'.heap.size)
theorem A0y.mono {P:Program} {G:A1f} {f:FuncId} {args:List T} {R R':T->Prop} (h:A0y P G f args R) (hr:∀r,R r->R' r):A0y P G f args R':=
 ⟨h.1,fun I w us h1 h2 h3=>(h.2 I w us h1 h2 h3).mono fun _ _ ⟨v,r,I',he,hR,rest⟩=>⟨v,r,I',he,hr r hR,rest⟩⟩
mutual
@[simp] def toT (H:Heap):PV->Option (T×List Nat)
 | .t x=>some (x,[])
 | .row b o n z=>match look H b with
  | some (.cells _ cs)=>if o+n*z<=cs.length then(allT ((cs.drop o).take (n*z))).map fun ts=>(.sl n ts,[b])else none
  | _=>none
 | .ag cs=>(toTs H cs).map fun q=>(.ag q.1,q.2)
 | .tu cs=>(toTs H cs).map fun q=>(.tu q.1,q.2)
 | _=>none
@[simp] def toTs (H:Heap):List PV->Option (List T×List Nat)
 | []=>some ([],[])
 | p::ps=>match toT H p,toTs H ps with
  | some (x,F),some (xs,F')=>some (x::xs,F++F')
  | _,_=>none
end
def Lent (L:Loc) (H:Heap) (F:List Nat) (g:Nat):Prop:=∃b∈F,(∃r,look H b=some r)/\L.μ b=g
section
variable {P : Program} {G : A1f} {L : Loc} {H : Heap} {w : World}
theorem RepC.ofRow {I:Nat->Prop} {g:Nat} {ts:List T}:∀{o:Nat} {xs:List Value},(∀(j:Nat) x,xs[j]?=some x->w.cell? ⟨g,o+j,none⟩=some x/\x.oneCell'=true)->RepL I w ts xs->RepC I w ts g o:=by
 intro o xs hc hr
 refine RepC.mk fun k c hk=>?_
 obtain⟨x,hx,h⟩:=hr.at_ k hk
 exact⟨x,(hc k x hx).1,(hc k x hx).2,h⟩
theorem C1u {I I':Nat->Prop} (h:∀g,I g->I' g):D0h I I' w w:=fun b hb=>⟨h b hb,rfl⟩
mutual
theorem C6e (hok:A1o P G L H w):∀(p:PV) {x:T} {F:List Nat} {u:Value},toT H p=some (x,F)->RepV P L w p u->∀F',(∀b∈F,b∈F')->RepT (fun g=>L.I g\/Lent L H F' g) w x u
 | .t x,y,F,u,h,hr,F',_=>by
  simp only[toT,Option.some.injEq,Prod.mk.injEq]at h
  obtain⟨rfl,rfl⟩:=h
  simp only[RepV]at hr
  exact RepT.keep (C1u fun g hg=>.inl hg) _ hr
 | .row b o n z,y,F,u,h,hr,F',hF=>by
  simp only[toT]at h
  split at h
  ·rename_i ty cs hl
   split at h
   ·rename_i hb
    cases ha:allT ((cs.drop o).take (n*z))with
    | none=>rw[ha]at h;cases h
    | some ts=>
     rw[ha]at h
     injection h with h;injection h with h1 h2;subst h1;subst h2
     simp only[RepV]at hr
     obtain⟨hb',hμ,c,rfl,hc,_⟩:=hr
     obtain⟨xs,hxl,hcell,h1,hrep⟩:=A8p (hok.rep b _ hl)
     have hseg:=hrep.drop_take o (n*z)
     rw[B5m ha]at hseg
     have hT:=hseg.toT
     simp only[RepT]
     refine⟨⟨L.μ b,o,none⟩,c,rfl,hc,.inr ⟨rfl,.inr ⟨b,hF b (by simp),⟨_,hl⟩,rfl⟩,?_⟩⟩
     have hT':=RepL.keep (C1u (I:=L.I) (I':=fun g=>L.I g\/Lent L H F' g) (w:=w) fun g hg=>.inl hg) ts hT
     refine RepC.ofRow (xs:=(xs.drop o).take (n*z)) (fun j x hx=>?_) hT'
     rw[List.getElem?_take]at hx
     split at hx
     ·rw[List.getElem?_drop]at hx
      exact⟨hcell _ x hx,h1 x (List.mem_of_getElem? hx)⟩
     ·cases hx
   ·cases h
  ·cases h
 | .ag cs,y,F,u,h,hr,F',hF=>by
  simp only[toT]at h
  cases hq:toTs H cs with
  | none=>rw[hq]at h;cases h
  | some q=>
   rw[hq]at h
   injection h with h;injection h with h1 h2;subst h1;subst h2
   simp only[RepV]at hr
   obtain⟨us,rfl,h1,hl⟩:=hr
   simp only[RepT]
   exact⟨us,rfl,h1,C5l hok cs hq hl F' hF⟩
 | .tu cs,y,F,u,h,hr,F',hF=>by
  simp only[toT]at h
  cases hq:toTs H cs with
  | none=>rw[hq]at h;cases h
  | some q=>
   rw[hq]at h
   injection h with h;injection h with h1 h2;subst h1;subst h2
   simp only[RepV]at hr
   obtain⟨us,rfl,hl⟩:=hr
   simp only[RepT]
   exact⟨us,rfl,C5l hok cs hq hl F' hF⟩
 | .ptr _ _,_,_,_,h,_,_,_=>by simp[toT]at h
 | .fn _ _ _,_,_,_,h,_,_,_=>by simp[toT]at h
 | .ic _ _,_,_,_,h,_,_,_=>by simp[toT]at h
 | .mp _,_,_,_,h,_,_,_=>by simp[toT]at h
 | .dead,_,_,_,h,_,_,_=>by simp[toT]at h
theorem C5l (hok:A1o P G L H w):∀(ps:List PV) {q:List T×List Nat} {us:List Value},toTs H ps=some q->A1a P L w ps us->∀F',(∀b∈q.2,b∈F')->RepL (fun g=>L.I g\/Lent L H F' g) w q.1 us
 | [],q,us,h,hr,F',_=>by
  simp only[toTs,Option.some.injEq]at h
  subst h
  simp only[A1a]at hr
  simp only[RepL]
  exact hr
 | p::ps,q,us,h,hr,F',hF=>by
  simp only[toTs]at h
  split at h
  ·rename_i x F xs F2 hx hxs
   injection h with h;subst h
   simp only[A1a]at hr
   obtain⟨u,us',rfl,h1,h2⟩:=hr
   simp only[RepL]
   exact⟨u,us',rfl,C6e hok p hx h1 F' (fun b hb=>hF b (by simp[hb])),C5l hok ps hxs h2 F' (fun b hb=>hF b (by simp[hb]))⟩
  ·cases h
end
@[simp] def remAll (H:Heap) (F:List Nat):Heap:=F.foldl rem H
theorem A1w:∀(F:List Nat) (H:Heap) (k:Nat) (r:Row),look (remAll H F) k=some r->look H k=some r/\k∉F
 | [],H,k,r,h=>⟨h,by simp⟩
 | b::F,H,k,r,h=>by
  have h':look (remAll (rem H b) F) k=some r:=h
  obtain⟨h1,h2⟩:=A1w F (rem H b) k r h'
  rw[A1m]at h1
  split at h1
  ·cases h1
  ·rename_i hne
   exact⟨h1,by simp[hne,h2]⟩
def A7i:T->Bool
 | .v _=>true
 | .tu [.v _,.v _]=>true
 | _=>false
theorem E9x {I I':Nat->Prop} {w w':World} {x:T} {u:Value} (h:A7i x=true) (hr:RepT I w x u):RepT I' w' x u:=by
 cases x with
 | v x=>simpa only[RepT]using hr
 | tu cs=>
  cases cs with
  | nil=>simp[A7i]at h
  | cons a cs=>cases cs with
   | nil=>cases a<;>simp[A7i]at h
   | cons b cs=>cases cs with
    | nil=>cases a<;>cases b<;>first | (simp[A7i]at h;done) | (simp only[RepT,RepL]at hr ⊢;exact hr)
    | cons c cs=>cases a<;>simp[A7i]at h
 | _=>simp[A7i]at h
theorem F4c {B:Nat} {s:A0b} {o:Oper} {f:FuncId} {args:Array Operand} {ts:Array TypeId} {targs:List T} {F:List Nat} {r:T} (ho:o.op = .call ⟨.value (.func f),args,ts⟩)
  (hT:toTs s.H (args.toList.map (s.ev G))=some (targs,F)) (hc:A0y P G f targs (· = r)) :
  AOp P G B o s (.t r) (if A7i r then s.H else remAll s.H F) s.nx:=fun L a w hi=>by
 have hargs:A1a P L w (args.toList.map (s.ev G)) (args.map a.eval).toList:=by
  refine A1a.mk (by simp) fun k c x hk hx=>?_
  simp only[List.getElem?_map,Array.toList_map]at hk hx
  cases ha:args.toList[k]? with
  | none=>rw[ha]at hk;cases hk
  | some q=>
   rw[ha]at hk hx
   injection hk with hk;injection hx with hx;subst hk;subst hx
   exact hi.ev q
 have hrep:=C5l hi.heap _ hT hargs F (fun b hb=>hb)
 unfold Oper.wp
 have hrun:(execOp a.eval o).run P w = .ok (.enter f (args.map a.eval)) w:=by
  simp[execOp,ho,resolve,Act.eval,Deferred.ofValue,invoke,hc.1.run]
 rw[hrun,Oper.upon_enter]
 have hlt:∀b,(L.I b\/Lent L s.H F b)->b<w.heap.size:=by
  rintro b (h | ⟨k,_,⟨r,hr⟩,rfl⟩)
  ·exact hi.heap.lt b h
  ·exact(hi.heap.rep k r hr).lt
 refine(hc.2 _ w _ hlt (fun g cs hg=>⟨.inl (hi.heap.glob g cs hg).1,RepG.keep (C1u fun g hg=>.inl hg) (hi.heap.glob g cs hg).1 (hi.heap.glob g cs hg).2⟩) hrep).mono ?_
 rintro e w' ⟨v,r',I',rfl,rfl,hv,hout,hsz,hsame,hmore,hnew,hltI⟩
 have hshape:A3h w w':=fun g hg arr ty fz he=>⟨arr,fz,by rw[<-hsame g hg];exact he,rfl⟩
 by_cases hp:A7i r'=true
 ·rw[if_pos hp]
  have hm:Mono L w L w':=⟨fun b hb=>⟨hb,hsame b (hi.heap.lt b hb)⟩,Nat.le_refl _,fun _ _=>rfl,hsz,hshape⟩
  refine⟨v,L,rfl,by simp only[RepV];exact E9x hp hv,?_,hi.nx,hm,?_⟩
  ·exact⟨fun b hb=>Nat.lt_of_lt_of_le (hi.heap.lt b hb) hsz,fun b r hb=>(hi.heap.rep b r hb).keep hm (hsame _ (hi.heap.rep b r hb).lt),hi.heap.apart,hi.heap.inj,hi.heap.nx,A3y hi.heap hm.keeps⟩
  ·exact⟨hsz,fun g hg _=>hsame g hg,fun _ h=>h,fun _ h=>.inl h,fun _ h=>.inr h,hshape,hout⟩
 ·rw[if_neg hp]
  have hm:Mono L w { L with I:=I' } w':=⟨fun b hb=>⟨hmore b (.inl hb),hsame b (hi.heap.lt b hb)⟩,Nat.le_refl _,fun _ _=>rfl,hsz,hshape⟩
  refine⟨v,{ L with I:=I' },rfl,by simp only[RepV];exact hv,?_,hi.nx,hm,?_⟩
  ·refine⟨hltI,fun b r hb=>?_,fun b r hb hI=>?_,fun b b' r r' hb hb'=>?_,fun b r hb=>?_,A3y hi.heap hm.keeps⟩
   ·have hb':=(A1w F s.H b r hb).1
    exact(hi.heap.rep b r hb').keep hm (hsame _ (hi.heap.rep b r hb').lt)
   ·obtain⟨hb',hnF⟩:=A1w F s.H b r hb
    rcases hnew _ hI with(h | ⟨k,hk,⟨r2,hr2⟩,e⟩) | h
    ·exact hi.heap.apart b r hb' h
    ·exact hnF ((hi.heap.inj k b r2 r hr2 hb' e)▸hk)
    ·have:=(hi.heap.rep b r hb').lt
     exact absurd this (by have h':w.heap.size<=L.μ b:=h;omega)
   ·exact hi.heap.inj b b' r r' (A1w F s.H b r hb).1 (A1w F s.H b' r' hb').1
   ·exact hi.heap.nx b r (A1w F s.H b r hb).1
  ·refine⟨hsz,fun g hg _=>hsame g hg,fun g h=>hmore g (.inl h),fun g h=>?_,fun g ⟨k,r,hk,e⟩=>.inr ⟨k,r,(A1w F s.H k r hk).1,e⟩,hshape,hout⟩
   rcases hnew g h with(h | ⟨k,_,⟨r2,hr2⟩,e⟩) | h
   ·exact .inl h
   ·exact .inr (.inr ⟨k,r2,hr2,e⟩)
   ·exact .inr (.inl h)
end
def A5a (P:Program) (s:A0b):List ResultVar->Option (List PV)
 | []=>some []
 | .tmp t::r=>match look s.env t,A5a P s r with
  | some p,some ps=>some (p::ps)
  | _,_=>none
 | .cell a t::r=>match look s.env a,A5a P s r with
  | some (.ptr b o),some ps=>(E1w P s.H t (.ptr b o)).map (· :: ps)
  | _,_=>none
def A5r (P:Program) (fn:Func) (s:A0b):Option PV:=
 match A5a P s fn.results.toList with
 | some [p]=>some p
 | some ps=>some (match allT ps with | some ts=>.t (.tu ts) | none=>.tu ps)
 | none=>none
section
variable {P : Program} {G : A1f} {B : Nat} {L : Loc} {s : A0b} {a : Act} {w : World}
def D7p (tmps:Array Value):ResultVar->Sem Value
 | .tmp t=>pure (tmps.getD t undef)
 | .cell a t=>do loadVar t (<-asAddr (tmps.getD a undef))
theorem E9y (fn:Func) (tmps:Array Value):results fn tmps=(do let vs <-fn.results.mapM (D7p tmps);pure (if h:vs.size=1 then vs[0]else .tuple vs)):=by
 unfold results
 congr 2
theorem B3j (hi:Interp P G B L s a w):∀(rs:List ResultVar) {ps:List PV},A5a P s rs=some ps ->
  ∃vs:List Value,(rs.mapM (D7p a.tmps)).run P w = .ok vs w/\A1a P L w ps vs
 | [],ps,h=>by
  simp only[A5a,Option.some.injEq]at h
  subst h
  exact⟨[],by simp,by simp only[A1a]⟩
 | .tmp t::r,ps,h=>by
  simp only[A5a]at h
  split at h
  ·rename_i p ps' hl hr
   injection h with h;subst h
   obtain⟨vs,hrun,hrep⟩:=B3j hi r hr
   refine⟨a.tmps.getD t undef::vs,?_,by simp only[A1a];exact⟨_,_,rfl,hi.env t p hl,hrep⟩⟩
   rw[List.mapM_cons]
   simp only[D7p,Sem.run_bind,Sem.run_pure,Result.andThen_ok,hrun]
  ·cases h
 | .cell x t::r,ps,h=>by
  simp only[A5a]at h
  split at h
  ·rename_i b o ps' hl hr
   cases hv:E1w P s.H t (.ptr b o)with
   | none=>rw[hv]at h;cases h
   | some q=>
    rw[hv]at h
    injection h with h;subst h
    obtain⟨vs,hrun,hrep⟩:=B3j hi r hr
    have hx:=hi.env x _ hl
    obtain⟨v,hload,hvr⟩:=D7f hi.heap hv hx
    have hx':=hx
    simp only[RepV]at hx'
    refine⟨v::vs,?_,by simp only[A1a];exact⟨_,_,rfl,hvr,hrep⟩⟩
    rw[List.mapM_cons]
    have hload':(D7p a.tmps (.cell x t)).run P w = .ok v w:=by
     rw[hx'.2]at hload
     simp only[D7p,hx'.2,asAddr]
     simpa[Instr.loadAt,Instr.sureAddr]using hload
    simp only[Sem.run_bind,hload',Result.andThen_ok,hrun,Sem.run_pure]
  ·cases h
theorem A8u {fn:Func} {p:PV} (hi:Interp P G B L s a w) (h:A5r P fn s=some p):∃v,(results fn a.tmps).run P w = .ok v w/\RepV P L w p v:=by
 unfold A5r at h
 have key:∀{ps},A5a P s fn.results.toList=some ps->∃vs:Array Value,(results fn a.tmps).run P w = .ok (if h:vs.size=1 then vs[0]else .tuple vs) w/\A1a P L w ps vs.toList:=by
  intro ps hps
  obtain⟨vs,hrun,hrep⟩:=B3j hi _ hps
  refine⟨vs.toArray,?_,by simpa using hrep⟩
  rw[E9y,Array.mapM_eq_mapM_toList]
  simp[hrun]
 split at h
 ·rename_i q hq
  injection h with h;subst h
  obtain⟨vs,hrun,hrep⟩:=key hq
  simp only[A1a]at hrep
  obtain⟨x,xs,e,hx,rfl⟩:=hrep
  have hvs:vs = #[x]:=by cases vs;simpa using e
  subst hvs
  exact⟨x,by simpa using hrun,hx⟩
 ·rename_i ps hne hq
  injection h with h;subst h
  obtain⟨vs,hrun,hrep⟩:=key hq
  have hl:=hrep.length
  have h1:¬vs.size=1:=by
   intro h1
   have:ps.length=1:=by rw[<-hl];simpa using h1
   match ps,this with
   | [q],_=>exact hne q rfl
  rw[dif_neg h1]at hrun
  refine⟨.tuple vs,hrun,?_⟩
  cases ha:allT ps with
  | none=>simp only[RepV];exact⟨vs,rfl,hrep⟩
  | some ts=>
   have:=B5m ha
   subst this
   simp only[RepV,RepT]
   exact⟨vs,rfl,hrep.toT⟩
 ·cases h
def Ends (P:Program) (G:A1f) (fn:Func) (R:T->Prop):Exit->A0b->Prop
 | .normal,s=>∃s2 r,Sub P G 0 s s2/\A5r P fn s2=some (.t r)/\R r
 | .ret,s=>∃s2 r,Sub P G 0 s s2/\A5r P fn s2=some (.t r)/\R r
 | _,_=>False
def E5q (fn:Func) (args:List PV):A0b:=
 { env:=args.zipIdx.map (fun p=>(p.2,p.1)),H:=[],nx:=0,n:=args.length+(fn.ntmps-args.length) }
theorem A8v:∀(args:List PV) (k j:Nat) (p:PV),look ((args.zipIdx j).map (fun q=>(q.2,q.1))) k=some p->j<=k/\args[k-j]?=some p
 | [],k,j,p,h=>by simp[look]at h
 | x::args,k,j,p,h=>by
  simp only[List.zipIdx_cons,List.map_cons,look]at h
  by_cases e:j=k
  ·rw[if_pos e]at h;subst e;simpa using h
  ·rw[if_neg e]at h
   obtain⟨h1,h2⟩:=A8v args k (j+1) p h
   refine⟨by omega,?_⟩
   rw[show k-j=(k-(j+1))+1 by omega]
   simpa using h2
theorem D4b {f:FuncId} {fn:Func} {c:Code} {args:List T} {R:T->Prop} (hf:P.funcs[f]?=some fn) (hb:fn.body=some c) (hn:(fn.name == "runtime.NumGoroutine")=false)
  (h:A3l P G 0 c (Ends P G fn R) (E5q fn (args.map .t))):A0y P G f args R:=by
 refine⟨⟨fn,c,hf,hb,hn⟩,fun I w us hlt hglob hargs=>calls_of_wp hf hb ?_⟩
 have hlen:us.size=args.length:=by simpa using hargs.length
 let L:Loc:=⟨I,fun _=>0,0⟩
 have hok:A1o P G L [] w:=⟨hlt,fun b r h=>by simp[look]at h,fun b r h=>by simp[look]at h,fun b b' r r' h=>by simp[look]at h,fun b r h=>by simp[look]at h,hglob⟩
 have hi:Interp P G 0 L (E5q fn (args.map .t)) { tmps:=us++Array.replicate (fn.ntmps-us.size) undef,defers:=[] } w:=by
  refine⟨hok,rfl,Nat.zero_le _,by simp[E5q,hlen],rfl,fun k p hl=>?_⟩
  obtain⟨_,hk⟩:=A8v _ k 0 p hl
  simp only[Nat.sub_zero]at hk
  have hrep:=A1a.ofT (P:=P) (L:=L) hargs
  obtain⟨x,hx,hr⟩:=hrep.at_ k hk
  have hx':us[k]?=some x:=by simpa using hx
  have hk':k<us.size:=(Array.getElem?_eq_some_iff.1 hx').1
  rw[Array.getD_eq_getD_getElem?,Array.getElem?_append_left hk',hx']
  exact hr
 refine wp_mono (h L _ w hi) fun e a' w' ⟨s1,L1,q,hi1,hx,_⟩=>?_
 have fin:(∃s2 r,Sub P G 0 s1 s2/\A5r P fn s2=some (.t r)/\R r)->a'.defers=[]/\∃v,(results fn a'.tmps).run P w' = .ok v w' /\
   ∃v' r I',Ending.returned v = .returned v'/\R r/\RepT I' w' r v'/\A6q w w'/\w.heap.size<=w'.heap.size/\(∀g,g<w.heap.size->w'.heap[g]?=w.heap[g]?) /\
   (∀g,I g->I' g)/\(∀g,I' g->I g\/w.heap.size<=g)/\(∀g,I' g->g<w'.heap.size):=by
  rintro⟨s2,r,hs,hres,hR⟩
  obtain⟨L2,hi2,hx2,_⟩:=hs L1 a' w' hi1
  obtain⟨v,hrun,hv⟩:=A8u hi2 hres
  have hxx:=hx.trans hx2
  have nomine:∀g,¬Mine L [] g:=fun g ⟨b,r,h,_⟩=>by simp[look]at h
  refine⟨hi2.defers,v,hrun,v,r,L2.I,rfl,hR,by simpa only[RepV]using hv,hxx.outer,hxx.size,fun g hg=>hxx.same g hg (nomine g),hxx.more,fun g hg=>?_,hi2.heap.lt⟩
  rcases hxx.new g hg with h | h | h
  ·exact .inl h
  ·exact .inr h
  ·exact absurd h (nomine g)
 cases e with
 | normal=>exact fin q
 | ret=>exact fin q
 | exit i=>exact q.elim
 | goto l=>exact q.elim
 | panic ch=>exact q.elim
 | outgrown=>exact q.elim
end
end Go.Abs
