/-
 Auxiliary facts. No statement of the program stands here.
-/
import Derived.Test.YtbiadmfmjnoecaaVPQ05
namespace Go.Abs
set_option linter.unusedSimpArgs false
set_option linter.unusedVariables false
open Go
def D0t (P:Program) (t:TypeId):Option (Nat->Option (Nat×Nat)):=
 match P.underlying t with
 | some (.array _ e)=>(P.info? e).map fun i=>fun k=>some (k*i.size,i.size)
 | some (.struct fields)=>(fields.toList.mapM (fun f=>(P.info? f.type).map fun i=>(f.offset,i.size))).map fun places=>fun k=>places[k]?
 | _=>none
def C8k (P:Program) (t:TypeId) (parts:List (Nat×PV)):Option PV:=
 match D0t P t,A3c P t with
 | some place,some zc=>(A4w place (zc.map fun x=>.t (.v x)) parts).map agOf
 | _,_=>none
section
variable {P : Program} {G : A1c} {B : Nat} {s : A0b} {o : Oper}
theorem E7u {t:TypeId} {parts:Array (Nat×Operand)} {r:PV} (ho:o.op = .build t parts) (h:C8k P t (parts.toList.map fun p=>(p.1,s.ev G p.2))=some r):AOp P G B o s r s.H s.nx:=by
 refine A4t fun L a w hi=>?_
 unfold C8k at h
 split at h
 ·rename_i place zc hpl hzc
  cases hf:A4w place (zc.map fun x=>.t (.v x)) (parts.toList.map fun p=>(p.1,s.ev G p.2))with
  | none=>rw[hf]at h;cases h
  | some cs=>
   rw[hf]at h
   injection h with h;subst h
   unfold A3c at hzc
   split at hzc
   ·rename_i it hit
    split at hzc
    ·rename_i z hz
     split at hzc
     ·rename_i h1
      injection hzc with hzc;subst hzc
      obtain⟨hp1,hp2⟩:=D3g hi parts.toList
      obtain⟨arr,hfill,hrep,h1'⟩:=C3n (L:=L) (w:=w) _ _ _ _ z.cells hp1 hp2 (C8j P L w _) (List.all_eq_true.1 h1) hf
      have hpl2:(parts.map fun(k,x)=>(k,a.eval x)).toList=parts.toList.map fun p=>(p.1,a.eval p.2):=by simp
      have hb:P.built t (parts.map fun(k,x)=>(k,a.eval x)).toList=some arr:=by
       unfold Program.built
       unfold D0t at hpl
       rw[hpl2]
       split at hpl
       ·rename_i n e hu
        cases hie:P.info? e with
        | none=>rw[hie]at hpl;cases hpl
        | some ie=>
         rw[hie]at hpl
         injection hpl with hpl
         subst hpl
         simp only[hit,hu,hz,hie,hfill]
       ·rename_i fields hu
        cases hm:fields.toList.mapM (fun f=>(P.info? f.type).map fun i=>(f.offset,i.size))with
        | none=>rw[hm]at hpl;cases hpl
        | some places=>
         rw[hm]at hpl
         injection hpl with hpl
         subst hpl
         simp only[hit,hu,hz,hm,List.getElem?_toArray,hfill]
       ·cases hpl
      have hrun:=run_build (P:=P) w t _ arr hb
      refine⟨.agg arr,?_,D0s h1' hrep⟩
      simp only[execOp,ho,Sem.run_bind,hrun,Result.andThen_ok]
      rfl
     ·cases hzc
    ·cases hzc
   ·cases hzc
 ·cases h
def opV (P:Program) (H:Heap) (nx:Nat) (ev:Operand->PV) (o:Op):Option (PV×Heap×Nat):=
 match o with
 | .store t a x=>(C8i P H t (ev a) (ev x)).map fun H'=>(.t (.v undef),H',nx)
 | .makeSlice t l c=>(E3v P t (ev l) (ev c) nx).map fun q=>(q.1,(nx,q.2)::H,nx+1)
 | .buildSlice t len parts=>(A3d P t len (parts.toList.map fun p=>(p.1,ev p.2)) nx).map fun q=>(q.1,(nx,q.2)::H,nx+1)
 | .build t parts=>(C8k P t (parts.toList.map fun p=>(p.1,ev p.2))).map fun r=>(r,H,nx)
 | .box t x=>(A0s (ev x)).map fun ps=>(.ptr nx 0,(nx,.cells t ps)::H,nx+1)
 | .alloc t=>(A3c P t).map fun zc=>(.ptr nx 0,(nx,.cells t (zc.map fun x=>.t (.v x)))::H,nx+1)
 | .call ⟨.builtin .append,⟨[x,y]⟩,⟨[t,t']⟩⟩=>if t=t' then B9q P H nx t (ev x) (ev y)else none
 | o=>(A3j P H ev o).map fun r=>(r,H,nx)
theorem F8a {r:PV} {H':Heap} {nx':Nat} (h:opV P s.H s.nx (s.ev G) o.op=some (r,H',nx')):AOp P G B o s r H' nx':=by
 unfold opV at h
 split at h
 ·rename_i t x y ho
  cases hs:C8i P s.H t (s.ev G x) (s.ev G y)with
  | none=>rw[hs]at h;cases h
  | some H1=>
   rw[hs]at h
   injection h with h;injection h with h1 h2;injection h2 with h2 h3;subst h1;subst h2;subst h3
   exact E7p ho hs
 ·rename_i t x y ho
  cases hs:E3v P t (s.ev G x) (s.ev G y) s.nx with
  | none=>rw[hs]at h;cases h
  | some q=>
   rw[hs]at h
   injection h with h;injection h with h1 h2;injection h2 with h2 h3;subst h1;subst h2;subst h3
   exact F3w ho hs
 ·rename_i t len parts ho
  cases hs:A3d P t len (parts.toList.map fun p=>(p.1,s.ev G p.2)) s.nx with
  | none=>rw[hs]at h;cases h
  | some q=>
   rw[hs]at h
   injection h with h;injection h with h1 h2;injection h2 with h2 h3;subst h1;subst h2;subst h3
   exact C7i ho hs
 ·rename_i t parts ho
  cases hs:C8k P t (parts.toList.map fun p=>(p.1,s.ev G p.2))with
  | none=>rw[hs]at h;cases h
  | some q=>
   rw[hs]at h
   injection h with h;injection h with h1 h2;injection h2 with h2 h3;subst h1;subst h2;subst h3
   exact E7u ho hs
 ·rename_i t x ho
  cases hs:A0s (s.ev G x)with
  | none=>rw[hs]at h;cases h
  | some q=>
   rw[hs]at h
   injection h with h;injection h with h1 h2;injection h2 with h2 h3;subst h1;subst h2;subst h3
   exact F7z ho hs
 ·rename_i t ho
  cases hs:A3c P t with
  | none=>rw[hs]at h;cases h
  | some q=>
   rw[hs]at h
   injection h with h;injection h with h1 h2;injection h2 with h2 h3;subst h1;subst h2;subst h3
   exact E7r ho hs
 ·rename_i x y t t' ho
  split at h
  ·rename_i e
   subst e
   exact E3x ho h
  ·cases h
 ·cases hs:A3j P s.H (s.ev G) o.op with
  | none=>rw[hs]at h;cases h
  | some q=>
   rw[hs]at h
   injection h with h;injection h with h1 h2;injection h2 with h2 h3;subst h1;subst h2;subst h3
   exact E3u hs
end
def IsFn (P:Program) (f:FuncId):Prop:=∃fn c,P.funcs[f]?=some fn/\fn.body=some c/\(fn.name == "runtime.NumGoroutine")=false
theorem IsFn.run {P:Program} {f:FuncId} (h:IsFn P f) (args:Array Value) (w:World):(callFunc f args).run P w = .ok (.enter f args) w:=by
 obtain⟨fn,c,hf,hb,hn⟩:=h
 have hn':¬fn.name = "runtime.NumGoroutine":=by simpa using hn
 simp[callFunc,hf,hn',hb]
def A0y (P:Program) (G:A1c) (f:FuncId) (args:List T) (R:T->Prop):Prop:=
 IsFn P f/\∀(I:Nat->Prop) (w:World) (us:Array Value),(∀b,I b->b<w.heap.size)->(∀g cs,look G g=some cs->I g/\RepG I w cs g)->RepL I w args us.toList ->
  Calls P f us w fun e w'=>∃v r I',e = .returned v/\R r/\RepT I' w' r v/\A6i w w'/\w.heap.size<=w'.heap.size/\(∀g,g<w.heap.size->w'.heap[g]?=w.heap[g]?) /\
   (∀g,I g->I' g)/\(∀g,I' g->I g\/w.heap.size<=g)/\(∀g,I' g->g<w'.heap.size)
theorem A0y.mono {P:Program} {G:A1c} {f:FuncId} {args:List T} {R R':T->Prop} (h:A0y P G f args R) (hr:∀r,R r->R' r):A0y P G f args R':=
 ⟨h.1,fun I w us h1 h2 h3=>(h.2 I w us h1 h2 h3).mono fun _ _ ⟨v,r,I',he,hR,rest⟩=>⟨v,r,I',he,hr r hR,rest⟩⟩
mutual
@[simp] def toT (H:Heap):PV->Option (T×List Nat)
 | .t x=>some (x,[])
 | .row b o n z=>match look H b with
  | some (.cells _ cs)=>if o+n*z<=cs.length then(allT ((cs.drop o).take (n*z))).map fun ts=>(.sl n ts,[b])else none
  | _=>none
 | .ag cs=>(toTs H cs).map fun q=>(.ag q.1,q.2)
 | .tu cs=>(toTs H cs).map fun q=>(.tu q.1,q.2)
 | _=>none
@[simp] def toTs (H:Heap):List PV->Option (List T×List Nat)
 | []=>some ([],[])
 | p::ps=>match toT H p,toTs H ps with
  | some (x,F),some (xs,F')=>some (x::xs,F++F')
  | _,_=>none
end
def Lent (L:Loc) (H:Heap) (F:List Nat) (g:Nat):Prop:=∃b∈F,(∃r,look H b=some r)/\L.μ b=g
section
variable {P : Program} {G : A1c} {L : Loc} {H : Heap} {w : World}
theorem RepC.ofRow {I:Nat->Prop} {g:Nat} {ts:List T}:∀{o:Nat} {xs:List Value},(∀(j:Nat) x,xs[j]?=some x->w.cell? ⟨g,o+j,none⟩=some x/\x.oneCell'=true)->RepL I w ts xs->RepC I w ts g o:=by
 intro o xs hc hr
 refine RepC.mk fun k c hk=>?_
 obtain⟨x,hx,h⟩:=hr.at_ k hk
 exact⟨x,(hc k x hx).1,(hc k x hx).2,h⟩
theorem B9r {I I':Nat->Prop} (h:∀g,I g->I' g):C7f I I' w w:=fun b hb=>⟨h b hb,rfl⟩
mutual
theorem C3o (hok:A1n P G L H w):∀(p:PV) {x:T} {F:List Nat} {u:Value},toT H p=some (x,F)->RepV P L w p u->∀F',(∀b∈F,b∈F')->RepT (fun g=>L.I g\/Lent L H F' g) w x u
 | .t x,y,F,u,h,hr,F',_=>by
  simp only[toT,Option.some.injEq,Prod.mk.injEq]at h
  obtain⟨rfl,rfl⟩:=h
  simp only[RepV]at hr
  exact RepT.keep (B9r fun g hg=>.inl hg) _ hr
 | .row b o n z,y,F,u,h,hr,F',hF=>by
  simp only[toT]at h
  split at h
  ·rename_i ty cs hl
   split at h
   ·rename_i hb
    cases ha:allT ((cs.drop o).take (n*z))with
    | none=>rw[ha]at h;cases h
    | some ts=>
     rw[ha]at h
     injection h with h;injection h with h1 h2;subst h1;subst h2
     simp only[RepV]at hr
     obtain⟨hb',hμ,c,rfl,hc,_⟩:=hr
     obtain⟨xs,hxl,hcell,h1,hrep⟩:=A7m (hok.rep b _ hl)
     have hseg:=hrep.drop_take o (n*z)
     rw[B3v ha]at hseg
     have hT:=hseg.toT
     simp only[RepT]
     refine⟨⟨L.μ b,o,none⟩,c,rfl,hc,.inr ⟨rfl,.inr ⟨b,hF b (by simp),⟨_,hl⟩,rfl⟩,?_⟩⟩
     have hT':=RepL.keep (B9r (I:=L.I) (I':=fun g=>L.I g\/Lent L H F' g) (w:=w) fun g hg=>.inl hg) ts hT
     refine RepC.ofRow (xs:=(xs.drop o).take (n*z)) (fun j x hx=>?_) hT'
     rw[List.getElem?_take]at hx
     split at hx
     ·rw[List.getElem?_drop]at hx
      exact⟨hcell _ x hx,h1 x (List.mem_of_getElem? hx)⟩
     ·cases hx
   ·cases h
  ·cases h
 | .ag cs,y,F,u,h,hr,F',hF=>by
  simp only[toT]at h
  cases hq:toTs H cs with
  | none=>rw[hq]at h;cases h
  | some q=>
   rw[hq]at h
   injection h with h;injection h with h1 h2;subst h1;subst h2
   simp only[RepV]at hr
   obtain⟨us,rfl,h1,hl⟩:=hr
   simp only[RepT]
   exact⟨us,rfl,h1,C2w hok cs hq hl F' hF⟩
 | .tu cs,y,F,u,h,hr,F',hF=>by
  simp only[toT]at h
  cases hq:toTs H cs with
  | none=>rw[hq]at h;cases h
  | some q=>
   rw[hq]at h
   injection h with h;injection h with h1 h2;subst h1;subst h2
   simp only[RepV]at hr
   obtain⟨us,rfl,hl⟩:=hr
   simp only[RepT]
   exact⟨us,rfl,C2w hok cs hq hl F' hF⟩
 | .ptr _ _,_,_,_,h,_,_,_=>by simp[toT]at h
 | .fn _ _ _,_,_,_,h,_,_,_=>by simp[toT]at h
 | .ic _ _,_,_,_,h,_,_,_=>by simp[toT]at h
 | .mp _,_,_,_,h,_,_,_=>by simp[toT]at h
 | .dead,_,_,_,h,_,_,_=>by simp[toT]at h
theorem C2w (hok:A1n P G L H w):∀(ps:List PV) {q:List T×List Nat} {us:List Value},toTs H ps=some q->A0z P L w ps us->∀F',(∀b∈q.2,b∈F')->RepL (fun g=>L.I g\/Lent L H F' g) w q.1 us
 | [],q,us,h,hr,F',_=>by
  simp only[toTs,Option.some.injEq]at h
  subst h
  simp only[A0z]at hr
  simp only[RepL]
  exact hr
 | p::ps,q,us,h,hr,F',hF=>by
  simp only[toTs]at h
  split at h
  ·rename_i x F xs F2 hx hxs
   injection h with h;subst h
   simp only[A0z]at hr
   obtain⟨u,us',rfl,h1,h2⟩:=hr
   simp only[RepL]
   exact⟨u,us',rfl,C3o hok p hx h1 F' (fun b hb=>hF b (by simp[hb])),C2w hok ps hxs h2 F' (fun b hb=>hF b (by simp[hb]))⟩
  ·cases h
end
@[simp] def remAll (H:Heap) (F:List Nat):Heap:=F.foldl rem H
theorem A1v:∀(F:List Nat) (H:Heap) (k:Nat) (r:Row),look (remAll H F) k=some r->look H k=some r/\k∉F
 | [],H,k,r,h=>⟨h,by simp⟩
 | b::F,H,k,r,h=>by
  have h':look (remAll (rem H b) F) k=some r:=h
  obtain⟨h1,h2⟩:=A1v F (rem H b) k r h'
  rw[A1u]at h1
  split at h1
  ·cases h1
  ·rename_i hne
   exact⟨h1,by simp[hne,h2]⟩
def A6j:T->Bool
 | .v _=>true
 | .tu [.v _,.v _]=>true
 | _=>false
theorem E3y {I I':Nat->Prop} {w w':World} {x:T} {u:Value} (h:A6j x=true) (hr:RepT I w x u):RepT I' w' x u:=by
 cases x with
 | v x=>simpa only[RepT]using hr
 | tu cs=>
  cases cs with
  | nil=>simp[A6j]at h
  | cons a cs=>cases cs with
   | nil=>cases a<;>simp[A6j]at h
   | cons b cs=>cases cs with
    | nil=>cases a<;>cases b<;>first | (simp[A6j]at h;done) | (simp only[RepT,RepL]at hr ⊢;exact hr)
    | cons c cs=>cases a<;>simp[A6j]at h
 | _=>simp[A6j]at h
theorem E7v {B:Nat} {s:A0b} {o:Oper} {f:FuncId} {args:Array Operand} {ts:Array TypeId} {targs:List T} {F:List Nat} {r:T} (ho:o.op = .call ⟨.value (.func f),args,ts⟩)
  (hT:toTs s.H (args.toList.map (s.ev G))=some (targs,F)) (hc:A0y P G f targs (· = r)) :
  AOp P G B o s (.t r) (if A6j r then s.H else remAll s.H F) s.nx:=fun L a w hi=>by
 have hargs:A0z P L w (args.toList.map (s.ev G)) (args.map a.eval).toList:=by
  refine A0z.mk (by simp) fun k c x hk hx=>?_
  simp only[List.getElem?_map,Array.toList_map]at hk hx
  cases ha:args.toList[k]? with
  | none=>rw[ha]at hk;cases hk
  | some q=>
   rw[ha]at hk hx
   injection hk with hk;injection hx with hx;subst hk;subst hx
   exact hi.ev q
 have hrep:=C2w hi.heap _ hT hargs F (fun b hb=>hb)
 unfold Oper.wp
 have hrun:(execOp a.eval o).run P w = .ok (.enter f (args.map a.eval)) w:=by
  simp[execOp,ho,resolve,Act.eval,Deferred.ofValue,invoke,hc.1.run]
 rw[hrun,Oper.upon_enter]
 have hlt:∀b,(L.I b\/Lent L s.H F b)->b<w.heap.size:=by
  rintro b (h | ⟨k,_,⟨r,hr⟩,rfl⟩)
  ·exact hi.heap.lt b h
  ·exact(hi.heap.rep k r hr).lt
 refine(hc.2 _ w _ hlt (fun g cs hg=>⟨.inl (hi.heap.glob g cs hg).1,RepG.keep (B9r fun g hg=>.inl hg) (hi.heap.glob g cs hg).1 (hi.heap.glob g cs hg).2⟩) hrep).mono ?_
 rintro e w' ⟨v,r',I',rfl,rfl,hv,hout,hsz,hsame,hmore,hnew,hltI⟩
 have hshape:A2u w w':=fun g hg arr ty fz he=>⟨arr,fz,by rw[<-hsame g hg];exact he,rfl⟩
 by_cases hp:A6j r'=true
 ·rw[if_pos hp]
  have hm:Mono L w L w':=⟨fun b hb=>⟨hb,hsame b (hi.heap.lt b hb)⟩,Nat.le_refl _,fun _ _=>rfl,hsz,hshape⟩
  refine⟨v,L,rfl,by simp only[RepV];exact E3y hp hv,?_,hi.nx,hm,?_⟩
  ·exact⟨fun b hb=>Nat.lt_of_lt_of_le (hi.heap.lt b hb) hsz,fun b r hb=>(hi.heap.rep b r hb).keep hm (hsame _ (hi.heap.rep b r hb).lt),hi.heap.apart,hi.heap.inj,hi.heap.nx,A3k hi.heap hm.keeps⟩
  ·exact⟨hsz,fun g hg _=>hsame g hg,fun _ h=>h,fun _ h=>.inl h,fun _ h=>.inr h,hshape,hout⟩
 ·rw[if_neg hp]
  have hm:Mono L w { L with I:=I' } w':=⟨fun b hb=>⟨hmore b (.inl hb),hsame b (hi.heap.lt b hb)⟩,Nat.le_refl _,fun _ _=>rfl,hsz,hshape⟩
  refine⟨v,{ L with I:=I' },rfl,by simp only[RepV];exact hv,?_,hi.nx,hm,?_⟩
  ·refine⟨hltI,fun b r hb=>?_,fun b r hb hI=>?_,fun b b' r r' hb hb'=>?_,fun b r hb=>?_,A3k hi.heap hm.keeps⟩
   ·have hb':=(A1v F s.H b r hb).1
    exact(hi.heap.rep b r hb').keep hm (hsame _ (hi.heap.rep b r hb').lt)
   ·obtain⟨hb',hnF⟩:=A1v F s.H b r hb
    rcases hnew _ hI with(h | ⟨k,hk,⟨r2,hr2⟩,e⟩) | h
    ·exact hi.heap.apart b r hb' h
    ·exact hnF ((hi.heap.inj k b r2 r hr2 hb' e)▸hk)
    ·have:=(hi.heap.rep b r hb').lt
     exact absurd this (by have h':w.heap.size<=L.μ b:=h;omega)
   ·exact hi.heap.inj b b' r r' (A1v F s.H b r hb).1 (A1v F s.H b' r' hb').1
   ·exact hi.heap.nx b r (A1v F s.H b r hb).1
  ·refine⟨hsz,fun g hg _=>hsame g hg,fun g h=>hmore g (.inl h),fun g h=>?_,fun g ⟨k,r,hk,e⟩=>.inr ⟨k,r,(A1v F s.H k r hk).1,e⟩,hshape,hout⟩
   rcases hnew g h with(h | ⟨k,_,⟨r2,hr2⟩,e⟩) | h
   ·exact .inl h
   ·exact .inr (.inr ⟨k,r2,hr2,e⟩)
   ·exact .inr (.inl h)
end
def A4j (P:Program) (s:A0b):List ResultVar->Option (List PV)
 | []=>some []
 | .tmp t::r=>match look s.env t,A4j P s r with
  | some p,some ps=>some (p::ps)
  | _,_=>none
 | .cell a t::r=>match look s.env a,A4j P s r with
  | some (.ptr b o),some ps=>(D7g P s.H t (.ptr b o)).map (· :: ps)
  | _,_=>none
def A8u (P:Program) (fn:Func) (s:A0b):Option PV:=
 match A4j P s fn.results.toList with
 | some [p]=>some p
 | some ps=>some (match allT ps with | some ts=>.t (.tu ts) | none=>.tu ps)
 | none=>none
section
variable {P : Program} {G : A1c} {B : Nat} {L : Loc} {s : A0b} {a : Act} {w : World}
def D3h (tmps:Array Value):ResultVar->Sem Value
 | .tmp t=>pure (tmps.getD t undef)
 | .cell a t=>do loadVar t (<-asAddr (tmps.getD a undef))
theorem E3z (fn:Func) (tmps:Array Value):results fn tmps=(do let vs <-fn.results.mapM (D3h tmps);pure (if h:vs.size=1 then vs[0]else .tuple vs)):=by
 unfold results
 congr 2
theorem B1w (hi:Interp P G B L s a w):∀(rs:List ResultVar) {ps:List PV},A4j P s rs=some ps ->
  ∃vs:List Value,(rs.mapM (D3h a.tmps)).run P w = .ok vs w/\A0z P L w ps vs
 | [],ps,h=>by
  simp only[A4j,Option.some.injEq]at h
  subst h
  exact⟨[],by simp,by simp only[A0z]⟩
 | .tmp t::r,ps,h=>by
  simp only[A4j]at h
  split at h
  ·rename_i p ps' hl hr
   injection h with h;subst h
   obtain⟨vs,hrun,hrep⟩:=B1w hi r hr
   refine⟨a.tmps.getD t undef::vs,?_,by simp only[A0z];exact⟨_,_,rfl,hi.env t p hl,hrep⟩⟩
   rw[List.mapM_cons]
   simp only[D3h,Sem.run_bind,Sem.run_pure,Result.andThen_ok,hrun]
  ·cases h
 | .cell x t::r,ps,h=>by
  simp only[A4j]at h
  split at h
  ·rename_i b o ps' hl hr
   cases hv:D7g P s.H t (.ptr b o)with
   | none=>rw[hv]at h;cases h
   | some q=>
    rw[hv]at h
    injection h with h;subst h
    obtain⟨vs,hrun,hrep⟩:=B1w hi r hr
    have hx:=hi.env x _ hl
    obtain⟨v,hload,hvr⟩:=D2x hi.heap hv hx
    have hx':=hx
    simp only[RepV]at hx'
    refine⟨v::vs,?_,by simp only[A0z];exact⟨_,_,rfl,hvr,hrep⟩⟩
    rw[List.mapM_cons]
    have hload':(D3h a.tmps (.cell x t)).run P w = .ok v w:=by
     rw[hx'.2]at hload
     simp only[D3h,hx'.2,asAddr]
     simpa[Instr.loadAt,Instr.sureAddr]using hload
    simp only[Sem.run_bind,hload',Result.andThen_ok,hrun,Sem.run_pure]
  ·cases h
theorem B0d {fn:Func} {p:PV} (hi:Interp P G B L s a w) (h:A8u P fn s=some p):∃v,(results fn a.tmps).run P w = .ok v w/\RepV P L w p v:=by
 unfold A8u at h
 have key:∀{ps},A4j P s fn.results.toList=some ps->∃vs:Array Value,(results fn a.tmps).run P w = .ok (if h:vs.size=1 then vs[0]else .tuple vs) w/\A0z P L w ps vs.toList:=by
  intro ps hps
  obtain⟨vs,hrun,hrep⟩:=B1w hi _ hps
  refine⟨vs.toArray,?_,by simpa using hrep⟩
  rw[E3z,Array.mapM_eq_mapM_toList]
  simp[hrun]
 split at h
 ·rename_i q hq
  injection h with h;subst h
  obtain⟨vs,hrun,hrep⟩:=key hq
  simp only[A0z]at hrep
  obtain⟨x,xs,e,hx,rfl⟩:=hrep
  have hvs:vs = #[x]:=by cases vs;simpa using e
  subst hvs
  exact⟨x,by simpa using hrun,hx⟩
 ·rename_i ps hne hq
  injection h with h;subst h
  obtain⟨vs,hrun,hrep⟩:=key hq
  have hl:=hrep.length
  have h1:¬vs.size=1:=by
   intro h1
   have:ps.length=1:=by rw[<-hl];simpa using h1
   match ps,this with
   | [q],_=>exact hne q rfl
  rw[dif_neg h1]at hrun
  refine⟨.tuple vs,hrun,?_⟩
  cases ha:allT ps with
  | none=>simp only[RepV];exact⟨vs,rfl,hrep⟩
  | some ts=>
   have:=B3v ha
   subst this
   simp only[RepV,RepT]
   exact⟨vs,rfl,hrep.toT⟩
 ·cases h
theorem B0e:∀(args:List PV) (k j:Nat) (p:PV),look ((args.zipIdx j).map (fun q=>(q.2,q.1))) k=some p->j<=k/\args[k-j]?=some p
 | [],k,j,p,h=>by simp[look]at h
 | x::args,k,j,p,h=>by
  simp only[List.zipIdx_cons,List.map_cons,look]at h
  by_cases e:j=k
  ·rw[if_pos e]at h;subst e;simpa using h
  ·rw[if_neg e]at h
   obtain⟨h1,h2⟩:=B0e args k (j+1) p h
   refine⟨by omega,?_⟩
   rw[show k-j=(k-(j+1))+1 by omega]
   simpa using h2
end
end Go.Abs
