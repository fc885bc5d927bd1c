/- Auxiliary facts. -/
import Derived.Test.YtmgjopafgboljaaGreatDoorVEQ05
import Derived.ChangeSlices
import Derived.Below
import Derived.WalkKit
import Derived.ProofKit
import Derived.OpenShut
import Derived.Lib.LaidTab
set_option linter.unusedSimpArgs false
set_option linter.unusedVariables false
namespace Go.Abs
open Go Go.ChangeShapes Go.WideShapes Go.ChangeAt Go.RowKit
def Old (w:World) (b:Nat):Prop:=b<w.heap.size
theorem A1d.true {P:Program} {G:A1c} {f:FuncId} {ts:List T} {W:World} {us:Array Value} (h:A1d P G f ts (· = .v (.bool true)))
  (hG:∀g cs,look G g=some cs->Old W g/\RepG (Old W) W cs g) (hr:RepL (Old W) W ts us.toList) :
  Calls P f us W fun e w'=>e = .returned (.bool true)/\Below W.heap.size W w':=by
 refine(h.2 (Old W) W us (fun _ hb=>hb) hG hr).mono fun e w' ⟨v,r,I',he,hR,hv,ho,hs,hsame,_⟩=>?_;subst hR;simp only[RepT]at hv;subst hv;exact⟨he,⟨ho.1,ho.2.1,ho.2.2,hs,hsame⟩⟩
theorem B9h {P:Program} {W:World} {name:String} {g:Nat} {vs:List Value} (h:W.var? P name=some vs.toArray) (hg:P.globalNamed name=some g) (h1:∀x∈vs,x.oneCell'=true):Old W g/\RepG (Old W) W (vs.map .v) g:=by
 unfold World.var? at h;rw[hg]at h;simp only[Option.bind_some]at h;split at h
 ·rename_i cs ty fz hw;injection h with h;subst h;refine⟨(Array.getElem?_eq_some_iff.1 hw).1,RepC.mk fun j c hj=>?_,_,_,_,hw,by simp⟩;simp only[List.getElem?_map,Option.map_eq_some_iff]at hj;obtain⟨n,hn,rfl⟩:=hj;refine⟨n,?_,h1 n (List.mem_of_getElem? hn),by simp only[RepT]⟩;simp[World.cell?,hw,hn]
 ·cases h
theorem D7i {I:Nat->Prop} {w:World}:∀{vs us:List Value},RepL I w (vs.map .v) us->us=vs
 | [],us,h=>by simpa only[List.map_nil,RepL]using h
 | v::vs,us,h=>by
  simp only[List.map_cons,RepL]at h;obtain⟨x,xs,rfl,hx,hxs⟩:=h;simp only[RepT]at hx;rw[hx,D7i hxs]
theorem D7j {P:Program} {I:Nat->Prop} {W:World} {name:String} {g:Nat} {vs:List Value} (hg:P.globalNamed name=some g) (h:RepG I W (vs.map .v) g):W.var? P name=some vs.toArray:=by
 obtain⟨h,arr,ty,fz,hw,hn⟩:=h;unfold World.var?;rw[hg];simp only[Option.bind_some,hw,Option.some.injEq];apply Array.ext';refine List.ext_getElem? fun j=>?_;by_cases hj:j<vs.length
 ·obtain⟨x,hx,_,hr⟩:=h.at_ j (c:=.v vs[j]) (by simp[hj]);simp only[RepT]at hr;subst hr;simp only[World.cell?,hw,Nat.zero_add]at hx;simpa[hj]using hx
 ·have:arr.size<=j:=by simp at hn;omega
  rw[List.getElem?_eq_none (by simpa using this),List.getElem?_eq_none (by simpa using hj)]
theorem F1v {P:Program} {W:World} {name:String} {k:IntKind} {zs:List Int} {g:Nat} (h:Lib.TabIs P W name k zs) (hg:P.globalNamed name=some g):Old W g/\RepG (Old W) W (zs.map fun n=>.v (.int k n)) g:=by
 have:=B9h (vs:=zs.map fun z=>Value.int k z) h hg (fun x hx=>by obtain⟨z,_,rfl⟩:=List.mem_map.1 hx;rfl);rwa[List.map_map]at this
theorem A1d.lib {P:Program} {G:A1c} {f:FuncId} {vs:List Value} {r:Value} (hf:IsFn P f)
  (h:∀(I:Nat->Prop) (w:World),(∀g cs,look G g=some cs->I g/\RepG I w cs g)->Calls P f vs.toArray w fun e w'=>e = .returned r/\Below w.heap.size w w'):A1d P G f (vs.map .v) (· = .v r):=by
 refine⟨hf,fun I w us hlt hglob hargs=>?_⟩
 have e:us=vs.toArray:=by
  have:=D7i hargs;rw[<-this]
 subst e;refine(h I w hglob).mono fun e w' ⟨he,hb⟩=>?_;exact⟨r,_,I,he,rfl,by simp only[RepT],⟨hb.os,hb.tape,hb.output⟩,hb.size,hb.block,fun _ h=>h,fun _ h=>.inl h,fun g hg=>Nat.lt_of_lt_of_le (hlt g hg) hb.size⟩
open Go
def A3n (P:Program) (G:A1c) (f:FuncId) (ps:List PV) (H:Heap) (nx:Nat) (r:PV) (H':Heap) (nx':Nat):Prop:=
 IsFn P f/\∀(L:Loc) (w:World) (us:Array Value),A1o P G L H w->L.nx=nx->A0y P L w ps us.toList ->
  Calls P f us w fun e w'=>∃v L',e = .returned v/\RepV P L' w' r v/\A1o P G L' H' w'/\L'.nx=nx'/\Mono L w L' w'/\Ext L H w L' H' w'
theorem A0y.append {P:Program} {L:Loc} {w:World}:∀{ps qs:List PV} {us vs:List Value},A0y P L w ps us->A0y P L w qs vs->A0y P L w (ps++qs) (us++vs)
 | [],qs,us,vs,h,h'=>by simp only[A0y]at h;subst h;simpa using h'
 | p::ps,qs,us,vs,h,h'=>by
  simp only[A0y]at h;obtain⟨x,xs,rfl,hx,hxs⟩:=h;simp only[List.cons_append,A0y];exact⟨x,xs++vs,rfl,hx,A0y.append hxs h'⟩
section
variable {P : Program} {G : A1c} {B : Nat} {s : A0c} {o : Oper} {f : FuncId} {r : PV} {H' : Heap} {nx' : Nat}
theorem C6m {L:Loc} {a:Act} {w:World} (hi:Interp P G B L s a w) (args:Array Operand):A0y P L w (args.toList.map (s.ev G)) (args.map a.eval).toList:=by
 refine A0y.mk (by simp) fun k c x hk hx=>?_;simp only[List.getElem?_map,Array.toList_map]at hk hx
 cases ha:args.toList[k]? with
 | none=>rw[ha]at hk;cases hk
 | some q=>
  rw[ha]at hk hx;injection hk with hk;injection hx with hx;subst hk;subst hx;exact hi.ev q
theorem C0g {ps:List PV} (hc:A3n P G f ps s.H s.nx r H' nx')
  (hrun:∀L a w,Interp P G B L s a w->∃us:Array Value,(execOp a.eval o).run P w = .ok (.enter f us) w/\A0y P L w ps us.toList):AOp P G B o s r H' nx':=fun L a w hi=>by
 obtain⟨us,hr,hrep⟩:=hrun L a w hi;unfold Oper.wp;rw[hr,Oper.upon_enter];refine(hc.2 L w us hi.heap hi.nx hrep).mono ?_;rintro e w' ⟨v,L',rfl,hv,hok,hnx,hm,hx⟩;exact⟨v,L',rfl,hv,hok,hnx,hm,hx⟩
theorem E5k {args:Array Operand} {ts:Array TypeId} (ho:o.op = .call ⟨.value (.func f),args,ts⟩) (hc:A3n P G f (args.toList.map (s.ev G)) s.H s.nx r H' nx'):AOp P G B o s r H' nx':=
 C0g hc fun L a w hi=>⟨args.map a.eval,by simp[execOp,ho,resolve,Act.eval,Deferred.ofValue,invoke,hc.1.run],C6m hi args⟩
theorem E5l {x:Operand} {args:Array Operand} {ts:Array TypeId} (ho:o.op = .call ⟨.value x,args,ts⟩) (hx:s.ev G x = .t (.v (.func (.func f) #[] #[]))) (hc:A3n P G f (args.toList.map (s.ev G)) s.H s.nx r H' nx'):AOp P G B o s r H' nx':=
 C0g hc fun L a w hi=>by
  have:=hi.ev x;rw[hx]at this;simp only[RepV,RepT]at this;exact⟨args.map a.eval,by simp[execOp,ho,resolve,this,Deferred.ofValue,invoke,hc.1.run],C6m hi args⟩
theorem E5m {x:Operand} {args:Array Operand} {ts:Array TypeId} {first cap:List PV} (ho:o.op = .call ⟨.value x,args,ts⟩) (hx:s.ev G x = .fn (.func f) first cap)
  (hc:A3n P G f (first++args.toList.map (s.ev G)++cap) s.H s.nx r H' nx'):AOp P G B o s r H' nx':=
 C0g hc fun L a w hi=>by
  have:=hi.ev x;rw[hx]at this;simp only[RepV]at this;obtain⟨us,vs,e,h1,h2⟩:=this;refine⟨us++args.map a.eval++vs,by simp[execOp,ho,resolve,e,Deferred.ofValue,invoke,hc.1.run],?_⟩;have:=(h1.append (C6m hi args)).append h2;simpa using this
end
theorem A1d.callP {P:Program} {G:A1c} {f:FuncId} {H:Heap} {nx:Nat} {ps:List PV} {targs:List T} {F:List Nat} {r:T} (hT:toTs H ps=some (targs,F)) (hc:A1d P G f targs (· = r)) :
  A3n P G f ps H nx (.t r) (if A3s r then H else remAll H F) nx:=by
 refine⟨hc.1,fun L w us hheap hnx hargs=>?_⟩;have hrep:=B4t hheap _ hT hargs F (fun b hb=>hb)
 have hlt:∀b,(L.I b\/Lent L H F b)->b<w.heap.size:=by
  rintro b (h | ⟨k,_,⟨r,hr⟩,rfl⟩)
  ·exact hheap.lt b h
  ·exact(hheap.rep k r hr).lt
 refine(hc.2 _ w us hlt (fun g cs hg=>⟨.inl (hheap.glob g cs hg).1,RepG.keep (B2c fun g hg=>.inl hg) (hheap.glob g cs hg).1 (hheap.glob g cs hg).2⟩) hrep).mono ?_;rintro e w' ⟨v,r',I',rfl,rfl,hv,hout,hsz,hsame,hmore,hnew,hltI⟩
 have hshape:A1y w w':=fun g hg arr ty fz he=>⟨arr,fz,by rw[<-hsame g hg];exact he,rfl⟩
 by_cases hp:A3s r'=Bool.true
 ·rw[if_pos hp]
  have hm:Mono L w L w':=⟨fun b hb=>⟨hb,hsame b (hheap.lt b hb)⟩,Nat.le_refl _,fun _ _=>rfl,hsz,hshape⟩
  refine⟨v,L,rfl,by simp only[RepV];exact C4g hp hv,?_,hnx,hm,?_⟩
  ·exact⟨fun b hb=>Nat.lt_of_lt_of_le (hheap.lt b hb) hsz,fun b r hb=>(hheap.rep b r hb).keep hm (hsame _ (hheap.rep b r hb).lt),hheap.apart,hheap.inj,hheap.nx,A2b hheap hm.keeps⟩
  ·exact⟨hsz,fun g hg _=>hsame g hg,fun _ h=>h,fun _ h=>.inl h,fun _ h=>.inr h,hshape,hout⟩
 ·rw[if_neg hp]
  have hm:Mono L w { L with I:=I' } w':=⟨fun b hb=>⟨hmore b (.inl hb),hsame b (hheap.lt b hb)⟩,Nat.le_refl _,fun _ _=>rfl,hsz,hshape⟩
  refine⟨v,{ L with I:=I' },rfl,by simp only[RepV];exact hv,?_,hnx,hm,?_⟩
  ·refine⟨hltI,fun b r hb=>?_,fun b r hb hI=>?_,fun b b' r r' hb hb'=>?_,fun b r hb=>?_,A2b hheap hm.keeps⟩
   ·have hb':=(A1m F H b r hb).1;exact(hheap.rep b r hb').keep hm (hsame _ (hheap.rep b r hb').lt)
   ·obtain⟨hb',hnF⟩:=A1m F H b r hb;rcases hnew _ hI with(h | ⟨k,hk,⟨r2,hr2⟩,e⟩) | h
    ·exact hheap.apart b r hb' h
    ·exact hnF ((hheap.inj k b r2 r hr2 hb' e)▸hk)
    ·have:=(hheap.rep b r hb').lt;exact absurd this (by have h':w.heap.size<=L.μ b:=h;omega)
   ·exact hheap.inj b b' r r' (A1m F H b r hb).1 (A1m F H b' r' hb').1
   ·exact hheap.nx b r (A1m F H b r hb).1
  ·refine⟨hsz,fun g hg _=>hsame g hg,fun g h=>hmore g (.inl h),fun g h=>?_,fun g ⟨k,r,hk,e⟩=>.inr ⟨k,r,(A1m F H k r hk).1,e⟩,hshape,hout⟩;rcases hnew g h with(h | ⟨k,_,⟨r2,hr2⟩,e⟩) | h
   ·exact .inl h
   ·exact .inr (.inr ⟨k,r2,hr2,e⟩)
   ·exact .inr (.inl h)
structure A0u where
 t:FuncId->List T->Option T
 h:FuncId->List PV->Heap->Nat->Option (PV×Heap×Nat)
instance:CoeFun A0u (fun _=>FuncId->List T->Option T):=⟨A0u.t⟩
structure A0u.Sound (P:Program) (G:A1c) (Φ:A0u):Prop where
 t:∀f args r,Φ.t f args=some r->A1d P G f args (· = r)
 h:∀f ps H nx r H' nx',Φ.h f ps H nx=some (r,H',nx')->A3n P G f ps H nx r H' nx'
 fresh:∀f ps H nx r H' nx',Φ.h f ps H nx=some (r,H',nx')->(∀b x,look H b=some x->b<nx)->∀b x,look H' b=some x->b<nx'
def refT (P:Program) (t:TypeId):Bool:=
 match P.underlying t with
 | some (.pointer _) | some (.func _ _ _) | some (.map _ _)=>true
 | _=>false
def hot:List Nat:=[42,43,85,46,92,84,93,94,45,74,63,60,98,59,99,61,62]
def D7k (Φ:A0u) (H:Heap) (nx:Nat) (fv:PV) (ps:List PV):Option (PV×Heap×Nat):=
 match fv with
 | .t (.v (.func (.func f) ⟨[]⟩ ⟨[]⟩))=>Φ.h f ps H nx
 | .fn (.func f) first cap=>Φ.h f (first++ps++cap) H nx
 | _=>none
def valV (P:Program) (G:A1c) (Φ:A0u) (s:A0c) (o:Op):Option (PV×Heap×Nat):=
 match o with
 | .call ⟨.value (.func f),args,ts⟩=>if ts.toList.any (refT P)||hot.contains f then Φ.h f (args.toList.map (s.ev G)) s.H s.nx else
  (match toTs s.H (args.toList.map (s.ev G))with
  | some (targs,F)=>match Φ f targs with
   | some r=>some (.t r,if F.isEmpty then s.H else if A3s r then s.H else remAll s.H F,s.nx)
   | none=>none
  | none=>none)
 | .call ⟨.value x,args,_⟩=>D7k Φ s.H s.nx (s.ev G x) (args.toList.map (s.ev G))
 | o=>opV P s.H s.nx (s.ev G) o
section
variable {P : Program} {G : A1c} {B : Nat} {s : A0c} {o : Oper} {Φ : A0u}
theorem F1w (hΦ:Φ.Sound P G) {r:PV} {H':Heap} {nx':Nat} (h:valV P G Φ s o.op=some (r,H',nx')):AOp P G B o s r H' nx':=by
 unfold valV at h;split at h
 ·rename_i f args ts ho;split at h
  ·exact E5k ho (hΦ.h _ _ _ _ _ _ _ h)
  ·split at h
   ·rename_i targs F hT;split at h
    ·rename_i q hq;injection h with h;injection h with h1 h2;injection h2 with h2 h3;subst h1;subst h3;have:=E5j (B:=B) ho hT (hΦ.t f targs q hq)
     cases hF:F.isEmpty with
     | true=>
      have:F=[]:=by simpa using hF
      subst this;simp only[List.isEmpty_nil,if_true]at h2;subst h2;rename_i this
      have e:(if A3s q=true then s.H else remAll s.H [])=s.H:=by split<;>rfl
      rw[e]at this;exact this
     | false=>
      rw[hF]at h2;simp only[Bool.false_eq_true,if_false]at h2;subst h2;exact this
    ·cases h
   ·cases h
 ·rename_i x args ts hne ho;unfold D7k at h;split at h
  ·rename_i f hx;exact E5l ho hx (hΦ.h _ _ _ _ _ _ _ h)
  ·rename_i f first cap hx
   exact E5m ho hx (hΦ.h _ _ _ _ _ _ _ h)
  ·cases h
 ·exact F6a h
end
def ancs:List Oper->List Nat->List Nat
 | [],acc=>acc
 | o::rest,acc=>ancs rest (acc++[(o.after.toList.filter (Region.binds .any)).foldl (fun m e=>m|||2^e.on|||acc.getD e.on 0) 0])
section
variable {ops : Array Oper}
def C0h (ops:Array Oper) (S:Array Bool):Prop:=∀(i:Nat) o,ops[i]?=some o->S.getD i false=true->∀e∈o.after.toList,Region.binds .any e=true->S.getD e.on false=true
theorem B7y (acc:List Nat) (i:Nat):∀(es:List Edge) (m:Nat),(es.foldl (fun m e=>m|||2^e.on|||acc.getD e.on 0) m).testBit i=true->m.testBit i=true\/∃e∈es,e.on=i\/(acc.getD e.on 0).testBit i=true
 | [],m,h=>.inl h
 | e::es,m,h=>by
  simp only[List.foldl_cons]at h;rcases B7y acc i es _ h with h | ⟨e',he',h⟩
  ·simp only[Nat.testBit_or,Bool.or_eq_true]at h;rcases h with(h | h) | h
   ·exact .inl h
   ·rw[Nat.testBit_two_pow]at h;exact .inr ⟨e,by simp,.inl (by simpa using h)⟩
   ·exact .inr ⟨e,by simp,.inr h⟩
  ·exact .inr ⟨e',by simp[he'],h⟩
theorem C4h {S:Array Bool} (hS:C0h ops S):∀(rest done:List Oper) (acc:List Nat),ops.toList=done++rest->acc.length=done.length ->
  (∀(j:Nat) i o,done[j]?=some o->(acc.getD j 0).testBit i=true->(∀e∈o.after.toList,Region.binds .any e=true->S.getD e.on false=true)->S.getD i false=true) ->
  ∀(j:Nat) i o,ops[j]?=some o->((ancs rest acc).getD j 0).testBit i=true->(∀e∈o.after.toList,Region.binds .any e=true->S.getD e.on false=true)->S.getD i false=true
 | [],done,acc,he,hl,h=>by
  intro j i o ho hb hp;refine h j i o ?_ hb hp
  have:ops.toList[j]?=some o:=by simpa using ho
  rwa[he,List.append_nil]at this
 | q::rest,done,acc,he,hl,h=>by
  refine C4h hS rest (done++[q]) _ (by simp[he]) (by simp[hl]) ?_;intro j i o ho hb hp;by_cases hj:j<done.length
  ·rw[List.getElem?_append_left hj]at ho;rw[List.getD_eq_getElem?_getD,List.getElem?_append_left (by omega),<-List.getD_eq_getElem?_getD]at hb;exact h j i o ho hb hp
  ·have hj2:j=done.length:=by
    have:=(List.getElem?_eq_some_iff.1 ho).1;simp at this;omega
   subst hj2;simp only[List.getElem?_append_right (Nat.le_refl _),Nat.sub_self,List.getElem?_cons_zero,Option.some.injEq]at ho;subst ho;rw[List.getD_eq_getElem?_getD,<-hl,List.getElem?_append_right (Nat.le_refl _)]at hb;simp only[Nat.sub_self,List.getElem?_cons_zero,Option.getD_some]at hb;rcases B7y acc i _ 0 hb with hb | ⟨e,he',hb⟩
   ·simp at hb
   ·obtain⟨he1,he2⟩:=List.mem_filter.1 he';have hpe:=hp e he1 he2;rcases hb with rfl | hb
    ·exact hpe
    ·
     by_cases hlt:e.on<done.length
     ·obtain⟨oe,hoe⟩:∃oe,done[e.on]?=some oe:=⟨_,List.getElem?_eq_getElem hlt⟩
      refine h e.on i oe hoe hb ?_;refine hS e.on oe ?_ hpe
      have:ops.toList[e.on]?=some oe:=by rw[he,List.getElem?_append_left hlt];exact hoe
      simpa using this
     ·rw[List.getD_eq_getElem?_getD,List.getElem?_eq_none (by omega)]at hb;simp at hb
theorem A7c {S:Array Bool} (hS:C0h ops S) {i j:Nat} {o:Oper} (ho:ops[j]?=some o) (hb:((ancs ops.toList []).getD j 0).testBit i=true)
  (hp:∀e∈o.after.toList,Region.binds .any e=true->S.getD e.on false=true):S.getD i false=true:=
 C4h hS ops.toList [] [] (by simp) rfl (by simp) j i o ho hb hp
end
inductive Opd where
 | tmp (t:Nat)
 | k (p:PV)
@[simp] def Opd.ev (env:List (Nat×PV)):Opd->PV
 | .tmp t=>(look env t).getD .dead
 | .k p=>p
def A0m (G:A1c):Operand->Opd
 | .tmp t=>.tmp t
 | .const x=>.k (C6i x)
 | .global g=>.k (match look G g with
  | some cs=>.t (.pt cs)
  | none=>.t (.v (.pointer (some ⟨g,0,none⟩))))
 | .func f=>.k (.t (.v (.func (.func f) #[] #[])))
theorem A5q (G:A1c) (s:A0c) (x:Operand):(A0m G x).ev s.env=s.ev G x:=by cases x<;>rfl
inductive NK where
 | sl | ifc | ptr | fn | mp
inductive CK where
 | i | s | b
inductive EK where
 | eqs (neg:Bool) (ks:List CK)
 | mki (t:Nat)
 | mkf (f:Fn) (n:Nat)
 | aix (len n:Nat) (agg:Bool)
inductive HK where
 | range
 | next
 | b2s
 | pan
 | mnew (kk:KK)
 | mget (kk:KK) (z:Value) (ok:Bool)
 | mset (kk:KK)
 | clr (n:Nat) (zc:List Value)
 | mlen
 | s2b
 | cpy (n:Nat)
 | slarr (len z:Nat)
 | mrange
 | mnext
 | ment
inductive MK where
 | mv
 | pick
 | bin (isB:Bool) (op:BinOp) (nk:Option NK)
 | un (op:UnOp)
 | conv (k:Option IntKind)
 | load (agg:Bool) (n:Nat)
 | faddr (off:Nat)
 | field (off:Nat) (agg:Bool) (n:Nat)
 | iaddr (z:Nat)
 | aaddr (len z:Nat)
 | index
 | slstr (lo hi:Bool)
 | slice (z:Nat) (lo hi:Bool)
 | ext (i:Nat)
 | chk
 | lenstr
 | lensl
 | min
 | max
 | store (n:Nat)
 | make (e n by':Nat) (zc:List Value)
 | bslice (e n:Nat) (zc:List Value) (len:Nat) (idx:List Nat)
 | build (places:List (Nat×Nat)) (zc:List Value) (idx:List Nat)
 | barr (n:Nat) (zc:List Value) (idx:List Nat)
 | box (t:Nat)
 | alloc (t:Nat) (zc:List Value)
 | app (e n by':Nat)
 | call (f:Nat)
 | hcall (f:Nat)
 | callv
 | tslice (e n:Nat) (zc:List Value) (len:Nat) (idx:List Nat)
 | bad
 | ex (e:EK)
 | hx (h:HK)
def D4b (P:Program) (t:TypeId):Bool:=match P.underlying t with | some .bool=>true | _=>false
@[simp] def binM (isB:Bool) (op:BinOp) (x y:Value):Option Value:=
 match x,y with
 | .int k a,.int k' b=>
  match op with
  | .shl=>if b<0 then none else some (.int k (k.wrap (a*2^(min b.toNat k.bits))))
  | .shr=>if b<0 then none else some (.int k (a.fdiv (2^(min b.toNat k.bits))))
  | .add=>if k=k' then some (.int k (k.wrap (a+b)))else none
  | .sub=>if k=k' then some (.int k (k.wrap (a-b)))else none
  | .mul=>if k=k' then some (.int k (k.wrap (a*b)))else none
  | .quo=>if k=k' then(if b=0 then none else some (.int k (k.wrap (a.tdiv b))))else none
  | .rem=>if k=k' then(if b=0 then none else some (.int k (a.tmod b)))else none
  | .and=>if k=k' then some (.int k (k.wrap (BitVec.ofInt k.bits a&&&BitVec.ofInt k.bits b).toNat))else none
  | .or=>if k=k' then some (.int k (k.wrap (BitVec.ofInt k.bits a|||BitVec.ofInt k.bits b).toNat))else none
  | .xor=>if k=k' then some (.int k (k.wrap (BitVec.ofInt k.bits a ^^^ BitVec.ofInt k.bits b).toNat))else none
  | .andNot=>if k=k' then some (.int k (k.wrap (BitVec.ofInt k.bits a &&& ~~~ (BitVec.ofInt k.bits b)).toNat))else none
  | .eql=>if k=k' then some (.bool (a==b))else none
  | .neq=>if k=k' then some (.bool (a != b))else none
  | .lss=>if k=k' then some (.bool (decide (a<b)))else none
  | .leq=>if k=k' then some (.bool (decide (a<=b)))else none
  | .gtr=>if k=k' then some (.bool (decide (b<a)))else none
  | .geq=>if k=k' then some (.bool (decide (b<=a)))else none
 | .string a,.string b=>
  match op with
  | .add=>if a.size+b.size<=9223372036854775807 then some (.string (a++b))else none
  | .eql=>some (.bool (a.toList==b.toList))
  | .neq=>some (.bool (!(a.toList==b.toList)))
  | .lss=>some (.bool (Op.bytesLess a.toList b.toList))
  | .leq=>some (.bool (Op.bytesLess a.toList b.toList||a.toList==b.toList))
  | .gtr=>some (.bool (!(Op.bytesLess a.toList b.toList||a.toList==b.toList)))
  | .geq=>some (.bool (!(Op.bytesLess a.toList b.toList)))
  | _=>none
 | .bool a,.bool b=>
  match op,isB with
  | .eql,true=>some (.bool (a==b))
  | .neq,true=>some (.bool (!(a==b)))
  | _,_=>none
 | _,_=>none
theorem F6b (P:Program) (t:TypeId) (op:BinOp) (x y:Value):binV P t op x y=binM (D4b P t) op x y:=by
 unfold binV binM D4b
 cases x<;>cases y<;>try rfl
 case bool.bool a b=>
  simp only
  cases hu:P.underlying t with
  | none=>cases op<;>rfl
  | some d=>cases d<;>cases op<;>rfl
@[simp] def nilM (nk:NK) (p:PV):Option Bool:=
 match nk,p with
 | .sl,.t (.v (.slice none _ _))=>some true
 | .sl,.t (.sl _ _)=>some false
 | .sl,.row _ _ _ _=>some false
 | .ifc,.t (.v .nilIface)=>some true
 | .ifc,.t (.ic _ _)=>some false
 | .ifc,.ic _ _=>some false
 | .ptr,.t (.v (.pointer none))=>some true
 | .ptr,.t (.pt _)=>some false
 | .ptr,.ptr _ _=>some false
 | .fn,.t (.v .nilFunc)=>some true
 | .fn,.t (.v (.func _ _ _))=>some false
 | .fn,.fn _ _ _=>some false
 | .mp,.t (.v (.map none))=>some true
 | .mp,.mp _=>some false
 | _,_=>none
def nkOf (P:Program) (t:TypeId):Operand->Option NK
 | .const (.slice none _ _)=>match P.underlying t with | some (.slice _)=>some .sl | _=>none
 | .const .nilIface=>match P.underlying t with | some (.interface _)=>some .ifc | _=>none
 | .const (.pointer none)=>match P.underlying t with | some (.pointer _)=>some .ptr | _=>none
 | .const .nilFunc=>match P.underlying t with | some (.func _ _ _)=>some .fn | _=>none
 | .const (.map none)=>match P.underlying t with | some (.map _ _)=>some .mp | _=>none
 | _=>none
@[simp] def cmpM (op:BinOp) (nk:Option NK) (p:PV):Option PV:=
 match nk with
 | some n=>match op with
  | .eql=>(nilM n p).map fun b=>.t (.v (.bool b))
  | .neq=>(nilM n p).map fun b=>.t (.v (.bool (!b)))
  | _=>none
 | none=>none
theorem D7l (P:Program) (op:BinOp) (t:TypeId) (p:PV) (y:Operand) {r:PV} (h:cmpM op (nkOf P t y) p=some r):B3g P op t p y=some r:=by
 have key:∀c n b,nkOf P t (.const c)=some n->nilM n p=some b->C9o P t p c=some b:=by
  intro c n b hn hb;unfold nkOf at hn;split at hn<;>(try cases hn)<;>(rename_i hc;injection hc with hc;subst hc;split at hn<;>(try cases hn))
  all_goals (rename_i hu;unfold C9o;rw[hu];unfold nilM at hb;split at hb<;>(try cases hb)<;>first | rfl | contradiction)
 cases y with
 | const c=>
  simp only[cmpM]at h;split at h
  ·rename_i n hn;simp only[B3g]
   cases op<;>simp only at h ⊢ <;> try cases h
   all_goals
    cases hb:nilM n p with
    | none=>rw[hb]at h;cases h
    | some b=>rw[hb]at h;rw[key c n b hn hb];exact h
  ·cases h
 | tmp _=>simp[nkOf,cmpM]at h
 | global _=>simp[nkOf,cmpM]at h
 | func _=>simp[nkOf,cmpM]at h
end Go.Abs
