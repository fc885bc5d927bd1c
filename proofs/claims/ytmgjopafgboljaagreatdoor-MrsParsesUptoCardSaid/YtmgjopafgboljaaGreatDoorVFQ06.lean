/- Auxiliary facts. -/
import Derived.Test.YtmgjopafgboljaaGreatDoorVFQ05
import Derived.ChangeSlices
import Derived.Below
import Derived.WalkKit
import Derived.ProofKit
import Derived.OpenShut
import Derived.Lib.LaidTab
set_option linter.unusedSimpArgs false
set_option linter.unusedVariables false
open BitVec renaming ofInt->Xc
open Nat renaming le_refl->Xd,lt_of_lt_of_le->Xk
open List renaming getD_eq_getElem?_getD->Xe,getElem?_eq_none->Xf,getElem?_append_left->Xg,getElem?_map->Xi,getElem?_append_right->Xl,getElem?_cons_zero->Xm
open Option renaming bind_some->Xh,some->Xj
namespace Go.Abs
open Go Go.ChangeShapes Go.WideShapes Go.ChangeAt Go.RowKit
def Old (w:World) (b:Nat):Prop:=b<w.heap.size
theorem Bc.true {P:Program} {G:AM} {f:FuncId} {ts:List T} {W:World} {us:Array Value} (h:Bc P G f ts (· = .v (.bool true)))
  (hG:∀g cs,Aj G g=some cs->Old W g/\Ex (Old W) W cs g) (hr:AX (Old W) W ts us.toList) :
  Calls P f us W λe w'=>e = .returned (.bool true)/\Below W.heap.size W w':=by
 refine(h.2 (Old W) W us (λ_ hb=>hb) hG hr).mono λe w' ⟨v,r,I',he,hR,hv,ho,hs,hsame,_⟩=>?_;subst hR;simp only[AA]at hv;subst hv;exact⟨he,⟨ho.1,ho.2.1,ho.2.2,hs,hsame⟩⟩
theorem MI {P:Program} {W:World} {name:String} {g:Nat} {vs:List Value} (h:W.var? P name=some vs.toArray) (hg:P.globalNamed name=some g) (h1:∀x∈vs,x.oneCell'=true):Old W g/\Ex (Old W) W (vs.map .v) g:=by
 unfold World.var? at h;rw[hg]at h;simp only[Xh]at h;split at h
 .rename_i cs ty fz hw;injection h with h;subst h;refine⟨(Array.getElem?_eq_some_iff.1 hw).1,Bs.mk λj c hj=>?_,_,_,_,hw,by simp⟩;simp only[Xi,Option.map_eq_some_iff]at hj;obtain⟨n,hn,rfl⟩:=hj;refine⟨n,?_,h1 n (List.mem_of_getElem? hn),by simp only[AA]⟩;simp[World.cell?,hw,hn]
 .cases h
theorem MJ {I:Nat->Prop} {w:World}:∀{vs us:List Value},AX I w (vs.map .v) us->us=vs
 | [],us,h=>by simpa only[List.map_nil,AX]using h
 | v::vs,us,h=>by
  simp only[List.map_cons,AX]at h;obtain⟨x,xs,rfl,hx,hxs⟩:=h;simp only[AA]at hx;rw[hx,MJ hxs]
theorem Sk {P:Program} {I:Nat->Prop} {W:World} {name:String} {g:Nat} {vs:List Value} (hg:P.globalNamed name=some g) (h:Ex I W (vs.map .v) g):W.var? P name=some vs.toArray:=by
 obtain⟨h,arr,ty,fz,hw,hn⟩:=h;unfold World.var?;rw[hg];simp only[Xh,hw,Xj.injEq];apply Array.ext';refine List.ext_getElem? λj=>?_;by_cases hj:j<vs.length
 .obtain⟨x,hx,_,hr⟩:=h.at_ j (c:=.v vs[j]) (by simp[hj]);simp only[AA]at hr;subst hr;simp only[World.cell?,hw,Nat.zero_add]at hx;simpa[hj]using hx
 .have:arr.size<=j:=by simp at hn;omega
  rw[Xf (by simpa using this),Xf (by simpa using hj)]
theorem dY {P:Program} {W:World} {name:String} {k:IntKind} {zs:List Int} {g:Nat} (h:Lib.TabIs P W name k zs) (hg:P.globalNamed name=some g):Old W g/\Ex (Old W) W (zs.map λn=>.v (.int k n)) g:=by
 have:=MI (vs:=zs.map λz=>Value.int k z) h hg (λx hx=>by obtain⟨z,_,rfl⟩:=List.mem_map.1 hx;rfl);rwa[List.map_map]at this
theorem Bc.lib {P:Program} {G:AM} {f:FuncId} {vs:List Value} {r:Value} (hf:KO P f)
  (h:∀(I:Nat->Prop) (w:World),(∀g cs,Aj G g=some cs->I g/\Ex I w cs g)->Calls P f vs.toArray w λe w'=>e = .returned r/\Below w.heap.size w w'):Bc P G f (vs.map .v) (· = .v r):=by
 refine⟨hf,λI w us hlt hglob hargs=>?_⟩
 have e:us=vs.toArray:=by
  have:=MJ hargs;rw[<-this]
 subst e;refine(h I w hglob).mono λe w' ⟨he,hb⟩=>?_;exact⟨r,_,I,he,rfl,by simp only[AA],⟨hb.os,hb.tape,hb.output⟩,hb.size,hb.block,λ_ h=>h,λ_ h=>.inl h,λg hg=>Xk (hlt g hg) hb.size⟩
open Go
def B3 (P:Program) (G:AM) (f:FuncId) (ps:List PV) (H:Ak) (nx:Nat) (r:PV) (H':Ak) (nx':Nat):Prop:=
 KO P f/\∀(L:Loc) (w:World) (us:Array Value),B1 P G L H w->L.nx=nx->AJ P L w ps us.toList ->
  Calls P f us w λe w'=>∃v L',e = .returned v/\Aq P L' w' r v/\B1 P G L' H' w'/\L'.nx=nx'/\Bh L w L' w'/\Ext L H w L' H' w'
theorem AJ.append {P:Program} {L:Loc} {w:World}:∀{ps qs:List PV} {us vs:List Value},AJ P L w ps us->AJ P L w qs vs->AJ P L w (ps++qs) (us++vs)
 | [],qs,us,vs,h,h'=>by simp only[AJ]at h;subst h;simpa using h'
 | p::ps,qs,us,vs,h,h'=>by
  simp only[AJ]at h;obtain⟨x,xs,rfl,hx,hxs⟩:=h;simp only[List.cons_append,AJ];exact⟨x,xs++vs,rfl,hx,AJ.append hxs h'⟩
section
variable {P : Program} {G : AM} {B : Nat} {s : Am} {o : Oper} {f : FuncId} {r : PV} {H' : Ak} {nx' : Nat}
theorem OS {L:Loc} {a:Act} {w:World} (hi:Interp P G B L s a w) (args:Array Operand):AJ P L w (args.toList.map (s.ev G)) (args.map a.eval).toList:=by
 refine AJ.mk (by simp) λk c x hk hx=>?_;simp only[Xi,Array.toList_map]at hk hx
 cases ha:args.toList[k]? with
 | none=>rw[ha]at hk;cases hk
 | some q=>
  rw[ha]at hk hx;injection hk with hk;injection hx with hx;subst hk;subst hx;exact hi.ev q
theorem OT {ps:List PV} (hc:B3 P G f ps s.H s.nx r H' nx')
  (hrun:∀L a w,Interp P G B L s a w->∃us:Array Value,(execOp a.eval o).run P w = .ok (.enter f us) w/\AJ P L w ps us.toList):AOp P G B o s r H' nx':=λL a w hi=>by
 obtain⟨us,hr,hrep⟩:=hrun L a w hi;unfold Oper.wp;rw[hr,Oper.upon_enter];refine(hc.2 L w us hi.heap hi.nx hrep).mono ?_;rintro e w' ⟨v,L',rfl,hv,hok,hnx,hm,hx⟩;exact⟨v,L',rfl,hv,hok,hnx,hm,hx⟩
theorem dZ {args:Array Operand} {ts:Array TypeId} (ho:o.op = .call ⟨.value (.func f),args,ts⟩) (hc:B3 P G f (args.toList.map (s.ev G)) s.H s.nx r H' nx'):AOp P G B o s r H' nx':=
 OT hc λL a w hi=>⟨args.map a.eval,by simp[execOp,ho,resolve,Act.eval,Deferred.ofValue,invoke,hc.1.run],OS hi args⟩
theorem e8 {x:Operand} {args:Array Operand} {ts:Array TypeId} (ho:o.op = .call ⟨.value x,args,ts⟩) (hx:s.ev G x = .t (.v (.func (.func f) #[] #[]))) (hc:B3 P G f (args.toList.map (s.ev G)) s.H s.nx r H' nx'):AOp P G B o s r H' nx':=
 OT hc λL a w hi=>by
  have:=hi.ev x;rw[hx]at this;simp only[Aq,AA]at this;exact⟨args.map a.eval,by simp[execOp,ho,resolve,this,Deferred.ofValue,invoke,hc.1.run],OS hi args⟩
theorem e9 {x:Operand} {args:Array Operand} {ts:Array TypeId} {first cap:List PV} (ho:o.op = .call ⟨.value x,args,ts⟩) (hx:s.ev G x = .fn (.func f) first cap)
  (hc:B3 P G f (first++args.toList.map (s.ev G)++cap) s.H s.nx r H' nx'):AOp P G B o s r H' nx':=
 OT hc λL a w hi=>by
  have:=hi.ev x;rw[hx]at this;simp only[Aq]at this;obtain⟨us,vs,e,h1,h2⟩:=this;refine⟨us++args.map a.eval++vs,by simp[execOp,ho,resolve,e,Deferred.ofValue,invoke,hc.1.run],?_⟩;have:=(h1.append (OS hi args)).append h2;simpa using this
end
theorem Bc.callP {P:Program} {G:AM} {f:FuncId} {H:Ak} {nx:Nat} {ps:List PV} {targs:List T} {F:List Nat} {r:T} (hT:Bn H ps=some (targs,F)) (hc:Bc P G f targs (· = r)) :
  B3 P G f ps H nx (.t r) (if De r then H else Ez H F) nx:=by
 refine⟨hc.1,λL w us hheap hnx hargs=>?_⟩;have hrep:=KP hheap _ hT hargs F (λb hb=>hb)
 have hlt:∀b,(L.I b\/GQ L H F b)->b<w.heap.size:=by
  rintro b (h | ⟨k,_,⟨r,hr⟩,rfl⟩)
  .exact hheap.lt b h
  .exact(hheap.rep k r hr).lt
 refine(hc.2 _ w us hlt (λg cs hg=>⟨.inl (hheap.glob g cs hg).1,Ex.keep (MH λg hg=>.inl hg) (hheap.glob g cs hg).1 (hheap.glob g cs hg).2⟩) hrep).mono ?_;rintro e w' ⟨v,r',I',rfl,rfl,hv,hout,hsz,hsame,hmore,hnew,hltI⟩
 have hshape:BH w w':=λg hg arr ty fz he=>⟨arr,fz,by rw[<-hsame g hg];exact he,rfl⟩
 by_cases hp:De r'=Bool.true
 .rw[zu hp]
  have hm:Bh L w L w':=⟨λb hb=>⟨hb,hsame b (hheap.lt b hb)⟩,Xd _,λ_ _=>rfl,hsz,hshape⟩
  refine⟨v,L,rfl,by simp only[Aq];exact Si hp hv,?_,hnx,hm,?_⟩
  .exact⟨λb hb=>Xk (hheap.lt b hb) hsz,λb r hb=>(hheap.rep b r hb).keep hm (hsame _ (hheap.rep b r hb).lt),hheap.apart,hheap.inj,hheap.nx,DX hheap hm.keeps⟩
  .exact⟨hsz,λg hg _=>hsame g hg,λ_ h=>h,λ_ h=>.inl h,λ_ h=>.inr h,hshape,hout⟩
 .rw[zw hp]
  have hm:Bh L w { L with I:=I' } w':=⟨λb hb=>⟨hmore b (.inl hb),hsame b (hheap.lt b hb)⟩,Xd _,λ_ _=>rfl,hsz,hshape⟩
  refine⟨v,{ L with I:=I' },rfl,by simp only[Aq];exact hv,?_,hnx,hm,?_⟩
  .refine⟨hltI,λb r hb=>?_,λb r hb hI=>?_,λb b' r r' hb hb'=>?_,λb r hb=>?_,DX hheap hm.keeps⟩
   .have hb':=(DY F H b r hb).1;exact(hheap.rep b r hb').keep hm (hsame _ (hheap.rep b r hb').lt)
   .obtain⟨hb',hnF⟩:=DY F H b r hb;rcases hnew _ hI with(h | ⟨k,hk,⟨r2,hr2⟩,e⟩) | h
    .exact hheap.apart b r hb' h
    .exact hnF ((hheap.inj k b r2 r hr2 hb' e)▸hk)
    .have:=(hheap.rep b r hb').lt;exact absurd this (by have h':w.heap.size<=L.μ b:=h;omega)
   .exact hheap.inj b b' r r' (DY F H b r hb).1 (DY F H b' r' hb').1
   .exact hheap.nx b r (DY F H b r hb).1
  .refine⟨hsz,λg hg _=>hsame g hg,λg h=>hmore g (.inl h),λg h=>?_,λg ⟨k,r,hk,e⟩=>.inr ⟨k,r,(DY F H k r hk).1,e⟩,hshape,hout⟩;rcases hnew g h with(h | ⟨k,_,⟨r2,hr2⟩,e⟩) | h
   .exact .inl h
   .exact .inr (.inr ⟨k,r2,hr2,e⟩)
   .exact .inr (.inl h)
structure AP where
 t:FuncId->List T->Option T
 h:FuncId->List PV->Ak->Nat->Option (PV×Ak×Nat)
instance:CoeFun AP (λ_=>FuncId->List T->Option T):=⟨AP.t⟩
structure AP.Sound (P:Program) (G:AM) (Φ:AP):Prop where
 t:∀f args r,Φ.t f args=some r->Bc P G f args (· = r)
 h:∀f ps H nx r H' nx',Φ.h f ps H nx=some (r,H',nx')->B3 P G f ps H nx r H' nx'
 fresh:∀f ps H nx r H' nx',Φ.h f ps H nx=some (r,H',nx')->(∀b x,Aj H b=some x->b<nx)->∀b x,Aj H' b=some x->b<nx'
def Sl (P:Program) (t:TypeId):Bool:=
 match P.underlying t with
 | some (.pointer _) | some (.func _ _ _) | some (.map _ _)=>true
 | _=>false
def hot:List Nat:=[42,43,85,46,92,84,93,94,45,74,63,60,98,59,99,61,62]
def ML (Φ:AP) (H:Ak) (nx:Nat) (fv:PV) (ps:List PV):Option (PV×Ak×Nat):=
 match fv with
 | .t (.v (.func (.func f) ⟨[]⟩ ⟨[]⟩))=>Φ.h f ps H nx
 | .fn (.func f) first cap=>Φ.h f (first++ps++cap) H nx
 | _=>none
def BS (P:Program) (G:AM) (Φ:AP) (s:Am) (o:Op):Option (PV×Ak×Nat):=
 match o with
 | .call ⟨.value (.func f),args,ts⟩=>if ts.toList.any (Sl P)||hot.contains f then Φ.h f (args.toList.map (s.ev G)) s.H s.nx else
  (match Bn s.H (args.toList.map (s.ev G))with
  | some (targs,F)=>match Φ f targs with
   | some r=>some (.t r,if F.isEmpty then s.H else if De r then s.H else Ez s.H F,s.nx)
   | none=>none
  | none=>none)
 | .call ⟨.value x,args,_⟩=>ML Φ s.H s.nx (s.ev G x) (args.toList.map (s.ev G))
 | o=>opV P s.H s.nx (s.ev G) o
section
variable {P : Program} {G : AM} {B : Nat} {s : Am} {o : Oper} {Φ : AP}
theorem eG (hΦ:Φ.Sound P G) {r:PV} {H':Ak} {nx':Nat} (h:BS P G Φ s o.op=some (r,H',nx')):AOp P G B o s r H' nx':=by
 unfold BS at h;split at h
 .rename_i f args ts ho;split at h
  .exact dZ ho (hΦ.h _ _ _ _ _ _ _ h)
  .split at h
   .rename_i targs F hT;split at h
    .rename_i q hq;injection h with h;injection h with h1 h2;injection h2 with h2 h3;subst h1;subst h3;have:=dW (B:=B) ho hT (hΦ.t f targs q hq)
     cases hF:F.isEmpty with
     | true=>
      have:F=[]:=by simpa using hF
      subst this;simp only[List.isEmpty_nil,if_true]at h2;subst h2;rename_i this
      have e:(if De q=true then s.H else Ez s.H [])=s.H:=by split<;>rfl
      rw[e]at this;exact this
     | false=>
      rw[hF]at h2;simp only[Bool.false_eq_true,if_false]at h2;subst h2;exact this
    .cases h
   .cases h
 .rename_i x args ts hne ho;unfold ML at h;split at h
  .rename_i f hx;exact e8 ho hx (hΦ.h _ _ _ _ _ _ _ h)
  .rename_i f first cap hx
   exact e9 ho hx (hΦ.h _ _ _ _ _ _ _ h)
  .cases h
 .exact dV h
end
def DJ:List Oper->List Nat->List Nat
 | [],acc=>acc
 | o::rest,acc=>DJ rest (acc++[(o.after.toList.filter (Region.binds .any)).foldl (λm e=>m|||2^e.on|||acc.getD e.on 0) 0])
section
variable {ops : Array Oper}
def IB (ops:Array Oper) (S:Array Bool):Prop:=∀(i:Nat) o,ops[i]?=some o->S.getD i false=true->∀e∈o.after.toList,Region.binds .any e=true->S.getD e.on false=true
theorem Sm (acc:List Nat) (i:Nat):∀(es:List Edge) (m:Nat),(es.foldl (λm e=>m|||2^e.on|||acc.getD e.on 0) m).testBit i=true->m.testBit i=true\/∃e∈es,e.on=i\/(acc.getD e.on 0).testBit i=true
 | [],m,h=>.inl h
 | e::es,m,h=>by
  simp only[List.foldl_cons]at h;rcases Sm acc i es _ h with h | ⟨e',he',h⟩
  .simp only[Nat.testBit_or,Bool.or_eq_true]at h;rcases h with(h | h) | h
   .exact .inl h
   .rw[Nat.testBit_two_pow]at h;exact .inr ⟨e,by simp,.inl (by simpa using h)⟩
   .exact .inr ⟨e,by simp,.inr h⟩
  .exact .inr ⟨e',by simp[he'],h⟩
theorem Sn {S:Array Bool} (hS:IB ops S):∀(rest done:List Oper) (acc:List Nat),ops.toList=done++rest->acc.length=done.length ->
  (∀(j:Nat) i o,done[j]?=some o->(acc.getD j 0).testBit i=true->(∀e∈o.after.toList,Region.binds .any e=true->S.getD e.on false=true)->S.getD i false=true) ->
  ∀(j:Nat) i o,ops[j]?=some o->((DJ rest acc).getD j 0).testBit i=true->(∀e∈o.after.toList,Region.binds .any e=true->S.getD e.on false=true)->S.getD i false=true
 | [],done,acc,he,hl,h=>by
  intro j i o ho hb hp;refine h j i o ?_ hb hp
  have:ops.toList[j]?=some o:=by simpa using ho
  rwa[he,List.append_nil]at this
 | q::rest,done,acc,he,hl,h=>by
  refine Sn hS rest (done++[q]) _ (by simp[he]) (by simp[hl]) ?_;intro j i o ho hb hp;by_cases hj:j<done.length
  .rw[Xg hj]at ho;rw[Xe,Xg (by omega),<-Xe]at hb;exact h j i o ho hb hp
  .have hj2:j=done.length:=by
    have:=(List.getElem?_eq_some_iff.1 ho).1;simp at this;omega
   subst hj2;simp only[Xl (Xd _),Nat.sub_self,Xm,Xj.injEq]at ho;subst ho;rw[Xe,<-hl,Xl (Xd _)]at hb;simp only[Nat.sub_self,Xm,Option.getD_some]at hb;rcases Sm acc i _ 0 hb with hb | ⟨e,he',hb⟩
   .simp at hb
   .obtain⟨he1,he2⟩:=List.mem_filter.1 he';have hpe:=hp e he1 he2;rcases hb with rfl | hb
    .exact hpe
    .
     by_cases hlt:e.on<done.length
     .obtain⟨oe,hoe⟩:∃oe,done[e.on]?=some oe:=⟨_,List.getElem?_eq_getElem hlt⟩
      refine h e.on i oe hoe hb ?_;refine hS e.on oe ?_ hpe
      have:ops.toList[e.on]?=some oe:=by rw[he,Xg hlt];exact hoe
      simpa using this
     .rw[Xe,Xf (by omega)]at hb;simp at hb
theorem MM {S:Array Bool} (hS:IB ops S) {i j:Nat} {o:Oper} (ho:ops[j]?=some o) (hb:((DJ ops.toList []).getD j 0).testBit i=true)
  (hp:∀e∈o.after.toList,Region.binds .any e=true->S.getD e.on false=true):S.getD i false=true:=
 Sn hS ops.toList [] [] (by simp) rfl (by simp) j i o ho hb hp
end
inductive Opd where
 | tmp (t:Nat)
 | k (p:PV)
@[simp] def Opd.ev (env:List (Nat×PV)):Opd->PV
 | .tmp t=>(Aj env t).getD .dead
 | .k p=>p
def AU (G:AM):Operand->Opd
 | .tmp t=>.tmp t
 | .const x=>.k (M7 x)
 | .global g=>.k (match Aj G g with
  | some cs=>.t (.pt cs)
  | none=>.t (.v (.pointer (some ⟨g,0,none⟩))))
 | .func f=>.k (.t (.v (.func (.func f) #[] #[])))
theorem IC (G:AM) (s:Am) (x:Operand):(AU G x).ev s.env=s.ev G x:=by cases x<;>rfl
inductive NK where
 | sl | ifc | ptr | fn | mp
inductive CK where
 | i | s | b
inductive EK where
 | eqs (neg:Bool) (ks:List CK)
 | mki (t:Nat)
 | mkf (f:Fn) (n:Nat)
 | aix (len n:Nat) (agg:Bool)
inductive HK where
 | range
 | next
 | b2s
 | pan
 | mnew (kk:KK)
 | mget (kk:KK) (z:Value) (ok:Bool)
 | mset (kk:KK)
 | clr (n:Nat) (zc:List Value)
 | mlen
 | s2b
 | cpy (n:Nat)
 | slarr (len z:Nat)
 | mrange
 | mnext
 | ment
inductive MK where
 | mv
 | pick
 | bin (isB:Bool) (op:BinOp) (nk:Option NK)
 | un (op:UnOp)
 | conv (k:Option IntKind)
 | load (agg:Bool) (n:Nat)
 | faddr (off:Nat)
 | field (off:Nat) (agg:Bool) (n:Nat)
 | iaddr (z:Nat)
 | aaddr (len z:Nat)
 | index
 | slstr (lo hi:Bool)
 | slice (z:Nat) (lo hi:Bool)
 | ext (i:Nat)
 | chk
 | lenstr
 | lensl
 | min
 | max
 | store (n:Nat)
 | make (e n by':Nat) (zc:List Value)
 | bslice (e n:Nat) (zc:List Value) (len:Nat) (idx:List Nat)
 | build (places:List (Nat×Nat)) (zc:List Value) (idx:List Nat)
 | barr (n:Nat) (zc:List Value) (idx:List Nat)
 | box (t:Nat)
 | alloc (t:Nat) (zc:List Value)
 | app (e n by':Nat)
 | call (f:Nat)
 | hcall (f:Nat)
 | callv
 | tslice (e n:Nat) (zc:List Value) (len:Nat) (idx:List Nat)
 | bad
 | ex (e:EK)
 | hx (h:HK)
def OU (P:Program) (t:TypeId):Bool:=match P.underlying t with | some .bool=>true | _=>false
@[simp] def D6 (isB:Bool) (op:BinOp) (x y:Value):Option Value:=
 match x,y with
 | .int k a,.int k' b=>
  match op with
  | .shl=>if b<0 then none else some (.int k (k.wrap (a*2^(min b.toNat k.bits))))
  | .shr=>if b<0 then none else some (.int k (a.fdiv (2^(min b.toNat k.bits))))
  | .add=>if k=k' then some (.int k (k.wrap (a+b)))else none
  | .sub=>if k=k' then some (.int k (k.wrap (a-b)))else none
  | .mul=>if k=k' then some (.int k (k.wrap (a*b)))else none
  | .quo=>if k=k' then(if b=0 then none else some (.int k (k.wrap (a.tdiv b))))else none
  | .rem=>if k=k' then(if b=0 then none else some (.int k (a.tmod b)))else none
  | .and=>if k=k' then some (.int k (k.wrap (Xc k.bits a&&&Xc k.bits b).toNat))else none
  | .or=>if k=k' then some (.int k (k.wrap (Xc k.bits a|||Xc k.bits b).toNat))else none
  | .xor=>if k=k' then some (.int k (k.wrap (Xc k.bits a ^^^ Xc k.bits b).toNat))else none
  | .andNot=>if k=k' then some (.int k (k.wrap (Xc k.bits a &&& ~~~ (Xc k.bits b)).toNat))else none
  | .eql=>if k=k' then some (.bool (a==b))else none
  | .neq=>if k=k' then some (.bool (a != b))else none
  | .lss=>if k=k' then some (.bool (decide (a<b)))else none
  | .leq=>if k=k' then some (.bool (decide (a<=b)))else none
  | .gtr=>if k=k' then some (.bool (decide (b<a)))else none
  | .geq=>if k=k' then some (.bool (decide (b<=a)))else none
 | .string a,.string b=>
  match op with
  | .add=>if a.size+b.size<=9223372036854775807 then some (.string (a++b))else none
  | .eql=>some (.bool (a.toList==b.toList))
  | .neq=>some (.bool (!(a.toList==b.toList)))
  | .lss=>some (.bool (Op.bytesLess a.toList b.toList))
  | .leq=>some (.bool (Op.bytesLess a.toList b.toList||a.toList==b.toList))
  | .gtr=>some (.bool (!(Op.bytesLess a.toList b.toList||a.toList==b.toList)))
  | .geq=>some (.bool (!(Op.bytesLess a.toList b.toList)))
  | _=>none
 | .bool a,.bool b=>
  match op,isB with
  | .eql,true=>some (.bool (a==b))
  | .neq,true=>some (.bool (!(a==b)))
  | _,_=>none
 | _,_=>none
theorem eI (P:Program) (t:TypeId) (op:BinOp) (x y:Value):KG P t op x y=D6 (OU P t) op x y:=by
 unfold KG D6 OU
 cases x<;>cases y<;>try rfl
 case bool.bool a b=>
  simp only
  cases hu:P.underlying t with
  | none=>cases op<;>rfl
  | some d=>cases d<;>cases op<;>rfl
@[simp] def KR (nk:NK) (p:PV):Option Bool:=
 match nk,p with
 | .sl,.t (.v (.slice none _ _))=>some true
 | .sl,.t (.sl _ _)=>some false
 | .sl,.row _ _ _ _=>some false
 | .ifc,.t (.v .nilIface)=>some true
 | .ifc,.t (.ic _ _)=>some false
 | .ifc,.ic _ _=>some false
 | .ptr,.t (.v (.pointer none))=>some true
 | .ptr,.t (.pt _)=>some false
 | .ptr,.ptr _ _=>some false
 | .fn,.t (.v .nilFunc)=>some true
 | .fn,.t (.v (.func _ _ _))=>some false
 | .fn,.fn _ _ _=>some false
 | .mp,.t (.v (.map none))=>some true
 | .mp,.mp _=>some false
 | _,_=>none
def ID (P:Program) (t:TypeId):Operand->Option NK
 | .const (.slice none _ _)=>match P.underlying t with | some (.slice _)=>some .sl | _=>none
 | .const .nilIface=>match P.underlying t with | some (.interface _)=>some .ifc | _=>none
 | .const (.pointer none)=>match P.underlying t with | some (.pointer _)=>some .ptr | _=>none
 | .const .nilFunc=>match P.underlying t with | some (.func _ _ _)=>some .fn | _=>none
 | .const (.map none)=>match P.underlying t with | some (.map _ _)=>some .mp | _=>none
 | _=>none
@[simp] def IE (op:BinOp) (nk:Option NK) (p:PV):Option PV:=
 match nk with
 | some n=>match op with
  | .eql=>(KR n p).map λb=>.t (.v (.bool b))
  | .neq=>(KR n p).map λb=>.t (.v (.bool (!b)))
  | _=>none
 | none=>none
theorem So (P:Program) (op:BinOp) (t:TypeId) (p:PV) (y:Operand) {r:PV} (h:IE op (ID P t y) p=some r):Gq P op t p y=some r:=by
 have key:∀c n b,ID P t (.const c)=some n->KR n p=some b->HN P t p c=some b:=by
  intro c n b hn hb;unfold ID at hn;split at hn<;>(try cases hn)<;>(rename_i hc;injection hc with hc;subst hc;split at hn<;>(try cases hn))
  all_goals (rename_i hu;unfold HN;rw[hu];unfold KR at hb;split at hb<;>(try cases hb)<;>first | rfl | contradiction)
 cases y with
 | const c=>
  simp only[IE]at h;split at h
  .rename_i n hn;simp only[Gq]
   cases op<;>simp only at h ⊢ <;> try cases h
   all_goals
    cases hb:KR n p with
    | none=>rw[hb]at h;cases h
    | some b=>rw[hb]at h;rw[key c n b hn hb];exact h
  .cases h
 | tmp _=>simp[ID,IE]at h
 | global _=>simp[ID,IE]at h
 | func _=>simp[ID,IE]at h
end Go.Abs
