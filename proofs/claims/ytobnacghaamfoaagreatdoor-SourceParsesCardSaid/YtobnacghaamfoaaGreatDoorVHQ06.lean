/- Auxiliary facts. -/
import Derived.Test.YtobnacghaamfoaaGreatDoorVHQ05
import Derived.Laws.StructEq
import Derived.Laws.RangeString
import Derived.Laws.IdiomStrings
import Derived.Maps.RangeRun
import Derived.MapKept
import Derived.WideKeyRuns
set_option linter.unusedSimpArgs false
set_option linter.unusedVariables false
open Option renaming some->Xa,map_eq_some_iff->Xg,map_some->Xl,map_none->X5,getD_some->X9,isSome_none->Yf,isSome_some->Yg,toList_none->Yh,toList_some->Yi,bind_eq_bind->Yn,pure_def->Yo,bind_some->Yp,isNone_iff_eq_none->Yx
open List renaming map_cons->Xb,map_nil->Xc,getElem?_eq_getElem->Xf,all_eq_true->Xh,getElem?_eq_some_iff->Xi,getElem?_cons_zero->Xt,range->Xv,mem_of_getElem?->Xw,length_cons->Xx,mem_filterMap->Xz,mem_zipIdx_iff_getElem?->X0,map_map->X6,map_congr_left->X7,filterMap_cons->X8,ne_nil_of_mem->Yc,getElem?_map->Yd,nil_append->Yj,append_nil->Yk,cons_append->Yl,mapM_cons->Ym,mem_filter->Yq,getElem?_cons_succ->Yt,mem_zipIdx_iff_le_and_getElem?_sub->Yu,getElem?_of_mem->Yv,getElem?_drop->Yw,filter_cons->Yy,length_map->Yz,getElem?_inj->Y0,length_nil->Y1,eq_nil_iff_forall_not_mem->Y2,mem_cons->Y7,nodup_nil->Y8
open Bool renaming and_eq_true->Xd,or_eq_true->Xm,not_eq_true'->Xp,false_eq_true->Xr,false_or->Xu,true_and->Ya,false_and->Y4
open Nat renaming le_refl->Xe,lt_or_ge->Xk,le_trans->Xq,lt_of_lt_of_le->X1,zero_le->X3,add_zero->Yb,strongRecOn->Y3,lt_trichotomy->Y5,lt_or_gt_of_ne->Y6
open Array renaming getElem?_eq_getElem->Xj,getD_eq_getD_getElem?->Xo,getElem?_eq_some_iff->Xs,toList_map->Xy,replicate->X2,getElem?_setIfInBounds_ne->X4,toList_inj->Ye,all_eq_true'->Yr,mem_def->Ys,getElem?_replicate->Y9,range->Za,getElem?_append_left->Zb
open Go.Result renaming andThen_ok->Xn
namespace Go.Abs
open Go
def DW:List CK->List T->List T->Option Bool
 | [],[],[]=>some true
 | .i::ks,.v (.int k a)::xs,.v (.int k' b)::ys=>if k=k' then(DW ks xs ys).map λr=>(a==b)&&r else none
 | .s::ks,.v (.string a)::xs,.v (.string b)::ys=>(DW ks xs ys).map λr=>(a.toList==b.toList)&&r
 | .b::ks,.v (.bool a)::xs,.v (.bool b)::ys=>(DW ks xs ys).map λr=>(a==b)&&r
 | _,_,_=>none
def Uz (f:Fn) (first cap:List PV):PV:=
 match first,cap with
 | [],[]=>.t (.v (.func f #[] #[]))
 | first,cap=>.fn f first cap
def exM:EK->List PV->Option PV
 | .eqs neg ks,[.t (.ag xs),.t (.ag ys)]=>(DW ks xs ys).map λr=>.t (.v (.bool (if neg then !r else r)))
 | .mki t,[.t x]=>some (.t (.ic t x))
 | .mki t,[x]=>some (.ic t x)
 | .mkf f n,ps=>some (Uz f (ps.take n) (ps.drop n))
 | _,_=>none
def hxM (k:HK) (H:Ab) (nx:Nat) (ps:List PV):Option (PV×Ab×Nat):=
 match k,ps with
 | .range,[.t (.v (.string s))]=>some (.ptr nx 0,(nx,.iter s 0)::H,nx+1)
 | .next,[.ptr b 0]=>match Aa H b with
  | some (.iter s pos)=>if pos<s.size then
    some (.t (.tu [.v (.bool true),.v (.int .i64 pos),.v (.int .i32 (Utf8.decode s pos).1)]),upd H b (.iter s (pos+(Utf8.decode s pos).2)),nx)
   else some (.t (.tu [.v (.bool false)]),H,nx)
  | _=>none
 | _,_=>none
def IV (P:Program):Nat->List Field->Option (List CK)
 | _,[]=>some []
 | o,f::fs=>if f.name ≠ "_" /\ f.offset=o/\(P.info? f.type).map (·.size)=some 1 then
   (match P.underlying f.type with
   | some (.int _)=>(IV P (o+1) fs).map (.i::·)
   | some .string=>(IV P (o+1) fs).map (.s::·)
   | some .bool=>(IV P (o+1) fs).map (.b::·)
   | _=>none)
  else none
def OA (P:Program) (t:TypeId):Option (List CK):=
 match P.underlying t with
 | some (.struct fs)=>if P.stoodInHeld t=false/\P.eqGuardType P.depth t=false then IV P 0 fs.toList else none
 | _=>none
def Lu (P:Program) (G:Ay) (o:Op):Option (MK×List Opd):=
 match o with
 | .binOp .eql t x y _=>(OA P t).map λks=>(.ex (.eqs false ks),[AP G x,AP G y])
 | .binOp .neq t x y _=>(OA P t).map λks=>(.ex (.eqs true ks),[AP G x,AP G y])
 | .range t x=>match P.underlying t with
  | some .string=>some (.hx .range,[AP G x])
  | _=>none
 | .next x true=>some (.hx .next,[AP G x])
 | .makeInterface t x=>match P.underlying t with
  | some (.interface _)=>none
  | some _=>some (.ex (.mki t),[AP G x])
  | none=>none
 | .makeFunc f first cap=>some (.ex (.mkf f first.size),first.toList.map (AP G)++cap.toList.map (AP G))
 | .panic x=>some (.hx .pan,[AP G x])
 | _=>none
theorem QN {P:Program} {G:Ay} {o:Op} {k:MK} {xs:List Opd} (hk:match k with | .ex _ | .hx _=>False | _=>True):¬Lu P G o=some (k,xs):=by
 intro h;unfold Lu at h;split at h
 all_goals first
  | (cases h;done)
  | (obtain⟨ks,_,e⟩:=Xg.1 h;injection e with e1 e2;subst e1;exact hk)
  | (injection h with h;injection h with e1 e2;subst e1;exact hk)
  | skip
 all_goals split at h
 all_goals first
  | (cases h;done)
  | (obtain⟨ks,_,e⟩:=Xg.1 h;injection e with e1 e2;subst e1;exact hk)
  | (injection h with h;injection h with e1 e2;subst e1;exact hk)
  | skip
 all_goals split at h
 all_goals first
  | (cases h;done)
  | (injection h with h;injection h with e1 e2;subst e1;exact hk)
  | (obtain⟨ks,_,e⟩:=Xg.1 h;injection e with e1 e2;subst e1;exact hk)
section
variable {P : Program} {G : Ay} {B : Nat} {s : Ac} {o : Oper}
theorem U9 {w:World} {t:TypeId} {xs:Array Value} {off:Nat} {x:Value} (hu:P.underlying t=some .string\/P.underlying t=some .bool\/∃k,P.underlying t=some (.int k)) (hx:xs[off]?=some x):(part t xs off).run P w = .ok x w:=by
 have ha:(isAgg t).run P w = .ok false w:=by
  rcases hu with h | h | ⟨k,h⟩<;>simp[isAgg,run_underlying h]
 simp[part,ha,hx]
theorem kZ {ks:List CK} {cx cy:List T} {r:Bool} (h:DW (.i::ks) cx cy=some r):∃k a xs b ys r1,cx = .v (.int k a)::xs/\cy = .v (.int k b)::ys/\DW ks xs ys=some r1/\r=((a==b)&&r1):=by
 unfold DW at h;split at h
 all_goals (first | (rename_i hh;cases hh;done) | (cases h;done) | skip)
 rename_i ks' k a xs k' b ys hk;cases hk;split at h
 .rename_i e;subst e;obtain⟨r1,h1,h2⟩:=Xg.1 h;exact⟨k,a,xs,b,ys,r1,rfl,rfl,h1,h2.symm⟩
 .cases h
theorem l6 {ks:List CK} {cx cy:List T} {r:Bool} (h:DW (.s::ks) cx cy=some r):∃a xs b ys r1,cx = .v (.string a)::xs/\cy = .v (.string b)::ys/\DW ks xs ys=some r1/\r=((a.toList==b.toList)&&r1):=by
 unfold DW at h;split at h
 all_goals (first | (rename_i hh;cases hh;done) | (cases h;done) | skip)
 rename_i ks' a xs b ys hk;cases hk;obtain⟨r1,h1,h2⟩:=Xg.1 h;exact⟨a,xs,b,ys,r1,rfl,rfl,h1,h2.symm⟩
theorem l8 {ks:List CK} {cx cy:List T} {r:Bool} (h:DW (.b::ks) cx cy=some r):∃a xs b ys r1,cx = .v (.bool a)::xs/\cy = .v (.bool b)::ys/\DW ks xs ys=some r1/\r=((a==b)&&r1):=by
 unfold DW at h;split at h
 all_goals (first | (rename_i hh;cases hh;done) | (cases h;done) | skip)
 rename_i ks' a xs b ys hk;cases hk;obtain⟨r1,h1,h2⟩:=Xg.1 h;exact⟨a,xs,b,ys,r1,rfl,rfl,h1,h2.symm⟩
theorem UA {w:World} (I:Nat->Prop) (d:Nat) (xs ys:Array Value):∀(fs:List Field) (off:Nat) (ks:List CK) (cx cy:List T) (r:Bool),IV P off fs=some ks->DW ks cx cy=some r ->
  Ba I w cx (xs.toList.drop off)->Ba I w cy (ys.toList.drop off)->(Op.eqFields (d+1) xs ys fs).run P w = .ok r w
 | [],off,ks,cx,cy,r,hk,he,_,_=>by
  simp only[IV,Xa.injEq]at hk;subst hk;cases cx<;>cases cy<;>simp[DW]at he;subst he;simp[Op.eqFields]
 | f::fs,off,ks,cx,cy,r,hk,he,hx,hy=>by
  simp only[IV]at hk;split at hk
  .rename_i hf;obtain⟨hn,ho,h1⟩:=hf
   have key:∀(a b:T) (cx' cy':List T) (r0 r1:Bool) (ks':List CK),cx=a::cx'->cy=b::cy'->IV P (off+1) fs=some ks'->DW ks' cx' cy'=some r1->r=(r0&&r1) ->
     (P.underlying f.type=some .string\/P.underlying f.type=some .bool\/∃k,P.underlying f.type=some (.int k)) ->
     (∀u v,An I w a u->An I w b v->(Op.equalIn (d+1) f.type u v).run P w = .ok r0 w)->(Op.eqFields (d+1) xs ys (f::fs)).run P w = .ok r w:=by
    intro a b cx' cy' r0 r1 ks' ex ey hks hr1 hr hu heq;subst ex;subst ey;simp only[Ba]at hx hy;obtain⟨u,us,e1,hu1,hus⟩:=hx;obtain⟨v,vs,e2,hv1,hvs⟩:=hy
    have g1:xs[off]?=some u:=by
     have:(xs.toList.drop off)[0]?=some u:=by rw[e1];rfl
     simpa using this
    have g2:ys[off]?=some v:=by
     have:(ys.toList.drop off)[0]?=some v:=by rw[e2];rfl
     simpa using this
    have d1:xs.toList.drop (off+1)=us:=by
     have:=congrArg (List.drop 1) e1;simpa using this
    have d2:ys.toList.drop (off+1)=vs:=by
     have:=congrArg (List.drop 1) e2;simpa using this
    have ih:=UA I d xs ys fs (off+1) ks' cx' cy' r1 hks hr1 (by rw[d1];exact hus) (by rw[d2];exact hvs);simp only[Op.eqFields,hn,ne_eq,not_false_eq_true,if_true,ho,Sem.run_bind,U9 hu g1,U9 hu g2,Xn,heq u v hu1 hv1]
    cases r0 with
    | true=>simp[hr,ih]
    | false=>simp[hr]
   split at hk
   .rename_i k hu;obtain⟨ks',hks,rfl⟩:=Xg.1 hk;obtain⟨k1,a,xs',b,ys',r1,e1,e2,h1,h2⟩:=kZ he;refine key _ _ _ _ (a==b) r1 ks' e1 e2 hks h1 h2 (.inr (.inr ⟨k,hu⟩)) λu v hu' hv'=>?_;simp only[An]at hu' hv';subst hu';subst hv';exact run_equalIn_int w d f.type k1 k a b hu
   .rename_i hu;obtain⟨ks',hks,rfl⟩:=Xg.1 hk;obtain⟨a,xs',b,ys',r1,e1,e2,h1,h2⟩:=l6 he;refine key _ _ _ _ (a.toList==b.toList) r1 ks' e1 e2 hks h1 h2 (.inl hu) λu v hu' hv'=>?_;simp only[An]at hu' hv';subst hu';subst hv';exact run_equalIn_string w d f.type a b hu
   .rename_i hu;obtain⟨ks',hks,rfl⟩:=Xg.1 hk;obtain⟨a,xs',b,ys',r1,e1,e2,h1,h2⟩:=l8 he;refine key _ _ _ _ (a==b) r1 ks' e1 e2 hks h1 h2 (.inr (.inl hu)) λu v hu' hv'=>?_;simp only[An]at hu' hv';subst hu';subst hv';exact run_equalIn_bool' w d f.type a b hu
   .cases hk
  .cases hk
theorem UB {neg:Bool} {t:TypeId} {x y:Operand} {yt:TypeId} {ks:List CK} {r:PV} (ho:o.op = .binOp (if neg then .neq else .eql) t x y yt) (hk:OA P t=some ks)
  (h:exM (.eqs neg ks) [s.ev G x,s.ev G y]=some r):AOp P G B o s r s.H s.nx:=by
 refine Lj λL a w hi=>?_;have hx:=hi.ev x;have hy:=hi.ev y;unfold exM at h;split at h
 .rename_i n' ks' xs ys e1 e2;injection e1 with e1 e1';subst e1;subst e1';injection e2 with e2 e3;injection e3 with e3 e4;rw[e2]at hx;rw[e3]at hy;simp only[Ae,An]at hx hy;obtain⟨us,ex,_,hxs⟩:=hx;obtain⟨vs,ey,_,hys⟩:=hy;obtain⟨b,hb,rfl⟩:=Xg.1 h;unfold OA at hk;split at hk
  .rename_i fs hu;split at hk
   .rename_i hc
    have hf:P.fieldsOf t=fs:=by simp[Program.fieldsOf,hu]
    have hrun:(Op.equalIn 10000 t (.agg us) (.agg vs)).run P w = .ok b w:=by
     rw[show(10000:Nat)=9998+1+1 from rfl,run_equalIn_struct w (9998+1) t us vs (by rw[hf];exact hu) hc.1,hf];exact UA L.I 9998 us vs fs.toList 0 ks xs ys b hk hb (by simpa using hxs) (by simpa using hys)
    refine⟨.bool (if neg then !b else b),?_,by simp only[Ae,An]⟩
    cases neg with
    | true=>
     simp only[if_true]at ho;simp only[execOp,ho,ex,ey,Sem.run_bind,run_eqGuard_agg w .neq t x y us vs hc.2,run_neq_struct w t us vs,hrun,Xn,if_true];rfl
    | false=>
     simp only[Xr,if_false]at ho;simp only[execOp,ho,ex,ey,Sem.run_bind,run_eqGuard_agg w .eql t x y us vs hc.2,run_eql_struct w t us vs,hrun,Xn,Xr,if_false];rfl
   .cases hk
  .cases hk
 all_goals (first | (rename_i e _;cases e;done) | (rename_i e;cases e;done) | (cases h;done))
theorem lB {t:TypeId} {x:Operand} {st:ByteArray} (ho:o.op = .range t x) (hu:P.underlying t=some .string) (hx:s.ev G x = .t (.v (.string st))):AOp P G B o s (.ptr s.nx 0) ((s.nx,.iter st 0)::s.H) (s.nx+1):=by
 refine MP λL a w hi=>?_;have h:=hi.ev x;rw[hx]at h;simp only[Ae,An]at h;refine⟨.pointer (some ⟨w.heap.size,0,none⟩),w.iter st 0,.stringIter st 0,by simp[execOp,ho,h,run_range_string w t st hu],⟨rfl,rfl,rfl⟩,rfl,λhm=>⟨World.iter_heap w st 0,?_⟩⟩;simp only[Ae];exact⟨by simp[Loc.grow,hi.nx],by simp[Loc.grow,hi.nx]⟩
theorem lC {x:Operand} {b:Nat} {st:ByteArray} {pos:Nat} (ho:o.op = .next x true) (hx:s.ev G x = .ptr b 0) (hl:Aa s.H b=some (.iter st pos)) (hp:pos<st.size) :
  AOp P G B o s (.t (.tu [.v (.bool true),.v (.int .i64 pos),.v (.int .i32 (Utf8.decode st pos).1)])) (upd s.H b (.iter st (pos+(Utf8.decode st pos).2))) s.nx:=λL a w hi=>by
 have h:=hi.ev x;rw[hx]at h;simp only[Ae]at h;obtain⟨hb,h⟩:=h;have hr:=hi.heap.rep b _ hl;have hr':w.heap[L.μ b]?=some (.stringIter st pos):=hr;have hlt:=(Xs.1 hr').1;unfold Oper.wp
 have hrun:(execOp a.eval o).run P w = .ok (.value (.tuple #[.bool true,.int .i64 pos,.int .i32 (Utf8.decode st pos).1])) { w with heap:=w.heap.setIfInBounds (L.μ b) (.stringIter st (pos+(Utf8.decode st pos).2)) }:=by
  simp[execOp,ho,h,Instr.next,getObj,setObj,Sem.run,hr',hp,goInt]
 rw[hrun,Oper.upon_value]
 have hw:=QE (w':={ w with heap:=w.heap.setIfInBounds (L.μ b) (.stringIter st (pos+(Utf8.decode st pos).2)) }) (r:=.iter st (pos+(Utf8.decode st pos).2)) hi.heap ⟨rfl,rfl,rfl⟩ hl (by simp)
  (λg hg=>by simp[X4 (Ne.symm hg)]) (λg hg arr ty fz he=>by
   by_cases e:g=L.μ b
   .subst e;simp[hlt]at he
   .simp[X4 (Ne.symm e)]at he;exact⟨arr,fz,he,rfl⟩)
  (λ_=>by simp[C9,hlt])
 exact⟨_,L,rfl,by simp[Ae,An,Ba],hw.1,hi.nx,hw.2.1,hw.2.2⟩
theorem lE {x:Operand} {b:Nat} {st:ByteArray} {pos:Nat} (ho:o.op = .next x true) (hx:s.ev G x = .ptr b 0) (hl:Aa s.H b=some (.iter st pos)) (hp:¬pos<st.size) :
  AOp P G B o s (.t (.tu [.v (.bool false)])) s.H s.nx:=by
 refine Lj λL a w hi=>?_;have h:=hi.ev x;rw[hx]at h;simp only[Ae]at h;obtain⟨hb,h⟩:=h;have hr:w.heap[L.μ b]?=some (.stringIter st pos):=hi.heap.rep b _ hl;exact⟨.tuple #[.bool false],by simp[execOp,ho,h,Instr.next,getObj,Sem.run,hr,hp],by simp[Ae,An,Ba]⟩
theorem lF {t:TypeId} {x:Operand} {d:TypeDesc} {p:PV} (ho:o.op = .makeInterface t x) (hu:P.underlying t=some d) (hne:∀ms,d = .interface ms->False) (hp:exM (.mki t) [s.ev G x]=some p):AOp P G B o s p s.H s.nx:=
 Lj λL a w hi=>by
  have h:=hi.ev x
  have hrun:(execOp a.eval o).run P w = .ok (.value (.iface t (a.eval x))) w:=by
   simp only[execOp,ho,Instr.makeInterface,Sem.run_bind,run_underlying hu,Xn]
   cases d<;>first | (exact(hne _ rfl).elim) | rfl
  refine⟨_,hrun,?_⟩;generalize s.ev G x=q at h hp
  cases q with
  | t y=>
   simp only[exM,Xa.injEq]at hp;subst hp;simp only[Ae,An]at h ⊢;exact⟨_,rfl,h⟩
  | _=>
   simp only[exM,Xa.injEq]at hp;subst hp;simp only[Ae]at h ⊢;exact⟨_,rfl,h⟩
theorem QO {L:Loc} {a:Act} {w:World} (hi:Interp P G B L s a w):∀l:List Operand,A3 P L w ((l.map (AP G)).map (·.ev s.env)) (l.map a.eval)
 | []=>by simp only[Xc,A3]
 | x::r=>by
  simp only[Xb,A3];exact⟨_,_,rfl,by rw[JQ];exact hi.ev x,QO hi r⟩
theorem lG {f:Fn} {first cap:Array Operand} {p:PV} (ho:o.op = .makeFunc f first cap) (hp:exM (.mkf f first.size) ((first.toList.map (AP G)++cap.toList.map (AP G)).map (·.ev s.env))=some p):AOp P G B o s p s.H s.nx:=
 Lj λL a w hi=>by
  refine⟨.func f (first.map a.eval) (cap.map a.eval),by simp[execOp,ho,Instr.makeFunc],?_⟩
  have h1:=QO hi first.toList
  have h2:=QO hi cap.toList
  have l1:((first.toList.map (AP G)).map (·.ev s.env)).length=first.size:=by simp
  generalize hF:(first.toList.map (AP G)).map (·.ev s.env)=F at h1 l1;generalize hC:(cap.toList.map (AP G)).map (·.ev s.env)=C at h2;rw[List.map_append,hF,hC]at hp;simp only[exM,Xa.injEq]at hp;rw[<-l1,List.take_left,List.drop_left]at hp;subst hp;unfold Uz;split
  .simp only[A3]at h1 h2;simp only[Ae,An]
   have e1:first.map a.eval = #[]:=by rw[<-Ye,Xy];exact h1
   have e2:cap.map a.eval = #[]:=by rw[<-Ye,Xy];exact h2
   rw[e1,e2]
  .simp only[Ae];exact⟨_,_,rfl,by rw[Xy];exact h1,by rw[Xy];exact h2⟩
theorem lH {k:MK} {xs:List Opd} (hc:Lu P G o.op=some (k,xs)) {r:PV} {H':Ab} {nx':Nat}
  (he:match k with
   | .ex e=>∃p,exM e (xs.map (·.ev s.env))=some p/\(r,H',nx')=(p,s.H,s.nx)
   | .hx h=>hxM h s.H s.nx (xs.map (·.ev s.env))=some (r,H',nx')
   | _=>False):AOp P G B o s r H' nx':=by
 have ev1:=λx=>JQ G s x;unfold Lu at hc;split at hc
 .rename_i t x y yt ho;obtain⟨ks,hk,e⟩:=Xg.1 hc;injection e with e1 e2;subst e1;subst e2;simp only[Xb,Xc,ev1]at he;obtain⟨p,hp,e⟩:=he;injection e with e1 e2;injection e2 with e2 e3;subst e1;subst e2;subst e3;exact UB (neg:=false) (by simpa using ho) hk hp
 .rename_i t x y yt ho;obtain⟨ks,hk,e⟩:=Xg.1 hc;injection e with e1 e2;subst e1;subst e2;simp only[Xb,Xc,ev1]at he;obtain⟨p,hp,e⟩:=he;injection e with e1 e2;injection e2 with e2 e3;subst e1;subst e2;subst e3;exact UB (neg:=true) (by simpa using ho) hk hp
 .rename_i t x ho;split at hc
  .rename_i hu;injection hc with hc;injection hc with e1 e2;subst e1;subst e2;simp only[Xb,Xc,ev1]at he;generalize hp:s.ev G x=p at he;unfold hxM at he;split at he
   all_goals (first | (rename_i e _;cases e;done) | (rename_i e;cases e;done) | skip)
   .rename_i st e1 e2;injection e2 with e2 e3;injection he with he;injection he with h1 h2;injection h2 with h2 h3;subst h1;subst h2;subst h3;exact lB ho hu (hp.trans e2)
   .cases he
  .cases hc
 .rename_i x ho;injection hc with hc;injection hc with e1 e2;subst e1;subst e2;simp only[Xb,Xc,ev1]at he;generalize hp:s.ev G x=p at he;unfold hxM at he;split at he
  all_goals (first | (rename_i e _;cases e;done) | (rename_i e;cases e;done) | skip)
  .rename_i b e1 e2;injection e2 with e2 e3;split at he
   .rename_i st pos hl;split at he
    .rename_i hlt;injection he with he;injection he with h1 h2;injection h2 with h2 h3;subst h1;subst h2;subst h3;exact lC ho (hp.trans e2) hl hlt
    .rename_i hlt;injection he with he;injection he with h1 h2;injection h2 with h2 h3;subst h1;subst h2;subst h3;exact lE ho (hp.trans e2) hl hlt
   .cases he
  .cases he
 .rename_i t x ho;split at hc
  .cases hc
  .rename_i d hne hu;injection hc with hc;injection hc with e1 e2;subst e1;subst e2;simp only[Xb,Xc,ev1]at he;obtain⟨p,hp,e⟩:=he;injection e with e1 e2;injection e2 with e2 e3;subst e1;subst e2;subst e3;exact lF ho hu hne hp
  .cases hc
 .rename_i f first cap ho
  injection hc with hc;injection hc with e1 e2;subst e1;subst e2;obtain⟨p,hp,e⟩:=he;injection e with e1 e2;injection e2 with e2 e3;subst e1;subst e2;subst e3;exact lG ho hp
 .injection hc with hc;injection hc with e1 e2;subst e1;subst e2;simp only[Xb,Xc]at he;unfold hxM at he;split at he
  all_goals (first | (rename_i e _;cases e;done) | (rename_i e;cases e;done) | (cases he;done) | skip)
 .cases hc
end
def Ao (agg:Bool) (n:Nat) (H:Ab) (p:PV):Option PV:=
 match p with
 | .t (.pt cs)=>if agg then(if n<=cs.length then some (.t (.ag (cs.take n)))else none)else(cs.head?).map .t
 | .ptr b o=>match Aa H b with
  | some (.cells _ cs)=>if agg then(if o+n<=cs.length then some (AN ((cs.drop o).take n))else none)else cs[o]?
  | _=>none
 | _=>none
theorem UC {P:Program} {t:TypeId} {agg:Bool} {n:Nat} (h:Gt P t=some (agg,n)) (H:Ab) (p:PV):JM P H t p=Ao agg n H p:=by
 unfold JM Ao;rw[h]
 cases agg<;>cases p<;>try rfl
 all_goals (rename_i x;cases x<;>rfl)
def Bm (z:Nat) (x i:PV):Option PV:=
 match i with
 | .t (.v (.int _ i))=>match x with
  | .t (.sl n cs)=>if 0<=i/\i<n then some (.t (.pt (cs.drop (i.toNat*z))))else none
  | .row b o n _=>if 0<=i/\i<n then some (.ptr b (o+i.toNat*z))else none
  | _=>none
 | _=>none
def OB (n z:Nat) (x i:PV):Option PV:=
 match i with
 | .t (.v (.int _ i))=>match x with
  | .t (.pt cs)=>if 0<=i/\i<n then some (.t (.pt (cs.drop (i.toNat*z))))else none
  | .ptr b o=>if 0<=i/\i<n then some (.ptr b (o+i.toNat*z))else none
  | _=>none
 | _=>none
theorem lI {P:Program} {t e:TypeId} {z:Nat} (h:FA P t=some (e,z)) {x i r:PV} (hr:Bm z x i=some r):HH P t x i=some r:=by
 unfold Bm at hr;split at hr
 .split at hr
  .simp only[HH,h];exact hr
  .simp only[HH,h];exact hr
  .cases hr
 .cases hr
theorem lJ {P:Program} {t:TypeId} {n z:Nat} (h:Ll P t=some (n,z)) {x i r:PV} (hr:OB n z x i=some r):HH P t x i=some r:=by
 unfold OB at hr;split at hr
 .split at hr
  .simp only[HH,h];exact hr
  .simp only[HH,h];exact hr
  .cases hr
 .cases hr
@[simp] def OC (off:Nat) (x:PV):Option PV:=
 match x with
 | .t (.pt cs)=>some (.t (.pt (cs.drop off)))
 | .ptr b o=>some (.ptr b (o+off))
 | _=>none
theorem lK {P:Program} {t:TypeId} {f off n:Nat} {b:Bool} (h:Gv P t f=some (off,b,n)) (x:PV):MF P t x f=OC off x:=by
 unfold MF OC;rw[h]
 cases x<;>try rfl
 rename_i x;cases x<;>rfl
def OD (off:Nat) (agg:Bool) (n:Nat) (x:PV):Option PV:=
 match x with
 | .t (.ag cs)=>if agg then(if off+n<=cs.length then some (.t (.ag ((cs.drop off).take n)))else none)else(cs[off]?).map .t
 | .ag cs=>if agg then(if off+n<=cs.length then some (AN ((cs.drop off).take n))else none)else cs[off]?
 | _=>none
theorem lL {P:Program} {t:TypeId} {f off n:Nat} {b:Bool} (h:Gv P t f=some (off,b,n)) (x:PV):MG P t x f=OD off b n x:=by
 unfold MG OD;rw[h]
 cases b<;>cases x<;>try rfl
 all_goals (rename_i x;cases x<;>rfl)
def Lv (x i:PV):Option PV:=
 match x,i with
 | .t (.v (.string s)),.t (.v (.int _ i))=>if 0<=i then(s[i.toNat]?).map λb=>.t (.v (.int .u8 b.toNat))else none
 | _,_=>none
theorem lM {P:Program} {t:TypeId} (h:P.underlying t=some .string) {x i r:PV} (hr:Lv x i=some r):MH P t x i=some r:=by
 unfold Lv at hr;split at hr
 .simp only[MH,h];exact hr
 .cases hr
def Dn (x:PV) (lo hi:Option PV):Option PV:=
 match x with
 | .t (.v (.string s))=>match CD lo 0,CD hi s.size with
  | some l,some h=>if l<=h/\h<=s.size then some (.t (.v (.string (s.extract l h))))else none
  | _,_=>none
 | _=>none
theorem lN {P:Program} {t:TypeId} (h:P.underlying t=some .string) {x r:PV} {lo hi:Option PV} (hr:Dn x lo hi=some r):HI P t x lo hi=some r:=by
 unfold Dn at hr;split at hr
 .simp only[HI,h];exact hr
 .cases hr
def FY (z:Nat) (x:PV) (lo hi:Option PV):Option PV:=
 match x with
 | .t (.v (.slice none n c))=>match CD lo 0,CD hi n with
  | some l,some h=>if l=0/\h=0/\n=0/\c=0 then some (.t (.v (.slice none 0 0)))else none
  | _,_=>none
 | .t (.sl n cs)=>match CD lo 0,CD hi n with
  | some l,some h=>if l<=h/\h<=n then some (.t (.sl (h-l) ((cs.drop (l*z)).take ((h-l)*z))))else none
  | _,_=>none
 | .row b o n z'=>match CD lo 0,CD hi n with
  | some l,some h=>if z≠z' then none else if l<h/\h<=n then some (.row b (o+l*z') (h-l) z')else if l=0/\h=0 then some (.row b o 0 z')else if l=h/\h<=n then some (.t (.sl 0 []))else none
  | _,_=>none
 | _=>none
theorem lQ {P:Program} {t e:TypeId} {z:Nat} (h:FA P t=some (e,z)) {x r:PV} {lo hi:Option PV} (hr:FY z x lo hi=some r):HI P t x lo hi=some r:=by
 have hu:P.underlying t=some (.slice e):=by
  unfold FA at h;split at h
  .rename_i e' hu
   cases hi:P.info? e' with
   | none=>rw[hi]at h;cases h
   | some i=>rw[hi]at h;injection h with h;injection h with h1 h2;subst h1;exact hu
  .cases h
 unfold FY at hr;split at hr
 .split at hr
  .rename_i el eh;simp only[HI,hu,h,el,eh];exact hr
  .cases hr
 .split at hr
  .rename_i el eh;simp only[HI,hu,h,el,eh];exact hr
  .cases hr
 .split at hr
  .rename_i el eh;simp only[HI,hu,h,el,eh];exact hr
  .cases hr
 .cases hr
@[simp] def QP:PV->Option PV
 | .t (.v (.string s))=>some (.t (.v (.int .i64 s.size)))
 | _=>none
def Bd:PV->Option PV
 | .t (.v (.slice _ n _))=>some (.t (.v (.int .i64 n)))
 | .t (.sl n _)=>some (.t (.v (.int .i64 n)))
 | .row _ _ n _=>some (.t (.v (.int .i64 n)))
 | _=>none
@[simp] def OE (k:Option IntKind):PV->Option PV
 | .t (.v (.int _ n))=>match k with
  | some k=>some (.t (.v (.int k (k.wrap n))))
  | none=>none
 | .t (.v (.string s))=>match k with
  | none=>some (.t (.v (.string s)))
  | _=>none
 | _=>none
@[simp] def QQ:PV->Option PV
 | .ptr b o=>some (.ptr b o)
 | .t (.pt cs)=>some (.t (.pt cs))
 | .fn (.func f) first cap=>some (.fn (.func f) first cap)
 | .t (.v (.func (.func f) x y))=>some (.t (.v (.func (.func f) x y)))
 | _=>none
def A8 (n:Nat) (H:Ab) (p x:PV):Option Ab:=
 match p with
 | .ptr b o=>match B7 x with
  | some ps=>match Aa H b with
   | some (.cells ty cs)=>if ps.length=n/\o+ps.length<=cs.length then some (upd H b (.cells ty (Bj cs o ps)))else none
   | _=>none
  | none=>none
 | _=>none
theorem lR {P:Program} {t:TypeId} {b:Bool} {n:Nat} (h:Gt P t=some (b,n)) {H H':Ab} {p x:PV} (hr:A8 n H p x=some H'):Lo P H t p x=some H':=by
 unfold A8 at hr;split at hr
 .split at hr
  .rename_i hps;simp only[Lo,h,hps];exact hr
  .cases hr
 .cases hr
def Lw (e n by':Nat) (zc:List Value) (l c:PV) (nx:Nat):Option (PV×Row):=
 match l,c with
 | .t (.v (.int _ l)),.t (.v (.int _ c))=>if 0<=l/\l<=c/\c<=9223372036854775807/\(by':Int)*c<=281474976710656 then some (.row nx 0 l.toNat n,.cells e (FW zc l.toNat))else none
 | _,_=>none
theorem lS {P:Program} {t e n by':Nat} {zc:List Value} (h:FB P t=some (e,n,by',zc)) {l c:PV} {nx:Nat} {q:PV×Row} (hr:Lw e n by' zc l c nx=some q):Lp P t l c nx=some q:=by
 unfold Lw at hr;split at hr
 .simp only[Lp,h];exact hr
 .cases hr
def De (e n:Nat) (zc:List Value) (len:Nat) (parts:List (Nat×PV)) (nx:Nat):Option (PV×Row):=
 if len*n<=16777216 then(DA (λi=>some (i*n,n)) (FW zc len) parts).map λcs=>(.row nx 0 len n,.cells e cs)else none
def B1 (e z by':Nat) (H:Ab) (nx:Nat) (d x:PV):Option (PV×Ab×Nat):=
 match DB H z x with
 | some (m,ps)=>match d with
  | .t (.v (.slice none n c))=>if n=0/\c=0 then
    (if m=0 then some (.t (.v (.slice none n c)),H,nx)else if m*by'<=140737488355328/\m<=9223372036854775807 then some (.row nx 0 m z,(nx,.cells e ps)::H,nx+1)else none)else none
  | .row b o n z'=>match Aa H b with
   | some (.cells ty cs)=>
    if z'=z/\o=0/\ty=e/\cs.length=n*z/\(n+m)*by'<=140737488355328/\n+m<=9223372036854775807 then some (.row nx 0 (n+m) z,(nx,.cells e (cs++ps))::rem H b,nx+1)else none
   | _=>none
  | _=>none
 | none=>none
theorem lT {P:Program} {t e z by':Nat} {zc:List Value} (h:FB P t=some (e,z,by',zc)) {H:Ab} {nx:Nat} {d x:PV} {q:PV×Ab×Nat} (hr:B1 e z by' H nx d x=some q):Lq P H nx t d x=some q:=by
 unfold B1 at hr;split at hr
 .rename_i m ps hs;split at hr
  .simp only[Lq,h,hs];exact hr
  .simp only[Lq,h,hs];exact hr
  .cases hr
 .cases hr
def IW (e n:Nat) (zc:List Value) (len:Nat) (parts:List (Nat×PV)):Option PV:=
 match De e n zc len parts 0 with
 | some (_,.cells _ cs)=>match Ee cs with
  | some ts=>if ts.length=len*n then some (.t (.sl len ts))else none
  | none=>none
 | _=>none
def Ah (Φ:AC) (H:Ab) (nx:Nat) (k:MK) (ps:List PV):Option (PV×Ab×Nat):=
 match k,ps with
 | .mv,[x]=>some (x,H,nx)
 | .pick,[c,a,b]=>match c with
  | .t (.v (.bool t))=>some (bif t then a else b,H,nx)
  | _=>none
 | .bin isB op nk,[x,y]=>match x,y with
  | .t (.v a),.t (.v b)=>match DC isB op a b with
   | some v=>some (.t (.v v),H,nx)
   | none=>(JS op nk (.t (.v a))).map λr=>(r,H,nx)
  | x,_=>(JS op nk x).map λr=>(r,H,nx)
 | .un op,[x]=>match x with
  | .t (.v a)=>(unV op a).map λv=>(.t (.v v),H,nx)
  | _=>none
 | .conv k,[x]=>(OE k x).map λr=>(r,H,nx)
 | .load agg n,[p]=>(Ao agg n H p).map λr=>(r,H,nx)
 | .faddr off,[x]=>(OC off x).map λr=>(r,H,nx)
 | .field off agg n,[x]=>(OD off agg n x).map λr=>(r,H,nx)
 | .iaddr z,[x,i]=>(Bm z x i).map λr=>(r,H,nx)
 | .aaddr n z,[x,i]=>(OB n z x i).map λr=>(r,H,nx)
 | .index,[x,i]=>(Lv x i).map λr=>(r,H,nx)
 | .slstr false false,[x]=>(Dn x none none).map λr=>(r,H,nx)
 | .slstr true false,[x,l]=>(Dn x (some l) none).map λr=>(r,H,nx)
 | .slstr false true,[x,h]=>(Dn x none (some h)).map λr=>(r,H,nx)
 | .slstr true true,[x,l,h]=>(Dn x (some l) (some h)).map λr=>(r,H,nx)
 | .slice z false false,[x]=>(FY z x none none).map λr=>(r,H,nx)
 | .slice z true false,[x,l]=>(FY z x (some l) none).map λr=>(r,H,nx)
 | .slice z false true,[x,h]=>(FY z x none (some h)).map λr=>(r,H,nx)
 | .slice z true true,[x,l,h]=>(FY z x (some l) (some h)).map λr=>(r,H,nx)
 | .ext i,[x]=>(Bv x i).map λr=>(r,H,nx)
 | .chk,[x]=>(QQ x).map λr=>(r,H,nx)
 | .lenstr,[x]=>(QP x).map λr=>(r,H,nx)
 | .lensl,[x]=>(Bd x).map λr=>(r,H,nx)
 | .min,[x,y]=>(MI x y).map λr=>(r,H,nx)
 | .max,[x,y]=>(MJ x y).map λr=>(r,H,nx)
 | .store n,[p,x]=>(A8 n H p x).map λH'=>(.t (.v undef),H',nx)
 | .make e n by' zc,[l,c]=>(Lw e n by' zc l c nx).map λq=>(q.1,(nx,q.2)::H,nx+1)
 | .bslice e n zc len idx,ps=>(De e n zc len (idx.zip ps) nx).map λq=>(q.1,(nx,q.2)::H,nx+1)
 | .build places zc idx,ps=>(DA (λk=>places[k]?) (zc.map λx=>.t (.v x)) (idx.zip ps)).map λcs=>(AN cs,H,nx)
 | .barr n zc idx,ps=>(DA (λk=>some (k*n,n)) (zc.map λx=>.t (.v x)) (idx.zip ps)).map λcs=>(AN cs,H,nx)
 | .box t,[x]=>(B7 x).map λps=>(.ptr nx 0,(nx,.cells t ps)::H,nx+1)
 | .alloc t zc,[]=>some (.ptr nx 0,(nx,.cells t (zc.map λx=>.t (.v x)))::H,nx+1)
 | .app e z by',[d,x]=>B1 e z by' H nx d x
 | .call f,ps=>match Cx H ps with
  | some (targs,F)=>match Φ f targs with
   | some r=>some (.t r,if F.isEmpty then H else if CE r then H else Dl H F,nx)
   | none=>none
  | none=>none
 | .hcall f,ps=>Φ.h f ps H nx
 | .tslice e n zc len idx,ps=>(IW e n zc len (idx.zip ps)).map λr=>(r,H,nx)
 | .callv,fv::ps=>O9 Φ H nx fv ps
 | .ex e,ps=>(exM e ps).map λr=>(r,H,nx)
 | .hx h,ps=>hxM h H nx ps
 | _,_=>none
def Lx (P:Program) (G:Ay) (o:Op):Option (MK×List Opd):=
 match o with
 | .move x=>some (.mv,[AP G x])
 | .assign x=>some (.mv,[AP G x])
 | .pick c a b=>some (.pick,[AP G c,AP G a,AP G b])
 | .binOp op t x y _=>some (.bin (QM P t) op (JR P t y),[AP G x,AP G y])
 | .unOp op _ x=>some (.un op,[AP G x])
 | .convert src dst x=>match P.underlying src,P.underlying dst with
  | some _,some (.int k)=>some (.conv (some k),[AP G x])
  | some _,some .string=>some (.conv none,[AP G x])
  | _,_=>none
 | .load t a=>(Gt P t).map λq=>(.load q.1 q.2,[AP G a])
 | .fieldAddr t x f=>(Gv P t f).map λq=>(.faddr q.1,[AP G x])
 | .field t x f=>(Gv P t f).map λq=>(.field q.1 q.2.1 q.2.2,[AP G x])
 | .indexAddr t x i=>match FA P t with
  | some (_,z)=>some (.iaddr z,[AP G x,AP G i])
  | none=>(Ll P t).map λq=>(.aaddr q.1 q.2,[AP G x,AP G i])
 | .index t x i=>match P.underlying t with
  | some .string=>some (.index,[AP G x,AP G i])
  | _=>none
 | .slice t x lo hi none=>match P.underlying t with
  | some .string=>some (.slstr lo.isSome hi.isSome,AP G x::((lo.map (AP G)).toList++(hi.map (AP G)).toList))
  | _=>match FA P t with
   | some (_,z)=>some (.slice z lo.isSome hi.isSome,AP G x::((lo.map (AP G)).toList++(hi.map (AP G)).toList))
   | none=>none
 | .extract x i=>some (.ext i,[AP G x])
 | .nilCheck x=>some (.chk,[AP G x])
 | .store t a x=>(Gt P t).map λq=>(.store q.2,[AP G a,AP G x])
 | .makeSlice t l c=>(FB P t).map λq=>(.make q.1 q.2.1 q.2.2.1 q.2.2.2,[AP G l,AP G c])
 | .buildSlice t len parts=>(FB P t).map λq=>(.bslice q.1 q.2.1 q.2.2.2 len (parts.toList.map (·.1)),parts.toList.map λp=>AP G p.2)
 | .build t parts=>match P.underlying t,Gw P t with
  | some (.array _ e),some zc=>(P.info? e).map λi=>(.barr i.size zc (parts.toList.map (·.1)),parts.toList.map λp=>AP G p.2)
  | some (.struct fields),some zc=>(fields.toList.mapM (λf=>(P.info? f.type).map λi=>(f.offset,i.size))).map λplaces=>(.build places zc (parts.toList.map (·.1)),parts.toList.map λp=>AP G p.2)
  | _,_=>none
 | .box t x=>some (.box t,[AP G x])
 | .alloc t=>(Gw P t).map λzc=>(.alloc t zc,[])
 | .call ⟨.builtin .append,⟨[x,y]⟩,⟨[t,t']⟩⟩=>if t=t' then(FB P t).map λq=>(.app q.1 q.2.1 q.2.2.1,[AP G x,AP G y])else none
 | .call ⟨.builtin .len,⟨[x]⟩,⟨[t]⟩⟩=>match P.underlying t with
  | some .string=>some (.lenstr,[AP G x])
  | some (.slice _)=>some (.lensl,[AP G x])
  | _=>none
 | .call ⟨.builtin .min,⟨[x,y]⟩,_⟩=>some (.min,[AP G x,AP G y])
 | .call ⟨.builtin .max,⟨[x,y]⟩,_⟩=>some (.max,[AP G x,AP G y])
 | .call ⟨.value (.func f),args,ts⟩=>if ts.toList.any (Uv P)||hot.contains f then some (.hcall f,args.toList.map (AP G))else some (.call f,args.toList.map (AP G))
 | .call ⟨.value x,args,_⟩=>some (.callv,AP G x::args.toList.map (AP G))
 | _=>some (.bad,[])
theorem MU (G:Ay) (s:Ac) (parts:List (Nat×Operand)):(parts.map (·.1)).zip ((parts.map λp=>AP G p.2).map (·.ev s.env))=parts.map λp=>(p.1,s.ev G p.2):=by
 induction parts with
 | nil=>rfl
 | cons p r ih=>simp only[Xb,List.zip_cons_cons,ih,JQ]
theorem AR {α β:Type} {x:Option α} {f:α->β} {y:β} (h:x.map f=some y):∃a,x=some a/\f a=y:=by
 cases x with
 | none=>cases h
 | some a=>exact⟨a,rfl,by simpa using h⟩
theorem lU {P:Program} {G:Ay} {Φ:AC} {s:Ac} {o:Op} {k:MK} {xs:List Opd} {q:PV×Ab×Nat} (hc:Lx P G o=some (k,xs))
  (he:Ah Φ s.H s.nx k (xs.map (·.ev s.env))=some q):Ce P G Φ s o=some q:=by
 have ev1:=λx=>JQ G s x;unfold Lx at hc;split at hc
 .rename_i x;injection hc with hc;injection hc with h1 h2;subst h1;subst h2;simp only[Xb,Xc,Ah,ev1]at he;simpa[Ce,opV,Dd]using he
 .rename_i x;injection hc with hc;injection hc with h1 h2;subst h1;subst h2;simp only[Xb,Xc,Ah,ev1]at he;simpa[Ce,opV,Dd]using he
 .rename_i c a b;injection hc with hc;injection hc with h1 h2;subst h1;subst h2;simp only[Xb,Xc,Ah,ev1]at he;simp only[Ce,opV,Dd];split at he
  .rename_i t ht;rw[ht];simpa using he
  .cases he
 .rename_i op t x y yt;injection hc with hc;injection hc with h1 h2;subst h1;subst h2;simp only[Xb,Xc,Ah,ev1]at he;simp only[Ce,opV,Dd];split at he
  .rename_i a b ha hb;rw[ha,hb];simp only[kY];split at he
   .rename_i v hv;rw[hv];simpa using he
   .rename_i hv;rw[hv];obtain⟨r,hr,rfl⟩:=AR he;simp[Uy P op t _ y hr]
  .rename_i hne;obtain⟨r,hr,rfl⟩:=AR he;have hcm:=Uy P op t _ y hr;split
   .rename_i a b ha hb;exact absurd hb (hne a b ha)
   .simp[hcm]
 .rename_i op t x;injection hc with hc;injection hc with h1 h2;subst h1;subst h2;simp only[Xb,Xc,Ah,ev1]at he;simp only[Ce,opV,Dd];split at he
  .rename_i a ha;rw[ha];obtain⟨v,hv,rfl⟩:=AR he;simp only[hv,Xl,Xa.injEq]
  .cases he
 .rename_i src dst x;simp only[Ce,opV,Dd];split at hc
  .rename_i d k' hs hd;injection hc with hc;injection hc with h1 h2;subst h1;subst h2;simp only[Xb,Xc,Ah,ev1]at he;obtain⟨r,hr,rfl⟩:=AR he;unfold OE at hr;split at hr
   .rename_i n hx;rw[hx];simp only[Lk,hs,hd];simpa using hr
   .simp at hr
   .cases hr
  .rename_i d hs hd;injection hc with hc;injection hc with h1 h2;subst h1;subst h2;simp only[Xb,Xc,Ah,ev1]at he;obtain⟨r,hr,rfl⟩:=AR he;unfold OE at hr;split at hr
   .simp at hr
   .rename_i n hx;rw[hx];simp only[Lk,hs,hd];simpa using hr
   .cases hr
  .cases hc
 .rename_i t a;obtain⟨⟨b,n⟩,hq,h⟩:=AR hc;injection h with h1 h2;subst h1;subst h2;simp only[Xb,Xc,Ah,ev1]at he;simpa[Ce,opV,Dd,UC hq]using he
 .rename_i t x f;obtain⟨⟨off,b,n⟩,hq,h⟩:=AR hc;injection h with h1 h2;subst h1;subst h2;simp only[Xb,Xc,Ah,ev1]at he;simpa[Ce,opV,Dd,lK hq]using he
 .rename_i t x f;obtain⟨⟨off,b,n⟩,hq,h⟩:=AR hc;injection h with h1 h2;subst h1;subst h2;simp only[Xb,Xc,Ah,ev1]at he;simpa[Ce,opV,Dd,lL hq]using he
 .rename_i t x i;split at hc
  .rename_i e z hz;injection hc with hc;injection hc with h1 h2;subst h1;subst h2;simp only[Xb,Xc,Ah,ev1]at he;obtain⟨r,hr,rfl⟩:=AR he;simp[Ce,opV,Dd,lI hz hr]
  .obtain⟨⟨n,z⟩,hq,h⟩:=AR hc;injection h with h1 h2;subst h1;subst h2;simp only[Xb,Xc,Ah,ev1]at he;obtain⟨r,hr,rfl⟩:=AR he;simp[Ce,opV,Dd,lJ hq hr]
 .rename_i t x i;split at hc
  .rename_i hu;injection hc with hc;injection hc with h1 h2;subst h1;subst h2;simp only[Xb,Xc,Ah,ev1]at he;obtain⟨r,hr,rfl⟩:=AR he;simp[Ce,opV,Dd,lM hu hr]
  .cases hc
 .rename_i t x lo hi;split at hc
  .rename_i hu;injection hc with hc;injection hc with h1 h2;subst h1;subst h2;cases lo<;>cases hi<;>simp only[Yf,Yg,X5,Xl,Yh,Yi,Yj,Yk,Yl,Xb,Xc,Ah,ev1]at he
   all_goals (obtain⟨r,hr,rfl⟩:=AR he;simp[Ce,opV,Dd,lN hu hr])
  .split at hc
   .rename_i e z hz;injection hc with hc;injection hc with h1 h2;subst h1;subst h2;cases lo<;>cases hi<;>simp only[Yf,Yg,X5,Xl,Yh,Yi,Yj,Yk,Yl,Xb,Xc,Ah,ev1]at he
    all_goals (obtain⟨r,hr,rfl⟩:=AR he;simp[Ce,opV,Dd,lQ hz hr])
   .cases hc
 .rename_i x i;injection hc with hc;injection hc with h1 h2;subst h1;subst h2;simp only[Xb,Xc,Ah,ev1]at he;simpa[Ce,opV,Dd]using he
 .rename_i x;injection hc with hc;injection hc with h1 h2;subst h1;subst h2;simp only[Xb,Xc,Ah,ev1]at he;simp only[Ce,opV,Dd];obtain⟨r,hr,rfl⟩:=AR he;unfold QQ at hr;split at hr
  all_goals (first | (cases hr;done) | (rename_i hx;rw[hx];simpa using hr))
 .rename_i t a x;obtain⟨⟨b,n⟩,hq,h⟩:=AR hc;injection h with h1 h2;subst h1;subst h2;simp only[Xb,Xc,Ah,ev1]at he;obtain⟨H',hr,rfl⟩:=AR he;simp[Ce,opV,lR hq hr]
 .rename_i t l c;obtain⟨⟨e,n,by',zc⟩,hq,h⟩:=AR hc;injection h with h1 h2;subst h1;subst h2;simp only[Xb,Xc,Ah,ev1]at he;obtain⟨r,hr,rfl⟩:=AR he;simp[Ce,opV,lS hq hr]
 .rename_i t len parts;obtain⟨⟨e,n,by',zc⟩,hq,h⟩:=AR hc;injection h with h1 h2;subst h1;subst h2;simp only[Ah,MU]at he;obtain⟨r,hr,rfl⟩:=AR he
  have:HJ P t len (parts.toList.map λp=>(p.1,s.ev G p.2)) s.nx=some r:=by
   simp only[HJ,hq];exact hr
  simp[Ce,opV,this]
 .rename_i t parts;split at hc
  .rename_i n e zc hu hz;obtain⟨i,hq,h⟩:=AR hc;injection h with h1 h2;subst h1;subst h2;simp only[Ah,MU]at he;obtain⟨cs,hr,rfl⟩:=AR he;simp[Ce,opV,Lr,O6,hu,hq,hz,hr]
  .rename_i fields zc hu hz;obtain⟨places,hq,h⟩:=AR hc;injection h with h1 h2;subst h1;subst h2;simp only[Ah,MU]at he;obtain⟨cs,hr,rfl⟩:=AR he;simp[Ce,opV,Lr,O6,hu,hq,hz,hr]
  .cases hc
 .rename_i t x;injection hc with hc;injection hc with h1 h2;subst h1;subst h2;simp only[Xb,Xc,Ah,ev1]at he;simpa[Ce,opV]using he
 .rename_i t;obtain⟨zc,hq,h⟩:=AR hc;injection h with h1 h2;subst h1;subst h2;simp only[Xc,Ah]at he;simpa[Ce,opV,hq]using he
 .rename_i x y t t';split at hc
  .rename_i e;subst e;obtain⟨⟨e,n,by',zc⟩,hq,h⟩:=AR hc;injection h with h1 h2;subst h1;subst h2;simp only[Xb,Xc,Ah,ev1]at he;simp[Ce,opV,lT hq he]
  .cases hc
 .rename_i x t;split at hc
  .rename_i hu;injection hc with hc;injection hc with h1 h2;subst h1;subst h2;simp only[Xb,Xc,Ah,ev1]at he;obtain⟨r,hr,rfl⟩:=AR he;unfold QP at hr;split at hr
   .rename_i st hx
    have:JN P t (s.ev G x)=some r:=by rw[hx];simp only[JN,hu];exact hr
    simp[Ce,opV,Dd,Lm,this]
   .cases hr
  .rename_i e hu;injection hc with hc;injection hc with h1 h2;subst h1;subst h2;simp only[Xb,Xc,Ah,ev1]at he;obtain⟨r,hr,rfl⟩:=AR he;unfold Bd at hr;split at hr
   all_goals (first | (cases hr;done) | skip)
   all_goals
    rename_i hx
    have:JN P t (s.ev G x)=some r:=by rw[hx];simp only[JN,hu];exact hr
    simp[Ce,opV,Dd,Lm,this]
  .cases hc
 .rename_i x y ts;injection hc with hc;injection hc with h1 h2;subst h1;subst h2;simp only[Xb,Xc,Ah,ev1]at he;simpa[Ce,opV,Dd,Lm]using he
 .rename_i x y ts;injection hc with hc;injection hc with h1 h2;subst h1;subst h2;simp only[Xb,Xc,Ah,ev1]at he;simpa[Ce,opV,Dd,Lm]using he
 .rename_i f args ts
  have e:(args.toList.map (AP G)).map (·.ev s.env)=args.toList.map (s.ev G):=by
   rw[X6];exact X7 λx _=>ev1 x
  split at hc
  .rename_i hr;injection hc with hc;injection hc with h1 h2;subst h1;subst h2;simp only[Ah,e]at he;simp only[Ce,hr,if_true];exact he
  .rename_i hr;injection hc with hc;injection hc with h1 h2;subst h1;subst h2;simp only[Ah,e]at he;simp only[Ce,hr,Xr,if_false];exact he
 .rename_i x args ts hne;injection hc with hc;injection hc with h1 h2;subst h1;subst h2
  have e:(args.toList.map (AP G)).map (·.ev s.env)=args.toList.map (s.ev G):=by
   rw[X6];exact X7 λx _=>ev1 x
  simp only[Xb,Ah,e,ev1]at he;unfold Ce;split
  .rename_i f' a' t' heq;injection heq with heq;injection heq with h1 h2 h3;injection h1 with h1;exact absurd h1 (hne f')
  .rename_i x' a' t' _ heq;injection heq with heq;injection heq with h1 h2 h3;injection h1 with h1;subst h1;subst h2;exact he
  .rename_i h1 h2;exact absurd rfl (h2 _ _ _)
 .injection hc with hc;injection hc with h1 h2;subst h1;subst h2;simp[Ah]at he
def lV:Op->Bool
 | .buildSlice t len _=>len != 0 && !wet.contains t
 | _=>true
def opK (P:Program) (G:Ay) (d:Bool) (o:Op):MK×List Opd:=
 match Lu P G o with
 | some q=>q
 | none=>
 match d&&lV o,o with
 | true,.buildSlice t len parts=>match FB P t with
  | some q=>(.tslice q.1 q.2.1 q.2.2.2 len (parts.toList.map (·.1)),parts.toList.map λp=>AP G p.2)
  | none=>(.bad,[])
 | _,o=>match Lx P G o with
  | some q=>q
  | none=>(.bad,[])
theorem GQ {P:Program} {G:Ay} {B:Nat} {Φ:AC} {s:Ac} {o:Oper} {d:Bool} {k:MK} {xs:List Opd} (hΦ:Φ.Sound P G) (hc:opK P G d o.op=(k,xs)) {r:PV} {H':Ab} {nx':Nat}
  (he:Ah Φ s.H s.nx k (xs.map (·.ev s.env))=some (r,H',nx')):AOp P G B o s r H' nx':=by
 unfold opK at hc;split at hc
 .rename_i q hq;subst hc;refine lH hq ?_;cases k<;>simp only
  case ex e=>
   simp only[Ah]at he;obtain⟨p,hp,e1⟩:=AR he;exact⟨p,hp,e1.symm⟩
  case hx h=>simpa only[Ah]using he
  all_goals (exact absurd hq (QN (by simp)))
 split at hc
 .rename_i t len parts _ ho;split at hc
  .rename_i q hq;obtain⟨e,n,by',zc⟩:=q;injection hc with h1 h2;subst h1;subst h2;simp only[Ah,MU]at he;obtain⟨x,hx,e1⟩:=AR he;injection e1 with e1 e2;injection e2 with e2 e3;subst e1;subst e2;subst e3;unfold IW at hx;split at hx
   .rename_i p0 ty cs hb;split at hx
    .rename_i ts hts;split at hx
     .rename_i hl;injection hx with hx;subst hx;unfold De at hb;split at hb
      .rename_i hsz;obtain⟨cs',hf,e4⟩:=AR hb;injection e4 with e4 e5;injection e5 with e5 e6;subst e6
       have hbs:HJ P t len (parts.toList.map λp=>(p.1,s.ev G p.2)) s.nx=some (.row s.nx 0 len n,.cells e (ts.map .t)):=by
        simp only[HJ,hq];rw[zy hsz,hf,<-Gu hts];rfl
       exact kL hl (Ur ho hbs)
      .cases hb
     .cases hx
    .cases hx
   .cases hx
  .injection hc with h1 h2;subst h1;simp[Ah]at he
 .split at hc
  .rename_i q hq;subst hc;exact kX hΦ (lU hq he)
  .injection hc with h1 h2;subst h1;simp[Ah]at he
structure Av where
 dst:Option Nat
 k:MK
 xs:List Opd
 g:Option (Nat×Bool)
def Av.wants (env:List (Nat×PV)) (m:Av):Option Bool:=
 match m.g with
 | none=>some true
 | some (d,want)=>match Aa env d with
  | some (.t (.v (.bool b)))=>some (b==want)
  | some (.t (.v (.tuple _)))=>some false
  | _=>none
def DX (P:Program) (G:Ay) (N:Nat) (d:Bool) (ops:Array Oper) (o:Oper):Option Av:=
 match opK P G d o.op with
 | (k,xs)=>if o.dst.all (· < N)then
   (match o.guard with
   | none=>some ⟨o.dst,k,xs,none⟩
   | some (j,want)=>match (ops[j]?).bind (·.dst)with
    | some d=>some ⟨o.dst,k,xs,some (d,want)⟩
    | none=>none)
  else none
theorem JT {P:Program} {G:Ay} {N:Nat} {d:Bool} {ops:Array Oper} {o:Oper} {m:Av} (h:DX P G N d ops o=some m) :
  opK P G d o.op=(m.k,m.xs)/\m.dst=o.dst/\(∀k,o.dst=some k->k<N)/\∀s:Ac,s.wants ops o=m.wants s.env:=by
 unfold DX at h;split at h;rename_i k xs hc;split at h
 .rename_i hd
  have hd':∀k,o.dst=some k->k<N:=by
   intro k hk;rw[hk]at hd;simpa using hd
  split at h
  .rename_i hg;injection h with h;subst h;exact⟨hc,rfl,hd',λs=>by simp[Ac.wants,Av.wants,hg]⟩
  .rename_i j want hg;split at h
   .rename_i d hdd;injection h with h;subst h;exact⟨hc,rfl,hd',λs=>by simp only[Ac.wants,Av.wants,hg,hdd];rfl⟩
   .cases h
 .cases h
def IX (Φ:AC) (s:Ac) (m:Av):Option Ac:=
 match m.wants s.env with
 | some true=>match Ah Φ s.H s.nx m.k (m.xs.map (·.ev s.env))with
  | some (r,H',nx')=>some (({ s with H:=H',nx:=nx' }:Ac).put m.dst r)
  | none=>none
 | some false=>some (s.put m.dst (.t (.v undef)))
 | none=>none
def GR (Φ:AC):List Av->Ac->Option Ac
 | [],s=>some s
 | m::r,s=>match IX Φ s m with
  | some s'=>GR Φ r s'
  | none=>none
section
variable {P : Program} {G : Ay} {B N : Nat} {Φ : AC} {d : Bool} {ops : Array Oper}
def E9 (P:Program) (G:Ay) (N:Nat) (d:Bool) (ops:Array Oper):List Oper->List Av->Prop
 | [],l=>l=[]
 | o::r,l=>∃m l',l=m::l'/\DX P G N d ops o=some m/\E9 P G N d ops r l'
theorem JU:∀{os:List Oper} {l:List Av},os.mapM (DX P G N d ops)=some l->E9 P G N d ops os l
 | [],l,h=>by simp at h;simp only[E9];exact h
 | o::r,l,h=>by
  simp only[Ym,Yn,Yo]at h
  cases ho:DX P G N d ops o with
  | none=>rw[ho]at h;cases h
  | some m=>
   rw[ho]at h
   cases hr:r.mapM (DX P G N d ops)with
   | none=>rw[hr]at h;cases h
   | some l'=>
    rw[hr]at h;simp only[Yp,Xa.injEq]at h;subst h;simp only[E9];exact⟨m,l',rfl,ho,JU hr⟩
theorem E9.at_:∀{os:List Oper} {l:List Av},E9 P G N d ops os l->∀(i:Nat),(∀o,os[i]?=some o->∃m,l[i]?=some m/\DX P G N d ops o=some m)/\os.length=l.length
 | [],l,h,i=>by simp only[E9]at h;subst h;simp
 | o::r,l,h,i=>by
  simp only[E9]at h;obtain⟨m,l',rfl,hm,hr⟩:=h;refine⟨λo' ho'=>?_,by simp[(E9.at_ hr 0).2]⟩
  cases i with
  | zero=>simp only[Xt,Xa.injEq]at ho';subst ho';exact⟨m,by simp,hm⟩
  | succ i=>simpa using (E9.at_ hr i).1 o' (by simpa using ho')
theorem QR (hΦ:Φ.Sound P G) {Q:Ac->Prop}:∀(os:List Oper) {l:List Av} {s s':Ac},E9 P G N d ops os l->s.n=N->GR Φ l s=some s'->Q s'->JL P G B ops os Q s
 | [],l,s,s',ha,hn,h,hq=>by
  simp only[E9]at ha;subst ha;simp only[GR,Xa.injEq]at h;subst h;exact iY hq
 | o::AY,l,s,s',ha,hn,h,hq=>by
  simp only[E9]at ha;obtain⟨m,l',rfl,hm,hr⟩:=ha;obtain⟨hc,hdst,hd,hw⟩:=JT hm;simp only[GR]at h;split at h
  .rename_i s1 h1;unfold IX at h1;rw[<-hw s]at h1
   have hd':∀k,o.dst=some k->k<s.n:=λk hk=>by rw[hn];exact hd k hk
   rw[hdst]at h1;split at h1
   .rename_i hww;split at h1
    .rename_i r H' nx' hv;injection h1 with h1;subst h1;exact iZ hww hd' (GQ hΦ hc hv) (QR hΦ AY hr (by rw[F9];exact hn) h hq)
    .cases h1
   .rename_i hww;injection h1 with h1;subst h1;exact j9 hww hd' (QR hΦ AY hr (by rw[F9];exact hn) h hq)
   .cases h1
  .cases h
def A2:MK->Bool
 | .store _ | .make _ _ _ _ | .bslice _ _ _ _ _ | .box _ | .alloc _ _ | .app _ _ _ | .hcall _ | .callv | .hx _=>false
 | _=>true
def Bb (Φ:AC) (H:Ab) (nx:Nat) (k:MK) (ps:List PV):Option PV:=
 if A2 k then
  (match k with
  | .call f=>match Cx H ps with
   | some (targs,F)=>match Φ f targs with
    | some r=>if F.isEmpty||CE r then some (.t r)else none
    | none=>none
   | none=>none
  | k=>(Ah Φ H nx k ps).map (·.1))
 else none
theorem QS {H:Ab} {nx:Nat} {k:MK} {ps:List PV} {r:PV} (h:Bb Φ H nx k ps=some r):Ah Φ H nx k ps=some (r,H,nx):=by
 unfold Bb at h;split at h
 .rename_i hk;split at h
  .rename_i f;split at h
   .rename_i targs F hT;split at h
    .rename_i q hq;split at h
     .rename_i hp;injection h with h;subst h;simp only[Ah,hT,hq]
      cases hF:F.isEmpty with
      | true=>simp
      | false=>
       rw[hF]at hp;simp only[Xu]at hp;simp[hp]
     .cases h
    .cases h
   .cases h
  .rename_i hnc;obtain⟨q,hq,rfl⟩:=AR h;rw[hq];congr 1;unfold Ah at hq;split at hq
   all_goals (first
    | (simp[A2]at hk;done)
    | (exact absurd rfl (hnc _))
    | (cases hq;done)
    | (injection hq with hq;rw[<-hq];done)
    | (obtain⟨a,_,rfl⟩:=AR hq;rfl)
    | skip)
   .split at hq
    .injection hq with hq;rw[<-hq]
    .cases hq
   .split at hq
    .split at hq
     .injection hq with hq;rw[<-hq]
     .obtain⟨a,_,rfl⟩:=AR hq;rfl
    .obtain⟨a,_,rfl⟩:=AR hq;rfl
   .split at hq
    .obtain⟨a,_,rfl⟩:=AR hq;rfl
    .cases hq
 .cases h
def Av.eyes (m:Av):List Nat:=
 (m.xs.filterMap fun | .tmp t=>some t | _=>none)++(match m.g with | some (d,_)=>[d] | none=>[])
def Ac.only (s:Ac) (ts:List Nat):Ac:={ s with env:=ts.filterMap λt=>(Aa s.env t).map λp=>(t,p) }
theorem Lz (s:Ac):∀(ts:List Nat) (t:Nat),Aa (s.only ts).env t=if t∈ts then Aa s.env t else none
 | [],t=>by simp[Ac.only,Aa]
 | u::ts,t=>by
  have ih:=Lz s ts t;simp only[Ac.only]at ih ⊢;simp only[X8]
  cases hu:Aa s.env u with
  | none=>
   simp only[X5,ih];by_cases e:t=u
   .subst e;simp[hu]
   .simp[e]
  | some p=>
   simp only[Xl,Aa];by_cases e:u=t
   .subst e;simp[hu]
   .rw[zz e,ih];simp[Ne.symm e]
theorem QT (s:Ac) (m:Av) (ts:List Nat) (h:∀t∈m.eyes,t∈ts):m.xs.map (·.ev (s.only ts).env)=m.xs.map (·.ev s.env):=by
 refine X7 λx hx=>?_
 cases x with
 | tmp t=>
  have:t∈m.eyes:=by
   unfold Av.eyes;exact List.mem_append_left _ (Xz.2 ⟨.tmp t,hx,rfl⟩)
  simp only[Opd.ev,Lz,zy (h t this)]
 | k p=>rfl
theorem QU (s:Ac) (m:Av) (ts:List Nat) (h:∀t∈m.eyes,t∈ts):m.wants (s.only ts).env=m.wants s.env:=by
 unfold Av.wants
 cases hg:m.g with
 | none=>rfl
 | some q=>
  obtain⟨d,want⟩:=q
  have:d∈m.eyes:=by unfold Av.eyes;rw[hg];simp
  simp only[Lz,zy (h d this)]
def HN (Φ:AC) (s:Ac) (m:Av):Option PV:=
 match m.wants s.env with
 | some true=>Bb Φ s.H s.nx m.k (m.xs.map (·.ev s.env))
 | some false=>some (.t (.v undef))
 | none=>none
def Gx:MK->Bool
 | .load _ _ | .call _=>false
 | k=>A2 k
def Fm:MK->Bool
 | .make _ _ _ _ | .bslice _ _ _ _ _ | .box _ | .alloc _ _=>true
 | _=>false
def MV (Φ:AC) (s:Ac) (m:Av):Option Ac:=
 if A2 m.k then
  (match HN Φ s m with
  | some v=>some (s.put m.dst v)
  | none=>none)
 else IX Φ s m
def Gy (Φ:AC):List Av->Ac->Option Ac
 | [],s=>some s
 | m::r,s=>match MV Φ s m with
  | some s'=>Gy Φ r s'
  | none=>none
def L7:MK->Bool
 | .make _ _ _ _ | .alloc _ _=>true
 | _=>false
def ES (A:List Nat) (pa k:Nat) (R:List (Nat×Nat)) (p p':Nat) (x y:Nat×Av):Bool:=
 (A2 x.2.k&&(A2 y.2.k||Gx x.2.k||Fm y.2.k||R.contains (p,p'))||(A.getD y.1 0).testBit x.1||decide (pa<=p)&&decide (p'<pa+k)) &&
 ((match x.2.dst with
  | some d=>!(y.2.eyes.contains d)
  | none=>true)||(A.getD y.1 0).testBit x.1 && !(decide (pa<=p)&&decide (p'<pa+k))) &&
 ((match y.2.dst with
  | some d=>!(x.2.eyes.contains d)
  | none=>true)||(A.getD y.1 0).testBit x.1) &&
 (match x.2.dst with
  | some d=>y.2.dst != some d
  | none=>true)
def OG (A:List Nat) (pa k:Nat) (R:List (Nat×Nat)):Nat->List (Nat×Av)->Bool
 | _,[]=>true
 | p,x::r=>(r.zipIdx (p+1)).all (λy=>ES A pa k R p y.2 x y.1)&&OG A pa k R (p+1) r
def BD (l:List Av) (π:List Nat):List (Nat×Av):=π.filterMap λi=>(l[i]?).map λm=>(i,m)
def HO (ops:Array Oper) (l:List Av) (π:List Nat) (pa k:Nat) (R:List (Nat×Nat)):Bool:=
 (ops.toList.zipIdx.all λp=>p.1.after.toList.all λe=>decide (e.on<p.2) || !Region.binds .any e) &&
 ((BD l π).length==l.length)&&((Xv l.length).all λi=>π.contains i)&&decide (π.Nodup) &&
 OG (Dm ops.toList []) pa k R 0 (BD l π)&&decide (pa+k<=l.length) &&
 (((BD l π).drop pa).take k).all λx=>L7 x.2.k&&x.2.g.isNone
inductive GI where
 | o (m:Av) (kp:Bool) (ag:List Nat)
 | g (j:Nat) (m:Av)
def GI.mini:GI->Av
 | .o m _ _=>m
 | .g _ m=>m
abbrev Ew:=List (Nat×MK×List PV×PV)
def OH (Φ:AC) (pd:Ew) (H:Ab) (nx:Nat) (ks:List Nat):Prop:=∀i∈ks,∃x,Aa pd i=some x/\Bb Φ H nx x.1 x.2.1=some x.2.2
def FZ (Φ:AC) (s:Ac) (m:Av):Option (PV×Ab×Nat):=
 if A2 m.k then(HN Φ s m).map λv=>(v,s.H,s.nx)
 else match m.wants s.env with
  | some true=>Ah Φ s.H s.nx m.k (m.xs.map (·.ev s.env))
  | some false=>some (.t (.v undef),s.H,s.nx)
  | none=>none
def Ga (kp:Bool) (n:Nat) (m:Av) (s:Ac) (v:PV) (pd:Ew):Ew:=if kp then(n,m.k,m.xs.map (·.ev s.env),v)::pd else pd
open Classical in
noncomputable def Ex (Φ:AC) (k:Nat):Nat->Nat->Ew->List GI->Ac->Option Ac
 | _,_,_,[],s=>some s
 | n,b,pd,.o m kp ag::r,s=>match FZ Φ s m with
  | some (v,H',nx')=>if OH Φ pd H' nx' ag then Ex Φ k (n+1) b (Ga kp n m s v pd) r (({ s with H:=H',nx:=nx' }:Ac).put m.dst v)else none
  | none=>none
 | n,b,pd,.g j m::r,s=>match Ah Φ s.H ((if j=0 then s.nx else b)+k+j) m.k (m.xs.map (·.ev s.env))with
  | some (v,H',_)=>Ex Φ k (n+1) (if j=0 then s.nx else b) pd r (({ s with H:=H',nx:=(if j=0 then s.nx else b)+2*k }:Ac).put m.dst v)
  | none=>none
def GS (pa k:Nat) (R:List (Nat×Nat)) (l:List GI):Bool:=
 (l.zipIdx.all λx=>match x.1 with
  | .o _ _ _=>decide (x.2<pa)||decide (pa+k<=x.2)
  | .g j _=>decide (pa<=x.2)&&decide (x.2<pa+k)&&(x.2==pa+j)) &&
 R.all λr=>match l[r.2]? with
  | some (.o _ _ ag)=>ag.contains r.1
  | _=>false
def QV (q:List (Nat×Av)):Nat×Nat:=
 let free:=λx:Nat×Av=>L7 x.2.k&&x.2.g.isNone
 let pa:=q.findIdx free
 (if pa<q.length then pa else 0,((q.drop pa).takeWhile free).length)
def QW (A:List Nat) (q:List (Nat×Av)):List (Nat×Nat):=
 q.zipIdx.flatMap λy=>if A2 y.1.2.k||Fm y.1.2.k then []else
  (q.zipIdx.filter λx=>decide (x.2<y.2)&&A2 x.1.2.k && !Gx x.1.2.k && !(A.getD y.1.1 0).testBit x.1.1).map λx=>(x.2,y.2)
def JV (pa k:Nat) (R:List (Nat×Nat)) (q:List (Nat×Av)):List GI:=
 q.zipIdx.map λx=>if pa<=x.2/\x.2<pa+k then .g (x.2-pa) x.1.2 else .o x.1.2 (R.any λr=>r.1==x.2) ((R.filter λr=>r.2==x.2).map Prod.fst)
end
section
variable {P : Program} {G : Ay} {B N : Nat} {Φ : AC} {ops : Array Oper}
theorem JW {S:Array Bool} {i:Nat} (h:i∈Region.ready .any ops S):i<ops.size/\S.getD i true=false/\∃o,ops[i]?=some o/\∀e∈o.after.toList,Region.binds .any e=true->S.getD e.on false=true:=by
 unfold Region.ready at h;obtain⟨h1,h2⟩:=Yq.1 h;simp only[List.mem_range]at h1;simp only[Xd,Xp]at h2;refine⟨h1,h2.1,ops[i],Xj h1,λe he hb=>?_⟩;have:=h2.2;rw[Xj h1]at this;simp only[Xl,X9]at this;rw[Yr]at this;have:=this e (Ys.2 he);simpa[hb]using this
theorem OI {S:Array Bool} {i:Nat} {o:Oper} (ho:ops[i]?=some o) (h2:S.getD i true=false) (h3:∀e∈o.after.toList,Region.binds .any e=true->S.getD e.on false=true):i∈Region.ready .any ops S:=by
 unfold Region.ready;refine Yq.2 ⟨by simpa using (Xs.1 ho).1,?_⟩;simp only[h2,ho,Xl,X9,Bool.not_false,Ya];rw[Yr];intro e he
 cases hb:Region.binds .any e with
 | false=>simp
 | true=>simp[h3 e (Ys.1 he) hb]
theorem Gz {S:Array Bool} {i:Nat} (h:i<S.size):S.getD i true=S.getD i false:=by
 simp[Xo,h]
theorem Do (S:Array Bool) (i j:Nat) (h:i<S.size):(S.setIfInBounds i true).getD j false=if i=j then true else S.getD j false:=by
 simp only[Xo];by_cases e:i=j
 .subst e;simp[h]
 .simp[e,X4 e]
def cnt (S:Array Bool):Nat:=S.toList.count true
theorem OJ {S:Array Bool} {i:Nat} (h:i<S.size) (hf:S.getD i false=false):cnt (S.setIfInBounds i true)=cnt S+1:=by
 unfold cnt;rw[Array.toList_setIfInBounds,List.count_set (by simpa using h)]
 have:S.toList[i]'(by simpa using h)=false:=by
  simp only[Xo]at hf;rw[Xj h]at hf;simpa using hf
 rw[this];simp
theorem OK {S:Array Bool} (h:S.size<=cnt S):∀i,i<S.size->S.getD i false=true:=by
 intro i hi
 have hle:cnt S<=S.size:=by unfold cnt;have:=List.count_le_length (a:=true) (l:=S.toList);simpa using this
 have he:S.toList.count true=S.toList.length:=by
  unfold cnt at h hle
  have:S.toList.length=S.size:=by simp
  omega
 have:=List.count_eq_length.1 he S.toList[i] (by simp);simp only[Xo,Xj hi,X9];simpa using this.symm
def Did (Φ:AC) (s:Ac) (m:Av) (v:PV) (s':Ac):Prop:=
 (A2 m.k=true/\HN Φ s m=some v/\s'=s.put m.dst v) \/
 (A2 m.k=false/\m.wants s.env=some false/\v = .t (.v undef)/\s'=s.put m.dst v) \/
 (A2 m.k=false/\m.wants s.env=some true/\∃H' nx',Ah Φ s.H s.nx m.k (m.xs.map (·.ev s.env))=some (v,H',nx')/\s'=({ s with H:=H',nx:=nx' }:Ac).put m.dst v)
theorem UD {s s':Ac} {m:Av} (h:MV Φ s m=some s'):∃v,Did Φ s m v s':=by
 unfold MV at h;split at h
 .rename_i hq;split at h
  .rename_i v hv;injection h with h;exact⟨v,.inl ⟨hq,hv,h.symm⟩⟩
  .cases h
 .rename_i hq
  have hq:A2 m.k=false:=by simpa using hq
  unfold IX at h;split at h
  .rename_i hw;split at h
   .rename_i r H' nx' he;injection h with h;exact⟨r,.inr (.inr ⟨hq,hw,H',nx',he,h.symm⟩)⟩
   .cases h
  .rename_i hw;injection h with h;exact⟨_,.inr (.inl ⟨hq,hw,rfl,h.symm⟩)⟩
  .cases h
theorem UE:∀(l:List Av) {s s':Ac},Gy Φ l s=some s'->∃(st:Nat->Ac) (vals:Nat->PV),st 0=s/\st l.length=s'/\∀(p:Nat) m,l[p]?=some m->Did Φ (st p) m (vals p) (st (p+1))
 | [],s,s',h=>by
  simp only[Gy,Xa.injEq]at h;exact⟨λ_=>s,λ_=>.dead,rfl,h,by simp⟩
 | q::r,s,s',h=>by
  simp only[Gy]at h;split at h
  .rename_i s1 h1;obtain⟨v,hd⟩:=UD h1;obtain⟨st,vals,h0,hl,hall⟩:=UE r h;refine⟨λp=>match p with | 0=>s | p+1=>st p,λp=>match p with | 0=>v | p+1=>vals p,rfl,by simpa using hl,λp m hp=>?_⟩
   cases p with
   | zero=>simp only[Xt,Xa.injEq]at hp;subst hp;simp only;rw[h0];exact hd
   | succ p=>simpa using hall p m (by simpa using hp)
  .cases h
theorem OL {s s':Ac} {m:Av} {v:PV} (h:Did Φ s m v s'):s'.env=(s.put m.dst v).env/\s'.n=s.n:=by
 rcases h with⟨_,_,rfl⟩ | ⟨_,_,_,rfl⟩ | ⟨_,_,H',nx',_,rfl⟩
 .exact⟨rfl,F9⟩
 .exact⟨rfl,F9⟩
 .refine⟨?_,by rw[F9]⟩;cases m.dst<;>rfl
theorem L8 {s s':Ac} {m:Av} {v:PV} (h:Did Φ s m v s') (hq:A2 m.k=true):s'.H=s.H/\s'.nx=s.nx:=by
 rcases h with⟨_,_,rfl⟩ | ⟨hf,_⟩ | ⟨hf,_⟩
 .exact⟨D9,EP⟩
 .rw[hq]at hf;cases hf
 .rw[hq]at hf;cases hf
def GT (s:Ac):Prop:=∀b r,Aa s.H b=some r->b<s.nx
theorem QX {H:Ab} {nx:Nat} {r:Row} (h:∀b r,Aa H b=some r->b<nx):∀b r',Aa ((nx,r)::H) b=some r'->b<nx+1:=by
 intro b r' hb;simp only[Aa]at hb;by_cases e:nx=b
 .omega
 .rw[zz e]at hb;have:=h b r' hb;omega
theorem lW {k:HK} {H H':Ab} {nx nx':Nat} {ps:List PV} {v:PV} (h:hxM k H nx ps=some (v,H',nx')) (hf:∀b r,Aa H b=some r->b<nx):∀b r,Aa H' b=some r->b<nx':=by
 unfold hxM at h;split at h
 .injection h with h;injection h with e1 e2;injection e2 with e2 e3;subst e2;subst e3;exact QX hf
 .split at h
  .rename_i hl;split at h
   .injection h with h;injection h with e1 e2;injection e2 with e2 e3;subst e2;subst e3;intro j r hj;rw[A9]at hj;split at hj
    .rename_i e;subst e;exact hf _ _ hl
    .exact hf j r hj
   .injection h with h;injection h with e1 e2;injection e2 with e2 e3;subst e2;subst e3;exact hf
  .cases h
 .cases h
theorem lX (hΦ:Φ.Sound P G) {H H':Ab} {nx nx':Nat} {k:MK} {ps:List PV} {v:PV} (hq:A2 k=false) (h:Ah Φ H nx k ps=some (v,H',nx')) (hf:∀b r,Aa H b=some r->b<nx) :
  (∀b r,Aa H' b=some r->b<nx')/\(Fm k=true->∀b r,Aa H b=some r->Aa H' b=some r):=by
 have new:∀{row:Row},(∀b r,Aa ((nx,row)::H) b=some r->b<nx+1)/\(∀b r,Aa H b=some r->Aa ((nx,row)::H) b=some r):=by
  intro row;refine⟨QX hf,λb r hb=>?_⟩;have:=hf b r hb;simp only[Aa];rw[zz (by omega)];exact hb
 cases k<;>simp only[A2]at hq<;>try (cases hq;done)
 case store n=>
  refine⟨?_,λha=>by simp[Fm]at ha⟩
  rcases ps with _ | ⟨p,_ | ⟨x,_ | ⟨y,r⟩⟩⟩<;>simp only[Ah]at h<;>try (cases h;done)
  obtain⟨H1,hs,e⟩:=AR h;injection e with e1 e2;injection e2 with e2 e3;subst e2;subst e3;unfold A8 at hs;split at hs
  .rename_i b o;split at hs
   .split at hs
    .rename_i ty cs hl;split at hs
     .injection hs with hs;subst hs;intro j r hj;rw[A9]at hj;split at hj
      .rename_i e;subst e;exact hf _ _ hl
      .exact hf j r hj
     .cases hs
    .cases hs
   .cases hs
  .cases hs
 case make e n by' zc=>
  rcases ps with _ | ⟨p,_ | ⟨x,_ | ⟨y,r⟩⟩⟩<;>simp only[Ah]at h<;>try (cases h;done)
  obtain⟨q,hs,e⟩:=AR h;injection e with e1 e2;injection e2 with e2 e3;subst e2;subst e3;exact⟨new.1,λ_=>new.2⟩
 case bslice e n zc len idx=>
  simp only[Ah]at h;obtain⟨q,hs,e⟩:=AR h;injection e with e1 e2;injection e2 with e2 e3;subst e2;subst e3;exact⟨new.1,λ_=>new.2⟩
 case box t=>
  rcases ps with _ | ⟨p,_ | ⟨x,r⟩⟩<;>simp only[Ah]at h<;>try (cases h;done)
  obtain⟨q,hs,e⟩:=AR h;injection e with e1 e2;injection e2 with e2 e3;subst e2;subst e3;exact⟨new.1,λ_=>new.2⟩
 case alloc t zc=>
  rcases ps with _ | ⟨p,r⟩<;>simp only[Ah]at h<;>try (cases h;done)
  injection h with e;injection e with e1 e2;injection e2 with e2 e3;subst e2;subst e3;exact⟨new.1,λ_=>new.2⟩
 case app e z by'=>
  refine⟨?_,λha=>by simp[Fm]at ha⟩
  rcases ps with _ | ⟨d,_ | ⟨x,_ | ⟨y,r⟩⟩⟩<;>simp only[Ah]at h<;>try (cases h;done)
  unfold B1 at h;split at h
  .split at h
   .split at h
    .split at h
     .injection h with h;injection h with e1 e2;injection e2 with e2 e3;subst e2;subst e3;exact hf
     .split at h
      .injection h with h;injection h with e1 e2;injection e2 with e2 e3;subst e2;subst e3;exact new.1
      .cases h
    .cases h
   .split at h
    .split at h
     .injection h with h;injection h with e1 e2;injection e2 with e2 e3;subst e2;subst e3;refine QX λb r hb=>?_;rw[Cr]at hb;split at hb
      .cases hb
      .exact hf b r hb
     .cases h
    .cases h
   .cases h
  .cases h
 case hx hk=>
  refine⟨?_,λha=>by simp[Fm]at ha⟩;simp only[Ah]at h;exact lW h hf
 case hcall f=>
  refine⟨?_,λha=>by simp[Fm]at ha⟩;simp only[Ah]at h;exact hΦ.fresh _ _ _ _ _ _ _ h hf
 case callv=>
  refine⟨?_,λha=>by simp[Fm]at ha⟩;rcases ps with _ | ⟨fv,ps⟩
  .simp[Ah]at h
  .simp only[Ah]at h;unfold O9 at h;split at h
   .exact hΦ.fresh _ _ _ _ _ _ _ h hf
   .exact hΦ.fresh _ _ _ _ _ _ _ h hf
   .cases h
theorem JX (hΦ:Φ.Sound P G) {s s':Ac} {m:Av} {v:PV} (h:Did Φ s m v s') (hf:GT s):GT s'/\(Fm m.k=true\/A2 m.k=true->∀b r,Aa s.H b=some r->Aa s'.H b=some r):=by
 rcases h with⟨hq,_,rfl⟩ | ⟨hq,_,_,rfl⟩ | ⟨hq,_,H',nx',he,rfl⟩
 .unfold GT;rw[D9,EP];exact⟨hf,λ_ b r hb=>hb⟩
 .unfold GT;rw[D9,EP];exact⟨hf,λ_ b r hb=>hb⟩
 .have:=lX hΦ hq he hf;unfold GT;rw[D9,EP];refine⟨this.1,λha=>?_⟩;rcases ha with ha | ha
  .exact this.2 ha
  .rw[hq]at ha;cases ha
mutual
theorem lY {H H':Ab} (hh:∀b r,Aa H b=some r->Aa H' b=some r):∀(p:PV) {q:T×List Nat},toT H p=some q->toT H' p=some q
 | .t x,q,h=>by simpa only[toT]using h
 | .row b o n z,q,h=>by
  simp only[toT]at h ⊢;split at h
  .rename_i ty cs hl;rw[hh b _ hl];exact h
  .cases h
 | .ag cs,q,h=>by
  simp only[toT]at h ⊢;obtain⟨a,ha,rfl⟩:=AR h;rw[OM hh cs ha];rfl
 | .tu cs,q,h=>by
  simp only[toT]at h ⊢;obtain⟨a,ha,rfl⟩:=AR h;rw[OM hh cs ha];rfl
 | .ptr _ _,q,h=>by simp[toT]at h
 | .fn _ _ _,q,h=>by simp[toT]at h
 | .ic _ _,q,h=>by simp[toT]at h
 | .mp _,q,h=>by simp[toT]at h
 | .dead,q,h=>by simp[toT]at h
theorem OM {H H':Ab} (hh:∀b r,Aa H b=some r->Aa H' b=some r):∀(ps:List PV) {q:List T×List Nat},Cx H ps=some q->Cx H' ps=some q
 | [],q,h=>by simpa only[Cx]using h
 | p::ps,q,h=>by
  simp only[Cx]at h ⊢;split at h
  .rename_i x F xs F' h1 h2;rw[lY hh p h1,OM hh ps h2];exact h
  .cases h
end
theorem lZ {H H':Ab} {nx nx':Nat} {k:MK} {ps:List PV} {q:PV×Ab×Nat} (hk:Gx k=true) (h:Ah Φ H nx k ps=some q):Ah Φ H' nx' k ps=some (q.1,H',nx'):=by
 cases k<;>(first | (simp only[Gx,A2,Xr]at hk;done) | skip)
 case slstr lo hi=>
  cases lo<;>cases hi<;>rcases ps with _ | ⟨a,_ | ⟨b,_ | ⟨c,_ | ⟨d,r⟩⟩⟩⟩<;>simp only[Ah]at h ⊢ <;>(first | (cases h;done) | (obtain⟨x,hx,rfl⟩:=AR h;rw[hx];rfl))
 case slice z lo hi=>
  cases lo<;>cases hi<;>rcases ps with _ | ⟨a,_ | ⟨b,_ | ⟨c,_ | ⟨d,r⟩⟩⟩⟩<;>simp only[Ah]at h ⊢ <;>(first | (cases h;done) | (obtain⟨x,hx,rfl⟩:=AR h;rw[hx];rfl))
 case bin isB op nk=>
  rcases ps with _ | ⟨a,_ | ⟨b,_ | ⟨c,r⟩⟩⟩<;>simp only[Ah]at h ⊢ <;>(first | (cases h;done) | skip);split at h
  .split at h
   .rename_i hb;injection h with h;subst h;simp only[hb]
   .rename_i hb;obtain⟨x,hx,rfl⟩:=AR h;simp only[hb,hx,Xl]
  .rename_i hne;obtain⟨x,hx,rfl⟩:=AR h;rw[hx];rfl
 case pick=>
  rcases ps with _ | ⟨a,_ | ⟨b,_ | ⟨c,_ | ⟨d,r⟩⟩⟩⟩<;>simp only[Ah]at h ⊢ <;>(first | (cases h;done) | skip);split at h
  .injection h with h;subst h;rfl
  .cases h
 case un op=>
  rcases ps with _ | ⟨a,_ | ⟨b,r⟩⟩<;>simp only[Ah]at h ⊢ <;>(first | (cases h;done) | skip);split at h
  .obtain⟨x,hx,rfl⟩:=AR h;rw[hx];rfl
  .cases h
 case tslice e n zc len idx=>simp only[Ah]at h ⊢;obtain⟨x,hx,rfl⟩:=AR h;rw[hx];rfl
 case build places zc idx=>simp only[Ah]at h ⊢;obtain⟨x,hx,rfl⟩:=AR h;rw[hx];rfl
 case barr n zc idx=>simp only[Ah]at h ⊢;obtain⟨x,hx,rfl⟩:=AR h;rw[hx];rfl
 case ex e=>simp only[Ah]at h ⊢;obtain⟨x,hx,rfl⟩:=AR h;rw[hx];rfl
 case mv=>
  rcases ps with _ | ⟨a,_ | ⟨b,r⟩⟩<;>simp only[Ah]at h ⊢ <;>(first | (cases h;done) | (injection h with h;subst h;rfl))
 all_goals
  rcases ps with _ | ⟨a,_ | ⟨b,_ | ⟨c,r⟩⟩⟩<;>simp only[Ah]at h ⊢ <;>(first | (cases h;done) | (obtain⟨x,hx,rfl⟩:=AR h;rw[hx];rfl))
theorem ON {H H':Ab} {nx nx':Nat} {k:MK} {ps:List PV} {v:PV} (hk:Gx k=true) (h:Bb Φ H nx k ps=some v):Bb Φ H' nx' k ps=some v:=by
 unfold Bb at h ⊢;split at h
 .rename_i hq;rw[zy hq];split at h
  .simp[Gx]at hk
  .obtain⟨q,hq',rfl⟩:=AR h;rw[lZ hk hq'];rfl
 .cases h
theorem L9 {H H':Ab} {nx nx':Nat} {k:MK} {ps:List PV} {v:PV} (hh:∀b r,Aa H b=some r->Aa H' b=some r) (h:Bb Φ H nx k ps=some v):Bb Φ H' nx' k ps=some v:=by
 by_cases hk:Gx k=true
 .exact ON hk h
 .cases k<;>(first | (exact absurd rfl hk) | skip)
  case load agg n=>
   unfold Bb at h ⊢;simp only[A2,if_true]at h ⊢;obtain⟨q,hq,rfl⟩:=AR h
   rcases ps with _ | ⟨p,_ | ⟨x,r⟩⟩<;>simp only[Ah]at hq ⊢ <;> try (cases hq;done)
   obtain⟨a,ha,rfl⟩:=AR hq
   have:Ao agg n H' p=some a:=by
    unfold Ao at ha ⊢;split at ha
    .exact ha
    .split at ha
     .rename_i hl;rw[hh _ _ hl];exact ha
     .cases ha
    .cases ha
   rw[this];rfl
  case call f=>
   unfold Bb at h ⊢;simp only[A2,if_true]at h ⊢;split at h
   .rename_i targs F hT;rw[OM hh ps hT];exact h
   .cases h
  all_goals (unfold Bb at h;simp[A2]at h)
variable {l : List Av} {π : List Nat} {pa k : Nat} {R : List (Nat × Nat)}
structure mA (ops:Array Oper) (q:List (Nat×Av)) (pa k:Nat) (R:List (Nat×Nat)):Prop where
 back:∀(i:Nat) o,ops[i]?=some o->∀e∈o.after.toList,Region.binds .any e=true->e.on<i
 pair:∀(p p':Nat) x y,p<p'->q[p]?=some x->q[p']?=some y->ES (Dm ops.toList []) pa k R p p' x y=true
 all:∀i,i<ops.size->∃(p:Nat) (m:Av),q[p]?=some (i,m)
 fits:pa+k<=q.length
 grp:∀(p:Nat) x,q[p]?=some x->pa<=p->p<pa+k->L7 x.2.k=true/\x.2.g=none
theorem UF {A:List Nat}:∀{q:List (Nat×Av)} {n:Nat},OG A pa k R n q=true->∀(p p':Nat) x y,p<p'->q[p]?=some x->q[p']?=some y->ES A pa k R (n+p) (n+p') x y=true
 | [],_,_,p,p',x,y,_,h,_=>by simp at h
 | a::q,n,hq,p,p',x,y,hlt,h,h'=>by
  simp only[OG,Xd]at hq
  cases p' with
  | zero=>omega
  | succ p'=>
   simp only[Yt]at h'
   cases p with
   | zero=>
    simp only[Xt,Xa.injEq]at h;subst h
    have:=Xh.1 hq.1 (y,n+1+p') (by
     rw[Yu]
     exact⟨by omega,by rw[show n+1+p'-(n+1)=p' by omega];exact h'⟩)
    rw[show n+(p'+1)=n+1+p' by omega];simpa using this
   | succ p=>
    have:=UF hq.2 p p' x y (by omega) (by simpa using h) h';rwa[show n+1+p=n+(p+1)by omega,show n+1+p'=n+(p'+1)by omega]at this
theorem QY (l:List Av):∀(π:List Nat) (p:Nat) x,(BD l π)[p]?=some x->l[x.1]?=some x.2:=by
 intro π p x h;have:=Xw h;unfold BD at this;obtain⟨i,_,hi⟩:=Xz.1 this;obtain⟨m,hm,rfl⟩:=AR hi;exact hm
theorem UG (hl:ops.size=l.length) (h:HO ops l π pa k R=true):mA ops (BD l π) pa k R/\(BD l π).length=l.length/\((BD l π).map Prod.fst).Nodup:=by
 unfold HO at h;simp only[Xd,decide_eq_true_eq,beq_iff_eq]at h;obtain⟨⟨⟨⟨⟨⟨h1,h2⟩,h3⟩,h4⟩,h5⟩,h6⟩,h7⟩:=h;refine⟨⟨λi o ho e he hb=>?_,λp p' x y hlt hx hy=>?_,λi hi=>?_,by omega,λp x hx hp hp'=>?_⟩,h2,?_⟩
 .have hq:(o,i)∈ops.toList.zipIdx:=by
   rw[X0];simpa using ho
  have:=Xh.1 (Xh.1 h1 _ hq) e he;simpa[hb]using this
 .have:=UF h5 p p' x y hlt hx hy;simpa using this
 .have hc:=Xh.1 h3 i (by simp;omega)
  have hmem:i∈π:=by simpa using hc
  have hil:i<l.length:=by omega
  have:(i,l[i])∈BD l π:=Xz.2 ⟨i,hmem,by rw[Xf hil];rfl⟩;obtain⟨p,hp⟩:=Yv this;exact⟨p,_,hp⟩
 .have hm:(((BD l π).drop pa).take k)[p-pa]?=some x:=by
   rw[List.getElem?_take,zy (by omega),Yw,show pa+(p-pa)=p by omega];exact hx
  have:=Xh.1 h7 x (Xw hm);simp only[Xd,Yx]at this;exact this
 .have:(BD l π).map Prod.fst=π.filter (λi=>(l[i]?).isSome):=by
   unfold BD;clear h1 h2 h3 h4 h5 h6 h7
   induction π with
   | nil=>rfl
   | cons i π ih=>
    simp only[X8,Yy]
    cases hi:l[i]? with
    | none=>simpa using ih
    | some m=>simpa using ih
  rw[this];exact h4.filter _
theorem mB {L L1:Loc} {H H1:Ab} {w:World} (src:Nat->Nat) (hok:Bx P G L H w) (hI:L1.I=L.I) (hnx:L.nx<=L1.nx) (hμ:∀b,b<L.nx->L1.μ b=L.μ b)
  (h1:∀b r,Aa H1 b=some r->b<L1.nx/\Aa H (src b)=some r/\L1.μ b=L.μ (src b)) (hinj:∀b b' r r',Aa H1 b=some r->Aa H1 b'=some r'->src b=src b'->b=b') :
  Bx P G L1 H1 w/\AO L w L1 w/\Ext L H w L1 H1 w:=by
 have hm:AO L w L1 w:=⟨λg hg=>⟨by rw[hI];exact hg,rfl⟩,hnx,hμ,Xe _,BT.refl w⟩
 refine⟨⟨λb hb=>hok.lt b (by rw[<-hI];exact hb),λb r hb=>?_,λb r hb=>?_,λb b' r r' hb hb' he=>?_,λb r hb=>(h1 b r hb).1,ER hok hm.keeps⟩,hm,?_⟩
 .obtain⟨_,h2,h3⟩:=h1 b r hb;rw[h3];exact(hok.rep _ r h2).keep hm rfl
 .obtain⟨_,h2,h3⟩:=h1 b r hb;rw[h3,hI];exact hok.apart _ r h2
 .obtain⟨_,h2,h3⟩:=h1 b r hb;obtain⟨_,h2',h3'⟩:=h1 b' r' hb';rw[h3,h3']at he;exact hinj b b' r r' hb hb' (hok.inj _ _ r r' h2 h2' he)
 .exact⟨Xe _,λ_ _ _=>rfl,λg hg=>by rw[hI];exact hg,λg hg=>.inl (by rw[hI]at hg;exact hg),λg ⟨b,r,hb,e⟩=>.inr ⟨_,r,(h1 b r hb).2.1,(h1 b r hb).2.2.symm.trans e⟩,BT.refl w,BL.refl w⟩
def gH (row:Nat->Row) (nx:Nat):List Nat->Ab->Ab
 | [],H=>H
 | d::D,H=>(nx+D.length,row d)::gH row nx D H
def ET:List Nat->Nat->Nat
 | [],_=>0
 | d::D,p=>if d=p then D.length else ET D p
theorem LA:∀{D:List Nat} {p:Nat},p∈D->ET D p<D.length
 | d::D,p,h=>by
  simp only[ET,Xx];split
  .omega
  .rename_i e;have:=LA (D:=D) (p:=p) (by simpa[Ne.symm e]using h);omega
theorem UH:∀{D:List Nat} {p p':Nat},p∈D->p'∈D->ET D p=ET D p'->p=p'
 | d::D,p,p',h,h',he=>by
  simp only[ET]at he;by_cases e:d=p
  .by_cases e':d=p'
   .exact e.symm.trans e'
   .rw[zy e,zz e']at he;have:=LA (D:=D) (p:=p') (by simpa[Ne.symm e']using h');omega
  .by_cases e':d=p'
   .rw[zz e,zy e']at he;have:=LA (D:=D) (p:=p) (by simpa[Ne.symm e]using h);omega
   .rw[zz e,zz e']at he;exact UH (by simpa[Ne.symm e]using h) (by simpa[Ne.symm e']using h') he
theorem QZ {row:Nat->Row} {nx:Nat} {H:Ab}:∀(D:List Nat) {b:Nat},b<nx->Aa (gH row nx D H) b=Aa H b
 | [],_,_=>rfl
 | d::D,b,h=>by
  simp only[gH,Aa];rw[zz (by omega)];exact QZ D h
theorem UI {row:Nat->Row} {nx:Nat} {H:Ab}:∀{D:List Nat} {p:Nat},p∈D->Aa (gH row nx D H) (nx+ET D p)=some (row p)
 | d::D,p,h=>by
  simp only[gH,Aa,ET];by_cases e:d=p
  .subst e;simp
  .have hp:p∈D:=by simpa[Ne.symm e]using h
   rw[zz e,zz (by have:=LA hp;omega)];exact UI hp
theorem mC {row:Nat->Row} {nx:Nat} {H:Ab} (hf:∀b r,Aa H b=some r->b<nx) (D:List Nat):∀b r,Aa H b=some r->Aa (gH row nx D H) b=some r:=λb r h=>by
 rw[QZ D (hf b r h)];exact h
theorem Ra:∀(k:Nat) {D:List Nat} {pa:Nat},D.Nodup->(∀p∈D,pa<=p/\p<pa+k)->D.length<=k
 | 0,D,pa,_,h=>by
  cases D with
  | nil=>simp
  | cons d D=>have:=h d (by simp);omega
 | k+1,D,pa,hn,h=>by
  by_cases hm:pa+k∈D
  .have h1:(D.erase (pa+k)).length<=k:=Ra k (pa:=pa) (hn.erase _) λp hp=>by
    have hp':=(hn.mem_erase_iff).1 hp;have:=h p hp'.2;have:=hp'.1;omega
   rw[List.length_erase_of_mem hm]at h1;omega
  .have:=Ra k (pa:=pa) hn (λp hp=>by
    have h1:=h p hp;have:p≠pa+k:=λe=>hm (e▸hp)
    exact⟨h1.1,by omega⟩)
   omega
theorem mD {H H':Ab} {n n':Nat} {κ:MK} {ps:List PV} {v:PV} (hk:L7 κ=true) (h:Ah Φ H n κ ps=some (v,H',n')) :
  ∃(row:Row) (gv:Nat->PV),v=gv n/\H'=(n,row)::H/\n'=n+1/\(∀H n,Ah Φ H n κ ps=some (gv n,(n,row)::H,n+1)) /\
   ∀(L:Loc) (w:World) (u:Value) (a b:Nat),b<L.nx->L.μ b=L.μ a->Ae P L w (gv a) u->Ae P L w (gv b) u:=by
 cases κ<;>simp only[L7]at hk<;>try (cases hk;done)
 case make e n0 by' zc=>
  rcases ps with _ | ⟨p,_ | ⟨x,_ | ⟨y,r⟩⟩⟩<;>simp only[Ah]at h<;>try (cases h;done)
  obtain⟨q,hs,e⟩:=AR h;injection e with e1 e2;injection e2 with e2 e3;subst e1;subst e2;subst e3;unfold Lw at hs;split at hs
  .split at hs
   .rename_i hb;injection hs with hs;subst hs;refine⟨_,λn=>.row n 0 _ _,rfl,rfl,rfl,λH n=>?_,λL w u a b hb hab hr=>?_⟩
    .simp only[Ah,Lw,zy hb,Xl]
    .simp only[Ae]at hr ⊢;rw[hab];exact⟨hb,hr.2⟩
   .cases hs
  .cases hs
 case alloc t zc=>
  rcases ps with _ | ⟨p,r⟩<;>simp only[Ah]at h<;>try (cases h;done)
  injection h with e;injection e with e1 e2;injection e2 with e2 e3;subst e1;subst e2;subst e3;refine⟨_,λn=>.ptr n 0,rfl,rfl,rfl,λH n=>by simp only[Ah],λL w u a b hb hab hr=>?_⟩;simp only[Ae]at hr ⊢;rw[hab];exact⟨hb,hr.2⟩
theorem MW {ms:List Av} {st:Nat->Ac} {vals:Nat->PV} {s:Ac} (h0:st 0=s) (hall:∀(p:Nat) m,ms[p]?=some m->(st (p+1)).env=((st p).put m.dst (vals p)).env):∀(p:Nat),p<=ms.length->∀k q,Aa (st p).env k=some q ->
  (∃j m,j<p/\ms[j]?=some m/\m.dst=some k/\q=vals j)\/((∀j m,j<p->ms[j]?=some m->m.dst≠some k)/\Aa s.env k=some q)
 | 0,_,k,q,h=>.inr ⟨λj m hj=>by omega,by rw[h0]at h;exact h⟩
 | p+1,hp,k,q,h=>by
  obtain⟨m,hm⟩:∃m,ms[p]?=some m:=⟨_,Xf (by omega)⟩
  rw[hall p m hm]at h;rcases Q7 h with⟨e,rfl⟩ | ⟨e,h'⟩
  .exact .inl ⟨p,m,by omega,hm,e,rfl⟩
  .rcases MW h0 hall p (by omega) k q h' with⟨j,mj,hj,hmj,hd,hq⟩ | ⟨hno,hs⟩
   .exact .inl ⟨j,mj,by omega,hmj,hd,hq⟩
   .refine .inr ⟨λj mj hj hmj=>?_,hs⟩;by_cases ej:j=p
    .subst ej;rw[hm]at hmj;injection hmj with hmj;subst hmj;exact e
    .exact hno j mj (by omega) hmj
structure LB (Φ:AC) (ms:List Av) (pa k:Nat) (R:List (Nat×Nat)) (s s2:Ac) (st:Nat->Ac) (vals:Nat->PV):Prop where
 start:st 0=s
 stop:st ms.length=s2
 norm:∀(p:Nat) m,ms[p]?=some m->(p<pa\/pa+k<=p)->Did Φ (st p) m (vals p) (st (p+1))
 grp:∀(p:Nat) m,ms[p]?=some m->pa<=p->p<pa+k->∃H' n',Ah Φ (st p).H ((st pa).nx+k+(p-pa)) m.k (m.xs.map (·.ev (st p).env))=some (vals p,H',n') /\
  st (p+1)=({ st p with H:=H',nx:=(st pa).nx+2*k }:Ac).put m.dst (vals p)
 again:∀(p p':Nat) m,(p,p')∈R->ms[p]?=some m->Bb Φ (st (p'+1)).H (st (p'+1)).nx m.k (m.xs.map (·.ev (st p).env))=some (vals p)
theorem LB.env {ms:List Av} {s s2:Ac} {st:Nat->Ac} {vals:Nat->PV} (h:LB Φ ms pa k R s s2 st vals) {p:Nat} {m:Av} (hm:ms[p]?=some m) :
  (st (p+1)).env=((st p).put m.dst (vals p)).env/\(st (p+1)).n=(st p).n:=by
 by_cases hp:p<pa\/pa+k<=p
 .exact OL (h.norm p m hm hp)
 .obtain⟨H',n',_,e⟩:=h.grp p m hm (by omega) (by omega);rw[e];refine⟨?_,by rw[F9]⟩;cases m.dst<;>rfl
structure UJ (P:Program) (G:Ay) (B:Nat) (q:List (Nat×Av)) (pa k:Nat) (row:Nat->Row) (gv:Nat->Nat->PV) (st:Nat->Ac) (vals:Nat->PV) (s:Ac) (L0:Loc) (w0:World) (S:Array Bool) (p0:Nat) (D:List Nat) (L:Loc) (a:Act) (w:World):Prop where
 le:p0<=q.length
 part:D≠[]->p0=pa/\∃p,pa<=p/\p<pa+k/\p∉D
 grp:∀p∈D,pa<=p/\p<pa+k
 nodup:D.Nodup
 out:p0<=pa\/pa+k<=p0
 done:∀(p:Nat) x,q[p]?=some x->A2 x.2.k=false->(S.getD x.1 false=true ↔ p<p0\/p∈D)
 heap:Bx P G L (gH row (st p0).nx D (st p0).H) w
 nx:L.nx=(st p0).nx+D.length
 base:B<=L.nx
 size:a.tmps.size=s.n
 defers:a.defers=[]
 vals:∀(p:Nat) x,q[p]?=some x->S.getD x.1 false=true->p∉D->∀k,x.2.dst=some k->Ae P L w (vals p) (a.tmps.getD k undef)
 gvals:∀(p:Nat) x,q[p]?=some x->p∈D->∀k,x.2.dst=some k->Ae P L w (gv p ((st p0).nx+ET D p)) (a.tmps.getD k undef)
 old:∀k u,(∀(p:Nat) x,q[p]?=some x->S.getD x.1 false=true->x.2.dst≠some k)->Aa s.env k=some u->Ae P L w u (a.tmps.getD k undef)
 ext:Ext L0 s.H w0 L (gH row (st p0).nx D (st p0).H) w
 μ:∀b,b<B->L.μ b=L0.μ b
theorem UK (hmix:P.follows .mixedOrders=true) (hΦ:Φ.Sound P G) {Q:Exit->Ac->Prop} {s s2:Ac} {st:Nat->Ac} {vals:Nat->PV} {id:Nat} (ha0:ops.toList.mapM (DX P G N true ops)=some l) (hd0:HO ops l π pa k R=true)
  (hn:s.n=N) (hrun:LB Φ ((BD l π).map Prod.snd) pa k R s s2 st vals) (hq:Q .normal s2):Cd P G B (.region id ops true) Q s:=by
 intro L0 a0 w0 hi0;have ha:=JU ha0
 have hlen:ops.size=l.length:=by have:=(ha.at_ 0).2;simpa using this
 obtain⟨hd,hql,hnodup⟩:=UG hlen hd0;have h0:=hrun.start;have hlast:=hrun.stop;simp only[Yz]at hlast;generalize hq':BD l π=q at *
 have hmem:∀(p:Nat) x,q[p]?=some x->l[x.1]?=some x.2:=by intro p x hx;rw[<-hq']at hx;exact QY l π p x hx
 have hms:∀(p:Nat) x,q[p]?=some x->(q.map Prod.snd)[p]?=some x.2:=by intro p x hx;simp[hx]
 have hall:∀(p:Nat) m,(q.map Prod.snd)[p]?=some m->(st (p+1)).env=((st p).put m.dst (vals p)).env:=λp m hm=>(hrun.env hm).1;have step:∀(p:Nat) x,q[p]?=some x->(p<pa\/pa+k<=p)->Did Φ (st p) x.2 (vals p) (st (p+1)):=λp x hx=>hrun.norm p x.2 (hms p x hx)
 have gkind:∀(p:Nat) x,q[p]?=some x->pa<=p->p<pa+k->A2 x.2.k=false/\Fm x.2.k=true:=by
  intro p x hx h1 h2;have:=(hd.grp p x hx h1 h2).1;revert this;cases x.2.k<;>simp[L7,A2,Fm]
 have grp0:∀p,∃(row:Row) (gv:Nat->PV),∀x,q[p]?=some x->pa<=p->p<pa+k->vals p=gv ((st pa).nx+k+(p-pa)) /\
   st (p+1)=({ st p with H:=((st pa).nx+k+(p-pa),row)::(st p).H,nx:=(st pa).nx+2*k }:Ac).put x.2.dst (vals p) /\
   (∀H n,Ah Φ H n x.2.k (x.2.xs.map (·.ev (st p).env))=some (gv n,(n,row)::H,n+1)) /\
   ∀(L:Loc) (w:World) (u:Value) (a b:Nat),b<L.nx->L.μ b=L.μ a->Ae P L w (gv a) u->Ae P L w (gv b) u:=by
  intro p;by_cases hp:∃x,q[p]?=some x/\pa<=p/\p<pa+k
  .obtain⟨x,hx,h1,h2⟩:=hp;obtain⟨H',n',he,hst⟩:=hrun.grp p x.2 (hms p x hx) h1 h2;obtain⟨row,gv,e1,e2,e3,e4,e5⟩:=mD (P:=P) (hd.grp p x hx h1 h2).1 he;refine⟨row,gv,λy hy _ _=>?_⟩;rw[hx]at hy;injection hy with hy;subst hy;exact⟨e1,by rw[hst,e2],e4,e5⟩
  .exact⟨default,λ_=>.dead,λx hx h1 h2=>absurd ⟨x,hx,h1,h2⟩ hp⟩
 have ⟨row,grp1⟩:=Classical.axiomOfChoice grp0;have ⟨gv,grp⟩:=Classical.axiomOfChoice grp1
 have uniq:∀(p p':Nat) x y,q[p]?=some x->q[p']?=some y->x.1=y.1->p=p':=by
  intro p p' x y hx hy e
  have h1:(q.map Prod.fst)[p]?=some x.1:=by simp[hx]
  have h2:(q.map Prod.fst)[p']?=some x.1:=by simp[hy,e]
  have hp:=(Xi.1 h1).1;exact(Y0 hp hnodup).1 (h1.trans h2.symm)
 have hfit:=hd.fits
 have gnx:∀j,pa+j+1<=pa+k->(st (pa+j+1)).nx=(st pa).nx+2*k:=by
  intro j hj;have hx:q[pa+j]?=some q[pa+j]:=Xf (by omega);rw[(grp (pa+j) _ hx (by omega) (by omega)).2.1,EP]
 have fresh:∀p,p<=q.length->GT (st p):=by
  intro p
  induction p with
  | zero=>intro _;rw[h0];exact λb r hb=>by have:=hi0.heap.nx b r hb;rw[hi0.nx]at this;exact this
  | succ p ih=>
   intro hp;have hx:q[p]?=some q[p]:=Xf (by omega);by_cases hg:p<pa\/pa+k<=p
   .exact(JX hΦ (step p _ hx hg) (ih (by omega))).1
   .rw[(grp p _ hx (by omega) (by omega)).2.1];unfold GT;rw[D9,EP];intro b r hb;simp only[Aa]at hb;show b<(st pa).nx+2*k;split at hb
    .omega
    .have h1:=ih (by omega) b r hb;by_cases e:p=pa
     .subst e;omega
     .have:=gnx (p-1-pa) (by omega);rw[show pa+(p-1-pa)+1=p by omega]at this;omega
 have flat:∀(a b:Nat),a<=b->b<=q.length->(∀(p:Nat) x,a<=p->p<b->q[p]?=some x->A2 x.2.k=true)->(st b).H=(st a).H/\(st b).nx=(st a).nx:=by
  intro a b hab
  induction b with
  | zero=>
   intro _ _
   have:a=0:=by omega
   subst this;exact⟨rfl,rfl⟩
  | succ b ih=>
   intro hb hno;by_cases e:a=b+1
   .subst e;exact⟨rfl,rfl⟩
   .have hx:q[b]?=some q[b]:=Xf (by omega);have hqb:=hno b _ (by omega) (by omega) hx
    have h1:=L8 (step b _ hx (by
     rcases Xk b pa with h | h
     .exact .inl h
     .rcases Xk b (pa+k)with h' | h'
      .have:=(gkind b _ hx h h').1;rw[hqb]at this;cases this
      .exact .inr h')) hqb
    have h2:=ih (by omega) (by omega) (λp x h1 h2 h3=>hno p x h1 (by omega) h3);exact⟨h1.1.trans h2.1,h1.2.trans h2.2⟩
 have nconst:∀p,p<=q.length->(st p).n=s.n:=by
  intro p
  induction p with
  | zero=>intro _;rw[h0]
  | succ p ih=>
   intro hp;have hx:q[p]?=some q[p]:=Xf (by omega);rw[(hrun.env (hms p _ hx)).2,ih (by omega)]
 have gafter:∀j,j<=k->∀b r,Aa (st (pa+j)).H b=some r->(b<(st pa).nx/\Aa (st pa).H b=some r)\/∃i,i<j/\b=(st pa).nx+k+i/\r=row (pa+i):=by
  intro j
  induction j with
  | zero=>intro _ b r hb;exact .inl ⟨fresh pa (by have:=hd.fits;omega) b r hb,hb⟩
  | succ j ih=>
   intro hj b r hb;have hx:q[pa+j]?=some q[pa+j]:=Xf (by omega);rw[show pa+(j+1)=pa+j+1 by omega,(grp (pa+j) _ hx (by omega) (by omega)).2.1,D9]at hb;simp only[Aa]at hb;split at hb
   .rename_i e;injection hb with hb;exact .inr ⟨j,by omega,by omega,hb.symm⟩
   .rcases ih (by omega) b r hb with h | ⟨i,hi,e1,e2⟩
    .exact .inl h
    .exact .inr ⟨i,by omega,e1,e2⟩
 refine wp_region_any hmix ?_
 have main:∀(fuel:Nat) (S:Array Bool) (p0:Nat) (D:List Nat) (L:Loc) (a:Act) (w:World),S.size=ops.size->HM ops S->ops.size<=cnt S+fuel ->
   UJ P G B q pa k row gv st vals s L0 w0 S p0 D L a w->wpAny P .any ops (BO P G B Q L0 s.H w0) fuel S a w:=by
  have full:∀(S:Array Bool) (p0:Nat) (D:List Nat) (L:Loc) (a:Act) (w:World),(∀i,i<ops.size->S.getD i false=true)->UJ P G B q pa k row gv st vals s L0 w0 S p0 D L a w->BO P G B Q L0 s.H w0 .normal a w:=by
   intro S p0 D L a w hS inv;have hxi:∀(p:Nat) x,q[p]?=some x->S.getD x.1 false=true:=λp x hx=>hS _ (by have:=(Xi.1 (hmem p x hx)).1;omega)
   have hD:D=[]:=by
    cases D with
    | nil=>rfl
    | cons d D=>
     obtain⟨e,p,h1,h2,h3⟩:=inv.part (by simp);have hx:q[p]?=some q[p]:=Xf (by omega);rcases (inv.done p _ hx (gkind p _ hx h1 h2).1).1 (hxi p _ hx)with h | h
     .omega
     .exact absurd h h3
   subst hD;have hheap:=inv.heap;have hnx:=inv.nx;have hext:=inv.ext;simp only[gH,Y1,Yb]at hheap hnx hext
   have hf:=flat p0 q.length inv.le (Xe _) (λp x h1 h2 h3=>by
    cases hk:A2 x.2.k with
    | true=>rfl
    | false=>
     rcases (inv.done p x h3 hk).1 (hxi p x h3)with h | h
     .omega
     .simp at h)
   refine⟨s2,L,hq,⟨?_,?_,inv.base,?_,inv.defers,λk u hl=>?_⟩,?_,inv.μ⟩
   .rw[<-hlast,hf.1];exact hheap
   .rw[<-hlast,hf.2];exact hnx
   .rw[<-hlast,nconst _ (Xe _)];exact inv.size
   .rw[<-hlast]at hl;rcases MW h0 hall q.length (by simp) k u hl with⟨j,m,hj,hmj,hdst,rfl⟩ | ⟨hno,hs⟩
    .have hx:q[j]?=some q[j]:=Xf hj
     have e:m=q[j].2:=by rw[hms j _ hx]at hmj;injection hmj with hmj;exact hmj.symm
     subst e;exact inv.vals j _ hx (hxi j _ hx) (by simp) k hdst
    .refine inv.old k u (λp x hx _=>hno p x.2 ?_ (hms p x hx)) hs;exact(Xi.1 hx).1
   .rw[<-hlast,hf.1];exact hext
  intro fuel
  induction fuel with
  | zero=>
   intro S p0 D L a w hs hS hc inv;have hall':=OK (S:=S) (by omega);refine⟨?_,full S p0 D L a w (λi hi=>hall' i (by omega)) inv⟩;rw[Y2];intro i hi;obtain⟨h1,h2,_⟩:=JW hi;rw[Gz (by omega),hall' i (by omega)]at h2;cases h2
  | succ fuel ih=>
   intro S p0 D L a w hs hS hc inv;refine⟨λhr=>?_,λi hi=>?_⟩
   .refine full S p0 D L a w (λi=>?_) inv
    induction i using Y3 with
    | _ i ihi=>
     intro hi
     cases hS':S.getD i false with
     | true=>rfl
     | false=>
      exfalso
      have:i∈Region.ready .any ops S:=OI (o:=ops[i]) (Xj hi) (by rw[Gz (by omega)];exact hS')
       (λe he hb=>by
        have:=hd.back i _ (Xj hi) e he hb
        exact ihi _ this (by omega))
      rw[hr]at this;cases this
   .obtain⟨hi1,hun,o,ho,hp⟩:=JW hi;rw[Gz (by omega)]at hun;obtain⟨p,mi,hx⟩:=hd.all i hi1;have hpl:p<q.length:=(Xi.1 hx).1;obtain⟨mi',hmi',hcomp⟩:=(ha.at_ i).1 o (by simpa using ho)
    have emi:mi'=mi:=by have:=hmem p _ hx;simp only at this;rw[this]at hmi';injection hmi' with h;exact h.symm
    subst emi;obtain⟨hcop,hdst,hdlt,hwants⟩:=JT hcomp;have bef:∀j,((Dm ops.toList []).getD i 0).testBit j=true->S.getD j false=true:=λj hb=>Ls hS ho hb hp
    have aft:∀j,j<ops.size->((Dm ops.toList []).getD j 0).testBit i=true->S.getD j false=false:=by
     intro j hj hb
     cases hSj:S.getD j false with
     | false=>rfl
     | true=>
      have hjo:ops[j]?=some ops[j]:=Xj hj;have:=Ls hS hjo hb (hS j _ hjo hSj);rw[this]at hun;cases hun
    have idx:∀(p':Nat) y,q[p']?=some y->y.1<ops.size:=λp' y hy=>by have:=(Xi.1 (hmem p' y hy)).1;omega
    have pD:p∉D:=λh=>by
     have hg:=inv.grp p h;have:=(inv.done p _ hx (gkind p _ hx hg.1 hg.2).1).2 (.inr h);simp only at this;rw[this]at hun;cases hun
    have hbefore:∀(p':Nat) y,p'<p->q[p']?=some y->A2 y.2.k=false->¬(pa<=p'/\p<pa+k)->S.getD y.1 false=true:=by
     intro p' y hlt hy hyk hng;refine bef _ ?_;have hok:=hd.pair p' p _ _ hlt hy hx;unfold ES at hok;simp only[Xd]at hok;have h1:=hok.1.1.1;rw[hyk]at h1;simp only[Y4,Xu,Xm,Xd,decide_eq_true_eq]at h1;rcases h1 with h1 | h1
     .exact h1
     .exact absurd h1 hng
    have nogrp:D≠[]->p<pa+k:=λhD=>by
     rcases Xk p (pa+k)with h | h
     .exact h
     .obtain⟨e,p',h1,h2,h3⟩:=inv.part hD;have hy:q[p']?=some q[p']:=Xf (by omega);have hyk:=(gkind p' _ hy h1 h2).1;rcases (inv.done p' _ hy hyk).1 (hbefore p' _ (by omega) hy hyk (by omega))with h | h
      .omega
      .exact absurd h h3
    have eye:∀k u,k∈mi'.eyes->Aa (st p).env k=some u->Ae P L w u (a.tmps.getD k undef):=by
     intro k' u hke hl;rcases MW h0 hall p (by simp;omega) k' u hl with⟨j,m,hj,hmj,hdj,rfl⟩ | ⟨hno,hs'⟩
     .have hy:q[j]?=some q[j]:=Xf (by omega)
      have e:m=q[j].2:=by rw[hms j _ hy]at hmj;injection hmj with hmj;exact hmj.symm
      subst e;have hok:=hd.pair j p _ _ hj hy hx;unfold ES at hok;simp only[Xd]at hok;have h2:=hok.1.1.2;rw[hdj]at h2;simp only[Xm,Xp,Xd]at h2;rcases h2 with h2 | ⟨h2,h3⟩
      .exact absurd hke (by simpa using h2)
      .refine inv.vals j _ hy (bef _ h2) (λhjD=>?_) k' hdj;have h4:=(inv.grp j hjD).1;have h5:=nogrp (Yc hjD);simp[h4,h5]at h3
     .refine inv.old k' u (λp' y hy hSy hdy=>?_) hs';rcases Y5 p' p with hlt | heq | hgt
      .exact hno p' y.2 hlt (hms p' y hy) hdy
      .subst heq;rw[hx]at hy;injection hy with hy;subst hy;simp only at hSy;rw[hSy]at hun;cases hun
      .have hok:=hd.pair p p' _ _ hgt hx hy;unfold ES at hok;simp only[Xd]at hok;have h3:=hok.1.2;rw[hdy]at h3;simp only[Xm,Xp]at h3;rcases h3 with h3 | h3
       .exact absurd hke (by simpa using h3)
       .have:=aft y.1 (idx p' y hy) h3;rw[this]at hSy;cases hSy
    have hS':HM ops (S.setIfInBounds i true):=by
     intro j oj hoj hj e he hb;rw[Do S i _ (by omega)]at hj ⊢;split
     .rfl
     .split at hj
      .rename_i e1;subst e1;rw[ho]at hoj;injection hoj with hoj;subst hoj;exact hp e he hb
      .exact hS j oj hoj hj e he hb
    have hc':ops.size<=cnt (S.setIfInBounds i true)+fuel:=by rw[OJ (by omega) hun];omega
    have dsts:∀(p':Nat) y k',q[p']?=some y->i≠y.1->y.2.dst=some k'->o.dst≠some k':=by
     intro p' y k' hy e hk;rw[<-hdst];intro hcon
     have epn:p≠p':=λep=>by subst ep;rw[hx]at hy;injection hy with hy;subst hy;exact e rfl
     rcases Y6 epn with hlt | hgt
     .have hok:=hd.pair p p' _ _ hlt hx hy;unfold ES at hok;simp only[Xd]at hok;have h4:=hok.2;rw[hcon]at h4;simp only[bne_iff_ne]at h4;exact h4 hk
     .have hok:=hd.pair p' p _ _ hgt hy hx;unfold ES at hok;simp only[Xd]at hok;have h4:=hok.2;rw[hk]at h4;simp only[bne_iff_ne]at h4;exact h4 hcon
    have next:∀(p1:Nat) (L':Loc) (w':World) (u:Value),p1<=q.length->(D≠[]->p1=p0)->(p1<=pa\/pa+k<=p1)->(st p1).nx=(st p1).nx ->
      (∀(p':Nat) y,q[p']?=some y->A2 y.2.k=false->((S.setIfInBounds i true).getD y.1 false=true ↔ p'<p1\/p'∈D)) ->
      Ae P L' w' (vals p) u->Bx P G L' (gH row (st p1).nx D (st p1).H) w'->L'.nx=(st p1).nx+D.length->AO L w L' w'->Ext L (gH row (st p0).nx D (st p0).H) w L' (gH row (st p1).nx D (st p1).H) w' ->
      wpAny P .any ops (BO P G B Q L0 s.H w0) fuel (S.setIfInBounds i true) (a.put o.dst u) w':=by
     intro p1 L' w' u hp1 hDp hout _ hdone hru hok' hnx' hm' hx';refine ih _ p1 D L' _ w' (by simpa using hs) hS' hc' ⟨hp1,λhD=>?_,inv.grp,inv.nodup,hout,hdone,hok',hnx',Xq inv.base hm'.nx,?_,?_,?_,?_,?_,inv.ext.trans hx',λb hb=>(hm'.μ b (X1 hb inv.base)).trans (inv.μ b hb)⟩
     .rw[hDp hD];exact inv.part hD
     .rw[<-inv.size];cases o.dst<;>simp[Act.put]
     .cases o.dst<;>simp[Act.put,inv.defers]
     .intro p' y hy hSy hpD k' hk;rw[FV];by_cases e:i=y.1
      .have ep:=uniq p p' _ _ hx hy e;subst ep;rw[hx]at hy;injection hy with hy;subst hy;rw[zy ⟨by rw[<-hdst];exact hk,by rw[inv.size,hn];exact hdlt k' (by rw[<-hdst];exact hk)⟩];exact hru
      .rw[Do S i _ (by omega),zz e]at hSy;rw[zz (λh=>dsts p' y k' hy e hk h.1)];exact Ae.keep hm' _ (inv.vals p' y hy hSy hpD k' hk)
     .intro p' y hy hpD k' hk;rw[FV]
      have e:i≠y.1:=λe=>by
       have ep:=uniq p p' _ _ hx hy e;subst ep;exact pD hpD
      rw[zz (λh=>dsts p' y k' hy e hk h.1),hDp (Yc hpD)];exact Ae.keep hm' _ (inv.gvals p' y hy hpD k' hk)
     .intro k' u' hno h0';rw[FV];have hk:=hno p _ hx (by rw[Do S i _ (by omega),zy rfl]);rw[zz (λh=>hk (by rw[hdst];exact h.1))];refine Ae.keep hm' u' (inv.old k' u' (λp' y hy hSy=>hno p' y hy ?_) h0');rw[Do S i _ (by omega)];split
      .rfl
      .exact hSy
    have keepdone:A2 mi'.k=true->∀(p':Nat) y,q[p']?=some y->A2 y.2.k=false->((S.setIfInBounds i true).getD y.1 false=true ↔ p'<p0\/p'∈D):=by
     intro hquiet p' y hy hyk;rw[Do S i _ (by omega)];by_cases e:i=y.1
     .have ep:=uniq p p' _ _ hx hy e;subst ep;rw[hx]at hy;injection hy with hy;subst hy;rw[hquiet]at hyk;cases hyk
     .rw[zz e];exact inv.done p' y hy hyk
    have hi':Interp P G B L ({ ((st p).only mi'.eyes)with H:=gH row (st p0).nx D (st p0).H,nx:=(st p0).nx+D.length }:Ac) a w:=by
     refine⟨inv.heap,inv.nx,inv.base,by show a.tmps.size=(st p).n;rw[nconst p (by omega)];exact inv.size,inv.defers,λk u hl=>?_⟩;have hl':Aa ((st p).only mi'.eyes).env k=some u:=hl;rw[Lz]at hl';split at hl'
     .rename_i hke;exact eye k u hke hl'
     .cases hl'
    have hww:({ ((st p).only mi'.eyes)with H:=gH row (st p0).nx D (st p0).H,nx:=(st p0).nx+D.length }:Ac).wants ops o=mi'.wants (st p).env:=by
     rw[hwants];exact QU (st p) mi' mi'.eyes (λ_ h=>h)
    have hev:mi'.xs.map (·.ev ({ ((st p).only mi'.eyes)with H:=gH row (st p0).nx D (st p0).H,nx:=(st p0).nx+D.length }:Ac).env)=mi'.xs.map (·.ev (st p).env):=QT (st p) mi' mi'.eyes (λ_ h=>h);unfold wpOp;rw[ho];simp only;by_cases hgp:pa<=p/\p<pa+k
    .
     have hk:=gkind p _ hx hgp.1 hgp.2;simp only at hk;obtain⟨gval,gst,gev,grep⟩:=grp p _ hx hgp.1 hgp.2;simp only at gval gst gev grep
     have hp0:p0<=pa:=by
      rcases inv.out with h | h
      .exact h
      .have:=(inv.done p _ hx hk.1).2 (.inl (by omega));simp only at this;rw[this]at hun;cases hun
     have hpa:=hd.fits
     have hf:=flat p0 pa hp0 (by omega) (λp' y h1 h2 h3=>by
      cases hyk:A2 y.2.k with
      | true=>rfl
      | false=>
       rcases (inv.done p' y h3 hyk).1 (hbefore p' y (by omega) h3 hyk (by omega))with h | h
       .omega
       .have:=inv.grp p' h;omega)
     have hwt:mi'.wants (st p).env=some true:=by
      have:=(hd.grp p _ hx hgp.1 hgp.2).2;simp only at this;simp[Av.wants,this]
     rw[zy (hi'.wants (hww.trans hwt))];have hek':=gev (gH row (st p0).nx D (st p0).H) ((st p0).nx+D.length);rw[<-hev]at hek';have haop:=GQ (B:=B) hΦ hcop hek' L a w hi';refine .inl (EO ?_ (λ_ _ _ h=>h.elim) haop);rintro a' w' ⟨u,L',rfl,hru,hok',hnx',hm',hx'⟩;have hnodup':(p::D).Nodup:=List.nodup_cons.2 ⟨pD,inv.nodup⟩
     have hgrp':∀p'∈p::D,pa<=p'/\p'<pa+k:=by
      intro p' h;rcases Y7.1 h with rfl | h
      .exact hgp
      .exact inv.grp p' h
     have hdone':∀(p':Nat) y,q[p']?=some y->A2 y.2.k=false->((S.setIfInBounds i true).getD y.1 false=true ↔ p'<p0\/p'∈p::D):=by
      intro p' y hy hyk;rw[Do S i _ (by omega)];by_cases e:i=y.1
      .have ep:=uniq p p' _ _ hx hy e;subst ep;simp[e]
      .rw[zz e,inv.done p' y hy hyk,Y7]
       have:p'≠p:=λep=>by subst ep;rw[hx]at hy;injection hy with hy;subst hy;exact e rfl
       simp[this]
     have hvals':∀(p':Nat) y,q[p']?=some y->(S.setIfInBounds i true).getD y.1 false=true->p'∉p::D->∀k',y.2.dst=some k'->Ae P L' w' (vals p') ((a.put o.dst u).tmps.getD k' undef):=by
      intro p' y hy hSy hpD k' hk;rw[FV]
      have e:i≠y.1:=λe=>by
       have ep:=uniq p p' _ _ hx hy e;subst ep;exact hpD (by simp)
      rw[Do S i _ (by omega),zz e]at hSy;rw[zz (λh=>dsts p' y k' hy e hk h.1)];exact Ae.keep hm' _ (inv.vals p' y hy hSy (λh=>hpD (by simp[h])) k' hk)
     have hgvals':∀(p':Nat) y,q[p']?=some y->p'∈p::D->∀k',y.2.dst=some k'->Ae P L' w' (gv p' ((st p0).nx+ET (p::D) p')) ((a.put o.dst u).tmps.getD k' undef):=by
      intro p' y hy hpD k' hk;rw[FV];by_cases ep:p=p'
      .subst ep;rw[hx]at hy;injection hy with hy;subst hy;rw[zy ⟨by rw[<-hdst];exact hk,by rw[inv.size,hn];exact hdlt k' (by rw[<-hdst];exact hk)⟩];simpa[ET]using hru
      .have e:i≠y.1:=λe=>ep (uniq p p' _ _ hx hy e)
       have hpD':p'∈D:=by simpa[Ne.symm ep]using hpD
       rw[zz (λh=>dsts p' y k' hy e hk h.1)];simp only[ET,zz ep];exact Ae.keep hm' _ (inv.gvals p' y hy hpD' k' hk)
     have hold':∀k' u',(∀(p':Nat) y,q[p']?=some y->(S.setIfInBounds i true).getD y.1 false=true->y.2.dst≠some k')->Aa s.env k'=some u'->Ae P L' w' u' ((a.put o.dst u).tmps.getD k' undef):=by
      intro k' u' hno h0';rw[FV];have hk:=hno p _ hx (by rw[Do S i _ (by omega),zy rfl]);rw[zz (λh=>hk (by rw[hdst];exact h.1))];refine Ae.keep hm' u' (inv.old k' u' (λp' y hy hSy=>hno p' y hy ?_) h0');rw[Do S i _ (by omega)];split
      .rfl
      .exact hSy
     have hsz:(a.put o.dst u).tmps.size=s.n:=by rw[<-inv.size];cases o.dst<;>simp[Act.put]
     have hdf:(a.put o.dst u).defers=[]:=by cases o.dst<;>simp[Act.put,inv.defers]
     have hxt:=inv.ext.trans hx';have hμ':∀b,b<B->L'.μ b=L0.μ b:=λb hb=>(hm'.μ b (X1 hb inv.base)).trans (inv.μ b hb);have hDk:(p::D).length<=k:=Ra k hnodup' hgrp';simp only[Xx]at hDk;by_cases hmiss:∃p',pa<=p'/\p'<pa+k/\p'∉p::D
     .
      refine ih _ pa (p::D) L' _ w' (by simpa using hs) hS' hc' ⟨by omega,λ_=>⟨rfl,hmiss⟩,hgrp',hnodup',.inl (Xe _),?_,?_,?_,Xq inv.base hm'.nx,hsz,hdf,hvals',?_,hold',?_,hμ'⟩
      .intro p' y hy hyk;rw[hdone' p' y hy hyk];constructor
       .rintro(h | h)
        .exact .inl (by omega)
        .exact .inr h
       .rintro(h | h)
        .refine(inv.done p' y hy hyk).1 (hbefore p' y (by omega) hy hyk (by omega)) |>.imp (λh=>h) (λh'=>by simp[h'])
        .exact .inr h
      .rw[hf.1,hf.2];exact hok'
      .rw[hf.2,Xx];omega
      .rw[hf.2];exact hgvals'
      .rw[hf.1,hf.2];exact hxt
     .
      have hmem':∀j,j<k->pa+j∈p::D:=λj hj=>Classical.byContradiction λh=>hmiss ⟨pa+j,by omega,by omega,h⟩;have nx0:(st p0).nx=(st pa).nx:=hf.2.symm
      have hkpos:0<k:=by omega
      have hend:=gnx (k-1) (by omega);rw[show pa+(k-1)+1=pa+k by omega]at hend
      have hgk:∀j,j<k->ET (p::D) (pa+j)<k:=λj hj=>by have:=LA (hmem' j hj);simp only[Xx]at this;omega
      obtain⟨hok1,hm1,hx1⟩:=mB (L1:={ I:=L'.I,μ:=λb=>if(st pa).nx+k<=b then L'.μ ((st pa).nx+ET (p::D) (pa+(b-((st pa).nx+k))))else L'.μ b,nx:=(st pa).nx+2*k }) (H1:=(st (pa+k)).H)
       (λb=>if(st pa).nx+k<=b then(st pa).nx+ET (p::D) (pa+(b-((st pa).nx+k)))else b) hok' rfl (by rw[hnx',nx0];simp only;omega) (λb hb=>by
        rw[hnx',nx0]at hb;simp only
        rw[zz (by omega)]) (λb r hb=>by
        rcases gafter k (Xe _) b r hb with⟨h1,h2⟩ | ⟨j,hj,rfl,rfl⟩
        .refine⟨by simp only;omega,?_,?_⟩
         .rw[zz (by omega)];have:=QZ (row:=row) (nx:=(st p0).nx) (H:=(st p0).H) (p::D) (b:=b) (by omega);simp only[gH]at this;rw[this,<-hf.1];exact h2
         .simp only;rw[zz (by omega),zz (by omega)]
        .refine⟨by simp only;omega,?_,?_⟩
         .rw[zy (by omega),show(st pa).nx+k+j-((st pa).nx+k)=j by omega];have:=UI (row:=row) (nx:=(st p0).nx) (H:=(st p0).H) (hmem' j hj);simp only[gH]at this;rw[nx0]at this;rw[nx0];exact this
         .simp only;rw[zy (by omega),zy (by omega)]) (λb b' r r' hb hb' he=>by
        rcases gafter k (Xe _) b r hb with⟨h1,h2⟩ | ⟨j,hj,rfl,rfl⟩<;>rcases gafter k (Xe _) b' r' hb' with⟨h1',h2'⟩ | ⟨j',hj',rfl,rfl⟩
        .rw[zz (by omega),zz (by omega)]at he;exact he
        .rw[zz (by omega),zy (by omega)]at he;omega
        .rw[zy (by omega),zz (by omega)]at he;omega
        .rw[zy (by omega),zy (by omega),show(st pa).nx+k+j-((st pa).nx+k)=j by omega,show(st pa).nx+k+j'-((st pa).nx+k)=j' by omega]at he;have:=UH (hmem' j hj) (hmem' j' hj') (by omega)
         omega)
      refine ih _ (pa+k) [] _ _ w' (by simpa using hs) hS' hc' ⟨by omega,λh=>absurd rfl h,by simp,Y8,.inr (Xe _),?_,by simp only[gH];exact hok1,by simp only[Y1,Yb];exact hend.symm,Xq inv.base (Xq hm'.nx hm1.nx),hsz,hdf,?_,by simp,λk' u' h1 h2=>Ae.keep hm1 _ (hold' k' u' h1 h2),by simp only[gH];exact hxt.trans hx1,λb hb=>(hm1.μ b (X1 hb (Xq inv.base hm'.nx))).trans (hμ' b hb)⟩
      .intro p' y hy hyk;rw[hdone' p' y hy hyk];constructor
       .rintro(h | h)
        .exact .inl (by omega)
        .exact .inl (hgrp' p' h).2
       .rintro(h | h)
        .rcases Xk p' pa with h1 | h1
         .refine(inv.done p' y hy hyk).1 (hbefore p' y (by omega) hy hyk (by omega)) |>.imp (λh=>h) (λh'=>by simp[h'])
         .have:=hmem' (p'-pa) (by omega);rw[show pa+(p'-pa)=p' by omega]at this;exact .inr this
        .simp at h
      .intro p' y hy hSy _ k' hk';by_cases hpD:p'∈p::D
       .have hg:=hgrp' p' hpD;have h1:=Ae.keep hm1 _ (hgvals' p' y hy hpD k' hk');obtain⟨e1,_,_,e4⟩:=grp p' y hy hg.1 hg.2;rw[e1];refine e4 _ _ _ _ _ (by simp only;omega) ?_ h1;simp only;have:=LA hpD;simp only[Xx]at this;rw[zy (by omega),show(st pa).nx+k+(p'-pa)-((st pa).nx+k)=p'-pa by omega,show pa+(p'-pa)=p' by omega,nx0,zz (by omega)]
       .exact Ae.keep hm1 _ (hvals' p' y hy hSy hpD k' hk')
    .have hng:p<pa\/pa+k<=p:=by omega
     have hbefore':∀(p':Nat) y,p'<p->q[p']?=some y->A2 y.2.k=false->p'<p0:=by
      intro p' y hlt hy hyk;rcases (inv.done p' y hy hyk).1 (hbefore p' y hlt hy hyk (by omega))with h | h
      .exact h
      .have h1:=inv.grp p' h;have h2:=nogrp (Yc h);omega
     have hdid:=step p _ hx hng;simp only at hdid;rcases hdid with⟨hquiet,hval,hst⟩ | ⟨hheavy,hwf,hv,hst⟩ | ⟨hheavy,hwt,H',nx',hek,hst⟩
     .unfold HN at hval;split at hval
      .rename_i hwt;rw[zy (hi'.wants (hww.trans hwt))]
       have hval0:Bb Φ (st p0).H (st p0).nx mi'.k (mi'.xs.map (·.ev (st p).env))=some (vals p):=by
        by_cases hpp:p0<=p
        .have hf:=flat p0 p hpp (by omega) (λp' y h1 h2 h3=>by
          cases hyk:A2 y.2.k with
          | true=>rfl
          | false=>have:=hbefore' p' y h2 h3 hyk;omega)
         rw[<-hf.1,<-hf.2];exact hval
        .have walk:∀p1,p<=p1->p1<=p0->Bb Φ (st p1).H (st p1).nx mi'.k (mi'.xs.map (·.ev (st p).env))=some (vals p):=by
          intro p1
          induction p1 with
          | zero=>
           intro h _
           have:p=0:=by omega
           subst this;exact hval
          | succ p1 ihp=>
           intro h1 h2;by_cases e:p=p1+1
           .subst e;exact hval
           .have hv1:=ihp (by omega) (by omega);have hle:=inv.le;have hy:q[p1]?=some q[p1]:=Xf (by have:=inv.le;omega);by_cases hgy:pa<=p1/\p1<pa+k
            .refine L9 (λb r hb=>?_) hv1;rw[(grp p1 _ hy hgy.1 hgy.2).2.1,D9];simp only[Aa];have hfr:=fresh p1 (by have:=inv.le;omega) b r hb;by_cases e1:p1=pa
             .subst e1;rw[zz (by omega)];exact hb
             .rcases gafter (p1-pa) (by omega) b r (by rw[show pa+(p1-pa)=p1 by omega];exact hb)with⟨h3,_⟩ | ⟨i3,h3,h4,_⟩
              .rw[zz (by omega)];exact hb
              .rw[zz (by omega)];exact hb
            .have hdy:=step p1 _ hy (by omega)
             cases hyk:A2 (q[p1]).2.k with
             | true=>
              have:=L8 hdy hyk;rw[this.1,this.2];exact hv1
             | false=>
              by_cases hind:Gx mi'.k=true
              .exact ON hind hv1
              .have hlt:p<p1:=by
                rcases Xk p p1 with h | h
                .exact h
                .have:p1=p:=by omega
                 subst this;rw[hx]at hy;injection hy with hy;rw[<-hy]at hyk;simp only at hyk;rw[hquiet]at hyk;cases hyk
               have hSy:=(inv.done p1 _ hy hyk).2 (.inl (by omega));have hok:=hd.pair p p1 _ _ hlt hx hy;unfold ES at hok;simp only[Xd]at hok;have h1':=hok.1.1.1;simp only[hquiet,hyk,Ya,Xu,Xm,Xd,decide_eq_true_eq]at h1';rcases h1' with(((h | h) | h) | h) | h
               .exact absurd h hind
               .exact L9 ((JX hΦ hdy (fresh p1 (by have:=inv.le;omega))).2 (.inl h)) hv1
               .exact hrun.again p p1 mi' (by simpa using h) (hms p _ hx)
               .have:=aft _ (idx p1 _ hy) h;rw[this]at hSy;cases hSy
               .omega
         exact walk p0 (by omega) (Xe _)
       have hval':Bb Φ (gH row (st p0).nx D (st p0).H) ((st p0).nx+D.length) mi'.k (mi'.xs.map (·.ev (st p).env))=some (vals p):=
        L9 (mC (fresh p0 inv.le) D) hval0
       have hek':Ah Φ ({ ((st p).only mi'.eyes)with H:=gH row (st p0).nx D (st p0).H,nx:=(st p0).nx+D.length }:Ac).H ({ ((st p).only mi'.eyes)with H:=gH row (st p0).nx D (st p0).H,nx:=(st p0).nx+D.length }:Ac).nx mi'.k (mi'.xs.map (·.ev ({ ((st p).only mi'.eyes)with H:=gH row (st p0).nx D (st p0).H,nx:=(st p0).nx+D.length }:Ac).env))=some (vals p,gH row (st p0).nx D (st p0).H,(st p0).nx+D.length):=by
        rw[hev];exact QS hval'
       have haop:=GQ (B:=B) hΦ hcop hek' L a w hi';refine .inl (EO ?_ (λ_ _ _ h=>h.elim) haop);rintro a' w' ⟨u,L',rfl,hru,hok',hnx',hm',hx'⟩
       exact next p0 L' w' u inv.le (λ_=>rfl) inv.out rfl (keepdone hquiet) hru hok' hnx' hm' hx'
      .rename_i hwf;rw[zz (by rw[hi'.wants (hww.trans hwf)];simp)];injection hval with hval
       exact next p0 L w undef inv.le (λ_=>rfl) inv.out rfl (keepdone hquiet) (by rw[<-hval];simp only[Ae,An]) inv.heap inv.nx (AO.refl _ _) (Ext.refl _ _ _)
      .cases hval
     all_goals
      have hp0p:p0<=p:=by
       rcases Xk p p0 with h | h
       .have:=(inv.done p _ hx hheavy).2 (.inl h);simp only at this;rw[this]at hun;cases hun
       .exact h
      have hD:D=[]:=by
       cases hD:D with
       | nil=>rfl
       | cons d D'=>
        exfalso
        have hne:D≠[]:=by rw[hD];simp
        have h1:=nogrp hne;have h2:=(inv.part hne).1;omega
      subst hD
      have hf:=flat p0 p hp0p (by omega) (λp' y h1 h2 h3=>by
       cases hyk:A2 y.2.k with
       | true=>rfl
       | false=>have:=hbefore' p' y h2 h3 hyk;omega)
      have hdone':∀(p':Nat) y,q[p']?=some y->A2 y.2.k=false->((S.setIfInBounds i true).getD y.1 false=true ↔ p'<p+1\/p'∈([]:List Nat)):=by
       intro p' y hy hyk;rw[Do S i _ (by omega)];by_cases e:i=y.1
       .have ep:=uniq p p' _ _ hx hy e;subst ep;simp[e]
       .rw[zz e,inv.done p' y hy hyk];simp only[List.not_mem_nil,or_false];constructor
        .intro h;omega
        .intro h
         have:p'≠p:=λep=>by subst ep;rw[hx]at hy;injection hy with hy;subst hy;exact e rfl
         exact hbefore' p' y (by omega) hy hyk
      have hout:p+1<=pa\/pa+k<=p+1:=by omega
     .rw[zz (by rw[hi'.wants (hww.trans hwf)];simp)]
      have e1:(st (p+1)).H=(st p0).H:=by rw[hst,D9,hf.1]
      have e2:(st (p+1)).nx=(st p0).nx:=by rw[hst,EP,hf.2]
      refine next (p+1) L w undef (by omega) (λh=>absurd rfl h) hout rfl hdone' (by rw[hv];simp only[Ae,An]) (by rw[e1];exact inv.heap) (by rw[e2];exact inv.nx) (AO.refl _ _) (by rw[e1];exact Ext.refl _ _ _)
     .rw[zy (hi'.wants (hww.trans hwt))]
      have hek':Ah Φ ({ ((st p).only mi'.eyes)with H:=gH row (st p0).nx [] (st p0).H,nx:=(st p0).nx+([]:List Nat).length }:Ac).H ({ ((st p).only mi'.eyes)with H:=gH row (st p0).nx [] (st p0).H,nx:=(st p0).nx+([]:List Nat).length }:Ac).nx mi'.k (mi'.xs.map (·.ev ({ ((st p).only mi'.eyes)with H:=gH row (st p0).nx [] (st p0).H,nx:=(st p0).nx+([]:List Nat).length }:Ac).env))=some (vals p,H',nx'):=by
       rw[hev];show Ah Φ (st p0).H (st p0).nx mi'.k _=_;rw[<-hf.1,<-hf.2];exact hek
      have haop:=GQ (B:=B) hΦ hcop hek' L a w hi';refine .inl (EO ?_ (λ_ _ _ h=>h.elim) haop);rintro a' w' ⟨u,L',rfl,hru,hok',hnx',hm',hx'⟩
      have e1:(st (p+1)).H=H':=by rw[hst,D9]
      have e2:(st (p+1)).nx=nx':=by rw[hst,EP]
      exact next (p+1) L' w' u (by omega) (λh=>absurd rfl h) hout rfl hdone' hru (by simp only[gH];rw[e1];exact hok') (by rw[e2];exact hnx') hm' (by simp only[gH];rw[e1];exact hx')
 obtain⟨hok,hm,hx⟩:=hi0.heap.of_heap (w':={ w0 with drawn:=w0.drawn+1 }) ⟨rfl,rfl,rfl⟩ rfl
 have hfalse:∀i,(X2 ops.size false).getD i false=false:=by
  intro i;simp only[Xo,Y9];split<;>rfl
 refine main ops.size _ 0 [] L0 a0 _ (by simp) ?_ (by omega) ⟨X3 _,λh=>absurd rfl h,by simp,Y8,.inl (X3 _),?_,by simp only[gH];rw[h0];exact hok,by rw[h0];exact hi0.nx,hi0.base,hi0.size,hi0.defers,?_,by simp,?_,by simp only[gH];rw[h0];exact hx,λ_ _=>rfl⟩
 .intro i o _ h;rw[hfalse]at h;cases h
 .intro p x _ _;rw[hfalse];simp
 .intro p x _ h;rw[hfalse]at h;cases h
 .intro k u _ hu;exact Ae.keep hm u (hi0.env k u hu)
theorem mE {s:Ac} {m:Av} {v:PV} {H':Ab} {nx':Nat} (h:FZ Φ s m=some (v,H',nx')):Did Φ s m v (({ s with H:=H',nx:=nx' }:Ac).put m.dst v):=by
 unfold FZ at h;split at h
 .rename_i hq;obtain⟨u,hu,e⟩:=AR h;injection e with e1 e2;injection e2 with e2 e3;subst e1;subst e2;subst e3;exact .inl ⟨hq,hu,rfl⟩
 .rename_i hq
  have hq:A2 m.k=false:=by simpa using hq
  split at h
  .rename_i hw;exact .inr (.inr ⟨hq,hw,H',nx',h,rfl⟩)
  .rename_i hw;injection h with e;injection e with e1 e2;injection e2 with e2 e3;subst e1;subst e2;subst e3;exact .inr (.inl ⟨hq,hw,rfl,rfl⟩)
  .cases h
def UL (Φ:AC) (k n:Nat):GI->Ac->Nat->Ew->PV->Ac->Nat->Ew->Prop
 | .o m kp ag,s,b,pd,v,s',b',pd'=>Did Φ s m v s'/\b'=b/\pd'=Ga kp n m s v pd/\OH Φ pd s'.H s'.nx ag
 | .g j m,s,b,pd,v,s',b',pd'=>b'=(if j=0 then s.nx else b)/\pd'=pd/\∃H' n',Ah Φ s.H (b'+k+j) m.k (m.xs.map (·.ev s.env))=some (v,H',n')/\s'=({ s with H:=H',nx:=b'+2*k }:Ac).put m.dst v
theorem UM:∀(l:List GI) {n b:Nat} {pd:Ew} {s s':Ac},Ex Φ k n b pd l s=some s'->∃(st:Nat->Ac) (vals:Nat->PV) (bs:Nat->Nat) (pds:Nat->Ew),st 0=s/\bs 0=b/\pds 0=pd/\st l.length=s' /\
  ∀(p:Nat) x,l[p]?=some x->UL Φ k (n+p) x (st p) (bs p) (pds p) (vals p) (st (p+1)) (bs (p+1)) (pds (p+1))
 | [],n,b,pd,s,s',h=>by
  simp only[Ex,Xa.injEq]at h;exact⟨λ_=>s,λ_=>.dead,λ_=>b,λ_=>pd,rfl,rfl,rfl,h,by simp⟩
 | y::r,n,b,pd,s,s',h=>by
  have key:∃v s1 b1 pd1,UL Φ k n y s b pd v s1 b1 pd1/\Ex Φ k (n+1) b1 pd1 r s1=some s':=by
   cases y with
   | o m kp ag=>
    simp only[Ex]at h;split at h
    .rename_i v H' nx' hv;split at h
     .rename_i hag;refine⟨v,_,b,_,⟨mE hv,rfl,rfl,?_⟩,h⟩;rw[D9,EP];exact hag
     .cases h
    .cases h
   | g j m=>
    simp only[Ex]at h;split at h
    .rename_i v H' n' hv;exact⟨v,_,_,pd,⟨rfl,rfl,H',n',hv,rfl⟩,h⟩
    .cases h
  obtain⟨v,s1,b1,pd1,hstep,hr⟩:=key;obtain⟨st,vals,bs,pds,e1,e2,e3,e4,hall⟩:=UM r hr;refine⟨λp=>match p with | 0=>s | p+1=>st p,λp=>match p with | 0=>v | p+1=>vals p,λp=>match p with | 0=>b | p+1=>bs p,λp=>match p with | 0=>pd | p+1=>pds p,rfl,rfl,rfl,by simpa using e4,λp x hp=>?_⟩
  cases p with
  | zero=>
   simp only[Xt,Xa.injEq]at hp;subst hp;simp only[Yb];rw[e1,e2,e3];exact hstep
  | succ p=>
   have:=hall p x (by simpa using hp);rw[show n+1+p=n+(p+1)by omega]at this;exact this
theorem Rc {l:List GI} {s s2:Ac} (h:Ex Φ k 0 0 [] l s=some s2) (hsh:GS pa k R l=true):∃st vals,LB Φ (l.map GI.mini) pa k R s s2 st vals:=by
 obtain⟨st,vals,bs,pds,e1,e2,e3,e4,hall⟩:=UM l h;simp only[Nat.zero_add]at hall;unfold GS at hsh;simp only[Xd]at hsh
 have shape:∀(p:Nat) x,l[p]?=some x->match x with
   | .o _ _ _=>p<pa\/pa+k<=p
   | .g j _=>pa<=p/\p<pa+k/\p=pa+j:=by
  intro p x hx;have:=Xh.1 hsh.1 (x,p) (by rw[X0];exact hx)
  cases x with
  | o m kp ag=>simpa using this
  | g j m=>simpa[and_assoc]using this
 have item:∀(p:Nat) m,(l.map GI.mini)[p]?=some m->∃x,l[p]?=some x/\x.mini=m:=by
  intro p m hm;rw[Yd]at hm;obtain⟨x,hx,e⟩:=AR hm;exact⟨x,hx,e⟩
 have base:∀j,pa+j+1<=l.length->j<k->bs (pa+j+1)=(st pa).nx:=by
  intro j
  induction j with
  | zero=>
   intro hl hk;have hx:l[pa]?=some l[pa]:=Xf (by omega);have hs:=shape pa _ hx;have hst:=hall pa _ hx
   cases hy:l[pa]with
   | o m kp ag=>rw[hy]at hs;simp only at hs;omega
   | g j m=>
    rw[hy]at hs hst;simp only at hs
    have:j=0:=by omega
    subst this;exact hst.1
  | succ j ih=>
   intro hl hk;have hx:l[pa+(j+1)]?=some l[pa+(j+1)]:=Xf (by omega);have hs:=shape _ _ hx;have hst:=hall _ _ hx
   cases hy:l[pa+(j+1)]with
   | o m kp ag=>rw[hy]at hs;simp only at hs;omega
   | g i m=>
    rw[hy]at hs hst;simp only at hs
    have:i=j+1:=by omega
    subst this;have h1:=hst.1;simp only[Nat.add_eq_zero_iff,Nat.succ_ne_self,and_false,if_false]at h1;rw[h1];exact ih (by omega) (by omega)
 have kept:∀(p:Nat),p<=l.length->∀i x,Aa (pds p) i=some x->∃y:GI,l[i]?=some y/\x=(y.mini.k,y.mini.xs.map (·.ev (st i).env),vals i):=by
  intro p
  induction p with
  | zero=>intro _ i x hx;rw[e3]at hx;simp[Aa]at hx
  | succ p ih=>
   intro hp i x hx;have hy:l[p]?=some l[p]:=Xf (by omega);have hst:=hall p _ hy
   cases hg:l[p]with
   | o m kp ag=>
    rw[hg]at hst;rw[hst.2.2.1]at hx;unfold Ga at hx;split at hx
    .simp only[Aa]at hx;split at hx
     .rename_i e;subst e;injection hx with hx;exact⟨_,hy,by rw[hg,<-hx];rfl⟩
     .exact ih (by omega) i x hx
    .exact ih (by omega) i x hx
   | g j m=>
    rw[hg]at hst;rw[hst.2.1]at hx;exact ih (by omega) i x hx
 refine⟨st,vals,e1,by simpa using e4,λp m hm hp=>?_,λp m hm h1 h2=>?_,λp p' m hR hm=>?_⟩
 .obtain⟨x,hx,rfl⟩:=item p m hm;have hs:=shape p x hx;have hst:=hall p x hx
  cases x with
  | o m kp ag=>exact hst.1
  | g j m=>simp only at hs;omega
 .obtain⟨x,hx,rfl⟩:=item p m hm;have hs:=shape p x hx;have hst:=hall p x hx
  cases x with
  | o m kp ag=>simp only at hs;omega
  | g j m=>
   simp only at hs;obtain⟨hb,_,H',n',he,hst'⟩:=hst
   have hbp:bs (p+1)=(st pa).nx:=by
    have:=base (p-pa) (by have:=(Xi.1 hx).1;omega) (by omega);rwa[show pa+(p-pa)+1=p+1 by omega]at this
   rw[hbp]at he hst';rw[show p-pa=j by omega];exact⟨H',n',he,hst'⟩
 .have:=Xh.1 hsh.2 (p,p') hR;simp only at this;split at this
  .rename_i m' kp ag hx';have hst:=hall p' _ hx';obtain⟨x,hx,he⟩:=hst.2.2.2 p (by simpa using this);obtain⟨y,hy,rfl⟩:=kept p' (by have:=(Xi.1 hx').1;omega) p x hx;obtain⟨x2,hx2,rfl⟩:=item p m hm;rw[hy]at hx2;injection hx2 with hx2;subst hx2;exact he
  .cases this
theorem mF {l:List Av} {s s2:Ac} (h:Gy Φ l s=some s2):∃st vals,LB Φ l 0 0 [] s s2 st vals:=by
 obtain⟨st,vals,e1,e2,hall⟩:=UE l h;exact⟨st,vals,e1,e2,λp m hm _=>hall p m hm,λp m _ _ h2=>by omega,λp p' m hR=>by simp at hR⟩
end
section
variable {P : Program} {G : Ay} {B N : Nat} {Φ : AC} {ops : Array Oper} {l : List Av} {π : List Nat} {R : List (Nat × Nat)}
def LC:MK->Bool
 | .alloc _ _=>true
 | .bslice e _ _ _ _=>kW.contains e
 | _=>false
theorem UN {k:MK} (h:LC k=true):A2 k=false/\Fm k=true:=by cases k<;>simp_all [LC,A2,Fm]
def HP (A:List Nat) (pe:Nat) (R:List (Nat×Nat)) (p p':Nat) (x y:Nat×Av):Bool:=
 (A2 x.2.k&&(A2 y.2.k||Gx x.2.k||Fm y.2.k||R.contains (p,p'))||(A.getD y.1 0).testBit x.1||p'==pe) &&
 ((match x.2.dst with
  | some d=>!(y.2.eyes.contains d)
  | none=>true)||(A.getD y.1 0).testBit x.1) &&
 ((match y.2.dst with
  | some d=>!(x.2.eyes.contains d)
  | none=>true)||(A.getD y.1 0).testBit x.1) &&
 ((match x.2.dst with
  | some d=>y.2.dst != some d
  | none=>true)&&(p != pe || !(A2 y.2.k) || !(A.getD y.1 0).testBit x.1||(match x.2.dst with
  | some d=>!(y.2.eyes.contains d)
  | none=>true)))
def OO (A:List Nat) (pe:Nat) (R:List (Nat×Nat)):Nat->List (Nat×Av)->Bool
 | _,[]=>true
 | p,x::r=>(r.zipIdx (p+1)).all (λy=>HP A pe R p y.2 x y.1)&&OO A pe R (p+1) r
def drawE (ops:Array Oper) (l:List Av) (π:List Nat) (pe:Nat) (R:List (Nat×Nat)):Bool:=
 (ops.toList.zipIdx.all λp=>p.1.after.toList.all λe=>decide (e.on<p.2) || !Region.binds .any e) &&
 ((BD l π).length==l.length)&&((Xv l.length).all λi=>π.contains i)&&decide (π.Nodup) &&
 OO (Dm ops.toList []) pe R 0 (BD l π)&&(match (BD l π)[pe]? with
  | some x=>LC x.2.k&&x.2.g.isNone
  | none=>false)
structure mG (ops:Array Oper) (q:List (Nat×Av)) (pe:Nat) (R:List (Nat×Nat)):Prop where
 back:∀(i:Nat) o,ops[i]?=some o->∀e∈o.after.toList,Region.binds .any e=true->e.on<i
 pair:∀(p p':Nat) x y,p<p'->q[p]?=some x->q[p']?=some y->HP (Dm ops.toList []) pe R p p' x y=true
 all:∀i,i<ops.size->∃(p:Nat) (m:Av),q[p]?=some (i,m)
 zero:∃x,q[pe]?=some x/\LC x.2.k=true/\x.2.g=none
theorem UO {A:List Nat} {pe:Nat}:∀{q:List (Nat×Av)} {n:Nat},OO A pe R n q=true->∀(p p':Nat) x y,p<p'->q[p]?=some x->q[p']?=some y->HP A pe R (n+p) (n+p') x y=true
 | [],_,_,p,p',x,y,_,h,_=>by simp at h
 | a::q,n,hq,p,p',x,y,hlt,h,h'=>by
  simp only[OO,Xd]at hq
  cases p' with
  | zero=>omega
  | succ p'=>
   simp only[Yt]at h'
   cases p with
   | zero=>
    simp only[Xt,Xa.injEq]at h;subst h
    have:=Xh.1 hq.1 (y,n+1+p') (by
     rw[Yu]
     exact⟨by omega,by rw[show n+1+p'-(n+1)=p' by omega];exact h'⟩)
    rw[show n+(p'+1)=n+1+p' by omega];simpa using this
   | succ p=>
    have:=UO hq.2 p p' x y (by omega) (by simpa using h) h';rwa[show n+1+p=n+(p+1)by omega,show n+1+p'=n+(p'+1)by omega]at this
theorem mH {pe:Nat} (hl:ops.size=l.length) (h:drawE ops l π pe R=true):mG ops (BD l π) pe R/\(BD l π).length=l.length/\((BD l π).map Prod.fst).Nodup:=by
 unfold drawE at h;simp only[Xd,decide_eq_true_eq,beq_iff_eq]at h;obtain⟨⟨⟨⟨⟨h1,h2⟩,h3⟩,h4⟩,h5⟩,h6⟩:=h;refine⟨⟨λi o ho e he hb=>?_,λp p' x y hlt hx hy=>?_,λi hi=>?_,?_⟩,h2,?_⟩
 .have hq:(o,i)∈ops.toList.zipIdx:=by
   rw[X0];simpa using ho
  have:=Xh.1 (Xh.1 h1 _ hq) e he;simpa[hb]using this
 .have:=UO h5 p p' x y hlt hx hy;simpa using this
 .have hc:=Xh.1 h3 i (by simp;omega)
  have hmem:i∈π:=by simpa using hc
  have hil:i<l.length:=by omega
  have:(i,l[i])∈BD l π:=Xz.2 ⟨i,hmem,by rw[Xf hil];rfl⟩;obtain⟨p,hp⟩:=Yv this;exact⟨p,_,hp⟩
 .split at h6
  .rename_i x hx;simp only[Xd,Yx]at h6;exact⟨x,hx,h6.1,h6.2⟩
  .cases h6
 .have:(BD l π).map Prod.fst=π.filter (λi=>(l[i]?).isSome):=by
   unfold BD;clear h1 h2 h3 h4 h5 h6
   induction π with
   | nil=>rfl
   | cons i π ih=>
    simp only[X8,Yy]
    cases hi:l[i]? with
    | none=>simpa using ih
    | some m=>simpa using ih
  rw[this];exact h4.filter _
structure LD (P:Program) (G:Ay) (B:Nat) (q:List (Nat×Av)) (pe:Nat) (R0:Row) (uv:Nat->Value) (st:Nat->Ac) (vals:Nat->PV) (s:Ac) (L0:Loc) (w0:World) (S:Array Bool) (p0:Nat) (E:Option Nat) (L:Loc) (a:Act) (w:World):Prop where
 le:p0<=q.length
 low:E.isSome=true->p0<=pe
 done:∀(p:Nat) x,q[p]?=some x->A2 x.2.k=false->(S.getD x.1 false=true ↔ p<p0\/(E.isSome=true/\p=pe))
 heap:Bx P G L (st p0).H w
 nx:L.nx=(st p0).nx
 base:B<=L.nx
 size:a.tmps.size=s.n
 defers:a.defers=[]
 vals:∀(p:Nat) x,q[p]?=some x->S.getD x.1 false=true->¬(E.isSome=true/\p=pe)->∀k,x.2.dst=some k->Ae P L w (vals p) (a.tmps.getD k undef)
 early:∀g,E=some g->C9 P L w g R0/\¬L.I g/\(∀b r,Aa (st p0).H b=some r->L.μ b≠g)/\w0.heap.size<=g/\∀x k,q[pe]?=some x->x.2.dst=some k->a.tmps.getD k undef=uv g
 old:∀k u,(∀(p:Nat) x,q[p]?=some x->S.getD x.1 false=true->x.2.dst≠some k)->Aa s.env k=some u->Ae P L w u (a.tmps.getD k undef)
 ext:Ext L0 s.H w0 L (st p0).H w
 μ:∀b,b<B->L.μ b=L0.μ b
theorem LD.absorb {q:List (Nat×Av)} {pe:Nat} {R0:Row} {uv:Nat->Value} {st:Nat->Ac} {vals:Nat->PV} {s:Ac} {L0 L:Loc} {w0 w:World} {S:Array Bool} {p0 g:Nat} {a:Act} (inv:LD P G B q pe R0 uv st vals s L0 w0 S p0 (some g) L a w)
  (hpe:pe<q.length) (hno:∀(p:Nat) x,p0<=p->p<pe->q[p]?=some x->A2 x.2.k=true) (hpk:∀x,q[pe]?=some x->A2 x.2.k=false) (hf:(st pe).H=(st p0).H/\(st pe).nx=(st p0).nx) (hfr:GT (st p0))
  (hst:(st (pe+1)).H=((st pe).nx,R0)::(st pe).H/\(st (pe+1)).nx=(st pe).nx+1) (hv:∀(L:Loc) (w:World) (g:Nat),(st pe).nx<L.nx->L.μ (st pe).nx=g->C9 P L w g R0->Ae P L w (vals pe) (uv g)) :
  ∃L',LD P G B q pe R0 uv st vals s L0 w0 S (pe+1) none L' a w:=by
 obtain⟨e1,e2,e3,e4,e5⟩:=inv.early g rfl;have hlow:=inv.low rfl
 let L':Loc:=⟨L.I,λb=>if b=L.nx then g else L.μ b,L.nx+1⟩
 have hm:AO L w L' w:=⟨λb hb=>⟨hb,rfl⟩,Nat.le_succ _,λb hb=>by show(if b=L.nx then g else L.μ b)=L.μ b;rw[zz (by omega)],Xe _,BT.refl w⟩
 have hH:(st (pe+1)).H=(L.nx,R0)::(st p0).H:=by rw[hst.1,hf.1,hf.2,inv.nx]
 have hN:(st (pe+1)).nx=L.nx+1:=by rw[hst.2,hf.2,inv.nx]
 have hlt:∀b r,Aa (st p0).H b=some r->b<L.nx:=λb r hb=>by have:=hfr b r hb;rw[inv.nx];exact this
 have cases':∀b r,Aa (st (pe+1)).H b=some r->(b=L.nx/\r=R0/\L'.μ b=g)\/(Aa (st p0).H b=some r/\b<L.nx/\L'.μ b=L.μ b):=by
  intro b r hb;rw[hH]at hb;simp only[Aa]at hb;split at hb
  .rename_i e;injection hb with hb;exact .inl ⟨e.symm,hb.symm,by show(if b=L.nx then g else L.μ b)=g;rw[zy e.symm]⟩
  .have:=hlt b r hb;exact .inr ⟨hb,this,by show(if b=L.nx then g else L.μ b)=L.μ b;rw[zz (by omega)]⟩
 refine⟨L',⟨by omega,λh=>(by cases h),λp x hx hk=>?_,⟨inv.heap.lt,λb r hb=>?_,λb r hb=>?_,λb b' r r' hb hb' he=>?_,λb r hb=>?_,ER inv.heap hm.keeps⟩,hN.symm,Nat.le_succ_of_le inv.base,inv.size,inv.defers,
  λp x hx hS hn k hk=>?_,λg' h=>(by cases h),λk u h1 h2=>Ae.keep hm u (inv.old k u h1 h2),⟨inv.ext.size,inv.ext.same,inv.ext.more,inv.ext.new,λg' ⟨b,r,hb,e⟩=>?_,inv.ext.shape,inv.ext.outer⟩,λb hb=>?_⟩⟩
 .rw[inv.done p x hx hk];constructor
  .rintro(h | ⟨_,h⟩)<;>left<;>omega
  .rintro(h | ⟨h,_⟩)
   .by_cases h':p<p0
    .exact .inl h'
    .by_cases h2:p=pe
     .exact .inr ⟨rfl,h2⟩
     .have:=hno p x (by omega) (by omega) hx;rw[this]at hk;cases hk
   .cases h
 .rcases cases' b r hb with⟨_,rfl,e⟩ | ⟨h1,_,e⟩
  .rw[e];exact e1.keep hm rfl
  .rw[e];exact(inv.heap.rep b r h1).keep hm rfl
 .rcases cases' b r hb with⟨_,_,e⟩ | ⟨h1,_,e⟩
  .rw[e];exact e2
  .rw[e];exact inv.heap.apart b r h1
 .rcases cases' b r hb with⟨h1,_,e⟩ | ⟨h1,_,e⟩<;>rcases cases' b' r' hb' with⟨h1',_,e'⟩ | ⟨h1',_,e'⟩<;>rw[e,e']at he
  .rw[h1,h1']
  .exact absurd he.symm (e3 b' r' h1')
  .exact absurd he (e3 b r h1)
  .exact inv.heap.inj b b' r r' h1 h1' he
 .show b<L.nx+1;rcases cases' b r hb with⟨h1,_⟩ | ⟨_,h1,_⟩<;>omega
 .by_cases h2:p=pe
  .subst h2;rw[e5 x k hx hk]
   have hnx:(st p).nx=L.nx:=by rw[hf.2,inv.nx]
   exact hv L' w g (by rw[hnx];exact Nat.lt_succ_self _) (by rw[hnx];show(if L.nx=L.nx then g else L.μ L.nx)=g;rw[zy rfl]) (e1.keep hm rfl)
  .exact Ae.keep hm _ (inv.vals p x hx hS (λh=>h2 h.2) k hk)
 .rcases cases' b r hb with⟨_,_,e'⟩ | ⟨h1,_,e'⟩
  .left;rw[<-e,e'];exact e4
  .exact inv.ext.mine g' ⟨b,r,h1,e'.symm.trans e⟩
 .show(if b=L.nx then g else L.μ b)=_;rw[zz (by have:=inv.base;omega)];exact inv.μ b hb
theorem mI {L:Loc} {H:Ab} {w w':World} {o:Obj} (hok:Bx P G L H w) (hout:BL w w') (hw:w'.heap=w.heap.push o):Bx P G L H w'/\AO L w L w'/\Ext L H w L H w':=by
 have hold:∀g,g<w.heap.size->w'.heap[g]?=w.heap[g]?:=λg hg=>by
  rw[hw,Array.getElem?_push_lt hg,Xj hg]
 have hsz:w'.heap.size=w.heap.size+1:=by rw[hw];simp
 have hm:AO L w L w':=⟨λb hb=>⟨hb,hold b (hok.lt b hb)⟩,Xe _,λ_ _=>rfl,by omega,λg hg arr ty fz he=>by
  rw[hold g hg]at he
  exact⟨arr,fz,he,rfl⟩⟩
 exact⟨⟨λb hb=>by have:=hok.lt b hb;omega,λb r hb=>(hok.rep b r hb).keep hm (hold _ (hok.rep b r hb).lt),hok.apart,hok.inj,hok.nx,ER hok hm.keeps⟩,hm,
  ⟨by omega,λg hg _=>hold g hg,λ_ h=>h,λ_ h=>.inl h,λ_ h=>.inr h,hm.shape,hout⟩⟩
theorem mJ {o:Oper} {t:TypeId} {zc:List Value} (ho:o.op = .alloc t) (h:Gw P t=some zc) (a:Act) (w:World) :
  ∃w' ob,(execOp a.eval o).run P w = .ok (.value (.pointer (some ⟨w.heap.size,0,none⟩))) w'/\BL w w'/\w'.heap=w.heap.push ob/\∀L,C9 P L w' w.heap.size (.cells t (zc.map λx=>.t (.v x))):=by
 obtain⟨z,hz,rfl,h1⟩:=Un h w;refine⟨w.alloc (.cells z.cells t),_,by simp[execOp,ho,Instr.alloc,newVar,newRow,hz],⟨rfl,rfl,rfl⟩,rfl,λL=>⟨z.cells,heap_alloc_new w _,by simp,λj c hj=>?_⟩⟩;rw[Yd]at hj;obtain⟨v,hv,rfl⟩:=Xg.1 hj;refine⟨v,by simpa using hv,h1 v (Xw hv),by simp only[Ae,An]⟩
theorem mK {d:Bool} {o:Op} {t:TypeId} {zc:List Value} {xs:List Opd} (h:opK P G d o=(.alloc t zc,xs)):o = .alloc t/\Gw P t=some zc:=by
 unfold opK at h;split at h
 .rename_i q hq;subst h;exact absurd hq (QN (by simp))
 .split at h
  .split at h
   .injection h with h _;cases h
   .injection h with h _;cases h
  .split at h
   .rename_i q hq;subst h;unfold Lx at hq;split at hq
    all_goals first
     | (cases hq;done)
     | (injection hq with hq;injection hq with e1 e2;cases e1;done)
     | (obtain⟨x,hx,e⟩:=Xg.1 hq;injection e with e1 e2;cases e1;done)
     | (obtain⟨x,hx,e⟩:=Xg.1 hq;injection e with e1 e2;injection e1 with e3 e4;subst e3;subst e4;exact⟨rfl,hx⟩)
     | skip
    all_goals split at hq
    all_goals first
     | (cases hq;done)
     | (injection hq with hq;injection hq with e1 e2;cases e1;done)
     | (obtain⟨x,hx,e⟩:=Xg.1 hq;injection e with e1 e2;cases e1;done)
     | skip
    all_goals split at hq
    all_goals first
     | (cases hq;done)
     | (injection hq with hq;injection hq with e1 e2;cases e1;done)
     | (obtain⟨x,hx,e⟩:=Xg.1 hq;injection e with e1 e2;cases e1;done)
   .injection h with h _;cases h
theorem mL {s0:Ac} {o:Oper} {t e:TypeId} {n by' len:Nat} {zc:List Value} {parts:Array (Nat×Operand)} {cs:List PV} (ho:o.op = .buildSlice t len parts) (he:FB P t=some (e,n,by',zc)) (hsz:len*n<=16777216)
  (hf:DA (λk=>some (k*n,n)) (FW zc len) (parts.toList.map λp=>(p.1,s0.ev G p.2))=some cs) (L:Loc) (a:Act) (w:World) (hi:Interp P G B L s0 a w) :
  ∃w' ob,(execOp a.eval o).run P w = .ok (.value (.slice (some ⟨w.heap.size,0,none⟩) len len)) w'/\BL w w'/\w'.heap=w.heap.push ob/\(AO L w L w'->C9 P L w' w.heap.size (.cells e cs)):=by
 obtain⟨i,z,hu,hi',hz,rfl,rfl,rfl,hzl,hpos,hone⟩:=MN he
 have hzs:z.cells.size=i.size:=by simpa using hzl
 obtain⟨hp1,hp2⟩:=QG hi parts.toList;obtain⟨hz1,hz2⟩:=Uq (P:=P) (L:=L) (w:=w) (n:=len) hzs hone;obtain⟨arr',hfill,hrep,h1'⟩:=O5 _ _ _ _ _ hp1 hp2 hz1 (λx hx=>hz2 x hx (.inr hpos)) hf
 have hzero:(zeroValue e).run P w = .ok z w:=by simp[zeroValue,typeInfo,hi',hz]
 have hrun:(Instr.buildSlice t len (parts.map λ(k,x)=>(k,a.eval x))).run P w = .ok (.slice (some ⟨w.heap.size,0,none⟩) len len) (w.alloc (.cells arr' e)):=by
  have hpl:(parts.map λ(k,x)=>(k,a.eval x)).toList=parts.toList.map λp=>(p.1,a.eval p.2):=by simp
  simp only[Instr.buildSlice,Sem.run_bind,run_underlying hu,Xn,sizeOf,typeInfo,run_program,hi',Sem.run_pure];rw[zz (by omega)];by_cases h0:len*i.size=0
  .have hl0:len=0:=by
    rcases Nat.mul_eq_zero.1 h0 with h | h
    .exact h
    .omega
   subst hl0;simp only[Nat.zero_mul,if_true,Sem.run_pure,Sem.run_bind,Xn,hpl]
   have:(Za 0).map (z.cells[· % z.cells.size]!)=(Za 0).map ((#[]:Array Value)[· % (#[]:Array Value).size]!):=by simp
   simp only[Nat.zero_mul]at hfill;rw[this]at hfill;rw[hfill];simp[newRow]
  .simp only[zz h0,Sem.run_bind,hzero,Xn,Sem.run_pure,hpl,hfill];simp[newRow]
 refine⟨_,_,by simp only[execOp,ho,Sem.run_bind,hrun,Xn];rfl,(show BL w (w.alloc _)from⟨rfl,rfl,rfl⟩),rfl,λhm=>?_⟩;have hlen:=hrep.length;simp only[Array.length_toList]at hlen;refine⟨arr',heap_alloc_new w _,by omega,λj c hj=>?_⟩;obtain⟨x,hx,hr⟩:=hrep.at_ j hj;exact⟨x,by simpa using hx,h1' x (Xw hx),Ae.keep hm c hr⟩
theorem UP {z:Nat}:∀(parts:List (Nat×PV)) (cs out:List PV),DA (λk=>some (k*z,z)) cs parts=some out->out.length=cs.length
 | [],cs,out,h=>by simp only[DA,Xa.injEq]at h;rw[h]
 | (k,p)::AY,cs,out,h=>by
  simp only[DA]at h;split at h
  .split at h
   .rename_i hfit;rw[UP AY _ _ h,Ln hfit.2]
   .cases h
  .cases h
theorem UQ {d:Bool} {o:Op} {e n len:Nat} {zc:List Value} {idx:List Nat} {xs:List Opd} (h:opK P G d o=(.bslice e n zc len idx,xs)):∃t by' parts,o = .buildSlice t len parts/\FB P t=some (e,n,by',zc)/\idx=parts.toList.map (·.1)/\xs=parts.toList.map λp=>AP G p.2:=by
 unfold opK at h;split at h
 .rename_i q hq;subst h;exact absurd hq (QN (by simp))
 .split at h
  .split at h
   .injection h with h _;cases h
   .injection h with h _;cases h
  .split at h
   .rename_i q hq;subst h;unfold Lx at hq;split at hq
    all_goals first
     | (cases hq;done)
     | (injection hq with hq;injection hq with e1 e2;cases e1;done)
     | (obtain⟨x,hx,e⟩:=Xg.1 hq;injection e with e1 e2;cases e1;done)
     | (obtain⟨x,hx,e⟩:=Xg.1 hq;obtain⟨x1,x2,x3,x4⟩:=x;injection e with e1 e2;injection e1 with e3 e4 e5 e6 e7;subst e3;subst e4;subst e5;subst e6;subst e7;subst e2;exact⟨_,_,_,rfl,hx,rfl,rfl⟩)
     | skip
    all_goals split at hq
    all_goals first
     | (cases hq;done)
     | (injection hq with hq;injection hq with e1 e2;cases e1;done)
     | (obtain⟨x,hx,e⟩:=Xg.1 hq;injection e with e1 e2;cases e1;done)
     | skip
    all_goals split at hq
    all_goals first
     | (cases hq;done)
     | (injection hq with hq;injection hq with e1 e2;cases e1;done)
     | (obtain⟨x,hx,e⟩:=Xg.1 hq;injection e with e1 e2;cases e1;done)
   .injection h with h _;cases h
theorem mM {κ:MK} {H H':Ab} {n n':Nat} {ps:List PV} {v:PV} (hk:LC κ=true) (hop:∃o d xs,opK P G d o=(κ,xs)) (h:Ah Φ H n κ ps=some (v,H',n')) :
  ∃(R0:Row) (uv:Nat->Value),H'=(n,R0)::H/\n'=n+1/\(∀(L:Loc) (w:World) (g:Nat),n<L.nx->L.μ n=g->C9 P L w g R0->Ae P L w v (uv g)) /\
   ∀(o:Oper) (d:Bool) (xs:List Opd),opK P G d o.op=(κ,xs)->∀(s0:Ac),xs.map (·.ev s0.env)=ps->∀(L:Loc) (a:Act) (w:World),Interp P G B L s0 a w->∃w' ob,(execOp a.eval o).run P w = .ok (.value (uv w.heap.size)) w'/\BL w w'/\w'.heap=w.heap.push ob/\(AO L w L w'->C9 P L w' w.heap.size R0):=by
 cases κ<;>simp only[LC]at hk<;>try (cases hk;done)
 case alloc t zc=>
  rcases ps with _ | ⟨p,r⟩<;>simp only[Ah]at h<;>try (cases h;done)
  injection h with e;injection e with e1 e2;injection e2 with e2 e3;subst e1;subst e2;subst e3;refine⟨_,λg=>.pointer (some ⟨g,0,none⟩),rfl,rfl,λL w g hn hg _=>?_,λo d xs ho s0 hs0 L a w hi=>?_⟩
  .simp only[Ae];exact⟨hn,by rw[hg]⟩
  .obtain⟨hoa,hzc⟩:=mK ho;obtain⟨w',ob,hr,hout,hheap,hrow⟩:=mJ hoa hzc a w;exact⟨w',ob,hr,hout,hheap,λ_=>hrow L⟩
 case bslice e z zc len idx=>
  simp only[Ah]at h;obtain⟨q,hs,e1⟩:=AR h;injection e1 with e1 e2;injection e2 with e2 e3;subst e1;subst e2;subst e3;unfold De at hs;split at hs
  .rename_i hb;obtain⟨cs,hf,e4⟩:=AR hs;subst e4;have hcl:=UP _ _ _ hf;refine⟨_,λg=>.slice (some ⟨g,0,none⟩) len len,rfl,rfl,λL w g hn hg hr=>?_,λo d xs ho s0 hs0 L a w hi=>?_⟩
   .simp only[Ae];obtain⟨arr,h1,h2,h3⟩:=hr;subst hg;have hlt:L.μ n<w.heap.size:=(Xs.1 h1).1;refine⟨hn,hlt,len,rfl,Xe _,λarr' ty' fz' h4=>?_⟩;obtain⟨o,d,xs,ho⟩:=hop;obtain⟨t,by',parts,hoa,hel,_,_⟩:=UQ ho;obtain⟨i,y,_,_,_,_,_,_,hzl,_,_⟩:=MN hel;rw[h1]at h4;injection h4 with h4;injection h4 with h5 _ _;subst h5;rw[hcl,MO,hzl]at h2;omega
   .obtain⟨t,by',parts,hoa,hel,hidx,hxs⟩:=UQ ho;subst hidx;subst hxs;subst hs0;rw[MU]at hf;exact mL hoa hel hb hf L a w hi
  .cases hs
theorem mN {pe:Nat} (hmix:P.follows .mixedOrders=true) (hΦ:Φ.Sound P G) {Q:Exit->Ac->Prop} {s s2:Ac} {st:Nat->Ac} {vals:Nat->PV} {id:Nat} (ha0:ops.toList.mapM (DX P G N true ops)=some l) (hd0:drawE ops l π pe R=true)
  (hn:s.n=N) (hrun:LB Φ ((BD l π).map Prod.snd) 0 0 R s s2 st vals) (hq:Q .normal s2):Cd P G B (.region id ops true) Q s:=by
 intro L0 a0 w0 hi0;have ha:=JU ha0
 have hlen:ops.size=l.length:=by have:=(ha.at_ 0).2;simpa using this
 obtain⟨hd,hql,hnodup⟩:=mH hlen hd0;have h0:=hrun.start;have hlast:=hrun.stop;simp only[Yz]at hlast;generalize hq':BD l π=q at *
 have hmem:∀(p:Nat) x,q[p]?=some x->l[x.1]?=some x.2:=by intro p x hx;rw[<-hq']at hx;exact QY l π p x hx
 have hms:∀(p:Nat) x,q[p]?=some x->(q.map Prod.snd)[p]?=some x.2:=by intro p x hx;simp[hx]
 have hall:∀(p:Nat) m,(q.map Prod.snd)[p]?=some m->(st (p+1)).env=((st p).put m.dst (vals p)).env:=λp m hm=>(hrun.env hm).1;have step:∀(p:Nat) x,q[p]?=some x->Did Φ (st p) x.2 (vals p) (st (p+1)):=λp x hx=>hrun.norm p x.2 (hms p x hx) (.inr (by omega));obtain⟨xe,hxe,hke,hge⟩:=hd.zero;have hpel:pe<q.length:=(Xi.1 hxe).1
 have hpk:∀x,q[pe]?=some x->A2 x.2.k=false:=λx hx=>by rw[hxe]at hx;injection hx with hx;subst hx;exact(UN hke).1
 have uniq:∀(p p':Nat) x y,q[p]?=some x->q[p']?=some y->x.1=y.1->p=p':=by
  intro p p' x y hx hy e
  have h1:(q.map Prod.fst)[p]?=some x.1:=by simp[hx]
  have h2:(q.map Prod.fst)[p']?=some x.1:=by simp[hy,e]
  have hp:=(Xi.1 h1).1;exact(Y0 hp hnodup).1 (h1.trans h2.symm)
 have fresh:∀p,p<=q.length->GT (st p):=by
  intro p
  induction p with
  | zero=>intro _;rw[h0];exact λb r hb=>by have:=hi0.heap.nx b r hb;rw[hi0.nx]at this;exact this
  | succ p ih=>
   intro hp;have hx:q[p]?=some q[p]:=Xf (by omega);exact(JX hΦ (step p _ hx) (ih (by omega))).1
 have flat:∀(a b:Nat),a<=b->b<=q.length->(∀(p:Nat) x,a<=p->p<b->q[p]?=some x->A2 x.2.k=true)->(st b).H=(st a).H/\(st b).nx=(st a).nx:=by
  intro a b hab
  induction b with
  | zero=>
   intro _ _
   have:a=0:=by omega
   subst this;exact⟨rfl,rfl⟩
  | succ b ih=>
   intro hb hno;by_cases e:a=b+1
   .subst e;exact⟨rfl,rfl⟩
   .have hx:q[b]?=some q[b]:=Xf (by omega);have hqb:=hno b _ (by omega) (by omega) hx;have h1:=L8 (step b _ hx) hqb;have h2:=ih (by omega) (by omega) (λp x h1 h2 h3=>hno p x h1 (by omega) h3);exact⟨h1.1.trans h2.1,h1.2.trans h2.2⟩
 have nconst:∀p,p<=q.length->(st p).n=s.n:=by
  intro p
  induction p with
  | zero=>intro _;rw[h0]
  | succ p ih=>
   intro hp;have hx:q[p]?=some q[p]:=Xf (by omega);rw[(hrun.env (hms p _ hx)).2,ih (by omega)]
 have hop:∃o d xs,opK P G d o=(xe.2.k,xs):=by
  have h1:=hmem pe xe hxe
  have h2:xe.1<ops.size:=by have:=(Xi.1 h1).1;omega
  obtain⟨mi',hmi',hcomp⟩:=(ha.at_ xe.1).1 ops[xe.1] (by simp[h2]);rw[h1]at hmi';injection hmi' with hmi';subst hmi';exact⟨_,_,_,(JT hcomp).1⟩
 obtain⟨R0,uv,hstE⟩:∃(R0:Row) (uv:Nat->Value),(st (pe+1)).H=((st pe).nx,R0)::(st pe).H/\(st (pe+1)).nx=(st pe).nx+1/\(∀(L:Loc) (w:World) (g:Nat),(st pe).nx<L.nx->L.μ (st pe).nx=g->C9 P L w g R0->Ae P L w (vals pe) (uv g)) /\
   ∀(o:Oper) (d:Bool),opK P G d o.op=(xe.2.k,xe.2.xs)->∀(s0:Ac),xe.2.xs.map (·.ev s0.env)=xe.2.xs.map (·.ev (st pe).env)->∀(L:Loc) (a:Act) (w:World),Interp P G B L s0 a w->∃w' ob,(execOp a.eval o).run P w = .ok (.value (uv w.heap.size)) w'/\BL w w'/\w'.heap=w.heap.push ob/\(AO L w L w'->C9 P L w' w.heap.size R0):=by
  rcases step pe xe hxe with⟨hqt,_⟩ | ⟨_,hwf,_⟩ | ⟨_,_,H',nx',he,hst⟩
  .rw[hpk _ hxe]at hqt;cases hqt
  .simp[Av.wants,hge]at hwf
  .rw[hst,D9,EP];obtain⟨R0,uv,e1,e2,e3,e4⟩:=mM (P:=P) (G:=G) (B:=B) hke hop he;exact⟨R0,uv,e1,e2,e3,λo d ho s0 hs0=>e4 o d xe.2.xs ho s0 hs0⟩
 refine wp_region_any hmix ?_
 have main:∀(fuel:Nat) (S:Array Bool) (p0:Nat) (E:Option Nat) (L:Loc) (a:Act) (w:World),S.size=ops.size->HM ops S->ops.size<=cnt S+fuel ->
   LD P G B q pe R0 uv st vals s L0 w0 S p0 E L a w->(E.isSome=true->∃(p:Nat) (x:Nat×Av),p0<=p/\p<pe/\q[p]?=some x/\A2 x.2.k=false)->wpAny P .any ops (BO P G B Q L0 s.H w0) fuel S a w:=by
  have full:∀(S:Array Bool) (p0:Nat) (E:Option Nat) (L:Loc) (a:Act) (w:World),(∀i,i<ops.size->S.getD i false=true)->LD P G B q pe R0 uv st vals s L0 w0 S p0 E L a w->(E.isSome=true->∃(p:Nat) (x:Nat×Av),p0<=p/\p<pe/\q[p]?=some x/\A2 x.2.k=false)->BO P G B Q L0 s.H w0 .normal a w:=by
   intro S p0 E L a w hS inv hpart;have hxi:∀(p:Nat) x,q[p]?=some x->S.getD x.1 false=true:=λp x hx=>hS _ (by have:=(Xi.1 (hmem p x hx)).1;omega)
   have hE:E=none:=by
    cases hE:E with
    | none=>rfl
    | some g=>
     obtain⟨p,x,h1,h2,h3,h4⟩:=hpart (by rw[hE];rfl);rcases (inv.done p x h3 h4).1 (hxi p x h3)with h | ⟨_,h⟩<;>omega
   subst hE
   have hf:=flat p0 q.length inv.le (Xe _) (λp x h1 h2 h3=>by
    cases hk:A2 x.2.k with
    | true=>rfl
    | false=>
     rcases (inv.done p x h3 hk).1 (hxi p x h3)with h | ⟨h,_⟩
     .omega
     .cases h)
   refine⟨s2,L,hq,⟨?_,?_,inv.base,?_,inv.defers,λk u hl=>?_⟩,?_,inv.μ⟩
   .rw[<-hlast,hf.1];exact inv.heap
   .rw[<-hlast,hf.2];exact inv.nx
   .rw[<-hlast,nconst _ (Xe _)];exact inv.size
   .rw[<-hlast]at hl;rcases MW h0 hall q.length (by simp) k u hl with⟨j,m,hj,hmj,hdst,rfl⟩ | ⟨hno,hs⟩
    .have hx:q[j]?=some q[j]:=Xf hj
     have e:m=q[j].2:=by rw[hms j _ hx]at hmj;injection hmj with hmj;exact hmj.symm
     subst e;exact inv.vals j _ hx (hxi j _ hx) (λh=>(by cases h.1)) k hdst
    .refine inv.old k u (λp x hx _=>hno p x.2 ?_ (hms p x hx)) hs;exact(Xi.1 hx).1
   .rw[<-hlast,hf.1];exact inv.ext
  intro fuel
  induction fuel with
  | zero=>
   intro S p0 E L a w hs hS hc inv hpart;have hall':=OK (S:=S) (by omega);refine⟨?_,full S p0 E L a w (λi hi=>hall' i (by omega)) inv hpart⟩;rw[Y2];intro i hi;obtain⟨h1,h2,_⟩:=JW hi;rw[Gz (by omega),hall' i (by omega)]at h2;cases h2
  | succ fuel ih=>
   intro S p0 E L a w hs hS hc inv hpart
   have go:∀(S':Array Bool) (p1:Nat) (E1:Option Nat) (L':Loc) (a':Act) (w':World),S'.size=ops.size->HM ops S'->ops.size<=cnt S'+fuel->LD P G B q pe R0 uv st vals s L0 w0 S' p1 E1 L' a' w'->wpAny P .any ops (BO P G B Q L0 s.H w0) fuel S' a' w':=by
    intro S' p1 E1 L' a' w' h1 h2 h3 inv'
    cases hE1:E1 with
    | none=>subst hE1;exact ih S' p1 none L' a' w' h1 h2 h3 inv' (λh=>by cases h)
    | some g=>
     subst hE1;by_cases hex:∃(p:Nat) (x:Nat×Av),p1<=p/\p<pe/\q[p]?=some x/\A2 x.2.k=false
     .exact ih S' p1 (some g) L' a' w' h1 h2 h3 inv' (λ_=>hex)
     .have hno:∀(p:Nat) x,p1<=p->p<pe->q[p]?=some x->A2 x.2.k=true:=λp x h4 h5 h6=>by
       cases hk:A2 x.2.k with
       | true=>rfl
       | false=>exact absurd ⟨p,x,h4,h5,h6,hk⟩ hex
      have hlow:=inv'.low rfl;obtain⟨L2,inv2⟩:=inv'.absorb hpel hno hpk (flat p1 pe hlow (by omega) hno) (fresh p1 inv'.le) ⟨hstE.1,hstE.2.1⟩ hstE.2.2.1;exact ih S' (pe+1) none L2 a' w' h1 h2 h3 inv2 (λh=>by cases h)
   refine⟨λhr=>?_,λi hi=>?_⟩
   .refine full S p0 E L a w (λi=>?_) inv hpart
    induction i using Y3 with
    | _ i ihi=>
     intro hi
     cases hS':S.getD i false with
     | true=>rfl
     | false=>
      exfalso
      have:i∈Region.ready .any ops S:=OI (o:=ops[i]) (Xj hi) (by rw[Gz (by omega)];exact hS')
       (λe he hb=>by
        have:=hd.back i _ (Xj hi) e he hb
        exact ihi _ this (by omega))
      rw[hr]at this;cases this
   .obtain⟨hi1,hun,o,ho,hp⟩:=JW hi;rw[Gz (by omega)]at hun;obtain⟨p,mi,hx⟩:=hd.all i hi1;have hpl:p<q.length:=(Xi.1 hx).1;obtain⟨mi',hmi',hcomp⟩:=(ha.at_ i).1 o (by simpa using ho)
    have emi:mi'=mi:=by have:=hmem p _ hx;simp only at this;rw[this]at hmi';injection hmi' with h;exact h.symm
    subst emi;obtain⟨hcop,hdst,hdlt,hwants⟩:=JT hcomp;have bef:∀j,((Dm ops.toList []).getD i 0).testBit j=true->S.getD j false=true:=λj hb=>Ls hS ho hb hp
    have aft:∀j,j<ops.size->((Dm ops.toList []).getD j 0).testBit i=true->S.getD j false=false:=by
     intro j hj hb
     cases hSj:S.getD j false with
     | false=>rfl
     | true=>
      have hjo:ops[j]?=some ops[j]:=Xj hj;have:=Ls hS hjo hb (hS j _ hjo hSj);rw[this]at hun;cases hun
    have idx:∀(p':Nat) y,q[p']?=some y->y.1<ops.size:=λp' y hy=>by have:=(Xi.1 (hmem p' y hy)).1;omega
    have hbefore:p≠pe->∀(p':Nat) y,p'<p->q[p']?=some y->A2 y.2.k=false->S.getD y.1 false=true:=by
     intro hpe p' y hlt hy hyk;refine bef _ ?_;have hok:=hd.pair p' p _ _ hlt hy hx;unfold HP at hok;simp only[Xd]at hok;have h1:=hok.1.1.1;rw[hyk]at h1;simp only[Y4,Xu,Xm,beq_iff_eq]at h1;rcases h1 with h1 | h1
     .exact h1
     .exact absurd h1 hpe
    have late:pe<p->A2 mi'.k=false->E=none:=by
     intro hlt hhk
     cases hE:E with
     | none=>rfl
     | some g=>
      obtain⟨p',y,h1,h2,h3,h4⟩:=hpart (by rw[hE];rfl);rcases (inv.done p' y h3 h4).1 (hbefore (by omega) p' y (by omega) h3 h4)with h | ⟨_,h⟩<;>omega
    have eye:∀k u,k∈mi'.eyes->Aa (st p).env k=some u->Ae P L w u (a.tmps.getD k undef):=by
     intro k' u hke' hl;rcases MW h0 hall p (by simp;omega) k' u hl with⟨j,m,hj,hmj,hdj,rfl⟩ | ⟨hno,hs'⟩
     .have hy:q[j]?=some q[j]:=Xf (by omega)
      have e:m=q[j].2:=by rw[hms j _ hy]at hmj;injection hmj with hmj;exact hmj.symm
      subst e;have hok:=hd.pair j p _ _ hj hy hx;unfold HP at hok;simp only[Xd]at hok;have h2:=hok.1.1.2;rw[hdj]at h2;simp only[Xm,Xp]at h2;rcases h2 with h2 | h2
      .exact absurd hke' (by simpa using h2)
      .refine inv.vals j _ hy (bef _ h2) (λhjE=>?_) k' hdj;obtain⟨hEs,hje⟩:=hjE;have h5:=hok.2.2;rw[hdj]at h5;simp only[h2,Bool.not_true,Bool.or_false,Xm,bne_iff_ne,ne_eq,Xp]at h5;rcases h5 with(h5 | h5) | h5
       rotate_left 2
       .exact absurd hke' (by simpa using h5)
       .exact h5 hje
       .have:=late (by omega) h5;rw[this]at hEs;cases hEs
     .refine inv.old k' u (λp' y hy hSy hdy=>?_) hs';rcases Y5 p' p with hlt | heq | hgt
      .exact hno p' y.2 hlt (hms p' y hy) hdy
      .subst heq;rw[hx]at hy;injection hy with hy;subst hy;simp only at hSy;rw[hSy]at hun;cases hun
      .have hok:=hd.pair p p' _ _ hgt hx hy;unfold HP at hok;simp only[Xd]at hok;have h3:=hok.1.2;rw[hdy]at h3;simp only[Xm,Xp]at h3;rcases h3 with h3 | h3
       .exact absurd hke' (by simpa using h3)
       .have:=aft y.1 (idx p' y hy) h3;rw[this]at hSy;cases hSy
    have hS':HM ops (S.setIfInBounds i true):=by
     intro j oj hoj hj e he hb;rw[Do S i _ (by omega)]at hj ⊢;split
     .rfl
     .split at hj
      .rename_i e1;subst e1;rw[ho]at hoj;injection hoj with hoj;subst hoj;exact hp e he hb
      .exact hS j oj hoj hj e he hb
    have hc':ops.size<=cnt (S.setIfInBounds i true)+fuel:=by rw[OJ (by omega) hun];omega
    have dsts:∀(p':Nat) y k',q[p']?=some y->i≠y.1->y.2.dst=some k'->o.dst≠some k':=by
     intro p' y k' hy e hk;rw[<-hdst];intro hcon
     have epn:p≠p':=λep=>by subst ep;rw[hx]at hy;injection hy with hy;subst hy;exact e rfl
     rcases Y6 epn with hlt | hgt
     .have hok:=hd.pair p p' _ _ hlt hx hy;unfold HP at hok;simp only[Xd]at hok;have h4:=hok.2.1;rw[hcon]at h4;simp only[bne_iff_ne]at h4;exact h4 hk
     .have hok:=hd.pair p' p _ _ hgt hy hx;unfold HP at hok;simp only[Xd]at hok;have h4:=hok.2.1;rw[hk]at h4;simp only[bne_iff_ne]at h4;exact h4 hcon
    have hidx:∀(p':Nat) y,q[p']?=some y->(i=y.1 ↔ p'=p):=λp' y hy=>⟨λe=>(uniq p p' _ _ hx hy e).symm,λe=>by subst e;rw[hx]at hy;injection hy with hy;rw[<-hy]⟩
    have getS:∀(p':Nat) y,q[p']?=some y->((S.setIfInBounds i true).getD y.1 false=true ↔ p'=p\/S.getD y.1 false=true):=λp' y hy=>by
     rw[Do S i _ (by omega)];by_cases e:i=y.1
     .rw[zy e];exact⟨λ_=>.inl ((hidx p' y hy).1 e),λ_=>rfl⟩
     .rw[zz e];exact⟨λh=>.inr h,λh=>h.resolve_left λe'=>e ((hidx p' y hy).2 e')⟩
    have next:∀(p1:Nat) (E1:Option Nat) (L':Loc) (w':World) (u:Value),p1<=q.length->(E1.isSome=true->p1<=pe) ->
      (∀(p':Nat) y,q[p']?=some y->A2 y.2.k=false->(p'=p\/S.getD y.1 false=true ↔ p'<p1\/(E1.isSome=true/\p'=pe))) ->
      ((p=pe/\E1.isSome=true)\/Ae P L' w' (vals p) u)->(∀p',p'≠p->(E1.isSome=true/\p'=pe ↔ E.isSome=true/\p'=pe)) ->
      (∀g,E1=some g->C9 P L' w' g R0/\¬L'.I g/\(∀b r,Aa (st p1).H b=some r->L'.μ b≠g)/\w0.heap.size<=g/\((p=pe/\u=uv g)\/(p≠pe/\E=some g))) ->
      Bx P G L' (st p1).H w'->L'.nx=(st p1).nx->AO L w L' w'->Ext L (st p0).H w L' (st p1).H w' ->
      wpAny P .any ops (BO P G B Q L0 s.H w0) fuel (S.setIfInBounds i true) (a.put o.dst u) w':=by
     intro p1 E1 L' w' u hp1 hlow hdone hru hEE hearly hok' hnx' hm' hx';refine go _ p1 E1 L' _ w' (by simpa using hs) hS' hc' ⟨hp1,hlow,λp' y hy hyk=>(getS p' y hy).trans (hdone p' y hy hyk),hok',hnx',Xq inv.base hm'.nx,?_,?_,?_,?_,?_,inv.ext.trans hx',λb hb=>(hm'.μ b (X1 hb inv.base)).trans (inv.μ b hb)⟩
     .rw[<-inv.size];cases o.dst<;>simp[Act.put]
     .cases o.dst<;>simp[Act.put,inv.defers]
     .intro p' y hy hSy hpE k' hk;rw[FV];by_cases e:i=y.1
      .have ep:=(hidx p' y hy).1 e;subst ep;rw[hx]at hy;injection hy with hy;subst hy;rw[zy ⟨by rw[<-hdst];exact hk,by rw[inv.size,hn];exact hdlt k' (by rw[<-hdst];exact hk)⟩];rcases hru with⟨h1,h2⟩ | h
       .exact absurd ⟨h2,h1⟩ hpE
       .exact h
      .have hpp:p'≠p:=λe'=>e ((hidx p' y hy).2 e');rw[zz (λh=>dsts p' y k' hy e hk h.1)];exact Ae.keep hm' _ (inv.vals p' y hy (((getS p' y hy).1 hSy).resolve_left hpp) (λh=>hpE ((hEE p' hpp).2 h)) k' hk)
     .intro g hg;obtain⟨h1,h2,h3,h4,h5⟩:=hearly g hg;refine⟨h1,h2,h3,h4,λx k' hxx hk=>?_⟩;rw[FV];rcases h5 with⟨h5,h6⟩ | ⟨h5,h6⟩
      .subst h5;rw[hx]at hxx;injection hxx with hxx;subst hxx;rw[zy ⟨by rw[<-hdst];exact hk,by rw[inv.size,hn];exact hdlt k' (by rw[<-hdst];exact hk)⟩];exact h6
      .have e:i≠x.1:=λe=>h5 ((hidx pe x hxx).1 e).symm;rw[zz (λh=>dsts pe x k' hxx e hk h.1)];exact(inv.early g h6).2.2.2.2 x k' hxx hk
     .intro k' u' hno h0';rw[FV];have hk:=hno p _ hx (by rw[Do S i _ (by omega),zy rfl]);rw[zz (λh=>hk (by rw[hdst];exact h.1))];refine Ae.keep hm' u' (inv.old k' u' (λp' y hy hSy=>hno p' y hy ?_) h0');rw[Do S i _ (by omega)];split
      .rfl
      .exact hSy
    have keepE:∀{L':Loc} {w':World} {p1:Nat},AO L w L' w'->Ext L (st p0).H w L' (st p1).H w'->p≠pe->∀g,E=some g->C9 P L' w' g R0/\¬L'.I g/\(∀b r,Aa (st p1).H b=some r->L'.μ b≠g)/\w0.heap.size<=g/\((p=pe/\undef=uv g)\/(p≠pe/\E=some g)):=by
     intro L' w' p1 hm' hx' hpe g hg;obtain⟨e1,e2,e3,e4,_⟩:=inv.early g hg;have hgl:g<w.heap.size:=e1.lt;have hnm:¬Fl L (st p0).H g:=λ⟨b,r,hb,e⟩=>e3 b r hb e;refine⟨e1.keep hm' (hx'.same g hgl hnm),λhI=>?_,λb r hb e=>?_,e4,.inr ⟨hpe,hg⟩⟩
     .rcases hx'.new g hI with h | h | h
      .exact e2 h
      .omega
      .exact hnm h
     .rcases hx'.mine g ⟨b,r,hb,e⟩with h | h
      .omega
      .exact hnm h
    have early':∀{L':Loc} {w':World} {p1:Nat} (u:Value),AO L w L' w'->Ext L (st p0).H w L' (st p1).H w'->p≠pe->∀g,E=some g->C9 P L' w' g R0/\¬L'.I g/\(∀b r,Aa (st p1).H b=some r->L'.μ b≠g)/\w0.heap.size<=g/\((p=pe/\u=uv g)\/(p≠pe/\E=some g)):=
     λu hm' hx' hpe g hg=>by
      obtain⟨h1,h2,h3,h4,_⟩:=keepE hm' hx' hpe g hg;exact⟨h1,h2,h3,h4,.inr ⟨hpe,hg⟩⟩
    have hi':Interp P G B L ({ ((st p).only mi'.eyes)with H:=(st p0).H,nx:=(st p0).nx }:Ac) a w:=by
     refine⟨inv.heap,inv.nx,inv.base,by show a.tmps.size=(st p).n;rw[nconst p (by omega)];exact inv.size,inv.defers,λk u hl=>?_⟩;have hl':Aa ((st p).only mi'.eyes).env k=some u:=hl;rw[Lz]at hl';split at hl'
     .rename_i hke';exact eye k u hke' hl'
     .cases hl'
    have hww:({ ((st p).only mi'.eyes)with H:=(st p0).H,nx:=(st p0).nx }:Ac).wants ops o=mi'.wants (st p).env:=by
     rw[hwants];exact QU (st p) mi' mi'.eyes (λ_ h=>h)
    have hev:mi'.xs.map (·.ev ({ ((st p).only mi'.eyes)with H:=(st p0).H,nx:=(st p0).nx }:Ac).env)=mi'.xs.map (·.ev (st p).env):=QT (st p) mi' mi'.eyes (λ_ h=>h);unfold wpOp;rw[ho];simp only;by_cases hpe:p=pe
    .
     subst hpe;rw[hxe]at hx;injection hx with hx;subst hx;simp only at hke hge hcop hdst hww hwants
     have hE:E=none:=by
      cases hE:E with
      | none=>rfl
      | some g=>
       have:=(inv.done p _ hxe (hpk _ hxe)).2 (.inr ⟨by rw[hE];rfl,rfl⟩);simp only at this;rw[this]at hun;cases hun
     subst hE
     have hp0p:p0<=p:=by
      rcases Xk p p0 with h | h
      .have:=(inv.done p _ hxe (hpk _ hxe)).2 (.inl h);simp only at this;rw[this]at hun;cases hun
      .exact h
     obtain⟨w',ob,hr,hout,hheap,hrow⟩:=hstE.2.2.2 o true hcop _ hev L a w hi';obtain⟨k1,k2,k3⟩:=mI inv.heap hout hheap
     have hwt:mi'.wants (st p).env=some true:=by simp[Av.wants,hge]
     rw[zy (hi'.wants (hww.trans hwt))];refine .inl ?_;unfold Oper.wp;rw[hr,Oper.upon_value]
     refine next p0 (some w.heap.size) L w' _ inv.le (λ_=>hp0p) (λp' y hy hyk=>?_) (.inl ⟨rfl,rfl⟩) (λp' hpp=>⟨λh=>absurd h.2 hpp,λh=>(by cases h.1)⟩) (λg hg=>?_) k1 inv.nx k2 k3
     .rw[inv.done p' y hy hyk];constructor
      .rintro(h | h | ⟨h,_⟩)
       .exact .inr ⟨rfl,h⟩
       .exact .inl h
       .cases h
      .rintro(h | ⟨_,h⟩)
       .exact .inr (.inl h)
       .exact .inl h
     .injection hg with hg;subst hg;refine⟨hrow k2,λhI=>by have:=inv.heap.lt _ hI;omega,λb r hb e=>?_,inv.ext.size,.inl ⟨rfl,rfl⟩⟩;have:=(inv.heap.rep b r hb).lt;omega
    .have hbefore':∀(p':Nat) y,p'<p->q[p']?=some y->A2 y.2.k=false->p'<p0\/(E.isSome=true/\p'=pe):=by
      intro p' y hlt hy hyk;exact(inv.done p' y hy hyk).1 (hbefore hpe p' y hlt hy hyk)
     have keepdone:A2 mi'.k=true->∀(p':Nat) y,q[p']?=some y->A2 y.2.k=false->(p'=p\/S.getD y.1 false=true ↔ p'<p0\/(E.isSome=true/\p'=pe)):=by
      intro hquiet p' y hy hyk;rw[inv.done p' y hy hyk];constructor
      .rintro(h | h)
       .subst h;rw[hx]at hy;injection hy with hy;subst hy;rw[hquiet]at hyk;cases hyk
       .exact h
      .exact λh=>.inr h
     rcases step p _ hx with⟨hquiet,hval,hst⟩ | ⟨hheavy,hwf,hv,hst⟩ | ⟨hheavy,hwt,H',nx',hek,hst⟩
     .simp only at hquiet hval hst;unfold HN at hval;split at hval
      .rename_i hwt;rw[zy (hi'.wants (hww.trans hwt))]
       have hval0:Bb Φ (st p0).H (st p0).nx mi'.k (mi'.xs.map (·.ev (st p).env))=some (vals p):=by
        by_cases hpp:p0<=p
        .by_cases hlt:p<pe\/E=none
         .have hf:=flat p0 p hpp (by omega) (λp' y h1 h2 h3=>by
           cases hyk:A2 y.2.k with
           | true=>rfl
           | false=>
            rcases hbefore' p' y h2 h3 hyk with h | ⟨h,h'⟩
            .omega
            .rcases hlt with hlt | hlt
             .omega
             .rw[hlt]at h;cases h)
          rw[<-hf.1,<-hf.2];exact hval
         .exfalso
          have hEs:E.isSome=true:=by
           cases hE:E with
           | none=>exact absurd (.inr hE) hlt
           | some g=>rfl
          obtain⟨p',y,h1,h2,h3,h4⟩:=hpart hEs;rcases hbefore' p' y (by omega) h3 h4 with h | ⟨_,h⟩<;>omega
        .have walk:∀p1,p<=p1->p1<=p0->Bb Φ (st p1).H (st p1).nx mi'.k (mi'.xs.map (·.ev (st p).env))=some (vals p):=by
          intro p1
          induction p1 with
          | zero=>
           intro h _
           have:p=0:=by omega
           subst this;exact hval
          | succ p1 ihp=>
           intro h1 h2;by_cases e:p=p1+1
           .subst e;exact hval
           .have hv1:=ihp (by omega) (by omega);have hle:=inv.le;have hy:q[p1]?=some q[p1]:=Xf (by have:=inv.le;omega);have hdy:=step p1 _ hy
            cases hyk:A2 (q[p1]).2.k with
            | true=>
             have:=L8 hdy hyk;rw[this.1,this.2];exact hv1
            | false=>
             by_cases hind:Gx mi'.k=true
             .exact ON hind hv1
             .have hlt:p<p1:=by
               rcases Xk p p1 with h | h
               .exact h
               .have:p1=p:=by omega
                subst this;rw[hx]at hy;injection hy with hy;rw[<-hy]at hyk;simp only at hyk;rw[hquiet]at hyk;cases hyk
              by_cases hp1e:p1=pe
              .subst hp1e;have hye:=hy;rw[hxe]at hye;injection hye with hye;refine L9 ((JX hΦ hdy (fresh p1 (by have:=inv.le;omega))).2 (.inl ?_)) hv1;rw[<-hye];exact(UN hke).2
              have hSy:=(inv.done p1 _ hy hyk).2 (.inl (by omega));have hok:=hd.pair p p1 _ _ hlt hx hy;unfold HP at hok;simp only[Xd]at hok;have h1':=hok.1.1.1;simp only[hquiet,hyk,Ya,Xu,Xm,beq_iff_eq]at h1';rcases h1' with(((h | h) | h) | h) | h
              .exact absurd h hind
              .exact L9 ((JX hΦ hdy (fresh p1 (by have:=inv.le;omega))).2 (.inl h)) hv1
              .exact hrun.again p p1 mi' (by simpa using h) (hms p _ hx)
              .have:=aft _ (idx p1 _ hy) h;rw[this]at hSy;cases hSy
              .exact absurd h hp1e
         exact walk p0 (by omega) (Xe _)
       have hek':Ah Φ ({ ((st p).only mi'.eyes)with H:=(st p0).H,nx:=(st p0).nx }:Ac).H ({ ((st p).only mi'.eyes)with H:=(st p0).H,nx:=(st p0).nx }:Ac).nx mi'.k (mi'.xs.map (·.ev ({ ((st p).only mi'.eyes)with H:=(st p0).H,nx:=(st p0).nx }:Ac).env))=some (vals p,(st p0).H,(st p0).nx):=by
        rw[hev];exact QS hval0
       have haop:=GQ (B:=B) hΦ hcop hek' L a w hi';refine .inl (EO ?_ (λ_ _ _ h=>h.elim) haop);rintro a' w' ⟨u,L',rfl,hru,hok',hnx',hm',hx'⟩
       exact next p0 E L' w' u inv.le inv.low (keepdone hquiet) (.inr hru) (λ_ _=>Iff.rfl) (early' u hm' hx' hpe) hok' hnx' hm' hx'
      .rename_i hwf;rw[zz (by rw[hi'.wants (hww.trans hwf)];simp)];injection hval with hval
       exact next p0 E L w undef inv.le inv.low (keepdone hquiet) (.inr (by rw[<-hval];simp only[Ae,An])) (λ_ _=>Iff.rfl) (early' undef (AO.refl _ _) (Ext.refl _ _ _) hpe) inv.heap inv.nx (AO.refl _ _) (Ext.refl _ _ _)
      .cases hval
     all_goals
      simp only at hheavy hst
      have hp0p:p0<=p:=by
       rcases Xk p p0 with h | h
       .have:=(inv.done p _ hx hheavy).2 (.inl h);simp only at this;rw[this]at hun;cases hun
       .exact h
      have hEp:E.isSome=true->p<pe:=λhEs=>by
       rcases Xk p pe with h | h
       .exact h
       .have:=late (by omega) hheavy;rw[this]at hEs;cases hEs
      have hf:=flat p0 p hp0p (by omega) (λp' y h1 h2 h3=>by
       cases hyk:A2 y.2.k with
       | true=>rfl
       | false=>
        rcases hbefore' p' y h2 h3 hyk with h | ⟨h,h'⟩
        .omega
        .have:=hEp h;omega)
      have hdone':∀(p':Nat) y,q[p']?=some y->A2 y.2.k=false->(p'=p\/S.getD y.1 false=true ↔ p'<p+1\/(E.isSome=true/\p'=pe)):=by
       intro p' y hy hyk;rw[inv.done p' y hy hyk];constructor
       .rintro(h | h | h)
        .exact .inl (by omega)
        .exact .inl (by omega)
        .exact .inr h
       .rintro(h | h)
        .by_cases e:p'=p
         .exact .inl e
         .exact .inr (hbefore' p' y (by omega) hy hyk)
        .exact .inr (.inr h)
      have hlow':E.isSome=true->p+1<=pe:=λh=>hEp h
     .rw[zz (by rw[hi'.wants (hww.trans hwf)];simp)]
      have e1:(st (p+1)).H=(st p0).H:=by rw[hst,D9,hf.1]
      have e2:(st (p+1)).nx=(st p0).nx:=by rw[hst,EP,hf.2]
      refine next (p+1) E L w undef (by omega) hlow' hdone' (.inr (by rw[hv];simp only[Ae,An])) (λ_ _=>Iff.rfl) (early' undef (AO.refl _ _) (by rw[e1];exact Ext.refl _ _ _) hpe) (by rw[e1];exact inv.heap) (by rw[e2];exact inv.nx) (AO.refl _ _) (by rw[e1];exact Ext.refl _ _ _)
     .rw[zy (hi'.wants (hww.trans hwt))]
      have hek':Ah Φ ({ ((st p).only mi'.eyes)with H:=(st p0).H,nx:=(st p0).nx }:Ac).H ({ ((st p).only mi'.eyes)with H:=(st p0).H,nx:=(st p0).nx }:Ac).nx mi'.k (mi'.xs.map (·.ev ({ ((st p).only mi'.eyes)with H:=(st p0).H,nx:=(st p0).nx }:Ac).env))=some (vals p,H',nx'):=by
       rw[hev];show Ah Φ (st p0).H (st p0).nx mi'.k _=_;rw[<-hf.1,<-hf.2];exact hek
      have haop:=GQ (B:=B) hΦ hcop hek' L a w hi';refine .inl (EO ?_ (λ_ _ _ h=>h.elim) haop);rintro a' w' ⟨u,L',rfl,hru,hok',hnx',hm',hx'⟩
      have e1:(st (p+1)).H=H':=by rw[hst,D9]
      have e2:(st (p+1)).nx=nx':=by rw[hst,EP]
      exact next (p+1) E L' w' u (by omega) hlow' hdone' (.inr hru) (λ_ _=>Iff.rfl) (early' u hm' (by rw[e1];exact hx') hpe) (by rw[e1];exact hok') (by rw[e2];exact hnx') hm' (by rw[e1];exact hx')
 obtain⟨hok,hm,hx⟩:=hi0.heap.of_heap (w':={ w0 with drawn:=w0.drawn+1 }) ⟨rfl,rfl,rfl⟩ rfl
 have hfalse:∀i,(X2 ops.size false).getD i false=false:=by
  intro i;simp only[Xo,Y9];split<;>rfl
 refine main ops.size _ 0 none L0 a0 _ (by simp) ?_ (by omega) ⟨X3 _,λh=>(by cases h),?_,by rw[h0];exact hok,by rw[h0];exact hi0.nx,hi0.base,hi0.size,hi0.defers,?_,λg h=>(by cases h),?_,by rw[h0];exact hx,λ_ _=>rfl⟩ (λh=>by cases h)
 .intro i o _ h;rw[hfalse]at h;cases h
 .intro p x _ _;rw[hfalse];constructor
  .intro h;cases h
  .rintro(h | ⟨h,_⟩)
   .omega
   .cases h
 .intro p x _ h;rw[hfalse]at h;cases h
 .intro k u _ hu;exact Ae.keep hm u (hi0.env k u hu)
end
inductive Ak where
 | skip
 | ops (l:List Av)
 | draw (l:List Av)
 | drawG (k:Nat) (l:List GI)
 | drawE (l:List GI)
 | seq (a b:Ak)
 | cond (c:Opd) (a b:Ak)
 | block (id:Nat) (b:Ak)
 | loop (b:Ak)
 | exit (id:Nat)
 | ret
 | scope (b:Ak)
def MX (A:List Nat) (l:List Av):List Nat:=
 let idx:=Xv l.length
 let hs:=idx.filter λi=>!((l[i]?).map λm=>A2 m.k).getD true
 let qs:=idx.filter λi=>((l[i]?).map λm=>A2 m.k).getD true
 (Xv (hs.length+1)).flatMap λg=>(qs.filter λi=>(hs.filter λh=>(A.getD i 0).testBit h).length==g)++(hs[g]?).toList
def GU (ops:Array Oper) (q:List (Nat×Av)):Bool:=
 let A:=Dm ops.toList []
 q.zipIdx.all λx=>match x.1.2.k with
  | .hcall _=>(q.drop (x.2+1)).all λy=>(A.getD y.1 0).testBit x.1.1
  | _=>true
theorem mO {ops:Array Oper} {q:List (Nat×Av)} (h:GU ops q=true) {p:Nat} {x:Nat×Av} {f:Nat} (hx:q[p]?=some x) (hk:x.2.k = .hcall f) :
  ∀(p':Nat) y,p<p'->q[p']?=some y->((Dm ops.toList []).getD y.1 0).testBit x.1=true:=by
 intro p' y hlt hy;unfold GU at h;have:=Xh.1 h (x,p) (by rw[X0];exact hx);simp only[hk]at this;refine Xh.1 this y ?_;refine Xw (i:=p'-(p+1)) ?_;rw[Yw,show p+1+(p'-(p+1))=p' by omega];exact hy
def Re (ops:Array Oper) (l:List Av) (π:List Nat):Option Ak:=
 let q:=BD l π
 let pk:=QV q
 let R:=QW (Dm ops.toList []) q
 let is:=JV pk.1 pk.2 R q
 if(HO ops l π pk.1 pk.2 R&&GS pk.1 pk.2 R is)&&GU ops q then some (.drawG pk.2 is)else none
theorem UR (pa k:Nat) (R:List (Nat×Nat)) (q:List (Nat×Av)):(JV pa k R q).map GI.mini=q.map Prod.snd:=by
 unfold JV;rw[X6]
 have:∀(q:List (Nat×Av)) (n:Nat),(q.zipIdx n).map (GI.mini∘λx=>if pa<=x.2/\x.2<pa+k then .g (x.2-pa) x.1.2 else .o x.1.2 (R.any λr=>r.1==x.2) ((R.filter λr=>r.2==x.2).map Prod.fst))=q.map Prod.snd:=by
  intro q
  induction q with
  | nil=>intro n;rfl
  | cons a q ih=>
   intro n;simp only[List.zipIdx_cons,Xb,ih];congr 1;simp only[Function.comp];split<;>rfl
 exact this q 0
theorem mP {ops:Array Oper} {l:List Av} {π:List Nat} {M:Ak} (h:Re ops l π=some M) :
  ∃pa k R is,M = .drawG k is/\HO ops l π pa k R=true/\GS pa k R is=true/\is.map GI.mini=(BD l π).map Prod.snd/\GU ops (BD l π)=true:=by
 unfold Re at h;simp only at h;split at h
 .rename_i hc;rw[Xd,Xd]at hc;injection h with h;exact⟨_,_,_,_,h.symm,hc.1.1,hc.1.2,UR _ _ _ _,hc.2⟩
 .cases h
def Rh (ops:Array Oper) (l:List Av) (π:List Nat):Option Ak:=
 let q:=BD l π
 let R:=QW (Dm ops.toList []) q
 match (Xv q.length).find? λpe=>drawE ops l π pe R with
 | some _=>if GS 0 0 R (JV 0 0 R q)&&GU ops q then some (.drawE (JV 0 0 R q))else none
 | none=>none
theorem mQ {ops:Array Oper} {l:List Av} {π:List Nat} {M:Ak} (h:Rh ops l π=some M) :
  ∃pe R is,M = .drawE is/\drawE ops l π pe R=true/\GS 0 0 R is=true/\is.map GI.mini=(BD l π).map Prod.snd/\GU ops (BD l π)=true:=by
 unfold Rh at h;simp only at h;split at h
 .rename_i pe hpe;split at h
  .rename_i hc;rw[Xd]at hc;injection h with h;have hp:=List.find?_some hpe;exact⟨pe,_,_,h.symm,hp,hc.1,UR _ _ _ _,hc.2⟩
  .cases h
 .cases h
def US (ops:Array Oper) (l:List Av) (π:List Nat):Option Ak:=
 match Re ops l π with
 | some M=>some M
 | none=>Rh ops l π
def comp (P:Program) (G:Ay) (N:Nat):Code->Option Ak
 | .skip=>some .skip
 | .label _=>some .skip
 | .region _ ops draw=>match ops.toList.mapM (DX P G N draw ops)with
  | some l=>if draw then
    (if HO ops l (MX (Dm ops.toList []) l) 0 0 []&&GU ops (BD l (MX (Dm ops.toList []) l))then some (.draw ((BD l (MX (Dm ops.toList []) l)).map Prod.snd))
    else US ops l (MX (Dm ops.toList []) l))
   else some (.ops l)
  | none=>none
 | .seq a b=>match comp P G N a,comp P G N b with
  | some x,some y=>some (.seq x y)
  | _,_=>none
 | .cond c a b=>match comp P G N a,comp P G N b with
  | some x,some y=>some (.cond (AP G c) x y)
  | _,_=>none
 | .block id b=>match comp P G N b with
  | some x=>some (.block id x)
  | none=>none
 | .loop b=>match comp P G N b with
  | some x=>some (.loop x)
  | none=>none
 | .exit id=>some (.exit id)
 | .ret=>some .ret
 | .scope b=>match comp P G N b with
  | some x=>some (.scope x)
  | none=>none
 | _=>none
def MC (P:Program) (G:Ay) (B N:Nat) (M:Ak) (Q:Exit->Ac->Prop) (s:Ac):Prop:=
 ∀c,comp P G N c=some M->s.n=N->Cd P G B c Q s
structure Ctx (P:Program) (G:Ay) (Φ:AC):Prop where
 mix:P.follows .mixedOrders=true
 sound:Φ.Sound P G
section
variable {P : Program} {G : Ay} {B N : Nat} {Φ : AC} {Q Q' : Exit -> Ac -> Prop} {s s' : Ac}
theorem Eg {c:Code} {M:Ak} (h:comp P G N c=some M) :
  match M with
  | .skip=>c = .skip\/∃l,c = .label l
  | .ops l=>∃id ops,c = .region id ops false/\ops.toList.mapM (DX P G N false ops)=some l
  | .draw l=>∃id ops lt π,c = .region id ops true/\ops.toList.mapM (DX P G N true ops)=some lt/\HO ops lt π 0 0 []=true/\l=(BD lt π).map Prod.snd/\GU ops (BD lt π)=true
  | .drawG k is=>∃id ops lt π pa R,c = .region id ops true/\ops.toList.mapM (DX P G N true ops)=some lt/\HO ops lt π pa k R=true/\GS pa k R is=true/\is.map GI.mini=(BD lt π).map Prod.snd/\GU ops (BD lt π)=true
  | .drawE is=>∃id ops lt π pe R,c = .region id ops true/\ops.toList.mapM (DX P G N true ops)=some lt/\drawE ops lt π pe R=true/\GS 0 0 R is=true/\is.map GI.mini=(BD lt π).map Prod.snd/\GU ops (BD lt π)=true
  | .seq x y=>∃a b,c = .seq a b/\comp P G N a=some x/\comp P G N b=some y
  | .cond k x y=>∃k0 a b,c = .cond k0 a b/\k=AP G k0/\comp P G N a=some x/\comp P G N b=some y
  | .block id x=>∃b,c = .block id b/\comp P G N b=some x
  | .loop x=>∃b,c = .loop b/\comp P G N b=some x
  | .exit id=>c = .exit id
  | .ret=>c = .ret
  | .scope x=>∃b,c = .scope b/\comp P G N b=some x:=by
 cases c<;>simp only[comp]at h
 case skip=>injection h with h;subst h;exact .inl rfl
 case label l=>injection h with h;subst h;exact .inr ⟨l,rfl⟩
 case region id ops draw=>
  split at h
  .rename_i l hl
   cases draw with
   | false=>simp only[Xr,if_false]at h;injection h with h;subst h;exact⟨id,ops,rfl,hl⟩
   | true=>
    simp only[if_true]at h;split at h
    .rename_i hd;rw[Xd]at hd;injection h with h;subst h;exact⟨id,ops,l,_,rfl,hl,hd.1,rfl,hd.2⟩
    .unfold US at h;split at h
     .rename_i M' hM;injection h with h;subst h;obtain⟨pa,k,R,is,rfl,h1,h2,h3⟩:=mP hM;exact⟨id,ops,l,_,pa,R,rfl,hl,h1,h2,h3⟩
     .obtain⟨pe,R,is,rfl,h1,h2,h3⟩:=mQ h;exact⟨id,ops,l,_,pe,R,rfl,hl,h1,h2,h3⟩
  .cases h
 case seq a b=>
  split at h
  .rename_i x y hx hy;injection h with h;subst h;exact⟨a,b,rfl,hx,hy⟩
  .cases h
 case cond k a b=>
  split at h
  .rename_i x y hx hy;injection h with h;subst h;exact⟨k,a,b,rfl,rfl,hx,hy⟩
  .cases h
 case block id b=>
  split at h
  .rename_i x hx;injection h with h;subst h;exact⟨b,rfl,hx⟩
  .cases h
 case loop b=>
  split at h
  .rename_i x hx;injection h with h;subst h;exact⟨b,rfl,hx⟩
  .cases h
 case exit id=>injection h with h;subst h;rfl
 case ret=>injection h with h;subst h;rfl
 case scope b=>
  split at h
  .rename_i x hx;injection h with h;subst h;exact⟨b,rfl,hx⟩
  .cases h
 all_goals cases h
theorem MC.sub {M:Ak} (hs:Sub P G B s s') (hn:s'.n=s.n) (h:MC P G B N M Q s'):MC P G B N M Q s:=
 λc hc hN=>(h c hc (hn.trans hN)).sub hs
theorem MC.mono {M:Ak} (h:MC P G B N M Q s) (hq:∀e s1,Q e s1->Q' e s1):MC P G B N M Q' s:=λc hc hN=>(h c hc hN).mono hq
def mR (P:Program) (G:Ay) (B N:Nat) (y:Ak) (Q:Exit->Ac->Prop):Exit->Ac->Prop
 | .normal,s=>s.n=N/\MC P G B N y Q s
 | e,s=>Q e s
theorem JY {x y:Ak} (h:MC P G B N x (mR P G B N y Q) s):MC P G B N (.seq x y) Q s:=by
 intro c hc hn;obtain⟨a,b,rfl,ha,hb⟩:=Eg hc;refine Oz ((h a ha hn).mono λe s1 q=>?_)
 cases e<;>first | exact q.2 b hb q.1 | exact q
theorem JZ {k:Opd} {x y:Ak} {t:Bool} (hk:k.ev s.env = .t (.v (.bool t))) (h:MC P G B N (if t then x else y) Q s):MC P G B N (.cond k x y) Q s:=by
 intro c hc hn;obtain⟨k0,a,b,rfl,rfl,ha,hb⟩:=Eg hc;rw[JQ]at hk;refine iV hk ?_;cases t
 .exact h b hb hn
 .exact h a ha hn
theorem BI {id:Nat} {x:Ak} (h:MC P G B N x (F8 id Q) s):MC P G B N (.block id x) Q s:=by
 intro c hc hn;obtain⟨b,rfl,hb⟩:=Eg hc;exact iW (h b hb hn)
def HQ (Q:Exit->Ac->Prop):Exit->Ac->Prop
 | .goto _,_=>False
 | e,s=>Q e s
theorem UT {x:Ak} (h:MC P G B N x (HQ Q) s):MC P G B N (.scope x) Q s:=by
 intro c hc hn;obtain⟨b,rfl,hb⟩:=Eg hc;intro L a w hi;refine wp_scope_straight (wp_mono (h b hb hn L a w hi) ?_);rintro e a' w' ⟨s1,L1,q,AY⟩
 cases e with
 | goto l=>exact q.elim
 | normal=>exact⟨s1,L1,q,AY⟩
 | exit i=>exact⟨s1,L1,q,AY⟩
 | ret=>exact⟨s1,L1,q,AY⟩
 | panic ch=>exact⟨s1,L1,q,AY⟩
 | outgrown=>exact⟨s1,L1,q,AY⟩
theorem OP {x:Ak} (Inv:Nat->Ac->Prop) (n:Nat) (h0:Inv n s) (hN:∀n s,Inv n s->s.n=N) (round:∀n s,Inv n s->MC P G B N x (TZ P G B Inv n Q) s):MC P G B N (.loop x) Q s:=by
 intro c hc _;obtain⟨b,rfl,hb⟩:=Eg hc;exact iX Inv n h0 λn s hi=>round n s hi b hb (hN n s hi)
noncomputable def BE (Φ:AC):Ak->Ac->Option (Exit×Ac)
 | .skip,s=>some (.normal,s)
 | .ops l,s=>match GR Φ l s with
  | some s1=>some (.normal,s1)
  | none=>none
 | .draw l,s=>match Gy Φ l s with
  | some s1=>some (.normal,s1)
  | none=>none
 | .drawG k l,s=>match Ex Φ k 0 0 [] l s with
  | some s1=>some (.normal,s1)
  | none=>none
 | .drawE l,s=>match Ex Φ 0 0 0 [] l s with
  | some s1=>some (.normal,s1)
  | none=>none
 | .seq a b,s=>match BE Φ a s with
  | some (.normal,s1)=>BE Φ b s1
  | r=>r
 | .cond c a b,s=>match c.ev s.env with
  | .t (.v (.bool t))=>bif t then BE Φ a s else BE Φ b s
  | _=>none
 | .block id b,s=>match BE Φ b s with
  | some (.exit i,s1)=>if i=id then some (.normal,s1)else some (.exit i,s1)
  | r=>r
 | .loop _,_=>none
 | .exit id,s=>some (.exit id,s)
 | .ret,s=>some (.ret,s)
 | .scope b,s=>match BE Φ b s with
  | some (.goto _,_)=>none
  | r=>r
theorem mS {m:Av} (h:IX Φ s m=some s'):s'.n=s.n:=by
 unfold IX at h;split at h
 .split at h
  .injection h with h;subst h;rw[F9]
  .cases h
 .injection h with h;subst h;rw[F9]
 .cases h
theorem UU:∀{l:List Av} {s s':Ac},GR Φ l s=some s'->s'.n=s.n
 | [],s,s',h=>by simp only[GR,Xa.injEq]at h;rw[h]
 | m::l,s,s',h=>by
  simp only[GR]at h;split at h
  .rename_i s1 h1;rw[UU h,mS h1]
  .cases h
theorem UV:∀{l:List Av} {s s':Ac},Gy Φ l s=some s'->s'.n=s.n
 | [],s,s',h=>by simp only[Gy,Xa.injEq]at h;rw[h]
 | m::l,s,s',h=>by
  simp only[Gy]at h;split at h
  .rename_i s1 h1;rw[UV h];obtain⟨v,hv⟩:=UD h1;exact(OL hv).2
  .cases h
theorem OQ {k:Nat}:∀(l:List GI) {n b:Nat} {pd:Ew} {s s':Ac},Ex Φ k n b pd l s=some s'->s'.n=s.n
 | [],n,b,pd,s,s',h=>by simp only[Ex,Xa.injEq]at h;rw[h]
 | .o m kp ag::r,n,b,pd,s,s',h=>by
  simp only[Ex]at h;split at h
  .split at h
   .rw[OQ r h,F9]
   .cases h
  .cases h
 | .g j m::r,n,b,pd,s,s',h=>by
  simp only[Ex]at h;split at h
  .rw[OQ r h,F9]
  .cases h
theorem Ey:∀(M:Ak) {s:Ac} {e:Exit} {s':Ac},BE Φ M s=some (e,s')->s'.n=s.n
 | .skip,s,e,s',h=>by simp only[BE,Xa.injEq,Prod.mk.injEq]at h;rw[h.2]
 | .ops l,s,e,s',h=>by
  simp only[BE]at h;split at h
  .rename_i s1 h1;simp only[Xa.injEq,Prod.mk.injEq]at h;rw[<-h.2,UU h1]
  .cases h
 | .draw l,s,e,s',h=>by
  simp only[BE]at h;split at h
  .rename_i s1 h1;simp only[Xa.injEq,Prod.mk.injEq]at h;rw[<-h.2,UV h1]
  .cases h
 | .drawG k l,s,e,s',h=>by
  simp only[BE]at h;split at h
  .rename_i s1 h1;simp only[Xa.injEq,Prod.mk.injEq]at h;rw[<-h.2,OQ l h1]
  .cases h
 | .drawE l,s,e,s',h=>by
  simp only[BE]at h;split at h
  .rename_i s1 h1;simp only[Xa.injEq,Prod.mk.injEq]at h;rw[<-h.2,OQ l h1]
  .cases h
 | .seq a b,s,e,s',h=>by
  simp only[BE]at h;split at h
  .rename_i s1 h1;rw[Ey b h,Ey a h1]
  .exact Ey a h
 | .cond c a b,s,e,s',h=>by
  simp only[BE]at h;split at h
  .rename_i t ht;cases t
   .exact Ey b h
   .exact Ey a h
  .cases h
 | .block id b,s,e,s',h=>by
  simp only[BE]at h;split at h
  .rename_i i s1 h1;split at h
   .simp only[Xa.injEq,Prod.mk.injEq]at h;rw[<-h.2,Ey b h1]
   .simp only[Xa.injEq,Prod.mk.injEq]at h;rw[<-h.2,Ey b h1]
  .exact Ey b h
 | .loop _,s,e,s',h=>by simp[BE]at h
 | .exit id,s,e,s',h=>by simp only[BE,Xa.injEq,Prod.mk.injEq]at h;rw[h.2]
 | .ret,s,e,s',h=>by simp only[BE,Xa.injEq,Prod.mk.injEq]at h;rw[h.2]
 | .scope b,s,e,s',h=>by
  simp only[BE]at h;split at h
  .cases h
  .exact Ey b h
theorem Eh (hΦ:Ctx P G Φ):∀(M:Ak) {Q:Exit->Ac->Prop} {s:Ac} {e:Exit} {s':Ac},BE Φ M s=some (e,s')->Q e s'->MC P G B N M Q s
 | .skip,Q,s,e,s',h,hq=>by
  simp only[BE,Xa.injEq,Prod.mk.injEq]at h;obtain⟨rfl,rfl⟩:=h;intro c hc hn;rcases Eg hc with rfl | ⟨l,rfl⟩
  .exact TU hq
  .exact TV hq
 | .ops l,Q,s,e,s',h,hq=>by
  simp only[BE]at h;split at h
  .rename_i s1 h1;simp only[Xa.injEq,Prod.mk.injEq]at h;obtain⟨rfl,rfl⟩:=h;intro c hc hn;obtain⟨id,ops,rfl,hl⟩:=Eg hc;exact jC (QR hΦ.sound _ (JU hl) hn h1 hq)
  .cases h
 | .draw l,Q,s,e,s',h,hq=>by
  simp only[BE]at h;split at h
  .rename_i s1 h1;simp only[Xa.injEq,Prod.mk.injEq]at h;obtain⟨rfl,rfl⟩:=h;intro c hc hn;obtain⟨id,ops,lt,π,rfl,hl,hd,rfl,_⟩:=Eg hc;obtain⟨st,vals,ht⟩:=mF h1;exact UK hΦ.mix hΦ.sound hl hd hn ht hq
  .cases h
 | .drawG k l,Q,s,e,s',h,hq=>by
  simp only[BE]at h;split at h
  .rename_i s1 h1;simp only[Xa.injEq,Prod.mk.injEq]at h;obtain⟨rfl,rfl⟩:=h;intro c hc hn;obtain⟨id,ops,lt,π,pa,R,rfl,hl,hd,hsh,he,_⟩:=Eg hc;obtain⟨st,vals,ht⟩:=Rc h1 hsh;rw[he]at ht;exact UK hΦ.mix hΦ.sound hl hd hn ht hq
  .cases h
 | .drawE l,Q,s,e,s',h,hq=>by
  simp only[BE]at h;split at h
  .rename_i s1 h1;simp only[Xa.injEq,Prod.mk.injEq]at h;obtain⟨rfl,rfl⟩:=h;intro c hc hn;obtain⟨id,ops,lt,π,pe,R,rfl,hl,hd,hsh,he,_⟩:=Eg hc;obtain⟨st,vals,ht⟩:=Rc h1 hsh;rw[he]at ht;exact mN hΦ.mix hΦ.sound hl hd hn ht hq
  .cases h
 | .seq a b,Q,s,e,s',h,hq=>by
  intro c hc hn;refine JY ?_ c hc hn;simp only[BE]at h;split at h
  .rename_i s1 h1;exact Eh hΦ a h1 ⟨(Ey a h1).trans hn,Eh hΦ b h hq⟩
  .rename_i hne;refine Eh hΦ a h ?_;cases e
   case normal=>exact absurd h (hne s')
   all_goals exact hq
 | .cond k a b,Q,s,e,s',h,hq=>by
  simp only[BE]at h;split at h
  .rename_i t ht;refine JZ ht ?_;cases t
   .exact Eh hΦ b h hq
   .exact Eh hΦ a h hq
  .cases h
 | .block id b,Q,s,e,s',h,hq=>by
  refine BI ?_;simp only[BE]at h;split at h
  .rename_i i s1 h1;refine Eh hΦ b h1 ?_;simp only[F8];split at h
   .rename_i hid;rw[zy hid];simp only[Xa.injEq,Prod.mk.injEq]at h;obtain⟨rfl,rfl⟩:=h;exact hq
   .rename_i hid;rw[zz hid];simp only[Xa.injEq,Prod.mk.injEq]at h;obtain⟨rfl,rfl⟩:=h;exact hq
  .rename_i hne;refine Eh hΦ b h ?_;cases e
   case exit i=>exact absurd h (hne i s')
   all_goals exact hq
 | .loop _,Q,s,e,s',h,hq=>by simp[BE]at h
 | .exit id,Q,s,e,s',h,hq=>by
  simp only[BE,Xa.injEq,Prod.mk.injEq]at h;obtain⟨rfl,rfl⟩:=h;intro c hc hn;have:=Eg hc;simp only at this;subst this;exact TW hq
 | .ret,Q,s,e,s',h,hq=>by
  simp only[BE,Xa.injEq,Prod.mk.injEq]at h;obtain⟨rfl,rfl⟩:=h;intro c hc hn;have:=Eg hc;simp only at this;subst this;exact TX hq
 | .scope b,Q,s,e,s',h,hq=>by
  refine UT ?_;simp only[BE]at h;split at h
  .cases h
  .rename_i hne;refine Eh hΦ b h ?_;cases e
   case goto l=>exact absurd h (hne l s')
   all_goals exact hq
theorem BF {α:Type}:∀{l:List (Nat×α)} {k:Nat} {x:α},Aa l k=some x->(k,x)∈l
 | [],k,x,h=>by simp[Aa]at h
 | (j,y)::l,k,x,h=>by
  simp only[Aa]at h;by_cases e:j=k
  .rw[zy e]at h;injection h with h;subst h;subst e;simp
  .rw[zz e]at h;exact List.mem_cons_of_mem _ (BF h)
theorem AJ (hn:s'.n=s.n) (hx:s'.nx=s.nx) (he:∀q∈s'.env,Aa s.env q.1=some q.2) (hH:∀q∈s'.H,Aa s.H q.1=some q.2):Sub P G B s s':=by
 intro L a w hi;have back:∀b r,Aa s'.H b=some r->Aa s.H b=some r:=λb r h=>hH _ (BF h)
 refine⟨L,⟨⟨hi.heap.lt,λb r h=>hi.heap.rep b r (back b r h),λb r h=>hi.heap.apart b r (back b r h),λb b' r r' h h'=>hi.heap.inj b b' r r' (back b r h) (back b' r' h'),λb r h=>hi.heap.nx b r (back b r h),hi.heap.glob⟩,
  by rw[hx];exact hi.nx,hi.base,by rw[hn];exact hi.size,hi.defers,λk p h=>hi.env k p (he _ (BF h))⟩,?_,λ_ _=>rfl⟩
 exact⟨Xe _,λ_ _ _=>rfl,λ_ h=>h,λ_ h=>.inl h,λg ⟨b,r,h,e⟩=>.inr ⟨b,r,back b r h,e⟩,BT.refl w,BL.refl w⟩
mutual
def ren (σ:Nat->Nat):PV->PV
 | .t x=>.t x
 | .row b o n z=>.row (σ b) o n z
 | .ptr b o=>.ptr (σ b) o
 | .ag cs=>.ag (AX σ cs)
 | .tu cs=>.tu (AX σ cs)
 | .fn f a c=>.fn f (AX σ a) (AX σ c)
 | .ic t x=>.ic t (ren σ x)
 | .mp b=>.mp (σ b)
 | .dead=>.dead
def AX (σ:Nat->Nat):List PV->List PV
 | []=>[]
 | p::ps=>ren σ p::AX σ ps
end
mutual
def under (n:Nat):PV->Bool
 | .row b _ _ _=>decide (b<n)
 | .ptr b _=>decide (b<n)
 | .ag cs=>Bl n cs
 | .tu cs=>Bl n cs
 | .fn _ a c=>Bl n a&&Bl n c
 | .ic _ x=>under n x
 | .mp b=>decide (b<n)
 | _=>true
def Bl (n:Nat):List PV->Bool
 | []=>true
 | p::ps=>under n p&&Bl n ps
end
def BG (σ:Nat->Nat):Row->Row
 | .cells ty cs=>.cells ty (AX σ cs)
 | .iter t pos=>.iter t pos
 | .map kk es=>.map kk es
 | .lp l x k p=>.lp l x k (ren σ p)
 | .blk l o=>.blk l o
def BU (n:Nat):Row->Bool
 | .cells _ cs=>Bl n cs
 | .iter _ _=>true
 | .map _ _=>true
 | .lp _ _ _ p=>under n p
 | .blk _ _=>true
mutual
theorem HR {L:Loc} {w:World} {σ:Nat->Nat} {nx:Nat}:∀(p:PV) {u:Value},under nx p=true->Ae P L w (ren σ p) u->Ae P ⟨L.I,λb=>L.μ (σ b),nx⟩ w p u
 | .t x,u,_,h=>by simpa only[ren,Ae]using h
 | .row b o n z,u,hu,h=>by
  simp only[ren,Ae,under,decide_eq_true_eq]at h hu ⊢;exact⟨hu,h.2⟩
 | .ptr b o,u,hu,h=>by
  simp only[ren,Ae,under,decide_eq_true_eq]at h hu ⊢;exact⟨hu,h.2⟩
 | .ag cs,u,hu,h=>by
  simp only[ren,Ae,under]at h hu ⊢;obtain⟨us,e,h1,hl⟩:=h;exact⟨us,e,h1,Kb cs hu hl⟩
 | .tu cs,u,hu,h=>by
  simp only[ren,Ae,under]at h hu ⊢;obtain⟨us,e,hl⟩:=h;exact⟨us,e,Kb cs hu hl⟩
 | .fn f a c,u,hu,h=>by
  simp only[ren,Ae,under,Xd]at h hu ⊢;obtain⟨us,vs,e,h1,h2⟩:=h;exact⟨us,vs,e,Kb a hu.1 h1,Kb c hu.2 h2⟩
 | .ic t x,u,hu,h=>by
  simp only[ren,Ae,under]at h hu ⊢;obtain⟨y,e,hy⟩:=h;exact⟨y,e,HR x hu hy⟩
 | .mp b,u,hu,h=>by
  simp only[ren,Ae,under,decide_eq_true_eq]at h hu ⊢;exact⟨hu,h.2⟩
 | .dead,u,_,_=>by simp only[Ae]
theorem Kb {L:Loc} {w:World} {σ:Nat->Nat} {nx:Nat}:∀(ps:List PV) {us:List Value},Bl nx ps=true->A3 P L w (AX σ ps) us->A3 P ⟨L.I,λb=>L.μ (σ b),nx⟩ w ps us
 | [],us,_,h=>by simpa only[AX,A3]using h
 | p::ps,us,hu,h=>by
  simp only[AX,A3,Bl,Xd]at h hu ⊢;obtain⟨x,xs,e,hx,hxs⟩:=h;exact⟨x,xs,e,HR p hu.1 hx,Kb ps hu.2 hxs⟩
end
theorem MY (σ:Nat->Nat):∀(ps:List PV) (j:Nat),(AX σ ps)[j]?=(ps[j]?).map (ren σ)
 | [],j=>by simp[AX]
 | p::ps,0=>by simp[AX]
 | p::ps,j+1=>by simp[AX,MY σ ps j]
theorem MZ {n:Nat}:∀{ps:List PV} {j:Nat} {p:PV},Bl n ps=true->ps[j]?=some p->under n p=true
 | [],j,p,_,h=>by simp at h
 | q::ps,0,p,hu,h=>by simp only[Bl,Xd]at hu;simp at h;subst h;exact hu.1
 | q::ps,j+1,p,hu,h=>by simp only[Bl,Xd]at hu;exact MZ hu.2 (by simpa using h)
theorem Na (σ:Nat->Nat):∀(ps:List PV),(AX σ ps).length=ps.length
 | []=>rfl
 | p::ps=>by simp[AX,Na σ ps]
theorem Kc (σ:Nat->Nat) (hn:s'.n=s.n) (hB:B<=s'.nx) (hσ:∀b,b<B->σ b=b) (he:∀q∈s'.env,Aa s.env q.1=some (ren σ q.2)/\under s'.nx q.2=true)
  (hH:∀q∈s'.H,Aa s.H (σ q.1)=some (BG σ q.2)/\q.1<s'.nx/\BU s'.nx q.2=true) (hinj:∀q∈s'.H,∀q'∈s'.H,σ q.1=σ q'.1->q.1=q'.1):Sub P G B s s':=by
 intro L a w hi;refine⟨⟨L.I,λb=>L.μ (σ b),s'.nx⟩,⟨⟨hi.heap.lt,λb r h=>?_,λb r h=>?_,λb b' r r' h h' e=>?_,λb r h=>(hH _ (BF h)).2.1,hi.heap.glob⟩,rfl,hB,by rw[hn];exact hi.size,hi.defers,λk p h=>?_⟩,?_,λb hb=>by show L.μ (σ b)=L.μ b;rw[hσ b hb]⟩
 .obtain⟨h1,h2,h3⟩:=hH _ (BF h);have:=hi.heap.rep _ _ h1
  cases r with
  | cells ty cs=>
   obtain⟨arr,ha,hl,hc⟩:=this;refine⟨arr,ha,by rw[Na]at hl;exact hl,λj c hj=>?_⟩;obtain⟨x,hx,h1x,hr⟩:=hc j (ren σ c) (by rw[MY,hj];rfl);exact⟨x,hx,h1x,HR c (MZ h3 hj) hr⟩
  | iter t pos=>exact this
  | map kk es=>exact this
  | lp l x k p=>exact⟨this.1,this.2.1,HR p h3 this.2.2⟩
  | blk l o=>exact this
 .exact hi.heap.apart _ _ (hH _ (BF h)).1
 .exact hinj _ (BF h) _ (BF h') (hi.heap.inj _ _ _ _ (hH _ (BF h)).1 (hH _ (BF h')).1 e)
 .obtain⟨h1,h2⟩:=he _ (BF h);exact HR p h2 (hi.env k _ h1)
 .exact⟨Xe _,λ_ _ _=>rfl,λ_ h=>h,λ_ h=>.inl h,λg ⟨b,r,h,e⟩=>.inr ⟨σ b,_,(hH _ (BF h)).1,e⟩,BT.refl w,BL.refl w⟩
def B5 (H:Ab) (F:List Nat) (p:PV):PV:=
 match toT H p with
 | some (x,F')=>if F'.all (F.contains ·)then .t x else p
 | none=>p
theorem UW {L:Loc} {H:Ab} {w:World} (hok:Bx P G L H w) (F:List Nat) {p:PV} {u:Value} (h:Ae P L w p u):Ae P { L with I:=λg=>L.I g\/HL L H F g } w (B5 H F p) u:=by
 have hm:AO L w { L with I:=λg=>L.I g\/HL L H F g } w:=⟨λg hg=>⟨.inl hg,rfl⟩,Xe _,λ_ _=>rfl,Xe _,BT.refl w⟩
 unfold B5;split
 .rename_i x F' hx;split
  .rename_i hF;simp only[Ae];exact QI hok p hx h F (λb hb=>by simpa using Xh.1 hF b hb)
  .exact Ae.keep hm p h
 .exact Ae.keep hm p h
def Cy (H:Ab) (F:List Nat):Row->Row
 | .cells ty cs=>.cells ty (cs.map (B5 H F))
 | r=>r
def Ac.frz (s:Ac) (F:List Nat):Ac:=
 { s with env:=s.env.map (λq=>(q.1,B5 s.H F q.2)),H:=(Dl s.H F).map (λq=>(q.1,Cy s.H F q.2)) }
theorem Fo {α β:Type} (f:α->β):∀(l:List (Nat×α)) (k:Nat),Aa (l.map λq=>(q.1,f q.2)) k=(Aa l k).map f
 | [],k=>by simp[Aa]
 | (j,x)::l,k=>by
  simp only[Xb,Aa,Fo f l k];split<;>rfl
theorem LF (F:List Nat):Sub P G B s (s.frz F):=by
 intro L a w hi
 have hm:AO L w { L with I:=λg=>L.I g\/HL L s.H F g } w:=⟨λg hg=>⟨.inl hg,rfl⟩,Xe _,λ_ _=>rfl,Xe _,BT.refl w⟩
 have back:∀b r,Aa (s.frz F).H b=some r->∃r0,Aa s.H b=some r0/\b∉F/\r=Cy s.H F r0:=by
  intro b r h;simp only[Ac.frz]at h;rw[Fo]at h;obtain⟨r0,h0,rfl⟩:=AR h;exact⟨r0,(Ef F s.H b r0 h0).1,(Ef F s.H b r0 h0).2,rfl⟩
 refine⟨{ L with I:=λg=>L.I g\/HL L s.H F g },⟨⟨?_,λb r h=>?_,λb r h hI=>?_,λb b' r r' h h' e=>?_,λb r h=>?_,?_⟩,hi.nx,hi.base,hi.size,hi.defers,λk p h=>?_⟩,?_,λ_ _=>rfl⟩
 .rintro b (h | ⟨k,_,⟨r,hr⟩,rfl⟩)
  .exact hi.heap.lt b h
  .exact(hi.heap.rep k r hr).lt
 .obtain⟨r0,h0,_,rfl⟩:=back b r h;have:=hi.heap.rep b r0 h0
  cases r0 with
  | cells ty cs=>
   obtain⟨arr,ha,hl,hc⟩:=this;refine⟨arr,ha,by simpa using hl,λj c hj=>?_⟩;simp only[Yd]at hj;obtain⟨c0,hc0,rfl⟩:=AR hj;obtain⟨x,hx,h1x,hr⟩:=hc j c0 hc0;exact⟨x,hx,h1x,UW hi.heap F hr⟩
  | iter t pos=>exact this
  | map kk es=>exact this
  | lp l x k p=>exact⟨this.1,this.2.1,Ae.keep hm p this.2.2⟩
  | blk l o=>exact this
 .obtain⟨r0,h0,hF,_⟩:=back b r h;rcases hI with hI | ⟨k,hk,⟨r1,h1⟩,e⟩
  .exact hi.heap.apart b r0 h0 hI
  .exact hF ((hi.heap.inj k b r1 r0 h1 h0 e)▸hk)
 .obtain⟨r0,h0,_,_⟩:=back b r h;obtain⟨r1,h1,_,_⟩:=back b' r' h';exact hi.heap.inj b b' r0 r1 h0 h1 e
 .obtain⟨r0,h0,_,_⟩:=back b r h;exact hi.heap.nx b r0 h0
 .exact ER hi.heap hm.keeps
 .simp only[Ac.frz]at h;rw[Fo]at h;obtain⟨p0,h0,rfl⟩:=AR h;exact UW hi.heap F (hi.env k p0 h0)
 .refine⟨Xe _,λ_ _ _=>rfl,λg h=>.inl h,λg h=>?_,λg ⟨b,r,h,e⟩=>?_,BT.refl w,BL.refl w⟩
  .rcases h with h | ⟨k,_,⟨r,hr⟩,e⟩
   .exact .inl h
   .exact .inr (.inr ⟨k,r,hr,e⟩)
  .obtain⟨r0,h0,_,_⟩:=back b r h;exact .inr ⟨b,r0,h0,e⟩
inductive RV where
 | tmp (t:Nat)
 | cell (t:Nat) (agg:Bool) (n:Nat)
def GV (P:Program):ResultVar->Option RV
 | .tmp t=>some (.tmp t)
 | .cell a t=>(Gt P t).map λq=>.cell a q.1 q.2
@[simp] def CH (s:Ac):List RV->Option (List PV)
 | []=>some []
 | .tmp t::r=>match Aa s.env t,CH s r with
  | some p,some ps=>some (p::ps)
  | _,_=>none
 | .cell a agg n::r=>match Aa s.env a,CH s r with
  | some (.ptr b o),some ps=>match Ao agg n s.H (.ptr b o)with
   | some q=>some (q::ps)
   | none=>none
  | _,_=>none
theorem Nb:∀{rs:List ResultVar} {vs:List RV} {ps:List PV},rs.mapM (GV P)=some vs->CH s vs=some ps->FX P s rs=some ps
 | [],vs,ps,h,hr=>by
  simp at h;subst h;simpa only[CH,FX]using hr
 | r::rs,vs,ps,h,hr=>by
  simp only[Ym,Yn,Yo]at h
  cases h1:GV P r with
  | none=>rw[h1]at h;cases h
  | some v=>
   rw[h1]at h
   cases h2:rs.mapM (GV P)with
   | none=>rw[h2]at h;cases h
   | some vs'=>
    rw[h2]at h;simp only[Yp,Xa.injEq]at h;subst h
    cases r with
    | tmp t=>
     simp only[GV,Xa.injEq]at h1;subst h1;simp only[CH]at hr;split at hr
     .rename_i p ps' hp hps;simp only[FX,hp,Nb h2 hps];exact hr
     .cases hr
    | cell a t=>
     simp only[GV]at h1;obtain⟨⟨agg,n⟩,hs,rfl⟩:=AR h1;simp only[CH]at hr;split at hr
     .rename_i b o ps' hp hps;split at hr
      .rename_i q hq;simp only[FX,hp,Nb h2 hps,UC hs,hq,Xl];exact hr
      .cases hr
     .cases hr
@[simp] def CF:List PV->PV
 | [p]=>p
 | ps=>match Ee ps with
  | some ts=>.t (.tu ts)
  | none=>.tu ps
def FC (vs:List RV) (R:T->Prop) (e:Exit) (s:Ac):Prop:=
 (e = .normal\/e = .ret)/\∃ps r F,CH s vs=some ps/\toT s.H (CF ps)=some (r,F)/\R r
@[simp] def OR:Nat->List T->List (Nat×PV)
 | _,[]=>[]
 | k,x::xs=>(k,.t x)::OR (k+1) xs
theorem UX:∀(xs:List T) (k:Nat),OR k xs=((xs.map PV.t).zipIdx k).map λp=>(p.2,p.1)
 | [],k=>rfl
 | x::xs,k=>by simp[OR,UX xs (k+1)]
@[simp] def IY (N:Nat) (args:List T):Ac:={ env:=OR 0 args,H:=[],nx:=0,n:=N }
theorem mT {f:FuncId} {fn:Func} {c:Code} {M:Ak} {vs:List RV} {args:List T} {R:T->Prop} (hf:P.funcs[f]?=some fn) (hb:fn.body=some c) (hname:(fn.name == "runtime.NumGoroutine")=false)
  (hc:comp P G N c=some M) (hrs:fn.results.toList.mapM (GV P)=some vs) (hN:args.length+(fn.ntmps-args.length)=N) (h:MC P G 0 N M (FC vs R) (IY N args)):AA P G f args R:=by
 refine⟨⟨fn,c,hf,hb,hname⟩,λI w us hlt hglob hargs=>calls_of_wp hf hb ?_⟩
 have hlen:us.size=args.length:=by simpa using hargs.length
 let L:Loc:=⟨I,λ_=>0,0⟩
 have hok:Bx P G L [] w:=⟨hlt,λb r h=>by simp[Aa]at h,λb r h=>by simp[Aa]at h,λb b' r r' h=>by simp[Aa]at h,λb r h=>by simp[Aa]at h,hglob⟩
 have hi:Interp P G 0 L (IY N args) { tmps:=us++X2 (fn.ntmps-us.size) undef,defers:=[] } w:=by
  refine⟨hok,rfl,X3 _,by simp[IY,hlen,hN],rfl,λk p hl=>?_⟩;simp only[IY,UX]at hl;obtain⟨_,hk⟩:=MS _ k 0 p hl;simp only[Nat.sub_zero]at hk;have hrep:=A3.ofT (P:=P) (L:=L) hargs;obtain⟨x,hx,hr⟩:=hrep.at_ k hk
  have hx':us[k]?=some x:=by simpa using hx
  have hk':k<us.size:=(Xs.1 hx').1;rw[Xo,Zb hk',hx'];exact hr
 refine wp_mono (h c hc rfl L _ w hi) λe a' w' ⟨s1,L1,q,hi1,hx,_⟩=>?_;obtain⟨he,ps,r,F,hres,hT,hR⟩:=q
 have hrv:IU P fn s1=some (CF ps):=by
  unfold IU;rw[Nb hrs hres];rcases ps with _ | ⟨x,_ | ⟨y,r⟩⟩<;>rfl
 obtain⟨v,hrun,hv⟩:=QK hi1 hrv;have hrt:=QI hi1.heap (CF ps) hT hv F (λ_ h=>h)
 have nomine:∀g,¬Fl L [] g:=λg ⟨b,r,h,_⟩=>by simp[Aa]at h
 have hfin:a'.defers=[]/\∃v,(results fn a'.tmps).run P w' = .ok v w' /\
   ∃v' r I',Ending.returned v = .returned v'/\R r/\An I' w' r v'/\BL w w'/\w.heap.size<=w'.heap.size/\(∀g,g<w.heap.size->w'.heap[g]?=w.heap[g]?) /\
   (∀g,I g->I' g)/\(∀g,I' g->I g\/w.heap.size<=g)/\(∀g,I' g->g<w'.heap.size):=by
  refine⟨hi1.defers,v,hrun,v,r,_,rfl,hR,hrt,hx.outer,hx.size,λg hg=>hx.same g hg (nomine g),λg hg=>.inl (hx.more g hg),λg hg=>?_,λg hg=>?_⟩
  .rcases hg with hg | ⟨b,_,⟨r0,h0⟩,e0⟩
   .rcases hx.new g hg with h | h | h
    .exact .inl h
    .exact .inr h
    .exact absurd h (nomine g)
   .rcases hx.mine g ⟨b,r0,h0,e0⟩with h | h
    .exact .inr h
    .exact absurd h (nomine g)
  .rcases hg with hg | ⟨b,_,⟨r0,h0⟩,rfl⟩
   .exact hi1.heap.lt g hg
   .exact(hi1.heap.rep b r0 h0).lt
 rcases he with rfl | rfl
 .exact hfin
 .exact hfin
def EA (P:Program) (G:Ay) (B:Nat) (vs:List RV) (R:PV->Ab->Nat->Prop) (e:Exit) (s:Ac):Prop:=
 (e = .normal\/e = .ret)/\∃s2 ps,Sub P G B s s2/\CH s2 vs=some ps/\R (CF ps) s2.H s2.nx
@[simp] def FD:Nat->List PV->List (Nat×PV)
 | _,[]=>[]
 | k,x::xs=>(k,x)::FD (k+1) xs
theorem OS:∀(xs:List PV) (k:Nat),FD k xs=(xs.zipIdx k).map λp=>(p.2,p.1)
 | [],k=>rfl
 | x::xs,k=>by simp[FD,OS xs (k+1)]
theorem mU {f:FuncId} {fn:Func} {c:Code} {M:Ak} {vs:List RV} {ps:List PV} {H H':Ab} {nx nx':Nat} {r:PV} (hf:P.funcs[f]?=some fn) (hb:fn.body=some c) (hname:(fn.name == "runtime.NumGoroutine")=false)
  (hc:comp P G N c=some M) (hrs:fn.results.toList.mapM (GV P)=some vs) (hN:ps.length+(fn.ntmps-ps.length)=N)
  (h:MC P G nx N M (EA P G nx vs λr0 H0 nx0=>r0=r/\H0=H'/\nx0=nx') ⟨FD 0 ps,H,nx,N⟩):AB P G f ps H nx r H' nx':=by
 refine⟨⟨fn,c,hf,hb,hname⟩,λL w us hok hnx hargs=>calls_of_wp hf hb ?_⟩
 have hlen:us.size=ps.length:=by simpa using hargs.length
 have hi:Interp P G nx L ⟨FD 0 ps,H,nx,N⟩ { tmps:=us++X2 (fn.ntmps-us.size) undef,defers:=[] } w:=by
  refine⟨hok,hnx,by rw[hnx];exact Xe _,by simp[hlen,hN],rfl,λk p hl=>?_⟩;simp only[OS]at hl;obtain⟨_,hk⟩:=MS _ k 0 p hl;simp only[Nat.sub_zero]at hk;obtain⟨x,hx,hr⟩:=hargs.at_ k hk
  have hx':us[k]?=some x:=by simpa using hx
  have hk':k<us.size:=(Xs.1 hx').1;rw[Xo,Zb hk',hx'];exact hr
 refine wp_mono (h c hc rfl L _ w hi) λe a' w' ⟨s1,L1,q,hi1,hx,hμ⟩=>?_;obtain⟨he,s2,rs,hsub,hres,hr,hH,hnx2⟩:=q;obtain⟨L2,hi2,hx2,hμ2⟩:=hsub L1 a' w' hi1
 have hrv:IU P fn s2=some (CF rs):=by
  unfold IU;rw[Nb hrs hres];rcases rs with _ | ⟨x,_ | ⟨y,r⟩⟩<;>rfl
 obtain⟨v,hrun,hv⟩:=QK hi2 hrv;have hxx:=hx.trans hx2
 have hm:AO L w L2 w':=⟨hxx.keeps hok,by rw[hnx];exact hi2.base,λb hb=>(hμ2 b (by omega)).trans (hμ b (by omega)),hxx.size,hxx.shape⟩
 have hfin:a'.defers=[]/\∃v,(results fn a'.tmps).run P w' = .ok v w' /\
   ∃v' L',Ending.returned v = .returned v'/\Ae P L' w' r v'/\Bx P G L' H' w'/\L'.nx=nx'/\AO L w L' w'/\Ext L H w L' H' w':=
  ⟨hi2.defers,v,hrun,v,L2,rfl,hr▸hv,hH▸hi2.heap,hi2.nx.trans hnx2,hm,hH▸hxx⟩
 rcases he with rfl | rfl
 .exact hfin
 .exact hfin
end
end Go.Abs
