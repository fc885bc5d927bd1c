/- Auxiliary facts. -/
import Derived.Test.YtobnacghaamfoaaGreatDoorVGQ05
import Derived.Laws.StructEq
import Derived.Laws.RangeString
import Derived.Laws.IdiomStrings
import Derived.Maps.RangeRun
import Derived.MapKept
import Derived.WideKeyRuns
set_option linter.unusedSimpArgs false
set_option linter.unusedVariables false
open List renaming map_cons->Xa,map_nil->Xc,getElem?_eq_getElem->Xf,all_eq_true->Xh,getElem?_eq_some_iff->Xl,length_cons->Xo,getElem?_cons_zero->Xt,map_map->Xx,map_congr_left->Xy,mem_filterMap->X0,range->X6,mem_of_getElem?->X9,mem_zipIdx_iff_getElem?->Ya,ne_nil_of_mem->Yc,nil_append->Yl,append_nil->Ym,cons_append->Yn,mapM_cons->Yo,filterMap_cons->Ys,mem_filter->Yt,getElem?_drop->Yx,length_nil->Yy,mem_cons->Yz,nodup_nil->Y0,getElem?_map->Y1
open Option renaming some->Xb,map_eq_some_iff->Xg,map_some->Xi,map_none->Xw,getD_some->X8,isSome_none->Yh,isSome_some->Yi,toList_none->Yj,toList_some->Yk,bind_eq_bind->Yp,pure_def->Yq,bind_some->Yr
open Bool renaming and_eq_true->Xd,false_eq_true->Xn,or_eq_true->Xu,false_or->Xz,not_eq_true'->X7,true_and->Yw
open Nat renaming le_refl->Xe,lt_or_ge->Xm,le_trans->Xp,add_zero->Yb,lt_of_lt_of_le->Yd,zero_le->Yf
open Array renaming getElem?_eq_getElem->Xj,getD_eq_getD_getElem?->Xk,getElem?_eq_some_iff->Xr,toList_map->Xs,getElem?_setIfInBounds_ne->Xv,replicate->Ye,toList_inj->Yg,all_eq_true'->Yu,mem_def->Yv,getElem?_append_left->Y3
open Go.Result renaming andThen_ok->Xq
namespace Go.Abs
open Go
def Ex:List CK->List T->List T->Option Bool
 | [],[],[]=>some true
 | .i::ks,.v (.int k a)::xs,.v (.int k' b)::ys=>if k=k' then(Ex ks xs ys).map λr=>(a==b)&&r else none
 | .s::ks,.v (.string a)::xs,.v (.string b)::ys=>(Ex ks xs ys).map λr=>(a.toList==b.toList)&&r
 | .b::ks,.v (.bool a)::xs,.v (.bool b)::ys=>(Ex ks xs ys).map λr=>(a==b)&&r
 | _,_,_=>none
def VQ (f:Fn) (first cap:List PV):PV:=
 match first,cap with
 | [],[]=>.t (.v (.func f #[] #[]))
 | first,cap=>.fn f first cap
def exM:EK->List PV->Option PV
 | .eqs neg ks,[.t (.ag xs),.t (.ag ys)]=>(Ex ks xs ys).map λr=>.t (.v (.bool (if neg then !r else r)))
 | .mki t,[.t x]=>some (.t (.ic t x))
 | .mki t,[x]=>some (.ic t x)
 | .mkf f n,ps=>some (VQ f (ps.take n) (ps.drop n))
 | _,_=>none
def hxM (k:HK) (H:Ab) (nx:Nat) (ps:List PV):Option (PV×Ab×Nat):=
 match k,ps with
 | .range,[.t (.v (.string s))]=>some (.ptr nx 0,(nx,.iter s 0)::H,nx+1)
 | .next,[.ptr b 0]=>match Aa H b with
  | some (.iter s pos)=>if pos<s.size then
    some (.t (.tu [.v (.bool true),.v (.int .i64 pos),.v (.int .i32 (Utf8.decode s pos).1)]),upd H b (.iter s (pos+(Utf8.decode s pos).2)),nx)
   else some (.t (.tu [.v (.bool false)]),H,nx)
  | _=>none
 | _,_=>none
def J7 (P:Program):Nat->List Field->Option (List CK)
 | _,[]=>some []
 | o,f::fs=>if f.name ≠ "_" /\ f.offset=o/\(P.info? f.type).map (·.size)=some 1 then
   (match P.underlying f.type with
   | some (.int _)=>(J7 P (o+1) fs).map (.i::·)
   | some .string=>(J7 P (o+1) fs).map (.s::·)
   | some .bool=>(J7 P (o+1) fs).map (.b::·)
   | _=>none)
  else none
def PQ (P:Program) (t:TypeId):Option (List CK):=
 match P.underlying t with
 | some (.struct fs)=>if P.stoodInHeld t=false/\P.eqGuardType P.depth t=false then J7 P 0 fs.toList else none
 | _=>none
def Mq (P:Program) (G:A2) (o:Op):Option (MK×List Opd):=
 match o with
 | .binOp .eql t x y _=>(PQ P t).map λks=>(.ex (.eqs false ks),[AY G x,AY G y])
 | .binOp .neq t x y _=>(PQ P t).map λks=>(.ex (.eqs true ks),[AY G x,AY G y])
 | .range t x=>match P.underlying t with
  | some .string=>some (.hx .range,[AY G x])
  | _=>none
 | .next x true=>some (.hx .next,[AY G x])
 | .makeInterface t x=>match P.underlying t with
  | some (.interface _)=>none
  | some _=>some (.ex (.mki t),[AY G x])
  | none=>none
 | .makeFunc f first cap=>some (.ex (.mkf f first.size),first.toList.map (AY G)++cap.toList.map (AY G))
 | .panic x=>some (.hx .pan,[AY G x])
 | _=>none
theorem pL {P:Program} {G:A2} {o:Op} {k:MK} {xs:List Opd} (hk:match k with | .ex _ | .hx _=>False | _=>True):¬Mq P G o=some (k,xs):=by
 intro h;unfold Mq at h;split at h
 all_goals first
  | (cases h;done)
  | (obtain⟨ks,_,e⟩:=Xg.1 h;injection e with e1 e2;subst e1;exact hk)
  | (injection h with h;injection h with e1 e2;subst e1;exact hk)
  | skip
 all_goals split at h
 all_goals first
  | (cases h;done)
  | (obtain⟨ks,_,e⟩:=Xg.1 h;injection e with e1 e2;subst e1;exact hk)
  | (injection h with h;injection h with e1 e2;subst e1;exact hk)
  | skip
 all_goals split at h
 all_goals first
  | (cases h;done)
  | (injection h with h;injection h with e1 e2;subst e1;exact hk)
  | (obtain⟨ks,_,e⟩:=Xg.1 h;injection e with e1 e2;subst e1;exact hk)
section
variable {P : Program} {G : A2} {B : Nat} {s : Ad} {o : Oper}
theorem VR {w:World} {t:TypeId} {xs:Array Value} {off:Nat} {x:Value} (hu:P.underlying t=some .string\/P.underlying t=some .bool\/∃k,P.underlying t=some (.int k)) (hx:xs[off]?=some x):(part t xs off).run P w = .ok x w:=by
 have ha:(isAgg t).run P w = .ok false w:=by
  rcases hu with h | h | ⟨k,h⟩<;>simp[isAgg,run_underlying h]
 simp[part,ha,hx]
theorem pM {ks:List CK} {cx cy:List T} {r:Bool} (h:Ex (.i::ks) cx cy=some r):∃k a xs b ys r1,cx = .v (.int k a)::xs/\cy = .v (.int k b)::ys/\Ex ks xs ys=some r1/\r=((a==b)&&r1):=by
 unfold Ex at h;split at h
 all_goals (first | (rename_i hh;cases hh;done) | (cases h;done) | skip)
 rename_i ks' k a xs k' b ys hk;cases hk;split at h
 .rename_i e;subst e;obtain⟨r1,h1,h2⟩:=Xg.1 h;exact⟨k,a,xs,b,ys,r1,rfl,rfl,h1,h2.symm⟩
 .cases h
theorem pN {ks:List CK} {cx cy:List T} {r:Bool} (h:Ex (.s::ks) cx cy=some r):∃a xs b ys r1,cx = .v (.string a)::xs/\cy = .v (.string b)::ys/\Ex ks xs ys=some r1/\r=((a.toList==b.toList)&&r1):=by
 unfold Ex at h;split at h
 all_goals (first | (rename_i hh;cases hh;done) | (cases h;done) | skip)
 rename_i ks' a xs b ys hk;cases hk;obtain⟨r1,h1,h2⟩:=Xg.1 h;exact⟨a,xs,b,ys,r1,rfl,rfl,h1,h2.symm⟩
theorem pO {ks:List CK} {cx cy:List T} {r:Bool} (h:Ex (.b::ks) cx cy=some r):∃a xs b ys r1,cx = .v (.bool a)::xs/\cy = .v (.bool b)::ys/\Ex ks xs ys=some r1/\r=((a==b)&&r1):=by
 unfold Ex at h;split at h
 all_goals (first | (rename_i hh;cases hh;done) | (cases h;done) | skip)
 rename_i ks' a xs b ys hk;cases hk;obtain⟨r1,h1,h2⟩:=Xg.1 h;exact⟨a,xs,b,ys,r1,rfl,rfl,h1,h2.symm⟩
theorem VS {w:World} (I:Nat->Prop) (d:Nat) (xs ys:Array Value):∀(fs:List Field) (off:Nat) (ks:List CK) (cx cy:List T) (r:Bool),J7 P off fs=some ks->Ex ks cx cy=some r ->
  Bf I w cx (xs.toList.drop off)->Bf I w cy (ys.toList.drop off)->(Op.eqFields (d+1) xs ys fs).run P w = .ok r w
 | [],off,ks,cx,cy,r,hk,he,_,_=>by
  simp only[J7,Xb.injEq]at hk;subst hk;cases cx<;>cases cy<;>simp[Ex]at he;subst he;simp[Op.eqFields]
 | f::fs,off,ks,cx,cy,r,hk,he,hx,hy=>by
  simp only[J7]at hk;split at hk
  .rename_i hf;obtain⟨hn,ho,h1⟩:=hf
   have key:∀(a b:T) (cx' cy':List T) (r0 r1:Bool) (ks':List CK),cx=a::cx'->cy=b::cy'->J7 P (off+1) fs=some ks'->Ex ks' cx' cy'=some r1->r=(r0&&r1) ->
     (P.underlying f.type=some .string\/P.underlying f.type=some .bool\/∃k,P.underlying f.type=some (.int k)) ->
     (∀u v,Ao I w a u->Ao I w b v->(Op.equalIn (d+1) f.type u v).run P w = .ok r0 w)->(Op.eqFields (d+1) xs ys (f::fs)).run P w = .ok r w:=by
    intro a b cx' cy' r0 r1 ks' ex ey hks hr1 hr hu heq;subst ex;subst ey;simp only[Bf]at hx hy;obtain⟨u,us,e1,hu1,hus⟩:=hx;obtain⟨v,vs,e2,hv1,hvs⟩:=hy
    have g1:xs[off]?=some u:=by
     have:(xs.toList.drop off)[0]?=some u:=by rw[e1];rfl
     simpa using this
    have g2:ys[off]?=some v:=by
     have:(ys.toList.drop off)[0]?=some v:=by rw[e2];rfl
     simpa using this
    have d1:xs.toList.drop (off+1)=us:=by
     have:=congrArg (List.drop 1) e1;simpa using this
    have d2:ys.toList.drop (off+1)=vs:=by
     have:=congrArg (List.drop 1) e2;simpa using this
    have ih:=VS I d xs ys fs (off+1) ks' cx' cy' r1 hks hr1 (by rw[d1];exact hus) (by rw[d2];exact hvs);simp only[Op.eqFields,hn,ne_eq,not_false_eq_true,if_true,ho,Sem.run_bind,VR hu g1,VR hu g2,Xq,heq u v hu1 hv1]
    cases r0 with
    | true=>simp[hr,ih]
    | false=>simp[hr]
   split at hk
   .rename_i k hu;obtain⟨ks',hks,rfl⟩:=Xg.1 hk;obtain⟨k1,a,xs',b,ys',r1,e1,e2,h1,h2⟩:=pM he;refine key _ _ _ _ (a==b) r1 ks' e1 e2 hks h1 h2 (.inr (.inr ⟨k,hu⟩)) λu v hu' hv'=>?_;simp only[Ao]at hu' hv';subst hu';subst hv';exact run_equalIn_int w d f.type k1 k a b hu
   .rename_i hu;obtain⟨ks',hks,rfl⟩:=Xg.1 hk;obtain⟨a,xs',b,ys',r1,e1,e2,h1,h2⟩:=pN he;refine key _ _ _ _ (a.toList==b.toList) r1 ks' e1 e2 hks h1 h2 (.inl hu) λu v hu' hv'=>?_;simp only[Ao]at hu' hv';subst hu';subst hv';exact run_equalIn_string w d f.type a b hu
   .rename_i hu;obtain⟨ks',hks,rfl⟩:=Xg.1 hk;obtain⟨a,xs',b,ys',r1,e1,e2,h1,h2⟩:=pO he;refine key _ _ _ _ (a==b) r1 ks' e1 e2 hks h1 h2 (.inr (.inl hu)) λu v hu' hv'=>?_;simp only[Ao]at hu' hv';subst hu';subst hv';exact run_equalIn_bool' w d f.type a b hu
   .cases hk
  .cases hk
theorem VT {neg:Bool} {t:TypeId} {x y:Operand} {yt:TypeId} {ks:List CK} {r:PV} (ho:o.op = .binOp (if neg then .neq else .eql) t x y yt) (hk:PQ P t=some ks)
  (h:exM (.eqs neg ks) [s.ev G x,s.ev G y]=some r):AOp P G B o s r s.H s.nx:=by
 refine Mh λL a w hi=>?_;have hx:=hi.ev x;have hy:=hi.ev y;unfold exM at h;split at h
 .rename_i n' ks' xs ys e1 e2;injection e1 with e1 e1';subst e1;subst e1';injection e2 with e2 e3;injection e3 with e3 e4;rw[e2]at hx;rw[e3]at hy;simp only[Af,Ao]at hx hy;obtain⟨us,ex,_,hxs⟩:=hx;obtain⟨vs,ey,_,hys⟩:=hy;obtain⟨b,hb,rfl⟩:=Xg.1 h;unfold PQ at hk;split at hk
  .rename_i fs hu;split at hk
   .rename_i hc
    have hf:P.fieldsOf t=fs:=by simp[Program.fieldsOf,hu]
    have hrun:(Op.equalIn 10000 t (.agg us) (.agg vs)).run P w = .ok b w:=by
     rw[show(10000:Nat)=9998+1+1 from rfl,run_equalIn_struct w (9998+1) t us vs (by rw[hf];exact hu) hc.1,hf];exact VS L.I 9998 us vs fs.toList 0 ks xs ys b hk hb (by simpa using hxs) (by simpa using hys)
    refine⟨.bool (if neg then !b else b),?_,by simp only[Af,Ao]⟩
    cases neg with
    | true=>
     simp only[if_true]at ho;simp only[execOp,ho,ex,ey,Sem.run_bind,run_eqGuard_agg w .neq t x y us vs hc.2,run_neq_struct w t us vs,hrun,Xq,if_true];rfl
    | false=>
     simp only[Xn,if_false]at ho;simp only[execOp,ho,ex,ey,Sem.run_bind,run_eqGuard_agg w .eql t x y us vs hc.2,run_eql_struct w t us vs,hrun,Xq,Xn,if_false];rfl
   .cases hk
  .cases hk
 all_goals (first | (rename_i e _;cases e;done) | (rename_i e;cases e;done) | (cases h;done))
theorem pP {t:TypeId} {x:Operand} {st:ByteArray} (ho:o.op = .range t x) (hu:P.underlying t=some .string) (hx:s.ev G x = .t (.v (.string st))):AOp P G B o s (.ptr s.nx 0) ((s.nx,.iter st 0)::s.H) (s.nx+1):=by
 refine NG λL a w hi=>?_;have h:=hi.ev x;rw[hx]at h;simp only[Af,Ao]at h;refine⟨.pointer (some ⟨w.heap.size,0,none⟩),w.iter st 0,.stringIter st 0,by simp[execOp,ho,h,run_range_string w t st hu],⟨rfl,rfl,rfl⟩,rfl,λhm=>⟨World.iter_heap w st 0,?_⟩⟩;simp only[Af];exact⟨by simp[Loc.grow,hi.nx],by simp[Loc.grow,hi.nx]⟩
theorem pQ {x:Operand} {b:Nat} {st:ByteArray} {pos:Nat} (ho:o.op = .next x true) (hx:s.ev G x = .ptr b 0) (hl:Aa s.H b=some (.iter st pos)) (hp:pos<st.size) :
  AOp P G B o s (.t (.tu [.v (.bool true),.v (.int .i64 pos),.v (.int .i32 (Utf8.decode st pos).1)])) (upd s.H b (.iter st (pos+(Utf8.decode st pos).2))) s.nx:=λL a w hi=>by
 have h:=hi.ev x;rw[hx]at h;simp only[Af]at h;obtain⟨hb,h⟩:=h;have hr:=hi.heap.rep b _ hl;have hr':w.heap[L.μ b]?=some (.stringIter st pos):=hr;have hlt:=(Xr.1 hr').1;unfold Oper.wp
 have hrun:(execOp a.eval o).run P w = .ok (.value (.tuple #[.bool true,.int .i64 pos,.int .i32 (Utf8.decode st pos).1])) { w with heap:=w.heap.setIfInBounds (L.μ b) (.stringIter st (pos+(Utf8.decode st pos).2)) }:=by
  simp[execOp,ho,h,Instr.next,getObj,setObj,Sem.run,hr',hp,goInt]
 rw[hrun,Oper.upon_value]
 have hw:=Sj (w':={ w with heap:=w.heap.setIfInBounds (L.μ b) (.stringIter st (pos+(Utf8.decode st pos).2)) }) (r:=.iter st (pos+(Utf8.decode st pos).2)) hi.heap ⟨rfl,rfl,rfl⟩ hl (by simp)
  (λg hg=>by simp[Xv (Ne.symm hg)]) (λg hg arr ty fz he=>by
   by_cases e:g=L.μ b
   .subst e;simp[hlt]at he
   .simp[Xv (Ne.symm e)]at he;exact⟨arr,fz,he,rfl⟩)
  (λ_=>by simp[EV,hlt])
 exact⟨_,L,rfl,by simp[Af,Ao,Bf],hw.1,hi.nx,hw.2.1,hw.2.2⟩
theorem pR {x:Operand} {b:Nat} {st:ByteArray} {pos:Nat} (ho:o.op = .next x true) (hx:s.ev G x = .ptr b 0) (hl:Aa s.H b=some (.iter st pos)) (hp:¬pos<st.size) :
  AOp P G B o s (.t (.tu [.v (.bool false)])) s.H s.nx:=by
 refine Mh λL a w hi=>?_;have h:=hi.ev x;rw[hx]at h;simp only[Af]at h;obtain⟨hb,h⟩:=h;have hr:w.heap[L.μ b]?=some (.stringIter st pos):=hi.heap.rep b _ hl;exact⟨.tuple #[.bool false],by simp[execOp,ho,h,Instr.next,getObj,Sem.run,hr,hp],by simp[Af,Ao,Bf]⟩
theorem pS {t:TypeId} {x:Operand} {d:TypeDesc} {p:PV} (ho:o.op = .makeInterface t x) (hu:P.underlying t=some d) (hne:∀ms,d = .interface ms->False) (hp:exM (.mki t) [s.ev G x]=some p):AOp P G B o s p s.H s.nx:=
 Mh λL a w hi=>by
  have h:=hi.ev x
  have hrun:(execOp a.eval o).run P w = .ok (.value (.iface t (a.eval x))) w:=by
   simp only[execOp,ho,Instr.makeInterface,Sem.run_bind,run_underlying hu,Xq]
   cases d<;>first | (exact(hne _ rfl).elim) | rfl
  refine⟨_,hrun,?_⟩;generalize s.ev G x=q at h hp
  cases q with
  | t y=>
   simp only[exM,Xb.injEq]at hp;subst hp;simp only[Af,Ao]at h ⊢;exact⟨_,rfl,h⟩
  | _=>
   simp only[exM,Xb.injEq]at hp;subst hp;simp only[Af]at h ⊢;exact⟨_,rfl,h⟩
theorem Su {L:Loc} {a:Act} {w:World} (hi:Interp P G B L s a w):∀l:List Operand,A5 P L w ((l.map (AY G)).map (·.ev s.env)) (l.map a.eval)
 | []=>by simp only[Xc,A5]
 | x::r=>by
  simp only[Xa,A5];exact⟨_,_,rfl,by rw[KU];exact hi.ev x,Su hi r⟩
theorem pT {f:Fn} {first cap:Array Operand} {p:PV} (ho:o.op = .makeFunc f first cap) (hp:exM (.mkf f first.size) ((first.toList.map (AY G)++cap.toList.map (AY G)).map (·.ev s.env))=some p):AOp P G B o s p s.H s.nx:=
 Mh λL a w hi=>by
  refine⟨.func f (first.map a.eval) (cap.map a.eval),by simp[execOp,ho,Instr.makeFunc],?_⟩
  have h1:=Su hi first.toList
  have h2:=Su hi cap.toList
  have l1:((first.toList.map (AY G)).map (·.ev s.env)).length=first.size:=by simp
  generalize hF:(first.toList.map (AY G)).map (·.ev s.env)=F at h1 l1;generalize hC:(cap.toList.map (AY G)).map (·.ev s.env)=C at h2;rw[List.map_append,hF,hC]at hp;simp only[exM,Xb.injEq]at hp;rw[<-l1,List.take_left,List.drop_left]at hp;subst hp;unfold VQ;split
  .simp only[A5]at h1 h2;simp only[Af,Ao]
   have e1:first.map a.eval = #[]:=by rw[<-Yg,Xs];exact h1
   have e2:cap.map a.eval = #[]:=by rw[<-Yg,Xs];exact h2
   rw[e1,e2]
  .simp only[Af];exact⟨_,_,rfl,by rw[Xs];exact h1,by rw[Xs];exact h2⟩
theorem pU {k:MK} {xs:List Opd} (hc:Mq P G o.op=some (k,xs)) {r:PV} {H':Ab} {nx':Nat}
  (he:match k with
   | .ex e=>∃p,exM e (xs.map (·.ev s.env))=some p/\(r,H',nx')=(p,s.H,s.nx)
   | .hx h=>hxM h s.H s.nx (xs.map (·.ev s.env))=some (r,H',nx')
   | _=>False):AOp P G B o s r H' nx':=by
 have ev1:=λx=>KU G s x;unfold Mq at hc;split at hc
 .rename_i t x y yt ho;obtain⟨ks,hk,e⟩:=Xg.1 hc;injection e with e1 e2;subst e1;subst e2;simp only[Xa,Xc,ev1]at he;obtain⟨p,hp,e⟩:=he;injection e with e1 e2;injection e2 with e2 e3;subst e1;subst e2;subst e3;exact VT (neg:=false) (by simpa using ho) hk hp
 .rename_i t x y yt ho;obtain⟨ks,hk,e⟩:=Xg.1 hc;injection e with e1 e2;subst e1;subst e2;simp only[Xa,Xc,ev1]at he;obtain⟨p,hp,e⟩:=he;injection e with e1 e2;injection e2 with e2 e3;subst e1;subst e2;subst e3;exact VT (neg:=true) (by simpa using ho) hk hp
 .rename_i t x ho;split at hc
  .rename_i hu;injection hc with hc;injection hc with e1 e2;subst e1;subst e2;simp only[Xa,Xc,ev1]at he;generalize hp:s.ev G x=p at he;unfold hxM at he;split at he
   all_goals (first | (rename_i e _;cases e;done) | (rename_i e;cases e;done) | skip)
   .rename_i st e1 e2;injection e2 with e2 e3;injection he with he;injection he with h1 h2;injection h2 with h2 h3;subst h1;subst h2;subst h3;exact pP ho hu (hp.trans e2)
   .cases he
  .cases hc
 .rename_i x ho;injection hc with hc;injection hc with e1 e2;subst e1;subst e2;simp only[Xa,Xc,ev1]at he;generalize hp:s.ev G x=p at he;unfold hxM at he;split at he
  all_goals (first | (rename_i e _;cases e;done) | (rename_i e;cases e;done) | skip)
  .rename_i b e1 e2;injection e2 with e2 e3;split at he
   .rename_i st pos hl;split at he
    .rename_i hlt;injection he with he;injection he with h1 h2;injection h2 with h2 h3;subst h1;subst h2;subst h3;exact pQ ho (hp.trans e2) hl hlt
    .rename_i hlt;injection he with he;injection he with h1 h2;injection h2 with h2 h3;subst h1;subst h2;subst h3;exact pR ho (hp.trans e2) hl hlt
   .cases he
  .cases he
 .rename_i t x ho;split at hc
  .cases hc
  .rename_i d hne hu;injection hc with hc;injection hc with e1 e2;subst e1;subst e2;simp only[Xa,Xc,ev1]at he;obtain⟨p,hp,e⟩:=he;injection e with e1 e2;injection e2 with e2 e3;subst e1;subst e2;subst e3;exact pS ho hu hne hp
  .cases hc
 .rename_i f first cap ho
  injection hc with hc;injection hc with e1 e2;subst e1;subst e2;obtain⟨p,hp,e⟩:=he;injection e with e1 e2;injection e2 with e2 e3;subst e1;subst e2;subst e3;exact pT ho hp
 .injection hc with hc;injection hc with e1 e2;subst e1;subst e2;simp only[Xa,Xc]at he;unfold hxM at he;split at he
  all_goals (first | (rename_i e _;cases e;done) | (rename_i e;cases e;done) | (cases he;done) | skip)
 .cases hc
end
def Aj (agg:Bool) (n:Nat) (H:Ab) (p:PV):Option PV:=
 match p with
 | .t (.pt cs)=>if agg then(if n<=cs.length then some (.t (.ag (cs.take n)))else none)else(cs.head?).map .t
 | .ptr b o=>match Aa H b with
  | some (.cells _ cs)=>if agg then(if o+n<=cs.length then some (Bi ((cs.drop o).take n))else none)else cs[o]?
  | _=>none
 | _=>none
theorem VU {P:Program} {t:TypeId} {agg:Bool} {n:Nat} (h:GN P t=some (agg,n)) (H:Ab) (p:PV):KP P H t p=Aj agg n H p:=by
 unfold KP Aj;rw[h]
 cases agg<;>cases p<;>try rfl
 all_goals (rename_i x;cases x<;>rfl)
def Bd (z:Nat) (x i:PV):Option PV:=
 match i with
 | .t (.v (.int _ i))=>match x with
  | .t (.sl n cs)=>if 0<=i/\i<n then some (.t (.pt (cs.drop (i.toNat*z))))else none
  | .row b o n _=>if 0<=i/\i<n then some (.ptr b (o+i.toNat*z))else none
  | _=>none
 | _=>none
def PR (n z:Nat) (x i:PV):Option PV:=
 match i with
 | .t (.v (.int _ i))=>match x with
  | .t (.pt cs)=>if 0<=i/\i<n then some (.t (.pt (cs.drop (i.toNat*z))))else none
  | .ptr b o=>if 0<=i/\i<n then some (.ptr b (o+i.toNat*z))else none
  | _=>none
 | _=>none
theorem pV {P:Program} {t e:TypeId} {z:Nat} (h:Ga P t=some (e,z)) {x i r:PV} (hr:Bd z x i=some r):Ir P t x i=some r:=by
 unfold Bd at hr;split at hr
 .split at hr
  .simp only[Ir,h];exact hr
  .simp only[Ir,h];exact hr
  .cases hr
 .cases hr
theorem pW {P:Program} {t:TypeId} {n z:Nat} (h:Mj P t=some (n,z)) {x i r:PV} (hr:PR n z x i=some r):Ir P t x i=some r:=by
 unfold PR at hr;split at hr
 .split at hr
  .simp only[Ir,h];exact hr
  .simp only[Ir,h];exact hr
  .cases hr
 .cases hr
@[simp] def PS (off:Nat) (x:PV):Option PV:=
 match x with
 | .t (.pt cs)=>some (.t (.pt (cs.drop off)))
 | .ptr b o=>some (.ptr b (o+off))
 | _=>none
theorem pX {P:Program} {t:TypeId} {f off n:Nat} {b:Bool} (h:GP P t f=some (off,b,n)) (x:PV):N8 P t x f=PS off x:=by
 unfold N8 PS;rw[h]
 cases x<;>try rfl
 rename_i x;cases x<;>rfl
def PT (off:Nat) (agg:Bool) (n:Nat) (x:PV):Option PV:=
 match x with
 | .t (.ag cs)=>if agg then(if off+n<=cs.length then some (.t (.ag ((cs.drop off).take n)))else none)else(cs[off]?).map .t
 | .ag cs=>if agg then(if off+n<=cs.length then some (Bi ((cs.drop off).take n))else none)else cs[off]?
 | _=>none
theorem pY {P:Program} {t:TypeId} {f off n:Nat} {b:Bool} (h:GP P t f=some (off,b,n)) (x:PV):N9 P t x f=PT off b n x:=by
 unfold N9 PT;rw[h]
 cases b<;>cases x<;>try rfl
 all_goals (rename_i x;cases x<;>rfl)
def Ms (x i:PV):Option PV:=
 match x,i with
 | .t (.v (.string s)),.t (.v (.int _ i))=>if 0<=i then(s[i.toNat]?).map λb=>.t (.v (.int .u8 b.toNat))else none
 | _,_=>none
theorem pZ {P:Program} {t:TypeId} (h:P.underlying t=some .string) {x i r:PV} (hr:Ms x i=some r):NA P t x i=some r:=by
 unfold Ms at hr;split at hr
 .simp only[NA,h];exact hr
 .cases hr
def DK (x:PV) (lo hi:Option PV):Option PV:=
 match x with
 | .t (.v (.string s))=>match Cj lo 0,Cj hi s.size with
  | some l,some h=>if l<=h/\h<=s.size then some (.t (.v (.string (s.extract l h))))else none
  | _,_=>none
 | _=>none
theorem q8 {P:Program} {t:TypeId} (h:P.underlying t=some .string) {x r:PV} {lo hi:Option PV} (hr:DK x lo hi=some r):Is P t x lo hi=some r:=by
 unfold DK at hr;split at hr
 .simp only[Is,h];exact hr
 .cases hr
def EY (z:Nat) (x:PV) (lo hi:Option PV):Option PV:=
 match x with
 | .t (.v (.slice none n c))=>match Cj lo 0,Cj hi n with
  | some l,some h=>if l=0/\h=0/\n=0/\c=0 then some (.t (.v (.slice none 0 0)))else none
  | _,_=>none
 | .t (.sl n cs)=>match Cj lo 0,Cj hi n with
  | some l,some h=>if l<=h/\h<=n then some (.t (.sl (h-l) ((cs.drop (l*z)).take ((h-l)*z))))else none
  | _,_=>none
 | .row b o n z'=>match Cj lo 0,Cj hi n with
  | some l,some h=>if z≠z' then none else if l<h/\h<=n then some (.row b (o+l*z') (h-l) z')else if l=0/\h=0 then some (.row b o 0 z')else if l=h/\h<=n then some (.t (.sl 0 []))else none
  | _,_=>none
 | _=>none
theorem q9 {P:Program} {t e:TypeId} {z:Nat} (h:Ga P t=some (e,z)) {x r:PV} {lo hi:Option PV} (hr:EY z x lo hi=some r):Is P t x lo hi=some r:=by
 have hu:P.underlying t=some (.slice e):=by
  unfold Ga at h;split at h
  .rename_i e' hu
   cases hi:P.info? e' with
   | none=>rw[hi]at h;cases h
   | some i=>rw[hi]at h;injection h with h;injection h with h1 h2;subst h1;exact hu
  .cases h
 unfold EY at hr;split at hr
 .split at hr
  .rename_i el eh;simp only[Is,hu,h,el,eh];exact hr
  .cases hr
 .split at hr
  .rename_i el eh;simp only[Is,hu,h,el,eh];exact hr
  .cases hr
 .split at hr
  .rename_i el eh;simp only[Is,hu,h,el,eh];exact hr
  .cases hr
 .cases hr
@[simp] def Sv:PV->Option PV
 | .t (.v (.string s))=>some (.t (.v (.int .i64 s.size)))
 | _=>none
def AO:PV->Option PV
 | .t (.v (.slice _ n _))=>some (.t (.v (.int .i64 n)))
 | .t (.sl n _)=>some (.t (.v (.int .i64 n)))
 | .row _ _ n _=>some (.t (.v (.int .i64 n)))
 | _=>none
@[simp] def PU (k:Option IntKind):PV->Option PV
 | .t (.v (.int _ n))=>match k with
  | some k=>some (.t (.v (.int k (k.wrap n))))
  | none=>none
 | .t (.v (.string s))=>match k with
  | none=>some (.t (.v (.string s)))
  | _=>none
 | _=>none
@[simp] def Sw:PV->Option PV
 | .ptr b o=>some (.ptr b o)
 | .t (.pt cs)=>some (.t (.pt cs))
 | .fn (.func f) first cap=>some (.fn (.func f) first cap)
 | .t (.v (.func (.func f) x y))=>some (.t (.v (.func (.func f) x y)))
 | _=>none
def AM (n:Nat) (H:Ab) (p x:PV):Option Ab:=
 match p with
 | .ptr b o=>match Bj x with
  | some ps=>match Aa H b with
   | some (.cells ty cs)=>if ps.length=n/\o+ps.length<=cs.length then some (upd H b (.cells ty (Bp cs o ps)))else none
   | _=>none
  | none=>none
 | _=>none
theorem qA {P:Program} {t:TypeId} {b:Bool} {n:Nat} (h:GN P t=some (b,n)) {H H':Ab} {p x:PV} (hr:AM n H p x=some H'):Ml P H t p x=some H':=by
 unfold AM at hr;split at hr
 .split at hr
  .rename_i hps;simp only[Ml,h,hps];exact hr
  .cases hr
 .cases hr
def Mt (e n by':Nat) (zc:List Value) (l c:PV) (nx:Nat):Option (PV×Row):=
 match l,c with
 | .t (.v (.int _ l)),.t (.v (.int _ c))=>if 0<=l/\l<=c/\c<=9223372036854775807/\(by':Int)*c<=281474976710656 then some (.row nx 0 l.toNat n,.cells e (Hu zc l.toNat))else none
 | _,_=>none
theorem qB {P:Program} {t e n by':Nat} {zc:List Value} (h:GQ P t=some (e,n,by',zc)) {l c:PV} {nx:Nat} {q:PV×Row} (hr:Mt e n by' zc l c nx=some q):Mm P t l c nx=some q:=by
 unfold Mt at hr;split at hr
 .simp only[Mm,h];exact hr
 .cases hr
def EE (e n:Nat) (zc:List Value) (len:Nat) (parts:List (Nat×PV)) (nx:Nat):Option (PV×Row):=
 if len*n<=16777216 then(Fo (λi=>some (i*n,n)) (Hu zc len) parts).map λcs=>(.row nx 0 len n,.cells e cs)else none
def Cc (e z by':Nat) (H:Ab) (nx:Nat) (d x:PV):Option (PV×Ab×Nat):=
 match Ew H z x with
 | some (m,ps)=>match d with
  | .t (.v (.slice none n c))=>if n=0/\c=0 then
    (if m=0 then some (.t (.v (.slice none n c)),H,nx)else if m*by'<=140737488355328/\m<=9223372036854775807 then some (.row nx 0 m z,(nx,.cells e ps)::H,nx+1)else none)else none
  | .row b o n z'=>match Aa H b with
   | some (.cells ty cs)=>
    if z'=z/\o=0/\ty=e/\cs.length=n*z/\(n+m)*by'<=140737488355328/\n+m<=9223372036854775807 then some (.row nx 0 (n+m) z,(nx,.cells e (cs++ps))::rem H b,nx+1)else none
   | _=>none
  | _=>none
 | none=>none
theorem qC {P:Program} {t e z by':Nat} {zc:List Value} (h:GQ P t=some (e,z,by',zc)) {H:Ab} {nx:Nat} {d x:PV} {q:PV×Ab×Nat} (hr:Cc e z by' H nx d x=some q):Mn P H nx t d x=some q:=by
 unfold Cc at hr;split at hr
 .rename_i m ps hs;split at hr
  .simp only[Mn,h,hs];exact hr
  .simp only[Mn,h,hs];exact hr
  .cases hr
 .cases hr
def KY (e n:Nat) (zc:List Value) (len:Nat) (parts:List (Nat×PV)):Option PV:=
 match EE e n zc len parts 0 with
 | some (_,.cells _ cs)=>match Eh cs with
  | some ts=>if ts.length=len*n then some (.t (.sl len ts))else none
  | none=>none
 | _=>none
def Ai (Φ:A7) (H:Ab) (nx:Nat) (k:MK) (ps:List PV):Option (PV×Ab×Nat):=
 match k,ps with
 | .mv,[x]=>some (x,H,nx)
 | .pick,[c,a,b]=>match c with
  | .t (.v (.bool t))=>some (bif t then a else b,H,nx)
  | _=>none
 | .bin isB op nk,[x,y]=>match x,y with
  | .t (.v a),.t (.v b)=>match DJ isB op a b with
   | some v=>some (.t (.v v),H,nx)
   | none=>(KX op nk (.t (.v a))).map λr=>(r,H,nx)
  | x,_=>(KX op nk x).map λr=>(r,H,nx)
 | .un op,[x]=>match x with
  | .t (.v a)=>(unV op a).map λv=>(.t (.v v),H,nx)
  | _=>none
 | .conv k,[x]=>(PU k x).map λr=>(r,H,nx)
 | .load agg n,[p]=>(Aj agg n H p).map λr=>(r,H,nx)
 | .faddr off,[x]=>(PS off x).map λr=>(r,H,nx)
 | .field off agg n,[x]=>(PT off agg n x).map λr=>(r,H,nx)
 | .iaddr z,[x,i]=>(Bd z x i).map λr=>(r,H,nx)
 | .aaddr n z,[x,i]=>(PR n z x i).map λr=>(r,H,nx)
 | .index,[x,i]=>(Ms x i).map λr=>(r,H,nx)
 | .slstr false false,[x]=>(DK x none none).map λr=>(r,H,nx)
 | .slstr true false,[x,l]=>(DK x (some l) none).map λr=>(r,H,nx)
 | .slstr false true,[x,h]=>(DK x none (some h)).map λr=>(r,H,nx)
 | .slstr true true,[x,l,h]=>(DK x (some l) (some h)).map λr=>(r,H,nx)
 | .slice z false false,[x]=>(EY z x none none).map λr=>(r,H,nx)
 | .slice z true false,[x,l]=>(EY z x (some l) none).map λr=>(r,H,nx)
 | .slice z false true,[x,h]=>(EY z x none (some h)).map λr=>(r,H,nx)
 | .slice z true true,[x,l,h]=>(EY z x (some l) (some h)).map λr=>(r,H,nx)
 | .ext i,[x]=>(BC x i).map λr=>(r,H,nx)
 | .chk,[x]=>(Sw x).map λr=>(r,H,nx)
 | .lenstr,[x]=>(Sv x).map λr=>(r,H,nx)
 | .lensl,[x]=>(AO x).map λr=>(r,H,nx)
 | .min,[x,y]=>(NB x y).map λr=>(r,H,nx)
 | .max,[x,y]=>(NC x y).map λr=>(r,H,nx)
 | .store n,[p,x]=>(AM n H p x).map λH'=>(.t (.v undef),H',nx)
 | .make e n by' zc,[l,c]=>(Mt e n by' zc l c nx).map λq=>(q.1,(nx,q.2)::H,nx+1)
 | .bslice e n zc len idx,ps=>(EE e n zc len (idx.zip ps) nx).map λq=>(q.1,(nx,q.2)::H,nx+1)
 | .build places zc idx,ps=>(Fo (λk=>places[k]?) (zc.map λx=>.t (.v x)) (idx.zip ps)).map λcs=>(Bi cs,H,nx)
 | .barr n zc idx,ps=>(Fo (λk=>some (k*n,n)) (zc.map λx=>.t (.v x)) (idx.zip ps)).map λcs=>(Bi cs,H,nx)
 | .box t,[x]=>(Bj x).map λps=>(.ptr nx 0,(nx,.cells t ps)::H,nx+1)
 | .alloc t zc,[]=>some (.ptr nx 0,(nx,.cells t (zc.map λx=>.t (.v x)))::H,nx+1)
 | .app e z by',[d,x]=>Cc e z by' H nx d x
 | .call f,ps=>match BQ H ps with
  | some (targs,F)=>match Φ f targs with
   | some r=>some (.t r,if F.isEmpty then H else if DI r then H else Dy H F,nx)
   | none=>none
  | none=>none
 | .hcall f,ps=>Φ.h f ps H nx
 | .tslice e n zc len idx,ps=>(KY e n zc len (idx.zip ps)).map λr=>(r,H,nx)
 | .callv,fv::ps=>PO Φ H nx fv ps
 | .ex e,ps=>(exM e ps).map λr=>(r,H,nx)
 | .hx h,ps=>hxM h H nx ps
 | _,_=>none
def PW (P:Program) (G:A2) (o:Op):Option (MK×List Opd):=
 match o with
 | .move x=>some (.mv,[AY G x])
 | .assign x=>some (.mv,[AY G x])
 | .pick c a b=>some (.pick,[AY G c,AY G a,AY G b])
 | .binOp op t x y _=>some (.bin (St P t) op (KW P t y),[AY G x,AY G y])
 | .unOp op _ x=>some (.un op,[AY G x])
 | .convert src dst x=>match P.underlying src,P.underlying dst with
  | some _,some (.int k)=>some (.conv (some k),[AY G x])
  | some _,some .string=>some (.conv none,[AY G x])
  | _,_=>none
 | .load t a=>(GN P t).map λq=>(.load q.1 q.2,[AY G a])
 | .fieldAddr t x f=>(GP P t f).map λq=>(.faddr q.1,[AY G x])
 | .field t x f=>(GP P t f).map λq=>(.field q.1 q.2.1 q.2.2,[AY G x])
 | .indexAddr t x i=>match Ga P t with
  | some (_,z)=>some (.iaddr z,[AY G x,AY G i])
  | none=>(Mj P t).map λq=>(.aaddr q.1 q.2,[AY G x,AY G i])
 | .index t x i=>match P.underlying t with
  | some .string=>some (.index,[AY G x,AY G i])
  | _=>none
 | .slice t x lo hi none=>match P.underlying t with
  | some .string=>some (.slstr lo.isSome hi.isSome,AY G x::((lo.map (AY G)).toList++(hi.map (AY G)).toList))
  | _=>match Ga P t with
   | some (_,z)=>some (.slice z lo.isSome hi.isSome,AY G x::((lo.map (AY G)).toList++(hi.map (AY G)).toList))
   | none=>none
 | .extract x i=>some (.ext i,[AY G x])
 | .nilCheck x=>some (.chk,[AY G x])
 | .store t a x=>(GN P t).map λq=>(.store q.2,[AY G a,AY G x])
 | .makeSlice t l c=>(GQ P t).map λq=>(.make q.1 q.2.1 q.2.2.1 q.2.2.2,[AY G l,AY G c])
 | .buildSlice t len parts=>(GQ P t).map λq=>(.bslice q.1 q.2.1 q.2.2.2 len (parts.toList.map (·.1)),parts.toList.map λp=>AY G p.2)
 | .build t parts=>match P.underlying t,Iu P t with
  | some (.array _ e),some zc=>(P.info? e).map λi=>(.barr i.size zc (parts.toList.map (·.1)),parts.toList.map λp=>AY G p.2)
  | some (.struct fields),some zc=>(fields.toList.mapM (λf=>(P.info? f.type).map λi=>(f.offset,i.size))).map λplaces=>(.build places zc (parts.toList.map (·.1)),parts.toList.map λp=>AY G p.2)
  | _,_=>none
 | .box t x=>some (.box t,[AY G x])
 | .alloc t=>(Iu P t).map λzc=>(.alloc t zc,[])
 | .call ⟨.builtin .append,⟨[x,y]⟩,⟨[t,t']⟩⟩=>if t=t' then(GQ P t).map λq=>(.app q.1 q.2.1 q.2.2.1,[AY G x,AY G y])else none
 | .call ⟨.builtin .len,⟨[x]⟩,⟨[t]⟩⟩=>match P.underlying t with
  | some .string=>some (.lenstr,[AY G x])
  | some (.slice _)=>some (.lensl,[AY G x])
  | _=>none
 | .call ⟨.builtin .min,⟨[x,y]⟩,_⟩=>some (.min,[AY G x,AY G y])
 | .call ⟨.builtin .max,⟨[x,y]⟩,_⟩=>some (.max,[AY G x,AY G y])
 | .call ⟨.value (.func f),args,ts⟩=>if ts.toList.any (VM P)||hot.contains f then some (.hcall f,args.toList.map (AY G))else some (.call f,args.toList.map (AY G))
 | .call ⟨.value x,args,_⟩=>some (.callv,AY G x::args.toList.map (AY G))
 | _=>some (.bad,[])
theorem PY (G:A2) (s:Ad) (parts:List (Nat×Operand)):(parts.map (·.1)).zip ((parts.map λp=>AY G p.2).map (·.ev s.env))=parts.map λp=>(p.1,s.ev G p.2):=by
 induction parts with
 | nil=>rfl
 | cons p r ih=>simp only[Xa,List.zip_cons_cons,ih,KU]
theorem AZ {α β:Type} {x:Option α} {f:α->β} {y:β} (h:x.map f=some y):∃a,x=some a/\f a=y:=by
 cases x with
 | none=>cases h
 | some a=>exact⟨a,rfl,by simpa using h⟩
theorem qD {P:Program} {G:A2} {Φ:A7} {s:Ad} {o:Op} {k:MK} {xs:List Opd} {q:PV×Ab×Nat} (hc:PW P G o=some (k,xs))
  (he:Ai Φ s.H s.nx k (xs.map (·.ev s.env))=some q):Ck P G Φ s o=some q:=by
 have ev1:=λx=>KU G s x;unfold PW at hc;split at hc
 .rename_i x;injection hc with hc;injection hc with h1 h2;subst h1;subst h2;simp only[Xa,Xc,Ai,ev1]at he;simpa[Ck,opV,Dn]using he
 .rename_i x;injection hc with hc;injection hc with h1 h2;subst h1;subst h2;simp only[Xa,Xc,Ai,ev1]at he;simpa[Ck,opV,Dn]using he
 .rename_i c a b;injection hc with hc;injection hc with h1 h2;subst h1;subst h2;simp only[Xa,Xc,Ai,ev1]at he;simp only[Ck,opV,Dn];split at he
  .rename_i t ht;rw[ht];simpa using he
  .cases he
 .rename_i op t x y yt;injection hc with hc;injection hc with h1 h2;subst h1;subst h2;simp only[Xa,Xc,Ai,ev1]at he;simp only[Ck,opV,Dn];split at he
  .rename_i a b ha hb;rw[ha,hb];simp only[pK];split at he
   .rename_i v hv;rw[hv];simpa using he
   .rename_i hv;rw[hv];obtain⟨r,hr,rfl⟩:=AZ he;simp[VP P op t _ y hr]
  .rename_i hne;obtain⟨r,hr,rfl⟩:=AZ he;have hcm:=VP P op t _ y hr;split
   .rename_i a b ha hb;exact absurd hb (hne a b ha)
   .simp[hcm]
 .rename_i op t x;injection hc with hc;injection hc with h1 h2;subst h1;subst h2;simp only[Xa,Xc,Ai,ev1]at he;simp only[Ck,opV,Dn];split at he
  .rename_i a ha;rw[ha];obtain⟨v,hv,rfl⟩:=AZ he;simp only[hv,Xi,Xb.injEq]
  .cases he
 .rename_i src dst x;simp only[Ck,opV,Dn];split at hc
  .rename_i d k' hs hd;injection hc with hc;injection hc with h1 h2;subst h1;subst h2;simp only[Xa,Xc,Ai,ev1]at he;obtain⟨r,hr,rfl⟩:=AZ he;unfold PU at hr;split at hr
   .rename_i n hx;rw[hx];simp only[Mi,hs,hd];simpa using hr
   .simp at hr
   .cases hr
  .rename_i d hs hd;injection hc with hc;injection hc with h1 h2;subst h1;subst h2;simp only[Xa,Xc,Ai,ev1]at he;obtain⟨r,hr,rfl⟩:=AZ he;unfold PU at hr;split at hr
   .simp at hr
   .rename_i n hx;rw[hx];simp only[Mi,hs,hd];simpa using hr
   .cases hr
  .cases hc
 .rename_i t a;obtain⟨⟨b,n⟩,hq,h⟩:=AZ hc;injection h with h1 h2;subst h1;subst h2;simp only[Xa,Xc,Ai,ev1]at he;simpa[Ck,opV,Dn,VU hq]using he
 .rename_i t x f;obtain⟨⟨off,b,n⟩,hq,h⟩:=AZ hc;injection h with h1 h2;subst h1;subst h2;simp only[Xa,Xc,Ai,ev1]at he;simpa[Ck,opV,Dn,pX hq]using he
 .rename_i t x f;obtain⟨⟨off,b,n⟩,hq,h⟩:=AZ hc;injection h with h1 h2;subst h1;subst h2;simp only[Xa,Xc,Ai,ev1]at he;simpa[Ck,opV,Dn,pY hq]using he
 .rename_i t x i;split at hc
  .rename_i e z hz;injection hc with hc;injection hc with h1 h2;subst h1;subst h2;simp only[Xa,Xc,Ai,ev1]at he;obtain⟨r,hr,rfl⟩:=AZ he;simp[Ck,opV,Dn,pV hz hr]
  .obtain⟨⟨n,z⟩,hq,h⟩:=AZ hc;injection h with h1 h2;subst h1;subst h2;simp only[Xa,Xc,Ai,ev1]at he;obtain⟨r,hr,rfl⟩:=AZ he;simp[Ck,opV,Dn,pW hq hr]
 .rename_i t x i;split at hc
  .rename_i hu;injection hc with hc;injection hc with h1 h2;subst h1;subst h2;simp only[Xa,Xc,Ai,ev1]at he;obtain⟨r,hr,rfl⟩:=AZ he;simp[Ck,opV,Dn,pZ hu hr]
  .cases hc
 .rename_i t x lo hi;split at hc
  .rename_i hu;injection hc with hc;injection hc with h1 h2;subst h1;subst h2;cases lo<;>cases hi<;>simp only[Yh,Yi,Xw,Xi,Yj,Yk,Yl,Ym,Yn,Xa,Xc,Ai,ev1]at he
   all_goals (obtain⟨r,hr,rfl⟩:=AZ he;simp[Ck,opV,Dn,q8 hu hr])
  .split at hc
   .rename_i e z hz;injection hc with hc;injection hc with h1 h2;subst h1;subst h2;cases lo<;>cases hi<;>simp only[Yh,Yi,Xw,Xi,Yj,Yk,Yl,Ym,Yn,Xa,Xc,Ai,ev1]at he
    all_goals (obtain⟨r,hr,rfl⟩:=AZ he;simp[Ck,opV,Dn,q9 hz hr])
   .cases hc
 .rename_i x i;injection hc with hc;injection hc with h1 h2;subst h1;subst h2;simp only[Xa,Xc,Ai,ev1]at he;simpa[Ck,opV,Dn]using he
 .rename_i x;injection hc with hc;injection hc with h1 h2;subst h1;subst h2;simp only[Xa,Xc,Ai,ev1]at he;simp only[Ck,opV,Dn];obtain⟨r,hr,rfl⟩:=AZ he;unfold Sw at hr;split at hr
  all_goals (first | (cases hr;done) | (rename_i hx;rw[hx];simpa using hr))
 .rename_i t a x;obtain⟨⟨b,n⟩,hq,h⟩:=AZ hc;injection h with h1 h2;subst h1;subst h2;simp only[Xa,Xc,Ai,ev1]at he;obtain⟨H',hr,rfl⟩:=AZ he;simp[Ck,opV,qA hq hr]
 .rename_i t l c;obtain⟨⟨e,n,by',zc⟩,hq,h⟩:=AZ hc;injection h with h1 h2;subst h1;subst h2;simp only[Xa,Xc,Ai,ev1]at he;obtain⟨r,hr,rfl⟩:=AZ he;simp[Ck,opV,qB hq hr]
 .rename_i t len parts;obtain⟨⟨e,n,by',zc⟩,hq,h⟩:=AZ hc;injection h with h1 h2;subst h1;subst h2;simp only[Ai,PY]at he;obtain⟨r,hr,rfl⟩:=AZ he
  have:Iv P t len (parts.toList.map λp=>(p.1,s.ev G p.2)) s.nx=some r:=by
   simp only[Iv,hq];exact hr
  simp[Ck,opV,this]
 .rename_i t parts;split at hc
  .rename_i n e zc hu hz;obtain⟨i,hq,h⟩:=AZ hc;injection h with h1 h2;subst h1;subst h2;simp only[Ai,PY]at he;obtain⟨cs,hr,rfl⟩:=AZ he;simp[Ck,opV,Mo,PK,hu,hq,hz,hr]
  .rename_i fields zc hu hz;obtain⟨places,hq,h⟩:=AZ hc;injection h with h1 h2;subst h1;subst h2;simp only[Ai,PY]at he;obtain⟨cs,hr,rfl⟩:=AZ he;simp[Ck,opV,Mo,PK,hu,hq,hz,hr]
  .cases hc
 .rename_i t x;injection hc with hc;injection hc with h1 h2;subst h1;subst h2;simp only[Xa,Xc,Ai,ev1]at he;simpa[Ck,opV]using he
 .rename_i t;obtain⟨zc,hq,h⟩:=AZ hc;injection h with h1 h2;subst h1;subst h2;simp only[Xc,Ai]at he;simpa[Ck,opV,hq]using he
 .rename_i x y t t';split at hc
  .rename_i e;subst e;obtain⟨⟨e,n,by',zc⟩,hq,h⟩:=AZ hc;injection h with h1 h2;subst h1;subst h2;simp only[Xa,Xc,Ai,ev1]at he;simp[Ck,opV,qC hq he]
  .cases hc
 .rename_i x t;split at hc
  .rename_i hu;injection hc with hc;injection hc with h1 h2;subst h1;subst h2;simp only[Xa,Xc,Ai,ev1]at he;obtain⟨r,hr,rfl⟩:=AZ he;unfold Sv at hr;split at hr
   .rename_i st hx
    have:KQ P t (s.ev G x)=some r:=by rw[hx];simp only[KQ,hu];exact hr
    simp[Ck,opV,Dn,Mk,this]
   .cases hr
  .rename_i e hu;injection hc with hc;injection hc with h1 h2;subst h1;subst h2;simp only[Xa,Xc,Ai,ev1]at he;obtain⟨r,hr,rfl⟩:=AZ he;unfold AO at hr;split at hr
   all_goals (first | (cases hr;done) | skip)
   all_goals
    rename_i hx
    have:KQ P t (s.ev G x)=some r:=by rw[hx];simp only[KQ,hu];exact hr
    simp[Ck,opV,Dn,Mk,this]
  .cases hc
 .rename_i x y ts;injection hc with hc;injection hc with h1 h2;subst h1;subst h2;simp only[Xa,Xc,Ai,ev1]at he;simpa[Ck,opV,Dn,Mk]using he
 .rename_i x y ts;injection hc with hc;injection hc with h1 h2;subst h1;subst h2;simp only[Xa,Xc,Ai,ev1]at he;simpa[Ck,opV,Dn,Mk]using he
 .rename_i f args ts
  have e:(args.toList.map (AY G)).map (·.ev s.env)=args.toList.map (s.ev G):=by
   rw[Xx];exact Xy λx _=>ev1 x
  split at hc
  .rename_i hr;injection hc with hc;injection hc with h1 h2;subst h1;subst h2;simp only[Ai,e]at he;simp only[Ck,hr,if_true];exact he
  .rename_i hr;injection hc with hc;injection hc with h1 h2;subst h1;subst h2;simp only[Ai,e]at he;simp only[Ck,hr,Xn,if_false];exact he
 .rename_i x args ts hne;injection hc with hc;injection hc with h1 h2;subst h1;subst h2
  have e:(args.toList.map (AY G)).map (·.ev s.env)=args.toList.map (s.ev G):=by
   rw[Xx];exact Xy λx _=>ev1 x
  simp only[Xa,Ai,e,ev1]at he;unfold Ck;split
  .rename_i f' a' t' heq;injection heq with heq;injection heq with h1 h2 h3;injection h1 with h1;exact absurd h1 (hne f')
  .rename_i x' a' t' _ heq;injection heq with heq;injection heq with h1 h2 h3;injection h1 with h1;subst h1;subst h2;exact he
  .rename_i h1 h2;exact absurd rfl (h2 _ _ _)
 .injection hc with hc;injection hc with h1 h2;subst h1;subst h2;simp[Ai]at he
def qE:Op->Bool
 | .buildSlice t len _=>len != 0 && !wet.contains t
 | _=>true
def opK (P:Program) (G:A2) (d:Bool) (o:Op):MK×List Opd:=
 match Mq P G o with
 | some q=>q
 | none=>
 match d&&qE o,o with
 | true,.buildSlice t len parts=>match GQ P t with
  | some q=>(.tslice q.1 q.2.1 q.2.2.2 len (parts.toList.map (·.1)),parts.toList.map λp=>AY G p.2)
  | none=>(.bad,[])
 | _,o=>match PW P G o with
  | some q=>q
  | none=>(.bad,[])
theorem J8 {P:Program} {G:A2} {B:Nat} {Φ:A7} {s:Ad} {o:Oper} {d:Bool} {k:MK} {xs:List Opd} (hΦ:Φ.Sound P G) (hc:opK P G d o.op=(k,xs)) {r:PV} {H':Ab} {nx':Nat}
  (he:Ai Φ s.H s.nx k (xs.map (·.ev s.env))=some (r,H',nx')):AOp P G B o s r H' nx':=by
 unfold opK at hc;split at hc
 .rename_i q hq;subst hc;refine pU hq ?_;cases k<;>simp only
  case ex e=>
   simp only[Ai]at he;obtain⟨p,hp,e1⟩:=AZ he;exact⟨p,hp,e1.symm⟩
  case hx h=>simpa only[Ai]using he
  all_goals (exact absurd hq (pL (by simp)))
 split at hc
 .rename_i t len parts _ ho;split at hc
  .rename_i q hq;obtain⟨e,n,by',zc⟩:=q;injection hc with h1 h2;subst h1;subst h2;simp only[Ai,PY]at he;obtain⟨x,hx,e1⟩:=AZ he;injection e1 with e1 e2;injection e2 with e2 e3;subst e1;subst e2;subst e3;unfold KY at hx;split at hx
   .rename_i p0 ty cs hb;split at hx
    .rename_i ts hts;split at hx
     .rename_i hl;injection hx with hx;subst hx;unfold EE at hb;split at hb
      .rename_i hsz;obtain⟨cs',hf,e4⟩:=AZ hb;injection e4 with e4 e5;injection e5 with e5 e6;subst e6
       have hbs:Iv P t len (parts.toList.map λp=>(p.1,s.ev G p.2)) s.nx=some (.row s.nx 0 len n,.cells e (ts.map .t)):=by
        simp only[Iv,hq];rw[zy hsz,hf,<-GO hts];rfl
       exact oY hl (VI ho hbs)
      .cases hb
     .cases hx
    .cases hx
   .cases hx
  .injection hc with h1 h2;subst h1;simp[Ai]at he
 .split at hc
  .rename_i q hq;subst hc;exact pJ hΦ (qD hq he)
  .injection hc with h1 h2;subst h1;simp[Ai]at he
structure A3 where
 dst:Option Nat
 k:MK
 xs:List Opd
 g:Option (Nat×Bool)
def A3.wants (env:List (Nat×PV)) (m:A3):Option Bool:=
 match m.g with
 | none=>some true
 | some (d,want)=>match Aa env d with
  | some (.t (.v (.bool b)))=>some (b==want)
  | some (.t (.v (.tuple _)))=>some false
  | _=>none
def EZ (P:Program) (G:A2) (N:Nat) (d:Bool) (ops:Array Oper) (o:Oper):Option A3:=
 match opK P G d o.op with
 | (k,xs)=>if o.dst.all (· < N)then
   (match o.guard with
   | none=>some ⟨o.dst,k,xs,none⟩
   | some (j,want)=>match (ops[j]?).bind (·.dst)with
    | some d=>some ⟨o.dst,k,xs,some (d,want)⟩
    | none=>none)
  else none
theorem NM {P:Program} {G:A2} {N:Nat} {d:Bool} {ops:Array Oper} {o:Oper} {m:A3} (h:EZ P G N d ops o=some m) :
  opK P G d o.op=(m.k,m.xs)/\m.dst=o.dst/\(∀k,o.dst=some k->k<N)/\∀s:Ad,s.wants ops o=m.wants s.env:=by
 unfold EZ at h;split at h;rename_i k xs hc;split at h
 .rename_i hd
  have hd':∀k,o.dst=some k->k<N:=by
   intro k hk;rw[hk]at hd;simpa using hd
  split at h
  .rename_i hg;injection h with h;subst h;exact⟨hc,rfl,hd',λs=>by simp[Ad.wants,A3.wants,hg]⟩
  .rename_i j want hg;split at h
   .rename_i d hdd;injection h with h;subst h;exact⟨hc,rfl,hd',λs=>by simp only[Ad.wants,A3.wants,hg,hdd];rfl⟩
   .cases h
 .cases h
def J9 (Φ:A7) (s:Ad) (m:A3):Option Ad:=
 match m.wants s.env with
 | some true=>match Ai Φ s.H s.nx m.k (m.xs.map (·.ev s.env))with
  | some (r,H',nx')=>some (({ s with H:=H',nx:=nx' }:Ad).put m.dst r)
  | none=>none
 | some false=>some (s.put m.dst (.t (.v undef)))
 | none=>none
def Hv (Φ:A7):List A3->Ad->Option Ad
 | [],s=>some s
 | m::r,s=>match J9 Φ s m with
  | some s'=>Hv Φ r s'
  | none=>none
section
variable {P : Program} {G : A2} {B N : Nat} {Φ : A7} {d : Bool} {ops : Array Oper}
def Fp (P:Program) (G:A2) (N:Nat) (d:Bool) (ops:Array Oper):List Oper->List A3->Prop
 | [],l=>l=[]
 | o::r,l=>∃m l',l=m::l'/\EZ P G N d ops o=some m/\Fp P G N d ops r l'
theorem Mv:∀{os:List Oper} {l:List A3},os.mapM (EZ P G N d ops)=some l->Fp P G N d ops os l
 | [],l,h=>by simp at h;simp only[Fp];exact h
 | o::r,l,h=>by
  simp only[Yo,Yp,Yq]at h
  cases ho:EZ P G N d ops o with
  | none=>rw[ho]at h;cases h
  | some m=>
   rw[ho]at h
   cases hr:r.mapM (EZ P G N d ops)with
   | none=>rw[hr]at h;cases h
   | some l'=>
    rw[hr]at h;simp only[Yr,Xb.injEq]at h;subst h;simp only[Fp];exact⟨m,l',rfl,ho,Mv hr⟩
theorem Fp.at_:∀{os:List Oper} {l:List A3},Fp P G N d ops os l->∀(i:Nat),(∀o,os[i]?=some o->∃m,l[i]?=some m/\EZ P G N d ops o=some m)/\os.length=l.length
 | [],l,h,i=>by simp only[Fp]at h;subst h;simp
 | o::r,l,h,i=>by
  simp only[Fp]at h;obtain⟨m,l',rfl,hm,hr⟩:=h;refine⟨λo' ho'=>?_,by simp[(Fp.at_ hr 0).2]⟩
  cases i with
  | zero=>simp only[Xt,Xb.injEq]at ho';subst ho';exact⟨m,by simp,hm⟩
  | succ i=>simpa using (Fp.at_ hr i).1 o' (by simpa using ho')
theorem Sx (hΦ:Φ.Sound P G) {Q:Ad->Prop}:∀(os:List Oper) {l:List A3} {s s':Ad},Fp P G N d ops os l->s.n=N->Hv Φ l s=some s'->Q s'->KO P G B ops os Q s
 | [],l,s,s',ha,hn,h,hq=>by
  simp only[Fp]at ha;subst ha;simp only[Hv,Xb.injEq]at h;subst h;exact nS hq
 | o::AU,l,s,s',ha,hn,h,hq=>by
  simp only[Fp]at ha;obtain⟨m,l',rfl,hm,hr⟩:=ha;obtain⟨hc,hdst,hd,hw⟩:=NM hm;simp only[Hv]at h;split at h
  .rename_i s1 h1;unfold J9 at h1;rw[<-hw s]at h1
   have hd':∀k,o.dst=some k->k<s.n:=λk hk=>by rw[hn];exact hd k hk
   rw[hdst]at h1;split at h1
   .rename_i hww;split at h1
    .rename_i r H' nx' hv;injection h1 with h1;subst h1;exact nT hww hd' (J8 hΦ hc hv) (Sx hΦ AU hr (by rw[FZ];exact hn) h hq)
    .cases h1
   .rename_i hww;injection h1 with h1;subst h1;exact nU hww hd' (Sx hΦ AU hr (by rw[FZ];exact hn) h hq)
   .cases h1
  .cases h
def AC:MK->Bool
 | .store _ | .make _ _ _ _ | .bslice _ _ _ _ _ | .box _ | .alloc _ _ | .app _ _ _ | .hcall _ | .callv | .hx _=>false
 | _=>true
def Bk (Φ:A7) (H:Ab) (nx:Nat) (k:MK) (ps:List PV):Option PV:=
 if AC k then
  (match k with
  | .call f=>match BQ H ps with
   | some (targs,F)=>match Φ f targs with
    | some r=>if F.isEmpty||DI r then some (.t r)else none
    | none=>none
   | none=>none
  | k=>(Ai Φ H nx k ps).map (·.1))
 else none
theorem VV {H:Ab} {nx:Nat} {k:MK} {ps:List PV} {r:PV} (h:Bk Φ H nx k ps=some r):Ai Φ H nx k ps=some (r,H,nx):=by
 unfold Bk at h;split at h
 .rename_i hk;split at h
  .rename_i f;split at h
   .rename_i targs F hT;split at h
    .rename_i q hq;split at h
     .rename_i hp;injection h with h;subst h;simp only[Ai,hT,hq]
      cases hF:F.isEmpty with
      | true=>simp
      | false=>
       rw[hF]at hp;simp only[Xz]at hp;simp[hp]
     .cases h
    .cases h
   .cases h
  .rename_i hnc;obtain⟨q,hq,rfl⟩:=AZ h;rw[hq];congr 1;unfold Ai at hq;split at hq
   all_goals (first
    | (simp[AC]at hk;done)
    | (exact absurd rfl (hnc _))
    | (cases hq;done)
    | (injection hq with hq;rw[<-hq];done)
    | (obtain⟨a,_,rfl⟩:=AZ hq;rfl)
    | skip)
   .split at hq
    .injection hq with hq;rw[<-hq]
    .cases hq
   .split at hq
    .split at hq
     .injection hq with hq;rw[<-hq]
     .obtain⟨a,_,rfl⟩:=AZ hq;rfl
    .obtain⟨a,_,rfl⟩:=AZ hq;rfl
   .split at hq
    .obtain⟨a,_,rfl⟩:=AZ hq;rfl
    .cases hq
 .cases h
def A3.eyes (m:A3):List Nat:=
 (m.xs.filterMap fun | .tmp t=>some t | _=>none)++(match m.g with | some (d,_)=>[d] | none=>[])
def Ad.only (s:Ad) (ts:List Nat):Ad:={ s with env:=ts.filterMap λt=>(Aa s.env t).map λp=>(t,p) }
theorem NN (s:Ad):∀(ts:List Nat) (t:Nat),Aa (s.only ts).env t=if t∈ts then Aa s.env t else none
 | [],t=>by simp[Ad.only,Aa]
 | u::ts,t=>by
  have ih:=NN s ts t;simp only[Ad.only]at ih ⊢;simp only[Ys]
  cases hu:Aa s.env u with
  | none=>
   simp only[Xw,ih];by_cases e:t=u
   .subst e;simp[hu]
   .simp[e]
  | some p=>
   simp only[Xi,Aa];by_cases e:u=t
   .subst e;simp[hu]
   .rw[zz e,ih];simp[Ne.symm e]
theorem VW (s:Ad) (m:A3) (ts:List Nat) (h:∀t∈m.eyes,t∈ts):m.xs.map (·.ev (s.only ts).env)=m.xs.map (·.ev s.env):=by
 refine Xy λx hx=>?_
 cases x with
 | tmp t=>
  have:t∈m.eyes:=by
   unfold A3.eyes;exact List.mem_append_left _ (X0.2 ⟨.tmp t,hx,rfl⟩)
  simp only[Opd.ev,NN,zy (h t this)]
 | k p=>rfl
theorem VX (s:Ad) (m:A3) (ts:List Nat) (h:∀t∈m.eyes,t∈ts):m.wants (s.only ts).env=m.wants s.env:=by
 unfold A3.wants
 cases hg:m.g with
 | none=>rfl
 | some q=>
  obtain⟨d,want⟩:=q
  have:d∈m.eyes:=by unfold A3.eyes;rw[hg];simp
  simp only[NN,zy (h d this)]
def JA (Φ:A7) (s:Ad) (m:A3):Option PV:=
 match m.wants s.env with
 | some true=>Bk Φ s.H s.nx m.k (m.xs.map (·.ev s.env))
 | some false=>some (.t (.v undef))
 | none=>none
def Ix:MK->Bool
 | .load _ _ | .call _=>false
 | k=>AC k
def GR:MK->Bool
 | .make _ _ _ _ | .bslice _ _ _ _ _ | .box _ | .alloc _ _=>true
 | _=>false
def NO (Φ:A7) (s:Ad) (m:A3):Option Ad:=
 if AC m.k then
  (match JA Φ s m with
  | some v=>some (s.put m.dst v)
  | none=>none)
 else J9 Φ s m
def GS (Φ:A7):List A3->Ad->Option Ad
 | [],s=>some s
 | m::r,s=>match NO Φ s m with
  | some s'=>GS Φ r s'
  | none=>none
def Mw:MK->Bool
 | .make _ _ _ _ | .alloc _ _=>true
 | _=>false
def F4 (A:List Nat) (pa k:Nat) (R:List (Nat×Nat)) (p p':Nat) (x y:Nat×A3):Bool:=
 (AC x.2.k&&(AC y.2.k||Ix x.2.k||GR y.2.k||R.contains (p,p'))||(A.getD y.1 0).testBit x.1||decide (pa<=p)&&decide (p'<pa+k)) &&
 ((match x.2.dst with
  | some d=>!(y.2.eyes.contains d)
  | none=>true)||(A.getD y.1 0).testBit x.1 && !(decide (pa<=p)&&decide (p'<pa+k))) &&
 ((match y.2.dst with
  | some d=>!(x.2.eyes.contains d)
  | none=>true)||(A.getD y.1 0).testBit x.1) &&
 (match x.2.dst with
  | some d=>y.2.dst != some d
  | none=>true)
def PZ (A:List Nat) (pa k:Nat) (R:List (Nat×Nat)):Nat->List (Nat×A3)->Bool
 | _,[]=>true
 | p,x::r=>(r.zipIdx (p+1)).all (λy=>F4 A pa k R p y.2 x y.1)&&PZ A pa k R (p+1) r
def C4 (l:List A3) (π:List Nat):List (Nat×A3):=π.filterMap λi=>(l[i]?).map λm=>(i,m)
def Iy (ops:Array Oper) (l:List A3) (π:List Nat) (pa k:Nat) (R:List (Nat×Nat)):Bool:=
 (ops.toList.zipIdx.all λp=>p.1.after.toList.all λe=>decide (e.on<p.2) || !Region.binds .any e) &&
 ((C4 l π).length==l.length)&&((X6 l.length).all λi=>π.contains i)&&decide (π.Nodup) &&
 PZ (ED ops.toList []) pa k R 0 (C4 l π)&&decide (pa+k<=l.length) &&
 (((C4 l π).drop pa).take k).all λx=>Mw x.2.k&&x.2.g.isNone
inductive GI where
 | o (m:A3) (kp:Bool) (ag:List Nat)
 | g (j:Nat) (m:A3)
def GI.mini:GI->A3
 | .o m _ _=>m
 | .g _ m=>m
abbrev Fa:=List (Nat×MK×List PV×PV)
def Qa (Φ:A7) (pd:Fa) (H:Ab) (nx:Nat) (ks:List Nat):Prop:=∀i∈ks,∃x,Aa pd i=some x/\Bk Φ H nx x.1 x.2.1=some x.2.2
def Gq (Φ:A7) (s:Ad) (m:A3):Option (PV×Ab×Nat):=
 if AC m.k then(JA Φ s m).map λv=>(v,s.H,s.nx)
 else match m.wants s.env with
  | some true=>Ai Φ s.H s.nx m.k (m.xs.map (·.ev s.env))
  | some false=>some (.t (.v undef),s.H,s.nx)
  | none=>none
def Gr (kp:Bool) (n:Nat) (m:A3) (s:Ad) (v:PV) (pd:Fa):Fa:=if kp then(n,m.k,m.xs.map (·.ev s.env),v)::pd else pd
open Classical in
noncomputable def Fq (Φ:A7) (k:Nat):Nat->Nat->Fa->List GI->Ad->Option Ad
 | _,_,_,[],s=>some s
 | n,b,pd,.o m kp ag::r,s=>match Gq Φ s m with
  | some (v,H',nx')=>if Qa Φ pd H' nx' ag then Fq Φ k (n+1) b (Gr kp n m s v pd) r (({ s with H:=H',nx:=nx' }:Ad).put m.dst v)else none
  | none=>none
 | n,b,pd,.g j m::r,s=>match Ai Φ s.H ((if j=0 then s.nx else b)+k+j) m.k (m.xs.map (·.ev s.env))with
  | some (v,H',_)=>Fq Φ k (n+1) (if j=0 then s.nx else b) pd r (({ s with H:=H',nx:=(if j=0 then s.nx else b)+2*k }:Ad).put m.dst v)
  | none=>none
def KZ (pa k:Nat) (R:List (Nat×Nat)) (l:List GI):Bool:=
 (l.zipIdx.all λx=>match x.1 with
  | .o _ _ _=>decide (x.2<pa)||decide (pa+k<=x.2)
  | .g j _=>decide (pa<=x.2)&&decide (x.2<pa+k)&&(x.2==pa+j)) &&
 R.all λr=>match l[r.2]? with
  | some (.o _ _ ag)=>ag.contains r.1
  | _=>false
def Sy (q:List (Nat×A3)):Nat×Nat:=
 let free:=λx:Nat×A3=>Mw x.2.k&&x.2.g.isNone
 let pa:=q.findIdx free
 (if pa<q.length then pa else 0,((q.drop pa).takeWhile free).length)
def VY (A:List Nat) (q:List (Nat×A3)):List (Nat×Nat):=
 q.zipIdx.flatMap λy=>if AC y.1.2.k||GR y.1.2.k then []else
  (q.zipIdx.filter λx=>decide (x.2<y.2)&&AC x.1.2.k && !Ix x.1.2.k && !(A.getD y.1.1 0).testBit x.1.1).map λx=>(x.2,y.2)
def NP (pa k:Nat) (R:List (Nat×Nat)) (q:List (Nat×A3)):List GI:=
 q.zipIdx.map λx=>if pa<=x.2/\x.2<pa+k then .g (x.2-pa) x.1.2 else .o x.1.2 (R.any λr=>r.1==x.2) ((R.filter λr=>r.2==x.2).map Prod.fst)
end
section
variable {P : Program} {G : A2} {B N : Nat} {Φ : A7} {ops : Array Oper}
theorem NQ {S:Array Bool} {i:Nat} (h:i∈Region.ready .any ops S):i<ops.size/\S.getD i true=false/\∃o,ops[i]?=some o/\∀e∈o.after.toList,Region.binds .any e=true->S.getD e.on false=true:=by
 unfold Region.ready at h;obtain⟨h1,h2⟩:=Yt.1 h;simp only[List.mem_range]at h1;simp only[Xd,X7]at h2;refine⟨h1,h2.1,ops[i],Xj h1,λe he hb=>?_⟩;have:=h2.2;rw[Xj h1]at this;simp only[Xi,X8]at this;rw[Yu]at this;have:=this e (Yv.2 he);simpa[hb]using this
theorem Sz {S:Array Bool} {i:Nat} {o:Oper} (ho:ops[i]?=some o) (h2:S.getD i true=false) (h3:∀e∈o.after.toList,Region.binds .any e=true->S.getD e.on false=true):i∈Region.ready .any ops S:=by
 unfold Region.ready;refine Yt.2 ⟨by simpa using (Xr.1 ho).1,?_⟩;simp only[h2,ho,Xi,X8,Bool.not_false,Yw];rw[Yu];intro e he
 cases hb:Region.binds .any e with
 | false=>simp
 | true=>simp[h3 e (Yv.1 he) hb]
theorem JB {S:Array Bool} {i:Nat} (h:i<S.size):S.getD i true=S.getD i false:=by
 simp[Xk,h]
theorem Ey (S:Array Bool) (i j:Nat) (h:i<S.size):(S.setIfInBounds i true).getD j false=if i=j then true else S.getD j false:=by
 simp only[Xk];by_cases e:i=j
 .subst e;simp[h]
 .simp[e,Xv e]
def cnt (S:Array Bool):Nat:=S.toList.count true
theorem S0 {S:Array Bool} {i:Nat} (h:i<S.size) (hf:S.getD i false=false):cnt (S.setIfInBounds i true)=cnt S+1:=by
 unfold cnt;rw[Array.toList_setIfInBounds,List.count_set (by simpa using h)]
 have:S.toList[i]'(by simpa using h)=false:=by
  simp only[Xk]at hf;rw[Xj h]at hf;simpa using hf
 rw[this];simp
theorem S1 {S:Array Bool} (h:S.size<=cnt S):∀i,i<S.size->S.getD i false=true:=by
 intro i hi
 have hle:cnt S<=S.size:=by unfold cnt;have:=List.count_le_length (a:=true) (l:=S.toList);simpa using this
 have he:S.toList.count true=S.toList.length:=by
  unfold cnt at h hle
  have:S.toList.length=S.size:=by simp
  omega
 have:=List.count_eq_length.1 he S.toList[i] (by simp);simp only[Xk,Xj hi,X8];simpa using this.symm
def Did (Φ:A7) (s:Ad) (m:A3) (v:PV) (s':Ad):Prop:=
 (AC m.k=true/\JA Φ s m=some v/\s'=s.put m.dst v) \/
 (AC m.k=false/\m.wants s.env=some false/\v = .t (.v undef)/\s'=s.put m.dst v) \/
 (AC m.k=false/\m.wants s.env=some true/\∃H' nx',Ai Φ s.H s.nx m.k (m.xs.map (·.ev s.env))=some (v,H',nx')/\s'=({ s with H:=H',nx:=nx' }:Ad).put m.dst v)
theorem VZ {s s':Ad} {m:A3} (h:NO Φ s m=some s'):∃v,Did Φ s m v s':=by
 unfold NO at h;split at h
 .rename_i hq;split at h
  .rename_i v hv;injection h with h;exact⟨v,.inl ⟨hq,hv,h.symm⟩⟩
  .cases h
 .rename_i hq
  have hq:AC m.k=false:=by simpa using hq
  unfold J9 at h;split at h
  .rename_i hw;split at h
   .rename_i r H' nx' he;injection h with h;exact⟨r,.inr (.inr ⟨hq,hw,H',nx',he,h.symm⟩)⟩
   .cases h
  .rename_i hw;injection h with h;exact⟨_,.inr (.inl ⟨hq,hw,rfl,h.symm⟩)⟩
  .cases h
theorem WA:∀(l:List A3) {s s':Ad},GS Φ l s=some s'->∃(st:Nat->Ad) (vals:Nat->PV),st 0=s/\st l.length=s'/\∀(p:Nat) m,l[p]?=some m->Did Φ (st p) m (vals p) (st (p+1))
 | [],s,s',h=>by
  simp only[GS,Xb.injEq]at h;exact⟨λ_=>s,λ_=>.dead,rfl,h,by simp⟩
 | q::r,s,s',h=>by
  simp only[GS]at h;split at h
  .rename_i s1 h1;obtain⟨v,hd⟩:=VZ h1;obtain⟨st,vals,h0,hl,hall⟩:=WA r h;refine⟨λp=>match p with | 0=>s | p+1=>st p,λp=>match p with | 0=>v | p+1=>vals p,rfl,by simpa using hl,λp m hp=>?_⟩
   cases p with
   | zero=>simp only[Xt,Xb.injEq]at hp;subst hp;simp only;rw[h0];exact hd
   | succ p=>simpa using hall p m (by simpa using hp)
  .cases h
theorem Qb {s s':Ad} {m:A3} {v:PV} (h:Did Φ s m v s'):s'.env=(s.put m.dst v).env/\s'.n=s.n:=by
 rcases h with⟨_,_,rfl⟩ | ⟨_,_,_,rfl⟩ | ⟨_,_,H',nx',_,rfl⟩
 .exact⟨rfl,FZ⟩
 .exact⟨rfl,FZ⟩
 .refine⟨?_,by rw[FZ]⟩;cases m.dst<;>rfl
theorem Qc {s s':Ad} {m:A3} {v:PV} (h:Did Φ s m v s') (hq:AC m.k=true):s'.H=s.H/\s'.nx=s.nx:=by
 rcases h with⟨_,_,rfl⟩ | ⟨hf,_⟩ | ⟨hf,_⟩
 .exact⟨EA,Gn⟩
 .rw[hq]at hf;cases hf
 .rw[hq]at hf;cases hf
def JC (s:Ad):Prop:=∀b r,Aa s.H b=some r->b<s.nx
theorem Qd {H:Ab} {nx:Nat} {r:Row} (h:∀b r,Aa H b=some r->b<nx):∀b r',Aa ((nx,r)::H) b=some r'->b<nx+1:=by
 intro b r' hb;simp only[Aa]at hb;by_cases e:nx=b
 .omega
 .rw[zz e]at hb;have:=h b r' hb;omega
theorem qF {k:HK} {H H':Ab} {nx nx':Nat} {ps:List PV} {v:PV} (h:hxM k H nx ps=some (v,H',nx')) (hf:∀b r,Aa H b=some r->b<nx):∀b r,Aa H' b=some r->b<nx':=by
 unfold hxM at h;split at h
 .injection h with h;injection h with e1 e2;injection e2 with e2 e3;subst e2;subst e3;exact Qd hf
 .split at h
  .rename_i hl;split at h
   .injection h with h;injection h with e1 e2;injection e2 with e2 e3;subst e2;subst e3;intro j r hj;rw[AN]at hj;split at hj
    .rename_i e;subst e;exact hf _ _ hl
    .exact hf j r hj
   .injection h with h;injection h with e1 e2;injection e2 with e2 e3;subst e2;subst e3;exact hf
  .cases h
 .cases h
theorem qG (hΦ:Φ.Sound P G) {H H':Ab} {nx nx':Nat} {k:MK} {ps:List PV} {v:PV} (hq:AC k=false) (h:Ai Φ H nx k ps=some (v,H',nx')) (hf:∀b r,Aa H b=some r->b<nx) :
  (∀b r,Aa H' b=some r->b<nx')/\(GR k=true->∀b r,Aa H b=some r->Aa H' b=some r):=by
 have new:∀{row:Row},(∀b r,Aa ((nx,row)::H) b=some r->b<nx+1)/\(∀b r,Aa H b=some r->Aa ((nx,row)::H) b=some r):=by
  intro row;refine⟨Qd hf,λb r hb=>?_⟩;have:=hf b r hb;simp only[Aa];rw[zz (by omega)];exact hb
 cases k<;>simp only[AC]at hq<;>try (cases hq;done)
 case store n=>
  refine⟨?_,λha=>by simp[GR]at ha⟩
  rcases ps with _ | ⟨p,_ | ⟨x,_ | ⟨y,r⟩⟩⟩<;>simp only[Ai]at h<;>try (cases h;done)
  obtain⟨H1,hs,e⟩:=AZ h;injection e with e1 e2;injection e2 with e2 e3;subst e2;subst e3;unfold AM at hs;split at hs
  .rename_i b o;split at hs
   .split at hs
    .rename_i ty cs hl;split at hs
     .injection hs with hs;subst hs;intro j r hj;rw[AN]at hj;split at hj
      .rename_i e;subst e;exact hf _ _ hl
      .exact hf j r hj
     .cases hs
    .cases hs
   .cases hs
  .cases hs
 case make e n by' zc=>
  rcases ps with _ | ⟨p,_ | ⟨x,_ | ⟨y,r⟩⟩⟩<;>simp only[Ai]at h<;>try (cases h;done)
  obtain⟨q,hs,e⟩:=AZ h;injection e with e1 e2;injection e2 with e2 e3;subst e2;subst e3;exact⟨new.1,λ_=>new.2⟩
 case bslice e n zc len idx=>
  simp only[Ai]at h;obtain⟨q,hs,e⟩:=AZ h;injection e with e1 e2;injection e2 with e2 e3;subst e2;subst e3;exact⟨new.1,λ_=>new.2⟩
 case box t=>
  rcases ps with _ | ⟨p,_ | ⟨x,r⟩⟩<;>simp only[Ai]at h<;>try (cases h;done)
  obtain⟨q,hs,e⟩:=AZ h;injection e with e1 e2;injection e2 with e2 e3;subst e2;subst e3;exact⟨new.1,λ_=>new.2⟩
 case alloc t zc=>
  rcases ps with _ | ⟨p,r⟩<;>simp only[Ai]at h<;>try (cases h;done)
  injection h with e;injection e with e1 e2;injection e2 with e2 e3;subst e2;subst e3;exact⟨new.1,λ_=>new.2⟩
 case app e z by'=>
  refine⟨?_,λha=>by simp[GR]at ha⟩
  rcases ps with _ | ⟨d,_ | ⟨x,_ | ⟨y,r⟩⟩⟩<;>simp only[Ai]at h<;>try (cases h;done)
  unfold Cc at h;split at h
  .split at h
   .split at h
    .split at h
     .injection h with h;injection h with e1 e2;injection e2 with e2 e3;subst e2;subst e3;exact hf
     .split at h
      .injection h with h;injection h with e1 e2;injection e2 with e2 e3;subst e2;subst e3;exact new.1
      .cases h
    .cases h
   .split at h
    .split at h
     .injection h with h;injection h with e1 e2;injection e2 with e2 e3;subst e2;subst e3;refine Qd λb r hb=>?_;rw[CJ]at hb;split at hb
      .cases hb
      .exact hf b r hb
     .cases h
    .cases h
   .cases h
  .cases h
 case hx hk=>
  refine⟨?_,λha=>by simp[GR]at ha⟩;simp only[Ai]at h;exact qF h hf
 case hcall f=>
  refine⟨?_,λha=>by simp[GR]at ha⟩;simp only[Ai]at h;exact hΦ.fresh _ _ _ _ _ _ _ h hf
 case callv=>
  refine⟨?_,λha=>by simp[GR]at ha⟩;rcases ps with _ | ⟨fv,ps⟩
  .simp[Ai]at h
  .simp only[Ai]at h;unfold PO at h;split at h
   .exact hΦ.fresh _ _ _ _ _ _ _ h hf
   .exact hΦ.fresh _ _ _ _ _ _ _ h hf
   .cases h
theorem Qe (hΦ:Φ.Sound P G) {s s':Ad} {m:A3} {v:PV} (h:Did Φ s m v s') (hf:JC s):JC s'/\(GR m.k=true\/AC m.k=true->∀b r,Aa s.H b=some r->Aa s'.H b=some r):=by
 rcases h with⟨hq,_,rfl⟩ | ⟨hq,_,_,rfl⟩ | ⟨hq,_,H',nx',he,rfl⟩
 .unfold JC;rw[EA,Gn];exact⟨hf,λ_ b r hb=>hb⟩
 .unfold JC;rw[EA,Gn];exact⟨hf,λ_ b r hb=>hb⟩
 .have:=qG hΦ hq he hf;unfold JC;rw[EA,Gn];refine⟨this.1,λha=>?_⟩;rcases ha with ha | ha
  .exact this.2 ha
  .rw[hq]at ha;cases ha
mutual
theorem qH {H H':Ab} (hh:∀b r,Aa H b=some r->Aa H' b=some r):∀(p:PV) {q:T×List Nat},toT H p=some q->toT H' p=some q
 | .t x,q,h=>by simpa only[toT]using h
 | .row b o n z,q,h=>by
  simp only[toT]at h ⊢;split at h
  .rename_i ty cs hl;rw[hh b _ hl];exact h
  .cases h
 | .ag cs,q,h=>by
  simp only[toT]at h ⊢;obtain⟨a,ha,rfl⟩:=AZ h;rw[Qf hh cs ha];rfl
 | .tu cs,q,h=>by
  simp only[toT]at h ⊢;obtain⟨a,ha,rfl⟩:=AZ h;rw[Qf hh cs ha];rfl
 | .ptr _ _,q,h=>by simp[toT]at h
 | .fn _ _ _,q,h=>by simp[toT]at h
 | .ic _ _,q,h=>by simp[toT]at h
 | .mp _,q,h=>by simp[toT]at h
 | .dead,q,h=>by simp[toT]at h
theorem Qf {H H':Ab} (hh:∀b r,Aa H b=some r->Aa H' b=some r):∀(ps:List PV) {q:List T×List Nat},BQ H ps=some q->BQ H' ps=some q
 | [],q,h=>by simpa only[BQ]using h
 | p::ps,q,h=>by
  simp only[BQ]at h ⊢;split at h
  .rename_i x F xs F' h1 h2;rw[qH hh p h1,Qf hh ps h2];exact h
  .cases h
end
theorem qI {H H':Ab} {nx nx':Nat} {k:MK} {ps:List PV} {q:PV×Ab×Nat} (hk:Ix k=true) (h:Ai Φ H nx k ps=some q):Ai Φ H' nx' k ps=some (q.1,H',nx'):=by
 cases k<;>(first | (simp only[Ix,AC,Xn]at hk;done) | skip)
 case slstr lo hi=>
  cases lo<;>cases hi<;>rcases ps with _ | ⟨a,_ | ⟨b,_ | ⟨c,_ | ⟨d,r⟩⟩⟩⟩<;>simp only[Ai]at h ⊢ <;>(first | (cases h;done) | (obtain⟨x,hx,rfl⟩:=AZ h;rw[hx];rfl))
 case slice z lo hi=>
  cases lo<;>cases hi<;>rcases ps with _ | ⟨a,_ | ⟨b,_ | ⟨c,_ | ⟨d,r⟩⟩⟩⟩<;>simp only[Ai]at h ⊢ <;>(first | (cases h;done) | (obtain⟨x,hx,rfl⟩:=AZ h;rw[hx];rfl))
 case bin isB op nk=>
  rcases ps with _ | ⟨a,_ | ⟨b,_ | ⟨c,r⟩⟩⟩<;>simp only[Ai]at h ⊢ <;>(first | (cases h;done) | skip);split at h
  .split at h
   .rename_i hb;injection h with h;subst h;simp only[hb]
   .rename_i hb;obtain⟨x,hx,rfl⟩:=AZ h;simp only[hb,hx,Xi]
  .rename_i hne;obtain⟨x,hx,rfl⟩:=AZ h;rw[hx];rfl
 case pick=>
  rcases ps with _ | ⟨a,_ | ⟨b,_ | ⟨c,_ | ⟨d,r⟩⟩⟩⟩<;>simp only[Ai]at h ⊢ <;>(first | (cases h;done) | skip);split at h
  .injection h with h;subst h;rfl
  .cases h
 case un op=>
  rcases ps with _ | ⟨a,_ | ⟨b,r⟩⟩<;>simp only[Ai]at h ⊢ <;>(first | (cases h;done) | skip);split at h
  .obtain⟨x,hx,rfl⟩:=AZ h;rw[hx];rfl
  .cases h
 case tslice e n zc len idx=>simp only[Ai]at h ⊢;obtain⟨x,hx,rfl⟩:=AZ h;rw[hx];rfl
 case build places zc idx=>simp only[Ai]at h ⊢;obtain⟨x,hx,rfl⟩:=AZ h;rw[hx];rfl
 case barr n zc idx=>simp only[Ai]at h ⊢;obtain⟨x,hx,rfl⟩:=AZ h;rw[hx];rfl
 case ex e=>simp only[Ai]at h ⊢;obtain⟨x,hx,rfl⟩:=AZ h;rw[hx];rfl
 case mv=>
  rcases ps with _ | ⟨a,_ | ⟨b,r⟩⟩<;>simp only[Ai]at h ⊢ <;>(first | (cases h;done) | (injection h with h;subst h;rfl))
 all_goals
  rcases ps with _ | ⟨a,_ | ⟨b,_ | ⟨c,r⟩⟩⟩<;>simp only[Ai]at h ⊢ <;>(first | (cases h;done) | (obtain⟨x,hx,rfl⟩:=AZ h;rw[hx];rfl))
theorem S2 {H H':Ab} {nx nx':Nat} {k:MK} {ps:List PV} {v:PV} (hk:Ix k=true) (h:Bk Φ H nx k ps=some v):Bk Φ H' nx' k ps=some v:=by
 unfold Bk at h ⊢;split at h
 .rename_i hq;rw[zy hq];split at h
  .simp[Ix]at hk
  .obtain⟨q,hq',rfl⟩:=AZ h;rw[qI hk hq'];rfl
 .cases h
theorem Qg {H H':Ab} {nx nx':Nat} {k:MK} {ps:List PV} {v:PV} (hh:∀b r,Aa H b=some r->Aa H' b=some r) (h:Bk Φ H nx k ps=some v):Bk Φ H' nx' k ps=some v:=by
 by_cases hk:Ix k=true
 .exact S2 hk h
 .cases k<;>(first | (exact absurd rfl hk) | skip)
  case load agg n=>
   unfold Bk at h ⊢;simp only[AC,if_true]at h ⊢;obtain⟨q,hq,rfl⟩:=AZ h
   rcases ps with _ | ⟨p,_ | ⟨x,r⟩⟩<;>simp only[Ai]at hq ⊢ <;> try (cases hq;done)
   obtain⟨a,ha,rfl⟩:=AZ hq
   have:Aj agg n H' p=some a:=by
    unfold Aj at ha ⊢;split at ha
    .exact ha
    .split at ha
     .rename_i hl;rw[hh _ _ hl];exact ha
     .cases ha
    .cases ha
   rw[this];rfl
  case call f=>
   unfold Bk at h ⊢;simp only[AC,if_true]at h ⊢;split at h
   .rename_i targs F hT;rw[Qf hh ps hT];exact h
   .cases h
  all_goals (unfold Bk at h;simp[AC]at h)
variable {l : List A3} {π : List Nat} {pa k : Nat} {R : List (Nat × Nat)}
structure qJ (ops:Array Oper) (q:List (Nat×A3)) (pa k:Nat) (R:List (Nat×Nat)):Prop where
 back:∀(i:Nat) o,ops[i]?=some o->∀e∈o.after.toList,Region.binds .any e=true->e.on<i
 pair:∀(p p':Nat) x y,p<p'->q[p]?=some x->q[p']?=some y->F4 (ED ops.toList []) pa k R p p' x y=true
 all:∀i,i<ops.size->∃(p:Nat) (m:A3),q[p]?=some (i,m)
 fits:pa+k<=q.length
 grp:∀(p:Nat) x,q[p]?=some x->pa<=p->p<pa+k->Mw x.2.k=true/\x.2.g=none
theorem WB {A:List Nat}:∀{q:List (Nat×A3)} {n:Nat},PZ A pa k R n q=true->∀(p p':Nat) x y,p<p'->q[p]?=some x->q[p']?=some y->F4 A pa k R (n+p) (n+p') x y=true
 | [],_,_,p,p',x,y,_,h,_=>by simp at h
 | a::q,n,hq,p,p',x,y,hlt,h,h'=>by
  simp only[PZ,Xd]at hq
  cases p' with
  | zero=>omega
  | succ p'=>
   simp only[List.getElem?_cons_succ]at h'
   cases p with
   | zero=>
    simp only[Xt,Xb.injEq]at h;subst h
    have:=Xh.1 hq.1 (y,n+1+p') (by
     rw[List.mem_zipIdx_iff_le_and_getElem?_sub]
     exact⟨by omega,by rw[show n+1+p'-(n+1)=p' by omega];exact h'⟩)
    rw[show n+(p'+1)=n+1+p' by omega];simpa using this
   | succ p=>
    have:=WB hq.2 p p' x y (by omega) (by simpa using h) h';rwa[show n+1+p=n+(p+1)by omega,show n+1+p'=n+(p'+1)by omega]at this
theorem WC (l:List A3):∀(π:List Nat) (p:Nat) x,(C4 l π)[p]?=some x->l[x.1]?=some x.2:=by
 intro π p x h;have:=X9 h;unfold C4 at this;obtain⟨i,_,hi⟩:=X0.1 this;obtain⟨m,hm,rfl⟩:=AZ hi;exact hm
theorem WD (hl:ops.size=l.length) (h:Iy ops l π pa k R=true):qJ ops (C4 l π) pa k R/\(C4 l π).length=l.length/\((C4 l π).map Prod.fst).Nodup:=by
 unfold Iy at h;simp only[Xd,decide_eq_true_eq,beq_iff_eq]at h;obtain⟨⟨⟨⟨⟨⟨h1,h2⟩,h3⟩,h4⟩,h5⟩,h6⟩,h7⟩:=h;refine⟨⟨λi o ho e he hb=>?_,λp p' x y hlt hx hy=>?_,λi hi=>?_,by omega,λp x hx hp hp'=>?_⟩,h2,?_⟩
 .have hq:(o,i)∈ops.toList.zipIdx:=by
   rw[Ya];simpa using ho
  have:=Xh.1 (Xh.1 h1 _ hq) e he;simpa[hb]using this
 .have:=WB h5 p p' x y hlt hx hy;simpa using this
 .have hc:=Xh.1 h3 i (by simp;omega)
  have hmem:i∈π:=by simpa using hc
  have hil:i<l.length:=by omega
  have:(i,l[i])∈C4 l π:=X0.2 ⟨i,hmem,by rw[Xf hil];rfl⟩;obtain⟨p,hp⟩:=List.getElem?_of_mem this;exact⟨p,_,hp⟩
 .have hm:(((C4 l π).drop pa).take k)[p-pa]?=some x:=by
   rw[List.getElem?_take,zy (by omega),Yx,show pa+(p-pa)=p by omega];exact hx
  have:=Xh.1 h7 x (X9 hm);simp only[Xd,Option.isNone_iff_eq_none]at this;exact this
 .have:(C4 l π).map Prod.fst=π.filter (λi=>(l[i]?).isSome):=by
   unfold C4;clear h1 h2 h3 h4 h5 h6 h7
   induction π with
   | nil=>rfl
   | cons i π ih=>
    simp only[Ys,List.filter_cons]
    cases hi:l[i]? with
    | none=>simpa using ih
    | some m=>simpa using ih
  rw[this];exact h4.filter _
theorem qK {L L1:Loc} {H H1:Ab} {w:World} (src:Nat->Nat) (hok:BA P G L H w) (hI:L1.I=L.I) (hnx:L.nx<=L1.nx) (hμ:∀b,b<L.nx->L1.μ b=L.μ b)
  (h1:∀b r,Aa H1 b=some r->b<L1.nx/\Aa H (src b)=some r/\L1.μ b=L.μ (src b)) (hinj:∀b b' r r',Aa H1 b=some r->Aa H1 b'=some r'->src b=src b'->b=b') :
  BA P G L1 H1 w/\Bh L w L1 w/\Ext L H w L1 H1 w:=by
 have hm:Bh L w L1 w:=⟨λg hg=>⟨by rw[hI];exact hg,rfl⟩,hnx,hμ,Xe _,BS.refl w⟩
 refine⟨⟨λb hb=>hok.lt b (by rw[<-hI];exact hb),λb r hb=>?_,λb r hb=>?_,λb b' r r' hb hb' he=>?_,λb r hb=>(h1 b r hb).1,FH hok hm.keeps⟩,hm,?_⟩
 .obtain⟨_,h2,h3⟩:=h1 b r hb;rw[h3];exact(hok.rep _ r h2).keep hm rfl
 .obtain⟨_,h2,h3⟩:=h1 b r hb;rw[h3,hI];exact hok.apart _ r h2
 .obtain⟨_,h2,h3⟩:=h1 b r hb;obtain⟨_,h2',h3'⟩:=h1 b' r' hb';rw[h3,h3']at he;exact hinj b b' r r' hb hb' (hok.inj _ _ r r' h2 h2' he)
 .exact⟨Xe _,λ_ _ _=>rfl,λg hg=>by rw[hI];exact hg,λg hg=>.inl (by rw[hI]at hg;exact hg),λg ⟨b,r,hb,e⟩=>.inr ⟨_,r,(h1 b r hb).2.1,(h1 b r hb).2.2.symm.trans e⟩,BS.refl w,Ca.refl w⟩
def gH (row:Nat->Row) (nx:Nat):List Nat->Ab->Ab
 | [],H=>H
 | d::D,H=>(nx+D.length,row d)::gH row nx D H
def F5:List Nat->Nat->Nat
 | [],_=>0
 | d::D,p=>if d=p then D.length else F5 D p
theorem My:∀{D:List Nat} {p:Nat},p∈D->F5 D p<D.length
 | d::D,p,h=>by
  simp only[F5,Xo];split
  .omega
  .rename_i e;have:=My (D:=D) (p:=p) (by simpa[Ne.symm e]using h);omega
theorem WE:∀{D:List Nat} {p p':Nat},p∈D->p'∈D->F5 D p=F5 D p'->p=p'
 | d::D,p,p',h,h',he=>by
  simp only[F5]at he;by_cases e:d=p
  .by_cases e':d=p'
   .exact e.symm.trans e'
   .rw[zy e,zz e']at he;have:=My (D:=D) (p:=p') (by simpa[Ne.symm e']using h');omega
  .by_cases e':d=p'
   .rw[zz e,zy e']at he;have:=My (D:=D) (p:=p) (by simpa[Ne.symm e]using h);omega
   .rw[zz e,zz e']at he;exact WE (by simpa[Ne.symm e]using h) (by simpa[Ne.symm e']using h') he
theorem S4 {row:Nat->Row} {nx:Nat} {H:Ab}:∀(D:List Nat) {b:Nat},b<nx->Aa (gH row nx D H) b=Aa H b
 | [],_,_=>rfl
 | d::D,b,h=>by
  simp only[gH,Aa];rw[zz (by omega)];exact S4 D h
theorem WG {row:Nat->Row} {nx:Nat} {H:Ab}:∀{D:List Nat} {p:Nat},p∈D->Aa (gH row nx D H) (nx+F5 D p)=some (row p)
 | d::D,p,h=>by
  simp only[gH,Aa,F5];by_cases e:d=p
  .subst e;simp
  .have hp:p∈D:=by simpa[Ne.symm e]using h
   rw[zz e,zz (by have:=My hp;omega)];exact WG hp
theorem qL {row:Nat->Row} {nx:Nat} {H:Ab} (hf:∀b r,Aa H b=some r->b<nx) (D:List Nat):∀b r,Aa H b=some r->Aa (gH row nx D H) b=some r:=λb r h=>by
 rw[S4 D (hf b r h)];exact h
theorem S5:∀(k:Nat) {D:List Nat} {pa:Nat},D.Nodup->(∀p∈D,pa<=p/\p<pa+k)->D.length<=k
 | 0,D,pa,_,h=>by
  cases D with
  | nil=>simp
  | cons d D=>have:=h d (by simp);omega
 | k+1,D,pa,hn,h=>by
  by_cases hm:pa+k∈D
  .have h1:(D.erase (pa+k)).length<=k:=S5 k (pa:=pa) (hn.erase _) λp hp=>by
    have hp':=(hn.mem_erase_iff).1 hp;have:=h p hp'.2;have:=hp'.1;omega
   rw[List.length_erase_of_mem hm]at h1;omega
  .have:=S5 k (pa:=pa) hn (λp hp=>by
    have h1:=h p hp;have:p≠pa+k:=λe=>hm (e▸hp)
    exact⟨h1.1,by omega⟩)
   omega
theorem qM {H H':Ab} {n n':Nat} {κ:MK} {ps:List PV} {v:PV} (hk:Mw κ=true) (h:Ai Φ H n κ ps=some (v,H',n')) :
  ∃(row:Row) (gv:Nat->PV),v=gv n/\H'=(n,row)::H/\n'=n+1/\(∀H n,Ai Φ H n κ ps=some (gv n,(n,row)::H,n+1)) /\
   ∀(L:Loc) (w:World) (u:Value) (a b:Nat),b<L.nx->L.μ b=L.μ a->Af P L w (gv a) u->Af P L w (gv b) u:=by
 cases κ<;>simp only[Mw]at hk<;>try (cases hk;done)
 case make e n0 by' zc=>
  rcases ps with _ | ⟨p,_ | ⟨x,_ | ⟨y,r⟩⟩⟩<;>simp only[Ai]at h<;>try (cases h;done)
  obtain⟨q,hs,e⟩:=AZ h;injection e with e1 e2;injection e2 with e2 e3;subst e1;subst e2;subst e3;unfold Mt at hs;split at hs
  .split at hs
   .rename_i hb;injection hs with hs;subst hs;refine⟨_,λn=>.row n 0 _ _,rfl,rfl,rfl,λH n=>?_,λL w u a b hb hab hr=>?_⟩
    .simp only[Ai,Mt,zy hb,Xi]
    .simp only[Af]at hr ⊢;rw[hab];exact⟨hb,hr.2⟩
   .cases hs
  .cases hs
 case alloc t zc=>
  rcases ps with _ | ⟨p,r⟩<;>simp only[Ai]at h<;>try (cases h;done)
  injection h with e;injection e with e1 e2;injection e2 with e2 e3;subst e1;subst e2;subst e3;refine⟨_,λn=>.ptr n 0,rfl,rfl,rfl,λH n=>by simp only[Ai],λL w u a b hb hab hr=>?_⟩;simp only[Af]at hr ⊢;rw[hab];exact⟨hb,hr.2⟩
theorem S6 {ms:List A3} {st:Nat->Ad} {vals:Nat->PV} {s:Ad} (h0:st 0=s) (hall:∀(p:Nat) m,ms[p]?=some m->(st (p+1)).env=((st p).put m.dst (vals p)).env):∀(p:Nat),p<=ms.length->∀k q,Aa (st p).env k=some q ->
  (∃j m,j<p/\ms[j]?=some m/\m.dst=some k/\q=vals j)\/((∀j m,j<p->ms[j]?=some m->m.dst≠some k)/\Aa s.env k=some q)
 | 0,_,k,q,h=>.inr ⟨λj m hj=>by omega,by rw[h0]at h;exact h⟩
 | p+1,hp,k,q,h=>by
  obtain⟨m,hm⟩:∃m,ms[p]?=some m:=⟨_,Xf (by omega)⟩
  rw[hall p m hm]at h;rcases Sa h with⟨e,rfl⟩ | ⟨e,h'⟩
  .exact .inl ⟨p,m,by omega,hm,e,rfl⟩
  .rcases S6 h0 hall p (by omega) k q h' with⟨j,mj,hj,hmj,hd,hq⟩ | ⟨hno,hs⟩
   .exact .inl ⟨j,mj,by omega,hmj,hd,hq⟩
   .refine .inr ⟨λj mj hj hmj=>?_,hs⟩;by_cases ej:j=p
    .subst ej;rw[hm]at hmj;injection hmj with hmj;subst hmj;exact e
    .exact hno j mj (by omega) hmj
structure NR (Φ:A7) (ms:List A3) (pa k:Nat) (R:List (Nat×Nat)) (s s2:Ad) (st:Nat->Ad) (vals:Nat->PV):Prop where
 start:st 0=s
 stop:st ms.length=s2
 norm:∀(p:Nat) m,ms[p]?=some m->(p<pa\/pa+k<=p)->Did Φ (st p) m (vals p) (st (p+1))
 grp:∀(p:Nat) m,ms[p]?=some m->pa<=p->p<pa+k->∃H' n',Ai Φ (st p).H ((st pa).nx+k+(p-pa)) m.k (m.xs.map (·.ev (st p).env))=some (vals p,H',n') /\
  st (p+1)=({ st p with H:=H',nx:=(st pa).nx+2*k }:Ad).put m.dst (vals p)
 again:∀(p p':Nat) m,(p,p')∈R->ms[p]?=some m->Bk Φ (st (p'+1)).H (st (p'+1)).nx m.k (m.xs.map (·.ev (st p).env))=some (vals p)
theorem NR.env {ms:List A3} {s s2:Ad} {st:Nat->Ad} {vals:Nat->PV} (h:NR Φ ms pa k R s s2 st vals) {p:Nat} {m:A3} (hm:ms[p]?=some m) :
  (st (p+1)).env=((st p).put m.dst (vals p)).env/\(st (p+1)).n=(st p).n:=by
 by_cases hp:p<pa\/pa+k<=p
 .exact Qb (h.norm p m hm hp)
 .obtain⟨H',n',_,e⟩:=h.grp p m hm (by omega) (by omega);rw[e];refine⟨?_,by rw[FZ]⟩;cases m.dst<;>rfl
structure WH (P:Program) (G:A2) (B:Nat) (q:List (Nat×A3)) (pa k:Nat) (row:Nat->Row) (gv:Nat->Nat->PV) (st:Nat->Ad) (vals:Nat->PV) (s:Ad) (L0:Loc) (w0:World) (S:Array Bool) (p0:Nat) (D:List Nat) (L:Loc) (a:Act) (w:World):Prop where
 le:p0<=q.length
 part:D≠[]->p0=pa/\∃p,pa<=p/\p<pa+k/\p∉D
 grp:∀p∈D,pa<=p/\p<pa+k
 nodup:D.Nodup
 out:p0<=pa\/pa+k<=p0
 done:∀(p:Nat) x,q[p]?=some x->AC x.2.k=false->(S.getD x.1 false=true ↔ p<p0\/p∈D)
 heap:BA P G L (gH row (st p0).nx D (st p0).H) w
 nx:L.nx=(st p0).nx+D.length
 base:B<=L.nx
 size:a.tmps.size=s.n
 defers:a.defers=[]
 vals:∀(p:Nat) x,q[p]?=some x->S.getD x.1 false=true->p∉D->∀k,x.2.dst=some k->Af P L w (vals p) (a.tmps.getD k undef)
 gvals:∀(p:Nat) x,q[p]?=some x->p∈D->∀k,x.2.dst=some k->Af P L w (gv p ((st p0).nx+F5 D p)) (a.tmps.getD k undef)
 old:∀k u,(∀(p:Nat) x,q[p]?=some x->S.getD x.1 false=true->x.2.dst≠some k)->Aa s.env k=some u->Af P L w u (a.tmps.getD k undef)
 ext:Ext L0 s.H w0 L (gH row (st p0).nx D (st p0).H) w
 μ:∀b,b<B->L.μ b=L0.μ b
theorem WI (hmix:P.follows .mixedOrders=true) (hΦ:Φ.Sound P G) {Q:Exit->Ad->Prop} {s s2:Ad} {st:Nat->Ad} {vals:Nat->PV} {id:Nat} (ha0:ops.toList.mapM (EZ P G N true ops)=some l) (hd0:Iy ops l π pa k R=true)
  (hn:s.n=N) (hrun:NR Φ ((C4 l π).map Prod.snd) pa k R s s2 st vals) (hq:Q .normal s2):Cq P G B (.region id ops true) Q s:=by
 intro L0 a0 w0 hi0;have ha:=Mv ha0
 have hlen:ops.size=l.length:=by have:=(ha.at_ 0).2;simpa using this
 obtain⟨hd,hql,hnodup⟩:=WD hlen hd0;have h0:=hrun.start;have hlast:=hrun.stop;simp only[List.length_map]at hlast;generalize hq':C4 l π=q at *
 have hmem:∀(p:Nat) x,q[p]?=some x->l[x.1]?=some x.2:=by intro p x hx;rw[<-hq']at hx;exact WC l π p x hx
 have hms:∀(p:Nat) x,q[p]?=some x->(q.map Prod.snd)[p]?=some x.2:=by intro p x hx;simp[hx]
 have hall:∀(p:Nat) m,(q.map Prod.snd)[p]?=some m->(st (p+1)).env=((st p).put m.dst (vals p)).env:=λp m hm=>(hrun.env hm).1;have step:∀(p:Nat) x,q[p]?=some x->(p<pa\/pa+k<=p)->Did Φ (st p) x.2 (vals p) (st (p+1)):=λp x hx=>hrun.norm p x.2 (hms p x hx)
 have gkind:∀(p:Nat) x,q[p]?=some x->pa<=p->p<pa+k->AC x.2.k=false/\GR x.2.k=true:=by
  intro p x hx h1 h2;have:=(hd.grp p x hx h1 h2).1;revert this;cases x.2.k<;>simp[Mw,AC,GR]
 have grp0:∀p,∃(row:Row) (gv:Nat->PV),∀x,q[p]?=some x->pa<=p->p<pa+k->vals p=gv ((st pa).nx+k+(p-pa)) /\
   st (p+1)=({ st p with H:=((st pa).nx+k+(p-pa),row)::(st p).H,nx:=(st pa).nx+2*k }:Ad).put x.2.dst (vals p) /\
   (∀H n,Ai Φ H n x.2.k (x.2.xs.map (·.ev (st p).env))=some (gv n,(n,row)::H,n+1)) /\
   ∀(L:Loc) (w:World) (u:Value) (a b:Nat),b<L.nx->L.μ b=L.μ a->Af P L w (gv a) u->Af P L w (gv b) u:=by
  intro p;by_cases hp:∃x,q[p]?=some x/\pa<=p/\p<pa+k
  .obtain⟨x,hx,h1,h2⟩:=hp;obtain⟨H',n',he,hst⟩:=hrun.grp p x.2 (hms p x hx) h1 h2;obtain⟨row,gv,e1,e2,e3,e4,e5⟩:=qM (P:=P) (hd.grp p x hx h1 h2).1 he;refine⟨row,gv,λy hy _ _=>?_⟩;rw[hx]at hy;injection hy with hy;subst hy;exact⟨e1,by rw[hst,e2],e4,e5⟩
  .exact⟨default,λ_=>.dead,λx hx h1 h2=>absurd ⟨x,hx,h1,h2⟩ hp⟩
 have ⟨row,grp1⟩:=Classical.axiomOfChoice grp0;have ⟨gv,grp⟩:=Classical.axiomOfChoice grp1
 have uniq:∀(p p':Nat) x y,q[p]?=some x->q[p']?=some y->x.1=y.1->p=p':=by
  intro p p' x y hx hy e
  have h1:(q.map Prod.fst)[p]?=some x.1:=by simp[hx]
  have h2:(q.map Prod.fst)[p']?=some x.1:=by simp[hy,e]
  have hp:=(Xl.1 h1).1;exact(List.getElem?_inj hp hnodup).1 (h1.trans h2.symm)
 have hfit:=hd.fits
 have gnx:∀j,pa+j+1<=pa+k->(st (pa+j+1)).nx=(st pa).nx+2*k:=by
  intro j hj;have hx:q[pa+j]?=some q[pa+j]:=Xf (by omega);rw[(grp (pa+j) _ hx (by omega) (by omega)).2.1,Gn]
 have fresh:∀p,p<=q.length->JC (st p):=by
  intro p
  induction p with
  | zero=>intro _;rw[h0];exact λb r hb=>by have:=hi0.heap.nx b r hb;rw[hi0.nx]at this;exact this
  | succ p ih=>
   intro hp;have hx:q[p]?=some q[p]:=Xf (by omega);by_cases hg:p<pa\/pa+k<=p
   .exact(Qe hΦ (step p _ hx hg) (ih (by omega))).1
   .rw[(grp p _ hx (by omega) (by omega)).2.1];unfold JC;rw[EA,Gn];intro b r hb;simp only[Aa]at hb;show b<(st pa).nx+2*k;split at hb
    .omega
    .have h1:=ih (by omega) b r hb;by_cases e:p=pa
     .subst e;omega
     .have:=gnx (p-1-pa) (by omega);rw[show pa+(p-1-pa)+1=p by omega]at this;omega
 have flat:∀(a b:Nat),a<=b->b<=q.length->(∀(p:Nat) x,a<=p->p<b->q[p]?=some x->AC x.2.k=true)->(st b).H=(st a).H/\(st b).nx=(st a).nx:=by
  intro a b hab
  induction b with
  | zero=>
   intro _ _
   have:a=0:=by omega
   subst this;exact⟨rfl,rfl⟩
  | succ b ih=>
   intro hb hno;by_cases e:a=b+1
   .subst e;exact⟨rfl,rfl⟩
   .have hx:q[b]?=some q[b]:=Xf (by omega);have hqb:=hno b _ (by omega) (by omega) hx
    have h1:=Qc (step b _ hx (by
     rcases Xm b pa with h | h
     .exact .inl h
     .rcases Xm b (pa+k)with h' | h'
      .have:=(gkind b _ hx h h').1;rw[hqb]at this;cases this
      .exact .inr h')) hqb
    have h2:=ih (by omega) (by omega) (λp x h1 h2 h3=>hno p x h1 (by omega) h3);exact⟨h1.1.trans h2.1,h1.2.trans h2.2⟩
 have nconst:∀p,p<=q.length->(st p).n=s.n:=by
  intro p
  induction p with
  | zero=>intro _;rw[h0]
  | succ p ih=>
   intro hp;have hx:q[p]?=some q[p]:=Xf (by omega);rw[(hrun.env (hms p _ hx)).2,ih (by omega)]
 have gafter:∀j,j<=k->∀b r,Aa (st (pa+j)).H b=some r->(b<(st pa).nx/\Aa (st pa).H b=some r)\/∃i,i<j/\b=(st pa).nx+k+i/\r=row (pa+i):=by
  intro j
  induction j with
  | zero=>intro _ b r hb;exact .inl ⟨fresh pa (by have:=hd.fits;omega) b r hb,hb⟩
  | succ j ih=>
   intro hj b r hb;have hx:q[pa+j]?=some q[pa+j]:=Xf (by omega);rw[show pa+(j+1)=pa+j+1 by omega,(grp (pa+j) _ hx (by omega) (by omega)).2.1,EA]at hb;simp only[Aa]at hb;split at hb
   .rename_i e;injection hb with hb;exact .inr ⟨j,by omega,by omega,hb.symm⟩
   .rcases ih (by omega) b r hb with h | ⟨i,hi,e1,e2⟩
    .exact .inl h
    .exact .inr ⟨i,by omega,e1,e2⟩
 refine wp_region_any hmix ?_
 have main:∀(fuel:Nat) (S:Array Bool) (p0:Nat) (D:List Nat) (L:Loc) (a:Act) (w:World),S.size=ops.size->Mp ops S->ops.size<=cnt S+fuel ->
   WH P G B q pa k row gv st vals s L0 w0 S p0 D L a w->wpAny P .any ops (BT P G B Q L0 s.H w0) fuel S a w:=by
  have full:∀(S:Array Bool) (p0:Nat) (D:List Nat) (L:Loc) (a:Act) (w:World),(∀i,i<ops.size->S.getD i false=true)->WH P G B q pa k row gv st vals s L0 w0 S p0 D L a w->BT P G B Q L0 s.H w0 .normal a w:=by
   intro S p0 D L a w hS inv;have hxi:∀(p:Nat) x,q[p]?=some x->S.getD x.1 false=true:=λp x hx=>hS _ (by have:=(Xl.1 (hmem p x hx)).1;omega)
   have hD:D=[]:=by
    cases D with
    | nil=>rfl
    | cons d D=>
     obtain⟨e,p,h1,h2,h3⟩:=inv.part (by simp);have hx:q[p]?=some q[p]:=Xf (by omega);rcases (inv.done p _ hx (gkind p _ hx h1 h2).1).1 (hxi p _ hx)with h | h
     .omega
     .exact absurd h h3
   subst hD;have hheap:=inv.heap;have hnx:=inv.nx;have hext:=inv.ext;simp only[gH,Yy,Yb]at hheap hnx hext
   have hf:=flat p0 q.length inv.le (Xe _) (λp x h1 h2 h3=>by
    cases hk:AC x.2.k with
    | true=>rfl
    | false=>
     rcases (inv.done p x h3 hk).1 (hxi p x h3)with h | h
     .omega
     .simp at h)
   refine⟨s2,L,hq,⟨?_,?_,inv.base,?_,inv.defers,λk u hl=>?_⟩,?_,inv.μ⟩
   .rw[<-hlast,hf.1];exact hheap
   .rw[<-hlast,hf.2];exact hnx
   .rw[<-hlast,nconst _ (Xe _)];exact inv.size
   .rw[<-hlast]at hl;rcases S6 h0 hall q.length (by simp) k u hl with⟨j,m,hj,hmj,hdst,rfl⟩ | ⟨hno,hs⟩
    .have hx:q[j]?=some q[j]:=Xf hj
     have e:m=q[j].2:=by rw[hms j _ hx]at hmj;injection hmj with hmj;exact hmj.symm
     subst e;exact inv.vals j _ hx (hxi j _ hx) (by simp) k hdst
    .refine inv.old k u (λp x hx _=>hno p x.2 ?_ (hms p x hx)) hs;exact(Xl.1 hx).1
   .rw[<-hlast,hf.1];exact hext
  intro fuel
  induction fuel with
  | zero=>
   intro S p0 D L a w hs hS hc inv;have hall':=S1 (S:=S) (by omega);refine⟨?_,full S p0 D L a w (λi hi=>hall' i (by omega)) inv⟩;rw[List.eq_nil_iff_forall_not_mem];intro i hi;obtain⟨h1,h2,_⟩:=NQ hi;rw[JB (by omega),hall' i (by omega)]at h2;cases h2
  | succ fuel ih=>
   intro S p0 D L a w hs hS hc inv;refine⟨λhr=>?_,λi hi=>?_⟩
   .refine full S p0 D L a w (λi=>?_) inv
    induction i using Nat.strongRecOn with
    | _ i ihi=>
     intro hi
     cases hS':S.getD i false with
     | true=>rfl
     | false=>
      exfalso
      have:i∈Region.ready .any ops S:=Sz (o:=ops[i]) (Xj hi) (by rw[JB (by omega)];exact hS')
       (λe he hb=>by
        have:=hd.back i _ (Xj hi) e he hb
        exact ihi _ this (by omega))
      rw[hr]at this;cases this
   .obtain⟨hi1,hun,o,ho,hp⟩:=NQ hi;rw[JB (by omega)]at hun;obtain⟨p,mi,hx⟩:=hd.all i hi1;have hpl:p<q.length:=(Xl.1 hx).1;obtain⟨mi',hmi',hcomp⟩:=(ha.at_ i).1 o (by simpa using ho)
    have emi:mi'=mi:=by have:=hmem p _ hx;simp only at this;rw[this]at hmi';injection hmi' with h;exact h.symm
    subst emi;obtain⟨hcop,hdst,hdlt,hwants⟩:=NM hcomp;have bef:∀j,((ED ops.toList []).getD i 0).testBit j=true->S.getD j false=true:=λj hb=>PP hS ho hb hp
    have aft:∀j,j<ops.size->((ED ops.toList []).getD j 0).testBit i=true->S.getD j false=false:=by
     intro j hj hb
     cases hSj:S.getD j false with
     | false=>rfl
     | true=>
      have hjo:ops[j]?=some ops[j]:=Xj hj;have:=PP hS hjo hb (hS j _ hjo hSj);rw[this]at hun;cases hun
    have idx:∀(p':Nat) y,q[p']?=some y->y.1<ops.size:=λp' y hy=>by have:=(Xl.1 (hmem p' y hy)).1;omega
    have pD:p∉D:=λh=>by
     have hg:=inv.grp p h;have:=(inv.done p _ hx (gkind p _ hx hg.1 hg.2).1).2 (.inr h);simp only at this;rw[this]at hun;cases hun
    have hbefore:∀(p':Nat) y,p'<p->q[p']?=some y->AC y.2.k=false->¬(pa<=p'/\p<pa+k)->S.getD y.1 false=true:=by
     intro p' y hlt hy hyk hng;refine bef _ ?_;have hok:=hd.pair p' p _ _ hlt hy hx;unfold F4 at hok;simp only[Xd]at hok;have h1:=hok.1.1.1;rw[hyk]at h1;simp only[Bool.false_and,Xz,Xu,Xd,decide_eq_true_eq]at h1;rcases h1 with h1 | h1
     .exact h1
     .exact absurd h1 hng
    have nogrp:D≠[]->p<pa+k:=λhD=>by
     rcases Xm p (pa+k)with h | h
     .exact h
     .obtain⟨e,p',h1,h2,h3⟩:=inv.part hD;have hy:q[p']?=some q[p']:=Xf (by omega);have hyk:=(gkind p' _ hy h1 h2).1;rcases (inv.done p' _ hy hyk).1 (hbefore p' _ (by omega) hy hyk (by omega))with h | h
      .omega
      .exact absurd h h3
    have eye:∀k u,k∈mi'.eyes->Aa (st p).env k=some u->Af P L w u (a.tmps.getD k undef):=by
     intro k' u hke hl;rcases S6 h0 hall p (by simp;omega) k' u hl with⟨j,m,hj,hmj,hdj,rfl⟩ | ⟨hno,hs'⟩
     .have hy:q[j]?=some q[j]:=Xf (by omega)
      have e:m=q[j].2:=by rw[hms j _ hy]at hmj;injection hmj with hmj;exact hmj.symm
      subst e;have hok:=hd.pair j p _ _ hj hy hx;unfold F4 at hok;simp only[Xd]at hok;have h2:=hok.1.1.2;rw[hdj]at h2;simp only[Xu,X7,Xd]at h2;rcases h2 with h2 | ⟨h2,h3⟩
      .exact absurd hke (by simpa using h2)
      .refine inv.vals j _ hy (bef _ h2) (λhjD=>?_) k' hdj;have h4:=(inv.grp j hjD).1;have h5:=nogrp (Yc hjD);simp[h4,h5]at h3
     .refine inv.old k' u (λp' y hy hSy hdy=>?_) hs';rcases Nat.lt_trichotomy p' p with hlt | heq | hgt
      .exact hno p' y.2 hlt (hms p' y hy) hdy
      .subst heq;rw[hx]at hy;injection hy with hy;subst hy;simp only at hSy;rw[hSy]at hun;cases hun
      .have hok:=hd.pair p p' _ _ hgt hx hy;unfold F4 at hok;simp only[Xd]at hok;have h3:=hok.1.2;rw[hdy]at h3;simp only[Xu,X7]at h3;rcases h3 with h3 | h3
       .exact absurd hke (by simpa using h3)
       .have:=aft y.1 (idx p' y hy) h3;rw[this]at hSy;cases hSy
    have hS':Mp ops (S.setIfInBounds i true):=by
     intro j oj hoj hj e he hb;rw[Ey S i _ (by omega)]at hj ⊢;split
     .rfl
     .split at hj
      .rename_i e1;subst e1;rw[ho]at hoj;injection hoj with hoj;subst hoj;exact hp e he hb
      .exact hS j oj hoj hj e he hb
    have hc':ops.size<=cnt (S.setIfInBounds i true)+fuel:=by rw[S0 (by omega) hun];omega
    have dsts:∀(p':Nat) y k',q[p']?=some y->i≠y.1->y.2.dst=some k'->o.dst≠some k':=by
     intro p' y k' hy e hk;rw[<-hdst];intro hcon
     have epn:p≠p':=λep=>by subst ep;rw[hx]at hy;injection hy with hy;subst hy;exact e rfl
     rcases Nat.lt_or_gt_of_ne epn with hlt | hgt
     .have hok:=hd.pair p p' _ _ hlt hx hy;unfold F4 at hok;simp only[Xd]at hok;have h4:=hok.2;rw[hcon]at h4;simp only[bne_iff_ne]at h4;exact h4 hk
     .have hok:=hd.pair p' p _ _ hgt hy hx;unfold F4 at hok;simp only[Xd]at hok;have h4:=hok.2;rw[hk]at h4;simp only[bne_iff_ne]at h4;exact h4 hcon
    have next:∀(p1:Nat) (L':Loc) (w':World) (u:Value),p1<=q.length->(D≠[]->p1=p0)->(p1<=pa\/pa+k<=p1)->(st p1).nx=(st p1).nx ->
      (∀(p':Nat) y,q[p']?=some y->AC y.2.k=false->((S.setIfInBounds i true).getD y.1 false=true ↔ p'<p1\/p'∈D)) ->
      Af P L' w' (vals p) u->BA P G L' (gH row (st p1).nx D (st p1).H) w'->L'.nx=(st p1).nx+D.length->Bh L w L' w'->Ext L (gH row (st p0).nx D (st p0).H) w L' (gH row (st p1).nx D (st p1).H) w' ->
      wpAny P .any ops (BT P G B Q L0 s.H w0) fuel (S.setIfInBounds i true) (a.put o.dst u) w':=by
     intro p1 L' w' u hp1 hDp hout _ hdone hru hok' hnx' hm' hx';refine ih _ p1 D L' _ w' (by simpa using hs) hS' hc' ⟨hp1,λhD=>?_,inv.grp,inv.nodup,hout,hdone,hok',hnx',Xp inv.base hm'.nx,?_,?_,?_,?_,?_,inv.ext.trans hx',λb hb=>(hm'.μ b (Yd hb inv.base)).trans (inv.μ b hb)⟩
     .rw[hDp hD];exact inv.part hD
     .rw[<-inv.size];cases o.dst<;>simp[Act.put]
     .cases o.dst<;>simp[Act.put,inv.defers]
     .intro p' y hy hSy hpD k' hk;rw[Iq];by_cases e:i=y.1
      .have ep:=uniq p p' _ _ hx hy e;subst ep;rw[hx]at hy;injection hy with hy;subst hy;rw[zy ⟨by rw[<-hdst];exact hk,by rw[inv.size,hn];exact hdlt k' (by rw[<-hdst];exact hk)⟩];exact hru
      .rw[Ey S i _ (by omega),zz e]at hSy;rw[zz (λh=>dsts p' y k' hy e hk h.1)];exact Af.keep hm' _ (inv.vals p' y hy hSy hpD k' hk)
     .intro p' y hy hpD k' hk;rw[Iq]
      have e:i≠y.1:=λe=>by
       have ep:=uniq p p' _ _ hx hy e;subst ep;exact pD hpD
      rw[zz (λh=>dsts p' y k' hy e hk h.1),hDp (Yc hpD)];exact Af.keep hm' _ (inv.gvals p' y hy hpD k' hk)
     .intro k' u' hno h0';rw[Iq];have hk:=hno p _ hx (by rw[Ey S i _ (by omega),zy rfl]);rw[zz (λh=>hk (by rw[hdst];exact h.1))];refine Af.keep hm' u' (inv.old k' u' (λp' y hy hSy=>hno p' y hy ?_) h0');rw[Ey S i _ (by omega)];split
      .rfl
      .exact hSy
    have keepdone:AC mi'.k=true->∀(p':Nat) y,q[p']?=some y->AC y.2.k=false->((S.setIfInBounds i true).getD y.1 false=true ↔ p'<p0\/p'∈D):=by
     intro hquiet p' y hy hyk;rw[Ey S i _ (by omega)];by_cases e:i=y.1
     .have ep:=uniq p p' _ _ hx hy e;subst ep;rw[hx]at hy;injection hy with hy;subst hy;rw[hquiet]at hyk;cases hyk
     .rw[zz e];exact inv.done p' y hy hyk
    have hi':Interp P G B L ({ ((st p).only mi'.eyes)with H:=gH row (st p0).nx D (st p0).H,nx:=(st p0).nx+D.length }:Ad) a w:=by
     refine⟨inv.heap,inv.nx,inv.base,by show a.tmps.size=(st p).n;rw[nconst p (by omega)];exact inv.size,inv.defers,λk u hl=>?_⟩;have hl':Aa ((st p).only mi'.eyes).env k=some u:=hl;rw[NN]at hl';split at hl'
     .rename_i hke;exact eye k u hke hl'
     .cases hl'
    have hww:({ ((st p).only mi'.eyes)with H:=gH row (st p0).nx D (st p0).H,nx:=(st p0).nx+D.length }:Ad).wants ops o=mi'.wants (st p).env:=by
     rw[hwants];exact VX (st p) mi' mi'.eyes (λ_ h=>h)
    have hev:mi'.xs.map (·.ev ({ ((st p).only mi'.eyes)with H:=gH row (st p0).nx D (st p0).H,nx:=(st p0).nx+D.length }:Ad).env)=mi'.xs.map (·.ev (st p).env):=VW (st p) mi' mi'.eyes (λ_ h=>h);unfold wpOp;rw[ho];simp only;by_cases hgp:pa<=p/\p<pa+k
    .
     have hk:=gkind p _ hx hgp.1 hgp.2;simp only at hk;obtain⟨gval,gst,gev,grep⟩:=grp p _ hx hgp.1 hgp.2;simp only at gval gst gev grep
     have hp0:p0<=pa:=by
      rcases inv.out with h | h
      .exact h
      .have:=(inv.done p _ hx hk.1).2 (.inl (by omega));simp only at this;rw[this]at hun;cases hun
     have hpa:=hd.fits
     have hf:=flat p0 pa hp0 (by omega) (λp' y h1 h2 h3=>by
      cases hyk:AC y.2.k with
      | true=>rfl
      | false=>
       rcases (inv.done p' y h3 hyk).1 (hbefore p' y (by omega) h3 hyk (by omega))with h | h
       .omega
       .have:=inv.grp p' h;omega)
     have hwt:mi'.wants (st p).env=some true:=by
      have:=(hd.grp p _ hx hgp.1 hgp.2).2;simp only at this;simp[A3.wants,this]
     rw[zy (hi'.wants (hww.trans hwt))];have hek':=gev (gH row (st p0).nx D (st p0).H) ((st p0).nx+D.length);rw[<-hev]at hek';have haop:=J8 (B:=B) hΦ hcop hek' L a w hi';refine .inl (FY ?_ (λ_ _ _ h=>h.elim) haop);rintro a' w' ⟨u,L',rfl,hru,hok',hnx',hm',hx'⟩;have hnodup':(p::D).Nodup:=List.nodup_cons.2 ⟨pD,inv.nodup⟩
     have hgrp':∀p'∈p::D,pa<=p'/\p'<pa+k:=by
      intro p' h;rcases Yz.1 h with rfl | h
      .exact hgp
      .exact inv.grp p' h
     have hdone':∀(p':Nat) y,q[p']?=some y->AC y.2.k=false->((S.setIfInBounds i true).getD y.1 false=true ↔ p'<p0\/p'∈p::D):=by
      intro p' y hy hyk;rw[Ey S i _ (by omega)];by_cases e:i=y.1
      .have ep:=uniq p p' _ _ hx hy e;subst ep;simp[e]
      .rw[zz e,inv.done p' y hy hyk,Yz]
       have:p'≠p:=λep=>by subst ep;rw[hx]at hy;injection hy with hy;subst hy;exact e rfl
       simp[this]
     have hvals':∀(p':Nat) y,q[p']?=some y->(S.setIfInBounds i true).getD y.1 false=true->p'∉p::D->∀k',y.2.dst=some k'->Af P L' w' (vals p') ((a.put o.dst u).tmps.getD k' undef):=by
      intro p' y hy hSy hpD k' hk;rw[Iq]
      have e:i≠y.1:=λe=>by
       have ep:=uniq p p' _ _ hx hy e;subst ep;exact hpD (by simp)
      rw[Ey S i _ (by omega),zz e]at hSy;rw[zz (λh=>dsts p' y k' hy e hk h.1)];exact Af.keep hm' _ (inv.vals p' y hy hSy (λh=>hpD (by simp[h])) k' hk)
     have hgvals':∀(p':Nat) y,q[p']?=some y->p'∈p::D->∀k',y.2.dst=some k'->Af P L' w' (gv p' ((st p0).nx+F5 (p::D) p')) ((a.put o.dst u).tmps.getD k' undef):=by
      intro p' y hy hpD k' hk;rw[Iq];by_cases ep:p=p'
      .subst ep;rw[hx]at hy;injection hy with hy;subst hy;rw[zy ⟨by rw[<-hdst];exact hk,by rw[inv.size,hn];exact hdlt k' (by rw[<-hdst];exact hk)⟩];simpa[F5]using hru
      .have e:i≠y.1:=λe=>ep (uniq p p' _ _ hx hy e)
       have hpD':p'∈D:=by simpa[Ne.symm ep]using hpD
       rw[zz (λh=>dsts p' y k' hy e hk h.1)];simp only[F5,zz ep];exact Af.keep hm' _ (inv.gvals p' y hy hpD' k' hk)
     have hold':∀k' u',(∀(p':Nat) y,q[p']?=some y->(S.setIfInBounds i true).getD y.1 false=true->y.2.dst≠some k')->Aa s.env k'=some u'->Af P L' w' u' ((a.put o.dst u).tmps.getD k' undef):=by
      intro k' u' hno h0';rw[Iq];have hk:=hno p _ hx (by rw[Ey S i _ (by omega),zy rfl]);rw[zz (λh=>hk (by rw[hdst];exact h.1))];refine Af.keep hm' u' (inv.old k' u' (λp' y hy hSy=>hno p' y hy ?_) h0');rw[Ey S i _ (by omega)];split
      .rfl
      .exact hSy
     have hsz:(a.put o.dst u).tmps.size=s.n:=by rw[<-inv.size];cases o.dst<;>simp[Act.put]
     have hdf:(a.put o.dst u).defers=[]:=by cases o.dst<;>simp[Act.put,inv.defers]
     have hxt:=inv.ext.trans hx';have hμ':∀b,b<B->L'.μ b=L0.μ b:=λb hb=>(hm'.μ b (Yd hb inv.base)).trans (inv.μ b hb);have hDk:(p::D).length<=k:=S5 k hnodup' hgrp';simp only[Xo]at hDk;by_cases hmiss:∃p',pa<=p'/\p'<pa+k/\p'∉p::D
     .
      refine ih _ pa (p::D) L' _ w' (by simpa using hs) hS' hc' ⟨by omega,λ_=>⟨rfl,hmiss⟩,hgrp',hnodup',.inl (Xe _),?_,?_,?_,Xp inv.base hm'.nx,hsz,hdf,hvals',?_,hold',?_,hμ'⟩
      .intro p' y hy hyk;rw[hdone' p' y hy hyk];constructor
       .rintro(h | h)
        .exact .inl (by omega)
        .exact .inr h
       .rintro(h | h)
        .refine(inv.done p' y hy hyk).1 (hbefore p' y (by omega) hy hyk (by omega)) |>.imp (λh=>h) (λh'=>by simp[h'])
        .exact .inr h
      .rw[hf.1,hf.2];exact hok'
      .rw[hf.2,Xo];omega
      .rw[hf.2];exact hgvals'
      .rw[hf.1,hf.2];exact hxt
     .
      have hmem':∀j,j<k->pa+j∈p::D:=λj hj=>Classical.byContradiction λh=>hmiss ⟨pa+j,by omega,by omega,h⟩;have nx0:(st p0).nx=(st pa).nx:=hf.2.symm
      have hkpos:0<k:=by omega
      have hend:=gnx (k-1) (by omega);rw[show pa+(k-1)+1=pa+k by omega]at hend
      have hgk:∀j,j<k->F5 (p::D) (pa+j)<k:=λj hj=>by have:=My (hmem' j hj);simp only[Xo]at this;omega
      obtain⟨hok1,hm1,hx1⟩:=qK (L1:={ I:=L'.I,μ:=λb=>if(st pa).nx+k<=b then L'.μ ((st pa).nx+F5 (p::D) (pa+(b-((st pa).nx+k))))else L'.μ b,nx:=(st pa).nx+2*k }) (H1:=(st (pa+k)).H)
       (λb=>if(st pa).nx+k<=b then(st pa).nx+F5 (p::D) (pa+(b-((st pa).nx+k)))else b) hok' rfl (by rw[hnx',nx0];simp only;omega) (λb hb=>by
        rw[hnx',nx0]at hb;simp only
        rw[zz (by omega)]) (λb r hb=>by
        rcases gafter k (Xe _) b r hb with⟨h1,h2⟩ | ⟨j,hj,rfl,rfl⟩
        .refine⟨by simp only;omega,?_,?_⟩
         .rw[zz (by omega)];have:=S4 (row:=row) (nx:=(st p0).nx) (H:=(st p0).H) (p::D) (b:=b) (by omega);simp only[gH]at this;rw[this,<-hf.1];exact h2
         .simp only;rw[zz (by omega),zz (by omega)]
        .refine⟨by simp only;omega,?_,?_⟩
         .rw[zy (by omega),show(st pa).nx+k+j-((st pa).nx+k)=j by omega];have:=WG (row:=row) (nx:=(st p0).nx) (H:=(st p0).H) (hmem' j hj);simp only[gH]at this;rw[nx0]at this;rw[nx0];exact this
         .simp only;rw[zy (by omega),zy (by omega)]) (λb b' r r' hb hb' he=>by
        rcases gafter k (Xe _) b r hb with⟨h1,h2⟩ | ⟨j,hj,rfl,rfl⟩<;>rcases gafter k (Xe _) b' r' hb' with⟨h1',h2'⟩ | ⟨j',hj',rfl,rfl⟩
        .rw[zz (by omega),zz (by omega)]at he;exact he
        .rw[zz (by omega),zy (by omega)]at he;omega
        .rw[zy (by omega),zz (by omega)]at he;omega
        .rw[zy (by omega),zy (by omega),show(st pa).nx+k+j-((st pa).nx+k)=j by omega,show(st pa).nx+k+j'-((st pa).nx+k)=j' by omega]at he;have:=WE (hmem' j hj) (hmem' j' hj') (by omega)
         omega)
      refine ih _ (pa+k) [] _ _ w' (by simpa using hs) hS' hc' ⟨by omega,λh=>absurd rfl h,by simp,Y0,.inr (Xe _),?_,by simp only[gH];exact hok1,by simp only[Yy,Yb];exact hend.symm,Xp inv.base (Xp hm'.nx hm1.nx),hsz,hdf,?_,by simp,λk' u' h1 h2=>Af.keep hm1 _ (hold' k' u' h1 h2),by simp only[gH];exact hxt.trans hx1,λb hb=>(hm1.μ b (Yd hb (Xp inv.base hm'.nx))).trans (hμ' b hb)⟩
      .intro p' y hy hyk;rw[hdone' p' y hy hyk];constructor
       .rintro(h | h)
        .exact .inl (by omega)
        .exact .inl (hgrp' p' h).2
       .rintro(h | h)
        .rcases Xm p' pa with h1 | h1
         .refine(inv.done p' y hy hyk).1 (hbefore p' y (by omega) hy hyk (by omega)) |>.imp (λh=>h) (λh'=>by simp[h'])
         .have:=hmem' (p'-pa) (by omega);rw[show pa+(p'-pa)=p' by omega]at this;exact .inr this
        .simp at h
      .intro p' y hy hSy _ k' hk';by_cases hpD:p'∈p::D
       .have hg:=hgrp' p' hpD;have h1:=Af.keep hm1 _ (hgvals' p' y hy hpD k' hk');obtain⟨e1,_,_,e4⟩:=grp p' y hy hg.1 hg.2;rw[e1];refine e4 _ _ _ _ _ (by simp only;omega) ?_ h1;simp only;have:=My hpD;simp only[Xo]at this;rw[zy (by omega),show(st pa).nx+k+(p'-pa)-((st pa).nx+k)=p'-pa by omega,show pa+(p'-pa)=p' by omega,nx0,zz (by omega)]
       .exact Af.keep hm1 _ (hvals' p' y hy hSy hpD k' hk')
    .have hng:p<pa\/pa+k<=p:=by omega
     have hbefore':∀(p':Nat) y,p'<p->q[p']?=some y->AC y.2.k=false->p'<p0:=by
      intro p' y hlt hy hyk;rcases (inv.done p' y hy hyk).1 (hbefore p' y hlt hy hyk (by omega))with h | h
      .exact h
      .have h1:=inv.grp p' h;have h2:=nogrp (Yc h);omega
     have hdid:=step p _ hx hng;simp only at hdid;rcases hdid with⟨hquiet,hval,hst⟩ | ⟨hheavy,hwf,hv,hst⟩ | ⟨hheavy,hwt,H',nx',hek,hst⟩
     .unfold JA at hval;split at hval
      .rename_i hwt;rw[zy (hi'.wants (hww.trans hwt))]
       have hval0:Bk Φ (st p0).H (st p0).nx mi'.k (mi'.xs.map (·.ev (st p).env))=some (vals p):=by
        by_cases hpp:p0<=p
        .have hf:=flat p0 p hpp (by omega) (λp' y h1 h2 h3=>by
          cases hyk:AC y.2.k with
          | true=>rfl
          | false=>have:=hbefore' p' y h2 h3 hyk;omega)
         rw[<-hf.1,<-hf.2];exact hval
        .have walk:∀p1,p<=p1->p1<=p0->Bk Φ (st p1).H (st p1).nx mi'.k (mi'.xs.map (·.ev (st p).env))=some (vals p):=by
          intro p1
          induction p1 with
          | zero=>
           intro h _
           have:p=0:=by omega
           subst this;exact hval
          | succ p1 ihp=>
           intro h1 h2;by_cases e:p=p1+1
           .subst e;exact hval
           .have hv1:=ihp (by omega) (by omega);have hle:=inv.le;have hy:q[p1]?=some q[p1]:=Xf (by have:=inv.le;omega);by_cases hgy:pa<=p1/\p1<pa+k
            .refine Qg (λb r hb=>?_) hv1;rw[(grp p1 _ hy hgy.1 hgy.2).2.1,EA];simp only[Aa];have hfr:=fresh p1 (by have:=inv.le;omega) b r hb;by_cases e1:p1=pa
             .subst e1;rw[zz (by omega)];exact hb
             .rcases gafter (p1-pa) (by omega) b r (by rw[show pa+(p1-pa)=p1 by omega];exact hb)with⟨h3,_⟩ | ⟨i3,h3,h4,_⟩
              .rw[zz (by omega)];exact hb
              .rw[zz (by omega)];exact hb
            .have hdy:=step p1 _ hy (by omega)
             cases hyk:AC (q[p1]).2.k with
             | true=>
              have:=Qc hdy hyk;rw[this.1,this.2];exact hv1
             | false=>
              by_cases hind:Ix mi'.k=true
              .exact S2 hind hv1
              .have hlt:p<p1:=by
                rcases Xm p p1 with h | h
                .exact h
                .have:p1=p:=by omega
                 subst this;rw[hx]at hy;injection hy with hy;rw[<-hy]at hyk;simp only at hyk;rw[hquiet]at hyk;cases hyk
               have hSy:=(inv.done p1 _ hy hyk).2 (.inl (by omega));have hok:=hd.pair p p1 _ _ hlt hx hy;unfold F4 at hok;simp only[Xd]at hok;have h1':=hok.1.1.1;simp only[hquiet,hyk,Yw,Xz,Xu,Xd,decide_eq_true_eq]at h1';rcases h1' with(((h | h) | h) | h) | h
               .exact absurd h hind
               .exact Qg ((Qe hΦ hdy (fresh p1 (by have:=inv.le;omega))).2 (.inl h)) hv1
               .exact hrun.again p p1 mi' (by simpa using h) (hms p _ hx)
               .have:=aft _ (idx p1 _ hy) h;rw[this]at hSy;cases hSy
               .omega
         exact walk p0 (by omega) (Xe _)
       have hval':Bk Φ (gH row (st p0).nx D (st p0).H) ((st p0).nx+D.length) mi'.k (mi'.xs.map (·.ev (st p).env))=some (vals p):=
        Qg (qL (fresh p0 inv.le) D) hval0
       have hek':Ai Φ ({ ((st p).only mi'.eyes)with H:=gH row (st p0).nx D (st p0).H,nx:=(st p0).nx+D.length }:Ad).H ({ ((st p).only mi'.eyes)with H:=gH row (st p0).nx D (st p0).H,nx:=(st p0).nx+D.length }:Ad).nx mi'.k (mi'.xs.map (·.ev ({ ((st p).only mi'.eyes)with H:=gH row (st p0).nx D (st p0).H,nx:=(st p0).nx+D.length }:Ad).env))=some (vals p,gH row (st p0).nx D (st p0).H,(st p0).nx+D.length):=by
        rw[hev];exact VV hval'
       have haop:=J8 (B:=B) hΦ hcop hek' L a w hi';refine .inl (FY ?_ (λ_ _ _ h=>h.elim) haop);rintro a' w' ⟨u,L',rfl,hru,hok',hnx',hm',hx'⟩
       exact next p0 L' w' u inv.le (λ_=>rfl) inv.out rfl (keepdone hquiet) hru hok' hnx' hm' hx'
      .rename_i hwf;rw[zz (by rw[hi'.wants (hww.trans hwf)];simp)];injection hval with hval
       exact next p0 L w undef inv.le (λ_=>rfl) inv.out rfl (keepdone hquiet) (by rw[<-hval];simp only[Af,Ao]) inv.heap inv.nx (Bh.refl _ _) (Ext.refl _ _ _)
      .cases hval
     all_goals
      have hp0p:p0<=p:=by
       rcases Xm p p0 with h | h
       .have:=(inv.done p _ hx hheavy).2 (.inl h);simp only at this;rw[this]at hun;cases hun
       .exact h
      have hD:D=[]:=by
       cases hD:D with
       | nil=>rfl
       | cons d D'=>
        exfalso
        have hne:D≠[]:=by rw[hD];simp
        have h1:=nogrp hne;have h2:=(inv.part hne).1;omega
      subst hD
      have hf:=flat p0 p hp0p (by omega) (λp' y h1 h2 h3=>by
       cases hyk:AC y.2.k with
       | true=>rfl
       | false=>have:=hbefore' p' y h2 h3 hyk;omega)
      have hdone':∀(p':Nat) y,q[p']?=some y->AC y.2.k=false->((S.setIfInBounds i true).getD y.1 false=true ↔ p'<p+1\/p'∈([]:List Nat)):=by
       intro p' y hy hyk;rw[Ey S i _ (by omega)];by_cases e:i=y.1
       .have ep:=uniq p p' _ _ hx hy e;subst ep;simp[e]
       .rw[zz e,inv.done p' y hy hyk];simp only[List.not_mem_nil,or_false];constructor
        .intro h;omega
        .intro h
         have:p'≠p:=λep=>by subst ep;rw[hx]at hy;injection hy with hy;subst hy;exact e rfl
         exact hbefore' p' y (by omega) hy hyk
      have hout:p+1<=pa\/pa+k<=p+1:=by omega
     .rw[zz (by rw[hi'.wants (hww.trans hwf)];simp)]
      have e1:(st (p+1)).H=(st p0).H:=by rw[hst,EA,hf.1]
      have e2:(st (p+1)).nx=(st p0).nx:=by rw[hst,Gn,hf.2]
      refine next (p+1) L w undef (by omega) (λh=>absurd rfl h) hout rfl hdone' (by rw[hv];simp only[Af,Ao]) (by rw[e1];exact inv.heap) (by rw[e2];exact inv.nx) (Bh.refl _ _) (by rw[e1];exact Ext.refl _ _ _)
     .rw[zy (hi'.wants (hww.trans hwt))]
      have hek':Ai Φ ({ ((st p).only mi'.eyes)with H:=gH row (st p0).nx [] (st p0).H,nx:=(st p0).nx+([]:List Nat).length }:Ad).H ({ ((st p).only mi'.eyes)with H:=gH row (st p0).nx [] (st p0).H,nx:=(st p0).nx+([]:List Nat).length }:Ad).nx mi'.k (mi'.xs.map (·.ev ({ ((st p).only mi'.eyes)with H:=gH row (st p0).nx [] (st p0).H,nx:=(st p0).nx+([]:List Nat).length }:Ad).env))=some (vals p,H',nx'):=by
       rw[hev];show Ai Φ (st p0).H (st p0).nx mi'.k _=_;rw[<-hf.1,<-hf.2];exact hek
      have haop:=J8 (B:=B) hΦ hcop hek' L a w hi';refine .inl (FY ?_ (λ_ _ _ h=>h.elim) haop);rintro a' w' ⟨u,L',rfl,hru,hok',hnx',hm',hx'⟩
      have e1:(st (p+1)).H=H':=by rw[hst,EA]
      have e2:(st (p+1)).nx=nx':=by rw[hst,Gn]
      exact next (p+1) L' w' u (by omega) (λh=>absurd rfl h) hout rfl hdone' hru (by simp only[gH];rw[e1];exact hok') (by rw[e2];exact hnx') hm' (by simp only[gH];rw[e1];exact hx')
 obtain⟨hok,hm,hx⟩:=hi0.heap.of_heap (w':={ w0 with drawn:=w0.drawn+1 }) ⟨rfl,rfl,rfl⟩ rfl
 have hfalse:∀i,(Ye ops.size false).getD i false=false:=by
  intro i;simp only[Xk,Array.getElem?_replicate];split<;>rfl
 refine main ops.size _ 0 [] L0 a0 _ (by simp) ?_ (by omega) ⟨Yf _,λh=>absurd rfl h,by simp,Y0,.inl (Yf _),?_,by simp only[gH];rw[h0];exact hok,by rw[h0];exact hi0.nx,hi0.base,hi0.size,hi0.defers,?_,by simp,?_,by simp only[gH];rw[h0];exact hx,λ_ _=>rfl⟩
 .intro i o _ h;rw[hfalse]at h;cases h
 .intro p x _ _;rw[hfalse];simp
 .intro p x _ h;rw[hfalse]at h;cases h
 .intro k u _ hu;exact Af.keep hm u (hi0.env k u hu)
theorem qN {s:Ad} {m:A3} {v:PV} {H':Ab} {nx':Nat} (h:Gq Φ s m=some (v,H',nx')):Did Φ s m v (({ s with H:=H',nx:=nx' }:Ad).put m.dst v):=by
 unfold Gq at h;split at h
 .rename_i hq;obtain⟨u,hu,e⟩:=AZ h;injection e with e1 e2;injection e2 with e2 e3;subst e1;subst e2;subst e3;exact .inl ⟨hq,hu,rfl⟩
 .rename_i hq
  have hq:AC m.k=false:=by simpa using hq
  split at h
  .rename_i hw;exact .inr (.inr ⟨hq,hw,H',nx',h,rfl⟩)
  .rename_i hw;injection h with e;injection e with e1 e2;injection e2 with e2 e3;subst e1;subst e2;subst e3;exact .inr (.inl ⟨hq,hw,rfl,rfl⟩)
  .cases h
def WJ (Φ:A7) (k n:Nat):GI->Ad->Nat->Fa->PV->Ad->Nat->Fa->Prop
 | .o m kp ag,s,b,pd,v,s',b',pd'=>Did Φ s m v s'/\b'=b/\pd'=Gr kp n m s v pd/\Qa Φ pd s'.H s'.nx ag
 | .g j m,s,b,pd,v,s',b',pd'=>b'=(if j=0 then s.nx else b)/\pd'=pd/\∃H' n',Ai Φ s.H (b'+k+j) m.k (m.xs.map (·.ev s.env))=some (v,H',n')/\s'=({ s with H:=H',nx:=b'+2*k }:Ad).put m.dst v
theorem WK:∀(l:List GI) {n b:Nat} {pd:Fa} {s s':Ad},Fq Φ k n b pd l s=some s'->∃(st:Nat->Ad) (vals:Nat->PV) (bs:Nat->Nat) (pds:Nat->Fa),st 0=s/\bs 0=b/\pds 0=pd/\st l.length=s' /\
  ∀(p:Nat) x,l[p]?=some x->WJ Φ k (n+p) x (st p) (bs p) (pds p) (vals p) (st (p+1)) (bs (p+1)) (pds (p+1))
 | [],n,b,pd,s,s',h=>by
  simp only[Fq,Xb.injEq]at h;exact⟨λ_=>s,λ_=>.dead,λ_=>b,λ_=>pd,rfl,rfl,rfl,h,by simp⟩
 | y::r,n,b,pd,s,s',h=>by
  have key:∃v s1 b1 pd1,WJ Φ k n y s b pd v s1 b1 pd1/\Fq Φ k (n+1) b1 pd1 r s1=some s':=by
   cases y with
   | o m kp ag=>
    simp only[Fq]at h;split at h
    .rename_i v H' nx' hv;split at h
     .rename_i hag;refine⟨v,_,b,_,⟨qN hv,rfl,rfl,?_⟩,h⟩;rw[EA,Gn];exact hag
     .cases h
    .cases h
   | g j m=>
    simp only[Fq]at h;split at h
    .rename_i v H' n' hv;exact⟨v,_,_,pd,⟨rfl,rfl,H',n',hv,rfl⟩,h⟩
    .cases h
  obtain⟨v,s1,b1,pd1,hstep,hr⟩:=key;obtain⟨st,vals,bs,pds,e1,e2,e3,e4,hall⟩:=WK r hr;refine⟨λp=>match p with | 0=>s | p+1=>st p,λp=>match p with | 0=>v | p+1=>vals p,λp=>match p with | 0=>b | p+1=>bs p,λp=>match p with | 0=>pd | p+1=>pds p,rfl,rfl,rfl,by simpa using e4,λp x hp=>?_⟩
  cases p with
  | zero=>
   simp only[Xt,Xb.injEq]at hp;subst hp;simp only[Yb];rw[e1,e2,e3];exact hstep
  | succ p=>
   have:=hall p x (by simpa using hp);rw[show n+1+p=n+(p+1)by omega]at this;exact this
theorem WL {l:List GI} {s s2:Ad} (h:Fq Φ k 0 0 [] l s=some s2) (hsh:KZ pa k R l=true):∃st vals,NR Φ (l.map GI.mini) pa k R s s2 st vals:=by
 obtain⟨st,vals,bs,pds,e1,e2,e3,e4,hall⟩:=WK l h;simp only[Nat.zero_add]at hall;unfold KZ at hsh;simp only[Xd]at hsh
 have shape:∀(p:Nat) x,l[p]?=some x->match x with
   | .o _ _ _=>p<pa\/pa+k<=p
   | .g j _=>pa<=p/\p<pa+k/\p=pa+j:=by
  intro p x hx;have:=Xh.1 hsh.1 (x,p) (by rw[Ya];exact hx)
  cases x with
  | o m kp ag=>simpa using this
  | g j m=>simpa[and_assoc]using this
 have item:∀(p:Nat) m,(l.map GI.mini)[p]?=some m->∃x,l[p]?=some x/\x.mini=m:=by
  intro p m hm;rw[Y1]at hm;obtain⟨x,hx,e⟩:=AZ hm;exact⟨x,hx,e⟩
 have base:∀j,pa+j+1<=l.length->j<k->bs (pa+j+1)=(st pa).nx:=by
  intro j
  induction j with
  | zero=>
   intro hl hk;have hx:l[pa]?=some l[pa]:=Xf (by omega);have hs:=shape pa _ hx;have hst:=hall pa _ hx
   cases hy:l[pa]with
   | o m kp ag=>rw[hy]at hs;simp only at hs;omega
   | g j m=>
    rw[hy]at hs hst;simp only at hs
    have:j=0:=by omega
    subst this;exact hst.1
  | succ j ih=>
   intro hl hk;have hx:l[pa+(j+1)]?=some l[pa+(j+1)]:=Xf (by omega);have hs:=shape _ _ hx;have hst:=hall _ _ hx
   cases hy:l[pa+(j+1)]with
   | o m kp ag=>rw[hy]at hs;simp only at hs;omega
   | g i m=>
    rw[hy]at hs hst;simp only at hs
    have:i=j+1:=by omega
    subst this;have h1:=hst.1;simp only[Nat.add_eq_zero_iff,Nat.succ_ne_self,and_false,if_false]at h1;rw[h1];exact ih (by omega) (by omega)
 have kept:∀(p:Nat),p<=l.length->∀i x,Aa (pds p) i=some x->∃y:GI,l[i]?=some y/\x=(y.mini.k,y.mini.xs.map (·.ev (st i).env),vals i):=by
  intro p
  induction p with
  | zero=>intro _ i x hx;rw[e3]at hx;simp[Aa]at hx
  | succ p ih=>
   intro hp i x hx;have hy:l[p]?=some l[p]:=Xf (by omega);have hst:=hall p _ hy
   cases hg:l[p]with
   | o m kp ag=>
    rw[hg]at hst;rw[hst.2.2.1]at hx;unfold Gr at hx;split at hx
    .simp only[Aa]at hx;split at hx
     .rename_i e;subst e;injection hx with hx;exact⟨_,hy,by rw[hg,<-hx];rfl⟩
     .exact ih (by omega) i x hx
    .exact ih (by omega) i x hx
   | g j m=>
    rw[hg]at hst;rw[hst.2.1]at hx;exact ih (by omega) i x hx
 refine⟨st,vals,e1,by simpa using e4,λp m hm hp=>?_,λp m hm h1 h2=>?_,λp p' m hR hm=>?_⟩
 .obtain⟨x,hx,rfl⟩:=item p m hm;have hs:=shape p x hx;have hst:=hall p x hx
  cases x with
  | o m kp ag=>exact hst.1
  | g j m=>simp only at hs;omega
 .obtain⟨x,hx,rfl⟩:=item p m hm;have hs:=shape p x hx;have hst:=hall p x hx
  cases x with
  | o m kp ag=>simp only at hs;omega
  | g j m=>
   simp only at hs;obtain⟨hb,_,H',n',he,hst'⟩:=hst
   have hbp:bs (p+1)=(st pa).nx:=by
    have:=base (p-pa) (by have:=(Xl.1 hx).1;omega) (by omega);rwa[show pa+(p-pa)+1=p+1 by omega]at this
   rw[hbp]at he hst';rw[show p-pa=j by omega];exact⟨H',n',he,hst'⟩
 .have:=Xh.1 hsh.2 (p,p') hR;simp only at this;split at this
  .rename_i m' kp ag hx';have hst:=hall p' _ hx';obtain⟨x,hx,he⟩:=hst.2.2.2 p (by simpa using this);obtain⟨y,hy,rfl⟩:=kept p' (by have:=(Xl.1 hx').1;omega) p x hx;obtain⟨x2,hx2,rfl⟩:=item p m hm;rw[hy]at hx2;injection hx2 with hx2;subst hx2;exact he
  .cases this
theorem qO {l:List A3} {s s2:Ad} (h:GS Φ l s=some s2):∃st vals,NR Φ l 0 0 [] s s2 st vals:=by
 obtain⟨st,vals,e1,e2,hall⟩:=WA l h;exact⟨st,vals,e1,e2,λp m hm _=>hall p m hm,λp m _ _ h2=>by omega,λp p' m hR=>by simp at hR⟩
end
inductive An where
 | skip
 | ops (l:List A3)
 | draw (l:List A3)
 | drawG (k:Nat) (l:List GI)
 | seq (a b:An)
 | cond (c:Opd) (a b:An)
 | block (id:Nat) (b:An)
 | loop (b:An)
 | exit (id:Nat)
 | ret
 | scope (b:An)
def NS (A:List Nat) (l:List A3):List Nat:=
 let idx:=X6 l.length
 let hs:=idx.filter λi=>!((l[i]?).map λm=>AC m.k).getD true
 let qs:=idx.filter λi=>((l[i]?).map λm=>AC m.k).getD true
 (X6 (hs.length+1)).flatMap λg=>(qs.filter λi=>(hs.filter λh=>(A.getD i 0).testBit h).length==g)++(hs[g]?).toList
def La (ops:Array Oper) (q:List (Nat×A3)):Bool:=
 let A:=ED ops.toList []
 q.zipIdx.all λx=>match x.1.2.k with
  | .hcall _=>(q.drop (x.2+1)).all λy=>(A.getD y.1 0).testBit x.1.1
  | _=>true
theorem qP {ops:Array Oper} {q:List (Nat×A3)} (h:La ops q=true) {p:Nat} {x:Nat×A3} {f:Nat} (hx:q[p]?=some x) (hk:x.2.k = .hcall f) :
  ∀(p':Nat) y,p<p'->q[p']?=some y->((ED ops.toList []).getD y.1 0).testBit x.1=true:=by
 intro p' y hlt hy;unfold La at h;have:=Xh.1 h (x,p) (by rw[Ya];exact hx);simp only[hk]at this;refine Xh.1 this y ?_;refine X9 (i:=p'-(p+1)) ?_;rw[Yx,show p+1+(p'-(p+1))=p' by omega];exact hy
def S7 (ops:Array Oper) (l:List A3) (π:List Nat):Option An:=
 let q:=C4 l π
 let pk:=Sy q
 let R:=VY (ED ops.toList []) q
 let is:=NP pk.1 pk.2 R q
 if(Iy ops l π pk.1 pk.2 R&&KZ pk.1 pk.2 R is)&&La ops q then some (.drawG pk.2 is)else none
theorem qQ (pa k:Nat) (R:List (Nat×Nat)) (q:List (Nat×A3)):(NP pa k R q).map GI.mini=q.map Prod.snd:=by
 unfold NP;rw[Xx]
 have:∀(q:List (Nat×A3)) (n:Nat),(q.zipIdx n).map (GI.mini∘λx=>if pa<=x.2/\x.2<pa+k then .g (x.2-pa) x.1.2 else .o x.1.2 (R.any λr=>r.1==x.2) ((R.filter λr=>r.2==x.2).map Prod.fst))=q.map Prod.snd:=by
  intro q
  induction q with
  | nil=>intro n;rfl
  | cons a q ih=>
   intro n;simp only[List.zipIdx_cons,Xa,ih];congr 1;simp only[Function.comp];split<;>rfl
 exact this q 0
theorem qR {ops:Array Oper} {l:List A3} {π:List Nat} {M:An} (h:S7 ops l π=some M) :
  ∃pa k R is,M = .drawG k is/\Iy ops l π pa k R=true/\KZ pa k R is=true/\is.map GI.mini=(C4 l π).map Prod.snd/\La ops (C4 l π)=true:=by
 unfold S7 at h;simp only at h;split at h
 .rename_i hc;rw[Xd,Xd]at hc;injection h with h;exact⟨_,_,_,_,h.symm,hc.1.1,hc.1.2,qQ _ _ _ _,hc.2⟩
 .cases h
def WM (ops:Array Oper) (l:List A3) (π:List Nat):Option An:=
 S7 ops l π
def comp (P:Program) (G:A2) (N:Nat):Code->Option An
 | .skip=>some .skip
 | .label _=>some .skip
 | .region _ ops draw=>match ops.toList.mapM (EZ P G N draw ops)with
  | some l=>if draw then
    (if Iy ops l (NS (ED ops.toList []) l) 0 0 []&&La ops (C4 l (NS (ED ops.toList []) l))then some (.draw ((C4 l (NS (ED ops.toList []) l)).map Prod.snd))
    else WM ops l (NS (ED ops.toList []) l))
   else some (.ops l)
  | none=>none
 | .seq a b=>match comp P G N a,comp P G N b with
  | some x,some y=>some (.seq x y)
  | _,_=>none
 | .cond c a b=>match comp P G N a,comp P G N b with
  | some x,some y=>some (.cond (AY G c) x y)
  | _,_=>none
 | .block id b=>match comp P G N b with
  | some x=>some (.block id x)
  | none=>none
 | .loop b=>match comp P G N b with
  | some x=>some (.loop x)
  | none=>none
 | .exit id=>some (.exit id)
 | .ret=>some .ret
 | .scope b=>match comp P G N b with
  | some x=>some (.scope x)
  | none=>none
 | _=>none
def MC (P:Program) (G:A2) (B N:Nat) (M:An) (Q:Exit->Ad->Prop) (s:Ad):Prop:=
 ∀c,comp P G N c=some M->s.n=N->Cq P G B c Q s
structure Ctx (P:Program) (G:A2) (Φ:A7):Prop where
 mix:P.follows .mixedOrders=true
 sound:Φ.Sound P G
section
variable {P : Program} {G : A2} {B N : Nat} {Φ : A7} {Q Q' : Exit -> Ad -> Prop} {s s' : Ad}
theorem Fb {c:Code} {M:An} (h:comp P G N c=some M) :
  match M with
  | .skip=>c = .skip\/∃l,c = .label l
  | .ops l=>∃id ops,c = .region id ops false/\ops.toList.mapM (EZ P G N false ops)=some l
  | .draw l=>∃id ops lt π,c = .region id ops true/\ops.toList.mapM (EZ P G N true ops)=some lt/\Iy ops lt π 0 0 []=true/\l=(C4 lt π).map Prod.snd/\La ops (C4 lt π)=true
  | .drawG k is=>∃id ops lt π pa R,c = .region id ops true/\ops.toList.mapM (EZ P G N true ops)=some lt/\Iy ops lt π pa k R=true/\KZ pa k R is=true/\is.map GI.mini=(C4 lt π).map Prod.snd/\La ops (C4 lt π)=true
  | .seq x y=>∃a b,c = .seq a b/\comp P G N a=some x/\comp P G N b=some y
  | .cond k x y=>∃k0 a b,c = .cond k0 a b/\k=AY G k0/\comp P G N a=some x/\comp P G N b=some y
  | .block id x=>∃b,c = .block id b/\comp P G N b=some x
  | .loop x=>∃b,c = .loop b/\comp P G N b=some x
  | .exit id=>c = .exit id
  | .ret=>c = .ret
  | .scope x=>∃b,c = .scope b/\comp P G N b=some x:=by
 cases c<;>simp only[comp]at h
 case skip=>injection h with h;subst h;exact .inl rfl
 case label l=>injection h with h;subst h;exact .inr ⟨l,rfl⟩
 case region id ops draw=>
  split at h
  .rename_i l hl
   cases draw with
   | false=>simp only[Xn,if_false]at h;injection h with h;subst h;exact⟨id,ops,rfl,hl⟩
   | true=>
    simp only[if_true]at h;split at h
    .rename_i hd;rw[Xd]at hd;injection h with h;subst h;exact⟨id,ops,l,_,rfl,hl,hd.1,rfl,hd.2⟩
    .unfold WM at h;obtain⟨pa,k,R,is,rfl,h1,h2,h3⟩:=qR h;exact⟨id,ops,l,_,pa,R,rfl,hl,h1,h2,h3⟩
  .cases h
 case seq a b=>
  split at h
  .rename_i x y hx hy;injection h with h;subst h;exact⟨a,b,rfl,hx,hy⟩
  .cases h
 case cond k a b=>
  split at h
  .rename_i x y hx hy;injection h with h;subst h;exact⟨k,a,b,rfl,rfl,hx,hy⟩
  .cases h
 case block id b=>
  split at h
  .rename_i x hx;injection h with h;subst h;exact⟨b,rfl,hx⟩
  .cases h
 case loop b=>
  split at h
  .rename_i x hx;injection h with h;subst h;exact⟨b,rfl,hx⟩
  .cases h
 case exit id=>injection h with h;subst h;rfl
 case ret=>injection h with h;subst h;rfl
 case scope b=>
  split at h
  .rename_i x hx;injection h with h;subst h;exact⟨b,rfl,hx⟩
  .cases h
 all_goals cases h
theorem MC.sub {M:An} (hs:Sub P G B s s') (hn:s'.n=s.n) (h:MC P G B N M Q s'):MC P G B N M Q s:=
 λc hc hN=>(h c hc (hn.trans hN)).sub hs
theorem MC.mono {M:An} (h:MC P G B N M Q s) (hq:∀e s1,Q e s1->Q' e s1):MC P G B N M Q' s:=λc hc hN=>(h c hc hN).mono hq
def qS (P:Program) (G:A2) (B N:Nat) (y:An) (Q:Exit->Ad->Prop):Exit->Ad->Prop
 | .normal,s=>s.n=N/\MC P G B N y Q s
 | e,s=>Q e s
theorem Mz {x y:An} (h:MC P G B N x (qS P G B N y Q) s):MC P G B N (.seq x y) Q s:=by
 intro c hc hn;obtain⟨a,b,rfl,ha,hb⟩:=Fb hc;refine PE ((h a ha hn).mono λe s1 q=>?_)
 cases e<;>first | exact q.2 b hb q.1 | exact q
theorem Cr {k:Opd} {x y:An} {t:Bool} (hk:k.ev s.env = .t (.v (.bool t))) (h:MC P G B N (if t then x else y) Q s):MC P G B N (.cond k x y) Q s:=by
 intro c hc hn;obtain⟨k0,a,b,rfl,rfl,ha,hb⟩:=Fb hc;rw[KU]at hk;refine nP hk ?_;cases t
 .exact h b hb hn
 .exact h a ha hn
theorem BD {id:Nat} {x:An} (h:MC P G B N x (FX id Q) s):MC P G B N (.block id x) Q s:=by
 intro c hc hn;obtain⟨b,rfl,hb⟩:=Fb hc;exact nQ (h b hb hn)
def Iz (Q:Exit->Ad->Prop):Exit->Ad->Prop
 | .goto _,_=>False
 | e,s=>Q e s
theorem WN {x:An} (h:MC P G B N x (Iz Q) s):MC P G B N (.scope x) Q s:=by
 intro c hc hn;obtain⟨b,rfl,hb⟩:=Fb hc;intro L a w hi;refine wp_scope_straight (wp_mono (h b hb hn L a w hi) ?_);rintro e a' w' ⟨s1,L1,q,AU⟩
 cases e with
 | goto l=>exact q.elim
 | normal=>exact⟨s1,L1,q,AU⟩
 | exit i=>exact⟨s1,L1,q,AU⟩
 | ret=>exact⟨s1,L1,q,AU⟩
 | panic ch=>exact⟨s1,L1,q,AU⟩
 | outgrown=>exact⟨s1,L1,q,AU⟩
theorem S8 {x:An} (Inv:Nat->Ad->Prop) (n:Nat) (h0:Inv n s) (hN:∀n s,Inv n s->s.n=N) (round:∀n s,Inv n s->MC P G B N x (V0 P G B Inv n Q) s):MC P G B N (.loop x) Q s:=by
 intro c hc _;obtain⟨b,rfl,hb⟩:=Fb hc;exact nR Inv n h0 λn s hi=>round n s hi b hb (hN n s hi)
noncomputable def BH (Φ:A7):An->Ad->Option (Exit×Ad)
 | .skip,s=>some (.normal,s)
 | .ops l,s=>match Hv Φ l s with
  | some s1=>some (.normal,s1)
  | none=>none
 | .draw l,s=>match GS Φ l s with
  | some s1=>some (.normal,s1)
  | none=>none
 | .drawG k l,s=>match Fq Φ k 0 0 [] l s with
  | some s1=>some (.normal,s1)
  | none=>none
 | .seq a b,s=>match BH Φ a s with
  | some (.normal,s1)=>BH Φ b s1
  | r=>r
 | .cond c a b,s=>match c.ev s.env with
  | .t (.v (.bool t))=>bif t then BH Φ a s else BH Φ b s
  | _=>none
 | .block id b,s=>match BH Φ b s with
  | some (.exit i,s1)=>if i=id then some (.normal,s1)else some (.exit i,s1)
  | r=>r
 | .loop _,_=>none
 | .exit id,s=>some (.exit id,s)
 | .ret,s=>some (.ret,s)
 | .scope b,s=>match BH Φ b s with
  | some (.goto _,_)=>none
  | r=>r
theorem qT {m:A3} (h:J9 Φ s m=some s'):s'.n=s.n:=by
 unfold J9 at h;split at h
 .split at h
  .injection h with h;subst h;rw[FZ]
  .cases h
 .injection h with h;subst h;rw[FZ]
 .cases h
theorem WO:∀{l:List A3} {s s':Ad},Hv Φ l s=some s'->s'.n=s.n
 | [],s,s',h=>by simp only[Hv,Xb.injEq]at h;rw[h]
 | m::l,s,s',h=>by
  simp only[Hv]at h;split at h
  .rename_i s1 h1;rw[WO h,qT h1]
  .cases h
theorem WQ:∀{l:List A3} {s s':Ad},GS Φ l s=some s'->s'.n=s.n
 | [],s,s',h=>by simp only[GS,Xb.injEq]at h;rw[h]
 | m::l,s,s',h=>by
  simp only[GS]at h;split at h
  .rename_i s1 h1;rw[WQ h];obtain⟨v,hv⟩:=VZ h1;exact(Qb hv).2
  .cases h
theorem S9 {k:Nat}:∀(l:List GI) {n b:Nat} {pd:Fa} {s s':Ad},Fq Φ k n b pd l s=some s'->s'.n=s.n
 | [],n,b,pd,s,s',h=>by simp only[Fq,Xb.injEq]at h;rw[h]
 | .o m kp ag::r,n,b,pd,s,s',h=>by
  simp only[Fq]at h;split at h
  .split at h
   .rw[S9 r h,FZ]
   .cases h
  .cases h
 | .g j m::r,n,b,pd,s,s',h=>by
  simp only[Fq]at h;split at h
  .rw[S9 r h,FZ]
  .cases h
theorem F6:∀(M:An) {s:Ad} {e:Exit} {s':Ad},BH Φ M s=some (e,s')->s'.n=s.n
 | .skip,s,e,s',h=>by simp only[BH,Xb.injEq,Prod.mk.injEq]at h;rw[h.2]
 | .ops l,s,e,s',h=>by
  simp only[BH]at h;split at h
  .rename_i s1 h1;simp only[Xb.injEq,Prod.mk.injEq]at h;rw[<-h.2,WO h1]
  .cases h
 | .draw l,s,e,s',h=>by
  simp only[BH]at h;split at h
  .rename_i s1 h1;simp only[Xb.injEq,Prod.mk.injEq]at h;rw[<-h.2,WQ h1]
  .cases h
 | .drawG k l,s,e,s',h=>by
  simp only[BH]at h;split at h
  .rename_i s1 h1;simp only[Xb.injEq,Prod.mk.injEq]at h;rw[<-h.2,S9 l h1]
  .cases h
 | .seq a b,s,e,s',h=>by
  simp only[BH]at h;split at h
  .rename_i s1 h1;rw[F6 b h,F6 a h1]
  .exact F6 a h
 | .cond c a b,s,e,s',h=>by
  simp only[BH]at h;split at h
  .rename_i t ht;cases t
   .exact F6 b h
   .exact F6 a h
  .cases h
 | .block id b,s,e,s',h=>by
  simp only[BH]at h;split at h
  .rename_i i s1 h1;split at h
   .simp only[Xb.injEq,Prod.mk.injEq]at h;rw[<-h.2,F6 b h1]
   .simp only[Xb.injEq,Prod.mk.injEq]at h;rw[<-h.2,F6 b h1]
  .exact F6 b h
 | .loop _,s,e,s',h=>by simp[BH]at h
 | .exit id,s,e,s',h=>by simp only[BH,Xb.injEq,Prod.mk.injEq]at h;rw[h.2]
 | .ret,s,e,s',h=>by simp only[BH,Xb.injEq,Prod.mk.injEq]at h;rw[h.2]
 | .scope b,s,e,s',h=>by
  simp only[BH]at h;split at h
  .cases h
  .exact F6 b h
theorem Fs (hΦ:Ctx P G Φ):∀(M:An) {Q:Exit->Ad->Prop} {s:Ad} {e:Exit} {s':Ad},BH Φ M s=some (e,s')->Q e s'->MC P G B N M Q s
 | .skip,Q,s,e,s',h,hq=>by
  simp only[BH,Xb.injEq,Prod.mk.injEq]at h;obtain⟨rfl,rfl⟩:=h;intro c hc hn;rcases Fb hc with rfl | ⟨l,rfl⟩
  .exact Vv hq
  .exact Vw hq
 | .ops l,Q,s,e,s',h,hq=>by
  simp only[BH]at h;split at h
  .rename_i s1 h1;simp only[Xb.injEq,Prod.mk.injEq]at h;obtain⟨rfl,rfl⟩:=h;intro c hc hn;obtain⟨id,ops,rfl,hl⟩:=Fb hc;exact nV (Sx hΦ.sound _ (Mv hl) hn h1 hq)
  .cases h
 | .draw l,Q,s,e,s',h,hq=>by
  simp only[BH]at h;split at h
  .rename_i s1 h1;simp only[Xb.injEq,Prod.mk.injEq]at h;obtain⟨rfl,rfl⟩:=h;intro c hc hn;obtain⟨id,ops,lt,π,rfl,hl,hd,rfl,_⟩:=Fb hc;obtain⟨st,vals,ht⟩:=qO h1;exact WI hΦ.mix hΦ.sound hl hd hn ht hq
  .cases h
 | .drawG k l,Q,s,e,s',h,hq=>by
  simp only[BH]at h;split at h
  .rename_i s1 h1;simp only[Xb.injEq,Prod.mk.injEq]at h;obtain⟨rfl,rfl⟩:=h;intro c hc hn;obtain⟨id,ops,lt,π,pa,R,rfl,hl,hd,hsh,he,_⟩:=Fb hc;obtain⟨st,vals,ht⟩:=WL h1 hsh;rw[he]at ht;exact WI hΦ.mix hΦ.sound hl hd hn ht hq
  .cases h
 | .seq a b,Q,s,e,s',h,hq=>by
  intro c hc hn;refine Mz ?_ c hc hn;simp only[BH]at h;split at h
  .rename_i s1 h1;exact Fs hΦ a h1 ⟨(F6 a h1).trans hn,Fs hΦ b h hq⟩
  .rename_i hne;refine Fs hΦ a h ?_;cases e
   case normal=>exact absurd h (hne s')
   all_goals exact hq
 | .cond k a b,Q,s,e,s',h,hq=>by
  simp only[BH]at h;split at h
  .rename_i t ht;refine Cr ht ?_;cases t
   .exact Fs hΦ b h hq
   .exact Fs hΦ a h hq
  .cases h
 | .block id b,Q,s,e,s',h,hq=>by
  refine BD ?_;simp only[BH]at h;split at h
  .rename_i i s1 h1;refine Fs hΦ b h1 ?_;simp only[FX];split at h
   .rename_i hid;rw[zy hid];simp only[Xb.injEq,Prod.mk.injEq]at h;obtain⟨rfl,rfl⟩:=h;exact hq
   .rename_i hid;rw[zz hid];simp only[Xb.injEq,Prod.mk.injEq]at h;obtain⟨rfl,rfl⟩:=h;exact hq
  .rename_i hne;refine Fs hΦ b h ?_;cases e
   case exit i=>exact absurd h (hne i s')
   all_goals exact hq
 | .loop _,Q,s,e,s',h,hq=>by simp[BH]at h
 | .exit id,Q,s,e,s',h,hq=>by
  simp only[BH,Xb.injEq,Prod.mk.injEq]at h;obtain⟨rfl,rfl⟩:=h;intro c hc hn;have:=Fb hc;simp only at this;subst this;exact Vx hq
 | .ret,Q,s,e,s',h,hq=>by
  simp only[BH,Xb.injEq,Prod.mk.injEq]at h;obtain⟨rfl,rfl⟩:=h;intro c hc hn;have:=Fb hc;simp only at this;subst this;exact Vy hq
 | .scope b,Q,s,e,s',h,hq=>by
  refine WN ?_;simp only[BH]at h;split at h
  .cases h
  .rename_i hne;refine Fs hΦ b h ?_;cases e
   case goto l=>exact absurd h (hne l s')
   all_goals exact hq
theorem BK {α:Type}:∀{l:List (Nat×α)} {k:Nat} {x:α},Aa l k=some x->(k,x)∈l
 | [],k,x,h=>by simp[Aa]at h
 | (j,y)::l,k,x,h=>by
  simp only[Aa]at h;by_cases e:j=k
  .rw[zy e]at h;injection h with h;subst h;subst e;simp
  .rw[zz e]at h;exact List.mem_cons_of_mem _ (BK h)
theorem AQ (hn:s'.n=s.n) (hx:s'.nx=s.nx) (he:∀q∈s'.env,Aa s.env q.1=some q.2) (hH:∀q∈s'.H,Aa s.H q.1=some q.2):Sub P G B s s':=by
 intro L a w hi;have back:∀b r,Aa s'.H b=some r->Aa s.H b=some r:=λb r h=>hH _ (BK h)
 refine⟨L,⟨⟨hi.heap.lt,λb r h=>hi.heap.rep b r (back b r h),λb r h=>hi.heap.apart b r (back b r h),λb b' r r' h h'=>hi.heap.inj b b' r r' (back b r h) (back b' r' h'),λb r h=>hi.heap.nx b r (back b r h),hi.heap.glob⟩,
  by rw[hx];exact hi.nx,hi.base,by rw[hn];exact hi.size,hi.defers,λk p h=>hi.env k p (he _ (BK h))⟩,?_,λ_ _=>rfl⟩
 exact⟨Xe _,λ_ _ _=>rfl,λ_ h=>h,λ_ h=>.inl h,λg ⟨b,r,h,e⟩=>.inr ⟨b,r,back b r h,e⟩,BS.refl w,Ca.refl w⟩
mutual
def ren (σ:Nat->Nat):PV->PV
 | .t x=>.t x
 | .row b o n z=>.row (σ b) o n z
 | .ptr b o=>.ptr (σ b) o
 | .ag cs=>.ag (Bn σ cs)
 | .tu cs=>.tu (Bn σ cs)
 | .fn f a c=>.fn f (Bn σ a) (Bn σ c)
 | .ic t x=>.ic t (ren σ x)
 | .mp b=>.mp (σ b)
 | .dead=>.dead
def Bn (σ:Nat->Nat):List PV->List PV
 | []=>[]
 | p::ps=>ren σ p::Bn σ ps
end
mutual
def under (n:Nat):PV->Bool
 | .row b _ _ _=>decide (b<n)
 | .ptr b _=>decide (b<n)
 | .ag cs=>B8 n cs
 | .tu cs=>B8 n cs
 | .fn _ a c=>B8 n a&&B8 n c
 | .ic _ x=>under n x
 | .mp b=>decide (b<n)
 | _=>true
def B8 (n:Nat):List PV->Bool
 | []=>true
 | p::ps=>under n p&&B8 n ps
end
def BE (σ:Nat->Nat):Row->Row
 | .cells ty cs=>.cells ty (Bn σ cs)
 | .iter t pos=>.iter t pos
 | .map kk es=>.map kk es
 | .lp l x k p=>.lp l x k (ren σ p)
 | .blk l o=>.blk l o
def Cm (n:Nat):Row->Bool
 | .cells _ cs=>B8 n cs
 | .iter _ _=>true
 | .map _ _=>true
 | .lp _ _ _ p=>under n p
 | .blk _ _=>true
mutual
theorem I7 {L:Loc} {w:World} {σ:Nat->Nat} {nx:Nat}:∀(p:PV) {u:Value},under nx p=true->Af P L w (ren σ p) u->Af P ⟨L.I,λb=>L.μ (σ b),nx⟩ w p u
 | .t x,u,_,h=>by simpa only[ren,Af]using h
 | .row b o n z,u,hu,h=>by
  simp only[ren,Af,under,decide_eq_true_eq]at h hu ⊢;exact⟨hu,h.2⟩
 | .ptr b o,u,hu,h=>by
  simp only[ren,Af,under,decide_eq_true_eq]at h hu ⊢;exact⟨hu,h.2⟩
 | .ag cs,u,hu,h=>by
  simp only[ren,Af,under]at h hu ⊢;obtain⟨us,e,h1,hl⟩:=h;exact⟨us,e,h1,Lb cs hu hl⟩
 | .tu cs,u,hu,h=>by
  simp only[ren,Af,under]at h hu ⊢;obtain⟨us,e,hl⟩:=h;exact⟨us,e,Lb cs hu hl⟩
 | .fn f a c,u,hu,h=>by
  simp only[ren,Af,under,Xd]at h hu ⊢;obtain⟨us,vs,e,h1,h2⟩:=h;exact⟨us,vs,e,Lb a hu.1 h1,Lb c hu.2 h2⟩
 | .ic t x,u,hu,h=>by
  simp only[ren,Af,under]at h hu ⊢;obtain⟨y,e,hy⟩:=h;exact⟨y,e,I7 x hu hy⟩
 | .mp b,u,hu,h=>by
  simp only[ren,Af,under,decide_eq_true_eq]at h hu ⊢;exact⟨hu,h.2⟩
 | .dead,u,_,_=>by simp only[Af]
theorem Lb {L:Loc} {w:World} {σ:Nat->Nat} {nx:Nat}:∀(ps:List PV) {us:List Value},B8 nx ps=true->A5 P L w (Bn σ ps) us->A5 P ⟨L.I,λb=>L.μ (σ b),nx⟩ w ps us
 | [],us,_,h=>by simpa only[Bn,A5]using h
 | p::ps,us,hu,h=>by
  simp only[Bn,A5,B8,Xd]at h hu ⊢;obtain⟨x,xs,e,hx,hxs⟩:=h;exact⟨x,xs,e,I7 p hu.1 hx,Lb ps hu.2 hxs⟩
end
theorem NT (σ:Nat->Nat):∀(ps:List PV) (j:Nat),(Bn σ ps)[j]?=(ps[j]?).map (ren σ)
 | [],j=>by simp[Bn]
 | p::ps,0=>by simp[Bn]
 | p::ps,j+1=>by simp[Bn,NT σ ps j]
theorem NU {n:Nat}:∀{ps:List PV} {j:Nat} {p:PV},B8 n ps=true->ps[j]?=some p->under n p=true
 | [],j,p,_,h=>by simp at h
 | q::ps,0,p,hu,h=>by simp only[B8,Xd]at hu;simp at h;subst h;exact hu.1
 | q::ps,j+1,p,hu,h=>by simp only[B8,Xd]at hu;exact NU hu.2 (by simpa using h)
theorem NV (σ:Nat->Nat):∀(ps:List PV),(Bn σ ps).length=ps.length
 | []=>rfl
 | p::ps=>by simp[Bn,NV σ ps]
theorem JD (σ:Nat->Nat) (hn:s'.n=s.n) (hB:B<=s'.nx) (hσ:∀b,b<B->σ b=b) (he:∀q∈s'.env,Aa s.env q.1=some (ren σ q.2)/\under s'.nx q.2=true)
  (hH:∀q∈s'.H,Aa s.H (σ q.1)=some (BE σ q.2)/\q.1<s'.nx/\Cm s'.nx q.2=true) (hinj:∀q∈s'.H,∀q'∈s'.H,σ q.1=σ q'.1->q.1=q'.1):Sub P G B s s':=by
 intro L a w hi;refine⟨⟨L.I,λb=>L.μ (σ b),s'.nx⟩,⟨⟨hi.heap.lt,λb r h=>?_,λb r h=>?_,λb b' r r' h h' e=>?_,λb r h=>(hH _ (BK h)).2.1,hi.heap.glob⟩,rfl,hB,by rw[hn];exact hi.size,hi.defers,λk p h=>?_⟩,?_,λb hb=>by show L.μ (σ b)=L.μ b;rw[hσ b hb]⟩
 .obtain⟨h1,h2,h3⟩:=hH _ (BK h);have:=hi.heap.rep _ _ h1
  cases r with
  | cells ty cs=>
   obtain⟨arr,ha,hl,hc⟩:=this;refine⟨arr,ha,by rw[NV]at hl;exact hl,λj c hj=>?_⟩;obtain⟨x,hx,h1x,hr⟩:=hc j (ren σ c) (by rw[NT,hj];rfl);exact⟨x,hx,h1x,I7 c (NU h3 hj) hr⟩
  | iter t pos=>exact this
  | map kk es=>exact this
  | lp l x k p=>exact⟨this.1,this.2.1,I7 p h3 this.2.2⟩
  | blk l o=>exact this
 .exact hi.heap.apart _ _ (hH _ (BK h)).1
 .exact hinj _ (BK h) _ (BK h') (hi.heap.inj _ _ _ _ (hH _ (BK h)).1 (hH _ (BK h')).1 e)
 .obtain⟨h1,h2⟩:=he _ (BK h);exact I7 p h2 (hi.env k _ h1)
 .exact⟨Xe _,λ_ _ _=>rfl,λ_ h=>h,λ_ h=>.inl h,λg ⟨b,r,h,e⟩=>.inr ⟨σ b,_,(hH _ (BK h)).1,e⟩,BS.refl w,Ca.refl w⟩
def BI (H:Ab) (F:List Nat) (p:PV):PV:=
 match toT H p with
 | some (x,F')=>if F'.all (F.contains ·)then .t x else p
 | none=>p
theorem WR {L:Loc} {H:Ab} {w:World} (hok:BA P G L H w) (F:List Nat) {p:PV} {u:Value} (h:Af P L w p u):Af P { L with I:=λg=>L.I g\/Iw L H F g } w (BI H F p) u:=by
 have hm:Bh L w { L with I:=λg=>L.I g\/Iw L H F g } w:=⟨λg hg=>⟨.inl hg,rfl⟩,Xe _,λ_ _=>rfl,Xe _,BS.refl w⟩
 unfold BI;split
 .rename_i x F' hx;split
  .rename_i hF;simp only[Af];exact Sp hok p hx h F (λb hb=>by simpa using Xh.1 hF b hb)
  .exact Af.keep hm p h
 .exact Af.keep hm p h
def De (H:Ab) (F:List Nat):Row->Row
 | .cells ty cs=>.cells ty (cs.map (BI H F))
 | r=>r
def Ad.frz (s:Ad) (F:List Nat):Ad:=
 { s with env:=s.env.map (λq=>(q.1,BI s.H F q.2)),H:=(Dy s.H F).map (λq=>(q.1,De s.H F q.2)) }
theorem FI {α β:Type} (f:α->β):∀(l:List (Nat×α)) (k:Nat),Aa (l.map λq=>(q.1,f q.2)) k=(Aa l k).map f
 | [],k=>by simp[Aa]
 | (j,x)::l,k=>by
  simp only[Xa,Aa,FI f l k];split<;>rfl
theorem M0 (F:List Nat):Sub P G B s (s.frz F):=by
 intro L a w hi
 have hm:Bh L w { L with I:=λg=>L.I g\/Iw L s.H F g } w:=⟨λg hg=>⟨.inl hg,rfl⟩,Xe _,λ_ _=>rfl,Xe _,BS.refl w⟩
 have back:∀b r,Aa (s.frz F).H b=some r->∃r0,Aa s.H b=some r0/\b∉F/\r=De s.H F r0:=by
  intro b r h;simp only[Ad.frz]at h;rw[FI]at h;obtain⟨r0,h0,rfl⟩:=AZ h;exact⟨r0,(EB F s.H b r0 h0).1,(EB F s.H b r0 h0).2,rfl⟩
 refine⟨{ L with I:=λg=>L.I g\/Iw L s.H F g },⟨⟨?_,λb r h=>?_,λb r h hI=>?_,λb b' r r' h h' e=>?_,λb r h=>?_,?_⟩,hi.nx,hi.base,hi.size,hi.defers,λk p h=>?_⟩,?_,λ_ _=>rfl⟩
 .rintro b (h | ⟨k,_,⟨r,hr⟩,rfl⟩)
  .exact hi.heap.lt b h
  .exact(hi.heap.rep k r hr).lt
 .obtain⟨r0,h0,_,rfl⟩:=back b r h;have:=hi.heap.rep b r0 h0
  cases r0 with
  | cells ty cs=>
   obtain⟨arr,ha,hl,hc⟩:=this;refine⟨arr,ha,by simpa using hl,λj c hj=>?_⟩;simp only[Y1]at hj;obtain⟨c0,hc0,rfl⟩:=AZ hj;obtain⟨x,hx,h1x,hr⟩:=hc j c0 hc0;exact⟨x,hx,h1x,WR hi.heap F hr⟩
  | iter t pos=>exact this
  | map kk es=>exact this
  | lp l x k p=>exact⟨this.1,this.2.1,Af.keep hm p this.2.2⟩
  | blk l o=>exact this
 .obtain⟨r0,h0,hF,_⟩:=back b r h;rcases hI with hI | ⟨k,hk,⟨r1,h1⟩,e⟩
  .exact hi.heap.apart b r0 h0 hI
  .exact hF ((hi.heap.inj k b r1 r0 h1 h0 e)▸hk)
 .obtain⟨r0,h0,_,_⟩:=back b r h;obtain⟨r1,h1,_,_⟩:=back b' r' h';exact hi.heap.inj b b' r0 r1 h0 h1 e
 .obtain⟨r0,h0,_,_⟩:=back b r h;exact hi.heap.nx b r0 h0
 .exact FH hi.heap hm.keeps
 .simp only[Ad.frz]at h;rw[FI]at h;obtain⟨p0,h0,rfl⟩:=AZ h;exact WR hi.heap F (hi.env k p0 h0)
 .refine⟨Xe _,λ_ _ _=>rfl,λg h=>.inl h,λg h=>?_,λg ⟨b,r,h,e⟩=>?_,BS.refl w,Ca.refl w⟩
  .rcases h with h | ⟨k,_,⟨r,hr⟩,e⟩
   .exact .inl h
   .exact .inr (.inr ⟨k,r,hr,e⟩)
  .obtain⟨r0,h0,_,_⟩:=back b r h;exact .inr ⟨b,r0,h0,e⟩
inductive RV where
 | tmp (t:Nat)
 | cell (t:Nat) (agg:Bool) (n:Nat)
def Hw (P:Program):ResultVar->Option RV
 | .tmp t=>some (.tmp t)
 | .cell a t=>(GN P t).map λq=>.cell a q.1 q.2
@[simp] def Ez (s:Ad):List RV->Option (List PV)
 | []=>some []
 | .tmp t::r=>match Aa s.env t,Ez s r with
  | some p,some ps=>some (p::ps)
  | _,_=>none
 | .cell a agg n::r=>match Aa s.env a,Ez s r with
  | some (.ptr b o),some ps=>match Aj agg n s.H (.ptr b o)with
   | some q=>some (q::ps)
   | none=>none
  | _,_=>none
theorem NW:∀{rs:List ResultVar} {vs:List RV} {ps:List PV},rs.mapM (Hw P)=some vs->Ez s vs=some ps->Gp P s rs=some ps
 | [],vs,ps,h,hr=>by
  simp at h;subst h;simpa only[Ez,Gp]using hr
 | r::rs,vs,ps,h,hr=>by
  simp only[Yo,Yp,Yq]at h
  cases h1:Hw P r with
  | none=>rw[h1]at h;cases h
  | some v=>
   rw[h1]at h
   cases h2:rs.mapM (Hw P)with
   | none=>rw[h2]at h;cases h
   | some vs'=>
    rw[h2]at h;simp only[Yr,Xb.injEq]at h;subst h
    cases r with
    | tmp t=>
     simp only[Hw,Xb.injEq]at h1;subst h1;simp only[Ez]at hr;split at hr
     .rename_i p ps' hp hps;simp only[Gp,hp,NW h2 hps];exact hr
     .cases hr
    | cell a t=>
     simp only[Hw]at h1;obtain⟨⟨agg,n⟩,hs,rfl⟩:=AZ h1;simp only[Ez]at hr;split at hr
     .rename_i b o ps' hp hps;split at hr
      .rename_i q hq;simp only[Gp,hp,NW h2 hps,VU hs,hq,Xi];exact hr
      .cases hr
     .cases hr
@[simp] def Ei:List PV->PV
 | [p]=>p
 | ps=>match Eh ps with
  | some ts=>.t (.tu ts)
  | none=>.tu ps
def NY (vs:List RV) (R:T->Prop) (e:Exit) (s:Ad):Prop:=
 (e = .normal\/e = .ret)/\∃ps r F,Ez s vs=some ps/\toT s.H (Ei ps)=some (r,F)/\R r
@[simp] def Qh:Nat->List T->List (Nat×PV)
 | _,[]=>[]
 | k,x::xs=>(k,.t x)::Qh (k+1) xs
theorem WT:∀(xs:List T) (k:Nat),Qh k xs=((xs.map PV.t).zipIdx k).map λp=>(p.2,p.1)
 | [],k=>rfl
 | x::xs,k=>by simp[Qh,WT xs (k+1)]
@[simp] def Lc (N:Nat) (args:List T):Ad:={ env:=Qh 0 args,H:=[],nx:=0,n:=N }
theorem qU {f:FuncId} {fn:Func} {c:Code} {M:An} {vs:List RV} {args:List T} {R:T->Prop} (hf:P.funcs[f]?=some fn) (hb:fn.body=some c) (hname:(fn.name == "runtime.NumGoroutine")=false)
  (hc:comp P G N c=some M) (hrs:fn.results.toList.mapM (Hw P)=some vs) (hN:args.length+(fn.ntmps-args.length)=N) (h:MC P G 0 N M (NY vs R) (Lc N args)):A1 P G f args R:=by
 refine⟨⟨fn,c,hf,hb,hname⟩,λI w us hlt hglob hargs=>calls_of_wp hf hb ?_⟩
 have hlen:us.size=args.length:=by simpa using hargs.length
 let L:Loc:=⟨I,λ_=>0,0⟩
 have hok:BA P G L [] w:=⟨hlt,λb r h=>by simp[Aa]at h,λb r h=>by simp[Aa]at h,λb b' r r' h=>by simp[Aa]at h,λb r h=>by simp[Aa]at h,hglob⟩
 have hi:Interp P G 0 L (Lc N args) { tmps:=us++Ye (fn.ntmps-us.size) undef,defers:=[] } w:=by
  refine⟨hok,rfl,Yf _,by simp[Lc,hlen,hN],rfl,λk p hl=>?_⟩;simp only[Lc,WT]at hl;obtain⟨_,hk⟩:=NJ _ k 0 p hl;simp only[Nat.sub_zero]at hk;have hrep:=A5.ofT (P:=P) (L:=L) hargs;obtain⟨x,hx,hr⟩:=hrep.at_ k hk
  have hx':us[k]?=some x:=by simpa using hx
  have hk':k<us.size:=(Xr.1 hx').1;rw[Xk,Y3 hk',hx'];exact hr
 refine wp_mono (h c hc rfl L _ w hi) λe a' w' ⟨s1,L1,q,hi1,hx,_⟩=>?_;obtain⟨he,ps,r,F,hres,hT,hR⟩:=q
 have hrv:J6 P fn s1=some (Ei ps):=by
  unfold J6;rw[NW hrs hres];rcases ps with _ | ⟨x,_ | ⟨y,r⟩⟩<;>rfl
 obtain⟨v,hrun,hv⟩:=Sr hi1 hrv;have hrt:=Sp hi1.heap (Ei ps) hT hv F (λ_ h=>h)
 have nomine:∀g,¬FW L [] g:=λg ⟨b,r,h,_⟩=>by simp[Aa]at h
 have hfin:a'.defers=[]/\∃v,(results fn a'.tmps).run P w' = .ok v w' /\
   ∃v' r I',Ending.returned v = .returned v'/\R r/\Ao I' w' r v'/\Ca w w'/\w.heap.size<=w'.heap.size/\(∀g,g<w.heap.size->w'.heap[g]?=w.heap[g]?) /\
   (∀g,I g->I' g)/\(∀g,I' g->I g\/w.heap.size<=g)/\(∀g,I' g->g<w'.heap.size):=by
  refine⟨hi1.defers,v,hrun,v,r,_,rfl,hR,hrt,hx.outer,hx.size,λg hg=>hx.same g hg (nomine g),λg hg=>.inl (hx.more g hg),λg hg=>?_,λg hg=>?_⟩
  .rcases hg with hg | ⟨b,_,⟨r0,h0⟩,e0⟩
   .rcases hx.new g hg with h | h | h
    .exact .inl h
    .exact .inr h
    .exact absurd h (nomine g)
   .rcases hx.mine g ⟨b,r0,h0,e0⟩with h | h
    .exact .inr h
    .exact absurd h (nomine g)
  .rcases hg with hg | ⟨b,_,⟨r0,h0⟩,rfl⟩
   .exact hi1.heap.lt g hg
   .exact(hi1.heap.rep b r0 h0).lt
 rcases he with rfl | rfl
 .exact hfin
 .exact hfin
def F7 (P:Program) (G:A2) (B:Nat) (vs:List RV) (R:PV->Ab->Nat->Prop) (e:Exit) (s:Ad):Prop:=
 (e = .normal\/e = .ret)/\∃s2 ps,Sub P G B s s2/\Ez s2 vs=some ps/\R (Ei ps) s2.H s2.nx
@[simp] def Gt:Nat->List PV->List (Nat×PV)
 | _,[]=>[]
 | k,x::xs=>(k,x)::Gt (k+1) xs
theorem Qi:∀(xs:List PV) (k:Nat),Gt k xs=(xs.zipIdx k).map λp=>(p.2,p.1)
 | [],k=>rfl
 | x::xs,k=>by simp[Gt,Qi xs (k+1)]
theorem qV {f:FuncId} {fn:Func} {c:Code} {M:An} {vs:List RV} {ps:List PV} {H H':Ab} {nx nx':Nat} {r:PV} (hf:P.funcs[f]?=some fn) (hb:fn.body=some c) (hname:(fn.name == "runtime.NumGoroutine")=false)
  (hc:comp P G N c=some M) (hrs:fn.results.toList.mapM (Hw P)=some vs) (hN:ps.length+(fn.ntmps-ps.length)=N)
  (h:MC P G nx N M (F7 P G nx vs λr0 H0 nx0=>r0=r/\H0=H'/\nx0=nx') ⟨Gt 0 ps,H,nx,N⟩):AH P G f ps H nx r H' nx':=by
 refine⟨⟨fn,c,hf,hb,hname⟩,λL w us hok hnx hargs=>calls_of_wp hf hb ?_⟩
 have hlen:us.size=ps.length:=by simpa using hargs.length
 have hi:Interp P G nx L ⟨Gt 0 ps,H,nx,N⟩ { tmps:=us++Ye (fn.ntmps-us.size) undef,defers:=[] } w:=by
  refine⟨hok,hnx,by rw[hnx];exact Xe _,by simp[hlen,hN],rfl,λk p hl=>?_⟩;simp only[Qi]at hl;obtain⟨_,hk⟩:=NJ _ k 0 p hl;simp only[Nat.sub_zero]at hk;obtain⟨x,hx,hr⟩:=hargs.at_ k hk
  have hx':us[k]?=some x:=by simpa using hx
  have hk':k<us.size:=(Xr.1 hx').1;rw[Xk,Y3 hk',hx'];exact hr
 refine wp_mono (h c hc rfl L _ w hi) λe a' w' ⟨s1,L1,q,hi1,hx,hμ⟩=>?_;obtain⟨he,s2,rs,hsub,hres,hr,hH,hnx2⟩:=q;obtain⟨L2,hi2,hx2,hμ2⟩:=hsub L1 a' w' hi1
 have hrv:J6 P fn s2=some (Ei rs):=by
  unfold J6;rw[NW hrs hres];rcases rs with _ | ⟨x,_ | ⟨y,r⟩⟩<;>rfl
 obtain⟨v,hrun,hv⟩:=Sr hi2 hrv;have hxx:=hx.trans hx2
 have hm:Bh L w L2 w':=⟨hxx.keeps hok,by rw[hnx];exact hi2.base,λb hb=>(hμ2 b (by omega)).trans (hμ b (by omega)),hxx.size,hxx.shape⟩
 have hfin:a'.defers=[]/\∃v,(results fn a'.tmps).run P w' = .ok v w' /\
   ∃v' L',Ending.returned v = .returned v'/\Af P L' w' r v'/\BA P G L' H' w'/\L'.nx=nx'/\Bh L w L' w'/\Ext L H w L' H' w':=
  ⟨hi2.defers,v,hrun,v,L2,rfl,hr▸hv,hH▸hi2.heap,hi2.nx.trans hnx2,hm,hH▸hxx⟩
 rcases he with rfl | rfl
 .exact hfin
 .exact hfin
end
end Go.Abs
