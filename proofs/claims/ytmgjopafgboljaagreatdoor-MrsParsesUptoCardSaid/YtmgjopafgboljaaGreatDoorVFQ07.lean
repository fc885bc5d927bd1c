/- Auxiliary facts. -/
import Derived.Test.YtmgjopafgboljaaGreatDoorVFQ06
import Derived.Laws.StructEq
import Derived.Laws.BytesString
import Derived.Laws.RangeString
import Derived.Laws.IdiomStrings
import Derived.Maps.RangeRun
import Derived.MapKept
import Derived.WideKeyRuns
set_option linter.unusedSimpArgs false
set_option linter.unusedVariables false
open List renaming map_cons->Xc,map_nil->Xe,getElem?_eq_getElem->Xi,getElem?_eq_some_iff->Xj,all_eq_true->Xk,mem_map->Xm,getElem?_map->Xn,replicate->Xs,length_cons->Xu,getElem?_cons_zero->Xx,mem_of_getElem?->Xz,mem_cons->X3,nodup_cons->X4,range->X8,drop->Ya,extract_eq_take_drop->Yb,replicate_succ->Yd,length_map->Yg,mem_filterMap->Yh,cons_append->Yl,getElem?_take->Yo,getElem_of_mem->Yq,map_map->Yt,map_congr_left->Yu,filterMap_cons->Yv,mem_zipIdx_iff_getElem?->Yx,ne_nil_of_mem->Yy,take_succ_cons->Yz,mem_of_mem_take->Y0,getElem?_drop->Y2,map_append->Y3,ext_getElem?->Y8,getElem?_modify->Y9,length_take->Zb,nil_append->Zh,append_nil->Zi,mapM_cons->Zj,mem_filter->Zn,getElem?_cons_succ->Zq,mem_zipIdx_iff_le_and_getElem?_sub->Zr,getElem?_of_mem->Zs,filter_cons->Zu,getElem?_inj->Zv,length_nil->Zw,eq_nil_iff_forall_not_mem->Zx,nodup_nil->Z2
open Option renaming some->Xd,map_eq_some_iff->Xf,map_some->Xq,bind_eq_some_iff->Ym,map_none->Ys,getD_some->Yw,isSome_none->Zc,isSome_some->Zd,toList_none->Ze,toList_some->Zf,bind_eq_bind->Zk,pure_def->Zl,bind_some->Zm,isNone_iff_eq_none->Zt
open Bool renaming and_eq_true->Xg,or_eq_true->Xt,false_eq_true->Xy,not_eq_true'->X0,false_or->X7,true_and->Yf,and_assoc->Yk,false_and->Zz
open Nat renaming le_refl->Xh,min->Xp,lt_or_ge->Xr,le_trans->X1,add_zero->X5,lt_of_lt_of_le->X6,zero_le->Yj,lt_succ_self->Y6,mul_le_mul_right->Za,strongRecOn->Zy,lt_trichotomy->Z0,lt_or_gt_of_ne->Z1
open Go.Result renaming andThen_ok->Xl
open Array renaming getElem?_eq_getElem->Xo,getD_eq_getD_getElem?->Xv,getElem?_eq_some_iff->Xw,getElem?_setIfInBounds_ne->X2,toList_map->Yc,replicate->Yi,toList_extract->Yn,toList_inj->Yp,getElem?_append_left->Yr,toList_push->Y5,toList_modify->Y7,all_eq_true'->Zo,mem_def->Zp,getElem?_replicate->Z3
open UInt8 renaming ofNat->X9
namespace Go.Abs
open Go
def Ck:List CK->List T->List T->Option Bool
 | [],[],[]=>some true
 | .i::ks,.v (.int k a)::xs,.v (.int k' b)::ys=>if k=k' then(Ck ks xs ys).map λr=>(a==b)&&r else none
 | .s::ks,.v (.string a)::xs,.v (.string b)::ys=>(Ck ks xs ys).map λr=>(a.toList==b.toList)&&r
 | .b::ks,.v (.bool a)::xs,.v (.bool b)::ys=>(Ck ks xs ys).map λr=>(a==b)&&r
 | _,_,_=>none
def Su (f:Fn) (first cap:List PV):PV:=
 match first,cap with
 | [],[]=>.t (.v (.func f #[] #[]))
 | first,cap=>.fn f first cap
def exM:EK->List PV->Option PV
 | .eqs neg ks,[.t (.ag xs),.t (.ag ys)]=>(Ck ks xs ys).map λr=>.t (.v (.bool (if neg then !r else r)))
 | .mki t,[.t x]=>some (.t (.ic t x))
 | .mki t,[x]=>some (.ic t x)
 | .mkf f n,ps=>some (Su f (ps.take n) (ps.drop n))
 | .aix len n agg,[.t (.ag cs),.t (.v (.int _ i))]=>if 0<=i/\i<(len:Int)/\i.toNat*n+n<=cs.length then
   (if agg then some (.t (.ag ((cs.drop (i.toNat*n)).take n)))else(cs[i.toNat*n]?).map .t)
  else none
 | _,_=>none
def Gs:List T->Option (List UInt8)
 | []=>some []
 | .v (.int .u8 n)::r=>(Gs r).map λl=>X9 n.toNat::l
 | _=>none
def KS:List T->Option (List Int)
 | []=>some []
 | .v (.int .i64 n)::r=>(KS r).map (n::·)
 | _=>none
def El:KK->PV->Option Key
 | .int k,.t (.v (.int k' n))=>if k'=k then some (.n [n])else none
 | .str,.t (.v (.string b))=>some (.s b)
 | .ints m,.t (.ag cs)=>(KS cs).bind λns=>if ns.length=m then some (.n ns)else none
 | _,_=>none
def E0:List (Key×Value)->Key->Option Value
 | [],_=>none
 | (y,v)::r,x=>if y=x then some v else E0 r x
def Cq:List (Key×Value)->Key->Value->List (Key×Value)
 | [],x,v=>[(x,v)]
 | (y,u)::r,x,v=>if y=x then(y,v)::r else(y,u)::Cq r x v
def HP (ok:Bool) (z:Value) (q:Option Value):T:=
 if ok then .tu [.v (q.getD z),.v (.bool q.isSome)]else .v (q.getD z)
def GR (zc:List Value) (k:Nat):List Value:=(Builtin.zeroCells zc.toArray k).toList
def HQ (s:ByteArray):List T:=s.data.toList.map λb=>.v (.int .u8 (b.toNat:Int))
def hxM (k:HK) (H:Ak) (nx:Nat) (ps:List PV):Option (PV×Ak×Nat):=
 match k,ps with
 | .range,[.t (.v (.string s))]=>some (.ptr nx 0,(nx,.iter s 0)::H,nx+1)
 | .next,[.ptr b 0]=>match Aj H b with
  | some (.iter s pos)=>if pos<s.size then
    some (.t (.tu [.v (.bool true),.v (.int .i64 pos),.v (.int .i32 (Utf8.decode s pos).1)]),upd H b (.iter s (pos+(Utf8.decode s pos).2)),nx)
   else some (.t (.tu [.v (.bool false)]),H,nx)
  | _=>none
 | .b2s,[p]=>match toTS H p with
  | some cs=>(Gs cs).map λl=>(.t (.v (.string ⟨l.toArray⟩)),H,nx)
  | none=>none
 | .mnew kk,[]=>some (.mp nx,(nx,.map kk [])::H,nx+1)
 | .mget kk z ok,[.mp b,p]=>match Aj H b,El kk p with
  | some (.map kk' es),some x=>if kk'=kk then some (.t (HP ok z (E0 es x)),H,nx)else none
  | _,_=>none
 | .mset kk,[.mp b,p,.t (.v v)]=>match Aj H b,El kk p with
  | some (.map kk' es),some x=>if kk'=kk then some (.t (.v undef),upd H b (.map kk (Cq es x v)),nx)else none
  | _,_=>none
 | .clr n zc,[.row b o k z]=>match Aj H b with
  | some (.cells ty cs)=>if z=n/\0<k/\o+(GR zc k).length<=cs.length then some (.t (.tu []),upd H b (.cells ty (Cj cs o ((GR zc k).map λx=>.t (.v x)))),nx)else none
  | _=>none
 | .mlen,[.mp b]=>match Aj H b with
  | some (.map _ es)=>some (.t (.v (.int .i64 (es.length:Int))),H,nx)
  | _=>none
 | .s2b,[.t (.v (.string s))]=>some (.t (.sl s.size (HQ s)),H,nx)
 | .cpy n,[.row b o k z,p]=>match Aj H b,CM H n p with
  | some (.cells ty cs),some (m,ps)=>if z=n/\0<Xp m k/\o+k*n<=cs.length/\ps.length=m*n then
    some (.t (.v (.int .i64 (Xp m k:Nat))),upd H b (.cells ty (Cj cs o (ps.take (Xp m k*n)))),nx)else none
  | _,_=>none
 | .slarr len z,[.ptr b 0,.t (.v (.int _ i))]=>match Aj H b with
  | some (.cells _ cs)=>if cs.length=len*z/\0<=i/\i<(len:Int)then some (.row b (i.toNat*z) (len-i.toNat) z,H,nx)else none
  | _=>none
 | .mrange,[.mp b]=>match Aj H b with
  | some (.blk (some l) (.map _ c))=>some (.ptr nx 0,(nx,.blk none (.mapIter (some l) c #[] c))::H,nx+1)
  | _=>none
 | _,_=>none
 where
 toTS (H:Ak):PV->Option (List T)
  | .t (.v (.slice none _ _))=>some []
  | .t (.sl n cs)=>if cs.length=n then some cs else none
  | .row b o n z=>match Aj H b with
   | some (.cells _ cs)=>if z=1/\o+n<=cs.length then DW ((cs.drop o).take n)else none
   | _=>none
  | _=>none
def E2 (P:Program):Nat->List Field->Option (List CK)
 | _,[]=>some []
 | o,f::fs=>if f.name ≠ "_" /\ f.offset=o/\(P.info? f.type).map (·.size)=some 1 then
   (match P.underlying f.type with
   | some (.int _)=>(E2 P (o+1) fs).map (.i::·)
   | some .string=>(E2 P (o+1) fs).map (.s::·)
   | some .bool=>(E2 P (o+1) fs).map (.b::·)
   | _=>none)
  else none
def KT (P:Program) (t:TypeId):Option (List CK):=
 match P.underlying t with
 | some (.struct fs)=>if P.stoodInHeld t=false/\P.eqGuardType P.depth t=false then E2 P 0 fs.toList else none
 | _=>none
def GS (P:Program):Nat->List Field->Option (List CK)
 | _,[]=>some []
 | o,f::fs=>if f.name ≠ "_" /\ f.offset=o then
   (match P.underlying f.type with
   | some (.int _)=>(GS P (o+1) fs).map (.i::·)
   | some .string=>(GS P (o+1) fs).map (.s::·)
   | some .bool=>(GS P (o+1) fs).map (.b::·)
   | some (.struct g)=>(E2 P 0 g.toList).bind λk0=>
    if P.stoodInHeld f.type=false/\Ej P f.type=some (true,k0.length)then(GS P (o+k0.length) fs).map (k0++·)else none
   | _=>none)
  else none
def MN (P:Program) (t:TypeId):Option (List CK):=
 match P.underlying t with
 | some (.struct fs)=>if P.stoodInHeld t=false/\P.eqGuardType P.depth t=false then GS P 0 fs.toList else none
 | _=>none
def CK.isI:CK->Bool
 | .i=>true
 | _=>false
def MO (P:Program) (kt:TypeId):Option KK:=
 match P.underlying kt with
 | some (.int k)=>some (.int k)
 | some .string=>some .str
 | some (.struct _)=>match KT P kt with
  | some ks=>if ks.all CK.isI then some (.ints ks.length)else none
  | none=>none
 | _=>none
def KU (P:Program) (t:TypeId):Option KK:=
 match P.underlying t with
 | some (.map kt _)=>MO P kt
 | _=>none
def MP (P:Program) (t:TypeId):Option (KK×Value):=
 match P.underlying t with
 | some (.map kt et)=>match MO P kt,(P.info? et).bind (·.zero)with
  | some kk,some z=>some (kk,z)
  | _,_=>none
 | _=>none
def J8 (P:Program) (G:AM) (o:Op):Option (MK×List Opd):=
 match o with
 | .binOp .eql t x y _=>(MN P t).map λks=>(.ex (.eqs false ks),[AU G x,AU G y])
 | .binOp .neq t x y _=>(MN P t).map λks=>(.ex (.eqs true ks),[AU G x,AU G y])
 | .range t x=>match P.underlying t with
  | some .string=>some (.hx .range,[AU G x])
  | some (.map _ _)=>some (.hx .mrange,[AU G x])
  | _=>none
 | .next x true=>some (.hx .next,[AU G x])
 | .next x false=>some (.hx .mnext,[AU G x])
 | .entry x=>some (.hx .ment,[AU G x])
 | .convert src dst x=>match P.underlying src,P.underlying dst with
  | some (.slice e),some .string=>match P.underlying e with
   | some (.int .u8)=>some (.hx .b2s,[AU G x])
   | _=>none
  | some .string,some (.slice e)=>match P.underlying e with
   | some (.int .u8)=>some (.hx .s2b,[AU G x])
   | _=>none
  | _,_=>none
 | .makeInterface t x=>match P.underlying t with
  | some (.interface _)=>none
  | some _=>some (.ex (.mki t),[AU G x])
  | none=>none
 | .makeFunc f first cap=>some (.ex (.mkf f first.size),first.toList.map (AU G)++cap.toList.map (AU G))
 | .panic x=>some (.hx .pan,[AU G x])
 | .call ⟨.builtin .clear,⟨[x]⟩,⟨[t]⟩⟩=>(Ey P t).map λq=>(.hx (.clr q.2.1 q.2.2.2),[AU G x])
 | .call ⟨.builtin .len,⟨[x]⟩,⟨[t]⟩⟩=>match P.underlying t with
  | some (.map _ _)=>some (.hx .mlen,[AU G x])
  | _=>none
 | .call ⟨.builtin .copy,⟨[x,y]⟩,⟨[t,_]⟩⟩=>(Ey P t).map λq=>(.hx (.cpy q.2.1),[AU G x,AU G y])
 | .slice t x (some i) none none=>match P.underlying t with
  | some (.array len e)=>(Ej P e).map λq=>(.hx (.slarr len q.2),[AU G x,AU G i])
  | _=>none
 | .makeMap t none=>(KU P t).map λkk=>(.hx (.mnew kk),[])
 | .lookup t x y ok=>(MP P t).map λq=>(.hx (.mget q.1 q.2 ok),[AU G x,AU G y])
 | .mapUpdate t x y z=>(KU P t).map λkk=>(.hx (.mset kk),[AU G x,AU G y,AU G z])
 | .index t x i=>match P.underlying t with
  | some (.array len e)=>(Ej P e).map λq=>(.ex (.aix len q.2 q.1),[AU G x,AU G i])
  | _=>none
 | _=>none
theorem Sx {P:Program} {G:AM} {o:Op} {k:MK} {xs:List Opd} (hk:match k with | .ex _ | .hx _=>False | _=>True):¬J8 P G o=some (k,xs):=by
 intro h;unfold J8 at h;split at h
 all_goals first
  | (cases h;done)
  | (obtain⟨ks,_,e⟩:=Xf.1 h;injection e with e1 e2;subst e1;exact hk)
  | (injection h with h;injection h with e1 e2;subst e1;exact hk)
  | skip
 all_goals split at h
 all_goals first
  | (cases h;done)
  | (obtain⟨ks,_,e⟩:=Xf.1 h;injection e with e1 e2;subst e1;exact hk)
  | (injection h with h;injection h with e1 e2;subst e1;exact hk)
  | skip
 all_goals split at h
 all_goals first
  | (cases h;done)
  | (injection h with h;injection h with e1 e2;subst e1;exact hk)
  | (obtain⟨ks,_,e⟩:=Xf.1 h;injection e with e1 e2;subst e1;exact hk)
section
variable {P : Program} {G : AM} {B : Nat} {s : Am} {o : Oper}
theorem KW {w:World} {t:TypeId} {xs:Array Value} {off:Nat} {x:Value} (hu:P.underlying t=some .string\/P.underlying t=some .bool\/∃k,P.underlying t=some (.int k)) (hx:xs[off]?=some x):(part t xs off).run P w = .ok x w:=by
 have ha:(isAgg t).run P w = .ok false w:=by
  rcases hu with h | h | ⟨k,h⟩<;>simp[isAgg,run_underlying h]
 simp[part,ha,hx]
theorem OV {ks:List CK} {cx cy:List T} {r:Bool} (h:Ck (.i::ks) cx cy=some r):∃k a xs b ys r1,cx = .v (.int k a)::xs/\cy = .v (.int k b)::ys/\Ck ks xs ys=some r1/\r=((a==b)&&r1):=by
 unfold Ck at h;split at h
 all_goals (first | (rename_i hh;cases hh;done) | (cases h;done) | skip)
 rename_i ks' k a xs k' b ys hk;cases hk;split at h
 .rename_i e;subst e;obtain⟨r1,h1,h2⟩:=Xf.1 h;exact⟨k,a,xs,b,ys,r1,rfl,rfl,h1,h2.symm⟩
 .cases h
theorem OW {ks:List CK} {cx cy:List T} {r:Bool} (h:Ck (.s::ks) cx cy=some r):∃a xs b ys r1,cx = .v (.string a)::xs/\cy = .v (.string b)::ys/\Ck ks xs ys=some r1/\r=((a.toList==b.toList)&&r1):=by
 unfold Ck at h;split at h
 all_goals (first | (rename_i hh;cases hh;done) | (cases h;done) | skip)
 rename_i ks' a xs b ys hk;cases hk;obtain⟨r1,h1,h2⟩:=Xf.1 h;exact⟨a,xs,b,ys,r1,rfl,rfl,h1,h2.symm⟩
theorem OX {ks:List CK} {cx cy:List T} {r:Bool} (h:Ck (.b::ks) cx cy=some r):∃a xs b ys r1,cx = .v (.bool a)::xs/\cy = .v (.bool b)::ys/\Ck ks xs ys=some r1/\r=((a==b)&&r1):=by
 unfold Ck at h;split at h
 all_goals (first | (rename_i hh;cases hh;done) | (cases h;done) | skip)
 rename_i ks' a xs b ys hk;cases hk;obtain⟨r1,h1,h2⟩:=Xf.1 h;exact⟨a,xs,b,ys,r1,rfl,rfl,h1,h2.symm⟩
theorem OY {w:World} (I:Nat->Prop) (d:Nat) (xs ys:Array Value):∀(fs:List Field) (off:Nat) (ks:List CK) (cx cy:List T) (r:Bool),E2 P off fs=some ks->Ck ks cx cy=some r ->
  AX I w cx (xs.toList.drop off)->AX I w cy (ys.toList.drop off)->(Op.eqFields (d+1) xs ys fs).run P w = .ok r w
 | [],off,ks,cx,cy,r,hk,he,_,_=>by
  simp only[E2,Xd.injEq]at hk;subst hk;cases cx<;>cases cy<;>simp[Ck]at he;subst he;simp[Op.eqFields]
 | f::fs,off,ks,cx,cy,r,hk,he,hx,hy=>by
  simp only[E2]at hk;split at hk
  .rename_i hf;obtain⟨hn,ho,h1⟩:=hf
   have key:∀(a b:T) (cx' cy':List T) (r0 r1:Bool) (ks':List CK),cx=a::cx'->cy=b::cy'->E2 P (off+1) fs=some ks'->Ck ks' cx' cy'=some r1->r=(r0&&r1) ->
     (P.underlying f.type=some .string\/P.underlying f.type=some .bool\/∃k,P.underlying f.type=some (.int k)) ->
     (∀u v,AA I w a u->AA I w b v->(Op.equalIn (d+1) f.type u v).run P w = .ok r0 w)->(Op.eqFields (d+1) xs ys (f::fs)).run P w = .ok r w:=by
    intro a b cx' cy' r0 r1 ks' ex ey hks hr1 hr hu heq;subst ex;subst ey;simp only[AX]at hx hy;obtain⟨u,us,e1,hu1,hus⟩:=hx;obtain⟨v,vs,e2,hv1,hvs⟩:=hy
    have g1:xs[off]?=some u:=by
     have:(xs.toList.drop off)[0]?=some u:=by rw[e1];rfl
     simpa using this
    have g2:ys[off]?=some v:=by
     have:(ys.toList.drop off)[0]?=some v:=by rw[e2];rfl
     simpa using this
    have d1:xs.toList.drop (off+1)=us:=by
     have:=congrArg (Ya 1) e1;simpa using this
    have d2:ys.toList.drop (off+1)=vs:=by
     have:=congrArg (Ya 1) e2;simpa using this
    have ih:=OY I d xs ys fs (off+1) ks' cx' cy' r1 hks hr1 (by rw[d1];exact hus) (by rw[d2];exact hvs);simp only[Op.eqFields,hn,ne_eq,not_false_eq_true,if_true,ho,Sem.run_bind,KW hu g1,KW hu g2,Xl,heq u v hu1 hv1]
    cases r0 with
    | true=>simp[hr,ih]
    | false=>simp[hr]
   split at hk
   .rename_i k hu;obtain⟨ks',hks,rfl⟩:=Xf.1 hk;obtain⟨k1,a,xs',b,ys',r1,e1,e2,h1,h2⟩:=OV he;refine key _ _ _ _ (a==b) r1 ks' e1 e2 hks h1 h2 (.inr (.inr ⟨k,hu⟩)) λu v hu' hv'=>?_;simp only[AA]at hu' hv';subst hu';subst hv';exact run_equalIn_int w d f.type k1 k a b hu
   .rename_i hu;obtain⟨ks',hks,rfl⟩:=Xf.1 hk;obtain⟨a,xs',b,ys',r1,e1,e2,h1,h2⟩:=OW he;refine key _ _ _ _ (a.toList==b.toList) r1 ks' e1 e2 hks h1 h2 (.inl hu) λu v hu' hv'=>?_;simp only[AA]at hu' hv';subst hu';subst hv';exact run_equalIn_string w d f.type a b hu
   .rename_i hu;obtain⟨ks',hks,rfl⟩:=Xf.1 hk;obtain⟨a,xs',b,ys',r1,e1,e2,h1,h2⟩:=OX he;refine key _ _ _ _ (a==b) r1 ks' e1 e2 hks h1 h2 (.inr (.inl hu)) λu v hu' hv'=>?_;simp only[AA]at hu' hv';subst hu';subst hv';exact run_equalIn_bool' w d f.type a b hu
   .cases hk
  .cases hk
theorem MQ:∀{k0 ks:List CK} {cx cy:List T} {r:Bool},Ck (k0++ks) cx cy=some r->∃x0 x1 y0 y1 r0 r1,cx=x0++x1/\cy=y0++y1/\x0.length=k0.length/\y0.length=k0.length/\Ck k0 x0 y0=some r0/\Ck ks x1 y1=some r1/\r=(r0&&r1)
 | [],ks,cx,cy,r,h=>⟨[],cx,[],cy,true,r,rfl,rfl,rfl,rfl,rfl,h,rfl⟩
 | k::k0,ks,cx,cy,r,h=>by
  cases k with
  | i=>
   obtain⟨k,a,xs,b,ys,r1,rfl,rfl,h1,rfl⟩:=OV h;obtain⟨x0,x1,y0,y1,r0,r2,rfl,rfl,l1,l2,g1,g2,rfl⟩:=MQ h1;exact⟨_::x0,x1,_::y0,y1,(a==b)&&r0,r2,rfl,rfl,by simp[l1],by simp[l2],by simp[Ck,g1],g2,by rw[Yk]⟩
  | s=>
   obtain⟨a,xs,b,ys,r1,rfl,rfl,h1,rfl⟩:=OW h;obtain⟨x0,x1,y0,y1,r0,r2,rfl,rfl,l1,l2,g1,g2,rfl⟩:=MQ h1;exact⟨_::x0,x1,_::y0,y1,(a.toList==b.toList)&&r0,r2,rfl,rfl,by simp[l1],by simp[l2],by simp[Ck,g1],g2,by rw[Yk]⟩
  | b=>
   obtain⟨a,xs,b,ys,r1,rfl,rfl,h1,rfl⟩:=OX h;obtain⟨x0,x1,y0,y1,r0,r2,rfl,rfl,l1,l2,g1,g2,rfl⟩:=MQ h1;exact⟨_::x0,x1,_::y0,y1,(a==b)&&r0,r2,rfl,rfl,by simp[l1],by simp[l2],by simp[Ck,g1],g2,by rw[Yk]⟩
theorem OZ {I:Nat->Prop} {w:World}:∀{a b:List T} {us:List Value},AX I w (a++b) us->AX I w a (us.take a.length)/\AX I w b (us.drop a.length)
 | [],b,us,h=>⟨by simp[AX],by simpa using h⟩
 | x::a,b,us,h=>by
  simp only[Yl,AX]at h;obtain⟨u,us,rfl,hu,h⟩:=h;obtain⟨h1,h2⟩:=OZ h;exact⟨by simp only[Xu,Yz,AX];exact⟨u,_,rfl,hu,h1⟩,by simpa using h2⟩
theorem Pa {w:World} (I:Nat->Prop) (d:Nat) (xs ys:Array Value):∀(fs:List Field) (off:Nat) (ks:List CK) (cx cy:List T) (r:Bool),GS P off fs=some ks->Ck ks cx cy=some r ->
  AX I w cx (xs.toList.drop off)->AX I w cy (ys.toList.drop off)->(Op.eqFields (d+2) xs ys fs).run P w = .ok r w
 | [],off,ks,cx,cy,r,hk,he,_,_=>by
  simp only[GS,Xd.injEq]at hk;subst hk;cases cx<;>cases cy<;>simp[Ck]at he;subst he;simp[Op.eqFields]
 | f::fs,off,ks,cx,cy,r,hk,he,hx,hy=>by
  simp only[GS]at hk;split at hk
  .rename_i hf;obtain⟨hn,ho⟩:=hf
   have key:∀(a b:T) (cx' cy':List T) (r0 r1:Bool) (ks':List CK),cx=a::cx'->cy=b::cy'->GS P (off+1) fs=some ks'->Ck ks' cx' cy'=some r1->r=(r0&&r1) ->
     (P.underlying f.type=some .string\/P.underlying f.type=some .bool\/∃k,P.underlying f.type=some (.int k)) ->
     (∀u v,AA I w a u->AA I w b v->(Op.equalIn (d+2) f.type u v).run P w = .ok r0 w)->(Op.eqFields (d+2) xs ys (f::fs)).run P w = .ok r w:=by
    intro a b cx' cy' r0 r1 ks' ex ey hks hr1 hr hu heq;subst ex;subst ey;simp only[AX]at hx hy;obtain⟨u,us,e1,hu1,hus⟩:=hx;obtain⟨v,vs,e2,hv1,hvs⟩:=hy
    have g1:xs[off]?=some u:=by
     have:(xs.toList.drop off)[0]?=some u:=by rw[e1];rfl
     simpa using this
    have g2:ys[off]?=some v:=by
     have:(ys.toList.drop off)[0]?=some v:=by rw[e2];rfl
     simpa using this
    have d1:xs.toList.drop (off+1)=us:=by
     have:=congrArg (Ya 1) e1;simpa using this
    have d2:ys.toList.drop (off+1)=vs:=by
     have:=congrArg (Ya 1) e2;simpa using this
    have ih:=Pa I d xs ys fs (off+1) ks' cx' cy' r1 hks hr1 (by rw[d1];exact hus) (by rw[d2];exact hvs);simp only[Op.eqFields,hn,ne_eq,not_false_eq_true,if_true,ho,Sem.run_bind,KW hu g1,KW hu g2,Xl,heq u v hu1 hv1]
    cases r0 with
    | true=>simp[hr,ih]
    | false=>simp[hr]
   split at hk
   .rename_i k hu;obtain⟨ks',hks,rfl⟩:=Xf.1 hk;obtain⟨k1,a,xs',b,ys',r1,e1,e2,h1,h2⟩:=OV he;refine key _ _ _ _ (a==b) r1 ks' e1 e2 hks h1 h2 (.inr (.inr ⟨k,hu⟩)) λu v hu' hv'=>?_;simp only[AA]at hu' hv';subst hu';subst hv';exact run_equalIn_int w (d+1) f.type k1 k a b hu
   .rename_i hu;obtain⟨ks',hks,rfl⟩:=Xf.1 hk;obtain⟨a,xs',b,ys',r1,e1,e2,h1,h2⟩:=OW he;refine key _ _ _ _ (a.toList==b.toList) r1 ks' e1 e2 hks h1 h2 (.inl hu) λu v hu' hv'=>?_;simp only[AA]at hu' hv';subst hu';subst hv';exact run_equalIn_string w (d+1) f.type a b hu
   .rename_i hu;obtain⟨ks',hks,rfl⟩:=Xf.1 hk;obtain⟨a,xs',b,ys',r1,e1,e2,h1,h2⟩:=OX he;refine key _ _ _ _ (a==b) r1 ks' e1 e2 hks h1 h2 (.inr (.inl hu)) λu v hu' hv'=>?_;simp only[AA]at hu' hv';subst hu';subst hv';exact run_equalIn_bool' w (d+1) f.type a b hu
   .rename_i g hu;obtain⟨k0,hk0,hk⟩:=Ym.1 hk;split at hk
    .rename_i hc;obtain⟨hst,hsh⟩:=hc;obtain⟨ks',hks,rfl⟩:=Xf.1 hk;obtain⟨x0,x1,y0,y1,r0,r1,rfl,rfl,l1,l2,h0,h1,hr⟩:=MQ he;obtain⟨hx0,hx1⟩:=OZ hx;obtain⟨hy0,hy1⟩:=OZ hy;rw[l1]at hx0 hx1;rw[l2]at hy0 hy1;rw[List.drop_drop]at hx1 hy1;have ih:=Pa I d xs ys fs (off+k0.length) ks' x1 y1 r1 hks h1 hx1 hy1;have hsg:=FN hsh w
     have hfo:P.fieldsOf f.type=g:=by simp[Program.fieldsOf,hu]
     have pt:∀zs:Array Value,(part f.type zs off).run P w = .ok (.agg (zs.extract off (off+k0.length))) w:=λzs=>by
      simp[part,hsg.1,hsg.2]
     have hin:(Op.equalIn (d+2) f.type (.agg (xs.extract off (off+k0.length))) (.agg (ys.extract off (off+k0.length)))).run P w = .ok r0 w:=by
      rw[run_equalIn_struct w (d+1) f.type _ _ (by rw[hfo];exact hu) hst,hfo];exact OY I d _ _ g.toList 0 k0 x0 y0 r0 hk0 h0 (by simpa[Yn,Yb]using hx0) (by simpa[Yn,Yb]using hy0)
     simp only[Op.eqFields,hn,ne_eq,not_false_eq_true,if_true,ho,Sem.run_bind,pt,Xl,hin]
     cases r0 with
     | true=>simp[hr,ih]
     | false=>simp[hr]
    .cases hk
   .cases hk
  .cases hk
theorem SA {neg:Bool} {t:TypeId} {x y:Operand} {yt:TypeId} {ks:List CK} {r:PV} (ho:o.op = .binOp (if neg then .neq else .eql) t x y yt) (hk:MN P t=some ks)
  (h:exM (.eqs neg ks) [s.ev G x,s.ev G y]=some r):AOp P G B o s r s.H s.nx:=by
 refine Fm λL a w hi=>?_;have hx:=hi.ev x;have hy:=hi.ev y;unfold exM at h;split at h
 .rename_i n' ks' xs ys e1 e2;injection e1 with e1 e1';subst e1;subst e1';injection e2 with e2 e3;injection e3 with e3 e4;rw[e2]at hx;rw[e3]at hy;simp only[Aq,AA]at hx hy;obtain⟨us,ex,_,hxs⟩:=hx;obtain⟨vs,ey,_,hys⟩:=hy;obtain⟨b,hb,rfl⟩:=Xf.1 h;unfold MN at hk;split at hk
  .rename_i fs hu;split at hk
   .rename_i hc
    have hf:P.fieldsOf t=fs:=by simp[Program.fieldsOf,hu]
    have hrun:(Op.equalIn 10000 t (.agg us) (.agg vs)).run P w = .ok b w:=by
     rw[show(10000:Nat)=9997+2+1 from rfl,run_equalIn_struct w (9997+2) t us vs (by rw[hf];exact hu) hc.1,hf];exact Pa L.I 9997 us vs fs.toList 0 ks xs ys b hk hb (by simpa using hxs) (by simpa using hys)
    refine⟨.bool (if neg then !b else b),?_,by simp only[Aq,AA]⟩
    cases neg with
    | true=>
     simp only[if_true]at ho;simp only[execOp,ho,ex,ey,Sem.run_bind,run_eqGuard_agg w .neq t x y us vs hc.2,run_neq_struct w t us vs,hrun,Xl,if_true];rfl
    | false=>
     simp only[Xy,if_false]at ho;simp only[execOp,ho,ex,ey,Sem.run_bind,run_eqGuard_agg w .eql t x y us vs hc.2,run_eql_struct w t us vs,hrun,Xl,Xy,if_false];rfl
   .cases hk
  .cases hk
 all_goals (first | (rename_i e _;cases e;done) | (rename_i e;cases e;done) | (cases h;done))
theorem eK {t e:TypeId} {x i:Operand} {len n:Nat} {agg:Bool} {r:PV} (ho:o.op = .index t x i) (hu:P.underlying t=some (.array len e)) (hs:Ej P e=some (agg,n))
  (h:exM (.aix len n agg) [s.ev G x,s.ev G i]=some r):AOp P G B o s r s.H s.nx:=by
 refine Fm λL a w hi=>?_;have hx:=hi.ev x;have hj:=hi.ev i;have h1:=FN hs w;unfold exM at h;split at h
 all_goals (first | (rename_i e _;cases e;done) | (rename_i e;cases e;done) | (cases h;done) | skip)
 rename_i len' n' agg' cs k j e1 e2;injection e1 with e1 e3 e4;subst e1;subst e3;subst e4;injection e2 with e2 e3;injection e3 with e3 _;rw[e2]at hx;rw[e3]at hj;simp only[Aq,AA]at hx hj;obtain⟨us,ex,h1s,hl⟩:=hx;split at h
 .rename_i hj3
  cases agg with
  | true=>
   simp only[if_true,Xd.injEq]at h;subst h;refine⟨.agg (us.extract (j.toNat*n) (j.toNat*n+n)),?_,?_⟩
   .simp[execOp,ho,ex,hj,Instr.index,asIntOf,run_underlying hu,part,h1.1,h1.2,hj3.1,hj3.2.1]
   .simp only[Aq,AA];refine⟨_,rfl,λy hy=>h1s y ?_,?_⟩
    .simp only[Yn,Yb]at hy;exact List.mem_of_mem_drop (Y0 hy)
    .have h2:=(AJ.ofT (P:=P) (L:=L) hl).drop_take (j.toNat*n) n;rw[<-List.map_drop,<-List.map_take]at h2;simpa[Yb]using h2.toT
  | false=>
   simp only[Xy,if_false]at h
   cases hc:cs[j.toNat*n]? with
   | none=>rw[hc]at h;cases h
   | some c=>
    rw[hc]at h;injection h with h;subst h;obtain⟨v,hv,hr⟩:=hl.at_ _ hc
    have hv':us[j.toNat*n]?=some v:=by simpa using hv
    refine⟨v,?_,by simp only[Aq];exact hr⟩;simp[execOp,ho,ex,hj,Instr.index,asIntOf,run_underlying hu,part,h1.1,h1.2,hj3.1,hj3.2.1,hv']
 .cases h
theorem eU {t:TypeId} {x:Operand} {st:ByteArray} (ho:o.op = .range t x) (hu:P.underlying t=some .string) (hx:s.ev G x = .t (.v (.string st))):AOp P G B o s (.ptr s.nx 0) ((s.nx,.iter st 0)::s.H) (s.nx+1):=by
 refine IA λL a w hi=>?_;have h:=hi.ev x;rw[hx]at h;simp only[Aq,AA]at h;refine⟨.pointer (some ⟨w.heap.size,0,none⟩),w.iter st 0,.stringIter st 0,by simp[execOp,ho,h,run_range_string w t st hu],⟨rfl,rfl,rfl⟩,rfl,λhm=>⟨World.iter_heap w st 0,?_⟩⟩;simp only[Aq];exact⟨by simp[Loc.grow,hi.nx],by simp[Loc.grow,hi.nx]⟩
theorem eW {x:Operand} {b:Nat} {st:ByteArray} {pos:Nat} (ho:o.op = .next x true) (hx:s.ev G x = .ptr b 0) (hl:Aj s.H b=some (.iter st pos)) (hp:pos<st.size) :
  AOp P G B o s (.t (.tu [.v (.bool true),.v (.int .i64 pos),.v (.int .i32 (Utf8.decode st pos).1)])) (upd s.H b (.iter st (pos+(Utf8.decode st pos).2))) s.nx:=λL a w hi=>by
 have h:=hi.ev x;rw[hx]at h;simp only[Aq]at h;obtain⟨hb,h⟩:=h;have hr:=hi.heap.rep b _ hl;have hr':w.heap[L.μ b]?=some (.stringIter st pos):=hr;have hlt:=(Xw.1 hr').1;unfold Oper.wp
 have hrun:(execOp a.eval o).run P w = .ok (.value (.tuple #[.bool true,.int .i64 pos,.int .i32 (Utf8.decode st pos).1])) { w with heap:=w.heap.setIfInBounds (L.μ b) (.stringIter st (pos+(Utf8.decode st pos).2)) }:=by
  simp[execOp,ho,h,Instr.next,getObj,setObj,Sem.run,hr',hp,goInt]
 rw[hrun,Oper.upon_value]
 have hw:=HO (w':={ w with heap:=w.heap.setIfInBounds (L.μ b) (.stringIter st (pos+(Utf8.decode st pos).2)) }) (r:=.iter st (pos+(Utf8.decode st pos).2)) hi.heap ⟨rfl,rfl,rfl⟩ hl (by simp)
  (λg hg=>by simp[X2 (Ne.symm hg)]) (λg hg arr ty fz he=>by
   by_cases e:g=L.μ b
   .subst e;simp[hlt]at he
   .simp[X2 (Ne.symm e)]at he;exact⟨arr,fz,he,rfl⟩)
  (λ_=>by simp[D0,hlt])
 exact⟨_,L,rfl,by simp[Aq,AA,AX],hw.1,hi.nx,hw.2.1,hw.2.2⟩
theorem eZ {x:Operand} {b:Nat} {st:ByteArray} {pos:Nat} (ho:o.op = .next x true) (hx:s.ev G x = .ptr b 0) (hl:Aj s.H b=some (.iter st pos)) (hp:¬pos<st.size) :
  AOp P G B o s (.t (.tu [.v (.bool false)])) s.H s.nx:=by
 refine Fm λL a w hi=>?_;have h:=hi.ev x;rw[hx]at h;simp only[Aq]at h;obtain⟨hb,h⟩:=h;have hr:w.heap[L.μ b]?=some (.stringIter st pos):=hi.heap.rep b _ hl;exact⟨.tuple #[.bool false],by simp[execOp,ho,h,Instr.next,getObj,Sem.run,hr,hp],by simp[Aq,AA,AX]⟩
theorem SB {I:Nat->Prop} {w:World}:∀{cs:List T} {l:List UInt8} {us:List Value},Gs cs=some l->AX I w cs us->∃ns:List Int,us=ns.map (Value.int .u8)/\l=ns.map λn=>X9 n.toNat
 | [],l,us,h,hr=>by
  simp only[Gs,Xd.injEq]at h;simp only[AX]at hr;exact⟨[],by simp[hr],by simp[<-h]⟩
 | c::cs,l,us,h,hr=>by
  simp only[AX]at hr;obtain⟨x,xs,rfl,hx,hxs⟩:=hr;unfold Gs at h;split at h
  .rename_i e;cases e
  .rename_i n r e;injection e with e1 e2;subst e1;subst e2;obtain⟨l',hl',rfl⟩:=Xf.1 h;obtain⟨ns,h1,h2⟩:=SB hl' hxs;simp only[AA]at hx;exact⟨n::ns,by simp[hx,h1],by simp[h2]⟩
  .cases h
theorem SC:∀(ns:List Int) (b:ByteArray),ns.foldl (λr n=>r.push (X9 n.toNat)) b=⟨b.data++(ns.map λn=>X9 n.toNat).toArray⟩
 | [],b=>by simp
 | n::ns,b=>by
  rw[List.foldl_cons,SC ns];simp[ByteArray.push]
theorem Pb (b o j:Nat):(⟨b,o,none⟩:Addr).add j=⟨b,o+j,none⟩:=by
 unfold Addr.add;split
 .rename_i h;subst h;rfl
 .rfl
theorem fB {src dst e:TypeId} {x:Operand} {cs:List T} {l:List UInt8} (ho:o.op = .convert src dst x) (hs:P.underlying src=some (.slice e)) (hd:P.underlying dst=some .string) (he:P.underlying e=some (.int .u8))
  (hx:hxM.toTS s.H (s.ev G x)=some cs) (hl:Gs cs=some l):AOp P G B o s (.t (.v (.string ⟨l.toArray⟩))) s.H s.nx:=by
 refine Fm λL a w hi=>?_;refine⟨.string ⟨l.toArray⟩,?_,by simp only[Aq,AA]⟩;have h:=hi.ev x
 have go:∀(ad:Addr) (n c:Nat) (us:List Value),a.eval x = .slice (some ad) n c->us.length=n->(∀(j:Nat) v,us[j]?=some v->w.cell? (ad.add j)=some v)->AX L.I w cs us ->
   (execOp a.eval o).run P w = .ok (.value (.string ⟨l.toArray⟩)) w:=by
  intro ad n c us e1 hn hc hr;obtain⟨ns,hu,hln⟩:=SB hl hr
  have hload:(loadCells ad n).run P w = .ok (ns.map (Value.int .u8)).toArray w:=by
   have:=run_loadCells_list (P:=P) w ad us hc;rw[hn]at this;rw[this,hu]
  have:=run_bytesToString w ad n c ns hload;rw[SC,<-hln,show(ByteArray.empty.data++l.toArray)=l.toArray from Array.empty_append]at this;simp only[execOp,ho,e1,Go.convert,Sem.run_bind,run_underlying hs,run_underlying hd,run_underlying he,Xl,this];rfl
 generalize hp:s.ev G x=p at h hx;unfold hxM.toTS at hx;split at hx
 .rename_i n c;injection hx with hx;subst hx;simp only[Gs,Xd.injEq]at hl;subst hl;simp only[Aq,AA]at h;simp only[execOp,ho,h,Go.convert,Sem.run_bind,run_underlying hs,run_underlying hd,run_underlying he,Xl,Conv.bytesToString];rfl
 .rename_i n cs';split at hx
  .rename_i hn;injection hx with hx;subst hx;simp only[Aq,AA]at h;obtain⟨ad,c,e1,hc,hb⟩:=h;rcases hb with⟨h0,h1⟩ | ⟨h0,h1,h2⟩
   .subst h1;exact go ad n c [] e1 (by simp[h0]) (by simp) (by simp only[AX])
   .obtain⟨b,o',sp⟩:=ad;simp only at h0 h1 h2;subst h0
    have:∀(cs:List T) (o':Nat),Bs L.I w cs b o'->∃us:List Value,us.length=cs.length/\(∀(j:Nat) v,us[j]?=some v->w.cell? ⟨b,o'+j,none⟩=some v)/\AX L.I w cs us:=by
     intro cs
     induction cs with
     | nil=>intro o' _;exact⟨[],rfl,by simp,by simp only[AX]⟩
     | cons d cs ih=>
      intro o' hr;simp only[Bs]at hr;obtain⟨⟨v,hv,_,hd⟩,hr⟩:=hr;obtain⟨us,h1,h2,h3⟩:=ih (o'+1) hr;refine⟨v::us,by simp[h1],λj y hj=>?_,by simp only[AX];exact⟨v,us,rfl,hd,h3⟩⟩
      cases j with
      | zero=>simp at hj;subst hj;simpa using hv
      | succ j=>have:=h2 j y (by simpa using hj);rwa[show o'+(j+1)=o'+1+j by omega]
    obtain⟨us,h3,h4,h5⟩:=this _ _ h2;exact go ⟨b,o',none⟩ n c us e1 (by omega) (λj v hj=>by rw[Pb];exact h4 j v hj) h5
  .cases hx
 .rename_i b o' n z;split at hx
  .rename_i ty cs' hlook;split at hx
   .rename_i hz;obtain⟨rfl,hz⟩:=hz;simp only[Aq]at h;obtain⟨hb',hμ,c,e1,hc,_⟩:=h;obtain⟨xs,hxl,hcell,h1,hrep⟩:=Jw (hi.heap.rep b _ hlook);have hseg:=hrep.drop_take o' n;rw[Jv hx]at hseg;refine go ⟨L.μ b,o',none⟩ n c ((xs.drop o').take n) e1 (by simp;omega) (λj v hj=>?_) hseg.toT;rw[Yo]at hj;split at hj
    .rw[Y2]at hj;rw[Pb];exact hcell _ v hj
    .cases hj
   .cases hx
  .cases hx
 .cases hx
theorem fC {t:TypeId} {x:Operand} {d:TypeDesc} {p:PV} (ho:o.op = .makeInterface t x) (hu:P.underlying t=some d) (hne:∀ms,d = .interface ms->False) (hp:exM (.mki t) [s.ev G x]=some p):AOp P G B o s p s.H s.nx:=
 Fm λL a w hi=>by
  have h:=hi.ev x
  have hrun:(execOp a.eval o).run P w = .ok (.value (.iface t (a.eval x))) w:=by
   simp only[execOp,ho,Instr.makeInterface,Sem.run_bind,run_underlying hu,Xl]
   cases d<;>first | (exact(hne _ rfl).elim) | rfl
  refine⟨_,hrun,?_⟩;generalize s.ev G x=q at h hp
  cases q with
  | t y=>
   simp only[exM,Xd.injEq]at hp;subst hp;simp only[Aq,AA]at h ⊢;exact⟨_,rfl,h⟩
  | _=>
   simp only[exM,Xd.injEq]at hp;subst hp;simp only[Aq]at h ⊢;exact⟨_,rfl,h⟩
theorem Pc {L:Loc} {a:Act} {w:World} (hi:Interp P G B L s a w):∀l:List Operand,AJ P L w ((l.map (AU G)).map (·.ev s.env)) (l.map a.eval)
 | []=>by simp only[Xe,AJ]
 | x::r=>by
  simp only[Xc,AJ];exact⟨_,_,rfl,by rw[IC];exact hi.ev x,Pc hi r⟩
theorem fF {f:Fn} {first cap:Array Operand} {p:PV} (ho:o.op = .makeFunc f first cap) (hp:exM (.mkf f first.size) ((first.toList.map (AU G)++cap.toList.map (AU G)).map (·.ev s.env))=some p):AOp P G B o s p s.H s.nx:=
 Fm λL a w hi=>by
  refine⟨.func f (first.map a.eval) (cap.map a.eval),by simp[execOp,ho,Instr.makeFunc],?_⟩
  have h1:=Pc hi first.toList
  have h2:=Pc hi cap.toList
  have l1:((first.toList.map (AU G)).map (·.ev s.env)).length=first.size:=by simp
  generalize hF:(first.toList.map (AU G)).map (·.ev s.env)=F at h1 l1;generalize hC:(cap.toList.map (AU G)).map (·.ev s.env)=C at h2;rw[Y3,hF,hC]at hp;simp only[exM,Xd.injEq]at hp;rw[<-l1,List.take_left,List.drop_left]at hp;subst hp;unfold Su;split
  .simp only[AJ]at h1 h2;simp only[Aq,AA]
   have e1:first.map a.eval = #[]:=by rw[<-Yp,Yc];exact h1
   have e2:cap.map a.eval = #[]:=by rw[<-Yp,Yc];exact h2
   rw[e1,e2]
  .simp only[Aq];exact⟨_,_,rfl,by rw[Yc];exact h1,by rw[Yc];exact h2⟩
structure GT (P:Program) (kt:TypeId) (K:Value->Prop):Prop where
 check:∀(w:World) (em:Bool) (v:Value),K v->(Instr.checkKey em 10000 kt v).run P w = .ok () w
 find:∀(w:World) (x:Value),K x->∀es:List MapEntry,(∀e∈es,K e.key)->((Instr.findKey kt x es).run P w = .ok none w/\∀e∈es,e.key≠x)\/∃j e,(Instr.findKey kt x es).run P w = .ok (some (j,e.val)) w/\es[j]?=some e/\e.key=x
 stays:∀(w:World) (v:Value),K v->(Instr.keyThatStays v v).run P w = .ok v w
theorem SD {kt:TypeId} {d:TypeDesc} (hd:P.underlying kt=some d):GT P kt (MapKept.IsKey d) where
 check:=λw em v h=>MapKept.run_checkKey hd h em 9999
 find:=λw x hx es hes=>by
  rcases MapKept.findNow_spec hx es 0 hes with⟨h1,h2⟩ | ⟨j,e0,h1,h2,h3⟩
  .exact .inl ⟨MapKept.run_findKey hd h1,h2⟩
  .exact .inr ⟨j,e0,by simpa using MapKept.run_findKey hd h1,h2,h3⟩
 stays:=λw v h=>MapKept.run_keyThatStays h
def Pf (m:Nat) (v:Value):Prop:=∃ns:List Int,ns.length=m/\v = .agg (ns.map (.int .i64)).toArray
theorem Ph {I:Nat->Prop} {w:World}:∀ns:List Int,AX I w (ns.map λn=>T.v (.int .i64 n)) (ns.map (Value.int .i64))
 | []=>by simp[AX]
 | n::r=>by
  simp only[Xc,AX,AA];exact⟨_,_,rfl,rfl,Ph r⟩
theorem SE:∀(a b:List Int),a.length=b.length->Ck (Xs a.length .i) (a.map λn=>T.v (.int .i64 n)) (b.map λn=>T.v (.int .i64 n))=some (decide (a=b))
 | [],[],_=>rfl
 | x::a,y::b,h=>by
  rw[Xu,Yd,Xc,Xc];simp only[Ck,if_true,SE a b (by simpa using h),Xq];congr 1;by_cases e:x=y<;>by_cases e2:a=b<;>simp[e,e2]
 | [],_::_,h=>by simp at h
 | _::_,[],h=>by simp at h
theorem SG {a b:List Int} (h:(Value.agg (a.map (.int .i64)).toArray) = .agg (b.map (.int .i64)).toArray):a=b:=by
 injection h with h
 have h:a.map (Value.int .i64)=b.map (Value.int .i64):=by simpa using h
 exact(List.map_inj_right (λx y e=>by injection e)).1 h
theorem fI {kt:TypeId} {m:Nat} (hk:KT P kt=some (Xs m .i)) (w:World) (a b:List Int) (ha:a.length=m) (hb:b.length=m) :
  (Op.equal kt (.agg (a.map (.int .i64)).toArray) (.agg (b.map (.int .i64)).toArray)).run P w = .ok (decide (a=b)) w:=by
 unfold KT at hk;split at hk
 .rename_i fs hu;split at hk
  .rename_i hc
   have hf:P.fieldsOf kt=fs:=by simp[Program.fieldsOf,hu]
   show(Op.equalIn 10000 kt _ _).run P w=_;rw[show(10000:Nat)=9998+1+1 from rfl,run_equalIn_struct w (9998+1) kt _ _ (by rw[hf];exact hu) hc.1,hf];refine OY (λ_=>True) 9998 _ _ fs.toList 0 (Xs m .i) _ _ _ hk ?_ (Ph a) (Ph b);rw[<-ha];exact SE a b (by omega)
  .cases hk
 .cases hk
theorem SI:∀{fs:List Field} {o m:Nat},E2 P o fs=some (Xs m .i)->fs.length=m/\∀(i:Nat) f,fs[i]?=some f->f.name ≠ "_" /\ f.offset=o+i/\∃k,P.underlying f.type=some (.int k)
 | [],o,m,h=>by
  simp only[E2,Xd.injEq]at h
  cases m with
  | zero=>exact⟨rfl,λi f hf=>by simp at hf⟩
  | succ m=>rw[Yd]at h;cases h
 | f::fs,o,m,h=>by
  simp only[E2]at h;split at h
  .rename_i hf;obtain⟨hn,ho,_⟩:=hf
   have key:∀{x:CK} (hx:(E2 P (o+1) fs).map (x::·)=some (Xs m .i)),∃m',m=m'+1/\x = .i/\E2 P (o+1) fs=some (Xs m' .i):=λ{x} hx=>by
    obtain⟨ks,h1,h2⟩:=Xf.1 hx
    cases m with
    | zero=>cases h2
    | succ m=>
     rw[Yd]at h2;injection h2 with h2 h3;exact⟨m,rfl,h2,by rw[h1,h3]⟩
   split at h
   .rename_i k hu;obtain⟨m',rfl,_,h1⟩:=key h;obtain⟨i1,i2⟩:=SI h1;refine⟨by simp[i1],λi g hg=>?_⟩
    cases i with
    | zero=>
     injection hg with hg;subst hg;exact⟨hn,by omega,k,hu⟩
    | succ i=>
     obtain⟨j1,j2,j3⟩:=i2 i g hg;exact⟨j1,by omega,j3⟩
   .obtain⟨_,_,e,_⟩:=key h;cases e
   .obtain⟨_,_,e,_⟩:=key h;cases e
   .cases h
  .cases h
theorem fJ {kt:TypeId} {m:Nat} (hk:KT P kt=some (Xs m .i)):GT P kt (Pf m):=by
 obtain⟨fs,hu,hkf⟩:∃fs,P.underlying kt=some (.struct fs)/\E2 P 0 fs.toList=some (Xs m .i):=by
  unfold KT at hk;split at hk
  .rename_i fs hu;split at hk
   .exact⟨fs,hu,hk⟩
   .cases hk
  .cases hk
 obtain⟨hfl,hfs⟩:=SI hkf;refine⟨λw em v hv=>?_,λw x hx es hes=>?_,λw v hv=>?_⟩
 .obtain⟨ns,hl,rfl⟩:=hv;rw[show(10000:Nat)=9998+1+1 from rfl,Instr.checkKey];simp only[Sem.run_bind,run_underlying hu,Xl];rw[<-Array.forIn_toList]
  have hfs':∀f∈fs.toList,f.name ≠ "_" /\ ∃k x,P.underlying f.type=some (.int k)/\(ns.map (Value.int .i64)).toArray[f.offset]?=some (.int .i64 x):=λf hf=>by
   obtain⟨i,hi,rfl⟩:=Yq hf;obtain⟨h1,h2,k,h3⟩:=hfs i _ (Xi hi)
   have hin:i<ns.length:=by omega
   exact⟨h1,k,ns[i],h3,by rw[h2];simp[hin]⟩
  generalize fs.toList=L at hfs'
  induction L with
  | nil=>simp
  | cons f L ih=>
   obtain⟨h1,k,x,h2,h3⟩:=hfs' f (by simp);have p1:=KW (w:=w) (.inr (.inr ⟨k,h2⟩)) h3
   have p2:(Instr.checkKey em (9998+1) f.type (.int .i64 x)).run P w = .ok () w:=by
    rw[Instr.checkKey];simp only[Sem.run_bind,run_underlying h2,Xl];rfl
   simp only[List.forIn_cons,Sem.run_bind,h1,ne_eq,not_false_eq_true,if_true,Xl,p1,p2,Sem.run_pure];exact ih λg hg=>hfs' g (by simp[hg])
 .obtain⟨a,ha,rfl⟩:=hx;rw[run_findKey_eq w (by rw[hu])]
  have key:∀(es:List MapEntry) (i:Nat),(∀e∈es,Pf m e.key)->((Instr.findAsking kt (.agg (a.map (.int .i64)).toArray) es i).run P w = .ok none w/\∀e∈es,e.key ≠ .agg (a.map (.int .i64)).toArray) \/
    ∃j e,(Instr.findAsking kt (.agg (a.map (.int .i64)).toArray) es i).run P w = .ok (some (i+j,e.val)) w/\es[j]?=some e/\e.key = .agg (a.map (.int .i64)).toArray:=by
   intro es
   induction es with
   | nil=>exact λi _=>.inl ⟨by simp[Instr.findAsking],by simp⟩
   | cons e es ih=>
    intro i hes;obtain⟨b,hb,hbe⟩:=hes e (by simp);have he:=fI hk w a b ha hb;rw[<-hbe]at he;by_cases hab:a=b
    .right;refine⟨0,e,?_,rfl,by rw[hbe,hab]⟩;rw[zq hab]at he;simp[Instr.findAsking,he]
    .rw[zt hab]at he;rcases ih (i+1) (λy hy=>hes y (by simp[hy]))with⟨h1,h2⟩ | ⟨j,e',h1,h2,h3⟩
     .left;refine⟨by simp[Instr.findAsking,he,h1],λy hy=>?_⟩;rcases X3.1 hy with rfl | hy
      .intro h;rw[hbe]at h;exact hab (SG h).symm
      .exact h2 y hy
     .right;exact⟨j+1,e',by simp[Instr.findAsking,he,h1,Nat.add_assoc,Nat.add_comm 1 j],by simpa using h2,h3⟩
  rcases key es 0 hes with h | ⟨j,e,h1,h2,h3⟩
  .exact .inl h
  .exact .inr ⟨j,e,by simpa using h1,h2,h3⟩
 .obtain⟨ns,hl,rfl⟩:=hv
  have hs:Instr.sameBits 10000 (.agg (ns.map (.int .i64)).toArray) (.agg (ns.map (.int .i64)).toArray)=true:=by
   show Instr.sameBits (9999+1) _ _=true;simp only[Instr.sameBits,beq_self_eq_true,Yf,Xk];intro p hp;obtain⟨i,hi,e⟩:=Yq hp;rw[List.getElem_zip]at e;rw[<-e];simp[Instr.sameBits]
  simp[Instr.keyThatStays,hs]
def KV (kk:KK) (v:Value):Prop:=∃x:Key,x.ok kk=true/\v=x.val kk
theorem GT.mono {kt:TypeId} {K K':Value->Prop} (h:GT P kt K) (hs:∀v,K' v->K v):GT P kt K':=
 ⟨λw em v hv=>h.check w em v (hs v hv),λw x hx es hes=>h.find w x (hs x hx) es λe he=>hs _ (hes e he),λw v hv=>h.stays w v (hs v hv)⟩
theorem fK {k:IntKind} {v:Value} (h:KV (.int k) v):∃n,v = .int k n:=by
 obtain⟨x,hx,rfl⟩:=h;unfold Key.ok at hx;split at hx
 .rename_i k' n e1;cases e1;exact⟨n,rfl⟩
 .rename_i e1;cases e1
 .rename_i e1;cases e1
 .cases hx
theorem fM {v:Value} (h:KV .str v):∃b,v = .string b:=by
 obtain⟨x,hx,rfl⟩:=h;unfold Key.ok at hx;split at hx
 .rename_i e1;cases e1
 .rename_i b e1;exact⟨b,rfl⟩
 .rename_i e1;cases e1
 .cases hx
theorem fN {m:Nat} {v:Value} (h:KV (.ints m) v):Pf m v:=by
 obtain⟨x,hx,rfl⟩:=h;unfold Key.ok at hx;split at hx
 .rename_i e1;cases e1
 .rename_i e1;cases e1
 .rename_i m' ns e1;cases e1;exact⟨ns,by simpa using hx,rfl⟩
 .cases hx
theorem fO {kk:KK} {x y:Key} (hx:x.ok kk=true) (hy:y.ok kk=true) (h:x.val kk=y.val kk):x=y:=by
 cases kk with
 | int k=>
  rcases x with ns | s
  .rcases ns with _ | ⟨n,_ | ⟨n',r⟩⟩<;>first | (cases hx;done) | skip
   rcases y with ms | s
   .rcases ms with _ | ⟨m,_ | ⟨m',r⟩⟩<;>first | (cases hy;done) | skip
    simp only[Key.val]at h;injection h with _ h;rw[h]
   .cases hy
  .cases hx
 | str=>
  rcases x with ns | s
  .cases hx
  .rcases y with ms | s'
   .cases hy
   .simp only[Key.val]at h;injection h with h;rw[h]
 | ints m=>
  rcases x with ns | s
  .rcases y with ms | s
   .simp only[Key.val]at h;rw[SG h]
   .cases hy
  .cases hx
theorem SJ:∀{ks:List CK},ks.all CK.isI=true->ks=Xs ks.length .i
 | [],_=>rfl
 | .i::ks,h=>by
  rw[Xu,Yd,<-SJ (ks:=ks) (by simpa[CK.isI]using h)]
 | .s::ks,h=>by simp[CK.isI]at h
 | .b::ks,h=>by simp[CK.isI]at h
theorem SK {kt:TypeId} {kk:KK} (h:MO P kt=some kk):GT P kt (KV kk):=by
 unfold MO at h;split at h
 .rename_i k hu;injection h with h;subst h
  exact(SD hu).mono λv hv=>by obtain⟨n,rfl⟩:=fK hv;simp[MapKept.IsKey]
 .rename_i hu;injection h with h;subst h
  exact(SD hu).mono λv hv=>by obtain⟨n,rfl⟩:=fM hv;simp[MapKept.IsKey]
 .split at h
  .rename_i ks hk;split at h
   .rename_i ha;injection h with h;subst h;exact(fJ (by rw[hk,<-SJ ha])).mono λv hv=>fN hv
   .cases h
  .cases h
 .cases h
theorem fP {t:TypeId} {kk:KK} (h:KU P t=some kk):∃kt et,P.underlying t=some (.map kt et)/\GT P kt (KV kk):=by
 unfold KU at h;split at h
 .rename_i kt et hu;exact⟨kt,et,hu,SK h⟩
 .cases h
theorem fQ {t:TypeId} {kk:KK} {z:Value} (h:MP P t=some (kk,z)):∃kt et,P.underlying t=some (.map kt et)/\GT P kt (KV kk)/\∀w,(zeroValue et).run P w = .ok z w:=by
 unfold MP at h;split at h
 .rename_i kt et hu;split at h
  .rename_i kk' z' h1 h2;injection h with h;injection h with e1 e2;subst e1;subst e2;obtain⟨i,hi,hz⟩:=Ym.1 h2;exact⟨kt,et,hu,SK h1,λw=>by simp[zeroValue,typeInfo,hi,hz]⟩
  .cases h
 .cases h
theorem SM {I:Nat->Prop} {w:World}:∀{cs:List T} {ns:List Int} {us:List Value},KS cs=some ns->AX I w cs us->us=ns.map (Value.int .i64)
 | [],ns,us,h,hr=>by
  simp only[KS,Xd.injEq]at h;simp only[AX]at hr;subst h;exact hr
 | c::cs,ns,us,h,hr=>by
  simp only[AX]at hr;obtain⟨x,xs,rfl,hx,hxs⟩:=hr;unfold KS at h;split at h
  .rename_i e;cases e
  .rename_i n r e;injection e with e1 e2;subst e1;subst e2;obtain⟨ns',hns,rfl⟩:=Xf.1 h;simp only[AA]at hx;rw[hx,SM hns hxs,Xc]
  .cases h
theorem SO {kk:KK} {p:PV} {x:Key} {L:Loc} {w:World} {u:Value} (h:El kk p=some x) (hr:Aq P L w p u):x.ok kk=true/\u=x.val kk:=by
 unfold El at h;split at h
 .split at h
  .rename_i e;injection h with h;subst e;subst h;simp only[Aq,AA]at hr;exact⟨rfl,hr⟩
  .cases h
 .injection h with h;subst h;simp only[Aq,AA]at hr;exact⟨rfl,hr⟩
 .obtain⟨ns,h1,h⟩:=Ym.1 h;split at h
  .rename_i e;injection h with h;subst h;simp only[Aq,AA]at hr;obtain⟨us,e1,_,h2⟩:=hr;refine⟨by simp[Key.ok,e],?_⟩;rw[e1];show Value.agg us=Value.agg _;congr 1;rw[<-Yp,SM h1 h2]
  .cases h
 .cases h
theorem SP {k:Key}:∀{es:List (Key×Value)},(∀e∈es,e.1≠k)->E0 es k=none
 | [],_=>rfl
 | (y,u)::r,h=>by
  rw[E0,zw (h (y,u) (by simp))];exact SP λe he=>h e (by simp[he])
theorem SQ {k:Key} {v:Value}:∀{es:List (Key×Value)} {j:Nat},(es.map (·.1)).Nodup->es[j]?=some (k,v)->E0 es k=some v
 | [],j,_,h=>by simp at h
 | (y,u)::r,0,_,h=>by
  simp only[Xx,Xd.injEq,Prod.mk.injEq]at h;rw[E0,zu h.1,h.2]
 | (y,u)::r,j+1,hn,h=>by
  simp only[Xc,X4]at hn;have hm:(k,v)∈r:=Xz (by simpa using h);rw[E0,zw (λ(e:y=k)=>hn.1 (e▸Xm.2 ⟨_,hm,rfl⟩))];exact SQ hn.2 (by simpa using h)
theorem SR {k:Key} {v:Value}:∀{es:List (Key×Value)},(∀e∈es,e.1≠k)->Cq es k v=es++[(k,v)]
 | [],_=>rfl
 | (y,u)::r,h=>by
  rw[Cq,zw (h (y,u) (by simp)),SR λe he=>h e (by simp[he])];rfl
theorem SS {k:Key} {u v:Value}:∀{es:List (Key×Value)} {j:Nat},(es.map (·.1)).Nodup->es[j]?=some (k,u)->Cq es k v=es.set j (k,v)
 | [],j,_,h=>by simp at h
 | (y,u')::r,0,_,h=>by
  simp only[Xx,Xd.injEq,Prod.mk.injEq]at h;rw[Cq,zu h.1,h.1];rfl
 | (y,u')::r,j+1,hn,h=>by
  simp only[Xc,X4]at hn;have hm:(k,u)∈r:=Xz (by simpa using h);rw[Cq,zw (λ(e:y=k)=>hn.1 (e▸Xm.2 ⟨_,hm,rfl⟩)),SS hn.2 (by simpa using h)];rfl
theorem Pi {k:Key} {v:Value} {e:Key×Value}:∀{es:List (Key×Value)},e∈Cq es k v->e=(k,v)\/e∈es
 | [],h=>.inl (by simpa[Cq]using h)
 | (y,u)::r,h=>by
  rw[Cq]at h;split at h
  .rename_i hy;rcases X3.1 h with h | h
   .exact .inl (by rw[h,hy])
   .exact .inr (by simp[h])
  .rcases X3.1 h with h | h
   .exact .inr (by simp[h])
   .exact(Pi h).imp id λh=>by simp[h]
theorem SU {k:Key} {v:Value}:∀{es:List (Key×Value)},(es.map (·.1)).Nodup->((Cq es k v).map (·.1)).Nodup
 | [],_=>by simp[Cq]
 | (y,u)::r,hn=>by
  simp only[Xc,X4]at hn;rw[Cq];split
  .simpa using hn
  .rename_i hy;simp only[Xc,X4];refine⟨λh=>?_,SU hn.2⟩;obtain⟨e,he,e1⟩:=Xm.1 h;rcases Pi he with rfl | he
   .exact hy e1.symm
   .exact hn.1 (e1▸Xm.2 ⟨e,he,rfl⟩)
theorem SV {kt:TypeId} {kk:KK} (hk:GT P kt (KV kk)) {arr:Array MapEntry} {es:List (Key×Value)} {k:Key} (w:World) (h1:arr.toList.map (λe=>(e.key,e.val))=es.map (λe=>(e.1.val kk,e.2)))
  (h2:∀e∈es,e.1.ok kk=true) (hok:k.ok kk=true) :
  ((Instr.findKey kt (k.val kk) arr.toList).run P w = .ok none w/\∀e∈es,e.1≠k) \/
   ∃j e,(Instr.findKey kt (k.val kk) arr.toList).run P w = .ok (some (j,e.val)) w/\arr.toList[j]?=some e/\e.key=k.val kk/\es[j]?=some (k,e.val):=by
 have hes:∀e∈arr.toList,KV kk e.key:=λe he=>by
  have hm:(e.key,e.val)∈arr.toList.map (λe=>(e.key,e.val)):=Xm.2 ⟨e,he,rfl⟩;rw[h1]at hm;obtain⟨e',he',eq⟩:=Xm.1 hm;injection eq with eq _;exact⟨e'.1,h2 e' he',eq.symm⟩
 rcases hk.find w _ ⟨k,hok,rfl⟩ arr.toList hes with⟨f1,f2⟩ | ⟨j,e,f1,f2,f3⟩
 .refine .inl ⟨f1,λe he hek=>?_⟩;have hm:(e.1.val kk,e.2)∈es.map (λe=>(e.1.val kk,e.2)):=Xm.2 ⟨e,he,rfl⟩;rw[<-h1]at hm;obtain⟨e',he',eq⟩:=Xm.1 hm;injection eq with eq _;exact f2 e' he' (by rw[eq,hek])
 .have hj:(arr.toList.map (λe=>(e.key,e.val)))[j]?=some (e.key,e.val):=by rw[Xn,f2];rfl
  rw[h1,Xn]at hj;obtain⟨e',he',eq⟩:=Xf.1 hj;injection eq with eq1 eq2;refine .inr ⟨j,e,f1,f2,f3,?_⟩;rw[he',<-eq2,<-fO (h2 e' (Xz he')) hok (eq1.trans f3)]
theorem fR {t:TypeId} {kk:KK} (ho:o.op = .makeMap t none):AOp P G B o s (.mp s.nx) ((s.nx,.map kk [])::s.H) (s.nx+1):=by
 refine IA λL a w hi=>?_;refine⟨.map (some w.heap.size),w.alloc (.map #[] 0),.map #[] 0,by simp[execOp,ho,Instr.makeMap],⟨rfl,rfl,rfl⟩,rfl,λhm=>⟨⟨#[],0,(MapKept.heap_alloc w _).1,by simp,by simp,by simp,by simp,by simp⟩,?_⟩⟩;simp only[Aq];exact⟨by simp[Loc.grow,hi.nx],by simp[Loc.grow,hi.nx]⟩
theorem fS {t:TypeId} {x y:Operand} {ok:Bool} {kk:KK} {z:Value} {b:Nat} {es:List (Key×Value)} {k:Key} (ho:o.op = .lookup t x y ok) (hk:MP P t=some (kk,z)) (hx:s.ev G x = .mp b) (hl:Aj s.H b=some (.map kk es))
  (hy:El kk (s.ev G y)=some k):AOp P G B o s (.t (HP ok z (E0 es k))) s.H s.nx:=by
 refine Fm λL a w hi=>?_;obtain⟨kt,et,hu,hkey,hz⟩:=fQ hk;have ex:=hi.ev x;rw[hx]at ex;simp only[Aq]at ex;obtain⟨hb,ex⟩:=ex;obtain⟨hok,ey⟩:=SO hy (hi.ev y);obtain⟨arr,clock,hh,h1,h2,hn,hb1,hb2⟩:=hi.heap.rep b _ hl;have hc:=hkey.check w arr.isEmpty (k.val kk) ⟨k,hok,rfl⟩;rcases SV hkey w h1 h2 hok with⟨f1,f2⟩ | ⟨j,e,f1,f2,f3,f4⟩
 .refine⟨if ok then .tuple #[z,.bool false]else z,?_,?_⟩
  .simp[execOp,ho,Instr.lookup,run_underlying hu,ex,ey,MapKept.run_getObj_map hh,hc,f1,hz]
  .rw[SP f2];cases ok<;>simp[HP,Aq,AA,AX]
 .refine⟨if ok then .tuple #[e.val,.bool true]else e.val,?_,?_⟩
  .simp[execOp,ho,Instr.lookup,run_underlying hu,ex,ey,MapKept.run_getObj_map hh,hc,f1]
  .rw[SQ hn f4];cases ok<;>simp[HP,Aq,AA,AX]
theorem fT {t:TypeId} {x y z:Operand} {kk:KK} {v:Value} {b:Nat} {es:List (Key×Value)} {k:Key} (ho:o.op = .mapUpdate t x y z) (hk:KU P t=some kk) (hx:s.ev G x = .mp b) (hl:Aj s.H b=some (.map kk es))
  (hy:El kk (s.ev G y)=some k) (hv:s.ev G z = .t (.v v)):AOp P G B o s (.t (.v undef)) (upd s.H b (.map kk (Cq es k v))) s.nx:=λL a w hi=>by
 obtain⟨kt,et,hu,hkey⟩:=fP hk;have ex:=hi.ev x;rw[hx]at ex;simp only[Aq]at ex;obtain⟨hb,ex⟩:=ex;obtain⟨hok,ey⟩:=SO hy (hi.ev y);have ez:=hi.ev z;rw[hv]at ez;simp only[Aq,AA]at ez;obtain⟨arr,clock,hh,h1,h2,hn,hb1,hb2⟩:=hi.heap.rep b _ hl;have hlt:=(Xw.1 hh).1;have hc:=hkey.check w false (k.val kk) ⟨k,hok,rfl⟩;have hst:=hkey.stays w (k.val kk) ⟨k,hok,rfl⟩
 have step:∀(arr':Array MapEntry) (c':Nat),(execOp a.eval o).run P w = .ok .skip { w with heap:=w.heap.setIfInBounds (L.μ b) (.map arr' c') } ->
   arr'.toList.map (λe=>(e.key,e.val))=(Cq es k v).map (λe=>(e.1.val kk,e.2))->(arr'.toList.map (·.born)).Nodup->(∀e∈arr'.toList,e.born<c') ->
   o.wp P a w (λa' w'=>∃v' L',a'=a.put o.dst v'/\Aq P L' w' (.t (.v undef)) v'/\B1 P G L' (upd s.H b (.map kk (Cq es k v))) w'/\L'.nx=s.nx/\Bh L w L' w'/\Ext L s.H w L' (upd s.H b (.map kk (Cq es k v))) w') (λ_ _ _=>False):=λarr' c' hrun heq hn1 hn2=>by
  unfold Oper.wp;rw[hrun,Oper.upon_skip]
  have hw:=HO (w':={ w with heap:=w.heap.setIfInBounds (L.μ b) (.map arr' c') }) (r:=.map kk (Cq es k v)) hi.heap ⟨rfl,rfl,rfl⟩ hl (by simp)
   (λg hg=>by simp[X2 (Ne.symm hg)]) (λg hg arr ty fz he=>by
    by_cases e:g=L.μ b
    .subst e;simp[hlt]at he
    .simp[X2 (Ne.symm e)]at he;exact⟨arr,fz,he,rfl⟩)
   (λ_=>⟨arr',c',by simp[hlt],heq,λe he=>by
    rcases Pi he with rfl | he
    .exact hok
    .exact h2 e he,SU hn,hn1,hn2⟩)
  exact⟨undef,L,rfl,by simp only[Aq,AA],hw.1,hi.nx,hw.2.1,hw.2.2⟩
 rcases SV hkey w h1 h2 hok with⟨f1,f2⟩ | ⟨j,e,f1,f2,f3,f4⟩
 .refine step (arr.push { key:=k.val kk,val:=v,born:=clock }) (clock+1) ?_ ?_ ?_ ?_
  .simp[execOp,ho,Instr.mapUpdate,run_underlying hu,ex,ey,ez,MapKept.run_getObj_map hh,hc,f1,MapKept.run_setObj_map _ hh]
  .rw[SR f2];simp[h1]
  .rw[Y5,Y3,List.nodup_append];refine⟨hb1,by simp,λx hx y hy=>?_⟩;obtain⟨e,he,rfl⟩:=Xm.1 hx
   have hy:y=clock:=by simpa using hy
   have:=hb2 e he;omega
  .intro e he;rw[Y5]at he;rcases List.mem_append.1 he with he | he
   .have:=hb2 e he;omega
   .rw[List.mem_singleton.1 he];exact Y6 _
 .have hj:arr[j]?=some e:=by simpa using f2
  have hbm:(arr.modify j λe=>{ e with key:=k.val kk,val:=v }).toList.map (·.born)=arr.toList.map (·.born):=by
   rw[Y7];apply Y8;intro i;rw[Xn,Y9,Xn];by_cases hi':j=i
   .subst hi';simp only[if_true];cases arr.toList[j]?<;>rfl
   .simp only[zw hi'];cases arr.toList[i]?<;>rfl
  have hbl:∀e'∈(arr.modify j λe=>{ e with key:=k.val kk,val:=v }).toList,e'.born<clock:=λe' he'=>by
   have:e'.born∈arr.toList.map (·.born):=by rw[<-hbm];exact Xm.2 ⟨e',he',rfl⟩
   obtain⟨e0,h0,h0'⟩:=Xm.1 this;rw[<-h0'];exact hb2 e0 h0
  refine step (arr.modify j λe=>{ e with key:=k.val kk,val:=v }) clock ?_ ?_ (by rw[hbm];exact hb1) hbl
  .simp[execOp,ho,Instr.mapUpdate,run_underlying hu,ex,ey,ez,MapKept.run_getObj_map hh,hc,f1,hj,f3,hst,MapKept.run_setObj_map _ hh]
  .rw[SS hn f4,List.map_set,<-h1,Y7];apply Y8;intro i;rw[Xn,Y9,List.getElem?_set,Yg,Xn];by_cases hi':j=i
   .subst hi'
    have hlen:j<arr.size:=by simpa using (Xj.1 f2).1
    simp[f2,hlen]
   .simp[hi']
theorem fU {t e:TypeId} {x:Operand} {b off k n by' ty:Nat} {zc:List Value} {cs:List PV} (ho:o.op = .call ⟨.builtin .clear,#[x],#[t]⟩) (he:Ey P t=some (e,n,by',zc)) (hx:s.ev G x = .row b off k n)
  (hl:Aj s.H b=some (.cells ty cs)) (hk:0<k) (hfit:off+(GR zc k).length<=cs.length):AOp P G B o s (.t (.tu [])) (upd s.H b (.cells ty (Cj cs off ((GR zc k).map λx=>.t (.v x))))) s.nx:=λL a w hi=>by
 obtain⟨i,z,hu,hi',hz,rfl,rfl,rfl,hzl,hpos,hone⟩:=KN he;have hv:=hi.ev x;rw[hx]at hv;simp only[Aq]at hv;obtain⟨hb,hm,c,hv,hc,hfit2⟩:=hv;obtain⟨arr,harr,hle,hcs⟩:=hi.heap.rep b _ hl
 obtain⟨vs,hvs⟩:∃vs,vs=GR z.cells.toList k:=⟨_,rfl⟩
 rw[<-hvs]at hfit ⊢
 have h1:∀x∈vs,x.oneCell'=true:=by
  intro x hx;obtain⟨j,hj,rfl⟩:=Yq hx
  have hsz:0<z.cells.size:=by rw[<-Array.length_toList,hzl];exact hpos
  have hlt:=Nat.mod_lt j hsz
  have e:vs[j]=z.cells[j%z.cells.size]:=by
   have:vs[j]?=some z.cells[j%z.cells.size]:=by
    rw[Xi hj]at *;simp only[hvs,GR,Builtin.zeroCells]at hj ⊢;simp at hj ⊢;exact getElem!_pos z.cells _ hlt
   rw[Xi hj]at this;injection this
  rw[e];exact hone _ (by simp)
 have hstore:=run_storeCells_at P (L.μ b) off ty vs 0 arr w harr (by omega) h1;simp only[X5]at hstore
 have hzv:(zeroValue e).run P w = .ok z w:=by simp[zeroValue,typeInfo,hi',hz]
 have hrep:AJ P L w (vs.map λx=>.t (.v x)) vs:=by
  clear hstore h1 hvs hfit
  induction vs with
  | nil=>simp only[Xe,AJ]
  | cons x vs ih=>simp only[Xc,AJ];exact⟨x,vs,rfl,by simp only[Aq,AA],ih⟩
 have hlen:(vs.map λx=>PV.t (.v x)).length=vs.length:=Yg _;rw[<-hlen]at hfit
 obtain⟨k',rfl⟩:∃k',k=k'+1:=⟨k-1,by omega⟩
 have hrun:(execOp a.eval o).run P w = .ok (.value (.tuple #[])) (w.setRow (L.μ b) (arr.toList.take off++vs++arr.toList.drop (off+vs.length)).toArray):=by
  have e1:(Builtin.zeroCells z.cells (k'+1)).toList=vs:=by rw[hvs,GR]
  simp[execOp,ho,resolve,invoke,builtin,Builtin.clear_,run_underlying hu,hv,hzv,e1,hstore]
 unfold Oper.wp;rw[hrun,Oper.upon_value]
 have hw:=HO (w':=w.setRow (L.μ b) (arr.toList.take off++vs++arr.toList.drop (off+vs.length)).toArray) (r:=.cells ty (Cj cs off (vs.map λx=>.t (.v x)))) hi.heap ⟨rfl,rfl,rfl⟩ hl (by simp)
  (λg hg=>setRow_other w _ g _ hg) (ME harr (by simp;omega))
  (λhm=>⟨_,setRow_heap w _ arr _ ty _ harr,by rw[KM hfit];simp;omega,λj c hj=>by
   obtain⟨z,hz,h1z,hr⟩:=MD hle hfit hcs hrep h1 j c hj
   exact⟨z,hz,h1z,Aq.keep hm c hr⟩⟩)
 exact⟨.tuple #[],L,rfl,by simp[Aq,AA,AX],hw.1,hi.nx,hw.2.1,hw.2.2⟩
theorem fV {n:Nat} {zc:List Value} {H:Ak} {nx:Nat} {p0:PV} {q:PV×Ak×Nat} (h:hxM (.clr n zc) H nx [p0]=some q) :
  ∃b off k ty cs,p0 = .row b off k n/\Aj H b=some (.cells ty cs)/\0<k/\off+(GR zc k).length<=cs.length/\(.t (.tu []),upd H b (.cells ty (Cj cs off ((GR zc k).map λx=>.t (.v x)))),nx)=q:=by
 cases p0<;>first | (simp[hxM]at h;done) | skip
 rename_i b off k z;simp only[hxM]at h;split at h
 .rename_i ty cs hl;split at h
  .rename_i hc;obtain⟨rfl,h1,h2⟩:=hc;injection h with h;exact⟨b,off,k,ty,cs,rfl,hl,h1,h2,h⟩
  .cases h
 .cases h
theorem fW {kk:KK} {z:Value} {ok:Bool} {H:Ak} {nx:Nat} {p0 p:PV} {q:PV×Ak×Nat} (h:hxM (.mget kk z ok) H nx [p0,p]=some q) :
  ∃b es k,p0 = .mp b/\Aj H b=some (.map kk es)/\El kk p=some k/\(.t (HP ok z (E0 es k)),H,nx)=q:=by
 cases p0<;>first | (simp[hxM]at h;done) | skip
 rename_i b;simp only[hxM]at h;split at h
 .rename_i kk' es x h1 h2;split at h
  .rename_i e;subst e;injection h with h;exact⟨b,es,x,rfl,h1,h2,h⟩
  .cases h
 .cases h
theorem fX {kk:KK} {H:Ak} {nx:Nat} {p0 p p1:PV} {q:PV×Ak×Nat} (h:hxM (.mset kk) H nx [p0,p,p1]=some q) :
  ∃b es k v,p0 = .mp b/\Aj H b=some (.map kk es)/\El kk p=some k/\p1 = .t (.v v)/\(.t (.v undef),upd H b (.map kk (Cq es k v)),nx)=q:=by
 cases p0<;>first | (simp[hxM]at h;done) | skip
 rename_i b
 rcases p1 with x | _ | _ | _ | _ | _ | _ | _ | _<;>first | (simp[hxM]at h;done) | skip
 cases x<;>first | (simp[hxM]at h;done) | skip
 rename_i v;simp only[hxM]at h;split at h
 .rename_i kk' es x h1 h2;split at h
  .rename_i e;subst e;injection h with h;exact⟨b,es,x,v,rfl,h1,h2,rfl,h⟩
  .cases h
 .cases h
theorem fY {t kt et:TypeId} {x:Operand} {b:Nat} {kk:KK} {es:List (Key×Value)} (ho:o.op = .call ⟨.builtin .len,#[x],#[t]⟩) (hu:P.underlying t=some (.map kt et)) (hx:s.ev G x = .mp b) (hl:Aj s.H b=some (.map kk es)) :
  AOp P G B o s (.t (.v (.int .i64 (es.length:Int)))) s.H s.nx:=by
 refine Fm λL a w hi=>?_;have ex:=hi.ev x;rw[hx]at ex;simp only[Aq]at ex;obtain⟨hb,ex⟩:=ex;obtain⟨arr,clock,hh,h1,_⟩:=hi.heap.rep b _ hl
 have hs:arr.size=es.length:=by
  have:=congrArg List.length h1;simpa using this
 refine⟨.int .i64 (es.length:Int),?_,by simp only[Aq,AA]⟩;simp[execOp,ho,resolve,invoke,builtin,ex,Builtin.len_,run_underlying hu,MapKept.run_getObj_map hh,goInt,hs]
theorem fZ {src dst e:TypeId} {x:Operand} {st:ByteArray} (ho:o.op = .convert src dst x) (hs:P.underlying src=some .string) (hd:P.underlying dst=some (.slice e)) (he:P.underlying e=some (.int .u8)) (hx:s.ev G x = .t (.v (.string st))) :
  AOp P G B o s (.t (.sl st.size (HQ st))) s.H s.nx:=λL a w hi=>by
 have ex:=hi.ev x;rw[hx]at ex;simp only[Aq,AA]at ex;have hrun:=run_bytes_of_string (P:=P) w src dst e st hs hd he;generalize hcap:grownCap w st.size 0 e=cap at hrun
 have hge:st.size<=cap:=by rw[<-hcap];exact grownCap_ge w _ _ _
 generalize hw':w.drew.alloc (.cells (bytesRow st cap) e ((bytesRow st cap).size,(bytesRow st cap).size+1))=w' at hrun
 have hheap:w'.heap=w.heap.push (.cells (bytesRow st cap) e ((bytesRow st cap).size,(bytesRow st cap).size+1)):=by rw[<-hw'];rfl
 have hout:BR w w':=by rw[<-hw'];exact⟨rfl,rfl,rfl⟩
 have hm:=Jy (P:=P) (G:=G) (H:=s.H) hi.heap hheap;unfold Oper.wp
 have hrun':(execOp a.eval o).run P w = .ok (.value (.slice (some ⟨w.heap.size,0,none⟩) st.size cap)) w':=by
  simp only[execOp,ho,ex,Sem.run_bind,hrun,Xl];rfl
 rw[hrun',Oper.upon_value]
 have hold:∀g,g<w.heap.size->w'.heap[g]?=w.heap[g]?:=λg hg=>by rw[hheap,Array.getElem?_push,zw (by omega)]
 let L':Loc:=⟨λg=>L.I g\/g=w.heap.size,L.μ,L.nx⟩
 have hm':Bh L w L' w':=⟨λb hb=>⟨.inl hb,hold b (hi.heap.lt b hb)⟩,Xh _,λ_ _=>rfl,hm.size,hm.shape⟩
 refine⟨_,L',rfl,?_,?_,hi.nx,hm',?_⟩
 .simp only[Aq,AA];refine⟨_,cap,rfl,hge,.inr ⟨rfl,.inr rfl,Bs.mk λk t hk=>?_⟩⟩;unfold HQ at hk;rw[Xn]at hk;obtain⟨c,hc,rfl⟩:=Xf.1 hk;refine⟨.int .u8 (c.toNat:Int),?_,rfl,by simp only[AA]⟩
  have hn:w'.heap[w.heap.size]?=some (.cells (bytesRow st cap) e ((bytesRow st cap).size,(bytesRow st cap).size+1)):=by rw[hheap];simp
  have hc':st.data[k]?=some c:=by simpa using hc
  have:(bytesRow st cap)[k]?=some (.int .u8 (c.toNat:Int)):=by
   unfold bytesRow;rw[Yr (by simpa using (Xw.1 hc').1),Array.getElem?_map,hc'];rfl
  simp[World.cell?,hn,this]
 .refine⟨?_,λb r hb=>(hi.heap.rep b r hb).keep hm' (hold _ (hi.heap.rep b r hb).lt),λb r hb hI=>?_,hi.heap.inj,hi.heap.nx,DX hi.heap hm'.keeps⟩
  .rintro b (hb | rfl)
   .exact X6 (hi.heap.lt b hb) hm.size
   .rw[hheap];simp
  .rcases hI with hI | hI
   .exact hi.heap.apart b r hb hI
   .have:=(hi.heap.rep b r hb).lt;have e:L'.μ b=L.μ b:=rfl;omega
 .refine⟨hm.size,λg hg _=>hold g hg,λ_ h=>.inl h,λg hg=>?_,λg h=>.inr h,hm.shape,hout⟩;rcases hg with hg | rfl
  .exact .inl hg
  .exact .inr (.inl (Xh _))
theorem gA {t kt et:TypeId} {x:Operand} {b l:Nat} {arr:Array MapEntry} {c:Nat} (ho:o.op = .range t x) (hu:P.underlying t=some (.map kt et)) (hx:s.ev G x = .mp b) (hl:Aj s.H b=some (.blk (some l) (.map arr c))) :
  AOp P G B o s (.ptr s.nx 0) ((s.nx,.blk none (.mapIter (some l) c #[] c))::s.H) (s.nx+1):=by
 refine IA λL a w hi=>?_;have ex:=hi.ev x;rw[hx]at ex;simp only[Aq]at ex;obtain⟨hb,ex⟩:=ex;obtain⟨h1,h2⟩:=hi.heap.rep b _ hl;have h1:=h1 l rfl;rw[h1]at h2 ex;refine⟨.pointer (some ⟨w.heap.size,0,none⟩),w.alloc (.mapIter (some l) c #[] c),.mapIter (some l) c #[] c,by simp[execOp,ho,ex,run_range_map w t kt et l arr c hu h2],⟨rfl,rfl,rfl⟩,rfl,λhm=>⟨⟨(λ_ h=>by cases h),(MapKept.heap_alloc w _).1⟩,?_⟩⟩;simp only[Aq];exact⟨by simp[Loc.grow,hi.nx],by simp[Loc.grow,hi.nx]⟩
theorem gB {t t' e:TypeId} {x y:Operand} {b off k n by' ty m:Nat} {zc:List Value} {cs ps:List PV} (ho:o.op = .call ⟨.builtin .copy,#[x,y],#[t,t']⟩) (he:Ey P t=some (e,n,by',zc)) (hx:s.ev G x = .row b off k n)
  (hl:Aj s.H b=some (.cells ty cs)) (hs:CM s.H n (s.ev G y)=some (m,ps)) (hpos:0<Xp m k) (hfit:off+k*n<=cs.length) (hpl:ps.length=m*n) :
  AOp P G B o s (.t (.v (.int .i64 (Xp m k:Nat)))) (upd s.H b (.cells ty (Cj cs off (ps.take (Xp m k*n))))) s.nx:=λL a w hi=>by
 obtain⟨i,z,hu,hi',hz,rfl,rfl,rfl,hzl,hposz,hone⟩:=KN he;have hv:=hi.ev x;rw[hx]at hv;simp only[Aq]at hv;obtain⟨hb,hm,c,hv,hc,hfit2⟩:=hv;obtain⟨arr,harr,hle,hcs⟩:=hi.heap.rep b _ hl;obtain⟨A,sc,xs,hyv,hxl,hxr,hx1,hnone,hcell⟩:=RX hi.heap hs (hi.ev y)
 obtain⟨d,hd⟩:∃d,d=Xp m k:=⟨_,rfl⟩
 have hdk:d<=k:=by rw[hd];exact Nat.min_le_right _ _
 have hdm:d<=m:=by rw[hd];exact Nat.min_le_left _ _
 rw[<-hd]at hpos ⊢
 obtain⟨ad,rfl⟩:∃ad,A=some ad:=by
  cases A with
  | none=>have:=hnone rfl;omega
  | some ad=>exact⟨ad,rfl⟩
 have hcell:=hcell ad rfl
 obtain⟨vs,hvs⟩:∃vs,vs=xs.take (d*i.size):=⟨_,rfl⟩
 have hdi:d*i.size<=m*i.size:=Za _ hdm;have hdk':d*i.size<=k*i.size:=Za _ hdk
 have hvl:vs.length=d*i.size:=by rw[hvs,Zb,hxl];omega
 have h1:∀x∈vs,x.oneCell'=true:=λx hx=>hx1 x (by rw[hvs]at hx;exact Y0 hx)
 have hload:=run_loadCells_list (P:=P) w ad vs (λj v hj=>by
  rw[hvs,Yo]at hj;split at hj
  .exact hcell j v hj
  .cases hj)
 have hstore:=run_storeCells_at P (L.μ b) off ty vs 0 arr w harr (by omega) h1;simp only[X5]at hstore
 have hrep:AJ P L w (ps.take (d*i.size)) vs:=by
  rw[hvs]
  have:∀(r:Nat) (ps:List PV) (xs:List Value),AJ P L w ps xs->AJ P L w (ps.take r) (xs.take r):=by
   intro r
   induction r with
   | zero=>intro ps xs _;simp only[List.take_zero,AJ]
   | succ r ih=>
    intro ps xs h
    cases ps with
    | nil=>simp only[AJ]at h;subst h;simp only[List.take_nil,AJ]
    | cons p ps=>
     simp only[AJ]at h;obtain⟨x,xs',rfl,h1,h2⟩:=h;simp only[Yz,AJ];exact⟨x,_,rfl,h1,ih ps xs' h2⟩
  exact this _ _ _ hxr
 have hpt:(ps.take (d*i.size)).length=vs.length:=by rw[Zb,hpl,hvl];omega
 have hfit':off+(ps.take (d*i.size)).length<=cs.length:=by rw[hpt,hvl];omega
 have hrun:(execOp a.eval o).run P w = .ok (.value (.int .i64 (d:Nat))) (w.setRow (L.μ b) (arr.toList.take off++vs++arr.toList.drop (off+vs.length)).toArray):=by
  simp[execOp,ho,resolve,invoke,builtin,Builtin.copy_,run_underlying hu,hv,hyv,Builtin.lenOf,Builtin.firstCells,sizeOf,typeInfo,hi',<-hd,<-hvl,hload,hstore,goInt]
 unfold Oper.wp;rw[hrun,Oper.upon_value]
 have hw:=HO (w':=w.setRow (L.μ b) (arr.toList.take off++vs++arr.toList.drop (off+vs.length)).toArray) (r:=.cells ty (Cj cs off (ps.take (d*i.size)))) hi.heap ⟨rfl,rfl,rfl⟩ hl (by simp)
  (λg hg=>setRow_other w _ g _ hg) (ME harr (by simp;omega))
  (λhm=>⟨_,setRow_heap w _ arr _ ty _ harr,by rw[KM hfit'];simp;omega,λj c hj=>by
   obtain⟨z,hz,h1z,hr⟩:=MD hle hfit' hcs hrep h1 j c hj
   exact⟨z,hz,h1z,Aq.keep hm c hr⟩⟩)
 exact⟨_,L,rfl,by simp[Aq,AA],hw.1,hi.nx,hw.2.1,hw.2.2⟩
theorem gC {t e:TypeId} {x i:Operand} {b len z:Nat} {agg:Bool} {k:IntKind} {j:Int} {ty:TypeId} {cs:List PV} (ho:o.op = .slice t x (some i) none none) (ha:P.underlying t=some (.array len e)) (hsh:Ej P e=some (agg,z))
  (hx:s.ev G x = .ptr b 0) (hj:s.ev G i = .t (.v (.int k j))) (hl:Aj s.H b=some (.cells ty cs)) (hcl:cs.length=len*z) (h0:0<=j) (h1:j<(len:Int)):AOp P G B o s (.row b (j.toNat*z) (len-j.toNat) z) s.H s.nx:=by
 refine Fm λL a w hi=>?_;have ex:=hi.ev x;rw[hx]at ex;simp only[Aq]at ex;obtain⟨hb,ex⟩:=ex;have ei:=hi.ev i;rw[hj]at ei;simp only[Aq,AA]at ei;obtain⟨arr,harr,hle,hcs⟩:=hi.heap.rep b _ hl
 obtain⟨n,hn⟩:∃n:Nat,j=(n:Int):=⟨j.toNat,by omega⟩
 subst hn
 have hnl:n<len:=by omega
 have hsz:=(FN hsh w).2;refine⟨.slice (some ⟨L.μ b,n*z,none⟩) (len-n) (len-n),?_,?_⟩
 .have hne:¬(len=n):=by omega
  have hadd:(⟨L.μ b,0,none⟩:Addr).add (n*z)=⟨L.μ b,n*z,none⟩:=by rw[Pb,Nat.zero_add]
  simp[execOp,ho,ex,ei,Instr.sliceAt,run_underlying ha,Instr.sliceBounds,Instr.sliceBound,asIntOf,Instr.sureAddr,asAddr,hsz,hne,hadd,Nat.le_of_lt hnl]
 .simp only[Aq,Int.toNat_natCast];refine⟨hb,(Xw.1 harr).1,len-n,rfl,Xh _,λarr' ty' fz' he=>?_⟩;rw[harr]at he;injection he with he;injection he with he _;subst he
  have e1:n*z+(len-n)*z=len*z:=by rw[<-Nat.add_mul];congr 1;omega
  omega
theorem gD {n:Nat} {H:Ak} {nx:Nat} {p0 p1:PV} {q:PV×Ak×Nat} (h:hxM (.cpy n) H nx [p0,p1]=some q) :
  ∃b o k ty cs m ps,p0 = .row b o k n/\Aj H b=some (.cells ty cs)/\CM H n p1=some (m,ps)/\0<Xp m k/\o+k*n<=cs.length/\ps.length=m*n/\(.t (.v (.int .i64 (Xp m k:Nat))),upd H b (.cells ty (Cj cs o (ps.take (Xp m k*n)))),nx)=q:=by
 cases p0<;>first | (simp[hxM]at h;done) | skip
 rename_i b o k z;simp only[hxM]at h;split at h
 .rename_i ty cs m ps hl hs;split at h
  .rename_i hc;obtain⟨rfl,h1,h2,h3⟩:=hc;injection h with h;exact⟨b,o,k,ty,cs,m,ps,rfl,hl,hs,h1,h2,h3,h⟩
  .cases h
 .cases h
theorem gE {len z:Nat} {H:Ak} {nx:Nat} {p0 p1:PV} {q:PV×Ak×Nat} (h:hxM (.slarr len z) H nx [p0,p1]=some q) :
  ∃b k i ty cs,p0 = .ptr b 0/\p1 = .t (.v (.int k i))/\Aj H b=some (.cells ty cs)/\cs.length=len*z/\0<=i/\i<(len:Int)/\(.row b (i.toNat*z) (len-i.toNat) z,H,nx)=q:=by
 cases p0<;>first | (simp[hxM]at h;done) | skip
 rename_i b o'
 rcases p1 with x | _ | _ | _ | _ | _ | _ | _ | _<;>first | (simp[hxM]at h;done) | skip
 cases x<;>first | (simp[hxM]at h;done) | skip
 rename_i v
 cases v<;>first | (simp[hxM]at h;done) | skip
 rename_i k i
 cases o'<;>first | (simp[hxM]at h;done) | skip
 simp only[hxM]at h;split at h
 .rename_i ty cs hl;split at h
  .rename_i hc;injection h with h;exact⟨b,k,i,ty,cs,rfl,rfl,hl,hc.1,hc.2.1,hc.2.2,h⟩
  .cases h
 .cases h
theorem gF {H:Ak} {nx:Nat} {p:PV} {q:PV×Ak×Nat} (h:hxM .b2s H nx [p]=some q):∃cs l,hxM.toTS H p=some cs/\Gs cs=some l/\(.t (.v (.string ⟨l.toArray⟩)),H,nx)=q:=by
 simp only[hxM]at h;split at h
 .rename_i cs hcs;obtain⟨l,hl,e⟩:=Xf.1 h;exact⟨cs,l,hcs,hl,e⟩
 .cases h
theorem gG {H:Ak} {nx:Nat} {p0:PV} {q:PV×Ak×Nat} (h:hxM .mlen H nx [p0]=some q):∃b kk es,p0 = .mp b/\Aj H b=some (.map kk es)/\(.t (.v (.int .i64 (es.length:Int))),H,nx)=q:=by
 cases p0<;>first | (simp[hxM]at h;done) | skip
 rename_i b;simp only[hxM]at h;split at h
 .rename_i kk es hl;injection h with h;exact⟨b,kk,es,rfl,hl,h⟩
 .cases h
theorem gI {H:Ak} {nx:Nat} {p0:PV} {q:PV×Ak×Nat} (h:hxM .s2b H nx [p0]=some q):∃st,p0 = .t (.v (.string st))/\(.t (.sl st.size (HQ st)),H,nx)=q:=by
 rcases p0 with x | _ | _ | _ | _ | _ | _ | _ | _<;>first | (simp[hxM]at h;done) | skip
 cases x<;>first | (simp[hxM]at h;done) | skip
 rename_i v
 cases v<;>first | (simp[hxM]at h;done) | skip
 rename_i st;simp only[hxM]at h;injection h with h;exact⟨st,rfl,h⟩
theorem gJ {H:Ak} {nx:Nat} {p0:PV} {q:PV×Ak×Nat} (h:hxM .mrange H nx [p0]=some q):∃b l arr c,p0 = .mp b/\Aj H b=some (.blk (some l) (.map arr c))/\(.ptr nx 0,(nx,.blk none (.mapIter (some l) c #[] c))::H,nx+1)=q:=by
 cases p0<;>first | (simp[hxM]at h;done) | skip
 rename_i b;simp only[hxM]at h;split at h
 .rename_i l arr c hl;injection h with h;exact⟨b,l,arr,c,rfl,hl,h⟩
 .cases h
theorem gK {k:MK} {xs:List Opd} (hc:J8 P G o.op=some (k,xs)) {r:PV} {H':Ak} {nx':Nat}
  (he:match k with
   | .ex e=>∃p,exM e (xs.map (·.ev s.env))=some p/\(r,H',nx')=(p,s.H,s.nx)
   | .hx h=>hxM h s.H s.nx (xs.map (·.ev s.env))=some (r,H',nx')
   | _=>False):AOp P G B o s r H' nx':=by
 have ev1:=λx=>IC G s x;unfold J8 at hc;split at hc
 .rename_i t x y yt ho;obtain⟨ks,hk,e⟩:=Xf.1 hc;injection e with e1 e2;subst e1;subst e2;simp only[Xc,Xe,ev1]at he;obtain⟨p,hp,e⟩:=he;injection e with e1 e2;injection e2 with e2 e3;subst e1;subst e2;subst e3;exact SA (neg:=false) (by simpa using ho) hk hp
 .rename_i t x y yt ho;obtain⟨ks,hk,e⟩:=Xf.1 hc;injection e with e1 e2;subst e1;subst e2;simp only[Xc,Xe,ev1]at he;obtain⟨p,hp,e⟩:=he;injection e with e1 e2;injection e2 with e2 e3;subst e1;subst e2;subst e3;exact SA (neg:=true) (by simpa using ho) hk hp
 .rename_i t x ho;split at hc
  .rename_i hu;injection hc with hc;injection hc with e1 e2;subst e1;subst e2;simp only[Xc,Xe,ev1]at he;generalize hp:s.ev G x=p at he;unfold hxM at he;split at he
   all_goals (first | (rename_i e _;cases e;done) | (rename_i e;cases e;done) | skip)
   .rename_i st e1 e2;injection e2 with e2 e3;injection he with he;injection he with h1 h2;injection h2 with h2 h3;subst h1;subst h2;subst h3;exact eU ho hu (hp.trans e2)
   .cases he
  .rename_i kt et hu;injection hc with hc;injection hc with e1 e2;subst e1;subst e2;simp only[Xc,Xe,ev1]at he;obtain⟨b,l,arr,c,e1,e2,e4⟩:=gJ he;injection e4 with h1 h2;injection h2 with h2 h3;subst h1;subst h2;subst h3;exact gA ho hu e1 e2
  .cases hc
 .rename_i x ho;injection hc with hc;injection hc with e1 e2;subst e1;subst e2;simp only[Xc,Xe,ev1]at he;generalize hp:s.ev G x=p at he;unfold hxM at he;split at he
  all_goals (first | (rename_i e _;cases e;done) | (rename_i e;cases e;done) | skip)
  .rename_i b e1 e2;injection e2 with e2 e3;split at he
   .rename_i st pos hl;split at he
    .rename_i hlt;injection he with he;injection he with h1 h2;injection h2 with h2 h3;subst h1;subst h2;subst h3;exact eW ho (hp.trans e2) hl hlt
    .rename_i hlt;injection he with he;injection he with h1 h2;injection h2 with h2 h3;subst h1;subst h2;subst h3;exact eZ ho (hp.trans e2) hl hlt
   .cases he
  .cases he
 .injection hc with hc;injection hc with e1 e2;subst e1;subst e2;simp[hxM]at he
 .injection hc with hc;injection hc with e1 e2;subst e1;subst e2;simp[hxM]at he
 .rename_i src dst x ho;split at hc
  .rename_i e hs hd;split at hc
   .rename_i he';injection hc with hc;injection hc with e1 e2;subst e1;subst e2;simp only[Xc,Xe,ev1]at he;obtain⟨cs,l,hcs,hl,e4⟩:=gF he;injection e4 with h1 h2;injection h2 with h2 h3;subst h1;subst h2;subst h3;exact fB ho hs hd he' hcs hl
   .cases hc
  .rename_i e hs hd;split at hc
   .rename_i he';injection hc with hc;injection hc with e1 e2;subst e1;subst e2;simp only[Xc,Xe,ev1]at he;obtain⟨st,e1,e4⟩:=gI he;injection e4 with h1 h2;injection h2 with h2 h3;subst h1;subst h2;subst h3;exact fZ ho hs hd he' e1
   .cases hc
  .cases hc
 .rename_i t x ho;split at hc
  .cases hc
  .rename_i d hne hu;injection hc with hc;injection hc with e1 e2;subst e1;subst e2;simp only[Xc,Xe,ev1]at he;obtain⟨p,hp,e⟩:=he;injection e with e1 e2;injection e2 with e2 e3;subst e1;subst e2;subst e3;exact fC ho hu hne hp
  .cases hc
 .rename_i f first cap ho
  injection hc with hc;injection hc with e1 e2;subst e1;subst e2;obtain⟨p,hp,e⟩:=he;injection e with e1 e2;injection e2 with e2 e3;subst e1;subst e2;subst e3;exact fF ho hp
 .injection hc with hc;injection hc with e1 e2;subst e1;subst e2;simp only[Xc,Xe]at he;unfold hxM at he;split at he
  all_goals (first | (rename_i e _;cases e;done) | (rename_i e;cases e;done) | (cases he;done) | skip)
 .rename_i x t ho;obtain⟨⟨e,n,by',zc⟩,hk,e0⟩:=Xf.1 hc;injection e0 with e1 e2;subst e1;subst e2;simp only[Xc,Xe,ev1]at he;obtain⟨b,off,k,ty,cs,e1,e2,e3,e5,e4⟩:=fV he;injection e4 with h1 h2;injection h2 with h2 h3;subst h1;subst h2;subst h3;exact fU ho hk e1 e2 e3 e5
 .rename_i x t ho;split at hc
  .rename_i kt et hu;injection hc with hc;injection hc with e1 e2;subst e1;subst e2;simp only[Xc,Xe,ev1]at he;obtain⟨b,kk,es,e1,e2,e4⟩:=gG he;injection e4 with h1 h2;injection h2 with h2 h3;subst h1;subst h2;subst h3;exact fY ho hu e1 e2
  .cases hc
 .rename_i x y t t' ho;obtain⟨⟨e,n,by',zc⟩,hk,e0⟩:=Xf.1 hc;injection e0 with e1 e2;subst e1;subst e2;simp only[Xc,Xe,ev1]at he;obtain⟨b,o',k,ty,cs,m,ps,e1,e2,e3,e4,e5,e6,e7⟩:=gD he;injection e7 with h1 h2;injection h2 with h2 h3;subst h1;subst h2;subst h3;exact gB ho hk e1 e2 e3 e4 e5 e6
 .rename_i t x i ho;split at hc
  .rename_i len el ha;obtain⟨⟨agg,z⟩,hs,e0⟩:=Xf.1 hc;injection e0 with e1 e2;subst e1;subst e2;simp only[Xc,Xe,ev1]at he;obtain⟨b,k,j,ty,cs,e1,e2,e3,e4,e5,e6,e7⟩:=gE he;injection e7 with h1 h2;injection h2 with h2 h3;subst h1;subst h2;subst h3;exact gC ho ha hs e1 e2 e3 e4 e5 e6
  .cases hc
 .rename_i t ho;obtain⟨kk,hk,e⟩:=Xf.1 hc;injection e with e1 e2;subst e1;subst e2;injection he with he;injection he with h1 h2;injection h2 with h2 h3;subst h1;subst h2;subst h3;exact fR ho
 .rename_i t x y ok ho;obtain⟨⟨kk,z⟩,hk,e⟩:=Xf.1 hc;injection e with e1 e2;subst e1;subst e2;simp only[Xc,Xe,ev1]at he;obtain⟨b,es,q,e1,e2,e3,e4⟩:=fW he;injection e4 with h1 h2;injection h2 with h2 h3;subst h1;subst h2;subst h3;exact fS ho hk e1 e2 e3
 .rename_i t x y z ho;obtain⟨kk,hk,e⟩:=Xf.1 hc;injection e with e1 e2;subst e1;subst e2;simp only[Xc,Xe,ev1]at he;obtain⟨b,es,q,v,e1,e2,e3,e5,e4⟩:=fX he;injection e4 with h1 h2;injection h2 with h2 h3;subst h1;subst h2;subst h3;exact fT ho hk e1 e2 e3 e5
 .rename_i t x i ho;split at hc
  .rename_i len el hu;obtain⟨⟨agg,n⟩,hs,e⟩:=Xf.1 hc;injection e with e1 e2;subst e1;subst e2;simp only[Xc,Xe,ev1]at he;obtain⟨p,hp,e⟩:=he;injection e with e1 e2;injection e2 with e2 e3;subst e1;subst e2;subst e3;exact eK ho hu hs hp
  .cases hc
 .cases hc
end
def AD (agg:Bool) (n:Nat) (H:Ak) (p:PV):Option PV:=
 match p with
 | .t (.pt cs)=>if agg then(if n<=cs.length then some (.t (.ag (cs.take n)))else none)else(cs.head?).map .t
 | .ptr b o=>match Aj H b with
  | some (.cells _ cs)=>if agg then(if o+n<=cs.length then some (BI ((cs.drop o).take n))else none)else cs[o]?
  | _=>none
 | _=>none
theorem SW {P:Program} {t:TypeId} {agg:Bool} {n:Nat} (h:Ej P t=some (agg,n)) (H:Ak) (p:PV):I6 P H t p=AD agg n H p:=by
 unfold I6 AD;rw[h]
 cases agg<;>cases p<;>try rfl
 all_goals (rename_i x;cases x<;>rfl)
def BN (z:Nat) (x i:PV):Option PV:=
 match i with
 | .t (.v (.int _ i))=>match x with
  | .t (.sl n cs)=>if 0<=i/\i<n then some (.t (.pt (cs.drop (i.toNat*z))))else none
  | .row b o n _=>if 0<=i/\i<n then some (.ptr b (o+i.toNat*z))else none
  | _=>none
 | _=>none
def Gt (n z:Nat) (x i:PV):Option PV:=
 match i with
 | .t (.v (.int _ i))=>match x with
  | .t (.pt cs)=>if 0<=i/\i<n then some (.t (.pt (cs.drop (i.toNat*z))))else none
  | .ptr b o=>if 0<=i/\i<n then some (.ptr b (o+i.toNat*z))else none
  | _=>none
 | _=>none
theorem gN {P:Program} {t e:TypeId} {z:Nat} (h:EY P t=some (e,z)) {x i r:PV} (hr:BN z x i=some r):GN P t x i=some r:=by
 unfold BN at hr;split at hr
 .split at hr
  .simp only[GN,h];exact hr
  .simp only[GN,h];exact hr
  .cases hr
 .cases hr
theorem gP {P:Program} {t:TypeId} {n z:Nat} (h:Ju P t=some (n,z)) {x i r:PV} (hr:Gt n z x i=some r):GN P t x i=some r:=by
 unfold Gt at hr;split at hr
 .split at hr
  .simp only[GN,h];exact hr
  .simp only[GN,h];exact hr
  .cases hr
 .cases hr
@[simp] def MS (off:Nat) (x:PV):Option PV:=
 match x with
 | .t (.pt cs)=>some (.t (.pt (cs.drop off)))
 | .ptr b o=>some (.ptr b (o+off))
 | _=>none
theorem gQ {P:Program} {t:TypeId} {f off n:Nat} {b:Bool} (h:FO P t f=some (off,b,n)) (x:PV):KH P t x f=MS off x:=by
 unfold KH MS;rw[h]
 cases x<;>try rfl
 rename_i x;cases x<;>rfl
def MT (off:Nat) (agg:Bool) (n:Nat) (x:PV):Option PV:=
 match x with
 | .t (.ag cs)=>if agg then(if off+n<=cs.length then some (.t (.ag ((cs.drop off).take n)))else none)else(cs[off]?).map .t
 | .ag cs=>if agg then(if off+n<=cs.length then some (BI ((cs.drop off).take n))else none)else cs[off]?
 | _=>none
theorem gS {P:Program} {t:TypeId} {f off n:Nat} {b:Bool} (h:FO P t f=some (off,b,n)) (x:PV):KI P t x f=MT off b n x:=by
 unfold KI MT;rw[h]
 cases b<;>cases x<;>try rfl
 all_goals (rename_i x;cases x<;>rfl)
def HR (x i:PV):Option PV:=
 match x,i with
 | .t (.v (.string s)),.t (.v (.int _ i))=>if 0<=i then(s[i.toNat]?).map λb=>.t (.v (.int .u8 b.toNat))else none
 | _,_=>none
theorem gT {P:Program} {t:TypeId} (h:P.underlying t=some .string) {x i r:PV} (hr:HR x i=some r):KJ P t x i=some r:=by
 unfold HR at hr;split at hr
 .simp only[KJ,h];exact hr
 .cases hr
def ED (x:PV) (lo hi:Option PV):Option PV:=
 match x with
 | .t (.v (.string s))=>match Cu lo 0,Cu hi s.size with
  | some l,some h=>if l<=h/\h<=s.size then some (.t (.v (.string (s.extract l h))))else none
  | _,_=>none
 | _=>none
theorem gU {P:Program} {t:TypeId} (h:P.underlying t=some .string) {x r:PV} {lo hi:Option PV} (hr:ED x lo hi=some r):GO P t x lo hi=some r:=by
 unfold ED at hr;split at hr
 .simp only[GO,h];exact hr
 .cases hr
def EE (z:Nat) (x:PV) (lo hi:Option PV):Option PV:=
 match x with
 | .t (.v (.slice none n c))=>match Cu lo 0,Cu hi n with
  | some l,some h=>if l=0/\h=0/\n=0/\c=0 then some (.t (.v (.slice none 0 0)))else none
  | _,_=>none
 | .t (.sl n cs)=>match Cu lo 0,Cu hi n with
  | some l,some h=>if l<=h/\h<=n then some (.t (.sl (h-l) ((cs.drop (l*z)).take ((h-l)*z))))else none
  | _,_=>none
 | .row b o n z'=>match Cu lo 0,Cu hi n with
  | some l,some h=>if z≠z' then none else if l<h/\h<=n then some (.row b (o+l*z') (h-l) z')else if l=0/\h=0 then some (.row b o 0 z')else if l=h/\h<=n then some (.t (.sl 0 []))else none
  | _,_=>none
 | _=>none
theorem gV {P:Program} {t e:TypeId} {z:Nat} (h:EY P t=some (e,z)) {x r:PV} {lo hi:Option PV} (hr:EE z x lo hi=some r):GO P t x lo hi=some r:=by
 have hu:P.underlying t=some (.slice e):=by
  unfold EY at h;split at h
  .rename_i e' hu
   cases hi:P.info? e' with
   | none=>rw[hi]at h;cases h
   | some i=>rw[hi]at h;injection h with h;injection h with h1 h2;subst h1;exact hu
  .cases h
 unfold EE at hr;split at hr
 .split at hr
  .rename_i el eh;simp only[GO,hu,h,el,eh];exact hr
  .cases hr
 .split at hr
  .rename_i el eh;simp only[GO,hu,h,el,eh];exact hr
  .cases hr
 .split at hr
  .rename_i el eh;simp only[GO,hu,h,el,eh];exact hr
  .cases hr
 .cases hr
@[simp] def Pj:PV->Option PV
 | .t (.v (.string s))=>some (.t (.v (.int .i64 s.size)))
 | _=>none
def CV:PV->Option PV
 | .t (.v (.slice _ n _))=>some (.t (.v (.int .i64 n)))
 | .t (.sl n _)=>some (.t (.v (.int .i64 n)))
 | .row _ _ n _=>some (.t (.v (.int .i64 n)))
 | _=>none
@[simp] def MU (k:Option IntKind):PV->Option PV
 | .t (.v (.int _ n))=>match k with
  | some k=>some (.t (.v (.int k (k.wrap n))))
  | none=>none
 | .t (.v (.string s))=>match k with
  | none=>some (.t (.v (.string s)))
  | _=>none
 | _=>none
@[simp] def Pk:PV->Option PV
 | .ptr b o=>some (.ptr b o)
 | .t (.pt cs)=>some (.t (.pt cs))
 | .fn (.func f) first cap=>some (.fn (.func f) first cap)
 | .t (.v (.func (.func f) x y))=>some (.t (.v (.func (.func f) x y)))
 | _=>none
def AO (n:Nat) (H:Ak) (p x:PV):Option Ak:=
 match p with
 | .ptr b o=>match Bq x with
  | some ps=>match Aj H b with
   | some (.cells ty cs)=>if ps.length=n/\o+ps.length<=cs.length then some (upd H b (.cells ty (Cj cs o ps)))else none
   | _=>none
  | none=>none
 | _=>none
theorem gW {P:Program} {t:TypeId} {b:Bool} {n:Nat} (h:Ej P t=some (b,n)) {H H':Ak} {p x:PV} (hr:AO n H p x=some H'):J3 P H t p x=some H':=by
 unfold AO at hr;split at hr
 .split at hr
  .rename_i hps;simp only[J3,h,hps];exact hr
  .cases hr
 .cases hr
def IF (e n by':Nat) (zc:List Value) (l c:PV) (nx:Nat):Option (PV×Row):=
 match l,c with
 | .t (.v (.int _ l)),.t (.v (.int _ c))=>if 0<=l/\l<=c/\c<=9223372036854775807/\(by':Int)*c<=281474976710656 then some (.row nx 0 l.toNat n,.cells e (Gr zc l.toNat))else none
 | _,_=>none
theorem gX {P:Program} {t e n by':Nat} {zc:List Value} (h:Ey P t=some (e,n,by',zc)) {l c:PV} {nx:Nat} {q:PV×Row} (hr:IF e n by' zc l c nx=some q):J4 P t l c nx=some q:=by
 unfold IF at hr;split at hr
 .simp only[J4,h];exact hr
 .cases hr
def BB (e n:Nat) (zc:List Value) (len:Nat) (parts:List (Nat×PV)) (nx:Nat):Option (PV×Row):=
 if len*n<=16777216 then(Ek (λi=>some (i*n,n)) (Gr zc len) parts).map λcs=>(.row nx 0 len n,.cells e cs)else none
def Dp (e z by':Nat) (H:Ak) (nx:Nat) (d x:PV):Option (PV×Ak×Nat):=
 match CM H z x with
 | some (m,ps)=>match d with
  | .t (.v (.slice none n c))=>if n=0/\c=0 then
    (if m=0 then some (.t (.v (.slice none n c)),H,nx)else if m*by'<=140737488355328/\m<=9223372036854775807 then some (.row nx 0 m z,(nx,.cells e ps)::H,nx+1)else none)else none
  | .row b o n z'=>match Aj H b with
   | some (.cells ty cs)=>
    if z'=z/\o=0/\ty=e/\cs.length=n*z/\(n+m)*by'<=140737488355328/\n+m<=9223372036854775807 then some (.row nx 0 (n+m) z,(nx,.cells e (cs++ps))::rem H b,nx+1)else none
   | _=>none
  | _=>none
 | none=>none
theorem gY {P:Program} {t e z by':Nat} {zc:List Value} (h:Ey P t=some (e,z,by',zc)) {H:Ak} {nx:Nat} {d x:PV} {q:PV×Ak×Nat} (hr:Dp e z by' H nx d x=some q):J5 P H nx t d x=some q:=by
 unfold Dp at hr;split at hr
 .rename_i m ps hs;split at hr
  .simp only[J5,h,hs];exact hr
  .simp only[J5,h,hs];exact hr
  .cases hr
 .cases hr
def EZ (e n:Nat) (zc:List Value) (len:Nat) (parts:List (Nat×PV)):Option PV:=
 match BB e n zc len parts 0 with
 | some (_,.cells _ cs)=>match DW cs with
  | some ts=>if ts.length=len*n then some (.t (.sl len ts))else none
  | none=>none
 | _=>none
def A0 (Φ:AP) (H:Ak) (nx:Nat) (k:MK) (ps:List PV):Option (PV×Ak×Nat):=
 match k,ps with
 | .mv,[x]=>some (x,H,nx)
 | .pick,[c,a,b]=>match c with
  | .t (.v (.bool t))=>some (bif t then a else b,H,nx)
  | _=>none
 | .bin isB op nk,[x,y]=>match x,y with
  | .t (.v a),.t (.v b)=>match D6 isB op a b with
   | some v=>some (.t (.v v),H,nx)
   | none=>(IE op nk (.t (.v a))).map λr=>(r,H,nx)
  | x,_=>(IE op nk x).map λr=>(r,H,nx)
 | .un op,[x]=>match x with
  | .t (.v a)=>(unV op a).map λv=>(.t (.v v),H,nx)
  | _=>none
 | .conv k,[x]=>(MU k x).map λr=>(r,H,nx)
 | .load agg n,[p]=>(AD agg n H p).map λr=>(r,H,nx)
 | .faddr off,[x]=>(MS off x).map λr=>(r,H,nx)
 | .field off agg n,[x]=>(MT off agg n x).map λr=>(r,H,nx)
 | .iaddr z,[x,i]=>(BN z x i).map λr=>(r,H,nx)
 | .aaddr n z,[x,i]=>(Gt n z x i).map λr=>(r,H,nx)
 | .index,[x,i]=>(HR x i).map λr=>(r,H,nx)
 | .slstr false false,[x]=>(ED x none none).map λr=>(r,H,nx)
 | .slstr true false,[x,l]=>(ED x (some l) none).map λr=>(r,H,nx)
 | .slstr false true,[x,h]=>(ED x none (some h)).map λr=>(r,H,nx)
 | .slstr true true,[x,l,h]=>(ED x (some l) (some h)).map λr=>(r,H,nx)
 | .slice z false false,[x]=>(EE z x none none).map λr=>(r,H,nx)
 | .slice z true false,[x,l]=>(EE z x (some l) none).map λr=>(r,H,nx)
 | .slice z false true,[x,h]=>(EE z x none (some h)).map λr=>(r,H,nx)
 | .slice z true true,[x,l,h]=>(EE z x (some l) (some h)).map λr=>(r,H,nx)
 | .ext i,[x]=>(B5 x i).map λr=>(r,H,nx)
 | .chk,[x]=>(Pk x).map λr=>(r,H,nx)
 | .lenstr,[x]=>(Pj x).map λr=>(r,H,nx)
 | .lensl,[x]=>(CV x).map λr=>(r,H,nx)
 | .min,[x,y]=>(KL x y).map λr=>(r,H,nx)
 | .max,[x,y]=>(I9 x y).map λr=>(r,H,nx)
 | .store n,[p,x]=>(AO n H p x).map λH'=>(.t (.v undef),H',nx)
 | .make e n by' zc,[l,c]=>(IF e n by' zc l c nx).map λq=>(q.1,(nx,q.2)::H,nx+1)
 | .bslice e n zc len idx,ps=>(BB e n zc len (idx.zip ps) nx).map λq=>(q.1,(nx,q.2)::H,nx+1)
 | .build places zc idx,ps=>(Ek (λk=>places[k]?) (zc.map λx=>.t (.v x)) (idx.zip ps)).map λcs=>(BI cs,H,nx)
 | .barr n zc idx,ps=>(Ek (λk=>some (k*n,n)) (zc.map λx=>.t (.v x)) (idx.zip ps)).map λcs=>(BI cs,H,nx)
 | .box t,[x]=>(Bq x).map λps=>(.ptr nx 0,(nx,.cells t ps)::H,nx+1)
 | .alloc t zc,[]=>some (.ptr nx 0,(nx,.cells t (zc.map λx=>.t (.v x)))::H,nx+1)
 | .app e z by',[d,x]=>Dp e z by' H nx d x
 | .call f,ps=>match Bn H ps with
  | some (targs,F)=>match Φ f targs with
   | some r=>some (.t r,if F.isEmpty then H else if De r then H else Ez H F,nx)
   | none=>none
  | none=>none
 | .hcall f,ps=>Φ.h f ps H nx
 | .tslice e n zc len idx,ps=>(EZ e n zc len (idx.zip ps)).map λr=>(r,H,nx)
 | .callv,fv::ps=>ML Φ H nx fv ps
 | .ex e,ps=>(exM e ps).map λr=>(r,H,nx)
 | .hx h,ps=>hxM h H nx ps
 | _,_=>none
def KX (P:Program) (G:AM) (o:Op):Option (MK×List Opd):=
 match o with
 | .move x=>some (.mv,[AU G x])
 | .assign x=>some (.mv,[AU G x])
 | .pick c a b=>some (.pick,[AU G c,AU G a,AU G b])
 | .binOp op t x y _=>some (.bin (OU P t) op (ID P t y),[AU G x,AU G y])
 | .unOp op _ x=>some (.un op,[AU G x])
 | .convert src dst x=>match P.underlying src,P.underlying dst with
  | some _,some (.int k)=>some (.conv (some k),[AU G x])
  | some _,some .string=>some (.conv none,[AU G x])
  | _,_=>none
 | .load t a=>(Ej P t).map λq=>(.load q.1 q.2,[AU G a])
 | .fieldAddr t x f=>(FO P t f).map λq=>(.faddr q.1,[AU G x])
 | .field t x f=>(FO P t f).map λq=>(.field q.1 q.2.1 q.2.2,[AU G x])
 | .indexAddr t x i=>match EY P t with
  | some (_,z)=>some (.iaddr z,[AU G x,AU G i])
  | none=>(Ju P t).map λq=>(.aaddr q.1 q.2,[AU G x,AU G i])
 | .index t x i=>match P.underlying t with
  | some .string=>some (.index,[AU G x,AU G i])
  | _=>none
 | .slice t x lo hi none=>match P.underlying t with
  | some .string=>some (.slstr lo.isSome hi.isSome,AU G x::((lo.map (AU G)).toList++(hi.map (AU G)).toList))
  | _=>match EY P t with
   | some (_,z)=>some (.slice z lo.isSome hi.isSome,AU G x::((lo.map (AU G)).toList++(hi.map (AU G)).toList))
   | none=>none
 | .extract x i=>some (.ext i,[AU G x])
 | .nilCheck x=>some (.chk,[AU G x])
 | .store t a x=>(Ej P t).map λq=>(.store q.2,[AU G a,AU G x])
 | .makeSlice t l c=>(Ey P t).map λq=>(.make q.1 q.2.1 q.2.2.1 q.2.2.2,[AU G l,AU G c])
 | .buildSlice t len parts=>(Ey P t).map λq=>(.bslice q.1 q.2.1 q.2.2.2 len (parts.toList.map (·.1)),parts.toList.map λp=>AU G p.2)
 | .build t parts=>match P.underlying t,FP P t with
  | some (.array _ e),some zc=>(P.info? e).map λi=>(.barr i.size zc (parts.toList.map (·.1)),parts.toList.map λp=>AU G p.2)
  | some (.struct fields),some zc=>(fields.toList.mapM (λf=>(P.info? f.type).map λi=>(f.offset,i.size))).map λplaces=>(.build places zc (parts.toList.map (·.1)),parts.toList.map λp=>AU G p.2)
  | _,_=>none
 | .box t x=>some (.box t,[AU G x])
 | .alloc t=>(FP P t).map λzc=>(.alloc t zc,[])
 | .call ⟨.builtin .append,⟨[x,y]⟩,⟨[t,t']⟩⟩=>if t=t' then(Ey P t).map λq=>(.app q.1 q.2.1 q.2.2.1,[AU G x,AU G y])else none
 | .call ⟨.builtin .len,⟨[x]⟩,⟨[t]⟩⟩=>match P.underlying t with
  | some .string=>some (.lenstr,[AU G x])
  | some (.slice _)=>some (.lensl,[AU G x])
  | _=>none
 | .call ⟨.builtin .min,⟨[x,y]⟩,_⟩=>some (.min,[AU G x,AU G y])
 | .call ⟨.builtin .max,⟨[x,y]⟩,_⟩=>some (.max,[AU G x,AU G y])
 | .call ⟨.value (.func f),args,ts⟩=>if ts.toList.any (Sl P)||hot.contains f then some (.hcall f,args.toList.map (AU G))else some (.call f,args.toList.map (AU G))
 | .call ⟨.value x,args,_⟩=>some (.callv,AU G x::args.toList.map (AU G))
 | _=>some (.bad,[])
theorem MV (G:AM) (s:Am) (parts:List (Nat×Operand)):(parts.map (·.1)).zip ((parts.map λp=>AU G p.2).map (·.ev s.env))=parts.map λp=>(p.1,s.ev G p.2):=by
 induction parts with
 | nil=>rfl
 | cons p r ih=>simp only[Xc,List.zip_cons_cons,ih,IC]
theorem Bf {α β:Type} {x:Option α} {f:α->β} {y:β} (h:x.map f=some y):∃a,x=some a/\f a=y:=by
 cases x with
 | none=>cases h
 | some a=>exact⟨a,rfl,by simpa using h⟩
theorem gZ {P:Program} {G:AM} {Φ:AP} {s:Am} {o:Op} {k:MK} {xs:List Opd} {q:PV×Ak×Nat} (hc:KX P G o=some (k,xs))
  (he:A0 Φ s.H s.nx k (xs.map (·.ev s.env))=some q):BS P G Φ s o=some q:=by
 have ev1:=λx=>IC G s x;unfold KX at hc;split at hc
 .rename_i x;injection hc with hc;injection hc with h1 h2;subst h1;subst h2;simp only[Xc,Xe,A0,ev1]at he;simpa[BS,opV,CT]using he
 .rename_i x;injection hc with hc;injection hc with h1 h2;subst h1;subst h2;simp only[Xc,Xe,A0,ev1]at he;simpa[BS,opV,CT]using he
 .rename_i c a b;injection hc with hc;injection hc with h1 h2;subst h1;subst h2;simp only[Xc,Xe,A0,ev1]at he;simp only[BS,opV,CT];split at he
  .rename_i t ht;rw[ht];simpa using he
  .cases he
 .rename_i op t x y yt;injection hc with hc;injection hc with h1 h2;subst h1;subst h2;simp only[Xc,Xe,A0,ev1]at he;simp only[BS,opV,CT];split at he
  .rename_i a b ha hb;rw[ha,hb];simp only[eI];split at he
   .rename_i v hv;rw[hv];simpa using he
   .rename_i hv;rw[hv];obtain⟨r,hr,rfl⟩:=Bf he;simp[So P op t _ y hr]
  .rename_i hne;obtain⟨r,hr,rfl⟩:=Bf he;have hcm:=So P op t _ y hr;split
   .rename_i a b ha hb;exact absurd hb (hne a b ha)
   .simp[hcm]
 .rename_i op t x;injection hc with hc;injection hc with h1 h2;subst h1;subst h2;simp only[Xc,Xe,A0,ev1]at he;simp only[BS,opV,CT];split at he
  .rename_i a ha;rw[ha];obtain⟨v,hv,rfl⟩:=Bf he;simp only[hv,Xq,Xd.injEq]
  .cases he
 .rename_i src dst x;simp only[BS,opV,CT];split at hc
  .rename_i d k' hs hd;injection hc with hc;injection hc with h1 h2;subst h1;subst h2;simp only[Xc,Xe,A0,ev1]at he;obtain⟨r,hr,rfl⟩:=Bf he;unfold MU at hr;split at hr
   .rename_i n hx;rw[hx];simp only[Jt,hs,hd];simpa using hr
   .simp at hr
   .cases hr
  .rename_i d hs hd;injection hc with hc;injection hc with h1 h2;subst h1;subst h2;simp only[Xc,Xe,A0,ev1]at he;obtain⟨r,hr,rfl⟩:=Bf he;unfold MU at hr;split at hr
   .simp at hr
   .rename_i n hx;rw[hx];simp only[Jt,hs,hd];simpa using hr
   .cases hr
  .cases hc
 .rename_i t a;obtain⟨⟨b,n⟩,hq,h⟩:=Bf hc;injection h with h1 h2;subst h1;subst h2;simp only[Xc,Xe,A0,ev1]at he;simpa[BS,opV,CT,SW hq]using he
 .rename_i t x f;obtain⟨⟨off,b,n⟩,hq,h⟩:=Bf hc;injection h with h1 h2;subst h1;subst h2;simp only[Xc,Xe,A0,ev1]at he;simpa[BS,opV,CT,gQ hq]using he
 .rename_i t x f;obtain⟨⟨off,b,n⟩,hq,h⟩:=Bf hc;injection h with h1 h2;subst h1;subst h2;simp only[Xc,Xe,A0,ev1]at he;simpa[BS,opV,CT,gS hq]using he
 .rename_i t x i;split at hc
  .rename_i e z hz;injection hc with hc;injection hc with h1 h2;subst h1;subst h2;simp only[Xc,Xe,A0,ev1]at he;obtain⟨r,hr,rfl⟩:=Bf he;simp[BS,opV,CT,gN hz hr]
  .obtain⟨⟨n,z⟩,hq,h⟩:=Bf hc;injection h with h1 h2;subst h1;subst h2;simp only[Xc,Xe,A0,ev1]at he;obtain⟨r,hr,rfl⟩:=Bf he;simp[BS,opV,CT,gP hq hr]
 .rename_i t x i;split at hc
  .rename_i hu;injection hc with hc;injection hc with h1 h2;subst h1;subst h2;simp only[Xc,Xe,A0,ev1]at he;obtain⟨r,hr,rfl⟩:=Bf he;simp[BS,opV,CT,gT hu hr]
  .cases hc
 .rename_i t x lo hi;split at hc
  .rename_i hu;injection hc with hc;injection hc with h1 h2;subst h1;subst h2;cases lo<;>cases hi<;>simp only[Zc,Zd,Ys,Xq,Ze,Zf,Zh,Zi,Yl,Xc,Xe,A0,ev1]at he
   all_goals (obtain⟨r,hr,rfl⟩:=Bf he;simp[BS,opV,CT,gU hu hr])
  .split at hc
   .rename_i e z hz;injection hc with hc;injection hc with h1 h2;subst h1;subst h2;cases lo<;>cases hi<;>simp only[Zc,Zd,Ys,Xq,Ze,Zf,Zh,Zi,Yl,Xc,Xe,A0,ev1]at he
    all_goals (obtain⟨r,hr,rfl⟩:=Bf he;simp[BS,opV,CT,gV hz hr])
   .cases hc
 .rename_i x i;injection hc with hc;injection hc with h1 h2;subst h1;subst h2;simp only[Xc,Xe,A0,ev1]at he;simpa[BS,opV,CT]using he
 .rename_i x;injection hc with hc;injection hc with h1 h2;subst h1;subst h2;simp only[Xc,Xe,A0,ev1]at he;simp only[BS,opV,CT];obtain⟨r,hr,rfl⟩:=Bf he;unfold Pk at hr;split at hr
  all_goals (first | (cases hr;done) | (rename_i hx;rw[hx];simpa using hr))
 .rename_i t a x;obtain⟨⟨b,n⟩,hq,h⟩:=Bf hc;injection h with h1 h2;subst h1;subst h2;simp only[Xc,Xe,A0,ev1]at he;obtain⟨H',hr,rfl⟩:=Bf he;simp[BS,opV,gW hq hr]
 .rename_i t l c;obtain⟨⟨e,n,by',zc⟩,hq,h⟩:=Bf hc;injection h with h1 h2;subst h1;subst h2;simp only[Xc,Xe,A0,ev1]at he;obtain⟨r,hr,rfl⟩:=Bf he;simp[BS,opV,gX hq hr]
 .rename_i t len parts;obtain⟨⟨e,n,by',zc⟩,hq,h⟩:=Bf hc;injection h with h1 h2;subst h1;subst h2;simp only[A0,MV]at he;obtain⟨r,hr,rfl⟩:=Bf he
  have:GP P t len (parts.toList.map λp=>(p.1,s.ev G p.2)) s.nx=some r:=by
   simp only[GP,hq];exact hr
  simp[BS,opV,this]
 .rename_i t parts;split at hc
  .rename_i n e zc hu hz;obtain⟨i,hq,h⟩:=Bf hc;injection h with h1 h2;subst h1;subst h2;simp only[A0,MV]at he;obtain⟨cs,hr,rfl⟩:=Bf he;simp[BS,opV,J6,MG,hu,hq,hz,hr]
  .rename_i fields zc hu hz;obtain⟨places,hq,h⟩:=Bf hc;injection h with h1 h2;subst h1;subst h2;simp only[A0,MV]at he;obtain⟨cs,hr,rfl⟩:=Bf he;simp[BS,opV,J6,MG,hu,hq,hz,hr]
  .cases hc
 .rename_i t x;injection hc with hc;injection hc with h1 h2;subst h1;subst h2;simp only[Xc,Xe,A0,ev1]at he;simpa[BS,opV]using he
 .rename_i t;obtain⟨zc,hq,h⟩:=Bf hc;injection h with h1 h2;subst h1;subst h2;simp only[Xe,A0]at he;simpa[BS,opV,hq]using he
 .rename_i x y t t';split at hc
  .rename_i e;subst e;obtain⟨⟨e,n,by',zc⟩,hq,h⟩:=Bf hc;injection h with h1 h2;subst h1;subst h2;simp only[Xc,Xe,A0,ev1]at he;simp[BS,opV,gY hq he]
  .cases hc
 .rename_i x t;split at hc
  .rename_i hu;injection hc with hc;injection hc with h1 h2;subst h1;subst h2;simp only[Xc,Xe,A0,ev1]at he;obtain⟨r,hr,rfl⟩:=Bf he;unfold Pj at hr;split at hr
   .rename_i st hx
    have:I7 P t (s.ev G x)=some r:=by rw[hx];simp only[I7,hu];exact hr
    simp[BS,opV,CT,Jx,this]
   .cases hr
  .rename_i e hu;injection hc with hc;injection hc with h1 h2;subst h1;subst h2;simp only[Xc,Xe,A0,ev1]at he;obtain⟨r,hr,rfl⟩:=Bf he;unfold CV at hr;split at hr
   all_goals (first | (cases hr;done) | skip)
   all_goals
    rename_i hx
    have:I7 P t (s.ev G x)=some r:=by rw[hx];simp only[I7,hu];exact hr
    simp[BS,opV,CT,Jx,this]
  .cases hc
 .rename_i x y ts;injection hc with hc;injection hc with h1 h2;subst h1;subst h2;simp only[Xc,Xe,A0,ev1]at he;simpa[BS,opV,CT,Jx]using he
 .rename_i x y ts;injection hc with hc;injection hc with h1 h2;subst h1;subst h2;simp only[Xc,Xe,A0,ev1]at he;simpa[BS,opV,CT,Jx]using he
 .rename_i f args ts
  have e:(args.toList.map (AU G)).map (·.ev s.env)=args.toList.map (s.ev G):=by
   rw[Yt];exact Yu λx _=>ev1 x
  split at hc
  .rename_i hr;injection hc with hc;injection hc with h1 h2;subst h1;subst h2;simp only[A0,e]at he;simp only[BS,hr,if_true];exact he
  .rename_i hr;injection hc with hc;injection hc with h1 h2;subst h1;subst h2;simp only[A0,e]at he;simp only[BS,hr,Xy,if_false];exact he
 .rename_i x args ts hne;injection hc with hc;injection hc with h1 h2;subst h1;subst h2
  have e:(args.toList.map (AU G)).map (·.ev s.env)=args.toList.map (s.ev G):=by
   rw[Yt];exact Yu λx _=>ev1 x
  simp only[Xc,A0,e,ev1]at he;unfold BS;split
  .rename_i f' a' t' heq;injection heq with heq;injection heq with h1 h2 h3;injection h1 with h1;exact absurd h1 (hne f')
  .rename_i x' a' t' _ heq;injection heq with heq;injection heq with h1 h2 h3;injection h1 with h1;subst h1;subst h2;exact he
  .rename_i h1 h2;exact absurd rfl (h2 _ _ _)
 .injection hc with hc;injection hc with h1 h2;subst h1;subst h2;simp[A0]at he
def hU:Op->Bool
 | .buildSlice _ len _=>len != 0
 | _=>true
def opK (P:Program) (G:AM) (d:Bool) (o:Op):MK×List Opd:=
 match J8 P G o with
 | some q=>q
 | none=>
 match d&&hU o,o with
 | true,.buildSlice t len parts=>match Ey P t with
  | some q=>(.tslice q.1 q.2.1 q.2.2.2 len (parts.toList.map (·.1)),parts.toList.map λp=>AU G p.2)
  | none=>(.bad,[])
 | _,o=>match KX P G o with
  | some q=>q
  | none=>(.bad,[])
theorem J9 {P:Program} {G:AM} {B:Nat} {Φ:AP} {s:Am} {o:Oper} {d:Bool} {k:MK} {xs:List Opd} (hΦ:Φ.Sound P G) (hc:opK P G d o.op=(k,xs)) {r:PV} {H':Ak} {nx':Nat}
  (he:A0 Φ s.H s.nx k (xs.map (·.ev s.env))=some (r,H',nx')):AOp P G B o s r H' nx':=by
 unfold opK at hc;split at hc
 .rename_i q hq;subst hc;refine gK hq ?_;cases k<;>simp only
  case ex e=>
   simp only[A0]at he;obtain⟨p,hp,e1⟩:=Bf he;exact⟨p,hp,e1.symm⟩
  case hx h=>simpa only[A0]using he
  all_goals (exact absurd hq (Sx (by simp)))
 split at hc
 .rename_i t len parts _ ho;split at hc
  .rename_i q hq;obtain⟨e,n,by',zc⟩:=q;injection hc with h1 h2;subst h1;subst h2;simp only[A0,MV]at he;obtain⟨x,hx,e1⟩:=Bf he;injection e1 with e1 e2;injection e2 with e2 e3;subst e1;subst e2;subst e3;unfold EZ at hx;split at hx
   .rename_i p0 ty cs hb;split at hx
    .rename_i ts hts;split at hx
     .rename_i hl;injection hx with hx;subst hx;unfold BB at hb;split at hb
      .rename_i hsz;obtain⟨cs',hf,e4⟩:=Bf hb;injection e4 with e4 e5;injection e5 with e5 e6;subst e6
       have hbs:GP P t len (parts.toList.map λp=>(p.1,s.ev G p.2)) s.nx=some (.row s.nx 0 len n,.cells e (ts.map .t)):=by
        simp only[GP,hq];rw[zu hsz,hf,<-Jv hts];rfl
       exact dR hl (RW ho hbs)
      .cases hb
     .cases hx
    .cases hx
   .cases hx
  .injection hc with h1 h2;subst h1;simp[A0]at he
 .split at hc
  .rename_i q hq;subst hc;exact eG hΦ (gZ hq he)
  .injection hc with h1 h2;subst h1;simp[A0]at he
structure AF where
 dst:Option Nat
 k:MK
 xs:List Opd
 g:Option (Nat×Bool)
def AF.wants (env:List (Nat×PV)) (m:AF):Option Bool:=
 match m.g with
 | none=>some true
 | some (d,want)=>match Aj env d with
  | some (.t (.v (.bool b)))=>some (b==want)
  | some (.t (.v (.tuple _)))=>some false
  | _=>none
def Em (P:Program) (G:AM) (N:Nat) (d:Bool) (ops:Array Oper) (o:Oper):Option AF:=
 match opK P G d o.op with
 | (k,xs)=>if o.dst.all (· < N)then
   (match o.guard with
   | none=>some ⟨o.dst,k,xs,none⟩
   | some (j,want)=>match (ops[j]?).bind (·.dst)with
    | some d=>some ⟨o.dst,k,xs,some (d,want)⟩
    | none=>none)
  else none
theorem KY {P:Program} {G:AM} {N:Nat} {d:Bool} {ops:Array Oper} {o:Oper} {m:AF} (h:Em P G N d ops o=some m) :
  opK P G d o.op=(m.k,m.xs)/\m.dst=o.dst/\(∀k,o.dst=some k->k<N)/\∀s:Am,s.wants ops o=m.wants s.env:=by
 unfold Em at h;split at h;rename_i k xs hc;split at h
 .rename_i hd
  have hd':∀k,o.dst=some k->k<N:=by
   intro k hk;rw[hk]at hd;simpa using hd
  split at h
  .rename_i hg;injection h with h;subst h;exact⟨hc,rfl,hd',λs=>by simp[Am.wants,AF.wants,hg]⟩
  .rename_i j want hg;split at h
   .rename_i d hdd;injection h with h;subst h;exact⟨hc,rfl,hd',λs=>by simp only[Am.wants,AF.wants,hg,hdd];rfl⟩
   .cases h
 .cases h
def HS (Φ:AP) (s:Am) (m:AF):Option Am:=
 match m.wants s.env with
 | some true=>match A0 Φ s.H s.nx m.k (m.xs.map (·.ev s.env))with
  | some (r,H',nx')=>some (({ s with H:=H',nx:=nx' }:Am).put m.dst r)
  | none=>none
 | some false=>some (s.put m.dst (.t (.v undef)))
 | none=>none
def Gu (Φ:AP):List AF->Am->Option Am
 | [],s=>some s
 | m::r,s=>match HS Φ s m with
  | some s'=>Gu Φ r s'
  | none=>none
section
variable {P : Program} {G : AM} {B N : Nat} {Φ : AP} {d : Bool} {ops : Array Oper}
def DZ (P:Program) (G:AM) (N:Nat) (d:Bool) (ops:Array Oper):List Oper->List AF->Prop
 | [],l=>l=[]
 | o::r,l=>∃m l',l=m::l'/\Em P G N d ops o=some m/\DZ P G N d ops r l'
theorem JA:∀{os:List Oper} {l:List AF},os.mapM (Em P G N d ops)=some l->DZ P G N d ops os l
 | [],l,h=>by simp at h;simp only[DZ];exact h
 | o::r,l,h=>by
  simp only[Zj,Zk,Zl]at h
  cases ho:Em P G N d ops o with
  | none=>rw[ho]at h;cases h
  | some m=>
   rw[ho]at h
   cases hr:r.mapM (Em P G N d ops)with
   | none=>rw[hr]at h;cases h
   | some l'=>
    rw[hr]at h;simp only[Zm,Xd.injEq]at h;subst h;simp only[DZ];exact⟨m,l',rfl,ho,JA hr⟩
theorem DZ.at_:∀{os:List Oper} {l:List AF},DZ P G N d ops os l->∀(i:Nat),(∀o,os[i]?=some o->∃m,l[i]?=some m/\Em P G N d ops o=some m)/\os.length=l.length
 | [],l,h,i=>by simp only[DZ]at h;subst h;simp
 | o::r,l,h,i=>by
  simp only[DZ]at h;obtain⟨m,l',rfl,hm,hr⟩:=h;refine⟨λo' ho'=>?_,by simp[(DZ.at_ hr 0).2]⟩
  cases i with
  | zero=>simp only[Xx,Xd.injEq]at ho';subst ho';exact⟨m,by simp,hm⟩
  | succ i=>simpa using (DZ.at_ hr i).1 o' (by simpa using ho')
theorem KZ (hΦ:Φ.Sound P G) {Q:Am->Prop}:∀(os:List Oper) {l:List AF} {s s':Am},DZ P G N d ops os l->s.n=N->Gu Φ l s=some s'->Q s'->Gn P G B ops os Q s
 | [],l,s,s',ha,hn,h,hq=>by
  simp only[DZ]at ha;subst ha;simp only[Gu,Xd.injEq]at h;subst h;exact cO hq
 | o::rest,l,s,s',ha,hn,h,hq=>by
  simp only[DZ]at ha;obtain⟨m,l',rfl,hm,hr⟩:=ha;obtain⟨hc,hdst,hd,hw⟩:=KY hm;simp only[Gu]at h;split at h
  .rename_i s1 h1;unfold HS at h1;rw[<-hw s]at h1
   have hd':∀k,o.dst=some k->k<s.n:=λk hk=>by rw[hn];exact hd k hk
   rw[hdst]at h1;split at h1
   .rename_i hww;split at h1
    .rename_i r H' nx' hv;injection h1 with h1;subst h1;exact RE hww hd' (J9 hΦ hc hv) (KZ hΦ rest hr (by rw[FM];exact hn) h hq)
    .cases h1
   .rename_i hww;injection h1 with h1;subst h1;exact cP hww hd' (KZ hΦ rest hr (by rw[FM];exact hn) h hq)
   .cases h1
  .cases h
def AL:MK->Bool
 | .store _ | .make _ _ _ _ | .bslice _ _ _ _ _ | .box _ | .alloc _ _ | .app _ _ _ | .hcall _ | .callv | .hx _=>false
 | _=>true
def Bi (Φ:AP) (H:Ak) (nx:Nat) (k:MK) (ps:List PV):Option PV:=
 if AL k then
  (match k with
  | .call f=>match Bn H ps with
   | some (targs,F)=>match Φ f targs with
    | some r=>if F.isEmpty||De r then some (.t r)else none
    | none=>none
   | none=>none
  | k=>(A0 Φ H nx k ps).map (·.1))
 else none
theorem SX {H:Ak} {nx:Nat} {k:MK} {ps:List PV} {r:PV} (h:Bi Φ H nx k ps=some r):A0 Φ H nx k ps=some (r,H,nx):=by
 unfold Bi at h;split at h
 .rename_i hk;split at h
  .rename_i f;split at h
   .rename_i targs F hT;split at h
    .rename_i q hq;split at h
     .rename_i hp;injection h with h;subst h;simp only[A0,hT,hq]
      cases hF:F.isEmpty with
      | true=>simp
      | false=>
       rw[hF]at hp;simp only[X7]at hp;simp[hp]
     .cases h
    .cases h
   .cases h
  .rename_i hnc;obtain⟨q,hq,rfl⟩:=Bf h;rw[hq];congr 1;unfold A0 at hq;split at hq
   all_goals (first
    | (simp[AL]at hk;done)
    | (exact absurd rfl (hnc _))
    | (cases hq;done)
    | (injection hq with hq;rw[<-hq];done)
    | (obtain⟨a,_,rfl⟩:=Bf hq;rfl)
    | skip)
   .split at hq
    .injection hq with hq;rw[<-hq]
    .cases hq
   .split at hq
    .split at hq
     .injection hq with hq;rw[<-hq]
     .obtain⟨a,_,rfl⟩:=Bf hq;rfl
    .obtain⟨a,_,rfl⟩:=Bf hq;rfl
   .split at hq
    .obtain⟨a,_,rfl⟩:=Bf hq;rfl
    .cases hq
 .cases h
def AF.eyes (m:AF):List Nat:=
 (m.xs.filterMap fun | .tmp t=>some t | _=>none)++(match m.g with | some (d,_)=>[d] | none=>[])
def Am.only (s:Am) (ts:List Nat):Am:={ s with env:=ts.filterMap λt=>(Aj s.env t).map λp=>(t,p) }
theorem Lg (s:Am):∀(ts:List Nat) (t:Nat),Aj (s.only ts).env t=if t∈ts then Aj s.env t else none
 | [],t=>by simp[Am.only,Aj]
 | u::ts,t=>by
  have ih:=Lg s ts t;simp only[Am.only]at ih ⊢;simp only[Yv]
  cases hu:Aj s.env u with
  | none=>
   simp only[Ys,ih];by_cases e:t=u
   .subst e;simp[hu]
   .simp[e]
  | some p=>
   simp only[Xq,Aj];by_cases e:u=t
   .subst e;simp[hu]
   .rw[zw e,ih];simp[Ne.symm e]
theorem SY (s:Am) (m:AF) (ts:List Nat) (h:∀t∈m.eyes,t∈ts):m.xs.map (·.ev (s.only ts).env)=m.xs.map (·.ev s.env):=by
 refine Yu λx hx=>?_
 cases x with
 | tmp t=>
  have:t∈m.eyes:=by
   unfold AF.eyes;exact List.mem_append_left _ (Yh.2 ⟨.tmp t,hx,rfl⟩)
  simp only[Opd.ev,Lg,zu (h t this)]
 | k p=>rfl
theorem SZ (s:Am) (m:AF) (ts:List Nat) (h:∀t∈m.eyes,t∈ts):m.wants (s.only ts).env=m.wants s.env:=by
 unfold AF.wants
 cases hg:m.g with
 | none=>rfl
 | some q=>
  obtain⟨d,want⟩:=q
  have:d∈m.eyes:=by unfold AF.eyes;rw[hg];simp
  simp only[Lg,zu (h d this)]
def HT (Φ:AP) (s:Am) (m:AF):Option PV:=
 match m.wants s.env with
 | some true=>Bi Φ s.H s.nx m.k (m.xs.map (·.ev s.env))
 | some false=>some (.t (.v undef))
 | none=>none
def Gv:MK->Bool
 | .load _ _ | .call _=>false
 | k=>AL k
def Fp:MK->Bool
 | .make _ _ _ _ | .bslice _ _ _ _ _ | .box _ | .alloc _ _=>true
 | _=>false
def Lh (Φ:AP) (s:Am) (m:AF):Option Am:=
 if AL m.k then
  (match HT Φ s m with
  | some v=>some (s.put m.dst v)
  | none=>none)
 else HS Φ s m
def FQ (Φ:AP):List AF->Am->Option Am
 | [],s=>some s
 | m::r,s=>match Lh Φ s m with
  | some s'=>FQ Φ r s'
  | none=>none
def JB:MK->Bool
 | .make _ _ _ _ | .alloc _ _=>true
 | _=>false
def GU (A:List Nat) (pa k:Nat) (R:List (Nat×Nat)) (p p':Nat) (x y:Nat×AF):Bool:=
 (AL x.2.k&&(AL y.2.k||Gv x.2.k||Fp y.2.k||R.contains (p,p'))||(A.getD y.1 0).testBit x.1||decide (pa<=p)&&decide (p'<pa+k)) &&
 ((match x.2.dst with
  | some d=>!(y.2.eyes.contains d)
  | none=>true)||(A.getD y.1 0).testBit x.1 && !(decide (pa<=p)&&decide (p'<pa+k))) &&
 ((match y.2.dst with
  | some d=>!(x.2.eyes.contains d)
  | none=>true)||(A.getD y.1 0).testBit x.1) &&
 (match x.2.dst with
  | some d=>y.2.dst != some d
  | none=>true)
def MW (A:List Nat) (pa k:Nat) (R:List (Nat×Nat)):Nat->List (Nat×AF)->Bool
 | _,[]=>true
 | p,x::r=>(r.zipIdx (p+1)).all (λy=>GU A pa k R p y.2 x y.1)&&MW A pa k R (p+1) r
def B9 (l:List AF) (π:List Nat):List (Nat×AF):=π.filterMap λi=>(l[i]?).map λm=>(i,m)
def HU (ops:Array Oper) (l:List AF) (π:List Nat) (pa k:Nat) (R:List (Nat×Nat)):Bool:=
 (ops.toList.zipIdx.all λp=>p.1.after.toList.all λe=>decide (e.on<p.2) || !Region.binds .any e) &&
 ((B9 l π).length==l.length)&&((X8 l.length).all λi=>π.contains i)&&decide (π.Nodup) &&
 MW (DJ ops.toList []) pa k R 0 (B9 l π)&&decide (pa+k<=l.length) &&
 (((B9 l π).drop pa).take k).all λx=>JB x.2.k&&x.2.g.isNone
inductive GI where
 | o (m:AF) (kp:Bool) (ag:List Nat)
 | g (j:Nat) (m:AF)
def GI.mini:GI->AF
 | .o m _ _=>m
 | .g _ m=>m
abbrev En:=List (Nat×MK×List PV×PV)
def Pl (Φ:AP) (pd:En) (H:Ak) (nx:Nat) (ks:List Nat):Prop:=∀i∈ks,∃x,Aj pd i=some x/\Bi Φ H nx x.1 x.2.1=some x.2.2
def Gw (Φ:AP) (s:Am) (m:AF):Option (PV×Ak×Nat):=
 if AL m.k then(HT Φ s m).map λv=>(v,s.H,s.nx)
 else match m.wants s.env with
  | some true=>A0 Φ s.H s.nx m.k (m.xs.map (·.ev s.env))
  | some false=>some (.t (.v undef),s.H,s.nx)
  | none=>none
def Fq (kp:Bool) (n:Nat) (m:AF) (s:Am) (v:PV) (pd:En):En:=if kp then(n,m.k,m.xs.map (·.ev s.env),v)::pd else pd
open Classical in
noncomputable def Ea (Φ:AP) (k:Nat):Nat->Nat->En->List GI->Am->Option Am
 | _,_,_,[],s=>some s
 | n,b,pd,.o m kp ag::r,s=>match Gw Φ s m with
  | some (v,H',nx')=>if Pl Φ pd H' nx' ag then Ea Φ k (n+1) b (Fq kp n m s v pd) r (({ s with H:=H',nx:=nx' }:Am).put m.dst v)else none
  | none=>none
 | n,b,pd,.g j m::r,s=>match A0 Φ s.H ((if j=0 then s.nx else b)+k+j) m.k (m.xs.map (·.ev s.env))with
  | some (v,H',_)=>Ea Φ k (n+1) (if j=0 then s.nx else b) pd r (({ s with H:=H',nx:=(if j=0 then s.nx else b)+2*k }:Am).put m.dst v)
  | none=>none
def HV (pa k:Nat) (R:List (Nat×Nat)) (l:List GI):Bool:=
 (l.zipIdx.all λx=>match x.1 with
  | .o _ _ _=>decide (x.2<pa)||decide (pa+k<=x.2)
  | .g j _=>decide (pa<=x.2)&&decide (x.2<pa+k)&&(x.2==pa+j)) &&
 R.all λr=>match l[r.2]? with
  | some (.o _ _ ag)=>ag.contains r.1
  | _=>false
def Pm (q:List (Nat×AF)):Nat×Nat:=
 let free:=λx:Nat×AF=>JB x.2.k&&x.2.g.isNone
 let pa:=q.findIdx free
 (if pa<q.length then pa else 0,((q.drop pa).takeWhile free).length)
def Pn (A:List Nat) (q:List (Nat×AF)):List (Nat×Nat):=
 q.zipIdx.flatMap λy=>if AL y.1.2.k||Fp y.1.2.k then []else
  (q.zipIdx.filter λx=>decide (x.2<y.2)&&AL x.1.2.k && !Gv x.1.2.k && !(A.getD y.1.1 0).testBit x.1.1).map λx=>(x.2,y.2)
def IG (pa k:Nat) (R:List (Nat×Nat)) (q:List (Nat×AF)):List GI:=
 q.zipIdx.map λx=>if pa<=x.2/\x.2<pa+k then .g (x.2-pa) x.1.2 else .o x.1.2 (R.any λr=>r.1==x.2) ((R.filter λr=>r.2==x.2).map Prod.fst)
end
section
variable {P : Program} {G : AM} {B N : Nat} {Φ : AP} {ops : Array Oper}
theorem MX {S:Array Bool} {i:Nat} (h:i∈Region.ready .any ops S):i<ops.size/\S.getD i true=false/\∃o,ops[i]?=some o/\∀e∈o.after.toList,Region.binds .any e=true->S.getD e.on false=true:=by
 unfold Region.ready at h;obtain⟨h1,h2⟩:=Zn.1 h;simp only[List.mem_range]at h1;simp only[Xg,X0]at h2;refine⟨h1,h2.1,ops[i],Xo h1,λe he hb=>?_⟩;have:=h2.2;rw[Xo h1]at this;simp only[Xq,Yw]at this;rw[Zo]at this;have:=this e (Zp.2 he);simpa[hb]using this
theorem Ta {S:Array Bool} {i:Nat} {o:Oper} (ho:ops[i]?=some o) (h2:S.getD i true=false) (h3:∀e∈o.after.toList,Region.binds .any e=true->S.getD e.on false=true):i∈Region.ready .any ops S:=by
 unfold Region.ready;refine Zn.2 ⟨by simpa using (Xw.1 ho).1,?_⟩;simp only[h2,ho,Xq,Yw,Bool.not_false,Yf];rw[Zo];intro e he
 cases hb:Region.binds .any e with
 | false=>simp
 | true=>simp[h3 e (Zp.1 he) hb]
theorem JC {S:Array Bool} {i:Nat} (h:i<S.size):S.getD i true=S.getD i false:=by
 simp[Xv,h]
theorem EF (S:Array Bool) (i j:Nat) (h:i<S.size):(S.setIfInBounds i true).getD j false=if i=j then true else S.getD j false:=by
 simp only[Xv];by_cases e:i=j
 .subst e;simp[h]
 .simp[e,X2 e]
def cnt (S:Array Bool):Nat:=S.toList.count true
theorem Tb {S:Array Bool} {i:Nat} (h:i<S.size) (hf:S.getD i false=false):cnt (S.setIfInBounds i true)=cnt S+1:=by
 unfold cnt;rw[Array.toList_setIfInBounds,List.count_set (by simpa using h)]
 have:S.toList[i]'(by simpa using h)=false:=by
  simp only[Xv]at hf;rw[Xo h]at hf;simpa using hf
 rw[this];simp
theorem Tc {S:Array Bool} (h:S.size<=cnt S):∀i,i<S.size->S.getD i false=true:=by
 intro i hi
 have hle:cnt S<=S.size:=by unfold cnt;have:=List.count_le_length (a:=true) (l:=S.toList);simpa using this
 have he:S.toList.count true=S.toList.length:=by
  unfold cnt at h hle
  have:S.toList.length=S.size:=by simp
  omega
 have:=List.count_eq_length.1 he S.toList[i] (by simp);simp only[Xv,Xo hi,Yw];simpa using this.symm
def Did (Φ:AP) (s:Am) (m:AF) (v:PV) (s':Am):Prop:=
 (AL m.k=true/\HT Φ s m=some v/\s'=s.put m.dst v) \/
 (AL m.k=false/\m.wants s.env=some false/\v = .t (.v undef)/\s'=s.put m.dst v) \/
 (AL m.k=false/\m.wants s.env=some true/\∃H' nx',A0 Φ s.H s.nx m.k (m.xs.map (·.ev s.env))=some (v,H',nx')/\s'=({ s with H:=H',nx:=nx' }:Am).put m.dst v)
theorem Td {s s':Am} {m:AF} (h:Lh Φ s m=some s'):∃v,Did Φ s m v s':=by
 unfold Lh at h;split at h
 .rename_i hq;split at h
  .rename_i v hv;injection h with h;exact⟨v,.inl ⟨hq,hv,h.symm⟩⟩
  .cases h
 .rename_i hq
  have hq:AL m.k=false:=by simpa using hq
  unfold HS at h;split at h
  .rename_i hw;split at h
   .rename_i r H' nx' he;injection h with h;exact⟨r,.inr (.inr ⟨hq,hw,H',nx',he,h.symm⟩)⟩
   .cases h
  .rename_i hw;injection h with h;exact⟨_,.inr (.inl ⟨hq,hw,rfl,h.symm⟩)⟩
  .cases h
theorem Te:∀(l:List AF) {s s':Am},FQ Φ l s=some s'->∃(st:Nat->Am) (vals:Nat->PV),st 0=s/\st l.length=s'/\∀(p:Nat) m,l[p]?=some m->Did Φ (st p) m (vals p) (st (p+1))
 | [],s,s',h=>by
  simp only[FQ,Xd.injEq]at h;exact⟨λ_=>s,λ_=>.dead,rfl,h,by simp⟩
 | q::r,s,s',h=>by
  simp only[FQ]at h;split at h
  .rename_i s1 h1;obtain⟨v,hd⟩:=Td h1;obtain⟨st,vals,h0,hl,hall⟩:=Te r h;refine⟨λp=>match p with | 0=>s | p+1=>st p,λp=>match p with | 0=>v | p+1=>vals p,rfl,by simpa using hl,λp m hp=>?_⟩
   cases p with
   | zero=>simp only[Xx,Xd.injEq]at hp;subst hp;simp only;rw[h0];exact hd
   | succ p=>simpa using hall p m (by simpa using hp)
  .cases h
theorem Tf {s s':Am} {m:AF} {v:PV} (h:Did Φ s m v s'):s'.env=(s.put m.dst v).env/\s'.n=s.n:=by
 rcases h with⟨_,_,rfl⟩ | ⟨_,_,_,rfl⟩ | ⟨_,_,H',nx',_,rfl⟩
 .exact⟨rfl,FM⟩
 .exact⟨rfl,FM⟩
 .refine⟨?_,by rw[FM]⟩;cases m.dst<;>rfl
theorem MY {s s':Am} {m:AF} {v:PV} (h:Did Φ s m v s') (hq:AL m.k=true):s'.H=s.H/\s'.nx=s.nx:=by
 rcases h with⟨_,_,rfl⟩ | ⟨hf,_⟩ | ⟨hf,_⟩
 .exact⟨DV,EW⟩
 .rw[hq]at hf;cases hf
 .rw[hq]at hf;cases hf
def GV (s:Am):Prop:=∀b r,Aj s.H b=some r->b<s.nx
theorem Li {H:Ak} {nx:Nat} {r:Row} (h:∀b r,Aj H b=some r->b<nx):∀b r',Aj ((nx,r)::H) b=some r'->b<nx+1:=by
 intro b r' hb;simp only[Aj]at hb;by_cases e:nx=b
 .omega
 .rw[zw e]at hb;have:=h b r' hb;omega
theorem iB {k:HK} {H H':Ak} {nx nx':Nat} {ps:List PV} {v:PV} (h:hxM k H nx ps=some (v,H',nx')) (hf:∀b r,Aj H b=some r->b<nx):∀b r,Aj H' b=some r->b<nx':=by
 unfold hxM at h;split at h
 .injection h with h;injection h with e1 e2;injection e2 with e2 e3;subst e2;subst e3;exact Li hf
 .split at h
  .rename_i hl;split at h
   .injection h with h;injection h with e1 e2;injection e2 with e2 e3;subst e2;subst e3;intro j r hj;rw[A7]at hj;split at hj
    .rename_i e;subst e;exact hf _ _ hl
    .exact hf j r hj
   .injection h with h;injection h with e1 e2;injection e2 with e2 e3;subst e2;subst e3;exact hf
  .cases h
 .split at h
  .obtain⟨l,_,e⟩:=Bf h;injection e with e1 e2;injection e2 with e2 e3;subst e2;subst e3;exact hf
  .cases h
 .injection h with h;injection h with e1 e2;injection e2 with e2 e3;subst e2;subst e3;exact Li hf
 .split at h
  .split at h
   .injection h with h;injection h with e1 e2;injection e2 with e2 e3;subst e2;subst e3;exact hf
   .cases h
  .cases h
 .split at h
  .rename_i hl _;split at h
   .injection h with h;injection h with e1 e2;injection e2 with e2 e3;subst e2;subst e3;intro j r hj;rw[A7]at hj;split at hj
    .rename_i e;subst e;exact hf _ _ hl
    .exact hf j r hj
   .cases h
  .cases h
 .split at h
  .rename_i hl;split at h
   .injection h with h;injection h with e1 e2;injection e2 with e2 e3;subst e2;subst e3;intro j r hj;rw[A7]at hj;split at hj
    .rename_i e;subst e;exact hf _ _ hl
    .exact hf j r hj
   .cases h
  .cases h
 .split at h
  .injection h with h;injection h with e1 e2;injection e2 with e2 e3;subst e2;subst e3;exact hf
  .cases h
 .injection h with h;injection h with e1 e2;injection e2 with e2 e3;subst e2;subst e3;exact hf
 .split at h
  .rename_i hl _;split at h
   .injection h with h;injection h with e1 e2;injection e2 with e2 e3;subst e2;subst e3;intro j r hj;rw[A7]at hj;split at hj
    .rename_i e;subst e;exact hf _ _ hl
    .exact hf j r hj
   .cases h
  .cases h
 .split at h
  .split at h
   .injection h with h;injection h with e1 e2;injection e2 with e2 e3;subst e2;subst e3;exact hf
   .cases h
  .cases h
 .split at h
  .injection h with h;injection h with e1 e2;injection e2 with e2 e3;subst e2;subst e3;exact Li hf
  .cases h
 .cases h
theorem iC (hΦ:Φ.Sound P G) {H H':Ak} {nx nx':Nat} {k:MK} {ps:List PV} {v:PV} (hq:AL k=false) (h:A0 Φ H nx k ps=some (v,H',nx')) (hf:∀b r,Aj H b=some r->b<nx) :
  (∀b r,Aj H' b=some r->b<nx')/\(Fp k=true->∀b r,Aj H b=some r->Aj H' b=some r):=by
 have new:∀{row:Row},(∀b r,Aj ((nx,row)::H) b=some r->b<nx+1)/\(∀b r,Aj H b=some r->Aj ((nx,row)::H) b=some r):=by
  intro row;refine⟨Li hf,λb r hb=>?_⟩;have:=hf b r hb;simp only[Aj];rw[zw (by omega)];exact hb
 cases k<;>simp only[AL]at hq<;>try (cases hq;done)
 case store n=>
  refine⟨?_,λha=>by simp[Fp]at ha⟩
  rcases ps with _ | ⟨p,_ | ⟨x,_ | ⟨y,r⟩⟩⟩<;>simp only[A0]at h<;>try (cases h;done)
  obtain⟨H1,hs,e⟩:=Bf h;injection e with e1 e2;injection e2 with e2 e3;subst e2;subst e3;unfold AO at hs;split at hs
  .rename_i b o;split at hs
   .split at hs
    .rename_i ty cs hl;split at hs
     .injection hs with hs;subst hs;intro j r hj;rw[A7]at hj;split at hj
      .rename_i e;subst e;exact hf _ _ hl
      .exact hf j r hj
     .cases hs
    .cases hs
   .cases hs
  .cases hs
 case make e n by' zc=>
  rcases ps with _ | ⟨p,_ | ⟨x,_ | ⟨y,r⟩⟩⟩<;>simp only[A0]at h<;>try (cases h;done)
  obtain⟨q,hs,e⟩:=Bf h;injection e with e1 e2;injection e2 with e2 e3;subst e2;subst e3;exact⟨new.1,λ_=>new.2⟩
 case bslice e n zc len idx=>
  simp only[A0]at h;obtain⟨q,hs,e⟩:=Bf h;injection e with e1 e2;injection e2 with e2 e3;subst e2;subst e3;exact⟨new.1,λ_=>new.2⟩
 case box t=>
  rcases ps with _ | ⟨p,_ | ⟨x,r⟩⟩<;>simp only[A0]at h<;>try (cases h;done)
  obtain⟨q,hs,e⟩:=Bf h;injection e with e1 e2;injection e2 with e2 e3;subst e2;subst e3;exact⟨new.1,λ_=>new.2⟩
 case alloc t zc=>
  rcases ps with _ | ⟨p,r⟩<;>simp only[A0]at h<;>try (cases h;done)
  injection h with e;injection e with e1 e2;injection e2 with e2 e3;subst e2;subst e3;exact⟨new.1,λ_=>new.2⟩
 case app e z by'=>
  refine⟨?_,λha=>by simp[Fp]at ha⟩
  rcases ps with _ | ⟨d,_ | ⟨x,_ | ⟨y,r⟩⟩⟩<;>simp only[A0]at h<;>try (cases h;done)
  unfold Dp at h;split at h
  .split at h
   .split at h
    .split at h
     .injection h with h;injection h with e1 e2;injection e2 with e2 e3;subst e2;subst e3;exact hf
     .split at h
      .injection h with h;injection h with e1 e2;injection e2 with e2 e3;subst e2;subst e3;exact new.1
      .cases h
    .cases h
   .split at h
    .split at h
     .injection h with h;injection h with e1 e2;injection e2 with e2 e3;subst e2;subst e3;refine Li λb r hb=>?_;rw[BZ]at hb;split at hb
      .cases hb
      .exact hf b r hb
     .cases h
    .cases h
   .cases h
  .cases h
 case hx hk=>
  refine⟨?_,λha=>by simp[Fp]at ha⟩;simp only[A0]at h;exact iB h hf
 case hcall f=>
  refine⟨?_,λha=>by simp[Fp]at ha⟩;simp only[A0]at h;exact hΦ.fresh _ _ _ _ _ _ _ h hf
 case callv=>
  refine⟨?_,λha=>by simp[Fp]at ha⟩;rcases ps with _ | ⟨fv,ps⟩
  .simp[A0]at h
  .simp only[A0]at h;unfold ML at h;split at h
   .exact hΦ.fresh _ _ _ _ _ _ _ h hf
   .exact hΦ.fresh _ _ _ _ _ _ _ h hf
   .cases h
theorem Lj (hΦ:Φ.Sound P G) {s s':Am} {m:AF} {v:PV} (h:Did Φ s m v s') (hf:GV s):GV s'/\(Fp m.k=true\/AL m.k=true->∀b r,Aj s.H b=some r->Aj s'.H b=some r):=by
 rcases h with⟨hq,_,rfl⟩ | ⟨hq,_,_,rfl⟩ | ⟨hq,_,H',nx',he,rfl⟩
 .unfold GV;rw[DV,EW];exact⟨hf,λ_ b r hb=>hb⟩
 .unfold GV;rw[DV,EW];exact⟨hf,λ_ b r hb=>hb⟩
 .have:=iC hΦ hq he hf;unfold GV;rw[DV,EW];refine⟨this.1,λha=>?_⟩;rcases ha with ha | ha
  .exact this.2 ha
  .rw[hq]at ha;cases ha
mutual
theorem iD {H H':Ak} (hh:∀b r,Aj H b=some r->Aj H' b=some r):∀(p:PV) {q:T×List Nat},toT H p=some q->toT H' p=some q
 | .t x,q,h=>by simpa only[toT]using h
 | .row b o n z,q,h=>by
  simp only[toT]at h ⊢;split at h
  .rename_i ty cs hl;rw[hh b _ hl];exact h
  .cases h
 | .ag cs,q,h=>by
  simp only[toT]at h ⊢;obtain⟨a,ha,rfl⟩:=Bf h;rw[MZ hh cs ha];rfl
 | .tu cs,q,h=>by
  simp only[toT]at h ⊢;obtain⟨a,ha,rfl⟩:=Bf h;rw[MZ hh cs ha];rfl
 | .ptr _ _,q,h=>by simp[toT]at h
 | .fn _ _ _,q,h=>by simp[toT]at h
 | .ic _ _,q,h=>by simp[toT]at h
 | .mp _,q,h=>by simp[toT]at h
 | .dead,q,h=>by simp[toT]at h
theorem MZ {H H':Ak} (hh:∀b r,Aj H b=some r->Aj H' b=some r):∀(ps:List PV) {q:List T×List Nat},Bn H ps=some q->Bn H' ps=some q
 | [],q,h=>by simpa only[Bn]using h
 | p::ps,q,h=>by
  simp only[Bn]at h ⊢;split at h
  .rename_i x F xs F' h1 h2;rw[iD hh p h1,MZ hh ps h2];exact h
  .cases h
end
theorem iE {H H':Ak} {nx nx':Nat} {k:MK} {ps:List PV} {q:PV×Ak×Nat} (hk:Gv k=true) (h:A0 Φ H nx k ps=some q):A0 Φ H' nx' k ps=some (q.1,H',nx'):=by
 cases k<;>(first | (simp only[Gv,AL,Xy]at hk;done) | skip)
 case slstr lo hi=>
  cases lo<;>cases hi<;>rcases ps with _ | ⟨a,_ | ⟨b,_ | ⟨c,_ | ⟨d,r⟩⟩⟩⟩<;>simp only[A0]at h ⊢ <;>(first | (cases h;done) | (obtain⟨x,hx,rfl⟩:=Bf h;rw[hx];rfl))
 case slice z lo hi=>
  cases lo<;>cases hi<;>rcases ps with _ | ⟨a,_ | ⟨b,_ | ⟨c,_ | ⟨d,r⟩⟩⟩⟩<;>simp only[A0]at h ⊢ <;>(first | (cases h;done) | (obtain⟨x,hx,rfl⟩:=Bf h;rw[hx];rfl))
 case bin isB op nk=>
  rcases ps with _ | ⟨a,_ | ⟨b,_ | ⟨c,r⟩⟩⟩<;>simp only[A0]at h ⊢ <;>(first | (cases h;done) | skip);split at h
  .split at h
   .rename_i hb;injection h with h;subst h;simp only[hb]
   .rename_i hb;obtain⟨x,hx,rfl⟩:=Bf h;simp only[hb,hx,Xq]
  .rename_i hne;obtain⟨x,hx,rfl⟩:=Bf h;rw[hx];rfl
 case pick=>
  rcases ps with _ | ⟨a,_ | ⟨b,_ | ⟨c,_ | ⟨d,r⟩⟩⟩⟩<;>simp only[A0]at h ⊢ <;>(first | (cases h;done) | skip);split at h
  .injection h with h;subst h;rfl
  .cases h
 case un op=>
  rcases ps with _ | ⟨a,_ | ⟨b,r⟩⟩<;>simp only[A0]at h ⊢ <;>(first | (cases h;done) | skip);split at h
  .obtain⟨x,hx,rfl⟩:=Bf h;rw[hx];rfl
  .cases h
 case tslice e n zc len idx=>simp only[A0]at h ⊢;obtain⟨x,hx,rfl⟩:=Bf h;rw[hx];rfl
 case build places zc idx=>simp only[A0]at h ⊢;obtain⟨x,hx,rfl⟩:=Bf h;rw[hx];rfl
 case barr n zc idx=>simp only[A0]at h ⊢;obtain⟨x,hx,rfl⟩:=Bf h;rw[hx];rfl
 case ex e=>simp only[A0]at h ⊢;obtain⟨x,hx,rfl⟩:=Bf h;rw[hx];rfl
 case mv=>
  rcases ps with _ | ⟨a,_ | ⟨b,r⟩⟩<;>simp only[A0]at h ⊢ <;>(first | (cases h;done) | (injection h with h;subst h;rfl))
 all_goals
  rcases ps with _ | ⟨a,_ | ⟨b,_ | ⟨c,r⟩⟩⟩<;>simp only[A0]at h ⊢ <;>(first | (cases h;done) | (obtain⟨x,hx,rfl⟩:=Bf h;rw[hx];rfl))
theorem Po {H H':Ak} {nx nx':Nat} {k:MK} {ps:List PV} {v:PV} (hk:Gv k=true) (h:Bi Φ H nx k ps=some v):Bi Φ H' nx' k ps=some v:=by
 unfold Bi at h ⊢;split at h
 .rename_i hq;rw[zu hq];split at h
  .simp[Gv]at hk
  .obtain⟨q,hq',rfl⟩:=Bf h;rw[iE hk hq'];rfl
 .cases h
theorem Lk {H H':Ak} {nx nx':Nat} {k:MK} {ps:List PV} {v:PV} (hh:∀b r,Aj H b=some r->Aj H' b=some r) (h:Bi Φ H nx k ps=some v):Bi Φ H' nx' k ps=some v:=by
 by_cases hk:Gv k=true
 .exact Po hk h
 .cases k<;>(first | (exact absurd rfl hk) | skip)
  case load agg n=>
   unfold Bi at h ⊢;simp only[AL,if_true]at h ⊢;obtain⟨q,hq,rfl⟩:=Bf h
   rcases ps with _ | ⟨p,_ | ⟨x,r⟩⟩<;>simp only[A0]at hq ⊢ <;> try (cases hq;done)
   obtain⟨a,ha,rfl⟩:=Bf hq
   have:AD agg n H' p=some a:=by
    unfold AD at ha ⊢;split at ha
    .exact ha
    .split at ha
     .rename_i hl;rw[hh _ _ hl];exact ha
     .cases ha
    .cases ha
   rw[this];rfl
  case call f=>
   unfold Bi at h ⊢;simp only[AL,if_true]at h ⊢;split at h
   .rename_i targs F hT;rw[MZ hh ps hT];exact h
   .cases h
  all_goals (unfold Bi at h;simp[AL]at h)
variable {l : List AF} {π : List Nat} {pa k : Nat} {R : List (Nat × Nat)}
structure iF (ops:Array Oper) (q:List (Nat×AF)) (pa k:Nat) (R:List (Nat×Nat)):Prop where
 back:∀(i:Nat) o,ops[i]?=some o->∀e∈o.after.toList,Region.binds .any e=true->e.on<i
 pair:∀(p p':Nat) x y,p<p'->q[p]?=some x->q[p']?=some y->GU (DJ ops.toList []) pa k R p p' x y=true
 all:∀i,i<ops.size->∃(p:Nat) (m:AF),q[p]?=some (i,m)
 fits:pa+k<=q.length
 grp:∀(p:Nat) x,q[p]?=some x->pa<=p->p<pa+k->JB x.2.k=true/\x.2.g=none
theorem Tg {A:List Nat}:∀{q:List (Nat×AF)} {n:Nat},MW A pa k R n q=true->∀(p p':Nat) x y,p<p'->q[p]?=some x->q[p']?=some y->GU A pa k R (n+p) (n+p') x y=true
 | [],_,_,p,p',x,y,_,h,_=>by simp at h
 | a::q,n,hq,p,p',x,y,hlt,h,h'=>by
  simp only[MW,Xg]at hq
  cases p' with
  | zero=>omega
  | succ p'=>
   simp only[Zq]at h'
   cases p with
   | zero=>
    simp only[Xx,Xd.injEq]at h;subst h
    have:=Xk.1 hq.1 (y,n+1+p') (by
     rw[Zr]
     exact⟨by omega,by rw[show n+1+p'-(n+1)=p' by omega];exact h'⟩)
    rw[show n+(p'+1)=n+1+p' by omega];simpa using this
   | succ p=>
    have:=Tg hq.2 p p' x y (by omega) (by simpa using h) h';rwa[show n+1+p=n+(p+1)by omega,show n+1+p'=n+(p'+1)by omega]at this
theorem Th (l:List AF):∀(π:List Nat) (p:Nat) x,(B9 l π)[p]?=some x->l[x.1]?=some x.2:=by
 intro π p x h;have:=Xz h;unfold B9 at this;obtain⟨i,_,hi⟩:=Yh.1 this;obtain⟨m,hm,rfl⟩:=Bf hi;exact hm
theorem iG (hl:ops.size=l.length) (h:HU ops l π pa k R=true):iF ops (B9 l π) pa k R/\(B9 l π).length=l.length/\((B9 l π).map Prod.fst).Nodup:=by
 unfold HU at h;simp only[Xg,decide_eq_true_eq,beq_iff_eq]at h;obtain⟨⟨⟨⟨⟨⟨h1,h2⟩,h3⟩,h4⟩,h5⟩,h6⟩,h7⟩:=h;refine⟨⟨λi o ho e he hb=>?_,λp p' x y hlt hx hy=>?_,λi hi=>?_,by omega,λp x hx hp hp'=>?_⟩,h2,?_⟩
 .have hq:(o,i)∈ops.toList.zipIdx:=by
   rw[Yx];simpa using ho
  have:=Xk.1 (Xk.1 h1 _ hq) e he;simpa[hb]using this
 .have:=Tg h5 p p' x y hlt hx hy;simpa using this
 .have hc:=Xk.1 h3 i (by simp;omega)
  have hmem:i∈π:=by simpa using hc
  have hil:i<l.length:=by omega
  have:(i,l[i])∈B9 l π:=Yh.2 ⟨i,hmem,by rw[Xi hil];rfl⟩;obtain⟨p,hp⟩:=Zs this;exact⟨p,_,hp⟩
 .have hm:(((B9 l π).drop pa).take k)[p-pa]?=some x:=by
   rw[Yo,zu (by omega),Y2,show pa+(p-pa)=p by omega];exact hx
  have:=Xk.1 h7 x (Xz hm);simp only[Xg,Zt]at this;exact this
 .have:(B9 l π).map Prod.fst=π.filter (λi=>(l[i]?).isSome):=by
   unfold B9;clear h1 h2 h3 h4 h5 h6 h7
   induction π with
   | nil=>rfl
   | cons i π ih=>
    simp only[Yv,Zu]
    cases hi:l[i]? with
    | none=>simpa using ih
    | some m=>simpa using ih
  rw[this];exact h4.filter _
theorem iH {L L1:Loc} {H H1:Ak} {w:World} (src:Nat->Nat) (hok:B1 P G L H w) (hI:L1.I=L.I) (hnx:L.nx<=L1.nx) (hμ:∀b,b<L.nx->L1.μ b=L.μ b)
  (h1:∀b r,Aj H1 b=some r->b<L1.nx/\Aj H (src b)=some r/\L1.μ b=L.μ (src b)) (hinj:∀b b' r r',Aj H1 b=some r->Aj H1 b'=some r'->src b=src b'->b=b') :
  B1 P G L1 H1 w/\Bh L w L1 w/\Ext L H w L1 H1 w:=by
 have hm:Bh L w L1 w:=⟨λg hg=>⟨by rw[hI];exact hg,rfl⟩,hnx,hμ,Xh _,BH.refl w⟩
 refine⟨⟨λb hb=>hok.lt b (by rw[<-hI];exact hb),λb r hb=>?_,λb r hb=>?_,λb b' r r' hb hb' he=>?_,λb r hb=>(h1 b r hb).1,DX hok hm.keeps⟩,hm,?_⟩
 .obtain⟨_,h2,h3⟩:=h1 b r hb;rw[h3];exact(hok.rep _ r h2).keep hm rfl
 .obtain⟨_,h2,h3⟩:=h1 b r hb;rw[h3,hI];exact hok.apart _ r h2
 .obtain⟨_,h2,h3⟩:=h1 b r hb;obtain⟨_,h2',h3'⟩:=h1 b' r' hb';rw[h3,h3']at he;exact hinj b b' r r' hb hb' (hok.inj _ _ r r' h2 h2' he)
 .exact⟨Xh _,λ_ _ _=>rfl,λg hg=>by rw[hI];exact hg,λg hg=>.inl (by rw[hI]at hg;exact hg),λg ⟨b,r,hb,e⟩=>.inr ⟨_,r,(h1 b r hb).2.1,(h1 b r hb).2.2.symm.trans e⟩,BH.refl w,BR.refl w⟩
def gH (row:Nat->Row) (nx:Nat):List Nat->Ak->Ak
 | [],H=>H
 | d::D,H=>(nx+D.length,row d)::gH row nx D H
def E3:List Nat->Nat->Nat
 | [],_=>0
 | d::D,p=>if d=p then D.length else E3 D p
theorem JD:∀{D:List Nat} {p:Nat},p∈D->E3 D p<D.length
 | d::D,p,h=>by
  simp only[E3,Xu];split
  .omega
  .rename_i e;have:=JD (D:=D) (p:=p) (by simpa[Ne.symm e]using h);omega
theorem Ti:∀{D:List Nat} {p p':Nat},p∈D->p'∈D->E3 D p=E3 D p'->p=p'
 | d::D,p,p',h,h',he=>by
  simp only[E3]at he;by_cases e:d=p
  .by_cases e':d=p'
   .exact e.symm.trans e'
   .rw[zu e,zw e']at he;have:=JD (D:=D) (p:=p') (by simpa[Ne.symm e']using h');omega
  .by_cases e':d=p'
   .rw[zw e,zu e']at he;have:=JD (D:=D) (p:=p) (by simpa[Ne.symm e]using h);omega
   .rw[zw e,zw e']at he;exact Ti (by simpa[Ne.symm e]using h) (by simpa[Ne.symm e']using h') he
theorem Pp {row:Nat->Row} {nx:Nat} {H:Ak}:∀(D:List Nat) {b:Nat},b<nx->Aj (gH row nx D H) b=Aj H b
 | [],_,_=>rfl
 | d::D,b,h=>by
  simp only[gH,Aj];rw[zw (by omega)];exact Pp D h
theorem Tj {row:Nat->Row} {nx:Nat} {H:Ak}:∀{D:List Nat} {p:Nat},p∈D->Aj (gH row nx D H) (nx+E3 D p)=some (row p)
 | d::D,p,h=>by
  simp only[gH,Aj,E3];by_cases e:d=p
  .subst e;simp
  .have hp:p∈D:=by simpa[Ne.symm e]using h
   rw[zw e,zw (by have:=JD hp;omega)];exact Tj hp
theorem iI {row:Nat->Row} {nx:Nat} {H:Ak} (hf:∀b r,Aj H b=some r->b<nx) (D:List Nat):∀b r,Aj H b=some r->Aj (gH row nx D H) b=some r:=λb r h=>by
 rw[Pp D (hf b r h)];exact h
theorem Pq:∀(k:Nat) {D:List Nat} {pa:Nat},D.Nodup->(∀p∈D,pa<=p/\p<pa+k)->D.length<=k
 | 0,D,pa,_,h=>by
  cases D with
  | nil=>simp
  | cons d D=>have:=h d (by simp);omega
 | k+1,D,pa,hn,h=>by
  by_cases hm:pa+k∈D
  .have h1:(D.erase (pa+k)).length<=k:=Pq k (pa:=pa) (hn.erase _) λp hp=>by
    have hp':=(hn.mem_erase_iff).1 hp;have:=h p hp'.2;have:=hp'.1;omega
   rw[List.length_erase_of_mem hm]at h1;omega
  .have:=Pq k (pa:=pa) hn (λp hp=>by
    have h1:=h p hp;have:p≠pa+k:=λe=>hm (e▸hp)
    exact⟨h1.1,by omega⟩)
   omega
theorem iJ {H H':Ak} {n n':Nat} {κ:MK} {ps:List PV} {v:PV} (hk:JB κ=true) (h:A0 Φ H n κ ps=some (v,H',n')) :
  ∃(row:Row) (gv:Nat->PV),v=gv n/\H'=(n,row)::H/\n'=n+1/\(∀H n,A0 Φ H n κ ps=some (gv n,(n,row)::H,n+1)) /\
   ∀(L:Loc) (w:World) (u:Value) (a b:Nat),b<L.nx->L.μ b=L.μ a->Aq P L w (gv a) u->Aq P L w (gv b) u:=by
 cases κ<;>simp only[JB]at hk<;>try (cases hk;done)
 case make e n0 by' zc=>
  rcases ps with _ | ⟨p,_ | ⟨x,_ | ⟨y,r⟩⟩⟩<;>simp only[A0]at h<;>try (cases h;done)
  obtain⟨q,hs,e⟩:=Bf h;injection e with e1 e2;injection e2 with e2 e3;subst e1;subst e2;subst e3;unfold IF at hs;split at hs
  .split at hs
   .rename_i hb;injection hs with hs;subst hs;refine⟨_,λn=>.row n 0 _ _,rfl,rfl,rfl,λH n=>?_,λL w u a b hb hab hr=>?_⟩
    .simp only[A0,IF,zu hb,Xq]
    .simp only[Aq]at hr ⊢;rw[hab];exact⟨hb,hr.2⟩
   .cases hs
  .cases hs
 case alloc t zc=>
  rcases ps with _ | ⟨p,r⟩<;>simp only[A0]at h<;>try (cases h;done)
  injection h with e;injection e with e1 e2;injection e2 with e2 e3;subst e1;subst e2;subst e3;refine⟨_,λn=>.ptr n 0,rfl,rfl,rfl,λH n=>by simp only[A0],λL w u a b hb hab hr=>?_⟩;simp only[Aq]at hr ⊢;rw[hab];exact⟨hb,hr.2⟩
theorem Ll {ms:List AF} {st:Nat->Am} {vals:Nat->PV} {s:Am} (h0:st 0=s) (hall:∀(p:Nat) m,ms[p]?=some m->(st (p+1)).env=((st p).put m.dst (vals p)).env):∀(p:Nat),p<=ms.length->∀k q,Aj (st p).env k=some q ->
  (∃j m,j<p/\ms[j]?=some m/\m.dst=some k/\q=vals j)\/((∀j m,j<p->ms[j]?=some m->m.dst≠some k)/\Aj s.env k=some q)
 | 0,_,k,q,h=>.inr ⟨λj m hj=>by omega,by rw[h0]at h;exact h⟩
 | p+1,hp,k,q,h=>by
  obtain⟨m,hm⟩:∃m,ms[p]?=some m:=⟨_,Xi (by omega)⟩
  rw[hall p m hm]at h;rcases RD h with⟨e,rfl⟩ | ⟨e,h'⟩
  .exact .inl ⟨p,m,by omega,hm,e,rfl⟩
  .rcases Ll h0 hall p (by omega) k q h' with⟨j,mj,hj,hmj,hd,hq⟩ | ⟨hno,hs⟩
   .exact .inl ⟨j,mj,by omega,hmj,hd,hq⟩
   .refine .inr ⟨λj mj hj hmj=>?_,hs⟩;by_cases ej:j=p
    .subst ej;rw[hm]at hmj;injection hmj with hmj;subst hmj;exact e
    .exact hno j mj (by omega) hmj
structure JE (Φ:AP) (ms:List AF) (pa k:Nat) (R:List (Nat×Nat)) (s s2:Am) (st:Nat->Am) (vals:Nat->PV):Prop where
 start:st 0=s
 stop:st ms.length=s2
 norm:∀(p:Nat) m,ms[p]?=some m->(p<pa\/pa+k<=p)->Did Φ (st p) m (vals p) (st (p+1))
 grp:∀(p:Nat) m,ms[p]?=some m->pa<=p->p<pa+k->∃H' n',A0 Φ (st p).H ((st pa).nx+k+(p-pa)) m.k (m.xs.map (·.ev (st p).env))=some (vals p,H',n') /\
  st (p+1)=({ st p with H:=H',nx:=(st pa).nx+2*k }:Am).put m.dst (vals p)
 again:∀(p p':Nat) m,(p,p')∈R->ms[p]?=some m->Bi Φ (st (p'+1)).H (st (p'+1)).nx m.k (m.xs.map (·.ev (st p).env))=some (vals p)
theorem JE.env {ms:List AF} {s s2:Am} {st:Nat->Am} {vals:Nat->PV} (h:JE Φ ms pa k R s s2 st vals) {p:Nat} {m:AF} (hm:ms[p]?=some m) :
  (st (p+1)).env=((st p).put m.dst (vals p)).env/\(st (p+1)).n=(st p).n:=by
 by_cases hp:p<pa\/pa+k<=p
 .exact Tf (h.norm p m hm hp)
 .obtain⟨H',n',_,e⟩:=h.grp p m hm (by omega) (by omega);rw[e];refine⟨?_,by rw[FM]⟩;cases m.dst<;>rfl
structure Tk (P:Program) (G:AM) (B:Nat) (q:List (Nat×AF)) (pa k:Nat) (row:Nat->Row) (gv:Nat->Nat->PV) (st:Nat->Am) (vals:Nat->PV) (s:Am) (L0:Loc) (w0:World) (S:Array Bool) (p0:Nat) (D:List Nat) (L:Loc) (a:Act) (w:World):Prop where
 le:p0<=q.length
 part:D≠[]->p0=pa/\∃p,pa<=p/\p<pa+k/\p∉D
 grp:∀p∈D,pa<=p/\p<pa+k
 nodup:D.Nodup
 out:p0<=pa\/pa+k<=p0
 done:∀(p:Nat) x,q[p]?=some x->AL x.2.k=false->(S.getD x.1 false=true ↔ p<p0\/p∈D)
 heap:B1 P G L (gH row (st p0).nx D (st p0).H) w
 nx:L.nx=(st p0).nx+D.length
 base:B<=L.nx
 size:a.tmps.size=s.n
 defers:a.defers=[]
 vals:∀(p:Nat) x,q[p]?=some x->S.getD x.1 false=true->p∉D->∀k,x.2.dst=some k->Aq P L w (vals p) (a.tmps.getD k undef)
 gvals:∀(p:Nat) x,q[p]?=some x->p∈D->∀k,x.2.dst=some k->Aq P L w (gv p ((st p0).nx+E3 D p)) (a.tmps.getD k undef)
 old:∀k u,(∀(p:Nat) x,q[p]?=some x->S.getD x.1 false=true->x.2.dst≠some k)->Aj s.env k=some u->Aq P L w u (a.tmps.getD k undef)
 ext:Ext L0 s.H w0 L (gH row (st p0).nx D (st p0).H) w
 μ:∀b,b<B->L.μ b=L0.μ b
theorem Tl (hmix:P.follows .mixedOrders=true) (hΦ:Φ.Sound P G) {Q:Exit->Am->Prop} {s s2:Am} {st:Nat->Am} {vals:Nat->PV} {id:Nat} (ha0:ops.toList.mapM (Em P G N true ops)=some l) (hd0:HU ops l π pa k R=true)
  (hn:s.n=N) (hrun:JE Φ ((B9 l π).map Prod.snd) pa k R s s2 st vals) (hq:Q .normal s2):Cm P G B (.region id ops true) Q s:=by
 intro L0 a0 w0 hi0;have ha:=JA ha0
 have hlen:ops.size=l.length:=by have:=(ha.at_ 0).2;simpa using this
 obtain⟨hd,hql,hnodup⟩:=iG hlen hd0;have h0:=hrun.start;have hlast:=hrun.stop;simp only[Yg]at hlast;generalize hq':B9 l π=q at *
 have hmem:∀(p:Nat) x,q[p]?=some x->l[x.1]?=some x.2:=by intro p x hx;rw[<-hq']at hx;exact Th l π p x hx
 have hms:∀(p:Nat) x,q[p]?=some x->(q.map Prod.snd)[p]?=some x.2:=by intro p x hx;simp[hx]
 have hall:∀(p:Nat) m,(q.map Prod.snd)[p]?=some m->(st (p+1)).env=((st p).put m.dst (vals p)).env:=λp m hm=>(hrun.env hm).1;have step:∀(p:Nat) x,q[p]?=some x->(p<pa\/pa+k<=p)->Did Φ (st p) x.2 (vals p) (st (p+1)):=λp x hx=>hrun.norm p x.2 (hms p x hx)
 have gkind:∀(p:Nat) x,q[p]?=some x->pa<=p->p<pa+k->AL x.2.k=false/\Fp x.2.k=true:=by
  intro p x hx h1 h2;have:=(hd.grp p x hx h1 h2).1;revert this;cases x.2.k<;>simp[JB,AL,Fp]
 have grp0:∀p,∃(row:Row) (gv:Nat->PV),∀x,q[p]?=some x->pa<=p->p<pa+k->vals p=gv ((st pa).nx+k+(p-pa)) /\
   st (p+1)=({ st p with H:=((st pa).nx+k+(p-pa),row)::(st p).H,nx:=(st pa).nx+2*k }:Am).put x.2.dst (vals p) /\
   (∀H n,A0 Φ H n x.2.k (x.2.xs.map (·.ev (st p).env))=some (gv n,(n,row)::H,n+1)) /\
   ∀(L:Loc) (w:World) (u:Value) (a b:Nat),b<L.nx->L.μ b=L.μ a->Aq P L w (gv a) u->Aq P L w (gv b) u:=by
  intro p;by_cases hp:∃x,q[p]?=some x/\pa<=p/\p<pa+k
  .obtain⟨x,hx,h1,h2⟩:=hp;obtain⟨H',n',he,hst⟩:=hrun.grp p x.2 (hms p x hx) h1 h2;obtain⟨row,gv,e1,e2,e3,e4,e5⟩:=iJ (P:=P) (hd.grp p x hx h1 h2).1 he;refine⟨row,gv,λy hy _ _=>?_⟩;rw[hx]at hy;injection hy with hy;subst hy;exact⟨e1,by rw[hst,e2],e4,e5⟩
  .exact⟨default,λ_=>.dead,λx hx h1 h2=>absurd ⟨x,hx,h1,h2⟩ hp⟩
 have ⟨row,grp1⟩:=Classical.axiomOfChoice grp0;have ⟨gv,grp⟩:=Classical.axiomOfChoice grp1
 have uniq:∀(p p':Nat) x y,q[p]?=some x->q[p']?=some y->x.1=y.1->p=p':=by
  intro p p' x y hx hy e
  have h1:(q.map Prod.fst)[p]?=some x.1:=by simp[hx]
  have h2:(q.map Prod.fst)[p']?=some x.1:=by simp[hy,e]
  have hp:=(Xj.1 h1).1;exact(Zv hp hnodup).1 (h1.trans h2.symm)
 have hfit:=hd.fits
 have gnx:∀j,pa+j+1<=pa+k->(st (pa+j+1)).nx=(st pa).nx+2*k:=by
  intro j hj;have hx:q[pa+j]?=some q[pa+j]:=Xi (by omega);rw[(grp (pa+j) _ hx (by omega) (by omega)).2.1,EW]
 have fresh:∀p,p<=q.length->GV (st p):=by
  intro p
  induction p with
  | zero=>intro _;rw[h0];exact λb r hb=>by have:=hi0.heap.nx b r hb;rw[hi0.nx]at this;exact this
  | succ p ih=>
   intro hp;have hx:q[p]?=some q[p]:=Xi (by omega);by_cases hg:p<pa\/pa+k<=p
   .exact(Lj hΦ (step p _ hx hg) (ih (by omega))).1
   .rw[(grp p _ hx (by omega) (by omega)).2.1];unfold GV;rw[DV,EW];intro b r hb;simp only[Aj]at hb;show b<(st pa).nx+2*k;split at hb
    .omega
    .have h1:=ih (by omega) b r hb;by_cases e:p=pa
     .subst e;omega
     .have:=gnx (p-1-pa) (by omega);rw[show pa+(p-1-pa)+1=p by omega]at this;omega
 have flat:∀(a b:Nat),a<=b->b<=q.length->(∀(p:Nat) x,a<=p->p<b->q[p]?=some x->AL x.2.k=true)->(st b).H=(st a).H/\(st b).nx=(st a).nx:=by
  intro a b hab
  induction b with
  | zero=>
   intro _ _
   have:a=0:=by omega
   subst this;exact⟨rfl,rfl⟩
  | succ b ih=>
   intro hb hno;by_cases e:a=b+1
   .subst e;exact⟨rfl,rfl⟩
   .have hx:q[b]?=some q[b]:=Xi (by omega);have hqb:=hno b _ (by omega) (by omega) hx
    have h1:=MY (step b _ hx (by
     rcases Xr b pa with h | h
     .exact .inl h
     .rcases Xr b (pa+k)with h' | h'
      .have:=(gkind b _ hx h h').1;rw[hqb]at this;cases this
      .exact .inr h')) hqb
    have h2:=ih (by omega) (by omega) (λp x h1 h2 h3=>hno p x h1 (by omega) h3);exact⟨h1.1.trans h2.1,h1.2.trans h2.2⟩
 have nconst:∀p,p<=q.length->(st p).n=s.n:=by
  intro p
  induction p with
  | zero=>intro _;rw[h0]
  | succ p ih=>
   intro hp;have hx:q[p]?=some q[p]:=Xi (by omega);rw[(hrun.env (hms p _ hx)).2,ih (by omega)]
 have gafter:∀j,j<=k->∀b r,Aj (st (pa+j)).H b=some r->(b<(st pa).nx/\Aj (st pa).H b=some r)\/∃i,i<j/\b=(st pa).nx+k+i/\r=row (pa+i):=by
  intro j
  induction j with
  | zero=>intro _ b r hb;exact .inl ⟨fresh pa (by have:=hd.fits;omega) b r hb,hb⟩
  | succ j ih=>
   intro hj b r hb;have hx:q[pa+j]?=some q[pa+j]:=Xi (by omega);rw[show pa+(j+1)=pa+j+1 by omega,(grp (pa+j) _ hx (by omega) (by omega)).2.1,DV]at hb;simp only[Aj]at hb;split at hb
   .rename_i e;injection hb with hb;exact .inr ⟨j,by omega,by omega,hb.symm⟩
   .rcases ih (by omega) b r hb with h | ⟨i,hi,e1,e2⟩
    .exact .inl h
    .exact .inr ⟨i,by omega,e1,e2⟩
 refine wp_region_any hmix ?_
 have main:∀(fuel:Nat) (S:Array Bool) (p0:Nat) (D:List Nat) (L:Loc) (a:Act) (w:World),S.size=ops.size->IB ops S->ops.size<=cnt S+fuel ->
   Tk P G B q pa k row gv st vals s L0 w0 S p0 D L a w->wpAny P .any ops (B8 P G B Q L0 s.H w0) fuel S a w:=by
  have full:∀(S:Array Bool) (p0:Nat) (D:List Nat) (L:Loc) (a:Act) (w:World),(∀i,i<ops.size->S.getD i false=true)->Tk P G B q pa k row gv st vals s L0 w0 S p0 D L a w->B8 P G B Q L0 s.H w0 .normal a w:=by
   intro S p0 D L a w hS inv;have hxi:∀(p:Nat) x,q[p]?=some x->S.getD x.1 false=true:=λp x hx=>hS _ (by have:=(Xj.1 (hmem p x hx)).1;omega)
   have hD:D=[]:=by
    cases D with
    | nil=>rfl
    | cons d D=>
     obtain⟨e,p,h1,h2,h3⟩:=inv.part (by simp);have hx:q[p]?=some q[p]:=Xi (by omega);rcases (inv.done p _ hx (gkind p _ hx h1 h2).1).1 (hxi p _ hx)with h | h
     .omega
     .exact absurd h h3
   subst hD;have hheap:=inv.heap;have hnx:=inv.nx;have hext:=inv.ext;simp only[gH,Zw,X5]at hheap hnx hext
   have hf:=flat p0 q.length inv.le (Xh _) (λp x h1 h2 h3=>by
    cases hk:AL x.2.k with
    | true=>rfl
    | false=>
     rcases (inv.done p x h3 hk).1 (hxi p x h3)with h | h
     .omega
     .simp at h)
   refine⟨s2,L,hq,⟨?_,?_,inv.base,?_,inv.defers,λk u hl=>?_⟩,?_,inv.μ⟩
   .rw[<-hlast,hf.1];exact hheap
   .rw[<-hlast,hf.2];exact hnx
   .rw[<-hlast,nconst _ (Xh _)];exact inv.size
   .rw[<-hlast]at hl;rcases Ll h0 hall q.length (by simp) k u hl with⟨j,m,hj,hmj,hdst,rfl⟩ | ⟨hno,hs⟩
    .have hx:q[j]?=some q[j]:=Xi hj
     have e:m=q[j].2:=by rw[hms j _ hx]at hmj;injection hmj with hmj;exact hmj.symm
     subst e;exact inv.vals j _ hx (hxi j _ hx) (by simp) k hdst
    .refine inv.old k u (λp x hx _=>hno p x.2 ?_ (hms p x hx)) hs;exact(Xj.1 hx).1
   .rw[<-hlast,hf.1];exact hext
  intro fuel
  induction fuel with
  | zero=>
   intro S p0 D L a w hs hS hc inv;have hall':=Tc (S:=S) (by omega);refine⟨?_,full S p0 D L a w (λi hi=>hall' i (by omega)) inv⟩;rw[Zx];intro i hi;obtain⟨h1,h2,_⟩:=MX hi;rw[JC (by omega),hall' i (by omega)]at h2;cases h2
  | succ fuel ih=>
   intro S p0 D L a w hs hS hc inv;refine⟨λhr=>?_,λi hi=>?_⟩
   .refine full S p0 D L a w (λi=>?_) inv
    induction i using Zy with
    | _ i ihi=>
     intro hi
     cases hS':S.getD i false with
     | true=>rfl
     | false=>
      exfalso
      have:i∈Region.ready .any ops S:=Ta (o:=ops[i]) (Xo hi) (by rw[JC (by omega)];exact hS')
       (λe he hb=>by
        have:=hd.back i _ (Xo hi) e he hb
        exact ihi _ this (by omega))
      rw[hr]at this;cases this
   .obtain⟨hi1,hun,o,ho,hp⟩:=MX hi;rw[JC (by omega)]at hun;obtain⟨p,mi,hx⟩:=hd.all i hi1;have hpl:p<q.length:=(Xj.1 hx).1;obtain⟨mi',hmi',hcomp⟩:=(ha.at_ i).1 o (by simpa using ho)
    have emi:mi'=mi:=by have:=hmem p _ hx;simp only at this;rw[this]at hmi';injection hmi' with h;exact h.symm
    subst emi;obtain⟨hcop,hdst,hdlt,hwants⟩:=KY hcomp;have bef:∀j,((DJ ops.toList []).getD i 0).testBit j=true->S.getD j false=true:=λj hb=>MM hS ho hb hp
    have aft:∀j,j<ops.size->((DJ ops.toList []).getD j 0).testBit i=true->S.getD j false=false:=by
     intro j hj hb
     cases hSj:S.getD j false with
     | false=>rfl
     | true=>
      have hjo:ops[j]?=some ops[j]:=Xo hj;have:=MM hS hjo hb (hS j _ hjo hSj);rw[this]at hun;cases hun
    have idx:∀(p':Nat) y,q[p']?=some y->y.1<ops.size:=λp' y hy=>by have:=(Xj.1 (hmem p' y hy)).1;omega
    have pD:p∉D:=λh=>by
     have hg:=inv.grp p h;have:=(inv.done p _ hx (gkind p _ hx hg.1 hg.2).1).2 (.inr h);simp only at this;rw[this]at hun;cases hun
    have hbefore:∀(p':Nat) y,p'<p->q[p']?=some y->AL y.2.k=false->¬(pa<=p'/\p<pa+k)->S.getD y.1 false=true:=by
     intro p' y hlt hy hyk hng;refine bef _ ?_;have hok:=hd.pair p' p _ _ hlt hy hx;unfold GU at hok;simp only[Xg]at hok;have h1:=hok.1.1.1;rw[hyk]at h1;simp only[Zz,X7,Xt,Xg,decide_eq_true_eq]at h1;rcases h1 with h1 | h1
     .exact h1
     .exact absurd h1 hng
    have nogrp:D≠[]->p<pa+k:=λhD=>by
     rcases Xr p (pa+k)with h | h
     .exact h
     .obtain⟨e,p',h1,h2,h3⟩:=inv.part hD;have hy:q[p']?=some q[p']:=Xi (by omega);have hyk:=(gkind p' _ hy h1 h2).1;rcases (inv.done p' _ hy hyk).1 (hbefore p' _ (by omega) hy hyk (by omega))with h | h
      .omega
      .exact absurd h h3
    have eye:∀k u,k∈mi'.eyes->Aj (st p).env k=some u->Aq P L w u (a.tmps.getD k undef):=by
     intro k' u hke hl;rcases Ll h0 hall p (by simp;omega) k' u hl with⟨j,m,hj,hmj,hdj,rfl⟩ | ⟨hno,hs'⟩
     .have hy:q[j]?=some q[j]:=Xi (by omega)
      have e:m=q[j].2:=by rw[hms j _ hy]at hmj;injection hmj with hmj;exact hmj.symm
      subst e;have hok:=hd.pair j p _ _ hj hy hx;unfold GU at hok;simp only[Xg]at hok;have h2:=hok.1.1.2;rw[hdj]at h2;simp only[Xt,X0,Xg]at h2;rcases h2 with h2 | ⟨h2,h3⟩
      .exact absurd hke (by simpa using h2)
      .refine inv.vals j _ hy (bef _ h2) (λhjD=>?_) k' hdj;have h4:=(inv.grp j hjD).1;have h5:=nogrp (Yy hjD);simp[h4,h5]at h3
     .refine inv.old k' u (λp' y hy hSy hdy=>?_) hs';rcases Z0 p' p with hlt | heq | hgt
      .exact hno p' y.2 hlt (hms p' y hy) hdy
      .subst heq;rw[hx]at hy;injection hy with hy;subst hy;simp only at hSy;rw[hSy]at hun;cases hun
      .have hok:=hd.pair p p' _ _ hgt hx hy;unfold GU at hok;simp only[Xg]at hok;have h3:=hok.1.2;rw[hdy]at h3;simp only[Xt,X0]at h3;rcases h3 with h3 | h3
       .exact absurd hke (by simpa using h3)
       .have:=aft y.1 (idx p' y hy) h3;rw[this]at hSy;cases hSy
    have hS':IB ops (S.setIfInBounds i true):=by
     intro j oj hoj hj e he hb;rw[EF S i _ (by omega)]at hj ⊢;split
     .rfl
     .split at hj
      .rename_i e1;subst e1;rw[ho]at hoj;injection hoj with hoj;subst hoj;exact hp e he hb
      .exact hS j oj hoj hj e he hb
    have hc':ops.size<=cnt (S.setIfInBounds i true)+fuel:=by rw[Tb (by omega) hun];omega
    have dsts:∀(p':Nat) y k',q[p']?=some y->i≠y.1->y.2.dst=some k'->o.dst≠some k':=by
     intro p' y k' hy e hk;rw[<-hdst];intro hcon
     have epn:p≠p':=λep=>by subst ep;rw[hx]at hy;injection hy with hy;subst hy;exact e rfl
     rcases Z1 epn with hlt | hgt
     .have hok:=hd.pair p p' _ _ hlt hx hy;unfold GU at hok;simp only[Xg]at hok;have h4:=hok.2;rw[hcon]at h4;simp only[bne_iff_ne]at h4;exact h4 hk
     .have hok:=hd.pair p' p _ _ hgt hy hx;unfold GU at hok;simp only[Xg]at hok;have h4:=hok.2;rw[hk]at h4;simp only[bne_iff_ne]at h4;exact h4 hcon
    have next:∀(p1:Nat) (L':Loc) (w':World) (u:Value),p1<=q.length->(D≠[]->p1=p0)->(p1<=pa\/pa+k<=p1)->(st p1).nx=(st p1).nx ->
      (∀(p':Nat) y,q[p']?=some y->AL y.2.k=false->((S.setIfInBounds i true).getD y.1 false=true ↔ p'<p1\/p'∈D)) ->
      Aq P L' w' (vals p) u->B1 P G L' (gH row (st p1).nx D (st p1).H) w'->L'.nx=(st p1).nx+D.length->Bh L w L' w'->Ext L (gH row (st p0).nx D (st p0).H) w L' (gH row (st p1).nx D (st p1).H) w' ->
      wpAny P .any ops (B8 P G B Q L0 s.H w0) fuel (S.setIfInBounds i true) (a.put o.dst u) w':=by
     intro p1 L' w' u hp1 hDp hout _ hdone hru hok' hnx' hm' hx';refine ih _ p1 D L' _ w' (by simpa using hs) hS' hc' ⟨hp1,λhD=>?_,inv.grp,inv.nodup,hout,hdone,hok',hnx',X1 inv.base hm'.nx,?_,?_,?_,?_,?_,inv.ext.trans hx',λb hb=>(hm'.μ b (X6 hb inv.base)).trans (inv.μ b hb)⟩
     .rw[hDp hD];exact inv.part hD
     .rw[<-inv.size];cases o.dst<;>simp[Act.put]
     .cases o.dst<;>simp[Act.put,inv.defers]
     .intro p' y hy hSy hpD k' hk;rw[Gp];by_cases e:i=y.1
      .have ep:=uniq p p' _ _ hx hy e;subst ep;rw[hx]at hy;injection hy with hy;subst hy;rw[zu ⟨by rw[<-hdst];exact hk,by rw[inv.size,hn];exact hdlt k' (by rw[<-hdst];exact hk)⟩];exact hru
      .rw[EF S i _ (by omega),zw e]at hSy;rw[zw (λh=>dsts p' y k' hy e hk h.1)];exact Aq.keep hm' _ (inv.vals p' y hy hSy hpD k' hk)
     .intro p' y hy hpD k' hk;rw[Gp]
      have e:i≠y.1:=λe=>by
       have ep:=uniq p p' _ _ hx hy e;subst ep;exact pD hpD
      rw[zw (λh=>dsts p' y k' hy e hk h.1),hDp (Yy hpD)];exact Aq.keep hm' _ (inv.gvals p' y hy hpD k' hk)
     .intro k' u' hno h0';rw[Gp];have hk:=hno p _ hx (by rw[EF S i _ (by omega),zu rfl]);rw[zw (λh=>hk (by rw[hdst];exact h.1))];refine Aq.keep hm' u' (inv.old k' u' (λp' y hy hSy=>hno p' y hy ?_) h0');rw[EF S i _ (by omega)];split
      .rfl
      .exact hSy
    have keepdone:AL mi'.k=true->∀(p':Nat) y,q[p']?=some y->AL y.2.k=false->((S.setIfInBounds i true).getD y.1 false=true ↔ p'<p0\/p'∈D):=by
     intro hquiet p' y hy hyk;rw[EF S i _ (by omega)];by_cases e:i=y.1
     .have ep:=uniq p p' _ _ hx hy e;subst ep;rw[hx]at hy;injection hy with hy;subst hy;rw[hquiet]at hyk;cases hyk
     .rw[zw e];exact inv.done p' y hy hyk
    have hi':Interp P G B L ({ ((st p).only mi'.eyes)with H:=gH row (st p0).nx D (st p0).H,nx:=(st p0).nx+D.length }:Am) a w:=by
     refine⟨inv.heap,inv.nx,inv.base,by show a.tmps.size=(st p).n;rw[nconst p (by omega)];exact inv.size,inv.defers,λk u hl=>?_⟩;have hl':Aj ((st p).only mi'.eyes).env k=some u:=hl;rw[Lg]at hl';split at hl'
     .rename_i hke;exact eye k u hke hl'
     .cases hl'
    have hww:({ ((st p).only mi'.eyes)with H:=gH row (st p0).nx D (st p0).H,nx:=(st p0).nx+D.length }:Am).wants ops o=mi'.wants (st p).env:=by
     rw[hwants];exact SZ (st p) mi' mi'.eyes (λ_ h=>h)
    have hev:mi'.xs.map (·.ev ({ ((st p).only mi'.eyes)with H:=gH row (st p0).nx D (st p0).H,nx:=(st p0).nx+D.length }:Am).env)=mi'.xs.map (·.ev (st p).env):=SY (st p) mi' mi'.eyes (λ_ h=>h);unfold wpOp;rw[ho];simp only;by_cases hgp:pa<=p/\p<pa+k
    .
     have hk:=gkind p _ hx hgp.1 hgp.2;simp only at hk;obtain⟨gval,gst,gev,grep⟩:=grp p _ hx hgp.1 hgp.2;simp only at gval gst gev grep
     have hp0:p0<=pa:=by
      rcases inv.out with h | h
      .exact h
      .have:=(inv.done p _ hx hk.1).2 (.inl (by omega));simp only at this;rw[this]at hun;cases hun
     have hpa:=hd.fits
     have hf:=flat p0 pa hp0 (by omega) (λp' y h1 h2 h3=>by
      cases hyk:AL y.2.k with
      | true=>rfl
      | false=>
       rcases (inv.done p' y h3 hyk).1 (hbefore p' y (by omega) h3 hyk (by omega))with h | h
       .omega
       .have:=inv.grp p' h;omega)
     have hwt:mi'.wants (st p).env=some true:=by
      have:=(hd.grp p _ hx hgp.1 hgp.2).2;simp only at this;simp[AF.wants,this]
     rw[zu (hi'.wants (hww.trans hwt))];have hek':=gev (gH row (st p0).nx D (st p0).H) ((st p0).nx+D.length);rw[<-hev]at hek';have haop:=J9 (B:=B) hΦ hcop hek' L a w hi';refine .inl (Gm ?_ (λ_ _ _ h=>h.elim) haop);rintro a' w' ⟨u,L',rfl,hru,hok',hnx',hm',hx'⟩;have hnodup':(p::D).Nodup:=X4.2 ⟨pD,inv.nodup⟩
     have hgrp':∀p'∈p::D,pa<=p'/\p'<pa+k:=by
      intro p' h;rcases X3.1 h with rfl | h
      .exact hgp
      .exact inv.grp p' h
     have hdone':∀(p':Nat) y,q[p']?=some y->AL y.2.k=false->((S.setIfInBounds i true).getD y.1 false=true ↔ p'<p0\/p'∈p::D):=by
      intro p' y hy hyk;rw[EF S i _ (by omega)];by_cases e:i=y.1
      .have ep:=uniq p p' _ _ hx hy e;subst ep;simp[e]
      .rw[zw e,inv.done p' y hy hyk,X3]
       have:p'≠p:=λep=>by subst ep;rw[hx]at hy;injection hy with hy;subst hy;exact e rfl
       simp[this]
     have hvals':∀(p':Nat) y,q[p']?=some y->(S.setIfInBounds i true).getD y.1 false=true->p'∉p::D->∀k',y.2.dst=some k'->Aq P L' w' (vals p') ((a.put o.dst u).tmps.getD k' undef):=by
      intro p' y hy hSy hpD k' hk;rw[Gp]
      have e:i≠y.1:=λe=>by
       have ep:=uniq p p' _ _ hx hy e;subst ep;exact hpD (by simp)
      rw[EF S i _ (by omega),zw e]at hSy;rw[zw (λh=>dsts p' y k' hy e hk h.1)];exact Aq.keep hm' _ (inv.vals p' y hy hSy (λh=>hpD (by simp[h])) k' hk)
     have hgvals':∀(p':Nat) y,q[p']?=some y->p'∈p::D->∀k',y.2.dst=some k'->Aq P L' w' (gv p' ((st p0).nx+E3 (p::D) p')) ((a.put o.dst u).tmps.getD k' undef):=by
      intro p' y hy hpD k' hk;rw[Gp];by_cases ep:p=p'
      .subst ep;rw[hx]at hy;injection hy with hy;subst hy;rw[zu ⟨by rw[<-hdst];exact hk,by rw[inv.size,hn];exact hdlt k' (by rw[<-hdst];exact hk)⟩];simpa[E3]using hru
      .have e:i≠y.1:=λe=>ep (uniq p p' _ _ hx hy e)
       have hpD':p'∈D:=by simpa[Ne.symm ep]using hpD
       rw[zw (λh=>dsts p' y k' hy e hk h.1)];simp only[E3,zw ep];exact Aq.keep hm' _ (inv.gvals p' y hy hpD' k' hk)
     have hold':∀k' u',(∀(p':Nat) y,q[p']?=some y->(S.setIfInBounds i true).getD y.1 false=true->y.2.dst≠some k')->Aj s.env k'=some u'->Aq P L' w' u' ((a.put o.dst u).tmps.getD k' undef):=by
      intro k' u' hno h0';rw[Gp];have hk:=hno p _ hx (by rw[EF S i _ (by omega),zu rfl]);rw[zw (λh=>hk (by rw[hdst];exact h.1))];refine Aq.keep hm' u' (inv.old k' u' (λp' y hy hSy=>hno p' y hy ?_) h0');rw[EF S i _ (by omega)];split
      .rfl
      .exact hSy
     have hsz:(a.put o.dst u).tmps.size=s.n:=by rw[<-inv.size];cases o.dst<;>simp[Act.put]
     have hdf:(a.put o.dst u).defers=[]:=by cases o.dst<;>simp[Act.put,inv.defers]
     have hxt:=inv.ext.trans hx';have hμ':∀b,b<B->L'.μ b=L0.μ b:=λb hb=>(hm'.μ b (X6 hb inv.base)).trans (inv.μ b hb);have hDk:(p::D).length<=k:=Pq k hnodup' hgrp';simp only[Xu]at hDk;by_cases hmiss:∃p',pa<=p'/\p'<pa+k/\p'∉p::D
     .
      refine ih _ pa (p::D) L' _ w' (by simpa using hs) hS' hc' ⟨by omega,λ_=>⟨rfl,hmiss⟩,hgrp',hnodup',.inl (Xh _),?_,?_,?_,X1 inv.base hm'.nx,hsz,hdf,hvals',?_,hold',?_,hμ'⟩
      .intro p' y hy hyk;rw[hdone' p' y hy hyk];constructor
       .rintro(h | h)
        .exact .inl (by omega)
        .exact .inr h
       .rintro(h | h)
        .refine(inv.done p' y hy hyk).1 (hbefore p' y (by omega) hy hyk (by omega)) |>.imp (λh=>h) (λh'=>by simp[h'])
        .exact .inr h
      .rw[hf.1,hf.2];exact hok'
      .rw[hf.2,Xu];omega
      .rw[hf.2];exact hgvals'
      .rw[hf.1,hf.2];exact hxt
     .
      have hmem':∀j,j<k->pa+j∈p::D:=λj hj=>Classical.byContradiction λh=>hmiss ⟨pa+j,by omega,by omega,h⟩;have nx0:(st p0).nx=(st pa).nx:=hf.2.symm
      have hkpos:0<k:=by omega
      have hend:=gnx (k-1) (by omega);rw[show pa+(k-1)+1=pa+k by omega]at hend
      have hgk:∀j,j<k->E3 (p::D) (pa+j)<k:=λj hj=>by have:=JD (hmem' j hj);simp only[Xu]at this;omega
      obtain⟨hok1,hm1,hx1⟩:=iH (L1:={ I:=L'.I,μ:=λb=>if(st pa).nx+k<=b then L'.μ ((st pa).nx+E3 (p::D) (pa+(b-((st pa).nx+k))))else L'.μ b,nx:=(st pa).nx+2*k }) (H1:=(st (pa+k)).H)
       (λb=>if(st pa).nx+k<=b then(st pa).nx+E3 (p::D) (pa+(b-((st pa).nx+k)))else b) hok' rfl (by rw[hnx',nx0];simp only;omega) (λb hb=>by
        rw[hnx',nx0]at hb;simp only
        rw[zw (by omega)]) (λb r hb=>by
        rcases gafter k (Xh _) b r hb with⟨h1,h2⟩ | ⟨j,hj,rfl,rfl⟩
        .refine⟨by simp only;omega,?_,?_⟩
         .rw[zw (by omega)];have:=Pp (row:=row) (nx:=(st p0).nx) (H:=(st p0).H) (p::D) (b:=b) (by omega);simp only[gH]at this;rw[this,<-hf.1];exact h2
         .simp only;rw[zw (by omega),zw (by omega)]
        .refine⟨by simp only;omega,?_,?_⟩
         .rw[zu (by omega),show(st pa).nx+k+j-((st pa).nx+k)=j by omega];have:=Tj (row:=row) (nx:=(st p0).nx) (H:=(st p0).H) (hmem' j hj);simp only[gH]at this;rw[nx0]at this;rw[nx0];exact this
         .simp only;rw[zu (by omega),zu (by omega)]) (λb b' r r' hb hb' he=>by
        rcases gafter k (Xh _) b r hb with⟨h1,h2⟩ | ⟨j,hj,rfl,rfl⟩<;>rcases gafter k (Xh _) b' r' hb' with⟨h1',h2'⟩ | ⟨j',hj',rfl,rfl⟩
        .rw[zw (by omega),zw (by omega)]at he;exact he
        .rw[zw (by omega),zu (by omega)]at he;omega
        .rw[zu (by omega),zw (by omega)]at he;omega
        .rw[zu (by omega),zu (by omega),show(st pa).nx+k+j-((st pa).nx+k)=j by omega,show(st pa).nx+k+j'-((st pa).nx+k)=j' by omega]at he;have:=Ti (hmem' j hj) (hmem' j' hj') (by omega)
         omega)
      refine ih _ (pa+k) [] _ _ w' (by simpa using hs) hS' hc' ⟨by omega,λh=>absurd rfl h,by simp,Z2,.inr (Xh _),?_,by simp only[gH];exact hok1,by simp only[Zw,X5];exact hend.symm,X1 inv.base (X1 hm'.nx hm1.nx),hsz,hdf,?_,by simp,λk' u' h1 h2=>Aq.keep hm1 _ (hold' k' u' h1 h2),by simp only[gH];exact hxt.trans hx1,λb hb=>(hm1.μ b (X6 hb (X1 inv.base hm'.nx))).trans (hμ' b hb)⟩
      .intro p' y hy hyk;rw[hdone' p' y hy hyk];constructor
       .rintro(h | h)
        .exact .inl (by omega)
        .exact .inl (hgrp' p' h).2
       .rintro(h | h)
        .rcases Xr p' pa with h1 | h1
         .refine(inv.done p' y hy hyk).1 (hbefore p' y (by omega) hy hyk (by omega)) |>.imp (λh=>h) (λh'=>by simp[h'])
         .have:=hmem' (p'-pa) (by omega);rw[show pa+(p'-pa)=p' by omega]at this;exact .inr this
        .simp at h
      .intro p' y hy hSy _ k' hk';by_cases hpD:p'∈p::D
       .have hg:=hgrp' p' hpD;have h1:=Aq.keep hm1 _ (hgvals' p' y hy hpD k' hk');obtain⟨e1,_,_,e4⟩:=grp p' y hy hg.1 hg.2;rw[e1];refine e4 _ _ _ _ _ (by simp only;omega) ?_ h1;simp only;have:=JD hpD;simp only[Xu]at this;rw[zu (by omega),show(st pa).nx+k+(p'-pa)-((st pa).nx+k)=p'-pa by omega,show pa+(p'-pa)=p' by omega,nx0,zw (by omega)]
       .exact Aq.keep hm1 _ (hvals' p' y hy hSy hpD k' hk')
    .have hng:p<pa\/pa+k<=p:=by omega
     have hbefore':∀(p':Nat) y,p'<p->q[p']?=some y->AL y.2.k=false->p'<p0:=by
      intro p' y hlt hy hyk;rcases (inv.done p' y hy hyk).1 (hbefore p' y hlt hy hyk (by omega))with h | h
      .exact h
      .have h1:=inv.grp p' h;have h2:=nogrp (Yy h);omega
     have hdid:=step p _ hx hng;simp only at hdid;rcases hdid with⟨hquiet,hval,hst⟩ | ⟨hheavy,hwf,hv,hst⟩ | ⟨hheavy,hwt,H',nx',hek,hst⟩
     .unfold HT at hval;split at hval
      .rename_i hwt;rw[zu (hi'.wants (hww.trans hwt))]
       have hval0:Bi Φ (st p0).H (st p0).nx mi'.k (mi'.xs.map (·.ev (st p).env))=some (vals p):=by
        by_cases hpp:p0<=p
        .have hf:=flat p0 p hpp (by omega) (λp' y h1 h2 h3=>by
          cases hyk:AL y.2.k with
          | true=>rfl
          | false=>have:=hbefore' p' y h2 h3 hyk;omega)
         rw[<-hf.1,<-hf.2];exact hval
        .have walk:∀p1,p<=p1->p1<=p0->Bi Φ (st p1).H (st p1).nx mi'.k (mi'.xs.map (·.ev (st p).env))=some (vals p):=by
          intro p1
          induction p1 with
          | zero=>
           intro h _
           have:p=0:=by omega
           subst this;exact hval
          | succ p1 ihp=>
           intro h1 h2;by_cases e:p=p1+1
           .subst e;exact hval
           .have hv1:=ihp (by omega) (by omega);have hle:=inv.le;have hy:q[p1]?=some q[p1]:=Xi (by have:=inv.le;omega);by_cases hgy:pa<=p1/\p1<pa+k
            .refine Lk (λb r hb=>?_) hv1;rw[(grp p1 _ hy hgy.1 hgy.2).2.1,DV];simp only[Aj];have hfr:=fresh p1 (by have:=inv.le;omega) b r hb;by_cases e1:p1=pa
             .subst e1;rw[zw (by omega)];exact hb
             .rcases gafter (p1-pa) (by omega) b r (by rw[show pa+(p1-pa)=p1 by omega];exact hb)with⟨h3,_⟩ | ⟨i3,h3,h4,_⟩
              .rw[zw (by omega)];exact hb
              .rw[zw (by omega)];exact hb
            .have hdy:=step p1 _ hy (by omega)
             cases hyk:AL (q[p1]).2.k with
             | true=>
              have:=MY hdy hyk;rw[this.1,this.2];exact hv1
             | false=>
              by_cases hind:Gv mi'.k=true
              .exact Po hind hv1
              .have hlt:p<p1:=by
                rcases Xr p p1 with h | h
                .exact h
                .have:p1=p:=by omega
                 subst this;rw[hx]at hy;injection hy with hy;rw[<-hy]at hyk;simp only at hyk;rw[hquiet]at hyk;cases hyk
               have hSy:=(inv.done p1 _ hy hyk).2 (.inl (by omega));have hok:=hd.pair p p1 _ _ hlt hx hy;unfold GU at hok;simp only[Xg]at hok;have h1':=hok.1.1.1;simp only[hquiet,hyk,Yf,X7,Xt,Xg,decide_eq_true_eq]at h1';rcases h1' with(((h | h) | h) | h) | h
               .exact absurd h hind
               .exact Lk ((Lj hΦ hdy (fresh p1 (by have:=inv.le;omega))).2 (.inl h)) hv1
               .exact hrun.again p p1 mi' (by simpa using h) (hms p _ hx)
               .have:=aft _ (idx p1 _ hy) h;rw[this]at hSy;cases hSy
               .omega
         exact walk p0 (by omega) (Xh _)
       have hval':Bi Φ (gH row (st p0).nx D (st p0).H) ((st p0).nx+D.length) mi'.k (mi'.xs.map (·.ev (st p).env))=some (vals p):=
        Lk (iI (fresh p0 inv.le) D) hval0
       have hek':A0 Φ ({ ((st p).only mi'.eyes)with H:=gH row (st p0).nx D (st p0).H,nx:=(st p0).nx+D.length }:Am).H ({ ((st p).only mi'.eyes)with H:=gH row (st p0).nx D (st p0).H,nx:=(st p0).nx+D.length }:Am).nx mi'.k (mi'.xs.map (·.ev ({ ((st p).only mi'.eyes)with H:=gH row (st p0).nx D (st p0).H,nx:=(st p0).nx+D.length }:Am).env))=some (vals p,gH row (st p0).nx D (st p0).H,(st p0).nx+D.length):=by
        rw[hev];exact SX hval'
       have haop:=J9 (B:=B) hΦ hcop hek' L a w hi';refine .inl (Gm ?_ (λ_ _ _ h=>h.elim) haop);rintro a' w' ⟨u,L',rfl,hru,hok',hnx',hm',hx'⟩
       exact next p0 L' w' u inv.le (λ_=>rfl) inv.out rfl (keepdone hquiet) hru hok' hnx' hm' hx'
      .rename_i hwf;rw[zw (by rw[hi'.wants (hww.trans hwf)];simp)];injection hval with hval
       exact next p0 L w undef inv.le (λ_=>rfl) inv.out rfl (keepdone hquiet) (by rw[<-hval];simp only[Aq,AA]) inv.heap inv.nx (Bh.refl _ _) (Ext.refl _ _ _)
      .cases hval
     all_goals
      have hp0p:p0<=p:=by
       rcases Xr p p0 with h | h
       .have:=(inv.done p _ hx hheavy).2 (.inl h);simp only at this;rw[this]at hun;cases hun
       .exact h
      have hD:D=[]:=by
       cases hD:D with
       | nil=>rfl
       | cons d D'=>
        exfalso
        have hne:D≠[]:=by rw[hD];simp
        have h1:=nogrp hne;have h2:=(inv.part hne).1;omega
      subst hD
      have hf:=flat p0 p hp0p (by omega) (λp' y h1 h2 h3=>by
       cases hyk:AL y.2.k with
       | true=>rfl
       | false=>have:=hbefore' p' y h2 h3 hyk;omega)
      have hdone':∀(p':Nat) y,q[p']?=some y->AL y.2.k=false->((S.setIfInBounds i true).getD y.1 false=true ↔ p'<p+1\/p'∈([]:List Nat)):=by
       intro p' y hy hyk;rw[EF S i _ (by omega)];by_cases e:i=y.1
       .have ep:=uniq p p' _ _ hx hy e;subst ep;simp[e]
       .rw[zw e,inv.done p' y hy hyk];simp only[List.not_mem_nil,or_false];constructor
        .intro h;omega
        .intro h
         have:p'≠p:=λep=>by subst ep;rw[hx]at hy;injection hy with hy;subst hy;exact e rfl
         exact hbefore' p' y (by omega) hy hyk
      have hout:p+1<=pa\/pa+k<=p+1:=by omega
     .rw[zw (by rw[hi'.wants (hww.trans hwf)];simp)]
      have e1:(st (p+1)).H=(st p0).H:=by rw[hst,DV,hf.1]
      have e2:(st (p+1)).nx=(st p0).nx:=by rw[hst,EW,hf.2]
      refine next (p+1) L w undef (by omega) (λh=>absurd rfl h) hout rfl hdone' (by rw[hv];simp only[Aq,AA]) (by rw[e1];exact inv.heap) (by rw[e2];exact inv.nx) (Bh.refl _ _) (by rw[e1];exact Ext.refl _ _ _)
     .rw[zu (hi'.wants (hww.trans hwt))]
      have hek':A0 Φ ({ ((st p).only mi'.eyes)with H:=gH row (st p0).nx [] (st p0).H,nx:=(st p0).nx+([]:List Nat).length }:Am).H ({ ((st p).only mi'.eyes)with H:=gH row (st p0).nx [] (st p0).H,nx:=(st p0).nx+([]:List Nat).length }:Am).nx mi'.k (mi'.xs.map (·.ev ({ ((st p).only mi'.eyes)with H:=gH row (st p0).nx [] (st p0).H,nx:=(st p0).nx+([]:List Nat).length }:Am).env))=some (vals p,H',nx'):=by
       rw[hev];show A0 Φ (st p0).H (st p0).nx mi'.k _=_;rw[<-hf.1,<-hf.2];exact hek
      have haop:=J9 (B:=B) hΦ hcop hek' L a w hi';refine .inl (Gm ?_ (λ_ _ _ h=>h.elim) haop);rintro a' w' ⟨u,L',rfl,hru,hok',hnx',hm',hx'⟩
      have e1:(st (p+1)).H=H':=by rw[hst,DV]
      have e2:(st (p+1)).nx=nx':=by rw[hst,EW]
      exact next (p+1) L' w' u (by omega) (λh=>absurd rfl h) hout rfl hdone' hru (by simp only[gH];rw[e1];exact hok') (by rw[e2];exact hnx') hm' (by simp only[gH];rw[e1];exact hx')
 obtain⟨hok,hm,hx⟩:=hi0.heap.of_heap (w':={ w0 with drawn:=w0.drawn+1 }) ⟨rfl,rfl,rfl⟩ rfl
 have hfalse:∀i,(Yi ops.size false).getD i false=false:=by
  intro i;simp only[Xv,Z3];split<;>rfl
 refine main ops.size _ 0 [] L0 a0 _ (by simp) ?_ (by omega) ⟨Yj _,λh=>absurd rfl h,by simp,Z2,.inl (Yj _),?_,by simp only[gH];rw[h0];exact hok,by rw[h0];exact hi0.nx,hi0.base,hi0.size,hi0.defers,?_,by simp,?_,by simp only[gH];rw[h0];exact hx,λ_ _=>rfl⟩
 .intro i o _ h;rw[hfalse]at h;cases h
 .intro p x _ _;rw[hfalse];simp
 .intro p x _ h;rw[hfalse]at h;cases h
 .intro k u _ hu;exact Aq.keep hm u (hi0.env k u hu)
theorem iK {s:Am} {m:AF} {v:PV} {H':Ak} {nx':Nat} (h:Gw Φ s m=some (v,H',nx')):Did Φ s m v (({ s with H:=H',nx:=nx' }:Am).put m.dst v):=by
 unfold Gw at h;split at h
 .rename_i hq;obtain⟨u,hu,e⟩:=Bf h;injection e with e1 e2;injection e2 with e2 e3;subst e1;subst e2;subst e3;exact .inl ⟨hq,hu,rfl⟩
 .rename_i hq
  have hq:AL m.k=false:=by simpa using hq
  split at h
  .rename_i hw;exact .inr (.inr ⟨hq,hw,H',nx',h,rfl⟩)
  .rename_i hw;injection h with e;injection e with e1 e2;injection e2 with e2 e3;subst e1;subst e2;subst e3;exact .inr (.inl ⟨hq,hw,rfl,rfl⟩)
  .cases h
def Tm (Φ:AP) (k n:Nat):GI->Am->Nat->En->PV->Am->Nat->En->Prop
 | .o m kp ag,s,b,pd,v,s',b',pd'=>Did Φ s m v s'/\b'=b/\pd'=Fq kp n m s v pd/\Pl Φ pd s'.H s'.nx ag
 | .g j m,s,b,pd,v,s',b',pd'=>b'=(if j=0 then s.nx else b)/\pd'=pd/\∃H' n',A0 Φ s.H (b'+k+j) m.k (m.xs.map (·.ev s.env))=some (v,H',n')/\s'=({ s with H:=H',nx:=b'+2*k }:Am).put m.dst v
theorem Tn:∀(l:List GI) {n b:Nat} {pd:En} {s s':Am},Ea Φ k n b pd l s=some s'->∃(st:Nat->Am) (vals:Nat->PV) (bs:Nat->Nat) (pds:Nat->En),st 0=s/\bs 0=b/\pds 0=pd/\st l.length=s' /\
  ∀(p:Nat) x,l[p]?=some x->Tm Φ k (n+p) x (st p) (bs p) (pds p) (vals p) (st (p+1)) (bs (p+1)) (pds (p+1))
 | [],n,b,pd,s,s',h=>by
  simp only[Ea,Xd.injEq]at h;exact⟨λ_=>s,λ_=>.dead,λ_=>b,λ_=>pd,rfl,rfl,rfl,h,by simp⟩
 | y::r,n,b,pd,s,s',h=>by
  have key:∃v s1 b1 pd1,Tm Φ k n y s b pd v s1 b1 pd1/\Ea Φ k (n+1) b1 pd1 r s1=some s':=by
   cases y with
   | o m kp ag=>
    simp only[Ea]at h;split at h
    .rename_i v H' nx' hv;split at h
     .rename_i hag;refine⟨v,_,b,_,⟨iK hv,rfl,rfl,?_⟩,h⟩;rw[DV,EW];exact hag
     .cases h
    .cases h
   | g j m=>
    simp only[Ea]at h;split at h
    .rename_i v H' n' hv;exact⟨v,_,_,pd,⟨rfl,rfl,H',n',hv,rfl⟩,h⟩
    .cases h
  obtain⟨v,s1,b1,pd1,C9,hr⟩:=key;obtain⟨st,vals,bs,pds,e1,e2,e3,e4,hall⟩:=Tn r hr;refine⟨λp=>match p with | 0=>s | p+1=>st p,λp=>match p with | 0=>v | p+1=>vals p,λp=>match p with | 0=>b | p+1=>bs p,λp=>match p with | 0=>pd | p+1=>pds p,rfl,rfl,rfl,by simpa using e4,λp x hp=>?_⟩
  cases p with
  | zero=>
   simp only[Xx,Xd.injEq]at hp;subst hp;simp only[X5];rw[e1,e2,e3];exact C9
  | succ p=>
   have:=hall p x (by simpa using hp);rw[show n+1+p=n+(p+1)by omega]at this;exact this
theorem To {l:List GI} {s s2:Am} (h:Ea Φ k 0 0 [] l s=some s2) (hsh:HV pa k R l=true):∃st vals,JE Φ (l.map GI.mini) pa k R s s2 st vals:=by
 obtain⟨st,vals,bs,pds,e1,e2,e3,e4,hall⟩:=Tn l h;simp only[Nat.zero_add]at hall;unfold HV at hsh;simp only[Xg]at hsh
 have shape:∀(p:Nat) x,l[p]?=some x->match x with
   | .o _ _ _=>p<pa\/pa+k<=p
   | .g j _=>pa<=p/\p<pa+k/\p=pa+j:=by
  intro p x hx;have:=Xk.1 hsh.1 (x,p) (by rw[Yx];exact hx)
  cases x with
  | o m kp ag=>simpa using this
  | g j m=>simpa[and_assoc]using this
 have item:∀(p:Nat) m,(l.map GI.mini)[p]?=some m->∃x,l[p]?=some x/\x.mini=m:=by
  intro p m hm;rw[Xn]at hm;obtain⟨x,hx,e⟩:=Bf hm;exact⟨x,hx,e⟩
 have base:∀j,pa+j+1<=l.length->j<k->bs (pa+j+1)=(st pa).nx:=by
  intro j
  induction j with
  | zero=>
   intro hl hk;have hx:l[pa]?=some l[pa]:=Xi (by omega);have hs:=shape pa _ hx;have hst:=hall pa _ hx
   cases hy:l[pa]with
   | o m kp ag=>rw[hy]at hs;simp only at hs;omega
   | g j m=>
    rw[hy]at hs hst;simp only at hs
    have:j=0:=by omega
    subst this;exact hst.1
  | succ j ih=>
   intro hl hk;have hx:l[pa+(j+1)]?=some l[pa+(j+1)]:=Xi (by omega);have hs:=shape _ _ hx;have hst:=hall _ _ hx
   cases hy:l[pa+(j+1)]with
   | o m kp ag=>rw[hy]at hs;simp only at hs;omega
   | g i m=>
    rw[hy]at hs hst;simp only at hs
    have:i=j+1:=by omega
    subst this;have h1:=hst.1;simp only[Nat.add_eq_zero_iff,Nat.succ_ne_self,and_false,if_false]at h1;rw[h1];exact ih (by omega) (by omega)
 have kept:∀(p:Nat),p<=l.length->∀i x,Aj (pds p) i=some x->∃y:GI,l[i]?=some y/\x=(y.mini.k,y.mini.xs.map (·.ev (st i).env),vals i):=by
  intro p
  induction p with
  | zero=>intro _ i x hx;rw[e3]at hx;simp[Aj]at hx
  | succ p ih=>
   intro hp i x hx;have hy:l[p]?=some l[p]:=Xi (by omega);have hst:=hall p _ hy
   cases hg:l[p]with
   | o m kp ag=>
    rw[hg]at hst;rw[hst.2.2.1]at hx;unfold Fq at hx;split at hx
    .simp only[Aj]at hx;split at hx
     .rename_i e;subst e;injection hx with hx;exact⟨_,hy,by rw[hg,<-hx];rfl⟩
     .exact ih (by omega) i x hx
    .exact ih (by omega) i x hx
   | g j m=>
    rw[hg]at hst;rw[hst.2.1]at hx;exact ih (by omega) i x hx
 refine⟨st,vals,e1,by simpa using e4,λp m hm hp=>?_,λp m hm h1 h2=>?_,λp p' m hR hm=>?_⟩
 .obtain⟨x,hx,rfl⟩:=item p m hm;have hs:=shape p x hx;have hst:=hall p x hx
  cases x with
  | o m kp ag=>exact hst.1
  | g j m=>simp only at hs;omega
 .obtain⟨x,hx,rfl⟩:=item p m hm;have hs:=shape p x hx;have hst:=hall p x hx
  cases x with
  | o m kp ag=>simp only at hs;omega
  | g j m=>
   simp only at hs;obtain⟨hb,_,H',n',he,hst'⟩:=hst
   have hbp:bs (p+1)=(st pa).nx:=by
    have:=base (p-pa) (by have:=(Xj.1 hx).1;omega) (by omega);rwa[show pa+(p-pa)+1=p+1 by omega]at this
   rw[hbp]at he hst';rw[show p-pa=j by omega];exact⟨H',n',he,hst'⟩
 .have:=Xk.1 hsh.2 (p,p') hR;simp only at this;split at this
  .rename_i m' kp ag hx';have hst:=hall p' _ hx';obtain⟨x,hx,he⟩:=hst.2.2.2 p (by simpa using this);obtain⟨y,hy,rfl⟩:=kept p' (by have:=(Xj.1 hx').1;omega) p x hx;obtain⟨x2,hx2,rfl⟩:=item p m hm;rw[hy]at hx2;injection hx2 with hx2;subst hx2;exact he
  .cases this
theorem iL {l:List AF} {s s2:Am} (h:FQ Φ l s=some s2):∃st vals,JE Φ l 0 0 [] s s2 st vals:=by
 obtain⟨st,vals,e1,e2,hall⟩:=Te l h;exact⟨st,vals,e1,e2,λp m hm _=>hall p m hm,λp m _ _ h2=>by omega,λp p' m hR=>by simp at hR⟩
end
section
variable {P : Program} {G : AM} {B N : Nat} {Φ : AP} {ops : Array Oper} {l : List AF} {π : List Nat} {R : List (Nat × Nat)}
def Pr:MK->Bool
 | .alloc _ _=>true
 | _=>false
theorem iM {k:MK} (h:Pr k=true):∃t zc,k = .alloc t zc:=by cases k<;>simp_all [Pr]
def GW (A:List Nat) (pe:Nat) (R:List (Nat×Nat)) (p p':Nat) (x y:Nat×AF):Bool:=
 (AL x.2.k&&(AL y.2.k||Gv x.2.k||Fp y.2.k||R.contains (p,p'))||(A.getD y.1 0).testBit x.1||p'==pe) &&
 ((match x.2.dst with
  | some d=>!(y.2.eyes.contains d)
  | none=>true)||(A.getD y.1 0).testBit x.1) &&
 ((match y.2.dst with
  | some d=>!(x.2.eyes.contains d)
  | none=>true)||(A.getD y.1 0).testBit x.1) &&
 ((match x.2.dst with
  | some d=>y.2.dst != some d
  | none=>true)&&(p != pe || !(AL y.2.k) || !(A.getD y.1 0).testBit x.1))
def Na (A:List Nat) (pe:Nat) (R:List (Nat×Nat)):Nat->List (Nat×AF)->Bool
 | _,[]=>true
 | p,x::r=>(r.zipIdx (p+1)).all (λy=>GW A pe R p y.2 x y.1)&&Na A pe R (p+1) r
def drawE (ops:Array Oper) (l:List AF) (π:List Nat) (pe:Nat) (R:List (Nat×Nat)):Bool:=
 (ops.toList.zipIdx.all λp=>p.1.after.toList.all λe=>decide (e.on<p.2) || !Region.binds .any e) &&
 ((B9 l π).length==l.length)&&((X8 l.length).all λi=>π.contains i)&&decide (π.Nodup) &&
 Na (DJ ops.toList []) pe R 0 (B9 l π)&&(match (B9 l π)[pe]? with
  | some x=>Pr x.2.k&&x.2.g.isNone
  | none=>false)
structure iN (ops:Array Oper) (q:List (Nat×AF)) (pe:Nat) (R:List (Nat×Nat)):Prop where
 back:∀(i:Nat) o,ops[i]?=some o->∀e∈o.after.toList,Region.binds .any e=true->e.on<i
 pair:∀(p p':Nat) x y,p<p'->q[p]?=some x->q[p']?=some y->GW (DJ ops.toList []) pe R p p' x y=true
 all:∀i,i<ops.size->∃(p:Nat) (m:AF),q[p]?=some (i,m)
 zero:∃x t zc,q[pe]?=some x/\x.2.k = .alloc t zc/\x.2.g=none
theorem Tp {A:List Nat} {pe:Nat}:∀{q:List (Nat×AF)} {n:Nat},Na A pe R n q=true->∀(p p':Nat) x y,p<p'->q[p]?=some x->q[p']?=some y->GW A pe R (n+p) (n+p') x y=true
 | [],_,_,p,p',x,y,_,h,_=>by simp at h
 | a::q,n,hq,p,p',x,y,hlt,h,h'=>by
  simp only[Na,Xg]at hq
  cases p' with
  | zero=>omega
  | succ p'=>
   simp only[Zq]at h'
   cases p with
   | zero=>
    simp only[Xx,Xd.injEq]at h;subst h
    have:=Xk.1 hq.1 (y,n+1+p') (by
     rw[Zr]
     exact⟨by omega,by rw[show n+1+p'-(n+1)=p' by omega];exact h'⟩)
    rw[show n+(p'+1)=n+1+p' by omega];simpa using this
   | succ p=>
    have:=Tp hq.2 p p' x y (by omega) (by simpa using h) h';rwa[show n+1+p=n+(p+1)by omega,show n+1+p'=n+(p'+1)by omega]at this
theorem iP {pe:Nat} (hl:ops.size=l.length) (h:drawE ops l π pe R=true):iN ops (B9 l π) pe R/\(B9 l π).length=l.length/\((B9 l π).map Prod.fst).Nodup:=by
 unfold drawE at h;simp only[Xg,decide_eq_true_eq,beq_iff_eq]at h;obtain⟨⟨⟨⟨⟨h1,h2⟩,h3⟩,h4⟩,h5⟩,h6⟩:=h;refine⟨⟨λi o ho e he hb=>?_,λp p' x y hlt hx hy=>?_,λi hi=>?_,?_⟩,h2,?_⟩
 .have hq:(o,i)∈ops.toList.zipIdx:=by
   rw[Yx];simpa using ho
  have:=Xk.1 (Xk.1 h1 _ hq) e he;simpa[hb]using this
 .have:=Tp h5 p p' x y hlt hx hy;simpa using this
 .have hc:=Xk.1 h3 i (by simp;omega)
  have hmem:i∈π:=by simpa using hc
  have hil:i<l.length:=by omega
  have:(i,l[i])∈B9 l π:=Yh.2 ⟨i,hmem,by rw[Xi hil];rfl⟩;obtain⟨p,hp⟩:=Zs this;exact⟨p,_,hp⟩
 .split at h6
  .rename_i x hx;simp only[Xg,Zt]at h6;obtain⟨t,zc,e⟩:=iM h6.1;exact⟨x,t,zc,hx,e,h6.2⟩
  .cases h6
 .have:(B9 l π).map Prod.fst=π.filter (λi=>(l[i]?).isSome):=by
   unfold B9;clear h1 h2 h3 h4 h5 h6
   induction π with
   | nil=>rfl
   | cons i π ih=>
    simp only[Yv,Zu]
    cases hi:l[i]? with
    | none=>simpa using ih
    | some m=>simpa using ih
  rw[this];exact h4.filter _
structure JF (P:Program) (G:AM) (B:Nat) (q:List (Nat×AF)) (pe:Nat) (ty:TypeId) (zc:List Value) (st:Nat->Am) (vals:Nat->PV) (s:Am) (L0:Loc) (w0:World) (S:Array Bool) (p0:Nat) (E:Option Nat) (L:Loc) (a:Act) (w:World):Prop where
 le:p0<=q.length
 low:E.isSome=true->p0<=pe
 done:∀(p:Nat) x,q[p]?=some x->AL x.2.k=false->(S.getD x.1 false=true ↔ p<p0\/(E.isSome=true/\p=pe))
 heap:B1 P G L (st p0).H w
 nx:L.nx=(st p0).nx
 base:B<=L.nx
 size:a.tmps.size=s.n
 defers:a.defers=[]
 vals:∀(p:Nat) x,q[p]?=some x->S.getD x.1 false=true->¬(E.isSome=true/\p=pe)->∀k,x.2.dst=some k->Aq P L w (vals p) (a.tmps.getD k undef)
 early:∀g,E=some g->D0 P L w g (.cells ty (zc.map λx=>.t (.v x)))/\¬L.I g/\(∀b r,Aj (st p0).H b=some r->L.μ b≠g)/\w0.heap.size<=g/\∀x k,q[pe]?=some x->x.2.dst=some k->a.tmps.getD k undef = .pointer (some ⟨g,0,none⟩)
 old:∀k u,(∀(p:Nat) x,q[p]?=some x->S.getD x.1 false=true->x.2.dst≠some k)->Aj s.env k=some u->Aq P L w u (a.tmps.getD k undef)
 ext:Ext L0 s.H w0 L (st p0).H w
 μ:∀b,b<B->L.μ b=L0.μ b
theorem Tq {L L':Loc} {w w':World} {g:Nat} {ty:TypeId} {zc:List Value} (hw:w'.heap[g]?=w.heap[g]?) (h:D0 P L w g (.cells ty (zc.map λx=>.t (.v x)))):D0 P L' w' g (.cells ty (zc.map λx=>.t (.v x))):=by
 obtain⟨arr,h1,h2,h3⟩:=h;refine⟨arr,hw.trans h1,h2,λj c hj=>?_⟩;obtain⟨x,hx,h4,h5⟩:=h3 j c hj;rw[Xn]at hj;obtain⟨v,_,rfl⟩:=Xf.1 hj;refine⟨x,hx,h4,?_⟩;simp only[Aq,AA]at h5 ⊢;exact h5
theorem JF.absorb {q:List (Nat×AF)} {pe:Nat} {ty:TypeId} {zc:List Value} {st:Nat->Am} {vals:Nat->PV} {s:Am} {L0 L:Loc} {w0 w:World} {S:Array Bool} {p0 g:Nat} {a:Act} (inv:JF P G B q pe ty zc st vals s L0 w0 S p0 (some g) L a w)
  (hpe:pe<q.length) (hno:∀(p:Nat) x,p0<=p->p<pe->q[p]?=some x->AL x.2.k=true) (hpk:∀x,q[pe]?=some x->AL x.2.k=false) (hf:(st pe).H=(st p0).H/\(st pe).nx=(st p0).nx) (hfr:GV (st p0))
  (hst:(st (pe+1)).H=((st pe).nx,.cells ty (zc.map λx=>.t (.v x)))::(st pe).H/\(st (pe+1)).nx=(st pe).nx+1) (hv:vals pe = .ptr (st pe).nx 0) :
  ∃L',JF P G B q pe ty zc st vals s L0 w0 S (pe+1) none L' a w:=by
 obtain⟨e1,e2,e3,e4,e5⟩:=inv.early g rfl;have hlow:=inv.low rfl
 let L':Loc:=⟨L.I,λb=>if b=L.nx then g else L.μ b,L.nx+1⟩
 have hm:Bh L w L' w:=⟨λb hb=>⟨hb,rfl⟩,Nat.le_succ _,λb hb=>by show(if b=L.nx then g else L.μ b)=L.μ b;rw[zw (by omega)],Xh _,BH.refl w⟩
 have hH:(st (pe+1)).H=(L.nx,.cells ty (zc.map λx=>.t (.v x)))::(st p0).H:=by rw[hst.1,hf.1,hf.2,inv.nx]
 have hN:(st (pe+1)).nx=L.nx+1:=by rw[hst.2,hf.2,inv.nx]
 have hlt:∀b r,Aj (st p0).H b=some r->b<L.nx:=λb r hb=>by have:=hfr b r hb;rw[inv.nx];exact this
 have cases':∀b r,Aj (st (pe+1)).H b=some r->(b=L.nx/\r = .cells ty (zc.map λx=>.t (.v x))/\L'.μ b=g)\/(Aj (st p0).H b=some r/\b<L.nx/\L'.μ b=L.μ b):=by
  intro b r hb;rw[hH]at hb;simp only[Aj]at hb;split at hb
  .rename_i e;injection hb with hb;exact .inl ⟨e.symm,hb.symm,by show(if b=L.nx then g else L.μ b)=g;rw[zu e.symm]⟩
  .have:=hlt b r hb;exact .inr ⟨hb,this,by show(if b=L.nx then g else L.μ b)=L.μ b;rw[zw (by omega)]⟩
 refine⟨L',⟨by omega,λh=>(by cases h),λp x hx hk=>?_,⟨inv.heap.lt,λb r hb=>?_,λb r hb=>?_,λb b' r r' hb hb' he=>?_,λb r hb=>?_,DX inv.heap hm.keeps⟩,hN.symm,Nat.le_succ_of_le inv.base,inv.size,inv.defers,
  λp x hx hS hn k hk=>?_,λg' h=>(by cases h),λk u h1 h2=>Aq.keep hm u (inv.old k u h1 h2),⟨inv.ext.size,inv.ext.same,inv.ext.more,inv.ext.new,λg' ⟨b,r,hb,e⟩=>?_,inv.ext.shape,inv.ext.outer⟩,λb hb=>?_⟩⟩
 .rw[inv.done p x hx hk];constructor
  .rintro(h | ⟨_,h⟩)<;>left<;>omega
  .rintro(h | ⟨h,_⟩)
   .by_cases h':p<p0
    .exact .inl h'
    .by_cases h2:p=pe
     .exact .inr ⟨rfl,h2⟩
     .have:=hno p x (by omega) (by omega) hx;rw[this]at hk;cases hk
   .cases h
 .rcases cases' b r hb with⟨_,rfl,e⟩ | ⟨h1,_,e⟩
  .rw[e];exact Tq rfl e1
  .rw[e];exact(inv.heap.rep b r h1).keep hm rfl
 .rcases cases' b r hb with⟨_,_,e⟩ | ⟨h1,_,e⟩
  .rw[e];exact e2
  .rw[e];exact inv.heap.apart b r h1
 .rcases cases' b r hb with⟨h1,_,e⟩ | ⟨h1,_,e⟩<;>rcases cases' b' r' hb' with⟨h1',_,e'⟩ | ⟨h1',_,e'⟩<;>rw[e,e']at he
  .rw[h1,h1']
  .exact absurd he.symm (e3 b' r' h1')
  .exact absurd he (e3 b r h1)
  .exact inv.heap.inj b b' r r' h1 h1' he
 .show b<L.nx+1;rcases cases' b r hb with⟨h1,_⟩ | ⟨_,h1,_⟩<;>omega
 .by_cases h2:p=pe
  .subst h2;rw[e5 x k hx hk,hv];simp only[Aq]
   have:(st p).nx=L.nx:=by rw[hf.2,inv.nx]
   rw[this];exact⟨Y6 _,by show _=Value.pointer (some ⟨if L.nx=L.nx then g else L.μ L.nx,0,none⟩);rw[zu rfl]⟩
  .exact Aq.keep hm _ (inv.vals p x hx hS (λh=>h2 h.2) k hk)
 .rcases cases' b r hb with⟨_,_,e'⟩ | ⟨h1,_,e'⟩
  .left;rw[<-e,e'];exact e4
  .exact inv.ext.mine g' ⟨b,r,h1,e'.symm.trans e⟩
 .show(if b=L.nx then g else L.μ b)=_;rw[zw (by have:=inv.base;omega)];exact inv.μ b hb
theorem iQ {L:Loc} {H:Ak} {w w':World} {o:Obj} (hok:B1 P G L H w) (hout:BR w w') (hw:w'.heap=w.heap.push o):B1 P G L H w'/\Bh L w L w'/\Ext L H w L H w':=by
 have hold:∀g,g<w.heap.size->w'.heap[g]?=w.heap[g]?:=λg hg=>by
  rw[hw,Array.getElem?_push_lt hg,Xo hg]
 have hsz:w'.heap.size=w.heap.size+1:=by rw[hw];simp
 have hm:Bh L w L w':=⟨λb hb=>⟨hb,hold b (hok.lt b hb)⟩,Xh _,λ_ _=>rfl,by omega,λg hg arr ty fz he=>by
  rw[hold g hg]at he
  exact⟨arr,fz,he,rfl⟩⟩
 exact⟨⟨λb hb=>by have:=hok.lt b hb;omega,λb r hb=>(hok.rep b r hb).keep hm (hold _ (hok.rep b r hb).lt),hok.apart,hok.inj,hok.nx,DX hok hm.keeps⟩,hm,
  ⟨by omega,λg hg _=>hold g hg,λ_ h=>h,λ_ h=>.inl h,λ_ h=>.inr h,hm.shape,hout⟩⟩
theorem iS {o:Oper} {t:TypeId} {zc:List Value} (ho:o.op = .alloc t) (h:FP P t=some zc) (a:Act) (w:World) :
  ∃w' ob,(execOp a.eval o).run P w = .ok (.value (.pointer (some ⟨w.heap.size,0,none⟩))) w'/\BR w w'/\w'.heap=w.heap.push ob/\∀L,D0 P L w' w.heap.size (.cells t (zc.map λx=>.t (.v x))):=by
 obtain⟨z,hz,rfl,h1⟩:=RR h w;refine⟨w.alloc (.cells z.cells t),_,by simp[execOp,ho,Instr.alloc,newVar,newRow,hz],⟨rfl,rfl,rfl⟩,rfl,λL=>⟨z.cells,heap_alloc_new w _,by simp,λj c hj=>?_⟩⟩;rw[Xn]at hj;obtain⟨v,hv,rfl⟩:=Xf.1 hj;refine⟨v,by simpa using hv,h1 v (Xz hv),by simp only[Aq,AA]⟩
theorem iT {d:Bool} {o:Op} {t:TypeId} {zc:List Value} {xs:List Opd} (h:opK P G d o=(.alloc t zc,xs)):o = .alloc t/\FP P t=some zc:=by
 unfold opK at h;split at h
 .rename_i q hq;subst h;exact absurd hq (Sx (by simp))
 .split at h
  .split at h
   .injection h with h _;cases h
   .injection h with h _;cases h
  .split at h
   .rename_i q hq;subst h;unfold KX at hq;split at hq
    all_goals first
     | (cases hq;done)
     | (injection hq with hq;injection hq with e1 e2;cases e1;done)
     | (obtain⟨x,hx,e⟩:=Xf.1 hq;injection e with e1 e2;cases e1;done)
     | (obtain⟨x,hx,e⟩:=Xf.1 hq;injection e with e1 e2;injection e1 with e3 e4;subst e3;subst e4;exact⟨rfl,hx⟩)
     | skip
    all_goals split at hq
    all_goals first
     | (cases hq;done)
     | (injection hq with hq;injection hq with e1 e2;cases e1;done)
     | (obtain⟨x,hx,e⟩:=Xf.1 hq;injection e with e1 e2;cases e1;done)
     | skip
    all_goals split at hq
    all_goals first
     | (cases hq;done)
     | (injection hq with hq;injection hq with e1 e2;cases e1;done)
     | (obtain⟨x,hx,e⟩:=Xf.1 hq;injection e with e1 e2;cases e1;done)
   .injection h with h _;cases h
theorem iU {pe:Nat} (hmix:P.follows .mixedOrders=true) (hΦ:Φ.Sound P G) {Q:Exit->Am->Prop} {s s2:Am} {st:Nat->Am} {vals:Nat->PV} {id:Nat} (ha0:ops.toList.mapM (Em P G N true ops)=some l) (hd0:drawE ops l π pe R=true)
  (hn:s.n=N) (hrun:JE Φ ((B9 l π).map Prod.snd) 0 0 R s s2 st vals) (hq:Q .normal s2):Cm P G B (.region id ops true) Q s:=by
 intro L0 a0 w0 hi0;have ha:=JA ha0
 have hlen:ops.size=l.length:=by have:=(ha.at_ 0).2;simpa using this
 obtain⟨hd,hql,hnodup⟩:=iP hlen hd0;have h0:=hrun.start;have hlast:=hrun.stop;simp only[Yg]at hlast;generalize hq':B9 l π=q at *
 have hmem:∀(p:Nat) x,q[p]?=some x->l[x.1]?=some x.2:=by intro p x hx;rw[<-hq']at hx;exact Th l π p x hx
 have hms:∀(p:Nat) x,q[p]?=some x->(q.map Prod.snd)[p]?=some x.2:=by intro p x hx;simp[hx]
 have hall:∀(p:Nat) m,(q.map Prod.snd)[p]?=some m->(st (p+1)).env=((st p).put m.dst (vals p)).env:=λp m hm=>(hrun.env hm).1;have step:∀(p:Nat) x,q[p]?=some x->Did Φ (st p) x.2 (vals p) (st (p+1)):=λp x hx=>hrun.norm p x.2 (hms p x hx) (.inr (by omega));obtain⟨xe,ty,zc,hxe,hke,hge⟩:=hd.zero;have hpel:pe<q.length:=(Xj.1 hxe).1
 have hpk:∀x,q[pe]?=some x->AL x.2.k=false:=λx hx=>by rw[hxe]at hx;injection hx with hx;subst hx;rw[hke];rfl
 have uniq:∀(p p':Nat) x y,q[p]?=some x->q[p']?=some y->x.1=y.1->p=p':=by
  intro p p' x y hx hy e
  have h1:(q.map Prod.fst)[p]?=some x.1:=by simp[hx]
  have h2:(q.map Prod.fst)[p']?=some x.1:=by simp[hy,e]
  have hp:=(Xj.1 h1).1;exact(Zv hp hnodup).1 (h1.trans h2.symm)
 have fresh:∀p,p<=q.length->GV (st p):=by
  intro p
  induction p with
  | zero=>intro _;rw[h0];exact λb r hb=>by have:=hi0.heap.nx b r hb;rw[hi0.nx]at this;exact this
  | succ p ih=>
   intro hp;have hx:q[p]?=some q[p]:=Xi (by omega);exact(Lj hΦ (step p _ hx) (ih (by omega))).1
 have flat:∀(a b:Nat),a<=b->b<=q.length->(∀(p:Nat) x,a<=p->p<b->q[p]?=some x->AL x.2.k=true)->(st b).H=(st a).H/\(st b).nx=(st a).nx:=by
  intro a b hab
  induction b with
  | zero=>
   intro _ _
   have:a=0:=by omega
   subst this;exact⟨rfl,rfl⟩
  | succ b ih=>
   intro hb hno;by_cases e:a=b+1
   .subst e;exact⟨rfl,rfl⟩
   .have hx:q[b]?=some q[b]:=Xi (by omega);have hqb:=hno b _ (by omega) (by omega) hx;have h1:=MY (step b _ hx) hqb;have h2:=ih (by omega) (by omega) (λp x h1 h2 h3=>hno p x h1 (by omega) h3);exact⟨h1.1.trans h2.1,h1.2.trans h2.2⟩
 have nconst:∀p,p<=q.length->(st p).n=s.n:=by
  intro p
  induction p with
  | zero=>intro _;rw[h0]
  | succ p ih=>
   intro hp;have hx:q[p]?=some q[p]:=Xi (by omega);rw[(hrun.env (hms p _ hx)).2,ih (by omega)]
 have hstE:(st (pe+1)).H=((st pe).nx,.cells ty (zc.map λx=>.t (.v x)))::(st pe).H/\(st (pe+1)).nx=(st pe).nx+1/\vals pe = .ptr (st pe).nx 0:=by
  rcases step pe xe hxe with⟨hqt,_⟩ | ⟨_,hwf,_⟩ | ⟨_,_,H',nx',he,hst⟩
  .rw[hpk _ hxe]at hqt;cases hqt
  .simp[AF.wants,hge]at hwf
  .rw[hke]at he;rw[hst,DV,EW];generalize xe.2.xs.map (·.ev (st pe).env)=ps at he
   cases ps with
   | nil=>
    simp only[A0,Xd.injEq,Prod.mk.injEq]at he;exact⟨he.2.1.symm,he.2.2.symm,he.1.symm⟩
   | cons p r=>simp[A0]at he
 refine wp_region_any hmix ?_
 have main:∀(fuel:Nat) (S:Array Bool) (p0:Nat) (E:Option Nat) (L:Loc) (a:Act) (w:World),S.size=ops.size->IB ops S->ops.size<=cnt S+fuel ->
   JF P G B q pe ty zc st vals s L0 w0 S p0 E L a w->(E.isSome=true->∃(p:Nat) (x:Nat×AF),p0<=p/\p<pe/\q[p]?=some x/\AL x.2.k=false)->wpAny P .any ops (B8 P G B Q L0 s.H w0) fuel S a w:=by
  have full:∀(S:Array Bool) (p0:Nat) (E:Option Nat) (L:Loc) (a:Act) (w:World),(∀i,i<ops.size->S.getD i false=true)->JF P G B q pe ty zc st vals s L0 w0 S p0 E L a w->(E.isSome=true->∃(p:Nat) (x:Nat×AF),p0<=p/\p<pe/\q[p]?=some x/\AL x.2.k=false)->B8 P G B Q L0 s.H w0 .normal a w:=by
   intro S p0 E L a w hS inv hpart;have hxi:∀(p:Nat) x,q[p]?=some x->S.getD x.1 false=true:=λp x hx=>hS _ (by have:=(Xj.1 (hmem p x hx)).1;omega)
   have hE:E=none:=by
    cases hE:E with
    | none=>rfl
    | some g=>
     obtain⟨p,x,h1,h2,h3,h4⟩:=hpart (by rw[hE];rfl);rcases (inv.done p x h3 h4).1 (hxi p x h3)with h | ⟨_,h⟩<;>omega
   subst hE
   have hf:=flat p0 q.length inv.le (Xh _) (λp x h1 h2 h3=>by
    cases hk:AL x.2.k with
    | true=>rfl
    | false=>
     rcases (inv.done p x h3 hk).1 (hxi p x h3)with h | ⟨h,_⟩
     .omega
     .cases h)
   refine⟨s2,L,hq,⟨?_,?_,inv.base,?_,inv.defers,λk u hl=>?_⟩,?_,inv.μ⟩
   .rw[<-hlast,hf.1];exact inv.heap
   .rw[<-hlast,hf.2];exact inv.nx
   .rw[<-hlast,nconst _ (Xh _)];exact inv.size
   .rw[<-hlast]at hl;rcases Ll h0 hall q.length (by simp) k u hl with⟨j,m,hj,hmj,hdst,rfl⟩ | ⟨hno,hs⟩
    .have hx:q[j]?=some q[j]:=Xi hj
     have e:m=q[j].2:=by rw[hms j _ hx]at hmj;injection hmj with hmj;exact hmj.symm
     subst e;exact inv.vals j _ hx (hxi j _ hx) (λh=>(by cases h.1)) k hdst
    .refine inv.old k u (λp x hx _=>hno p x.2 ?_ (hms p x hx)) hs;exact(Xj.1 hx).1
   .rw[<-hlast,hf.1];exact inv.ext
  intro fuel
  induction fuel with
  | zero=>
   intro S p0 E L a w hs hS hc inv hpart;have hall':=Tc (S:=S) (by omega);refine⟨?_,full S p0 E L a w (λi hi=>hall' i (by omega)) inv hpart⟩;rw[Zx];intro i hi;obtain⟨h1,h2,_⟩:=MX hi;rw[JC (by omega),hall' i (by omega)]at h2;cases h2
  | succ fuel ih=>
   intro S p0 E L a w hs hS hc inv hpart
   have go:∀(S':Array Bool) (p1:Nat) (E1:Option Nat) (L':Loc) (a':Act) (w':World),S'.size=ops.size->IB ops S'->ops.size<=cnt S'+fuel->JF P G B q pe ty zc st vals s L0 w0 S' p1 E1 L' a' w'->wpAny P .any ops (B8 P G B Q L0 s.H w0) fuel S' a' w':=by
    intro S' p1 E1 L' a' w' h1 h2 h3 inv'
    cases hE1:E1 with
    | none=>subst hE1;exact ih S' p1 none L' a' w' h1 h2 h3 inv' (λh=>by cases h)
    | some g=>
     subst hE1;by_cases hex:∃(p:Nat) (x:Nat×AF),p1<=p/\p<pe/\q[p]?=some x/\AL x.2.k=false
     .exact ih S' p1 (some g) L' a' w' h1 h2 h3 inv' (λ_=>hex)
     .have hno:∀(p:Nat) x,p1<=p->p<pe->q[p]?=some x->AL x.2.k=true:=λp x h4 h5 h6=>by
       cases hk:AL x.2.k with
       | true=>rfl
       | false=>exact absurd ⟨p,x,h4,h5,h6,hk⟩ hex
      have hlow:=inv'.low rfl;obtain⟨L2,inv2⟩:=inv'.absorb hpel hno hpk (flat p1 pe hlow (by omega) hno) (fresh p1 inv'.le) ⟨hstE.1,hstE.2.1⟩ hstE.2.2;exact ih S' (pe+1) none L2 a' w' h1 h2 h3 inv2 (λh=>by cases h)
   refine⟨λhr=>?_,λi hi=>?_⟩
   .refine full S p0 E L a w (λi=>?_) inv hpart
    induction i using Zy with
    | _ i ihi=>
     intro hi
     cases hS':S.getD i false with
     | true=>rfl
     | false=>
      exfalso
      have:i∈Region.ready .any ops S:=Ta (o:=ops[i]) (Xo hi) (by rw[JC (by omega)];exact hS')
       (λe he hb=>by
        have:=hd.back i _ (Xo hi) e he hb
        exact ihi _ this (by omega))
      rw[hr]at this;cases this
   .obtain⟨hi1,hun,o,ho,hp⟩:=MX hi;rw[JC (by omega)]at hun;obtain⟨p,mi,hx⟩:=hd.all i hi1;have hpl:p<q.length:=(Xj.1 hx).1;obtain⟨mi',hmi',hcomp⟩:=(ha.at_ i).1 o (by simpa using ho)
    have emi:mi'=mi:=by have:=hmem p _ hx;simp only at this;rw[this]at hmi';injection hmi' with h;exact h.symm
    subst emi;obtain⟨hcop,hdst,hdlt,hwants⟩:=KY hcomp;have bef:∀j,((DJ ops.toList []).getD i 0).testBit j=true->S.getD j false=true:=λj hb=>MM hS ho hb hp
    have aft:∀j,j<ops.size->((DJ ops.toList []).getD j 0).testBit i=true->S.getD j false=false:=by
     intro j hj hb
     cases hSj:S.getD j false with
     | false=>rfl
     | true=>
      have hjo:ops[j]?=some ops[j]:=Xo hj;have:=MM hS hjo hb (hS j _ hjo hSj);rw[this]at hun;cases hun
    have idx:∀(p':Nat) y,q[p']?=some y->y.1<ops.size:=λp' y hy=>by have:=(Xj.1 (hmem p' y hy)).1;omega
    have hbefore:p≠pe->∀(p':Nat) y,p'<p->q[p']?=some y->AL y.2.k=false->S.getD y.1 false=true:=by
     intro hpe p' y hlt hy hyk;refine bef _ ?_;have hok:=hd.pair p' p _ _ hlt hy hx;unfold GW at hok;simp only[Xg]at hok;have h1:=hok.1.1.1;rw[hyk]at h1;simp only[Zz,X7,Xt,beq_iff_eq]at h1;rcases h1 with h1 | h1
     .exact h1
     .exact absurd h1 hpe
    have late:pe<p->AL mi'.k=false->E=none:=by
     intro hlt hhk
     cases hE:E with
     | none=>rfl
     | some g=>
      obtain⟨p',y,h1,h2,h3,h4⟩:=hpart (by rw[hE];rfl);rcases (inv.done p' y h3 h4).1 (hbefore (by omega) p' y (by omega) h3 h4)with h | ⟨_,h⟩<;>omega
    have eye:∀k u,k∈mi'.eyes->Aj (st p).env k=some u->Aq P L w u (a.tmps.getD k undef):=by
     intro k' u hke' hl;rcases Ll h0 hall p (by simp;omega) k' u hl with⟨j,m,hj,hmj,hdj,rfl⟩ | ⟨hno,hs'⟩
     .have hy:q[j]?=some q[j]:=Xi (by omega)
      have e:m=q[j].2:=by rw[hms j _ hy]at hmj;injection hmj with hmj;exact hmj.symm
      subst e;have hok:=hd.pair j p _ _ hj hy hx;unfold GW at hok;simp only[Xg]at hok;have h2:=hok.1.1.2;rw[hdj]at h2;simp only[Xt,X0]at h2;rcases h2 with h2 | h2
      .exact absurd hke' (by simpa using h2)
      .refine inv.vals j _ hy (bef _ h2) (λhjE=>?_) k' hdj;obtain⟨hEs,hje⟩:=hjE;have h5:=hok.2.2;simp only[h2,Bool.not_true,Bool.or_false,Xt,bne_iff_ne,ne_eq,X0]at h5;rcases h5 with h5 | h5
       .exact h5 hje
       .have:=late (by omega) h5;rw[this]at hEs;cases hEs
     .refine inv.old k' u (λp' y hy hSy hdy=>?_) hs';rcases Z0 p' p with hlt | heq | hgt
      .exact hno p' y.2 hlt (hms p' y hy) hdy
      .subst heq;rw[hx]at hy;injection hy with hy;subst hy;simp only at hSy;rw[hSy]at hun;cases hun
      .have hok:=hd.pair p p' _ _ hgt hx hy;unfold GW at hok;simp only[Xg]at hok;have h3:=hok.1.2;rw[hdy]at h3;simp only[Xt,X0]at h3;rcases h3 with h3 | h3
       .exact absurd hke' (by simpa using h3)
       .have:=aft y.1 (idx p' y hy) h3;rw[this]at hSy;cases hSy
    have hS':IB ops (S.setIfInBounds i true):=by
     intro j oj hoj hj e he hb;rw[EF S i _ (by omega)]at hj ⊢;split
     .rfl
     .split at hj
      .rename_i e1;subst e1;rw[ho]at hoj;injection hoj with hoj;subst hoj;exact hp e he hb
      .exact hS j oj hoj hj e he hb
    have hc':ops.size<=cnt (S.setIfInBounds i true)+fuel:=by rw[Tb (by omega) hun];omega
    have dsts:∀(p':Nat) y k',q[p']?=some y->i≠y.1->y.2.dst=some k'->o.dst≠some k':=by
     intro p' y k' hy e hk;rw[<-hdst];intro hcon
     have epn:p≠p':=λep=>by subst ep;rw[hx]at hy;injection hy with hy;subst hy;exact e rfl
     rcases Z1 epn with hlt | hgt
     .have hok:=hd.pair p p' _ _ hlt hx hy;unfold GW at hok;simp only[Xg]at hok;have h4:=hok.2.1;rw[hcon]at h4;simp only[bne_iff_ne]at h4;exact h4 hk
     .have hok:=hd.pair p' p _ _ hgt hy hx;unfold GW at hok;simp only[Xg]at hok;have h4:=hok.2.1;rw[hk]at h4;simp only[bne_iff_ne]at h4;exact h4 hcon
    have hidx:∀(p':Nat) y,q[p']?=some y->(i=y.1 ↔ p'=p):=λp' y hy=>⟨λe=>(uniq p p' _ _ hx hy e).symm,λe=>by subst e;rw[hx]at hy;injection hy with hy;rw[<-hy]⟩
    have getS:∀(p':Nat) y,q[p']?=some y->((S.setIfInBounds i true).getD y.1 false=true ↔ p'=p\/S.getD y.1 false=true):=λp' y hy=>by
     rw[EF S i _ (by omega)];by_cases e:i=y.1
     .rw[zu e];exact⟨λ_=>.inl ((hidx p' y hy).1 e),λ_=>rfl⟩
     .rw[zw e];exact⟨λh=>.inr h,λh=>h.resolve_left λe'=>e ((hidx p' y hy).2 e')⟩
    have next:∀(p1:Nat) (E1:Option Nat) (L':Loc) (w':World) (u:Value),p1<=q.length->(E1.isSome=true->p1<=pe) ->
      (∀(p':Nat) y,q[p']?=some y->AL y.2.k=false->(p'=p\/S.getD y.1 false=true ↔ p'<p1\/(E1.isSome=true/\p'=pe))) ->
      ((p=pe/\E1.isSome=true)\/Aq P L' w' (vals p) u)->(∀p',p'≠p->(E1.isSome=true/\p'=pe ↔ E.isSome=true/\p'=pe)) ->
      (∀g,E1=some g->D0 P L' w' g (.cells ty (zc.map λx=>.t (.v x)))/\¬L'.I g/\(∀b r,Aj (st p1).H b=some r->L'.μ b≠g)/\w0.heap.size<=g/\((p=pe/\u = .pointer (some ⟨g,0,none⟩))\/(p≠pe/\E=some g))) ->
      B1 P G L' (st p1).H w'->L'.nx=(st p1).nx->Bh L w L' w'->Ext L (st p0).H w L' (st p1).H w' ->
      wpAny P .any ops (B8 P G B Q L0 s.H w0) fuel (S.setIfInBounds i true) (a.put o.dst u) w':=by
     intro p1 E1 L' w' u hp1 hlow hdone hru hEE hearly hok' hnx' hm' hx';refine go _ p1 E1 L' _ w' (by simpa using hs) hS' hc' ⟨hp1,hlow,λp' y hy hyk=>(getS p' y hy).trans (hdone p' y hy hyk),hok',hnx',X1 inv.base hm'.nx,?_,?_,?_,?_,?_,inv.ext.trans hx',λb hb=>(hm'.μ b (X6 hb inv.base)).trans (inv.μ b hb)⟩
     .rw[<-inv.size];cases o.dst<;>simp[Act.put]
     .cases o.dst<;>simp[Act.put,inv.defers]
     .intro p' y hy hSy hpE k' hk;rw[Gp];by_cases e:i=y.1
      .have ep:=(hidx p' y hy).1 e;subst ep;rw[hx]at hy;injection hy with hy;subst hy;rw[zu ⟨by rw[<-hdst];exact hk,by rw[inv.size,hn];exact hdlt k' (by rw[<-hdst];exact hk)⟩];rcases hru with⟨h1,h2⟩ | h
       .exact absurd ⟨h2,h1⟩ hpE
       .exact h
      .have hpp:p'≠p:=λe'=>e ((hidx p' y hy).2 e');rw[zw (λh=>dsts p' y k' hy e hk h.1)];exact Aq.keep hm' _ (inv.vals p' y hy (((getS p' y hy).1 hSy).resolve_left hpp) (λh=>hpE ((hEE p' hpp).2 h)) k' hk)
     .intro g hg;obtain⟨h1,h2,h3,h4,h5⟩:=hearly g hg;refine⟨h1,h2,h3,h4,λx k' hxx hk=>?_⟩;rw[Gp];rcases h5 with⟨h5,h6⟩ | ⟨h5,h6⟩
      .subst h5;rw[hx]at hxx;injection hxx with hxx;subst hxx;rw[zu ⟨by rw[<-hdst];exact hk,by rw[inv.size,hn];exact hdlt k' (by rw[<-hdst];exact hk)⟩];exact h6
      .have e:i≠x.1:=λe=>h5 ((hidx pe x hxx).1 e).symm;rw[zw (λh=>dsts pe x k' hxx e hk h.1)];exact(inv.early g h6).2.2.2.2 x k' hxx hk
     .intro k' u' hno h0';rw[Gp];have hk:=hno p _ hx (by rw[EF S i _ (by omega),zu rfl]);rw[zw (λh=>hk (by rw[hdst];exact h.1))];refine Aq.keep hm' u' (inv.old k' u' (λp' y hy hSy=>hno p' y hy ?_) h0');rw[EF S i _ (by omega)];split
      .rfl
      .exact hSy
    have keepE:∀{L':Loc} {w':World} {p1:Nat},Bh L w L' w'->Ext L (st p0).H w L' (st p1).H w'->p≠pe->∀g,E=some g->D0 P L' w' g (.cells ty (zc.map λx=>.t (.v x)))/\¬L'.I g/\(∀b r,Aj (st p1).H b=some r->L'.μ b≠g)/\w0.heap.size<=g/\((p=pe/\undef = .pointer (some ⟨g,0,none⟩))\/(p≠pe/\E=some g)):=by
     intro L' w' p1 hm' hx' hpe g hg;obtain⟨e1,e2,e3,e4,_⟩:=inv.early g hg;have hgl:g<w.heap.size:=e1.lt;have hnm:¬Js L (st p0).H g:=λ⟨b,r,hb,e⟩=>e3 b r hb e;refine⟨Tq (hx'.same g hgl hnm) e1,λhI=>?_,λb r hb e=>?_,e4,.inr ⟨hpe,hg⟩⟩
     .rcases hx'.new g hI with h | h | h
      .exact e2 h
      .omega
      .exact hnm h
     .rcases hx'.mine g ⟨b,r,hb,e⟩with h | h
      .omega
      .exact hnm h
    have early':∀{L':Loc} {w':World} {p1:Nat} (u:Value),Bh L w L' w'->Ext L (st p0).H w L' (st p1).H w'->p≠pe->∀g,E=some g->D0 P L' w' g (.cells ty (zc.map λx=>.t (.v x)))/\¬L'.I g/\(∀b r,Aj (st p1).H b=some r->L'.μ b≠g)/\w0.heap.size<=g/\((p=pe/\u = .pointer (some ⟨g,0,none⟩))\/(p≠pe/\E=some g)):=
     λu hm' hx' hpe g hg=>by
      obtain⟨h1,h2,h3,h4,_⟩:=keepE hm' hx' hpe g hg;exact⟨h1,h2,h3,h4,.inr ⟨hpe,hg⟩⟩
    have hi':Interp P G B L ({ ((st p).only mi'.eyes)with H:=(st p0).H,nx:=(st p0).nx }:Am) a w:=by
     refine⟨inv.heap,inv.nx,inv.base,by show a.tmps.size=(st p).n;rw[nconst p (by omega)];exact inv.size,inv.defers,λk u hl=>?_⟩;have hl':Aj ((st p).only mi'.eyes).env k=some u:=hl;rw[Lg]at hl';split at hl'
     .rename_i hke';exact eye k u hke' hl'
     .cases hl'
    have hww:({ ((st p).only mi'.eyes)with H:=(st p0).H,nx:=(st p0).nx }:Am).wants ops o=mi'.wants (st p).env:=by
     rw[hwants];exact SZ (st p) mi' mi'.eyes (λ_ h=>h)
    have hev:mi'.xs.map (·.ev ({ ((st p).only mi'.eyes)with H:=(st p0).H,nx:=(st p0).nx }:Am).env)=mi'.xs.map (·.ev (st p).env):=SY (st p) mi' mi'.eyes (λ_ h=>h);unfold wpOp;rw[ho];simp only;by_cases hpe:p=pe
    .
     subst hpe;rw[hxe]at hx;injection hx with hx;subst hx;simp only at hke hge hcop hdst hww hwants
     have hE:E=none:=by
      cases hE:E with
      | none=>rfl
      | some g=>
       have:=(inv.done p _ hxe (hpk _ hxe)).2 (.inr ⟨by rw[hE];rfl,rfl⟩);simp only at this;rw[this]at hun;cases hun
     subst hE
     have hp0p:p0<=p:=by
      rcases Xr p p0 with h | h
      .have:=(inv.done p _ hxe (hpk _ hxe)).2 (.inl h);simp only at this;rw[this]at hun;cases hun
      .exact h
     rw[hke]at hcop;obtain⟨hoa,hzc⟩:=iT hcop;obtain⟨w',ob,hr,hout,hheap,hrow⟩:=iS hoa hzc a w;obtain⟨k1,k2,k3⟩:=iQ inv.heap hout hheap
     have hwt:mi'.wants (st p).env=some true:=by simp[AF.wants,hge]
     rw[zu (hi'.wants (hww.trans hwt))];refine .inl ?_;unfold Oper.wp;rw[hr,Oper.upon_value]
     refine next p0 (some w.heap.size) L w' _ inv.le (λ_=>hp0p) (λp' y hy hyk=>?_) (.inl ⟨rfl,rfl⟩) (λp' hpp=>⟨λh=>absurd h.2 hpp,λh=>(by cases h.1)⟩) (λg hg=>?_) k1 inv.nx k2 k3
     .rw[inv.done p' y hy hyk];constructor
      .rintro(h | h | ⟨h,_⟩)
       .exact .inr ⟨rfl,h⟩
       .exact .inl h
       .cases h
      .rintro(h | ⟨_,h⟩)
       .exact .inr (.inl h)
       .exact .inl h
     .injection hg with hg;subst hg;refine⟨hrow L,λhI=>by have:=inv.heap.lt _ hI;omega,λb r hb e=>?_,inv.ext.size,.inl ⟨rfl,rfl⟩⟩;have:=(inv.heap.rep b r hb).lt;omega
    .have hbefore':∀(p':Nat) y,p'<p->q[p']?=some y->AL y.2.k=false->p'<p0\/(E.isSome=true/\p'=pe):=by
      intro p' y hlt hy hyk;exact(inv.done p' y hy hyk).1 (hbefore hpe p' y hlt hy hyk)
     have keepdone:AL mi'.k=true->∀(p':Nat) y,q[p']?=some y->AL y.2.k=false->(p'=p\/S.getD y.1 false=true ↔ p'<p0\/(E.isSome=true/\p'=pe)):=by
      intro hquiet p' y hy hyk;rw[inv.done p' y hy hyk];constructor
      .rintro(h | h)
       .subst h;rw[hx]at hy;injection hy with hy;subst hy;rw[hquiet]at hyk;cases hyk
       .exact h
      .exact λh=>.inr h
     rcases step p _ hx with⟨hquiet,hval,hst⟩ | ⟨hheavy,hwf,hv,hst⟩ | ⟨hheavy,hwt,H',nx',hek,hst⟩
     .simp only at hquiet hval hst;unfold HT at hval;split at hval
      .rename_i hwt;rw[zu (hi'.wants (hww.trans hwt))]
       have hval0:Bi Φ (st p0).H (st p0).nx mi'.k (mi'.xs.map (·.ev (st p).env))=some (vals p):=by
        by_cases hpp:p0<=p
        .by_cases hlt:p<pe\/E=none
         .have hf:=flat p0 p hpp (by omega) (λp' y h1 h2 h3=>by
           cases hyk:AL y.2.k with
           | true=>rfl
           | false=>
            rcases hbefore' p' y h2 h3 hyk with h | ⟨h,h'⟩
            .omega
            .rcases hlt with hlt | hlt
             .omega
             .rw[hlt]at h;cases h)
          rw[<-hf.1,<-hf.2];exact hval
         .exfalso
          have hEs:E.isSome=true:=by
           cases hE:E with
           | none=>exact absurd (.inr hE) hlt
           | some g=>rfl
          obtain⟨p',y,h1,h2,h3,h4⟩:=hpart hEs;rcases hbefore' p' y (by omega) h3 h4 with h | ⟨_,h⟩<;>omega
        .have walk:∀p1,p<=p1->p1<=p0->Bi Φ (st p1).H (st p1).nx mi'.k (mi'.xs.map (·.ev (st p).env))=some (vals p):=by
          intro p1
          induction p1 with
          | zero=>
           intro h _
           have:p=0:=by omega
           subst this;exact hval
          | succ p1 ihp=>
           intro h1 h2;by_cases e:p=p1+1
           .subst e;exact hval
           .have hv1:=ihp (by omega) (by omega);have hle:=inv.le;have hy:q[p1]?=some q[p1]:=Xi (by have:=inv.le;omega);have hdy:=step p1 _ hy
            cases hyk:AL (q[p1]).2.k with
            | true=>
             have:=MY hdy hyk;rw[this.1,this.2];exact hv1
            | false=>
             by_cases hind:Gv mi'.k=true
             .exact Po hind hv1
             .have hlt:p<p1:=by
               rcases Xr p p1 with h | h
               .exact h
               .have:p1=p:=by omega
                subst this;rw[hx]at hy;injection hy with hy;rw[<-hy]at hyk;simp only at hyk;rw[hquiet]at hyk;cases hyk
              by_cases hp1e:p1=pe
              .subst hp1e;have hye:=hy;rw[hxe]at hye;injection hye with hye;refine Lk ((Lj hΦ hdy (fresh p1 (by have:=inv.le;omega))).2 (.inl ?_)) hv1;rw[<-hye,hke];rfl
              have hSy:=(inv.done p1 _ hy hyk).2 (.inl (by omega));have hok:=hd.pair p p1 _ _ hlt hx hy;unfold GW at hok;simp only[Xg]at hok;have h1':=hok.1.1.1;simp only[hquiet,hyk,Yf,X7,Xt,beq_iff_eq]at h1';rcases h1' with(((h | h) | h) | h) | h
              .exact absurd h hind
              .exact Lk ((Lj hΦ hdy (fresh p1 (by have:=inv.le;omega))).2 (.inl h)) hv1
              .exact hrun.again p p1 mi' (by simpa using h) (hms p _ hx)
              .have:=aft _ (idx p1 _ hy) h;rw[this]at hSy;cases hSy
              .exact absurd h hp1e
         exact walk p0 (by omega) (Xh _)
       have hek':A0 Φ ({ ((st p).only mi'.eyes)with H:=(st p0).H,nx:=(st p0).nx }:Am).H ({ ((st p).only mi'.eyes)with H:=(st p0).H,nx:=(st p0).nx }:Am).nx mi'.k (mi'.xs.map (·.ev ({ ((st p).only mi'.eyes)with H:=(st p0).H,nx:=(st p0).nx }:Am).env))=some (vals p,(st p0).H,(st p0).nx):=by
        rw[hev];exact SX hval0
       have haop:=J9 (B:=B) hΦ hcop hek' L a w hi';refine .inl (Gm ?_ (λ_ _ _ h=>h.elim) haop);rintro a' w' ⟨u,L',rfl,hru,hok',hnx',hm',hx'⟩
       exact next p0 E L' w' u inv.le inv.low (keepdone hquiet) (.inr hru) (λ_ _=>Iff.rfl) (early' u hm' hx' hpe) hok' hnx' hm' hx'
      .rename_i hwf;rw[zw (by rw[hi'.wants (hww.trans hwf)];simp)];injection hval with hval
       exact next p0 E L w undef inv.le inv.low (keepdone hquiet) (.inr (by rw[<-hval];simp only[Aq,AA])) (λ_ _=>Iff.rfl) (early' undef (Bh.refl _ _) (Ext.refl _ _ _) hpe) inv.heap inv.nx (Bh.refl _ _) (Ext.refl _ _ _)
      .cases hval
     all_goals
      simp only at hheavy hst
      have hp0p:p0<=p:=by
       rcases Xr p p0 with h | h
       .have:=(inv.done p _ hx hheavy).2 (.inl h);simp only at this;rw[this]at hun;cases hun
       .exact h
      have hEp:E.isSome=true->p<pe:=λhEs=>by
       rcases Xr p pe with h | h
       .exact h
       .have:=late (by omega) hheavy;rw[this]at hEs;cases hEs
      have hf:=flat p0 p hp0p (by omega) (λp' y h1 h2 h3=>by
       cases hyk:AL y.2.k with
       | true=>rfl
       | false=>
        rcases hbefore' p' y h2 h3 hyk with h | ⟨h,h'⟩
        .omega
        .have:=hEp h;omega)
      have hdone':∀(p':Nat) y,q[p']?=some y->AL y.2.k=false->(p'=p\/S.getD y.1 false=true ↔ p'<p+1\/(E.isSome=true/\p'=pe)):=by
       intro p' y hy hyk;rw[inv.done p' y hy hyk];constructor
       .rintro(h | h | h)
        .exact .inl (by omega)
        .exact .inl (by omega)
        .exact .inr h
       .rintro(h | h)
        .by_cases e:p'=p
         .exact .inl e
         .exact .inr (hbefore' p' y (by omega) hy hyk)
        .exact .inr (.inr h)
      have hlow':E.isSome=true->p+1<=pe:=λh=>hEp h
     .rw[zw (by rw[hi'.wants (hww.trans hwf)];simp)]
      have e1:(st (p+1)).H=(st p0).H:=by rw[hst,DV,hf.1]
      have e2:(st (p+1)).nx=(st p0).nx:=by rw[hst,EW,hf.2]
      refine next (p+1) E L w undef (by omega) hlow' hdone' (.inr (by rw[hv];simp only[Aq,AA])) (λ_ _=>Iff.rfl) (early' undef (Bh.refl _ _) (by rw[e1];exact Ext.refl _ _ _) hpe) (by rw[e1];exact inv.heap) (by rw[e2];exact inv.nx) (Bh.refl _ _) (by rw[e1];exact Ext.refl _ _ _)
     .rw[zu (hi'.wants (hww.trans hwt))]
      have hek':A0 Φ ({ ((st p).only mi'.eyes)with H:=(st p0).H,nx:=(st p0).nx }:Am).H ({ ((st p).only mi'.eyes)with H:=(st p0).H,nx:=(st p0).nx }:Am).nx mi'.k (mi'.xs.map (·.ev ({ ((st p).only mi'.eyes)with H:=(st p0).H,nx:=(st p0).nx }:Am).env))=some (vals p,H',nx'):=by
       rw[hev];show A0 Φ (st p0).H (st p0).nx mi'.k _=_;rw[<-hf.1,<-hf.2];exact hek
      have haop:=J9 (B:=B) hΦ hcop hek' L a w hi';refine .inl (Gm ?_ (λ_ _ _ h=>h.elim) haop);rintro a' w' ⟨u,L',rfl,hru,hok',hnx',hm',hx'⟩
      have e1:(st (p+1)).H=H':=by rw[hst,DV]
      have e2:(st (p+1)).nx=nx':=by rw[hst,EW]
      exact next (p+1) E L' w' u (by omega) hlow' hdone' (.inr hru) (λ_ _=>Iff.rfl) (early' u hm' (by rw[e1];exact hx') hpe) (by rw[e1];exact hok') (by rw[e2];exact hnx') hm' (by rw[e1];exact hx')
 obtain⟨hok,hm,hx⟩:=hi0.heap.of_heap (w':={ w0 with drawn:=w0.drawn+1 }) ⟨rfl,rfl,rfl⟩ rfl
 have hfalse:∀i,(Yi ops.size false).getD i false=false:=by
  intro i;simp only[Xv,Z3];split<;>rfl
 refine main ops.size _ 0 none L0 a0 _ (by simp) ?_ (by omega) ⟨Yj _,λh=>(by cases h),?_,by rw[h0];exact hok,by rw[h0];exact hi0.nx,hi0.base,hi0.size,hi0.defers,?_,λg h=>(by cases h),?_,by rw[h0];exact hx,λ_ _=>rfl⟩ (λh=>by cases h)
 .intro i o _ h;rw[hfalse]at h;cases h
 .intro p x _ _;rw[hfalse];constructor
  .intro h;cases h
  .rintro(h | ⟨h,_⟩)
   .omega
   .cases h
 .intro p x _ h;rw[hfalse]at h;cases h
 .intro k u _ hu;exact Aq.keep hm u (hi0.env k u hu)
end
inductive AE where
 | skip
 | ops (l:List AF)
 | draw (l:List AF)
 | drawG (k:Nat) (l:List GI)
 | drawE (l:List GI)
 | seq (a b:AE)
 | cond (c:Opd) (a b:AE)
 | block (id:Nat) (b:AE)
 | loop (b:AE)
 | exit (id:Nat)
 | ret
 | scope (b:AE)
def Lm (A:List Nat) (l:List AF):List Nat:=
 let idx:=X8 l.length
 let hs:=idx.filter λi=>!((l[i]?).map λm=>AL m.k).getD true
 let qs:=idx.filter λi=>((l[i]?).map λm=>AL m.k).getD true
 (X8 (hs.length+1)).flatMap λg=>(qs.filter λi=>(hs.filter λh=>(A.getD i 0).testBit h).length==g)++(hs[g]?).toList
def HW (ops:Array Oper) (q:List (Nat×AF)):Bool:=
 let A:=DJ ops.toList []
 q.zipIdx.all λx=>match x.1.2.k with
  | .hcall _=>(q.drop (x.2+1)).all λy=>(A.getD y.1 0).testBit x.1.1
  | _=>true
def Ps (ops:Array Oper) (l:List AF) (π:List Nat):Option AE:=
 let q:=B9 l π
 let pk:=Pm q
 let R:=Pn (DJ ops.toList []) q
 let is:=IG pk.1 pk.2 R q
 if(HU ops l π pk.1 pk.2 R&&HV pk.1 pk.2 R is)&&HW ops q then some (.drawG pk.2 is)else none
theorem Tr (pa k:Nat) (R:List (Nat×Nat)) (q:List (Nat×AF)):(IG pa k R q).map GI.mini=q.map Prod.snd:=by
 unfold IG;rw[Yt]
 have:∀(q:List (Nat×AF)) (n:Nat),(q.zipIdx n).map (GI.mini∘λx=>if pa<=x.2/\x.2<pa+k then .g (x.2-pa) x.1.2 else .o x.1.2 (R.any λr=>r.1==x.2) ((R.filter λr=>r.2==x.2).map Prod.fst))=q.map Prod.snd:=by
  intro q
  induction q with
  | nil=>intro n;rfl
  | cons a q ih=>
   intro n;simp only[List.zipIdx_cons,Xc,ih];congr 1;simp only[Function.comp];split<;>rfl
 exact this q 0
theorem iV {ops:Array Oper} {l:List AF} {π:List Nat} {M:AE} (h:Ps ops l π=some M) :
  ∃pa k R is,M = .drawG k is/\HU ops l π pa k R=true/\HV pa k R is=true/\is.map GI.mini=(B9 l π).map Prod.snd/\HW ops (B9 l π)=true:=by
 unfold Ps at h;simp only at h;split at h
 .rename_i hc;rw[Xg,Xg]at hc;injection h with h;exact⟨_,_,_,_,h.symm,hc.1.1,hc.1.2,Tr _ _ _ _,hc.2⟩
 .cases h
def Pt (ops:Array Oper) (l:List AF) (π:List Nat):Option AE:=
 let q:=B9 l π
 let R:=Pn (DJ ops.toList []) q
 match (X8 q.length).find? λpe=>drawE ops l π pe R with
 | some _=>if HV 0 0 R (IG 0 0 R q)&&HW ops q then some (.drawE (IG 0 0 R q))else none
 | none=>none
theorem iW {ops:Array Oper} {l:List AF} {π:List Nat} {M:AE} (h:Pt ops l π=some M) :
  ∃pe R is,M = .drawE is/\drawE ops l π pe R=true/\HV 0 0 R is=true/\is.map GI.mini=(B9 l π).map Prod.snd/\HW ops (B9 l π)=true:=by
 unfold Pt at h;simp only at h;split at h
 .rename_i pe hpe;split at h
  .rename_i hc;rw[Xg]at hc;injection h with h;have hp:=List.find?_some hpe;exact⟨pe,_,_,h.symm,hp,hc.1,Tr _ _ _ _,hc.2⟩
  .cases h
 .cases h
def Ts (ops:Array Oper) (l:List AF) (π:List Nat):Option AE:=
 match Ps ops l π with
 | some M=>some M
 | none=>Pt ops l π
def comp (P:Program) (G:AM) (N:Nat):Code->Option AE
 | .skip=>some .skip
 | .label _=>some .skip
 | .region _ ops draw=>match ops.toList.mapM (Em P G N draw ops)with
  | some l=>if draw then
    (if HU ops l (Lm (DJ ops.toList []) l) 0 0 []&&HW ops (B9 l (Lm (DJ ops.toList []) l))then some (.draw ((B9 l (Lm (DJ ops.toList []) l)).map Prod.snd))
    else Ts ops l (Lm (DJ ops.toList []) l))
   else some (.ops l)
  | none=>none
 | .seq a b=>match comp P G N a,comp P G N b with
  | some x,some y=>some (.seq x y)
  | _,_=>none
 | .cond c a b=>match comp P G N a,comp P G N b with
  | some x,some y=>some (.cond (AU G c) x y)
  | _,_=>none
 | .block id b=>match comp P G N b with
  | some x=>some (.block id x)
  | none=>none
 | .loop b=>match comp P G N b with
  | some x=>some (.loop x)
  | none=>none
 | .exit id=>some (.exit id)
 | .ret=>some .ret
 | .scope b=>match comp P G N b with
  | some x=>some (.scope x)
  | none=>none
 | _=>none
def MC (P:Program) (G:AM) (B N:Nat) (M:AE) (Q:Exit->Am->Prop) (s:Am):Prop:=
 ∀c,comp P G N c=some M->s.n=N->Cm P G B c Q s
structure Ctx (P:Program) (G:AM) (Φ:AP):Prop where
 mix:P.follows .mixedOrders=true
 sound:Φ.Sound P G
section
variable {P : Program} {G : AM} {B N : Nat} {Φ : AP} {Q Q' : Exit -> Am -> Prop} {s s' : Am}
theorem E4 {c:Code} {M:AE} (h:comp P G N c=some M) :
  match M with
  | .skip=>c = .skip\/∃l,c = .label l
  | .ops l=>∃id ops,c = .region id ops false/\ops.toList.mapM (Em P G N false ops)=some l
  | .draw l=>∃id ops lt π,c = .region id ops true/\ops.toList.mapM (Em P G N true ops)=some lt/\HU ops lt π 0 0 []=true/\l=(B9 lt π).map Prod.snd/\HW ops (B9 lt π)=true
  | .drawG k is=>∃id ops lt π pa R,c = .region id ops true/\ops.toList.mapM (Em P G N true ops)=some lt/\HU ops lt π pa k R=true/\HV pa k R is=true/\is.map GI.mini=(B9 lt π).map Prod.snd/\HW ops (B9 lt π)=true
  | .drawE is=>∃id ops lt π pe R,c = .region id ops true/\ops.toList.mapM (Em P G N true ops)=some lt/\drawE ops lt π pe R=true/\HV 0 0 R is=true/\is.map GI.mini=(B9 lt π).map Prod.snd/\HW ops (B9 lt π)=true
  | .seq x y=>∃a b,c = .seq a b/\comp P G N a=some x/\comp P G N b=some y
  | .cond k x y=>∃k0 a b,c = .cond k0 a b/\k=AU G k0/\comp P G N a=some x/\comp P G N b=some y
  | .block id x=>∃b,c = .block id b/\comp P G N b=some x
  | .loop x=>∃b,c = .loop b/\comp P G N b=some x
  | .exit id=>c = .exit id
  | .ret=>c = .ret
  | .scope x=>∃b,c = .scope b/\comp P G N b=some x:=by
 cases c<;>simp only[comp]at h
 case skip=>injection h with h;subst h;exact .inl rfl
 case label l=>injection h with h;subst h;exact .inr ⟨l,rfl⟩
 case region id ops draw=>
  split at h
  .rename_i l hl
   cases draw with
   | false=>simp only[Xy,if_false]at h;injection h with h;subst h;exact⟨id,ops,rfl,hl⟩
   | true=>
    simp only[if_true]at h;split at h
    .rename_i hd;rw[Xg]at hd;injection h with h;subst h;exact⟨id,ops,l,_,rfl,hl,hd.1,rfl,hd.2⟩
    .unfold Ts at h;split at h
     .rename_i M' hM;injection h with h;subst h;obtain⟨pa,k,R,is,rfl,h1,h2,h3⟩:=iV hM;exact⟨id,ops,l,_,pa,R,rfl,hl,h1,h2,h3⟩
     .obtain⟨pe,R,is,rfl,h1,h2,h3⟩:=iW h;exact⟨id,ops,l,_,pe,R,rfl,hl,h1,h2,h3⟩
  .cases h
 case seq a b=>
  split at h
  .rename_i x y hx hy;injection h with h;subst h;exact⟨a,b,rfl,hx,hy⟩
  .cases h
 case cond k a b=>
  split at h
  .rename_i x y hx hy;injection h with h;subst h;exact⟨k,a,b,rfl,rfl,hx,hy⟩
  .cases h
 case block id b=>
  split at h
  .rename_i x hx;injection h with h;subst h;exact⟨b,rfl,hx⟩
  .cases h
 case loop b=>
  split at h
  .rename_i x hx;injection h with h;subst h;exact⟨b,rfl,hx⟩
  .cases h
 case exit id=>injection h with h;subst h;rfl
 case ret=>injection h with h;subst h;rfl
 case scope b=>
  split at h
  .rename_i x hx;injection h with h;subst h;exact⟨b,rfl,hx⟩
  .cases h
 all_goals cases h
theorem MC.sub {M:AE} (hs:Sub P G B s s') (hn:s'.n=s.n) (h:MC P G B N M Q s'):MC P G B N M Q s:=
 λc hc hN=>(h c hc (hn.trans hN)).sub hs
theorem MC.mono {M:AE} (h:MC P G B N M Q s) (hq:∀e s1,Q e s1->Q' e s1):MC P G B N M Q' s:=λc hc hN=>(h c hc hN).mono hq
def Tt (P:Program) (G:AM) (B N:Nat) (y:AE) (Q:Exit->Am->Prop):Exit->Am->Prop
 | .normal,s=>s.n=N/\MC P G B N y Q s
 | e,s=>Q e s
theorem JG {x y:AE} (h:MC P G B N x (Tt P G B N y Q) s):MC P G B N (.seq x y) Q s:=by
 intro c hc hn;obtain⟨a,b,rfl,ha,hb⟩:=E4 hc;refine RA ((h a ha hn).mono λe s1 q=>?_)
 cases e<;>first | exact q.2 b hb q.1 | exact q
theorem Tu {k:Opd} {x y:AE} {t:Bool} (hk:k.ev s.env = .t (.v (.bool t))) (h:MC P G B N (if t then x else y) Q s):MC P G B N (.cond k x y) Q s:=by
 intro c hc hn;obtain⟨k0,a,b,rfl,rfl,ha,hb⟩:=E4 hc;rw[IC]at hk;refine cJ hk ?_;cases t
 .exact h b hb hn
 .exact h a ha hn
theorem AY {id:Nat} {x:AE} (h:MC P G B N x (EV id Q) s):MC P G B N (.block id x) Q s:=by
 intro c hc hn;obtain⟨b,rfl,hb⟩:=E4 hc;exact cK (h b hb hn)
def GX (Q:Exit->Am->Prop):Exit->Am->Prop
 | .goto _,_=>False
 | e,s=>Q e s
theorem iX {x:AE} (h:MC P G B N x (GX Q) s):MC P G B N (.scope x) Q s:=by
 intro c hc hn;obtain⟨b,rfl,hb⟩:=E4 hc;intro L a w hi;refine wp_scope_straight (wp_mono (h b hb hn L a w hi) ?_);rintro e a' w' ⟨s1,L1,q,rest⟩
 cases e with
 | goto l=>exact q.elim
 | normal=>exact⟨s1,L1,q,rest⟩
 | exit i=>exact⟨s1,L1,q,rest⟩
 | ret=>exact⟨s1,L1,q,rest⟩
 | panic ch=>exact⟨s1,L1,q,rest⟩
 | outgrown=>exact⟨s1,L1,q,rest⟩
theorem Pu {x:AE} (Inv:Nat->Am->Prop) (n:Nat) (h0:Inv n s) (hN:∀n s,Inv n s->s.n=N) (round:∀n s,Inv n s->MC P G B N x (RC P G B Inv n Q) s):MC P G B N (.loop x) Q s:=by
 intro c hc _;obtain⟨b,rfl,hb⟩:=E4 hc;exact cL Inv n h0 λn s hi=>round n s hi b hb (hN n s hi)
noncomputable def B2 (Φ:AP):AE->Am->Option (Exit×Am)
 | .skip,s=>some (.normal,s)
 | .ops l,s=>match Gu Φ l s with
  | some s1=>some (.normal,s1)
  | none=>none
 | .draw l,s=>match FQ Φ l s with
  | some s1=>some (.normal,s1)
  | none=>none
 | .drawG k l,s=>match Ea Φ k 0 0 [] l s with
  | some s1=>some (.normal,s1)
  | none=>none
 | .drawE l,s=>match Ea Φ 0 0 0 [] l s with
  | some s1=>some (.normal,s1)
  | none=>none
 | .seq a b,s=>match B2 Φ a s with
  | some (.normal,s1)=>B2 Φ b s1
  | r=>r
 | .cond c a b,s=>match c.ev s.env with
  | .t (.v (.bool t))=>bif t then B2 Φ a s else B2 Φ b s
  | _=>none
 | .block id b,s=>match B2 Φ b s with
  | some (.exit i,s1)=>if i=id then some (.normal,s1)else some (.exit i,s1)
  | r=>r
 | .loop _,_=>none
 | .exit id,s=>some (.exit id,s)
 | .ret,s=>some (.ret,s)
 | .scope b,s=>match B2 Φ b s with
  | some (.goto _,_)=>none
  | r=>r
theorem iY {m:AF} (h:HS Φ s m=some s'):s'.n=s.n:=by
 unfold HS at h;split at h
 .split at h
  .injection h with h;subst h;rw[FM]
  .cases h
 .injection h with h;subst h;rw[FM]
 .cases h
theorem Nb:∀{l:List AF} {s s':Am},Gu Φ l s=some s'->s'.n=s.n
 | [],s,s',h=>by simp only[Gu,Xd.injEq]at h;rw[h]
 | m::l,s,s',h=>by
  simp only[Gu]at h;split at h
  .rename_i s1 h1;rw[Nb h,iY h1]
  .cases h
theorem Tv:∀{l:List AF} {s s':Am},FQ Φ l s=some s'->s'.n=s.n
 | [],s,s',h=>by simp only[FQ,Xd.injEq]at h;rw[h]
 | m::l,s,s',h=>by
  simp only[FQ]at h;split at h
  .rename_i s1 h1;rw[Tv h];obtain⟨v,hv⟩:=Td h1;exact(Tf hv).2
  .cases h
theorem Nc {k:Nat}:∀(l:List GI) {n b:Nat} {pd:En} {s s':Am},Ea Φ k n b pd l s=some s'->s'.n=s.n
 | [],n,b,pd,s,s',h=>by simp only[Ea,Xd.injEq]at h;rw[h]
 | .o m kp ag::r,n,b,pd,s,s',h=>by
  simp only[Ea]at h;split at h
  .split at h
   .rw[Nc r h,FM]
   .cases h
  .cases h
 | .g j m::r,n,b,pd,s,s',h=>by
  simp only[Ea]at h;split at h
  .rw[Nc r h,FM]
  .cases h
theorem Fs:∀(M:AE) {s:Am} {e:Exit} {s':Am},B2 Φ M s=some (e,s')->s'.n=s.n
 | .skip,s,e,s',h=>by simp only[B2,Xd.injEq,Prod.mk.injEq]at h;rw[h.2]
 | .ops l,s,e,s',h=>by
  simp only[B2]at h;split at h
  .rename_i s1 h1;simp only[Xd.injEq,Prod.mk.injEq]at h;rw[<-h.2,Nb h1]
  .cases h
 | .draw l,s,e,s',h=>by
  simp only[B2]at h;split at h
  .rename_i s1 h1;simp only[Xd.injEq,Prod.mk.injEq]at h;rw[<-h.2,Tv h1]
  .cases h
 | .drawG k l,s,e,s',h=>by
  simp only[B2]at h;split at h
  .rename_i s1 h1;simp only[Xd.injEq,Prod.mk.injEq]at h;rw[<-h.2,Nc l h1]
  .cases h
 | .drawE l,s,e,s',h=>by
  simp only[B2]at h;split at h
  .rename_i s1 h1;simp only[Xd.injEq,Prod.mk.injEq]at h;rw[<-h.2,Nc l h1]
  .cases h
 | .seq a b,s,e,s',h=>by
  simp only[B2]at h;split at h
  .rename_i s1 h1;rw[Fs b h,Fs a h1]
  .exact Fs a h
 | .cond c a b,s,e,s',h=>by
  simp only[B2]at h;split at h
  .rename_i t ht;cases t
   .exact Fs b h
   .exact Fs a h
  .cases h
 | .block id b,s,e,s',h=>by
  simp only[B2]at h;split at h
  .rename_i i s1 h1;split at h
   .simp only[Xd.injEq,Prod.mk.injEq]at h;rw[<-h.2,Fs b h1]
   .simp only[Xd.injEq,Prod.mk.injEq]at h;rw[<-h.2,Fs b h1]
  .exact Fs b h
 | .loop _,s,e,s',h=>by simp[B2]at h
 | .exit id,s,e,s',h=>by simp only[B2,Xd.injEq,Prod.mk.injEq]at h;rw[h.2]
 | .ret,s,e,s',h=>by simp only[B2,Xd.injEq,Prod.mk.injEq]at h;rw[h.2]
 | .scope b,s,e,s',h=>by
  simp only[B2]at h;split at h
  .cases h
  .exact Fs b h
theorem Fa (hΦ:Ctx P G Φ):∀(M:AE) {Q:Exit->Am->Prop} {s:Am} {e:Exit} {s':Am},B2 Φ M s=some (e,s')->Q e s'->MC P G B N M Q s
 | .skip,Q,s,e,s',h,hq=>by
  simp only[B2,Xd.injEq,Prod.mk.injEq]at h;obtain⟨rfl,rfl⟩:=h;intro c hc hn;rcases E4 hc with rfl | ⟨l,rfl⟩
  .exact cE hq
  .exact cF hq
 | .ops l,Q,s,e,s',h,hq=>by
  simp only[B2]at h;split at h
  .rename_i s1 h1;simp only[Xd.injEq,Prod.mk.injEq]at h;obtain⟨rfl,rfl⟩:=h;intro c hc hn;obtain⟨id,ops,rfl,hl⟩:=E4 hc;exact OE (KZ hΦ.sound _ (JA hl) hn h1 hq)
  .cases h
 | .draw l,Q,s,e,s',h,hq=>by
  simp only[B2]at h;split at h
  .rename_i s1 h1;simp only[Xd.injEq,Prod.mk.injEq]at h;obtain⟨rfl,rfl⟩:=h;intro c hc hn;obtain⟨id,ops,lt,π,rfl,hl,hd,rfl,_⟩:=E4 hc;obtain⟨st,vals,ht⟩:=iL h1;exact Tl hΦ.mix hΦ.sound hl hd hn ht hq
  .cases h
 | .drawG k l,Q,s,e,s',h,hq=>by
  simp only[B2]at h;split at h
  .rename_i s1 h1;simp only[Xd.injEq,Prod.mk.injEq]at h;obtain⟨rfl,rfl⟩:=h;intro c hc hn;obtain⟨id,ops,lt,π,pa,R,rfl,hl,hd,hsh,he,_⟩:=E4 hc;obtain⟨st,vals,ht⟩:=To h1 hsh;rw[he]at ht;exact Tl hΦ.mix hΦ.sound hl hd hn ht hq
  .cases h
 | .drawE l,Q,s,e,s',h,hq=>by
  simp only[B2]at h;split at h
  .rename_i s1 h1;simp only[Xd.injEq,Prod.mk.injEq]at h;obtain⟨rfl,rfl⟩:=h;intro c hc hn;obtain⟨id,ops,lt,π,pe,R,rfl,hl,hd,hsh,he,_⟩:=E4 hc;obtain⟨st,vals,ht⟩:=To h1 hsh;rw[he]at ht;exact iU hΦ.mix hΦ.sound hl hd hn ht hq
  .cases h
 | .seq a b,Q,s,e,s',h,hq=>by
  intro c hc hn;refine JG ?_ c hc hn;simp only[B2]at h;split at h
  .rename_i s1 h1;exact Fa hΦ a h1 ⟨(Fs a h1).trans hn,Fa hΦ b h hq⟩
  .rename_i hne;refine Fa hΦ a h ?_;cases e
   case normal=>exact absurd h (hne s')
   all_goals exact hq
 | .cond k a b,Q,s,e,s',h,hq=>by
  simp only[B2]at h;split at h
  .rename_i t ht;refine Tu ht ?_;cases t
   .exact Fa hΦ b h hq
   .exact Fa hΦ a h hq
  .cases h
 | .block id b,Q,s,e,s',h,hq=>by
  refine AY ?_;simp only[B2]at h;split at h
  .rename_i i s1 h1;refine Fa hΦ b h1 ?_;simp only[EV];split at h
   .rename_i hid;rw[zu hid];simp only[Xd.injEq,Prod.mk.injEq]at h;obtain⟨rfl,rfl⟩:=h;exact hq
   .rename_i hid;rw[zw hid];simp only[Xd.injEq,Prod.mk.injEq]at h;obtain⟨rfl,rfl⟩:=h;exact hq
  .rename_i hne;refine Fa hΦ b h ?_;cases e
   case exit i=>exact absurd h (hne i s')
   all_goals exact hq
 | .loop _,Q,s,e,s',h,hq=>by simp[B2]at h
 | .exit id,Q,s,e,s',h,hq=>by
  simp only[B2,Xd.injEq,Prod.mk.injEq]at h;obtain⟨rfl,rfl⟩:=h;intro c hc hn;have:=E4 hc;simp only at this;subst this;exact cG hq
 | .ret,Q,s,e,s',h,hq=>by
  simp only[B2,Xd.injEq,Prod.mk.injEq]at h;obtain⟨rfl,rfl⟩:=h;intro c hc hn;have:=E4 hc;simp only at this;subst this;exact cI hq
 | .scope b,Q,s,e,s',h,hq=>by
  refine iX ?_;simp only[B2]at h;split at h
  .cases h
  .rename_i hne;refine Fa hΦ b h ?_;cases e
   case goto l=>exact absurd h (hne l s')
   all_goals exact hq
theorem Eo {α:Type}:∀{l:List (Nat×α)} {k:Nat} {x:α},Aj l k=some x->(k,x)∈l
 | [],k,x,h=>by simp[Aj]at h
 | (j,y)::l,k,x,h=>by
  simp only[Aj]at h;by_cases e:j=k
  .rw[zu e]at h;injection h with h;subst h;subst e;simp
  .rw[zw e]at h;exact List.mem_cons_of_mem _ (Eo h)
theorem CN (hn:s'.n=s.n) (hx:s'.nx=s.nx) (he:∀q∈s'.env,Aj s.env q.1=some q.2) (hH:∀q∈s'.H,Aj s.H q.1=some q.2):Sub P G B s s':=by
 intro L a w hi;have back:∀b r,Aj s'.H b=some r->Aj s.H b=some r:=λb r h=>hH _ (Eo h)
 refine⟨L,⟨⟨hi.heap.lt,λb r h=>hi.heap.rep b r (back b r h),λb r h=>hi.heap.apart b r (back b r h),λb b' r r' h h'=>hi.heap.inj b b' r r' (back b r h) (back b' r' h'),λb r h=>hi.heap.nx b r (back b r h),hi.heap.glob⟩,
  by rw[hx];exact hi.nx,hi.base,by rw[hn];exact hi.size,hi.defers,λk p h=>hi.env k p (he _ (Eo h))⟩,?_,λ_ _=>rfl⟩
 exact⟨Xh _,λ_ _ _=>rfl,λ_ h=>h,λ_ h=>.inl h,λg ⟨b,r,h,e⟩=>.inr ⟨b,r,back b r h,e⟩,BH.refl w,BR.refl w⟩
mutual
def ren (σ:Nat->Nat):PV->PV
 | .t x=>.t x
 | .row b o n z=>.row (σ b) o n z
 | .ptr b o=>.ptr (σ b) o
 | .ag cs=>.ag (Cc σ cs)
 | .tu cs=>.tu (Cc σ cs)
 | .fn f a c=>.fn f (Cc σ a) (Cc σ c)
 | .ic t x=>.ic t (ren σ x)
 | .mp b=>.mp (σ b)
 | .dead=>.dead
def Cc (σ:Nat->Nat):List PV->List PV
 | []=>[]
 | p::ps=>ren σ p::Cc σ ps
end
mutual
def under (n:Nat):PV->Bool
 | .row b _ _ _=>decide (b<n)
 | .ptr b _=>decide (b<n)
 | .ag cs=>DD n cs
 | .tu cs=>DD n cs
 | .fn _ a c=>DD n a&&DD n c
 | .ic _ x=>under n x
 | .mp b=>decide (b<n)
 | _=>true
def DD (n:Nat):List PV->Bool
 | []=>true
 | p::ps=>under n p&&DD n ps
end
def Gx (σ:Nat->Nat):Row->Row
 | .cells ty cs=>.cells ty (Cc σ cs)
 | .iter t pos=>.iter t pos
 | .map kk es=>.map kk es
 | .lp l x k p=>.lp l x k (ren σ p)
 | .blk l o=>.blk l o
def HX (n:Nat):Row->Bool
 | .cells _ cs=>DD n cs
 | .iter _ _=>true
 | .map _ _=>true
 | .lp _ _ _ p=>under n p
 | .blk _ _=>true
mutual
theorem Ln {L:Loc} {w:World} {σ:Nat->Nat} {nx:Nat}:∀(p:PV) {u:Value},under nx p=true->Aq P L w (ren σ p) u->Aq P ⟨L.I,λb=>L.μ (σ b),nx⟩ w p u
 | .t x,u,_,h=>by simpa only[ren,Aq]using h
 | .row b o n z,u,hu,h=>by
  simp only[ren,Aq,under,decide_eq_true_eq]at h hu ⊢;exact⟨hu,h.2⟩
 | .ptr b o,u,hu,h=>by
  simp only[ren,Aq,under,decide_eq_true_eq]at h hu ⊢;exact⟨hu,h.2⟩
 | .ag cs,u,hu,h=>by
  simp only[ren,Aq,under]at h hu ⊢;obtain⟨us,e,h1,hl⟩:=h;exact⟨us,e,h1,Lo cs hu hl⟩
 | .tu cs,u,hu,h=>by
  simp only[ren,Aq,under]at h hu ⊢;obtain⟨us,e,hl⟩:=h;exact⟨us,e,Lo cs hu hl⟩
 | .fn f a c,u,hu,h=>by
  simp only[ren,Aq,under,Xg]at h hu ⊢;obtain⟨us,vs,e,h1,h2⟩:=h;exact⟨us,vs,e,Lo a hu.1 h1,Lo c hu.2 h2⟩
 | .ic t x,u,hu,h=>by
  simp only[ren,Aq,under]at h hu ⊢;obtain⟨y,e,hy⟩:=h;exact⟨y,e,Ln x hu hy⟩
 | .mp b,u,hu,h=>by
  simp only[ren,Aq,under,decide_eq_true_eq]at h hu ⊢;exact⟨hu,h.2⟩
 | .dead,u,_,_=>by simp only[Aq]
theorem Lo {L:Loc} {w:World} {σ:Nat->Nat} {nx:Nat}:∀(ps:List PV) {us:List Value},DD nx ps=true->AJ P L w (Cc σ ps) us->AJ P ⟨L.I,λb=>L.μ (σ b),nx⟩ w ps us
 | [],us,_,h=>by simpa only[Cc,AJ]using h
 | p::ps,us,hu,h=>by
  simp only[Cc,AJ,DD,Xg]at h hu ⊢;obtain⟨x,xs,e,hx,hxs⟩:=h;exact⟨x,xs,e,Ln p hu.1 hx,Lo ps hu.2 hxs⟩
end
theorem Tw (σ:Nat->Nat):∀(ps:List PV) (j:Nat),(Cc σ ps)[j]?=(ps[j]?).map (ren σ)
 | [],j=>by simp[Cc]
 | p::ps,0=>by simp[Cc]
 | p::ps,j+1=>by simp[Cc,Tw σ ps j]
theorem Tx {n:Nat}:∀{ps:List PV} {j:Nat} {p:PV},DD n ps=true->ps[j]?=some p->under n p=true
 | [],j,p,_,h=>by simp at h
 | q::ps,0,p,hu,h=>by simp only[DD,Xg]at hu;simp at h;subst h;exact hu.1
 | q::ps,j+1,p,hu,h=>by simp only[DD,Xg]at hu;exact Tx hu.2 (by simpa using h)
theorem Tz (σ:Nat->Nat):∀(ps:List PV),(Cc σ ps).length=ps.length
 | []=>rfl
 | p::ps=>by simp[Cc,Tz σ ps]
theorem Lp (σ:Nat->Nat) (hn:s'.n=s.n) (hB:B<=s'.nx) (hσ:∀b,b<B->σ b=b) (he:∀q∈s'.env,Aj s.env q.1=some (ren σ q.2)/\under s'.nx q.2=true)
  (hH:∀q∈s'.H,Aj s.H (σ q.1)=some (Gx σ q.2)/\q.1<s'.nx/\HX s'.nx q.2=true) (hinj:∀q∈s'.H,∀q'∈s'.H,σ q.1=σ q'.1->q.1=q'.1):Sub P G B s s':=by
 intro L a w hi;refine⟨⟨L.I,λb=>L.μ (σ b),s'.nx⟩,⟨⟨hi.heap.lt,λb r h=>?_,λb r h=>?_,λb b' r r' h h' e=>?_,λb r h=>(hH _ (Eo h)).2.1,hi.heap.glob⟩,rfl,hB,by rw[hn];exact hi.size,hi.defers,λk p h=>?_⟩,?_,λb hb=>by show L.μ (σ b)=L.μ b;rw[hσ b hb]⟩
 .obtain⟨h1,h2,h3⟩:=hH _ (Eo h);have:=hi.heap.rep _ _ h1
  cases r with
  | cells ty cs=>
   obtain⟨arr,ha,hl,hc⟩:=this;refine⟨arr,ha,by rw[Tz]at hl;exact hl,λj c hj=>?_⟩;obtain⟨x,hx,h1x,hr⟩:=hc j (ren σ c) (by rw[Tw,hj];rfl);exact⟨x,hx,h1x,Ln c (Tx h3 hj) hr⟩
  | iter t pos=>exact this
  | map kk es=>exact this
  | lp l x k p=>exact⟨this.1,this.2.1,Ln p h3 this.2.2⟩
  | blk l o=>exact this
 .exact hi.heap.apart _ _ (hH _ (Eo h)).1
 .exact hinj _ (Eo h) _ (Eo h') (hi.heap.inj _ _ _ _ (hH _ (Eo h)).1 (hH _ (Eo h')).1 e)
 .obtain⟨h1,h2⟩:=he _ (Eo h);exact Ln p h2 (hi.env k _ h1)
 .exact⟨Xh _,λ_ _ _=>rfl,λ_ h=>h,λ_ h=>.inl h,λg ⟨b,r,h,e⟩=>.inr ⟨σ b,_,(hH _ (Eo h)).1,e⟩,BH.refl w,BR.refl w⟩
def BO (H:Ak) (F:List Nat) (p:PV):PV:=
 match toT H p with
 | some (x,F')=>if F'.all (F.contains ·)then .t x else p
 | none=>p
theorem T0 {L:Loc} {H:Ak} {w:World} (hok:B1 P G L H w) (F:List Nat) {p:PV} {u:Value} (h:Aq P L w p u):Aq P { L with I:=λg=>L.I g\/GQ L H F g } w (BO H F p) u:=by
 have hm:Bh L w { L with I:=λg=>L.I g\/GQ L H F g } w:=⟨λg hg=>⟨.inl hg,rfl⟩,Xh _,λ_ _=>rfl,Xh _,BH.refl w⟩
 unfold BO;split
 .rename_i x F' hx;split
  .rename_i hF;simp only[Aq];exact OP hok p hx h F (λb hb=>by simpa using Xk.1 hF b hb)
  .exact Aq.keep hm p h
 .exact Aq.keep hm p h
def E5 (H:Ak) (F:List Nat):Row->Row
 | .cells ty cs=>.cells ty (cs.map (BO H F))
 | r=>r
def Am.frz (s:Am) (F:List Nat):Am:=
 { s with env:=s.env.map (λq=>(q.1,BO s.H F q.2)),H:=(Ez s.H F).map (λq=>(q.1,E5 s.H F q.2)) }
theorem JH {α β:Type} (f:α->β):∀(l:List (Nat×α)) (k:Nat),Aj (l.map λq=>(q.1,f q.2)) k=(Aj l k).map f
 | [],k=>by simp[Aj]
 | (j,x)::l,k=>by
  simp only[Xc,Aj,JH f l k];split<;>rfl
theorem iZ (F:List Nat):Sub P G B s (s.frz F):=by
 intro L a w hi
 have hm:Bh L w { L with I:=λg=>L.I g\/GQ L s.H F g } w:=⟨λg hg=>⟨.inl hg,rfl⟩,Xh _,λ_ _=>rfl,Xh _,BH.refl w⟩
 have back:∀b r,Aj (s.frz F).H b=some r->∃r0,Aj s.H b=some r0/\b∉F/\r=E5 s.H F r0:=by
  intro b r h;simp only[Am.frz]at h;rw[JH]at h;obtain⟨r0,h0,rfl⟩:=Bf h;exact⟨r0,(DY F s.H b r0 h0).1,(DY F s.H b r0 h0).2,rfl⟩
 refine⟨{ L with I:=λg=>L.I g\/GQ L s.H F g },⟨⟨?_,λb r h=>?_,λb r h hI=>?_,λb b' r r' h h' e=>?_,λb r h=>?_,?_⟩,hi.nx,hi.base,hi.size,hi.defers,λk p h=>?_⟩,?_,λ_ _=>rfl⟩
 .rintro b (h | ⟨k,_,⟨r,hr⟩,rfl⟩)
  .exact hi.heap.lt b h
  .exact(hi.heap.rep k r hr).lt
 .obtain⟨r0,h0,_,rfl⟩:=back b r h;have:=hi.heap.rep b r0 h0
  cases r0 with
  | cells ty cs=>
   obtain⟨arr,ha,hl,hc⟩:=this;refine⟨arr,ha,by simpa using hl,λj c hj=>?_⟩;simp only[Xn]at hj;obtain⟨c0,hc0,rfl⟩:=Bf hj;obtain⟨x,hx,h1x,hr⟩:=hc j c0 hc0;exact⟨x,hx,h1x,T0 hi.heap F hr⟩
  | iter t pos=>exact this
  | map kk es=>exact this
  | lp l x k p=>exact⟨this.1,this.2.1,Aq.keep hm p this.2.2⟩
  | blk l o=>exact this
 .obtain⟨r0,h0,hF,_⟩:=back b r h;rcases hI with hI | ⟨k,hk,⟨r1,h1⟩,e⟩
  .exact hi.heap.apart b r0 h0 hI
  .exact hF ((hi.heap.inj k b r1 r0 h1 h0 e)▸hk)
 .obtain⟨r0,h0,_,_⟩:=back b r h;obtain⟨r1,h1,_,_⟩:=back b' r' h';exact hi.heap.inj b b' r0 r1 h0 h1 e
 .obtain⟨r0,h0,_,_⟩:=back b r h;exact hi.heap.nx b r0 h0
 .exact DX hi.heap hm.keeps
 .simp only[Am.frz]at h;rw[JH]at h;obtain⟨p0,h0,rfl⟩:=Bf h;exact T0 hi.heap F (hi.env k p0 h0)
 .refine⟨Xh _,λ_ _ _=>rfl,λg h=>.inl h,λg h=>?_,λg ⟨b,r,h,e⟩=>?_,BH.refl w,BR.refl w⟩
  .rcases h with h | ⟨k,_,⟨r,hr⟩,e⟩
   .exact .inl h
   .exact .inr (.inr ⟨k,r,hr,e⟩)
  .obtain⟨r0,h0,_,_⟩:=back b r h;exact .inr ⟨b,r0,h0,e⟩
inductive RV where
 | tmp (t:Nat)
 | cell (t:Nat) (agg:Bool) (n:Nat)
def GY (P:Program):ResultVar->Option RV
 | .tmp t=>some (.tmp t)
 | .cell a t=>(Ej P t).map λq=>.cell a q.1 q.2
@[simp] def EG (s:Am):List RV->Option (List PV)
 | []=>some []
 | .tmp t::r=>match Aj s.env t,EG s r with
  | some p,some ps=>some (p::ps)
  | _,_=>none
 | .cell a agg n::r=>match Aj s.env a,EG s r with
  | some (.ptr b o),some ps=>match AD agg n s.H (.ptr b o)with
   | some q=>some (q::ps)
   | none=>none
  | _,_=>none
theorem Nd:∀{rs:List ResultVar} {vs:List RV} {ps:List PV},rs.mapM (GY P)=some vs->EG s vs=some ps->Fo P s rs=some ps
 | [],vs,ps,h,hr=>by
  simp at h;subst h;simpa only[EG,Fo]using hr
 | r::rs,vs,ps,h,hr=>by
  simp only[Zj,Zk,Zl]at h
  cases h1:GY P r with
  | none=>rw[h1]at h;cases h
  | some v=>
   rw[h1]at h
   cases h2:rs.mapM (GY P)with
   | none=>rw[h2]at h;cases h
   | some vs'=>
    rw[h2]at h;simp only[Zm,Xd.injEq]at h;subst h
    cases r with
    | tmp t=>
     simp only[GY,Xd.injEq]at h1;subst h1;simp only[EG]at hr;split at hr
     .rename_i p ps' hp hps;simp only[Fo,hp,Nd h2 hps];exact hr
     .cases hr
    | cell a t=>
     simp only[GY]at h1;obtain⟨⟨agg,n⟩,hs,rfl⟩:=Bf h1;simp only[EG]at hr;split at hr
     .rename_i b o ps' hp hps;split at hr
      .rename_i q hq;simp only[Fo,hp,Nd h2 hps,SW hs,hq,Xq];exact hr
      .cases hr
     .cases hr
@[simp] def Df:List PV->PV
 | [p]=>p
 | ps=>match DW ps with
  | some ts=>.t (.tu ts)
  | none=>.tu ps
def Lr (vs:List RV) (R:T->Prop) (e:Exit) (s:Am):Prop:=
 (e = .normal\/e = .ret)/\∃ps r F,EG s vs=some ps/\toT s.H (Df ps)=some (r,F)/\R r
@[simp] def Nf:Nat->List T->List (Nat×PV)
 | _,[]=>[]
 | k,x::xs=>(k,.t x)::Nf (k+1) xs
theorem T1:∀(xs:List T) (k:Nat),Nf k xs=((xs.map PV.t).zipIdx k).map λp=>(p.2,p.1)
 | [],k=>rfl
 | x::xs,k=>by simp[Nf,T1 xs (k+1)]
@[simp] def IH (N:Nat) (args:List T):Am:={ env:=Nf 0 args,H:=[],nx:=0,n:=N }
theorem j0 {f:FuncId} {fn:Func} {c:Code} {M:AE} {vs:List RV} {args:List T} {R:T->Prop} (hf:P.funcs[f]?=some fn) (hb:fn.body=some c) (hname:(fn.name == "runtime.NumGoroutine")=false)
  (hc:comp P G N c=some M) (hrs:fn.results.toList.mapM (GY P)=some vs) (hN:args.length+(fn.ntmps-args.length)=N) (h:MC P G 0 N M (Lr vs R) (IH N args)):Bc P G f args R:=by
 refine⟨⟨fn,c,hf,hb,hname⟩,λI w us hlt hglob hargs=>calls_of_wp hf hb ?_⟩
 have hlen:us.size=args.length:=by simpa using hargs.length
 let L:Loc:=⟨I,λ_=>0,0⟩
 have hok:B1 P G L [] w:=⟨hlt,λb r h=>by simp[Aj]at h,λb r h=>by simp[Aj]at h,λb b' r r' h=>by simp[Aj]at h,λb r h=>by simp[Aj]at h,hglob⟩
 have hi:Interp P G 0 L (IH N args) { tmps:=us++Yi (fn.ntmps-us.size) undef,defers:=[] } w:=by
  refine⟨hok,rfl,Yj _,by simp[IH,hlen,hN],rfl,λk p hl=>?_⟩;simp only[IH,T1]at hl;obtain⟨_,hk⟩:=OR _ k 0 p hl;simp only[Nat.sub_zero]at hk;have hrep:=AJ.ofT (P:=P) (L:=L) hargs;obtain⟨x,hx,hr⟩:=hrep.at_ k hk
  have hx':us[k]?=some x:=by simpa using hx
  have hk':k<us.size:=(Xw.1 hx').1;rw[Xv,Yr hk',hx'];exact hr
 refine wp_mono (h c hc rfl L _ w hi) λe a' w' ⟨s1,L1,q,hi1,hx,_⟩=>?_;obtain⟨he,ps,r,F,hres,hT,hR⟩:=q
 have hrv:J7 P fn s1=some (Df ps):=by
  unfold J7;rw[Nd hrs hres];rcases ps with _ | ⟨x,_ | ⟨y,r⟩⟩<;>rfl
 obtain⟨v,hrun,hv⟩:=Sj hi1 hrv;have hrt:=OP hi1.heap (Df ps) hT hv F (λ_ h=>h)
 have nomine:∀g,¬Js L [] g:=λg ⟨b,r,h,_⟩=>by simp[Aj]at h
 have hfin:a'.defers=[]/\∃v,(results fn a'.tmps).run P w' = .ok v w' /\
   ∃v' r I',Ending.returned v = .returned v'/\R r/\AA I' w' r v'/\BR w w'/\w.heap.size<=w'.heap.size/\(∀g,g<w.heap.size->w'.heap[g]?=w.heap[g]?) /\
   (∀g,I g->I' g)/\(∀g,I' g->I g\/w.heap.size<=g)/\(∀g,I' g->g<w'.heap.size):=by
  refine⟨hi1.defers,v,hrun,v,r,_,rfl,hR,hrt,hx.outer,hx.size,λg hg=>hx.same g hg (nomine g),λg hg=>.inl (hx.more g hg),λg hg=>?_,λg hg=>?_⟩
  .rcases hg with hg | ⟨b,_,⟨r0,h0⟩,e0⟩
   .rcases hx.new g hg with h | h | h
    .exact .inl h
    .exact .inr h
    .exact absurd h (nomine g)
   .rcases hx.mine g ⟨b,r0,h0,e0⟩with h | h
    .exact .inr h
    .exact absurd h (nomine g)
  .rcases hg with hg | ⟨b,_,⟨r0,h0⟩,rfl⟩
   .exact hi1.heap.lt g hg
   .exact(hi1.heap.rep b r0 h0).lt
 rcases he with rfl | rfl
 .exact hfin
 .exact hfin
def II (P:Program) (G:AM) (B:Nat) (vs:List RV) (R:PV->Ak->Nat->Prop) (e:Exit) (s:Am):Prop:=
 (e = .normal\/e = .ret)/\∃s2 ps,Sub P G B s s2/\EG s2 vs=some ps/\R (Df ps) s2.H s2.nx
@[simp] def IJ:Nat->List PV->List (Nat×PV)
 | _,[]=>[]
 | k,x::xs=>(k,x)::IJ (k+1) xs
theorem T2:∀(xs:List PV) (k:Nat),IJ k xs=(xs.zipIdx k).map λp=>(p.2,p.1)
 | [],k=>rfl
 | x::xs,k=>by simp[IJ,T2 xs (k+1)]
theorem j5 {f:FuncId} {fn:Func} {c:Code} {M:AE} {vs:List RV} {ps:List PV} {H H':Ak} {nx nx':Nat} {r:PV} (hf:P.funcs[f]?=some fn) (hb:fn.body=some c) (hname:(fn.name == "runtime.NumGoroutine")=false)
  (hc:comp P G N c=some M) (hrs:fn.results.toList.mapM (GY P)=some vs) (hN:ps.length+(fn.ntmps-ps.length)=N)
  (h:MC P G nx N M (II P G nx vs λr0 H0 nx0=>r0=r/\H0=H'/\nx0=nx') ⟨IJ 0 ps,H,nx,N⟩):B3 P G f ps H nx r H' nx':=by
 refine⟨⟨fn,c,hf,hb,hname⟩,λL w us hok hnx hargs=>calls_of_wp hf hb ?_⟩
 have hlen:us.size=ps.length:=by simpa using hargs.length
 have hi:Interp P G nx L ⟨IJ 0 ps,H,nx,N⟩ { tmps:=us++Yi (fn.ntmps-us.size) undef,defers:=[] } w:=by
  refine⟨hok,hnx,by rw[hnx];exact Xh _,by simp[hlen,hN],rfl,λk p hl=>?_⟩;simp only[T2]at hl;obtain⟨_,hk⟩:=OR _ k 0 p hl;simp only[Nat.sub_zero]at hk;obtain⟨x,hx,hr⟩:=hargs.at_ k hk
  have hx':us[k]?=some x:=by simpa using hx
  have hk':k<us.size:=(Xw.1 hx').1;rw[Xv,Yr hk',hx'];exact hr
 refine wp_mono (h c hc rfl L _ w hi) λe a' w' ⟨s1,L1,q,hi1,hx,hμ⟩=>?_;obtain⟨he,s2,rs,hsub,hres,hr,hH,hnx2⟩:=q;obtain⟨L2,hi2,hx2,hμ2⟩:=hsub L1 a' w' hi1
 have hrv:J7 P fn s2=some (Df rs):=by
  unfold J7;rw[Nd hrs hres];rcases rs with _ | ⟨x,_ | ⟨y,r⟩⟩<;>rfl
 obtain⟨v,hrun,hv⟩:=Sj hi2 hrv;have hxx:=hx.trans hx2
 have hm:Bh L w L2 w':=⟨hxx.keeps hok,by rw[hnx];exact hi2.base,λb hb=>(hμ2 b (by omega)).trans (hμ b (by omega)),hxx.size,hxx.shape⟩
 have hfin:a'.defers=[]/\∃v,(results fn a'.tmps).run P w' = .ok v w' /\
   ∃v' L',Ending.returned v = .returned v'/\Aq P L' w' r v'/\B1 P G L' H' w'/\L'.nx=nx'/\Bh L w L' w'/\Ext L H w L' H' w':=
  ⟨hi2.defers,v,hrun,v,L2,rfl,hr▸hv,hH▸hi2.heap,hi2.nx.trans hnx2,hm,hH▸hxx⟩
 rcases he with rfl | rfl
 .exact hfin
 .exact hfin
end
end Go.Abs
