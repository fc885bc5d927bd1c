/- Auxiliary facts. -/
import Derived.Test.YtmgjopafgboljaaGreatDoorVEQ06
import Derived.Laws.StructEq
import Derived.Laws.BytesString
import Derived.Laws.RangeString
import Derived.Laws.IdiomStrings
import Derived.Maps.RangeRun
import Derived.MapKept
import Derived.WideKeyRuns
set_option linter.unusedSimpArgs false
set_option linter.unusedVariables false
namespace Go.Abs
open Go
def A1t:List CK->List T->List T->Option Bool
 | [],[],[]=>some true
 | .i::ks,.v (.int k a)::xs,.v (.int k' b)::ys=>if k=k' then(A1t ks xs ys).map fun r=>(a==b)&&r else none
 | .s::ks,.v (.string a)::xs,.v (.string b)::ys=>(A1t ks xs ys).map fun r=>(a.toList==b.toList)&&r
 | .b::ks,.v (.bool a)::xs,.v (.bool b)::ys=>(A1t ks xs ys).map fun r=>(a==b)&&r
 | _,_,_=>none
def mkFn (f:Fn) (first cap:List PV):PV:=
 match first,cap with
 | [],[]=>.t (.v (.func f #[] #[]))
 | first,cap=>.fn f first cap
def exM:EK->List PV->Option PV
 | .eqs neg ks,[.t (.ag xs),.t (.ag ys)]=>(A1t ks xs ys).map fun r=>.t (.v (.bool (if neg then !r else r)))
 | .mki t,[.t x]=>some (.t (.ic t x))
 | .mki t,[x]=>some (.ic t x)
 | .mkf f n,ps=>some (mkFn f (ps.take n) (ps.drop n))
 | .aix len n agg,[.t (.ag cs),.t (.v (.int _ i))]=>if 0<=i/\i<(len:Int)/\i.toNat*n+n<=cs.length then
   (if agg then some (.t (.ag ((cs.drop (i.toNat*n)).take n)))else(cs[i.toNat*n]?).map .t)
  else none
 | _,_=>none
def A7n:List T->Option (List UInt8)
 | []=>some []
 | .v (.int .u8 n)::r=>(A7n r).map fun l=>UInt8.ofNat n.toNat::l
 | _=>none
def E5n:List T->Option (List Int)
 | []=>some []
 | .v (.int .i64 n)::r=>(E5n r).map (n::·)
 | _=>none
def keyT:KK->PV->Option Key
 | .int k,.t (.v (.int k' n))=>if k'=k then some (.n [n])else none
 | .str,.t (.v (.string b))=>some (.s b)
 | .ints m,.t (.ag cs)=>(E5n cs).bind fun ns=>if ns.length=m then some (.n ns)else none
 | _,_=>none
def getK:List (Key×Value)->Key->Option Value
 | [],_=>none
 | (y,v)::r,x=>if y=x then some v else getK r x
def setK:List (Key×Value)->Key->Value->List (Key×Value)
 | [],x,v=>[(x,v)]
 | (y,u)::r,x,v=>if y=x then(y,v)::r else(y,u)::setK r x v
def C9u (ok:Bool) (z:Value) (q:Option Value):T:=
 if ok then .tu [.v (q.getD z),.v (.bool q.isSome)]else .v (q.getD z)
def B4u (zc:List Value) (k:Nat):List Value:=(Builtin.zeroCells zc.toArray k).toList
def B7z (s:ByteArray):List T:=s.data.toList.map fun b=>.v (.int .u8 (b.toNat:Int))
def hxM (k:HK) (H:Heap) (nx:Nat) (ps:List PV):Option (PV×Heap×Nat):=
 match k,ps with
 | .range,[.t (.v (.string s))]=>some (.ptr nx 0,(nx,.iter s 0)::H,nx+1)
 | .next,[.ptr b 0]=>match look H b with
  | some (.iter s pos)=>if pos<s.size then
    some (.t (.tu [.v (.bool true),.v (.int .i64 pos),.v (.int .i32 (Utf8.decode s pos).1)]),upd H b (.iter s (pos+(Utf8.decode s pos).2)),nx)
   else some (.t (.tu [.v (.bool false)]),H,nx)
  | _=>none
 | .b2s,[p]=>match toTS H p with
  | some cs=>(A7n cs).map fun l=>(.t (.v (.string ⟨l.toArray⟩)),H,nx)
  | none=>none
 | .mnew kk,[]=>some (.mp nx,(nx,.map kk [])::H,nx+1)
 | .mget kk z ok,[.mp b,p]=>match look H b,keyT kk p with
  | some (.map kk' es),some x=>if kk'=kk then some (.t (C9u ok z (getK es x)),H,nx)else none
  | _,_=>none
 | .mset kk,[.mp b,p,.t (.v v)]=>match look H b,keyT kk p with
  | some (.map kk' es),some x=>if kk'=kk then some (.t (.v undef),upd H b (.map kk (setK es x v)),nx)else none
  | _,_=>none
 | .clr n zc,[.row b o k z]=>match look H b with
  | some (.cells ty cs)=>if z=n/\0<k/\o+(B4u zc k).length<=cs.length then some (.t (.tu []),upd H b (.cells ty (A2m cs o ((B4u zc k).map fun x=>.t (.v x)))),nx)else none
  | _=>none
 | .mlen,[.mp b]=>match look H b with
  | some (.map _ es)=>some (.t (.v (.int .i64 (es.length:Int))),H,nx)
  | _=>none
 | .s2b,[.t (.v (.string s))]=>some (.t (.sl s.size (B7z s)),H,nx)
 | .cpy n,[.row b o k z,p]=>match look H b,srcP H n p with
  | some (.cells ty cs),some (m,ps)=>if z=n/\0<Nat.min m k/\o+k*n<=cs.length/\ps.length=m*n then
    some (.t (.v (.int .i64 (Nat.min m k:Nat))),upd H b (.cells ty (A2m cs o (ps.take (Nat.min m k*n)))),nx)else none
  | _,_=>none
 | .slarr len z,[.ptr b 0,.t (.v (.int _ i))]=>match look H b with
  | some (.cells _ cs)=>if cs.length=len*z/\0<=i/\i<(len:Int)then some (.row b (i.toNat*z) (len-i.toNat) z,H,nx)else none
  | _=>none
 | .mrange,[.mp b]=>match look H b with
  | some (.blk (some l) (.map _ c))=>some (.ptr nx 0,(nx,.blk none (.mapIter (some l) c #[] c))::H,nx+1)
  | _=>none
 | _,_=>none
 where
 toTS (H:Heap):PV->Option (List T)
  | .t (.v (.slice none _ _))=>some []
  | .t (.sl n cs)=>if cs.length=n then some cs else none
  | .row b o n z=>match look H b with
   | some (.cells _ cs)=>if z=1/\o+n<=cs.length then allT ((cs.drop o).take n)else none
   | _=>none
  | _=>none
def A2o (P:Program):Nat->List Field->Option (List CK)
 | _,[]=>some []
 | o,f::fs=>if f.name ≠ "_" /\ f.offset=o/\(P.info? f.type).map (·.size)=some 1 then
   (match P.underlying f.type with
   | some (.int _)=>(A2o P (o+1) fs).map (.i::·)
   | some .string=>(A2o P (o+1) fs).map (.s::·)
   | some .bool=>(A2o P (o+1) fs).map (.b::·)
   | _=>none)
  else none
def C0i (P:Program) (t:TypeId):Option (List CK):=
 match P.underlying t with
 | some (.struct fs)=>if P.stoodInHeld t=false/\P.eqGuardType P.depth t=false then A2o P 0 fs.toList else none
 | _=>none
def A3x (P:Program):Nat->List Field->Option (List CK)
 | _,[]=>some []
 | o,f::fs=>if f.name ≠ "_" /\ f.offset=o then
   (match P.underlying f.type with
   | some (.int _)=>(A3x P (o+1) fs).map (.i::·)
   | some .string=>(A3x P (o+1) fs).map (.s::·)
   | some .bool=>(A3x P (o+1) fs).map (.b::·)
   | some (.struct g)=>(A2o P 0 g.toList).bind fun k0=>
    if P.stoodInHeld f.type=false/\A4g P f.type=some (true,k0.length)then(A3x P (o+k0.length) fs).map (k0++·)else none
   | _=>none)
  else none
def B9i (P:Program) (t:TypeId):Option (List CK):=
 match P.underlying t with
 | some (.struct fs)=>if P.stoodInHeld t=false/\P.eqGuardType P.depth t=false then A3x P 0 fs.toList else none
 | _=>none
def CK.isI:CK->Bool
 | .i=>true
 | _=>false
def kkOf (P:Program) (kt:TypeId):Option KK:=
 match P.underlying kt with
 | some (.int k)=>some (.int k)
 | some .string=>some .str
 | some (.struct _)=>match C0i P kt with
  | some ks=>if ks.all CK.isI then some (.ints ks.length)else none
  | none=>none
 | _=>none
def E5o (P:Program) (t:TypeId):Option KK:=
 match P.underlying t with
 | some (.map kt _)=>kkOf P kt
 | _=>none
def D7m (P:Program) (t:TypeId):Option (KK×Value):=
 match P.underlying t with
 | some (.map kt et)=>match kkOf P kt,(P.info? et).bind (·.zero)with
  | some kk,some z=>some (kk,z)
  | _,_=>none
 | _=>none
def extK (P:Program) (G:A1c) (o:Op):Option (MK×List Opd):=
 match o with
 | .binOp .eql t x y _=>(B9i P t).map fun ks=>(.ex (.eqs false ks),[A0m G x,A0m G y])
 | .binOp .neq t x y _=>(B9i P t).map fun ks=>(.ex (.eqs true ks),[A0m G x,A0m G y])
 | .range t x=>match P.underlying t with
  | some .string=>some (.hx .range,[A0m G x])
  | some (.map _ _)=>some (.hx .mrange,[A0m G x])
  | _=>none
 | .next x true=>some (.hx .next,[A0m G x])
 | .next x false=>some (.hx .mnext,[A0m G x])
 | .entry x=>some (.hx .ment,[A0m G x])
 | .convert src dst x=>match P.underlying src,P.underlying dst with
  | some (.slice e),some .string=>match P.underlying e with
   | some (.int .u8)=>some (.hx .b2s,[A0m G x])
   | _=>none
  | some .string,some (.slice e)=>match P.underlying e with
   | some (.int .u8)=>some (.hx .s2b,[A0m G x])
   | _=>none
  | _,_=>none
 | .makeInterface t x=>match P.underlying t with
  | some (.interface _)=>none
  | some _=>some (.ex (.mki t),[A0m G x])
  | none=>none
 | .makeFunc f first cap=>some (.ex (.mkf f first.size),first.toList.map (A0m G)++cap.toList.map (A0m G))
 | .panic x=>some (.hx .pan,[A0m G x])
 | .call ⟨.builtin .clear,⟨[x]⟩,⟨[t]⟩⟩=>(A3e P t).map fun q=>(.hx (.clr q.2.1 q.2.2.2),[A0m G x])
 | .call ⟨.builtin .len,⟨[x]⟩,⟨[t]⟩⟩=>match P.underlying t with
  | some (.map _ _)=>some (.hx .mlen,[A0m G x])
  | _=>none
 | .call ⟨.builtin .copy,⟨[x,y]⟩,⟨[t,_]⟩⟩=>(A3e P t).map fun q=>(.hx (.cpy q.2.1),[A0m G x,A0m G y])
 | .slice t x (some i) none none=>match P.underlying t with
  | some (.array len e)=>(A4g P e).map fun q=>(.hx (.slarr len q.2),[A0m G x,A0m G i])
  | _=>none
 | .makeMap t none=>(E5o P t).map fun kk=>(.hx (.mnew kk),[])
 | .lookup t x y ok=>(D7m P t).map fun q=>(.hx (.mget q.1 q.2 ok),[A0m G x,A0m G y])
 | .mapUpdate t x y z=>(E5o P t).map fun kk=>(.hx (.mset kk),[A0m G x,A0m G y,A0m G z])
 | .index t x i=>match P.underlying t with
  | some (.array len e)=>(A4g P e).map fun q=>(.ex (.aix len q.2 q.1),[A0m G x,A0m G i])
  | _=>none
 | _=>none
theorem C9v {P:Program} {G:A1c} {o:Op} {k:MK} {xs:List Opd} (hk:match k with | .ex _ | .hx _=>False | _=>True):¬extK P G o=some (k,xs):=by
 intro h;unfold extK at h;split at h
 all_goals first
  | (cases h;done)
  | (obtain⟨ks,_,e⟩:=Option.map_eq_some_iff.1 h;injection e with e1 e2;subst e1;exact hk)
  | (injection h with h;injection h with e1 e2;subst e1;exact hk)
  | skip
 all_goals split at h
 all_goals first
  | (cases h;done)
  | (obtain⟨ks,_,e⟩:=Option.map_eq_some_iff.1 h;injection e with e1 e2;subst e1;exact hk)
  | (injection h with h;injection h with e1 e2;subst e1;exact hk)
  | skip
 all_goals split at h
 all_goals first
  | (cases h;done)
  | (injection h with h;injection h with e1 e2;subst e1;exact hk)
  | (obtain⟨ks,_,e⟩:=Option.map_eq_some_iff.1 h;injection e with e1 e2;subst e1;exact hk)
section
variable {P : Program} {G : A1c} {B : Nat} {s : A0c} {o : Oper}
theorem B4v {w:World} {t:TypeId} {xs:Array Value} {off:Nat} {x:Value} (hu:P.underlying t=some .string\/P.underlying t=some .bool\/∃k,P.underlying t=some (.int k)) (hx:xs[off]?=some x):(part t xs off).run P w = .ok x w:=by
 have ha:(isAgg t).run P w = .ok false w:=by
  rcases hu with h | h | ⟨k,h⟩<;>simp[isAgg,run_underlying h]
 simp[part,ha,hx]
theorem C0j {ks:List CK} {cx cy:List T} {r:Bool} (h:A1t (.i::ks) cx cy=some r):∃k a xs b ys r1,cx = .v (.int k a)::xs/\cy = .v (.int k b)::ys/\A1t ks xs ys=some r1/\r=((a==b)&&r1):=by
 unfold A1t at h;split at h
 all_goals (first | (rename_i hh;cases hh;done) | (cases h;done) | skip)
 rename_i ks' k a xs k' b ys hk;cases hk;split at h
 ·rename_i e;subst e;obtain⟨r1,h1,h2⟩:=Option.map_eq_some_iff.1 h;exact⟨k,a,xs,b,ys,r1,rfl,rfl,h1,h2.symm⟩
 ·cases h
theorem C0k {ks:List CK} {cx cy:List T} {r:Bool} (h:A1t (.s::ks) cx cy=some r):∃a xs b ys r1,cx = .v (.string a)::xs/\cy = .v (.string b)::ys/\A1t ks xs ys=some r1/\r=((a.toList==b.toList)&&r1):=by
 unfold A1t at h;split at h
 all_goals (first | (rename_i hh;cases hh;done) | (cases h;done) | skip)
 rename_i ks' a xs b ys hk;cases hk;obtain⟨r1,h1,h2⟩:=Option.map_eq_some_iff.1 h;exact⟨a,xs,b,ys,r1,rfl,rfl,h1,h2.symm⟩
theorem C0l {ks:List CK} {cx cy:List T} {r:Bool} (h:A1t (.b::ks) cx cy=some r):∃a xs b ys r1,cx = .v (.bool a)::xs/\cy = .v (.bool b)::ys/\A1t ks xs ys=some r1/\r=((a==b)&&r1):=by
 unfold A1t at h;split at h
 all_goals (first | (rename_i hh;cases hh;done) | (cases h;done) | skip)
 rename_i ks' a xs b ys hk;cases hk;obtain⟨r1,h1,h2⟩:=Option.map_eq_some_iff.1 h;exact⟨a,xs,b,ys,r1,rfl,rfl,h1,h2.symm⟩
theorem B0y {w:World} (I:Nat->Prop) (d:Nat) (xs ys:Array Value):∀(fs:List Field) (off:Nat) (ks:List CK) (cx cy:List T) (r:Bool),A2o P off fs=some ks->A1t ks cx cy=some r ->
  RepL I w cx (xs.toList.drop off)->RepL I w cy (ys.toList.drop off)->(Op.eqFields (d+1) xs ys fs).run P w = .ok r w
 | [],off,ks,cx,cy,r,hk,he,_,_=>by
  simp only[A2o,Option.some.injEq]at hk;subst hk;cases cx<;>cases cy<;>simp[A1t]at he;subst he;simp[Op.eqFields]
 | f::fs,off,ks,cx,cy,r,hk,he,hx,hy=>by
  simp only[A2o]at hk;split at hk
  ·rename_i hf;obtain⟨hn,ho,h1⟩:=hf
   have key:∀(a b:T) (cx' cy':List T) (r0 r1:Bool) (ks':List CK),cx=a::cx'->cy=b::cy'->A2o P (off+1) fs=some ks'->A1t ks' cx' cy'=some r1->r=(r0&&r1) ->
     (P.underlying f.type=some .string\/P.underlying f.type=some .bool\/∃k,P.underlying f.type=some (.int k)) ->
     (∀u v,RepT I w a u->RepT I w b v->(Op.equalIn (d+1) f.type u v).run P w = .ok r0 w)->(Op.eqFields (d+1) xs ys (f::fs)).run P w = .ok r w:=by
    intro a b cx' cy' r0 r1 ks' ex ey hks hr1 hr hu heq;subst ex;subst ey;simp only[RepL]at hx hy;obtain⟨u,us,e1,hu1,hus⟩:=hx;obtain⟨v,vs,e2,hv1,hvs⟩:=hy
    have g1:xs[off]?=some u:=by
     have:(xs.toList.drop off)[0]?=some u:=by rw[e1];rfl
     simpa using this
    have g2:ys[off]?=some v:=by
     have:(ys.toList.drop off)[0]?=some v:=by rw[e2];rfl
     simpa using this
    have d1:xs.toList.drop (off+1)=us:=by
     have:=congrArg (List.drop 1) e1;simpa using this
    have d2:ys.toList.drop (off+1)=vs:=by
     have:=congrArg (List.drop 1) e2;simpa using this
    have ih:=B0y I d xs ys fs (off+1) ks' cx' cy' r1 hks hr1 (by rw[d1];exact hus) (by rw[d2];exact hvs);simp only[Op.eqFields,hn,ne_eq,not_false_eq_true,if_true,ho,Sem.run_bind,B4v hu g1,B4v hu g2,Result.andThen_ok,heq u v hu1 hv1]
    cases r0 with
    | true=>simp[hr,ih]
    | false=>simp[hr]
   split at hk
   ·rename_i k hu;obtain⟨ks',hks,rfl⟩:=Option.map_eq_some_iff.1 hk;obtain⟨k1,a,xs',b,ys',r1,e1,e2,h1,h2⟩:=C0j he;refine key _ _ _ _ (a==b) r1 ks' e1 e2 hks h1 h2 (.inr (.inr ⟨k,hu⟩)) fun u v hu' hv'=>?_;simp only[RepT]at hu' hv';subst hu';subst hv';exact run_equalIn_int w d f.type k1 k a b hu
   ·rename_i hu;obtain⟨ks',hks,rfl⟩:=Option.map_eq_some_iff.1 hk;obtain⟨a,xs',b,ys',r1,e1,e2,h1,h2⟩:=C0k he;refine key _ _ _ _ (a.toList==b.toList) r1 ks' e1 e2 hks h1 h2 (.inl hu) fun u v hu' hv'=>?_;simp only[RepT]at hu' hv';subst hu';subst hv';exact run_equalIn_string w d f.type a b hu
   ·rename_i hu;obtain⟨ks',hks,rfl⟩:=Option.map_eq_some_iff.1 hk;obtain⟨a,xs',b,ys',r1,e1,e2,h1,h2⟩:=C0l he;refine key _ _ _ _ (a==b) r1 ks' e1 e2 hks h1 h2 (.inr (.inl hu)) fun u v hu' hv'=>?_;simp only[RepT]at hu' hv';subst hu';subst hv';exact run_equalIn_bool' w d f.type a b hu
   ·cases hk
  ·cases hk
theorem A9t:∀{k0 ks:List CK} {cx cy:List T} {r:Bool},A1t (k0++ks) cx cy=some r->∃x0 x1 y0 y1 r0 r1,cx=x0++x1/\cy=y0++y1/\x0.length=k0.length/\y0.length=k0.length/\A1t k0 x0 y0=some r0/\A1t ks x1 y1=some r1/\r=(r0&&r1)
 | [],ks,cx,cy,r,h=>⟨[],cx,[],cy,true,r,rfl,rfl,rfl,rfl,rfl,h,rfl⟩
 | k::k0,ks,cx,cy,r,h=>by
  cases k with
  | i=>
   obtain⟨k,a,xs,b,ys,r1,rfl,rfl,h1,rfl⟩:=C0j h;obtain⟨x0,x1,y0,y1,r0,r2,rfl,rfl,l1,l2,g1,g2,rfl⟩:=A9t h1;exact⟨_::x0,x1,_::y0,y1,(a==b)&&r0,r2,rfl,rfl,by simp[l1],by simp[l2],by simp[A1t,g1],g2,by rw[Bool.and_assoc]⟩
  | s=>
   obtain⟨a,xs,b,ys,r1,rfl,rfl,h1,rfl⟩:=C0k h;obtain⟨x0,x1,y0,y1,r0,r2,rfl,rfl,l1,l2,g1,g2,rfl⟩:=A9t h1;exact⟨_::x0,x1,_::y0,y1,(a.toList==b.toList)&&r0,r2,rfl,rfl,by simp[l1],by simp[l2],by simp[A1t,g1],g2,by rw[Bool.and_assoc]⟩
  | b=>
   obtain⟨a,xs,b,ys,r1,rfl,rfl,h1,rfl⟩:=C0l h;obtain⟨x0,x1,y0,y1,r0,r2,rfl,rfl,l1,l2,g1,g2,rfl⟩:=A9t h1;exact⟨_::x0,x1,_::y0,y1,(a==b)&&r0,r2,rfl,rfl,by simp[l1],by simp[l2],by simp[A1t,g1],g2,by rw[Bool.and_assoc]⟩
theorem C6n {I:Nat->Prop} {w:World}:∀{a b:List T} {us:List Value},RepL I w (a++b) us->RepL I w a (us.take a.length)/\RepL I w b (us.drop a.length)
 | [],b,us,h=>⟨by simp[RepL],by simpa using h⟩
 | x::a,b,us,h=>by
  simp only[List.cons_append,RepL]at h;obtain⟨u,us,rfl,hu,h⟩:=h;obtain⟨h1,h2⟩:=C6n h;exact⟨by simp only[List.length_cons,List.take_succ_cons,RepL];exact⟨u,_,rfl,hu,h1⟩,by simpa using h2⟩
theorem A9u {w:World} (I:Nat->Prop) (d:Nat) (xs ys:Array Value):∀(fs:List Field) (off:Nat) (ks:List CK) (cx cy:List T) (r:Bool),A3x P off fs=some ks->A1t ks cx cy=some r ->
  RepL I w cx (xs.toList.drop off)->RepL I w cy (ys.toList.drop off)->(Op.eqFields (d+2) xs ys fs).run P w = .ok r w
 | [],off,ks,cx,cy,r,hk,he,_,_=>by
  simp only[A3x,Option.some.injEq]at hk;subst hk;cases cx<;>cases cy<;>simp[A1t]at he;subst he;simp[Op.eqFields]
 | f::fs,off,ks,cx,cy,r,hk,he,hx,hy=>by
  simp only[A3x]at hk;split at hk
  ·rename_i hf;obtain⟨hn,ho⟩:=hf
   have key:∀(a b:T) (cx' cy':List T) (r0 r1:Bool) (ks':List CK),cx=a::cx'->cy=b::cy'->A3x P (off+1) fs=some ks'->A1t ks' cx' cy'=some r1->r=(r0&&r1) ->
     (P.underlying f.type=some .string\/P.underlying f.type=some .bool\/∃k,P.underlying f.type=some (.int k)) ->
     (∀u v,RepT I w a u->RepT I w b v->(Op.equalIn (d+2) f.type u v).run P w = .ok r0 w)->(Op.eqFields (d+2) xs ys (f::fs)).run P w = .ok r w:=by
    intro a b cx' cy' r0 r1 ks' ex ey hks hr1 hr hu heq;subst ex;subst ey;simp only[RepL]at hx hy;obtain⟨u,us,e1,hu1,hus⟩:=hx;obtain⟨v,vs,e2,hv1,hvs⟩:=hy
    have g1:xs[off]?=some u:=by
     have:(xs.toList.drop off)[0]?=some u:=by rw[e1];rfl
     simpa using this
    have g2:ys[off]?=some v:=by
     have:(ys.toList.drop off)[0]?=some v:=by rw[e2];rfl
     simpa using this
    have d1:xs.toList.drop (off+1)=us:=by
     have:=congrArg (List.drop 1) e1;simpa using this
    have d2:ys.toList.drop (off+1)=vs:=by
     have:=congrArg (List.drop 1) e2;simpa using this
    have ih:=A9u I d xs ys fs (off+1) ks' cx' cy' r1 hks hr1 (by rw[d1];exact hus) (by rw[d2];exact hvs);simp only[Op.eqFields,hn,ne_eq,not_false_eq_true,if_true,ho,Sem.run_bind,B4v hu g1,B4v hu g2,Result.andThen_ok,heq u v hu1 hv1]
    cases r0 with
    | true=>simp[hr,ih]
    | false=>simp[hr]
   split at hk
   ·rename_i k hu;obtain⟨ks',hks,rfl⟩:=Option.map_eq_some_iff.1 hk;obtain⟨k1,a,xs',b,ys',r1,e1,e2,h1,h2⟩:=C0j he;refine key _ _ _ _ (a==b) r1 ks' e1 e2 hks h1 h2 (.inr (.inr ⟨k,hu⟩)) fun u v hu' hv'=>?_;simp only[RepT]at hu' hv';subst hu';subst hv';exact run_equalIn_int w (d+1) f.type k1 k a b hu
   ·rename_i hu;obtain⟨ks',hks,rfl⟩:=Option.map_eq_some_iff.1 hk;obtain⟨a,xs',b,ys',r1,e1,e2,h1,h2⟩:=C0k he;refine key _ _ _ _ (a.toList==b.toList) r1 ks' e1 e2 hks h1 h2 (.inl hu) fun u v hu' hv'=>?_;simp only[RepT]at hu' hv';subst hu';subst hv';exact run_equalIn_string w (d+1) f.type a b hu
   ·rename_i hu;obtain⟨ks',hks,rfl⟩:=Option.map_eq_some_iff.1 hk;obtain⟨a,xs',b,ys',r1,e1,e2,h1,h2⟩:=C0l he;refine key _ _ _ _ (a==b) r1 ks' e1 e2 hks h1 h2 (.inr (.inl hu)) fun u v hu' hv'=>?_;simp only[RepT]at hu' hv';subst hu';subst hv';exact run_equalIn_bool' w (d+1) f.type a b hu
   ·rename_i g hu;obtain⟨k0,hk0,hk⟩:=Option.bind_eq_some_iff.1 hk;split at hk
    ·rename_i hc;obtain⟨hst,hsh⟩:=hc;obtain⟨ks',hks,rfl⟩:=Option.map_eq_some_iff.1 hk;obtain⟨x0,x1,y0,y1,r0,r1,rfl,rfl,l1,l2,h0,h1,hr⟩:=A9t he;obtain⟨hx0,hx1⟩:=C6n hx;obtain⟨hy0,hy1⟩:=C6n hy;rw[l1]at hx0 hx1;rw[l2]at hy0 hy1;rw[List.drop_drop]at hx1 hy1;have ih:=A9u I d xs ys fs (off+k0.length) ks' x1 y1 r1 hks h1 hx1 hy1;have hsg:=A2l hsh w
     have hfo:P.fieldsOf f.type=g:=by simp[Program.fieldsOf,hu]
     have pt:∀zs:Array Value,(part f.type zs off).run P w = .ok (.agg (zs.extract off (off+k0.length))) w:=fun zs=>by
      simp[part,hsg.1,hsg.2]
     have hin:(Op.equalIn (d+2) f.type (.agg (xs.extract off (off+k0.length))) (.agg (ys.extract off (off+k0.length)))).run P w = .ok r0 w:=by
      rw[run_equalIn_struct w (d+1) f.type _ _ (by rw[hfo];exact hu) hst,hfo];exact B0y I d _ _ g.toList 0 k0 x0 y0 r0 hk0 h0 (by simpa[Array.toList_extract,List.extract_eq_take_drop]using hx0) (by simpa[Array.toList_extract,List.extract_eq_take_drop]using hy0)
     simp only[Op.eqFields,hn,ne_eq,not_false_eq_true,if_true,ho,Sem.run_bind,pt,Result.andThen_ok,hin]
     cases r0 with
     | true=>simp[hr,ih]
     | false=>simp[hr]
    ·cases hk
   ·cases hk
  ·cases hk
theorem E5p {neg:Bool} {t:TypeId} {x y:Operand} {yt:TypeId} {ks:List CK} {r:PV} (ho:o.op = .binOp (if neg then .neq else .eql) t x y yt) (hk:B9i P t=some ks)
  (h:exM (.eqs neg ks) [s.ev G x,s.ev G y]=some r):AOp P G B o s r s.H s.nx:=by
 refine A3j fun L a w hi=>?_;have hx:=hi.ev x;have hy:=hi.ev y;unfold exM at h;split at h
 ·rename_i n' ks' xs ys e1 e2;injection e1 with e1 e1';subst e1;subst e1';injection e2 with e2 e3;injection e3 with e3 e4;rw[e2]at hx;rw[e3]at hy;simp only[RepV,RepT]at hx hy;obtain⟨us,ex,_,hxs⟩:=hx;obtain⟨vs,ey,_,hys⟩:=hy;obtain⟨b,hb,rfl⟩:=Option.map_eq_some_iff.1 h;unfold B9i at hk;split at hk
  ·rename_i fs hu;split at hk
   ·rename_i hc
    have hf:P.fieldsOf t=fs:=by simp[Program.fieldsOf,hu]
    have hrun:(Op.equalIn 10000 t (.agg us) (.agg vs)).run P w = .ok b w:=by
     rw[show(10000:Nat)=9997+2+1 from rfl,run_equalIn_struct w (9997+2) t us vs (by rw[hf];exact hu) hc.1,hf];exact A9u L.I 9997 us vs fs.toList 0 ks xs ys b hk hb (by simpa using hxs) (by simpa using hys)
    refine⟨.bool (if neg then !b else b),?_,by simp only[RepV,RepT]⟩
    cases neg with
    | true=>
     simp only[if_true]at ho;simp only[execOp,ho,ex,ey,Sem.run_bind,run_eqGuard_agg w .neq t x y us vs hc.2,run_neq_struct w t us vs,hrun,Result.andThen_ok,if_true];rfl
    | false=>
     simp only[Bool.false_eq_true,if_false]at ho;simp only[execOp,ho,ex,ey,Sem.run_bind,run_eqGuard_agg w .eql t x y us vs hc.2,run_eql_struct w t us vs,hrun,Result.andThen_ok,Bool.false_eq_true,if_false];rfl
   ·cases hk
  ·cases hk
 all_goals (first | (rename_i e _;cases e;done) | (rename_i e;cases e;done) | (cases h;done))
theorem F6d {t e:TypeId} {x i:Operand} {len n:Nat} {agg:Bool} {r:PV} (ho:o.op = .index t x i) (hu:P.underlying t=some (.array len e)) (hs:A4g P e=some (agg,n))
  (h:exM (.aix len n agg) [s.ev G x,s.ev G i]=some r):AOp P G B o s r s.H s.nx:=by
 refine A3j fun L a w hi=>?_;have hx:=hi.ev x;have hj:=hi.ev i;have h1:=A2l hs w;unfold exM at h;split at h
 all_goals (first | (rename_i e _;cases e;done) | (rename_i e;cases e;done) | (cases h;done) | skip)
 rename_i len' n' agg' cs k j e1 e2;injection e1 with e1 e3 e4;subst e1;subst e3;subst e4;injection e2 with e2 e3;injection e3 with e3 _;rw[e2]at hx;rw[e3]at hj;simp only[RepV,RepT]at hx hj;obtain⟨us,ex,h1s,hl⟩:=hx;split at h
 ·rename_i hj3
  cases agg with
  | true=>
   simp only[if_true,Option.some.injEq]at h;subst h;refine⟨.agg (us.extract (j.toNat*n) (j.toNat*n+n)),?_,?_⟩
   ·simp[execOp,ho,ex,hj,Instr.index,asIntOf,run_underlying hu,part,h1.1,h1.2,hj3.1,hj3.2.1]
   ·simp only[RepV,RepT];refine⟨_,rfl,fun y hy=>h1s y ?_,?_⟩
    ·simp only[Array.toList_extract,List.extract_eq_take_drop]at hy;exact List.mem_of_mem_drop (List.mem_of_mem_take hy)
    ·have h2:=(A0y.ofT (P:=P) (L:=L) hl).drop_take (j.toNat*n) n;rw[<-List.map_drop,<-List.map_take]at h2;simpa[List.extract_eq_take_drop]using h2.toT
  | false=>
   simp only[Bool.false_eq_true,if_false]at h
   cases hc:cs[j.toNat*n]? with
   | none=>rw[hc]at h;cases h
   | some c=>
    rw[hc]at h;injection h with h;subst h;obtain⟨v,hv,hr⟩:=hl.at_ _ hc
    have hv':us[j.toNat*n]?=some v:=by simpa using hv
    refine⟨v,?_,by simp only[RepV];exact hr⟩;simp[execOp,ho,ex,hj,Instr.index,asIntOf,run_underlying hu,part,h1.1,h1.2,hj3.1,hj3.2.1,hv']
 ·cases h
theorem E5q {t:TypeId} {x:Operand} {st:ByteArray} (ho:o.op = .range t x) (hu:P.underlying t=some .string) (hx:s.ev G x = .t (.v (.string st))):AOp P G B o s (.ptr s.nx 0) ((s.nx,.iter st 0)::s.H) (s.nx+1):=by
 refine B4a fun L a w hi=>?_;have h:=hi.ev x;rw[hx]at h;simp only[RepV,RepT]at h;refine⟨.pointer (some ⟨w.heap.size,0,none⟩),w.iter st 0,.stringIter st 0,by simp[execOp,ho,h,run_range_string w t st hu],⟨rfl,rfl,rfl⟩,rfl,fun hm=>⟨World.iter_heap w st 0,?_⟩⟩;simp only[RepV];exact⟨by simp[Loc.grow,hi.nx],by simp[Loc.grow,hi.nx]⟩
theorem F1x {x:Operand} {b:Nat} {st:ByteArray} {pos:Nat} (ho:o.op = .next x true) (hx:s.ev G x = .ptr b 0) (hl:look s.H b=some (.iter st pos)) (hp:pos<st.size) :
  AOp P G B o s (.t (.tu [.v (.bool true),.v (.int .i64 pos),.v (.int .i32 (Utf8.decode st pos).1)])) (upd s.H b (.iter st (pos+(Utf8.decode st pos).2))) s.nx:=fun L a w hi=>by
 have h:=hi.ev x;rw[hx]at h;simp only[RepV]at h;obtain⟨hb,h⟩:=h;have hr:=hi.heap.rep b _ hl;have hr':w.heap[L.μ b]?=some (.stringIter st pos):=hr;have hlt:=(Array.getElem?_eq_some_iff.1 hr').1;unfold Oper.wp
 have hrun:(execOp a.eval o).run P w = .ok (.value (.tuple #[.bool true,.int .i64 pos,.int .i32 (Utf8.decode st pos).1])) { w with heap:=w.heap.setIfInBounds (L.μ b) (.stringIter st (pos+(Utf8.decode st pos).2)) }:=by
  simp[execOp,ho,h,Instr.next,getObj,setObj,Sem.run,hr',hp,goInt]
 rw[hrun,Oper.upon_value]
 have hw:=A4u (w':={ w with heap:=w.heap.setIfInBounds (L.μ b) (.stringIter st (pos+(Utf8.decode st pos).2)) }) (r:=.iter st (pos+(Utf8.decode st pos).2)) hi.heap ⟨rfl,rfl,rfl⟩ hl (by simp)
  (fun g hg=>by simp[Array.getElem?_setIfInBounds_ne (Ne.symm hg)]) (fun g hg arr ty fz he=>by
   by_cases e:g=L.μ b
   ·subst e;simp[hlt]at he
   ·simp[Array.getElem?_setIfInBounds_ne (Ne.symm e)]at he;exact⟨arr,fz,he,rfl⟩)
  (fun _=>by simp[A4e,hlt])
 exact⟨_,L,rfl,by simp[RepV,RepT,RepL],hw.1,hi.nx,hw.2.1,hw.2.2⟩
theorem F1y {x:Operand} {b:Nat} {st:ByteArray} {pos:Nat} (ho:o.op = .next x true) (hx:s.ev G x = .ptr b 0) (hl:look s.H b=some (.iter st pos)) (hp:¬pos<st.size) :
  AOp P G B o s (.t (.tu [.v (.bool false)])) s.H s.nx:=by
 refine A3j fun L a w hi=>?_;have h:=hi.ev x;rw[hx]at h;simp only[RepV]at h;obtain⟨hb,h⟩:=h;have hr:w.heap[L.μ b]?=some (.stringIter st pos):=hi.heap.rep b _ hl;exact⟨.tuple #[.bool false],by simp[execOp,ho,h,Instr.next,getObj,Sem.run,hr,hp],by simp[RepV,RepT,RepL]⟩
theorem C0m {I:Nat->Prop} {w:World}:∀{cs:List T} {l:List UInt8} {us:List Value},A7n cs=some l->RepL I w cs us->∃ns:List Int,us=ns.map (Value.int .u8)/\l=ns.map fun n=>UInt8.ofNat n.toNat
 | [],l,us,h,hr=>by
  simp only[A7n,Option.some.injEq]at h;simp only[RepL]at hr;exact⟨[],by simp[hr],by simp[<-h]⟩
 | c::cs,l,us,h,hr=>by
  simp only[RepL]at hr;obtain⟨x,xs,rfl,hx,hxs⟩:=hr;unfold A7n at h;split at h
  ·rename_i e;cases e
  ·rename_i n r e;injection e with e1 e2;subst e1;subst e2;obtain⟨l',hl',rfl⟩:=Option.map_eq_some_iff.1 h;obtain⟨ns,h1,h2⟩:=C0m hl' hxs;simp only[RepT]at hx;exact⟨n::ns,by simp[hx,h1],by simp[h2]⟩
  ·cases h
theorem D7n:∀(ns:List Int) (b:ByteArray),ns.foldl (fun r n=>r.push (UInt8.ofNat n.toNat)) b=⟨b.data++(ns.map fun n=>UInt8.ofNat n.toNat).toArray⟩
 | [],b=>by simp
 | n::ns,b=>by
  rw[List.foldl_cons,D7n ns];simp[ByteArray.push]
theorem C6o (b o j:Nat):(⟨b,o,none⟩:Addr).add j=⟨b,o+j,none⟩:=by
 unfold Addr.add;split
 ·rename_i h;subst h;rfl
 ·rfl
theorem F6e {src dst e:TypeId} {x:Operand} {cs:List T} {l:List UInt8} (ho:o.op = .convert src dst x) (hs:P.underlying src=some (.slice e)) (hd:P.underlying dst=some .string) (he:P.underlying e=some (.int .u8))
  (hx:hxM.toTS s.H (s.ev G x)=some cs) (hl:A7n cs=some l):AOp P G B o s (.t (.v (.string ⟨l.toArray⟩))) s.H s.nx:=by
 refine A3j fun L a w hi=>?_;refine⟨.string ⟨l.toArray⟩,?_,by simp only[RepV,RepT]⟩;have h:=hi.ev x
 have go:∀(ad:Addr) (n c:Nat) (us:List Value),a.eval x = .slice (some ad) n c->us.length=n->(∀(j:Nat) v,us[j]?=some v->w.cell? (ad.add j)=some v)->RepL L.I w cs us ->
   (execOp a.eval o).run P w = .ok (.value (.string ⟨l.toArray⟩)) w:=by
  intro ad n c us e1 hn hc hr;obtain⟨ns,hu,hln⟩:=C0m hl hr
  have hload:(loadCells ad n).run P w = .ok (ns.map (Value.int .u8)).toArray w:=by
   have:=run_loadCells_list (P:=P) w ad us hc;rw[hn]at this;rw[this,hu]
  have:=run_bytesToString w ad n c ns hload;rw[D7n,<-hln,show(ByteArray.empty.data++l.toArray)=l.toArray from Array.empty_append]at this;simp only[execOp,ho,e1,Go.convert,Sem.run_bind,run_underlying hs,run_underlying hd,run_underlying he,Result.andThen_ok,this];rfl
 generalize hp:s.ev G x=p at h hx;unfold hxM.toTS at hx;split at hx
 ·rename_i n c;injection hx with hx;subst hx;simp only[A7n,Option.some.injEq]at hl;subst hl;simp only[RepV,RepT]at h;simp only[execOp,ho,h,Go.convert,Sem.run_bind,run_underlying hs,run_underlying hd,run_underlying he,Result.andThen_ok,Conv.bytesToString];rfl
 ·rename_i n cs';split at hx
  ·rename_i hn;injection hx with hx;subst hx;simp only[RepV,RepT]at h;obtain⟨ad,c,e1,hc,hb⟩:=h;rcases hb with⟨h0,h1⟩ | ⟨h0,h1,h2⟩
   ·subst h1;exact go ad n c [] e1 (by simp[h0]) (by simp) (by simp only[RepL])
   ·obtain⟨b,o',sp⟩:=ad;simp only at h0 h1 h2;subst h0
    have:∀(cs:List T) (o':Nat),RepC L.I w cs b o'->∃us:List Value,us.length=cs.length/\(∀(j:Nat) v,us[j]?=some v->w.cell? ⟨b,o'+j,none⟩=some v)/\RepL L.I w cs us:=by
     intro cs
     induction cs with
     | nil=>intro o' _;exact⟨[],rfl,by simp,by simp only[RepL]⟩
     | cons d cs ih=>
      intro o' hr;simp only[RepC]at hr;obtain⟨⟨v,hv,_,hd⟩,hr⟩:=hr;obtain⟨us,h1,h2,h3⟩:=ih (o'+1) hr;refine⟨v::us,by simp[h1],fun j y hj=>?_,by simp only[RepL];exact⟨v,us,rfl,hd,h3⟩⟩
      cases j with
      | zero=>simp at hj;subst hj;simpa using hv
      | succ j=>have:=h2 j y (by simpa using hj);rwa[show o'+(j+1)=o'+1+j by omega]
    obtain⟨us,h3,h4,h5⟩:=this _ _ h2;exact go ⟨b,o',none⟩ n c us e1 (by omega) (fun j v hj=>by rw[C6o];exact h4 j v hj) h5
  ·cases hx
 ·rename_i b o' n z;split at hx
  ·rename_i ty cs' hlook;split at hx
   ·rename_i hz;obtain⟨rfl,hz⟩:=hz;simp only[RepV]at h;obtain⟨hb',hμ,c,e1,hc,_⟩:=h;obtain⟨xs,hxl,hcell,h1,hrep⟩:=A7j (hi.heap.rep b _ hlook);have hseg:=hrep.drop_take o' n;rw[B1z hx]at hseg;refine go ⟨L.μ b,o',none⟩ n c ((xs.drop o').take n) e1 (by simp;omega) (fun j v hj=>?_) hseg.toT;rw[List.getElem?_take]at hj;split at hj
    ·rw[List.getElem?_drop]at hj;rw[C6o];exact hcell _ v hj
    ·cases hj
   ·cases hx
  ·cases hx
 ·cases hx
theorem F6f {t:TypeId} {x:Operand} {d:TypeDesc} {p:PV} (ho:o.op = .makeInterface t x) (hu:P.underlying t=some d) (hne:∀ms,d = .interface ms->False) (hp:exM (.mki t) [s.ev G x]=some p):AOp P G B o s p s.H s.nx:=
 A3j fun L a w hi=>by
  have h:=hi.ev x
  have hrun:(execOp a.eval o).run P w = .ok (.value (.iface t (a.eval x))) w:=by
   simp only[execOp,ho,Instr.makeInterface,Sem.run_bind,run_underlying hu,Result.andThen_ok]
   cases d<;>first | (exact(hne _ rfl).elim) | rfl
  refine⟨_,hrun,?_⟩;generalize s.ev G x=q at h hp
  cases q with
  | t y=>
   simp only[exM,Option.some.injEq]at hp;subst hp;simp only[RepV,RepT]at h ⊢;exact⟨_,rfl,h⟩
  | _=>
   simp only[exM,Option.some.injEq]at hp;subst hp;simp only[RepV]at h ⊢;exact⟨_,rfl,h⟩
theorem D4c {L:Loc} {a:Act} {w:World} (hi:Interp P G B L s a w):∀l:List Operand,A0y P L w ((l.map (A0m G)).map (·.ev s.env)) (l.map a.eval)
 | []=>by simp only[List.map_nil,A0y]
 | x::r=>by
  simp only[List.map_cons,A0y];exact⟨_,_,rfl,by rw[A5q];exact hi.ev x,D4c hi r⟩
theorem F6g {f:Fn} {first cap:Array Operand} {p:PV} (ho:o.op = .makeFunc f first cap) (hp:exM (.mkf f first.size) ((first.toList.map (A0m G)++cap.toList.map (A0m G)).map (·.ev s.env))=some p):AOp P G B o s p s.H s.nx:=
 A3j fun L a w hi=>by
  refine⟨.func f (first.map a.eval) (cap.map a.eval),by simp[execOp,ho,Instr.makeFunc],?_⟩
  have h1:=D4c hi first.toList
  have h2:=D4c hi cap.toList
  have l1:((first.toList.map (A0m G)).map (·.ev s.env)).length=first.size:=by simp
  generalize hF:(first.toList.map (A0m G)).map (·.ev s.env)=F at h1 l1;generalize hC:(cap.toList.map (A0m G)).map (·.ev s.env)=C at h2;rw[List.map_append,hF,hC]at hp;simp only[exM,Option.some.injEq]at hp;rw[<-l1,List.take_left,List.drop_left]at hp;subst hp;unfold mkFn;split
  ·simp only[A0y]at h1 h2;simp only[RepV,RepT]
   have e1:first.map a.eval = #[]:=by rw[<-Array.toList_inj,Array.toList_map];exact h1
   have e2:cap.map a.eval = #[]:=by rw[<-Array.toList_inj,Array.toList_map];exact h2
   rw[e1,e2]
  ·simp only[RepV];exact⟨_,_,rfl,by rw[Array.toList_map];exact h1,by rw[Array.toList_map];exact h2⟩
structure B4w (P:Program) (kt:TypeId) (K:Value->Prop):Prop where
 check:∀(w:World) (em:Bool) (v:Value),K v->(Instr.checkKey em 10000 kt v).run P w = .ok () w
 find:∀(w:World) (x:Value),K x->∀es:List MapEntry,(∀e∈es,K e.key)->((Instr.findKey kt x es).run P w = .ok none w/\∀e∈es,e.key≠x)\/∃j e,(Instr.findKey kt x es).run P w = .ok (some (j,e.val)) w/\es[j]?=some e/\e.key=x
 stays:∀(w:World) (v:Value),K v->(Instr.keyThatStays v v).run P w = .ok v w
theorem B8a {kt:TypeId} {d:TypeDesc} (hd:P.underlying kt=some d):B4w P kt (MapKept.IsKey d) where
 check:=fun w em v h=>MapKept.run_checkKey hd h em 9999
 find:=fun w x hx es hes=>by
  rcases MapKept.findNow_spec hx es 0 hes with⟨h1,h2⟩ | ⟨j,e0,h1,h2,h3⟩
  ·exact .inl ⟨MapKept.run_findKey hd h1,h2⟩
  ·exact .inr ⟨j,e0,by simpa using MapKept.run_findKey hd h1,h2,h3⟩
 stays:=fun w v h=>MapKept.run_keyThatStays h
def F6h (m:Nat) (v:Value):Prop:=∃ns:List Int,ns.length=m/\v = .agg (ns.map (.int .i64)).toArray
theorem C6p {I:Nat->Prop} {w:World}:∀ns:List Int,RepL I w (ns.map fun n=>T.v (.int .i64 n)) (ns.map (Value.int .i64))
 | []=>by simp[RepL]
 | n::r=>by
  simp only[List.map_cons,RepL,RepT];exact⟨_,_,rfl,rfl,C6p r⟩
theorem B8b:∀(a b:List Int),a.length=b.length->A1t (List.replicate a.length .i) (a.map fun n=>T.v (.int .i64 n)) (b.map fun n=>T.v (.int .i64 n))=some (decide (a=b))
 | [],[],_=>rfl
 | x::a,y::b,h=>by
  rw[List.length_cons,List.replicate_succ,List.map_cons,List.map_cons];simp only[A1t,if_true,B8b a b (by simpa using h),Option.map_some];congr 1;by_cases e:x=y<;>by_cases e2:a=b<;>simp[e,e2]
 | [],_::_,h=>by simp at h
 | _::_,[],h=>by simp at h
theorem D7o {a b:List Int} (h:(Value.agg (a.map (.int .i64)).toArray) = .agg (b.map (.int .i64)).toArray):a=b:=by
 injection h with h
 have h:a.map (Value.int .i64)=b.map (Value.int .i64):=by simpa using h
 exact(List.map_inj_right (fun x y e=>by injection e)).1 h
theorem C3m {kt:TypeId} {m:Nat} (hk:C0i P kt=some (List.replicate m .i)) (w:World) (a b:List Int) (ha:a.length=m) (hb:b.length=m) :
  (Op.equal kt (.agg (a.map (.int .i64)).toArray) (.agg (b.map (.int .i64)).toArray)).run P w = .ok (decide (a=b)) w:=by
 unfold C0i at hk;split at hk
 ·rename_i fs hu;split at hk
  ·rename_i hc
   have hf:P.fieldsOf kt=fs:=by simp[Program.fieldsOf,hu]
   show(Op.equalIn 10000 kt _ _).run P w=_;rw[show(10000:Nat)=9998+1+1 from rfl,run_equalIn_struct w (9998+1) kt _ _ (by rw[hf];exact hu) hc.1,hf];refine B0y (fun _=>True) 9998 _ _ fs.toList 0 (List.replicate m .i) _ _ _ hk ?_ (C6p a) (C6p b);rw[<-ha];exact B8b a b (by omega)
  ·cases hk
 ·cases hk
theorem C9w:∀{fs:List Field} {o m:Nat},A2o P o fs=some (List.replicate m .i)->fs.length=m/\∀(i:Nat) f,fs[i]?=some f->f.name ≠ "_" /\ f.offset=o+i/\∃k,P.underlying f.type=some (.int k)
 | [],o,m,h=>by
  simp only[A2o,Option.some.injEq]at h
  cases m with
  | zero=>exact⟨rfl,fun i f hf=>by simp at hf⟩
  | succ m=>rw[List.replicate_succ]at h;cases h
 | f::fs,o,m,h=>by
  simp only[A2o]at h;split at h
  ·rename_i hf;obtain⟨hn,ho,_⟩:=hf
   have key:∀{x:CK} (hx:(A2o P (o+1) fs).map (x::·)=some (List.replicate m .i)),∃m',m=m'+1/\x = .i/\A2o P (o+1) fs=some (List.replicate m' .i):=fun {x} hx=>by
    obtain⟨ks,h1,h2⟩:=Option.map_eq_some_iff.1 hx
    cases m with
    | zero=>cases h2
    | succ m=>
     rw[List.replicate_succ]at h2;injection h2 with h2 h3;exact⟨m,rfl,h2,by rw[h1,h3]⟩
   split at h
   ·rename_i k hu;obtain⟨m',rfl,_,h1⟩:=key h;obtain⟨i1,i2⟩:=C9w h1;refine⟨by simp[i1],fun i g hg=>?_⟩
    cases i with
    | zero=>
     injection hg with hg;subst hg;exact⟨hn,by omega,k,hu⟩
    | succ i=>
     obtain⟨j1,j2,j3⟩:=i2 i g hg;exact⟨j1,by omega,j3⟩
   ·obtain⟨_,_,e,_⟩:=key h;cases e
   ·obtain⟨_,_,e,_⟩:=key h;cases e
   ·cases h
  ·cases h
theorem D4d {kt:TypeId} {m:Nat} (hk:C0i P kt=some (List.replicate m .i)):B4w P kt (F6h m):=by
 obtain⟨fs,hu,hkf⟩:∃fs,P.underlying kt=some (.struct fs)/\A2o P 0 fs.toList=some (List.replicate m .i):=by
  unfold C0i at hk;split at hk
  ·rename_i fs hu;split at hk
   ·exact⟨fs,hu,hk⟩
   ·cases hk
  ·cases hk
 obtain⟨hfl,hfs⟩:=C9w hkf;refine⟨fun w em v hv=>?_,fun w x hx es hes=>?_,fun w v hv=>?_⟩
 ·obtain⟨ns,hl,rfl⟩:=hv;rw[show(10000:Nat)=9998+1+1 from rfl,Instr.checkKey];simp only[Sem.run_bind,run_underlying hu,Result.andThen_ok];rw[<-Array.forIn_toList]
  have hfs':∀f∈fs.toList,f.name ≠ "_" /\ ∃k x,P.underlying f.type=some (.int k)/\(ns.map (Value.int .i64)).toArray[f.offset]?=some (.int .i64 x):=fun f hf=>by
   obtain⟨i,hi,rfl⟩:=List.getElem_of_mem hf;obtain⟨h1,h2,k,h3⟩:=hfs i _ (List.getElem?_eq_getElem hi)
   have hin:i<ns.length:=by omega
   exact⟨h1,k,ns[i],h3,by rw[h2];simp[hin]⟩
  generalize fs.toList=L at hfs'
  induction L with
  | nil=>simp
  | cons f L ih=>
   obtain⟨h1,k,x,h2,h3⟩:=hfs' f (by simp);have p1:=B4v (w:=w) (.inr (.inr ⟨k,h2⟩)) h3
   have p2:(Instr.checkKey em (9998+1) f.type (.int .i64 x)).run P w = .ok () w:=by
    rw[Instr.checkKey];simp only[Sem.run_bind,run_underlying h2,Result.andThen_ok];rfl
   simp only[List.forIn_cons,Sem.run_bind,h1,ne_eq,not_false_eq_true,if_true,Result.andThen_ok,p1,p2,Sem.run_pure];exact ih fun g hg=>hfs' g (by simp[hg])
 ·obtain⟨a,ha,rfl⟩:=hx;rw[run_findKey_eq w (by rw[hu])]
  have key:∀(es:List MapEntry) (i:Nat),(∀e∈es,F6h m e.key)->((Instr.findAsking kt (.agg (a.map (.int .i64)).toArray) es i).run P w = .ok none w/\∀e∈es,e.key ≠ .agg (a.map (.int .i64)).toArray) \/
    ∃j e,(Instr.findAsking kt (.agg (a.map (.int .i64)).toArray) es i).run P w = .ok (some (i+j,e.val)) w/\es[j]?=some e/\e.key = .agg (a.map (.int .i64)).toArray:=by
   intro es
   induction es with
   | nil=>exact fun i _=>.inl ⟨by simp[Instr.findAsking],by simp⟩
   | cons e es ih=>
    intro i hes;obtain⟨b,hb,hbe⟩:=hes e (by simp);have he:=C3m hk w a b ha hb;rw[<-hbe]at he;by_cases hab:a=b
    ·right;refine⟨0,e,?_,rfl,by rw[hbe,hab]⟩;rw[decide_eq_true hab]at he;simp[Instr.findAsking,he]
    ·rw[decide_eq_false hab]at he;rcases ih (i+1) (fun y hy=>hes y (by simp[hy]))with⟨h1,h2⟩ | ⟨j,e',h1,h2,h3⟩
     ·left;refine⟨by simp[Instr.findAsking,he,h1],fun y hy=>?_⟩;rcases List.mem_cons.1 hy with rfl | hy
      ·intro h;rw[hbe]at h;exact hab (D7o h).symm
      ·exact h2 y hy
     ·right;exact⟨j+1,e',by simp[Instr.findAsking,he,h1,Nat.add_assoc,Nat.add_comm 1 j],by simpa using h2,h3⟩
  rcases key es 0 hes with h | ⟨j,e,h1,h2,h3⟩
  ·exact .inl h
  ·exact .inr ⟨j,e,by simpa using h1,h2,h3⟩
 ·obtain⟨ns,hl,rfl⟩:=hv
  have hs:Instr.sameBits 10000 (.agg (ns.map (.int .i64)).toArray) (.agg (ns.map (.int .i64)).toArray)=true:=by
   show Instr.sameBits (9999+1) _ _=true;simp only[Instr.sameBits,beq_self_eq_true,Bool.true_and,List.all_eq_true];intro p hp;obtain⟨i,hi,e⟩:=List.getElem_of_mem hp;rw[List.getElem_zip]at e;rw[<-e];simp[Instr.sameBits]
  simp[Instr.keyThatStays,hs]
def KV (kk:KK) (v:Value):Prop:=∃x:Key,x.ok kk=true/\v=x.val kk
theorem B4w.mono {kt:TypeId} {K K':Value->Prop} (h:B4w P kt K) (hs:∀v,K' v->K v):B4w P kt K':=
 ⟨fun w em v hv=>h.check w em v (hs v hv),fun w x hx es hes=>h.find w x (hs x hx) es fun e he=>hs _ (hes e he),fun w v hv=>h.stays w v (hs v hv)⟩
theorem F9y {k:IntKind} {v:Value} (h:KV (.int k) v):∃n,v = .int k n:=by
 obtain⟨x,hx,rfl⟩:=h;unfold Key.ok at hx;split at hx
 ·rename_i k' n e1;cases e1;exact⟨n,rfl⟩
 ·rename_i e1;cases e1
 ·rename_i e1;cases e1
 ·cases hx
theorem F9z {v:Value} (h:KV .str v):∃b,v = .string b:=by
 obtain⟨x,hx,rfl⟩:=h;unfold Key.ok at hx;split at hx
 ·rename_i e1;cases e1
 ·rename_i b e1;exact⟨b,rfl⟩
 ·rename_i e1;cases e1
 ·cases hx
theorem F6i {m:Nat} {v:Value} (h:KV (.ints m) v):F6h m v:=by
 obtain⟨x,hx,rfl⟩:=h;unfold Key.ok at hx;split at hx
 ·rename_i e1;cases e1
 ·rename_i e1;cases e1
 ·rename_i m' ns e1;cases e1;exact⟨ns,by simpa using hx,rfl⟩
 ·cases hx
theorem F6j {kk:KK} {x y:Key} (hx:x.ok kk=true) (hy:y.ok kk=true) (h:x.val kk=y.val kk):x=y:=by
 cases kk with
 | int k=>
  rcases x with ns | s
  ·rcases ns with _ | ⟨n,_ | ⟨n',r⟩⟩<;>first | (cases hx;done) | skip
   rcases y with ms | s
   ·rcases ms with _ | ⟨m,_ | ⟨m',r⟩⟩<;>first | (cases hy;done) | skip
    simp only[Key.val]at h;injection h with _ h;rw[h]
   ·cases hy
  ·cases hx
 | str=>
  rcases x with ns | s
  ·cases hx
  ·rcases y with ms | s'
   ·cases hy
   ·simp only[Key.val]at h;injection h with h;rw[h]
 | ints m=>
  rcases x with ns | s
  ·rcases y with ms | s
   ·simp only[Key.val]at h;rw[D7o h]
   ·cases hy
  ·cases hx
theorem E5r:∀{ks:List CK},ks.all CK.isI=true->ks=List.replicate ks.length .i
 | [],_=>rfl
 | .i::ks,h=>by
  rw[List.length_cons,List.replicate_succ,<-E5r (ks:=ks) (by simpa[CK.isI]using h)]
 | .s::ks,h=>by simp[CK.isI]at h
 | .b::ks,h=>by simp[CK.isI]at h
theorem D7p {kt:TypeId} {kk:KK} (h:kkOf P kt=some kk):B4w P kt (KV kk):=by
 unfold kkOf at h;split at h
 ·rename_i k hu;injection h with h;subst h
  exact(B8a hu).mono fun v hv=>by obtain⟨n,rfl⟩:=F9y hv;simp[MapKept.IsKey]
 ·rename_i hu;injection h with h;subst h
  exact(B8a hu).mono fun v hv=>by obtain⟨n,rfl⟩:=F9z hv;simp[MapKept.IsKey]
 ·split at h
  ·rename_i ks hk;split at h
   ·rename_i ha;injection h with h;subst h;exact(D4d (by rw[hk,<-E5r ha])).mono fun v hv=>F6i hv
   ·cases h
  ·cases h
 ·cases h
theorem E2a {t:TypeId} {kk:KK} (h:E5o P t=some kk):∃kt et,P.underlying t=some (.map kt et)/\B4w P kt (KV kk):=by
 unfold E5o at h;split at h
 ·rename_i kt et hu;exact⟨kt,et,hu,D7p h⟩
 ·cases h
theorem D4e {t:TypeId} {kk:KK} {z:Value} (h:D7m P t=some (kk,z)):∃kt et,P.underlying t=some (.map kt et)/\B4w P kt (KV kk)/\∀w,(zeroValue et).run P w = .ok z w:=by
 unfold D7m at h;split at h
 ·rename_i kt et hu;split at h
  ·rename_i kk' z' h1 h2;injection h with h;injection h with e1 e2;subst e1;subst e2;obtain⟨i,hi,hz⟩:=Option.bind_eq_some_iff.1 h2;exact⟨kt,et,hu,D7p h1,fun w=>by simp[zeroValue,typeInfo,hi,hz]⟩
  ·cases h
 ·cases h
theorem C9x {I:Nat->Prop} {w:World}:∀{cs:List T} {ns:List Int} {us:List Value},E5n cs=some ns->RepL I w cs us->us=ns.map (Value.int .i64)
 | [],ns,us,h,hr=>by
  simp only[E5n,Option.some.injEq]at h;simp only[RepL]at hr;subst h;exact hr
 | c::cs,ns,us,h,hr=>by
  simp only[RepL]at hr;obtain⟨x,xs,rfl,hx,hxs⟩:=hr;unfold E5n at h;split at h
  ·rename_i e;cases e
  ·rename_i n r e;injection e with e1 e2;subst e1;subst e2;obtain⟨ns',hns,rfl⟩:=Option.map_eq_some_iff.1 h;simp only[RepT]at hx;rw[hx,C9x hns hxs,List.map_cons]
  ·cases h
theorem D7q {kk:KK} {p:PV} {x:Key} {L:Loc} {w:World} {u:Value} (h:keyT kk p=some x) (hr:RepV P L w p u):x.ok kk=true/\u=x.val kk:=by
 unfold keyT at h;split at h
 ·split at h
  ·rename_i e;injection h with h;subst e;subst h;simp only[RepV,RepT]at hr;exact⟨rfl,hr⟩
  ·cases h
 ·injection h with h;subst h;simp only[RepV,RepT]at hr;exact⟨rfl,hr⟩
 ·obtain⟨ns,h1,h⟩:=Option.bind_eq_some_iff.1 h;split at h
  ·rename_i e;injection h with h;subst h;simp only[RepV,RepT]at hr;obtain⟨us,e1,_,h2⟩:=hr;refine⟨by simp[Key.ok,e],?_⟩;rw[e1];show Value.agg us=Value.agg _;congr 1;rw[<-Array.toList_inj,C9x h1 h2]
  ·cases h
 ·cases h
theorem C9y {k:Key}:∀{es:List (Key×Value)},(∀e∈es,e.1≠k)->getK es k=none
 | [],_=>rfl
 | (y,u)::r,h=>by
  rw[getK,if_neg (h (y,u) (by simp))];exact C9y fun e he=>h e (by simp[he])
theorem E5s {k:Key} {v:Value}:∀{es:List (Key×Value)} {j:Nat},(es.map (·.1)).Nodup->es[j]?=some (k,v)->getK es k=some v
 | [],j,_,h=>by simp at h
 | (y,u)::r,0,_,h=>by
  simp only[List.getElem?_cons_zero,Option.some.injEq,Prod.mk.injEq]at h;rw[getK,if_pos h.1,h.2]
 | (y,u)::r,j+1,hn,h=>by
  simp only[List.map_cons,List.nodup_cons]at hn;have hm:(k,v)∈r:=List.mem_of_getElem? (by simpa using h);rw[getK,if_neg (fun(e:y=k)=>hn.1 (e▸List.mem_map.2 ⟨_,hm,rfl⟩))];exact E5s hn.2 (by simpa using h)
theorem C9z {k:Key} {v:Value}:∀{es:List (Key×Value)},(∀e∈es,e.1≠k)->setK es k v=es++[(k,v)]
 | [],_=>rfl
 | (y,u)::r,h=>by
  rw[setK,if_neg (h (y,u) (by simp)),C9z fun e he=>h e (by simp[he])];rfl
theorem E5t {k:Key} {u v:Value}:∀{es:List (Key×Value)} {j:Nat},(es.map (·.1)).Nodup->es[j]?=some (k,u)->setK es k v=es.set j (k,v)
 | [],j,_,h=>by simp at h
 | (y,u')::r,0,_,h=>by
  simp only[List.getElem?_cons_zero,Option.some.injEq,Prod.mk.injEq]at h;rw[setK,if_pos h.1,h.1];rfl
 | (y,u')::r,j+1,hn,h=>by
  simp only[List.map_cons,List.nodup_cons]at hn;have hm:(k,u)∈r:=List.mem_of_getElem? (by simpa using h);rw[setK,if_neg (fun(e:y=k)=>hn.1 (e▸List.mem_map.2 ⟨_,hm,rfl⟩)),E5t hn.2 (by simpa using h)];rfl
theorem C6q {k:Key} {v:Value} {e:Key×Value}:∀{es:List (Key×Value)},e∈setK es k v->e=(k,v)\/e∈es
 | [],h=>.inl (by simpa[setK]using h)
 | (y,u)::r,h=>by
  rw[setK]at h;split at h
  ·rename_i hy;rcases List.mem_cons.1 h with h | h
   ·exact .inl (by rw[h,hy])
   ·exact .inr (by simp[h])
  ·rcases List.mem_cons.1 h with h | h
   ·exact .inr (by simp[h])
   ·exact(C6q h).imp id fun h=>by simp[h]
theorem C4i {k:Key} {v:Value}:∀{es:List (Key×Value)},(es.map (·.1)).Nodup->((setK es k v).map (·.1)).Nodup
 | [],_=>by simp[setK]
 | (y,u)::r,hn=>by
  simp only[List.map_cons,List.nodup_cons]at hn;rw[setK];split
  ·simpa using hn
  ·rename_i hy;simp only[List.map_cons,List.nodup_cons];refine⟨fun h=>?_,C4i hn.2⟩;obtain⟨e,he,e1⟩:=List.mem_map.1 h;rcases C6q he with rfl | he
   ·exact hy e1.symm
   ·exact hn.1 (e1▸List.mem_map.2 ⟨e,he,rfl⟩)
theorem D7r {kt:TypeId} {kk:KK} (hk:B4w P kt (KV kk)) {arr:Array MapEntry} {es:List (Key×Value)} {k:Key} (w:World) (h1:arr.toList.map (fun e=>(e.key,e.val))=es.map (fun e=>(e.1.val kk,e.2)))
  (h2:∀e∈es,e.1.ok kk=true) (hok:k.ok kk=true) :
  ((Instr.findKey kt (k.val kk) arr.toList).run P w = .ok none w/\∀e∈es,e.1≠k) \/
   ∃j e,(Instr.findKey kt (k.val kk) arr.toList).run P w = .ok (some (j,e.val)) w/\arr.toList[j]?=some e/\e.key=k.val kk/\es[j]?=some (k,e.val):=by
 have hes:∀e∈arr.toList,KV kk e.key:=fun e he=>by
  have hm:(e.key,e.val)∈arr.toList.map (fun e=>(e.key,e.val)):=List.mem_map.2 ⟨e,he,rfl⟩;rw[h1]at hm;obtain⟨e',he',eq⟩:=List.mem_map.1 hm;injection eq with eq _;exact⟨e'.1,h2 e' he',eq.symm⟩
 rcases hk.find w _ ⟨k,hok,rfl⟩ arr.toList hes with⟨f1,f2⟩ | ⟨j,e,f1,f2,f3⟩
 ·refine .inl ⟨f1,fun e he hek=>?_⟩;have hm:(e.1.val kk,e.2)∈es.map (fun e=>(e.1.val kk,e.2)):=List.mem_map.2 ⟨e,he,rfl⟩;rw[<-h1]at hm;obtain⟨e',he',eq⟩:=List.mem_map.1 hm;injection eq with eq _;exact f2 e' he' (by rw[eq,hek])
 ·have hj:(arr.toList.map (fun e=>(e.key,e.val)))[j]?=some (e.key,e.val):=by rw[List.getElem?_map,f2];rfl
  rw[h1,List.getElem?_map]at hj;obtain⟨e',he',eq⟩:=Option.map_eq_some_iff.1 hj;injection eq with eq1 eq2;refine .inr ⟨j,e,f1,f2,f3,?_⟩;rw[he',<-eq2,<-F6j (h2 e' (List.mem_of_getElem? he')) hok (eq1.trans f3)]
theorem F1z {t:TypeId} {kk:KK} (ho:o.op = .makeMap t none):AOp P G B o s (.mp s.nx) ((s.nx,.map kk [])::s.H) (s.nx+1):=by
 refine B4a fun L a w hi=>?_;refine⟨.map (some w.heap.size),w.alloc (.map #[] 0),.map #[] 0,by simp[execOp,ho,Instr.makeMap],⟨rfl,rfl,rfl⟩,rfl,fun hm=>⟨⟨#[],0,(MapKept.heap_alloc w _).1,by simp,by simp,by simp,by simp,by simp⟩,?_⟩⟩;simp only[RepV];exact⟨by simp[Loc.grow,hi.nx],by simp[Loc.grow,hi.nx]⟩
theorem F2a {t:TypeId} {x y:Operand} {ok:Bool} {kk:KK} {z:Value} {b:Nat} {es:List (Key×Value)} {k:Key} (ho:o.op = .lookup t x y ok) (hk:D7m P t=some (kk,z)) (hx:s.ev G x = .mp b) (hl:look s.H b=some (.map kk es))
  (hy:keyT kk (s.ev G y)=some k):AOp P G B o s (.t (C9u ok z (getK es k))) s.H s.nx:=by
 refine A3j fun L a w hi=>?_;obtain⟨kt,et,hu,hkey,hz⟩:=D4e hk;have ex:=hi.ev x;rw[hx]at ex;simp only[RepV]at ex;obtain⟨hb,ex⟩:=ex;obtain⟨hok,ey⟩:=D7q hy (hi.ev y);obtain⟨arr,clock,hh,h1,h2,hn,hb1,hb2⟩:=hi.heap.rep b _ hl;have hc:=hkey.check w arr.isEmpty (k.val kk) ⟨k,hok,rfl⟩;rcases D7r hkey w h1 h2 hok with⟨f1,f2⟩ | ⟨j,e,f1,f2,f3,f4⟩
 ·refine⟨if ok then .tuple #[z,.bool false]else z,?_,?_⟩
  ·simp[execOp,ho,Instr.lookup,run_underlying hu,ex,ey,MapKept.run_getObj_map hh,hc,f1,hz]
  ·rw[C9y f2];cases ok<;>simp[C9u,RepV,RepT,RepL]
 ·refine⟨if ok then .tuple #[e.val,.bool true]else e.val,?_,?_⟩
  ·simp[execOp,ho,Instr.lookup,run_underlying hu,ex,ey,MapKept.run_getObj_map hh,hc,f1]
  ·rw[E5s hn f4];cases ok<;>simp[C9u,RepV,RepT,RepL]
theorem F2b {t:TypeId} {x y z:Operand} {kk:KK} {v:Value} {b:Nat} {es:List (Key×Value)} {k:Key} (ho:o.op = .mapUpdate t x y z) (hk:E5o P t=some kk) (hx:s.ev G x = .mp b) (hl:look s.H b=some (.map kk es))
  (hy:keyT kk (s.ev G y)=some k) (hv:s.ev G z = .t (.v v)):AOp P G B o s (.t (.v undef)) (upd s.H b (.map kk (setK es k v))) s.nx:=fun L a w hi=>by
 obtain⟨kt,et,hu,hkey⟩:=E2a hk;have ex:=hi.ev x;rw[hx]at ex;simp only[RepV]at ex;obtain⟨hb,ex⟩:=ex;obtain⟨hok,ey⟩:=D7q hy (hi.ev y);have ez:=hi.ev z;rw[hv]at ez;simp only[RepV,RepT]at ez;obtain⟨arr,clock,hh,h1,h2,hn,hb1,hb2⟩:=hi.heap.rep b _ hl;have hlt:=(Array.getElem?_eq_some_iff.1 hh).1;have hc:=hkey.check w false (k.val kk) ⟨k,hok,rfl⟩;have hst:=hkey.stays w (k.val kk) ⟨k,hok,rfl⟩
 have step:∀(arr':Array MapEntry) (c':Nat),(execOp a.eval o).run P w = .ok .skip { w with heap:=w.heap.setIfInBounds (L.μ b) (.map arr' c') } ->
   arr'.toList.map (fun e=>(e.key,e.val))=(setK es k v).map (fun e=>(e.1.val kk,e.2))->(arr'.toList.map (·.born)).Nodup->(∀e∈arr'.toList,e.born<c') ->
   o.wp P a w (fun a' w'=>∃v' L',a'=a.put o.dst v'/\RepV P L' w' (.t (.v undef)) v'/\A1o P G L' (upd s.H b (.map kk (setK es k v))) w'/\L'.nx=s.nx/\Mono L w L' w'/\Ext L s.H w L' (upd s.H b (.map kk (setK es k v))) w') (fun _ _ _=>False):=fun arr' c' hrun heq hn1 hn2=>by
  unfold Oper.wp;rw[hrun,Oper.upon_skip]
  have hw:=A4u (w':={ w with heap:=w.heap.setIfInBounds (L.μ b) (.map arr' c') }) (r:=.map kk (setK es k v)) hi.heap ⟨rfl,rfl,rfl⟩ hl (by simp)
   (fun g hg=>by simp[Array.getElem?_setIfInBounds_ne (Ne.symm hg)]) (fun g hg arr ty fz he=>by
    by_cases e:g=L.μ b
    ·subst e;simp[hlt]at he
    ·simp[Array.getElem?_setIfInBounds_ne (Ne.symm e)]at he;exact⟨arr,fz,he,rfl⟩)
   (fun _=>⟨arr',c',by simp[hlt],heq,fun e he=>by
    rcases C6q he with rfl | he
    ·exact hok
    ·exact h2 e he,C4i hn,hn1,hn2⟩)
  exact⟨undef,L,rfl,by simp only[RepV,RepT],hw.1,hi.nx,hw.2.1,hw.2.2⟩
 rcases D7r hkey w h1 h2 hok with⟨f1,f2⟩ | ⟨j,e,f1,f2,f3,f4⟩
 ·refine step (arr.push { key:=k.val kk,val:=v,born:=clock }) (clock+1) ?_ ?_ ?_ ?_
  ·simp[execOp,ho,Instr.mapUpdate,run_underlying hu,ex,ey,ez,MapKept.run_getObj_map hh,hc,f1,MapKept.run_setObj_map _ hh]
  ·rw[C9z f2];simp[h1]
  ·rw[Array.toList_push,List.map_append,List.nodup_append];refine⟨hb1,by simp,fun x hx y hy=>?_⟩;obtain⟨e,he,rfl⟩:=List.mem_map.1 hx
   have hy:y=clock:=by simpa using hy
   have:=hb2 e he;omega
  ·intro e he;rw[Array.toList_push]at he;rcases List.mem_append.1 he with he | he
   ·have:=hb2 e he;omega
   ·rw[List.mem_singleton.1 he];exact Nat.lt_succ_self _
 ·have hj:arr[j]?=some e:=by simpa using f2
  have hbm:(arr.modify j fun e=>{ e with key:=k.val kk,val:=v }).toList.map (·.born)=arr.toList.map (·.born):=by
   rw[Array.toList_modify];apply List.ext_getElem?;intro i;rw[List.getElem?_map,List.getElem?_modify,List.getElem?_map];by_cases hi':j=i
   ·subst hi';simp only[if_true];cases arr.toList[j]?<;>rfl
   ·simp only[if_neg hi'];cases arr.toList[i]?<;>rfl
  have hbl:∀e'∈(arr.modify j fun e=>{ e with key:=k.val kk,val:=v }).toList,e'.born<clock:=fun e' he'=>by
   have:e'.born∈arr.toList.map (·.born):=by rw[<-hbm];exact List.mem_map.2 ⟨e',he',rfl⟩
   obtain⟨e0,h0,h0'⟩:=List.mem_map.1 this;rw[<-h0'];exact hb2 e0 h0
  refine step (arr.modify j fun e=>{ e with key:=k.val kk,val:=v }) clock ?_ ?_ (by rw[hbm];exact hb1) hbl
  ·simp[execOp,ho,Instr.mapUpdate,run_underlying hu,ex,ey,ez,MapKept.run_getObj_map hh,hc,f1,hj,f3,hst,MapKept.run_setObj_map _ hh]
  ·rw[E5t hn f4,List.map_set,<-h1,Array.toList_modify];apply List.ext_getElem?;intro i;rw[List.getElem?_map,List.getElem?_modify,List.getElem?_set,List.length_map,List.getElem?_map];by_cases hi':j=i
   ·subst hi'
    have hlen:j<arr.size:=by simpa using (List.getElem?_eq_some_iff.1 f2).1
    simp[f2,hlen]
   ·simp[hi']
theorem F6k {t e:TypeId} {x:Operand} {b off k n by' ty:Nat} {zc:List Value} {cs:List PV} (ho:o.op = .call ⟨.builtin .clear,#[x],#[t]⟩) (he:A3e P t=some (e,n,by',zc)) (hx:s.ev G x = .row b off k n)
  (hl:look s.H b=some (.cells ty cs)) (hk:0<k) (hfit:off+(B4u zc k).length<=cs.length):AOp P G B o s (.t (.tu [])) (upd s.H b (.cells ty (A2m cs off ((B4u zc k).map fun x=>.t (.v x))))) s.nx:=fun L a w hi=>by
 obtain⟨i,z,hu,hi',hz,rfl,rfl,rfl,hzl,hpos,hone⟩:=A5b he;have hv:=hi.ev x;rw[hx]at hv;simp only[RepV]at hv;obtain⟨hb,hm,c,hv,hc,hfit2⟩:=hv;obtain⟨arr,harr,hle,hcs⟩:=hi.heap.rep b _ hl
 obtain⟨vs,hvs⟩:∃vs,vs=B4u z.cells.toList k:=⟨_,rfl⟩
 rw[<-hvs]at hfit ⊢
 have h1:∀x∈vs,x.oneCell'=true:=by
  intro x hx;obtain⟨j,hj,rfl⟩:=List.getElem_of_mem hx
  have hsz:0<z.cells.size:=by rw[<-Array.length_toList,hzl];exact hpos
  have hlt:=Nat.mod_lt j hsz
  have e:vs[j]=z.cells[j%z.cells.size]:=by
   have:vs[j]?=some z.cells[j%z.cells.size]:=by
    rw[List.getElem?_eq_getElem hj]at *;simp only[hvs,B4u,Builtin.zeroCells]at hj ⊢;simp at hj ⊢;exact getElem!_pos z.cells _ hlt
   rw[List.getElem?_eq_getElem hj]at this;injection this
  rw[e];exact hone _ (by simp)
 have hstore:=run_storeCells_at P (L.μ b) off ty vs 0 arr w harr (by omega) h1;simp only[Nat.add_zero]at hstore
 have hzv:(zeroValue e).run P w = .ok z w:=by simp[zeroValue,typeInfo,hi',hz]
 have hrep:A0y P L w (vs.map fun x=>.t (.v x)) vs:=by
  clear hstore h1 hvs hfit
  induction vs with
  | nil=>simp only[List.map_nil,A0y]
  | cons x vs ih=>simp only[List.map_cons,A0y];exact⟨x,vs,rfl,by simp only[RepV,RepT],ih⟩
 have hlen:(vs.map fun x=>PV.t (.v x)).length=vs.length:=List.length_map _;rw[<-hlen]at hfit
 obtain⟨k',rfl⟩:∃k',k=k'+1:=⟨k-1,by omega⟩
 have hrun:(execOp a.eval o).run P w = .ok (.value (.tuple #[])) (w.setRow (L.μ b) (arr.toList.take off++vs++arr.toList.drop (off+vs.length)).toArray):=by
  have e1:(Builtin.zeroCells z.cells (k'+1)).toList=vs:=by rw[hvs,B4u]
  simp[execOp,ho,resolve,invoke,builtin,Builtin.clear_,run_underlying hu,hv,hzv,e1,hstore]
 unfold Oper.wp;rw[hrun,Oper.upon_value]
 have hw:=A4u (w':=w.setRow (L.μ b) (arr.toList.take off++vs++arr.toList.drop (off+vs.length)).toArray) (r:=.cells ty (A2m cs off (vs.map fun x=>.t (.v x)))) hi.heap ⟨rfl,rfl,rfl⟩ hl (by simp)
  (fun g hg=>setRow_other w _ g _ hg) (A7b harr (by simp;omega))
  (fun hm=>⟨_,setRow_heap w _ arr _ ty _ harr,by rw[A5a hfit];simp;omega,fun j c hj=>by
   obtain⟨z,hz,h1z,hr⟩:=B2b hle hfit hcs hrep h1 j c hj
   exact⟨z,hz,h1z,RepV.keep hm c hr⟩⟩)
 exact⟨.tuple #[],L,rfl,by simp[RepV,RepT,RepL],hw.1,hi.nx,hw.2.1,hw.2.2⟩
theorem D4f {n:Nat} {zc:List Value} {H:Heap} {nx:Nat} {p0:PV} {q:PV×Heap×Nat} (h:hxM (.clr n zc) H nx [p0]=some q) :
  ∃b off k ty cs,p0 = .row b off k n/\look H b=some (.cells ty cs)/\0<k/\off+(B4u zc k).length<=cs.length/\(.t (.tu []),upd H b (.cells ty (A2m cs off ((B4u zc k).map fun x=>.t (.v x)))),nx)=q:=by
 cases p0<;>first | (simp[hxM]at h;done) | skip
 rename_i b off k z;simp only[hxM]at h;split at h
 ·rename_i ty cs hl;split at h
  ·rename_i hc;obtain⟨rfl,h1,h2⟩:=hc;injection h with h;exact⟨b,off,k,ty,cs,rfl,hl,h1,h2,h⟩
  ·cases h
 ·cases h
theorem D0a {kk:KK} {z:Value} {ok:Bool} {H:Heap} {nx:Nat} {p0 p:PV} {q:PV×Heap×Nat} (h:hxM (.mget kk z ok) H nx [p0,p]=some q) :
  ∃b es k,p0 = .mp b/\look H b=some (.map kk es)/\keyT kk p=some k/\(.t (C9u ok z (getK es k)),H,nx)=q:=by
 cases p0<;>first | (simp[hxM]at h;done) | skip
 rename_i b;simp only[hxM]at h;split at h
 ·rename_i kk' es x h1 h2;split at h
  ·rename_i e;subst e;injection h with h;exact⟨b,es,x,rfl,h1,h2,h⟩
  ·cases h
 ·cases h
theorem D0b {kk:KK} {H:Heap} {nx:Nat} {p0 p p1:PV} {q:PV×Heap×Nat} (h:hxM (.mset kk) H nx [p0,p,p1]=some q) :
  ∃b es k v,p0 = .mp b/\look H b=some (.map kk es)/\keyT kk p=some k/\p1 = .t (.v v)/\(.t (.v undef),upd H b (.map kk (setK es k v)),nx)=q:=by
 cases p0<;>first | (simp[hxM]at h;done) | skip
 rename_i b
 rcases p1 with x | _ | _ | _ | _ | _ | _ | _ | _<;>first | (simp[hxM]at h;done) | skip
 cases x<;>first | (simp[hxM]at h;done) | skip
 rename_i v;simp only[hxM]at h;split at h
 ·rename_i kk' es x h1 h2;split at h
  ·rename_i e;subst e;injection h with h;exact⟨b,es,x,v,rfl,h1,h2,rfl,h⟩
  ·cases h
 ·cases h
theorem F2c {t kt et:TypeId} {x:Operand} {b:Nat} {kk:KK} {es:List (Key×Value)} (ho:o.op = .call ⟨.builtin .len,#[x],#[t]⟩) (hu:P.underlying t=some (.map kt et)) (hx:s.ev G x = .mp b) (hl:look s.H b=some (.map kk es)) :
  AOp P G B o s (.t (.v (.int .i64 (es.length:Int)))) s.H s.nx:=by
 refine A3j fun L a w hi=>?_;have ex:=hi.ev x;rw[hx]at ex;simp only[RepV]at ex;obtain⟨hb,ex⟩:=ex;obtain⟨arr,clock,hh,h1,_⟩:=hi.heap.rep b _ hl
 have hs:arr.size=es.length:=by
  have:=congrArg List.length h1;simpa using this
 refine⟨.int .i64 (es.length:Int),?_,by simp only[RepV,RepT]⟩;simp[execOp,ho,resolve,invoke,builtin,ex,Builtin.len_,run_underlying hu,MapKept.run_getObj_map hh,goInt,hs]
theorem F6l {src dst e:TypeId} {x:Operand} {st:ByteArray} (ho:o.op = .convert src dst x) (hs:P.underlying src=some .string) (hd:P.underlying dst=some (.slice e)) (he:P.underlying e=some (.int .u8)) (hx:s.ev G x = .t (.v (.string st))) :
  AOp P G B o s (.t (.sl st.size (B7z st))) s.H s.nx:=fun L a w hi=>by
 have ex:=hi.ev x;rw[hx]at ex;simp only[RepV,RepT]at ex;have hrun:=run_bytes_of_string (P:=P) w src dst e st hs hd he;generalize hcap:grownCap w st.size 0 e=cap at hrun
 have hge:st.size<=cap:=by rw[<-hcap];exact grownCap_ge w _ _ _
 generalize hw':w.drew.alloc (.cells (bytesRow st cap) e ((bytesRow st cap).size,(bytesRow st cap).size+1))=w' at hrun
 have hheap:w'.heap=w.heap.push (.cells (bytesRow st cap) e ((bytesRow st cap).size,(bytesRow st cap).size+1)):=by rw[<-hw'];rfl
 have hout:A3v w w':=by rw[<-hw'];exact⟨rfl,rfl,rfl⟩
 have hm:=A8r (P:=P) (G:=G) (H:=s.H) hi.heap hheap;unfold Oper.wp
 have hrun':(execOp a.eval o).run P w = .ok (.value (.slice (some ⟨w.heap.size,0,none⟩) st.size cap)) w':=by
  simp only[execOp,ho,ex,Sem.run_bind,hrun,Result.andThen_ok];rfl
 rw[hrun',Oper.upon_value]
 have hold:∀g,g<w.heap.size->w'.heap[g]?=w.heap[g]?:=fun g hg=>by rw[hheap,Array.getElem?_push,if_neg (by omega)]
 let L':Loc:=⟨fun g=>L.I g\/g=w.heap.size,L.μ,L.nx⟩
 have hm':Mono L w L' w':=⟨fun b hb=>⟨.inl hb,hold b (hi.heap.lt b hb)⟩,Nat.le_refl _,fun _ _=>rfl,hm.size,hm.shape⟩
 refine⟨_,L',rfl,?_,?_,hi.nx,hm',?_⟩
 ·simp only[RepV,RepT];refine⟨_,cap,rfl,hge,.inr ⟨rfl,.inr rfl,RepC.mk fun k t hk=>?_⟩⟩;unfold B7z at hk;rw[List.getElem?_map]at hk;obtain⟨c,hc,rfl⟩:=Option.map_eq_some_iff.1 hk;refine⟨.int .u8 (c.toNat:Int),?_,rfl,by simp only[RepT]⟩
  have hn:w'.heap[w.heap.size]?=some (.cells (bytesRow st cap) e ((bytesRow st cap).size,(bytesRow st cap).size+1)):=by rw[hheap];simp
  have hc':st.data[k]?=some c:=by simpa using hc
  have:(bytesRow st cap)[k]?=some (.int .u8 (c.toNat:Int)):=by
   unfold bytesRow;rw[Array.getElem?_append_left (by simpa using (Array.getElem?_eq_some_iff.1 hc').1),Array.getElem?_map,hc'];rfl
  simp[World.cell?,hn,this]
 ·refine⟨?_,fun b r hb=>(hi.heap.rep b r hb).keep hm' (hold _ (hi.heap.rep b r hb).lt),fun b r hb hI=>?_,hi.heap.inj,hi.heap.nx,A2b hi.heap hm'.keeps⟩
  ·rintro b (hb | rfl)
   ·exact Nat.lt_of_lt_of_le (hi.heap.lt b hb) hm.size
   ·rw[hheap];simp
  ·rcases hI with hI | hI
   ·exact hi.heap.apart b r hb hI
   ·have:=(hi.heap.rep b r hb).lt;have e:L'.μ b=L.μ b:=rfl;omega
 ·refine⟨hm.size,fun g hg _=>hold g hg,fun _ h=>.inl h,fun g hg=>?_,fun g h=>.inr h,hm.shape,hout⟩;rcases hg with hg | rfl
  ·exact .inl hg
  ·exact .inr (.inl (Nat.le_refl _))
theorem E2b {t kt et:TypeId} {x:Operand} {b l:Nat} {arr:Array MapEntry} {c:Nat} (ho:o.op = .range t x) (hu:P.underlying t=some (.map kt et)) (hx:s.ev G x = .mp b) (hl:look s.H b=some (.blk (some l) (.map arr c))) :
  AOp P G B o s (.ptr s.nx 0) ((s.nx,.blk none (.mapIter (some l) c #[] c))::s.H) (s.nx+1):=by
 refine B4a fun L a w hi=>?_;have ex:=hi.ev x;rw[hx]at ex;simp only[RepV]at ex;obtain⟨hb,ex⟩:=ex;obtain⟨h1,h2⟩:=hi.heap.rep b _ hl;have h1:=h1 l rfl;rw[h1]at h2 ex;refine⟨.pointer (some ⟨w.heap.size,0,none⟩),w.alloc (.mapIter (some l) c #[] c),.mapIter (some l) c #[] c,by simp[execOp,ho,ex,run_range_map w t kt et l arr c hu h2],⟨rfl,rfl,rfl⟩,rfl,fun hm=>⟨⟨(fun _ h=>by cases h),(MapKept.heap_alloc w _).1⟩,?_⟩⟩;simp only[RepV];exact⟨by simp[Loc.grow,hi.nx],by simp[Loc.grow,hi.nx]⟩
theorem F6m {t t' e:TypeId} {x y:Operand} {b off k n by' ty m:Nat} {zc:List Value} {cs ps:List PV} (ho:o.op = .call ⟨.builtin .copy,#[x,y],#[t,t']⟩) (he:A3e P t=some (e,n,by',zc)) (hx:s.ev G x = .row b off k n)
  (hl:look s.H b=some (.cells ty cs)) (hs:srcP s.H n (s.ev G y)=some (m,ps)) (hpos:0<Nat.min m k) (hfit:off+k*n<=cs.length) (hpl:ps.length=m*n) :
  AOp P G B o s (.t (.v (.int .i64 (Nat.min m k:Nat)))) (upd s.H b (.cells ty (A2m cs off (ps.take (Nat.min m k*n))))) s.nx:=fun L a w hi=>by
 obtain⟨i,z,hu,hi',hz,rfl,rfl,rfl,hzl,hposz,hone⟩:=A5b he;have hv:=hi.ev x;rw[hx]at hv;simp only[RepV]at hv;obtain⟨hb,hm,c,hv,hc,hfit2⟩:=hv;obtain⟨arr,harr,hle,hcs⟩:=hi.heap.rep b _ hl;obtain⟨A,sc,xs,hyv,hxl,hxr,hx1,hnone,hcell⟩:=D7h hi.heap hs (hi.ev y)
 obtain⟨d,hd⟩:∃d,d=Nat.min m k:=⟨_,rfl⟩
 have hdk:d<=k:=by rw[hd];exact Nat.min_le_right _ _
 have hdm:d<=m:=by rw[hd];exact Nat.min_le_left _ _
 rw[<-hd]at hpos ⊢
 obtain⟨ad,rfl⟩:∃ad,A=some ad:=by
  cases A with
  | none=>have:=hnone rfl;omega
  | some ad=>exact⟨ad,rfl⟩
 have hcell:=hcell ad rfl
 obtain⟨vs,hvs⟩:∃vs,vs=xs.take (d*i.size):=⟨_,rfl⟩
 have hdi:d*i.size<=m*i.size:=Nat.mul_le_mul_right _ hdm;have hdk':d*i.size<=k*i.size:=Nat.mul_le_mul_right _ hdk
 have hvl:vs.length=d*i.size:=by rw[hvs,List.length_take,hxl];omega
 have h1:∀x∈vs,x.oneCell'=true:=fun x hx=>hx1 x (by rw[hvs]at hx;exact List.mem_of_mem_take hx)
 have hload:=run_loadCells_list (P:=P) w ad vs (fun j v hj=>by
  rw[hvs,List.getElem?_take]at hj;split at hj
  ·exact hcell j v hj
  ·cases hj)
 have hstore:=run_storeCells_at P (L.μ b) off ty vs 0 arr w harr (by omega) h1;simp only[Nat.add_zero]at hstore
 have hrep:A0y P L w (ps.take (d*i.size)) vs:=by
  rw[hvs]
  have:∀(r:Nat) (ps:List PV) (xs:List Value),A0y P L w ps xs->A0y P L w (ps.take r) (xs.take r):=by
   intro r
   induction r with
   | zero=>intro ps xs _;simp only[List.take_zero,A0y]
   | succ r ih=>
    intro ps xs h
    cases ps with
    | nil=>simp only[A0y]at h;subst h;simp only[List.take_nil,A0y]
    | cons p ps=>
     simp only[A0y]at h;obtain⟨x,xs',rfl,h1,h2⟩:=h;simp only[List.take_succ_cons,A0y];exact⟨x,_,rfl,h1,ih ps xs' h2⟩
  exact this _ _ _ hxr
 have hpt:(ps.take (d*i.size)).length=vs.length:=by rw[List.length_take,hpl,hvl];omega
 have hfit':off+(ps.take (d*i.size)).length<=cs.length:=by rw[hpt,hvl];omega
 have hrun:(execOp a.eval o).run P w = .ok (.value (.int .i64 (d:Nat))) (w.setRow (L.μ b) (arr.toList.take off++vs++arr.toList.drop (off+vs.length)).toArray):=by
  simp[execOp,ho,resolve,invoke,builtin,Builtin.copy_,run_underlying hu,hv,hyv,Builtin.lenOf,Builtin.firstCells,sizeOf,typeInfo,hi',<-hd,<-hvl,hload,hstore,goInt]
 unfold Oper.wp;rw[hrun,Oper.upon_value]
 have hw:=A4u (w':=w.setRow (L.μ b) (arr.toList.take off++vs++arr.toList.drop (off+vs.length)).toArray) (r:=.cells ty (A2m cs off (ps.take (d*i.size)))) hi.heap ⟨rfl,rfl,rfl⟩ hl (by simp)
  (fun g hg=>setRow_other w _ g _ hg) (A7b harr (by simp;omega))
  (fun hm=>⟨_,setRow_heap w _ arr _ ty _ harr,by rw[A5a hfit'];simp;omega,fun j c hj=>by
   obtain⟨z,hz,h1z,hr⟩:=B2b hle hfit' hcs hrep h1 j c hj
   exact⟨z,hz,h1z,RepV.keep hm c hr⟩⟩)
 exact⟨_,L,rfl,by simp[RepV,RepT],hw.1,hi.nx,hw.2.1,hw.2.2⟩
theorem E5u {t e:TypeId} {x i:Operand} {b len z:Nat} {agg:Bool} {k:IntKind} {j:Int} {ty:TypeId} {cs:List PV} (ho:o.op = .slice t x (some i) none none) (ha:P.underlying t=some (.array len e)) (hsh:A4g P e=some (agg,z))
  (hx:s.ev G x = .ptr b 0) (hj:s.ev G i = .t (.v (.int k j))) (hl:look s.H b=some (.cells ty cs)) (hcl:cs.length=len*z) (h0:0<=j) (h1:j<(len:Int)):AOp P G B o s (.row b (j.toNat*z) (len-j.toNat) z) s.H s.nx:=by
 refine A3j fun L a w hi=>?_;have ex:=hi.ev x;rw[hx]at ex;simp only[RepV]at ex;obtain⟨hb,ex⟩:=ex;have ei:=hi.ev i;rw[hj]at ei;simp only[RepV,RepT]at ei;obtain⟨arr,harr,hle,hcs⟩:=hi.heap.rep b _ hl
 obtain⟨n,hn⟩:∃n:Nat,j=(n:Int):=⟨j.toNat,by omega⟩
 subst hn
 have hnl:n<len:=by omega
 have hsz:=(A2l hsh w).2;refine⟨.slice (some ⟨L.μ b,n*z,none⟩) (len-n) (len-n),?_,?_⟩
 ·have hne:¬(len=n):=by omega
  have hadd:(⟨L.μ b,0,none⟩:Addr).add (n*z)=⟨L.μ b,n*z,none⟩:=by rw[C6o,Nat.zero_add]
  simp[execOp,ho,ex,ei,Instr.sliceAt,run_underlying ha,Instr.sliceBounds,Instr.sliceBound,asIntOf,Instr.sureAddr,asAddr,hsz,hne,hadd,Nat.le_of_lt hnl]
 ·simp only[RepV,Int.toNat_natCast];refine⟨hb,(Array.getElem?_eq_some_iff.1 harr).1,len-n,rfl,Nat.le_refl _,fun arr' ty' fz' he=>?_⟩;rw[harr]at he;injection he with he;injection he with he _;subst he
  have e1:n*z+(len-n)*z=len*z:=by rw[<-Nat.add_mul];congr 1;omega
  omega
theorem D4g {n:Nat} {H:Heap} {nx:Nat} {p0 p1:PV} {q:PV×Heap×Nat} (h:hxM (.cpy n) H nx [p0,p1]=some q) :
  ∃b o k ty cs m ps,p0 = .row b o k n/\look H b=some (.cells ty cs)/\srcP H n p1=some (m,ps)/\0<Nat.min m k/\o+k*n<=cs.length/\ps.length=m*n/\(.t (.v (.int .i64 (Nat.min m k:Nat))),upd H b (.cells ty (A2m cs o (ps.take (Nat.min m k*n)))),nx)=q:=by
 cases p0<;>first | (simp[hxM]at h;done) | skip
 rename_i b o k z;simp only[hxM]at h;split at h
 ·rename_i ty cs m ps hl hs;split at h
  ·rename_i hc;obtain⟨rfl,h1,h2,h3⟩:=hc;injection h with h;exact⟨b,o,k,ty,cs,m,ps,rfl,hl,hs,h1,h2,h3,h⟩
  ·cases h
 ·cases h
theorem C6r {len z:Nat} {H:Heap} {nx:Nat} {p0 p1:PV} {q:PV×Heap×Nat} (h:hxM (.slarr len z) H nx [p0,p1]=some q) :
  ∃b k i ty cs,p0 = .ptr b 0/\p1 = .t (.v (.int k i))/\look H b=some (.cells ty cs)/\cs.length=len*z/\0<=i/\i<(len:Int)/\(.row b (i.toNat*z) (len-i.toNat) z,H,nx)=q:=by
 cases p0<;>first | (simp[hxM]at h;done) | skip
 rename_i b o'
 rcases p1 with x | _ | _ | _ | _ | _ | _ | _ | _<;>first | (simp[hxM]at h;done) | skip
 cases x<;>first | (simp[hxM]at h;done) | skip
 rename_i v
 cases v<;>first | (simp[hxM]at h;done) | skip
 rename_i k i
 cases o'<;>first | (simp[hxM]at h;done) | skip
 simp only[hxM]at h;split at h
 ·rename_i ty cs hl;split at h
  ·rename_i hc;injection h with h;exact⟨b,k,i,ty,cs,rfl,rfl,hl,hc.1,hc.2.1,hc.2.2,h⟩
  ·cases h
 ·cases h
theorem D4h {H:Heap} {nx:Nat} {p:PV} {q:PV×Heap×Nat} (h:hxM .b2s H nx [p]=some q):∃cs l,hxM.toTS H p=some cs/\A7n cs=some l/\(.t (.v (.string ⟨l.toArray⟩)),H,nx)=q:=by
 simp only[hxM]at h;split at h
 ·rename_i cs hcs;obtain⟨l,hl,e⟩:=Option.map_eq_some_iff.1 h;exact⟨cs,l,hcs,hl,e⟩
 ·cases h
theorem D0c {H:Heap} {nx:Nat} {p0:PV} {q:PV×Heap×Nat} (h:hxM .mlen H nx [p0]=some q):∃b kk es,p0 = .mp b/\look H b=some (.map kk es)/\(.t (.v (.int .i64 (es.length:Int))),H,nx)=q:=by
 cases p0<;>first | (simp[hxM]at h;done) | skip
 rename_i b;simp only[hxM]at h;split at h
 ·rename_i kk es hl;injection h with h;exact⟨b,kk,es,rfl,hl,h⟩
 ·cases h
theorem D4i {H:Heap} {nx:Nat} {p0:PV} {q:PV×Heap×Nat} (h:hxM .s2b H nx [p0]=some q):∃st,p0 = .t (.v (.string st))/\(.t (.sl st.size (B7z st)),H,nx)=q:=by
 rcases p0 with x | _ | _ | _ | _ | _ | _ | _ | _<;>first | (simp[hxM]at h;done) | skip
 cases x<;>first | (simp[hxM]at h;done) | skip
 rename_i v
 cases v<;>first | (simp[hxM]at h;done) | skip
 rename_i st;simp only[hxM]at h;injection h with h;exact⟨st,rfl,h⟩
theorem C3n {H:Heap} {nx:Nat} {p0:PV} {q:PV×Heap×Nat} (h:hxM .mrange H nx [p0]=some q):∃b l arr c,p0 = .mp b/\look H b=some (.blk (some l) (.map arr c))/\(.ptr nx 0,(nx,.blk none (.mapIter (some l) c #[] c))::H,nx+1)=q:=by
 cases p0<;>first | (simp[hxM]at h;done) | skip
 rename_i b;simp only[hxM]at h;split at h
 ·rename_i l arr c hl;injection h with h;exact⟨b,l,arr,c,rfl,hl,h⟩
 ·cases h
theorem F6n {k:MK} {xs:List Opd} (hc:extK P G o.op=some (k,xs)) {r:PV} {H':Heap} {nx':Nat}
  (he:match k with
   | .ex e=>∃p,exM e (xs.map (·.ev s.env))=some p/\(r,H',nx')=(p,s.H,s.nx)
   | .hx h=>hxM h s.H s.nx (xs.map (·.ev s.env))=some (r,H',nx')
   | _=>False):AOp P G B o s r H' nx':=by
 have ev1:=fun x=>A5q G s x;unfold extK at hc;split at hc
 ·rename_i t x y yt ho;obtain⟨ks,hk,e⟩:=Option.map_eq_some_iff.1 hc;injection e with e1 e2;subst e1;subst e2;simp only[List.map_cons,List.map_nil,ev1]at he;obtain⟨p,hp,e⟩:=he;injection e with e1 e2;injection e2 with e2 e3;subst e1;subst e2;subst e3;exact E5p (neg:=false) (by simpa using ho) hk hp
 ·rename_i t x y yt ho;obtain⟨ks,hk,e⟩:=Option.map_eq_some_iff.1 hc;injection e with e1 e2;subst e1;subst e2;simp only[List.map_cons,List.map_nil,ev1]at he;obtain⟨p,hp,e⟩:=he;injection e with e1 e2;injection e2 with e2 e3;subst e1;subst e2;subst e3;exact E5p (neg:=true) (by simpa using ho) hk hp
 ·rename_i t x ho;split at hc
  ·rename_i hu;injection hc with hc;injection hc with e1 e2;subst e1;subst e2;simp only[List.map_cons,List.map_nil,ev1]at he;generalize hp:s.ev G x=p at he;unfold hxM at he;split at he
   all_goals (first | (rename_i e _;cases e;done) | (rename_i e;cases e;done) | skip)
   ·rename_i st e1 e2;injection e2 with e2 e3;injection he with he;injection he with h1 h2;injection h2 with h2 h3;subst h1;subst h2;subst h3;exact E5q ho hu (hp.trans e2)
   ·cases he
  ·rename_i kt et hu;injection hc with hc;injection hc with e1 e2;subst e1;subst e2;simp only[List.map_cons,List.map_nil,ev1]at he;obtain⟨b,l,arr,c,e1,e2,e4⟩:=C3n he;injection e4 with h1 h2;injection h2 with h2 h3;subst h1;subst h2;subst h3;exact E2b ho hu e1 e2
  ·cases hc
 ·rename_i x ho;injection hc with hc;injection hc with e1 e2;subst e1;subst e2;simp only[List.map_cons,List.map_nil,ev1]at he;generalize hp:s.ev G x=p at he;unfold hxM at he;split at he
  all_goals (first | (rename_i e _;cases e;done) | (rename_i e;cases e;done) | skip)
  ·rename_i b e1 e2;injection e2 with e2 e3;split at he
   ·rename_i st pos hl;split at he
    ·rename_i hlt;injection he with he;injection he with h1 h2;injection h2 with h2 h3;subst h1;subst h2;subst h3;exact F1x ho (hp.trans e2) hl hlt
    ·rename_i hlt;injection he with he;injection he with h1 h2;injection h2 with h2 h3;subst h1;subst h2;subst h3;exact F1y ho (hp.trans e2) hl hlt
   ·cases he
  ·cases he
 ·injection hc with hc;injection hc with e1 e2;subst e1;subst e2;simp[hxM]at he
 ·injection hc with hc;injection hc with e1 e2;subst e1;subst e2;simp[hxM]at he
 ·rename_i src dst x ho;split at hc
  ·rename_i e hs hd;split at hc
   ·rename_i he';injection hc with hc;injection hc with e1 e2;subst e1;subst e2;simp only[List.map_cons,List.map_nil,ev1]at he;obtain⟨cs,l,hcs,hl,e4⟩:=D4h he;injection e4 with h1 h2;injection h2 with h2 h3;subst h1;subst h2;subst h3;exact F6e ho hs hd he' hcs hl
   ·cases hc
  ·rename_i e hs hd;split at hc
   ·rename_i he';injection hc with hc;injection hc with e1 e2;subst e1;subst e2;simp only[List.map_cons,List.map_nil,ev1]at he;obtain⟨st,e1,e4⟩:=D4i he;injection e4 with h1 h2;injection h2 with h2 h3;subst h1;subst h2;subst h3;exact F6l ho hs hd he' e1
   ·cases hc
  ·cases hc
 ·rename_i t x ho;split at hc
  ·cases hc
  ·rename_i d hne hu;injection hc with hc;injection hc with e1 e2;subst e1;subst e2;simp only[List.map_cons,List.map_nil,ev1]at he;obtain⟨p,hp,e⟩:=he;injection e with e1 e2;injection e2 with e2 e3;subst e1;subst e2;subst e3;exact F6f ho hu hne hp
  ·cases hc
 ·rename_i f first cap ho
  injection hc with hc;injection hc with e1 e2;subst e1;subst e2;obtain⟨p,hp,e⟩:=he;injection e with e1 e2;injection e2 with e2 e3;subst e1;subst e2;subst e3;exact F6g ho hp
 ·injection hc with hc;injection hc with e1 e2;subst e1;subst e2;simp only[List.map_cons,List.map_nil]at he;unfold hxM at he;split at he
  all_goals (first | (rename_i e _;cases e;done) | (rename_i e;cases e;done) | (cases he;done) | skip)
 ·rename_i x t ho;obtain⟨⟨e,n,by',zc⟩,hk,e0⟩:=Option.map_eq_some_iff.1 hc;injection e0 with e1 e2;subst e1;subst e2;simp only[List.map_cons,List.map_nil,ev1]at he;obtain⟨b,off,k,ty,cs,e1,e2,e3,e5,e4⟩:=D4f he;injection e4 with h1 h2;injection h2 with h2 h3;subst h1;subst h2;subst h3;exact F6k ho hk e1 e2 e3 e5
 ·rename_i x t ho;split at hc
  ·rename_i kt et hu;injection hc with hc;injection hc with e1 e2;subst e1;subst e2;simp only[List.map_cons,List.map_nil,ev1]at he;obtain⟨b,kk,es,e1,e2,e4⟩:=D0c he;injection e4 with h1 h2;injection h2 with h2 h3;subst h1;subst h2;subst h3;exact F2c ho hu e1 e2
  ·cases hc
 ·rename_i x y t t' ho;obtain⟨⟨e,n,by',zc⟩,hk,e0⟩:=Option.map_eq_some_iff.1 hc;injection e0 with e1 e2;subst e1;subst e2;simp only[List.map_cons,List.map_nil,ev1]at he;obtain⟨b,o',k,ty,cs,m,ps,e1,e2,e3,e4,e5,e6,e7⟩:=D4g he;injection e7 with h1 h2;injection h2 with h2 h3;subst h1;subst h2;subst h3;exact F6m ho hk e1 e2 e3 e4 e5 e6
 ·rename_i t x i ho;split at hc
  ·rename_i len el ha;obtain⟨⟨agg,z⟩,hs,e0⟩:=Option.map_eq_some_iff.1 hc;injection e0 with e1 e2;subst e1;subst e2;simp only[List.map_cons,List.map_nil,ev1]at he;obtain⟨b,k,j,ty,cs,e1,e2,e3,e4,e5,e6,e7⟩:=C6r he;injection e7 with h1 h2;injection h2 with h2 h3;subst h1;subst h2;subst h3;exact E5u ho ha hs e1 e2 e3 e4 e5 e6
  ·cases hc
 ·rename_i t ho;obtain⟨kk,hk,e⟩:=Option.map_eq_some_iff.1 hc;injection e with e1 e2;subst e1;subst e2;injection he with he;injection he with h1 h2;injection h2 with h2 h3;subst h1;subst h2;subst h3;exact F1z ho
 ·rename_i t x y ok ho;obtain⟨⟨kk,z⟩,hk,e⟩:=Option.map_eq_some_iff.1 hc;injection e with e1 e2;subst e1;subst e2;simp only[List.map_cons,List.map_nil,ev1]at he;obtain⟨b,es,q,e1,e2,e3,e4⟩:=D0a he;injection e4 with h1 h2;injection h2 with h2 h3;subst h1;subst h2;subst h3;exact F2a ho hk e1 e2 e3
 ·rename_i t x y z ho;obtain⟨kk,hk,e⟩:=Option.map_eq_some_iff.1 hc;injection e with e1 e2;subst e1;subst e2;simp only[List.map_cons,List.map_nil,ev1]at he;obtain⟨b,es,q,v,e1,e2,e3,e5,e4⟩:=D0b he;injection e4 with h1 h2;injection h2 with h2 h3;subst h1;subst h2;subst h3;exact F2b ho hk e1 e2 e3 e5
 ·rename_i t x i ho;split at hc
  ·rename_i len el hu;obtain⟨⟨agg,n⟩,hs,e⟩:=Option.map_eq_some_iff.1 hc;injection e with e1 e2;subst e1;subst e2;simp only[List.map_cons,List.map_nil,ev1]at he;obtain⟨p,hp,e⟩:=he;injection e with e1 e2;injection e2 with e2 e3;subst e1;subst e2;subst e3;exact F6d ho hu hs hp
  ·cases hc
 ·cases hc
end
def A0t (agg:Bool) (n:Nat) (H:Heap) (p:PV):Option PV:=
 match p with
 | .t (.pt cs)=>if agg then(if n<=cs.length then some (.t (.ag (cs.take n)))else none)else(cs.head?).map .t
 | .ptr b o=>match look H b with
  | some (.cells _ cs)=>if agg then(if o+n<=cs.length then some (agOf ((cs.drop o).take n))else none)else cs[o]?
  | _=>none
 | _=>none
theorem D7s {P:Program} {t:TypeId} {agg:Bool} {n:Nat} (h:A4g P t=some (agg,n)) (H:Heap) (p:PV):D3y P H t p=A0t agg n H p:=by
 unfold D3y A0t;rw[h]
 cases agg<;>cases p<;>try rfl
 all_goals (rename_i x;cases x<;>rfl)
def A2e (z:Nat) (x i:PV):Option PV:=
 match i with
 | .t (.v (.int _ i))=>match x with
  | .t (.sl n cs)=>if 0<=i/\i<n then some (.t (.pt (cs.drop (i.toNat*z))))else none
  | .row b o n _=>if 0<=i/\i<n then some (.ptr b (o+i.toNat*z))else none
  | _=>none
 | _=>none
def B3i (n z:Nat) (x i:PV):Option PV:=
 match i with
 | .t (.v (.int _ i))=>match x with
  | .t (.pt cs)=>if 0<=i/\i<n then some (.t (.pt (cs.drop (i.toNat*z))))else none
  | .ptr b o=>if 0<=i/\i<n then some (.ptr b (o+i.toNat*z))else none
  | _=>none
 | _=>none
theorem E2c {P:Program} {t e:TypeId} {z:Nat} (h:A5o P t=some (e,z)) {x i r:PV} (hr:A2e z x i=some r):A3w P t x i=some r:=by
 unfold A2e at hr;split at hr
 ·split at hr
  ·simp only[A3w,h];exact hr
  ·simp only[A3w,h];exact hr
  ·cases hr
 ·cases hr
theorem E2d {P:Program} {t:TypeId} {n z:Nat} (h:E1o P t=some (n,z)) {x i r:PV} (hr:B3i n z x i=some r):A3w P t x i=some r:=by
 unfold B3i at hr;split at hr
 ·split at hr
  ·simp only[A3w,h];exact hr
  ·simp only[A3w,h];exact hr
  ·cases hr
 ·cases hr
@[simp] def faddrM (off:Nat) (x:PV):Option PV:=
 match x with
 | .t (.pt cs)=>some (.t (.pt (cs.drop off)))
 | .ptr b o=>some (.ptr b (o+off))
 | _=>none
theorem E5v {P:Program} {t:TypeId} {f off n:Nat} {b:Bool} (h:A7m P t f=some (off,b,n)) (x:PV):A8q P t x f=faddrM off x:=by
 unfold A8q faddrM;rw[h]
 cases x<;>try rfl
 rename_i x;cases x<;>rfl
def D7t (off:Nat) (agg:Bool) (n:Nat) (x:PV):Option PV:=
 match x with
 | .t (.ag cs)=>if agg then(if off+n<=cs.length then some (.t (.ag ((cs.drop off).take n)))else none)else(cs[off]?).map .t
 | .ag cs=>if agg then(if off+n<=cs.length then some (agOf ((cs.drop off).take n))else none)else cs[off]?
 | _=>none
theorem E5w {P:Program} {t:TypeId} {f off n:Nat} {b:Bool} (h:A7m P t f=some (off,b,n)) (x:PV):C9l P t x f=D7t off b n x:=by
 unfold C9l D7t;rw[h]
 cases b<;>cases x<;>try rfl
 all_goals (rename_i x;cases x<;>rfl)
def B8c (x i:PV):Option PV:=
 match x,i with
 | .t (.v (.string s)),.t (.v (.int _ i))=>if 0<=i then(s[i.toNat]?).map fun b=>.t (.v (.int .u8 b.toNat))else none
 | _,_=>none
theorem E2e {P:Program} {t:TypeId} (h:P.underlying t=some .string) {x i r:PV} (hr:B8c x i=some r):C9m P t x i=some r:=by
 unfold B8c at hr;split at hr
 ·simp only[C9m,h];exact hr
 ·cases hr
def B0h (x:PV) (lo hi:Option PV):Option PV:=
 match x with
 | .t (.v (.string s))=>match boundV lo 0,boundV hi s.size with
  | some l,some h=>if l<=h/\h<=s.size then some (.t (.v (.string (s.extract l h))))else none
  | _,_=>none
 | _=>none
theorem E2f {P:Program} {t:TypeId} (h:P.underlying t=some .string) {x r:PV} {lo hi:Option PV} (hr:B0h x lo hi=some r):B4r P t x lo hi=some r:=by
 unfold B0h at hr;split at hr
 ·simp only[B4r,h];exact hr
 ·cases hr
def A8b (z:Nat) (x:PV) (lo hi:Option PV):Option PV:=
 match x with
 | .t (.v (.slice none n c))=>match boundV lo 0,boundV hi n with
  | some l,some h=>if l=0/\h=0/\n=0/\c=0 then some (.t (.v (.slice none 0 0)))else none
  | _,_=>none
 | .t (.sl n cs)=>match boundV lo 0,boundV hi n with
  | some l,some h=>if l<=h/\h<=n then some (.t (.sl (h-l) ((cs.drop (l*z)).take ((h-l)*z))))else none
  | _,_=>none
 | .row b o n z'=>match boundV lo 0,boundV hi n with
  | some l,some h=>if z≠z' then none else if l<h/\h<=n then some (.row b (o+l*z') (h-l) z')else if l=0/\h=0 then some (.row b o 0 z')else if l=h/\h<=n then some (.t (.sl 0 []))else none
  | _,_=>none
 | _=>none
theorem E2g {P:Program} {t e:TypeId} {z:Nat} (h:A5o P t=some (e,z)) {x r:PV} {lo hi:Option PV} (hr:A8b z x lo hi=some r):B4r P t x lo hi=some r:=by
 have hu:P.underlying t=some (.slice e):=by
  unfold A5o at h;split at h
  ·rename_i e' hu
   cases hi:P.info? e' with
   | none=>rw[hi]at h;cases h
   | some i=>rw[hi]at h;injection h with h;injection h with h1 h2;subst h1;exact hu
  ·cases h
 unfold A8b at hr;split at hr
 ·split at hr
  ·rename_i el eh;simp only[B4r,hu,h,el,eh];exact hr
  ·cases hr
 ·split at hr
  ·rename_i el eh;simp only[B4r,hu,h,el,eh];exact hr
  ·cases hr
 ·split at hr
  ·rename_i el eh;simp only[B4r,hu,h,el,eh];exact hr
  ·cases hr
 ·cases hr
@[simp] def lenstrM:PV->Option PV
 | .t (.v (.string s))=>some (.t (.v (.int .i64 s.size)))
 | _=>none
def A6t:PV->Option PV
 | .t (.v (.slice _ n _))=>some (.t (.v (.int .i64 n)))
 | .t (.sl n _)=>some (.t (.v (.int .i64 n)))
 | .row _ _ n _=>some (.t (.v (.int .i64 n)))
 | _=>none
@[simp] def convM (k:Option IntKind):PV->Option PV
 | .t (.v (.int _ n))=>match k with
  | some k=>some (.t (.v (.int k (k.wrap n))))
  | none=>none
 | .t (.v (.string s))=>match k with
  | none=>some (.t (.v (.string s)))
  | _=>none
 | _=>none
@[simp] def chkM:PV->Option PV
 | .ptr b o=>some (.ptr b o)
 | .t (.pt cs)=>some (.t (.pt cs))
 | .fn (.func f) first cap=>some (.fn (.func f) first cap)
 | .t (.v (.func (.func f) x y))=>some (.t (.v (.func (.func f) x y)))
 | _=>none
def A0x (n:Nat) (H:Heap) (p x:PV):Option Heap:=
 match p with
 | .ptr b o=>match A1g x with
  | some ps=>match look H b with
   | some (.cells ty cs)=>if ps.length=n/\o+ps.length<=cs.length then some (upd H b (.cells ty (A2m cs o ps)))else none
   | _=>none
  | none=>none
 | _=>none
theorem E2h {P:Program} {t:TypeId} {b:Bool} {n:Nat} (h:A4g P t=some (b,n)) {H H':Heap} {p x:PV} (hr:A0x n H p x=some H'):C4d P H t p x=some H':=by
 unfold A0x at hr;split at hr
 ·split at hr
  ·rename_i hps;simp only[C4d,h,hps];exact hr
  ·cases hr
 ·cases hr
def D4j (e n by':Nat) (zc:List Value) (l c:PV) (nx:Nat):Option (PV×Row):=
 match l,c with
 | .t (.v (.int _ l)),.t (.v (.int _ c))=>if 0<=l/\l<=c/\c<=9223372036854775807/\(by':Int)*c<=281474976710656 then some (.row nx 0 l.toNat n,.cells e (C3k zc l.toNat))else none
 | _,_=>none
theorem E5x {P:Program} {t e n by':Nat} {zc:List Value} (h:A3e P t=some (e,n,by',zc)) {l c:PV} {nx:Nat} {q:PV×Row} (hr:D4j e n by' zc l c nx=some q):E1w P t l c nx=some q:=by
 unfold D4j at hr;split at hr
 ·simp only[E1w,h];exact hr
 ·cases hr
def A1v (e n:Nat) (zc:List Value) (len:Nat) (parts:List (Nat×PV)) (nx:Nat):Option (PV×Row):=
 if len*n<=16777216 then(B0w (fun i=>some (i*n,n)) (C3k zc len) parts).map fun cs=>(.row nx 0 len n,.cells e cs)else none
def appM (e z by':Nat) (H:Heap) (nx:Nat) (d x:PV):Option (PV×Heap×Nat):=
 match srcP H z x with
 | some (m,ps)=>match d with
  | .t (.v (.slice none n c))=>if n=0/\c=0 then
    (if m=0 then some (.t (.v (.slice none n c)),H,nx)else if m*by'<=140737488355328/\m<=9223372036854775807 then some (.row nx 0 m z,(nx,.cells e ps)::H,nx+1)else none)else none
  | .row b o n z'=>match look H b with
   | some (.cells ty cs)=>
    if z'=z/\o=0/\ty=e/\cs.length=n*z/\(n+m)*by'<=140737488355328/\n+m<=9223372036854775807 then some (.row nx 0 (n+m) z,(nx,.cells e (cs++ps))::rem H b,nx+1)else none
   | _=>none
  | _=>none
 | none=>none
theorem F2d {P:Program} {t e z by':Nat} {zc:List Value} (h:A3e P t=some (e,z,by',zc)) {H:Heap} {nx:Nat} {d x:PV} {q:PV×Heap×Nat} (hr:appM e z by' H nx d x=some q):B6o P H nx t d x=some q:=by
 unfold appM at hr;split at hr
 ·rename_i m ps hs;split at hr
  ·simp only[B6o,h,hs];exact hr
  ·simp only[B6o,h,hs];exact hr
  ·cases hr
 ·cases hr
def A5c (e n:Nat) (zc:List Value) (len:Nat) (parts:List (Nat×PV)):Option PV:=
 match A1v e n zc len parts 0 with
 | some (_,.cells _ cs)=>match allT cs with
  | some ts=>if ts.length=len*n then some (.t (.sl len ts))else none
  | none=>none
 | _=>none
def A0i (Φ:A0u) (H:Heap) (nx:Nat) (k:MK) (ps:List PV):Option (PV×Heap×Nat):=
 match k,ps with
 | .mv,[x]=>some (x,H,nx)
 | .pick,[c,a,b]=>match c with
  | .t (.v (.bool t))=>some (bif t then a else b,H,nx)
  | _=>none
 | .bin isB op nk,[x,y]=>match x,y with
  | .t (.v a),.t (.v b)=>match binM isB op a b with
   | some v=>some (.t (.v v),H,nx)
   | none=>(cmpM op nk (.t (.v a))).map fun r=>(r,H,nx)
  | x,_=>(cmpM op nk x).map fun r=>(r,H,nx)
 | .un op,[x]=>match x with
  | .t (.v a)=>(unV op a).map fun v=>(.t (.v v),H,nx)
  | _=>none
 | .conv k,[x]=>(convM k x).map fun r=>(r,H,nx)
 | .load agg n,[p]=>(A0t agg n H p).map fun r=>(r,H,nx)
 | .faddr off,[x]=>(faddrM off x).map fun r=>(r,H,nx)
 | .field off agg n,[x]=>(D7t off agg n x).map fun r=>(r,H,nx)
 | .iaddr z,[x,i]=>(A2e z x i).map fun r=>(r,H,nx)
 | .aaddr n z,[x,i]=>(B3i n z x i).map fun r=>(r,H,nx)
 | .index,[x,i]=>(B8c x i).map fun r=>(r,H,nx)
 | .slstr false false,[x]=>(B0h x none none).map fun r=>(r,H,nx)
 | .slstr true false,[x,l]=>(B0h x (some l) none).map fun r=>(r,H,nx)
 | .slstr false true,[x,h]=>(B0h x none (some h)).map fun r=>(r,H,nx)
 | .slstr true true,[x,l,h]=>(B0h x (some l) (some h)).map fun r=>(r,H,nx)
 | .slice z false false,[x]=>(A8b z x none none).map fun r=>(r,H,nx)
 | .slice z true false,[x,l]=>(A8b z x (some l) none).map fun r=>(r,H,nx)
 | .slice z false true,[x,h]=>(A8b z x none (some h)).map fun r=>(r,H,nx)
 | .slice z true true,[x,l,h]=>(A8b z x (some l) (some h)).map fun r=>(r,H,nx)
 | .ext i,[x]=>(extractV x i).map fun r=>(r,H,nx)
 | .chk,[x]=>(chkM x).map fun r=>(r,H,nx)
 | .lenstr,[x]=>(lenstrM x).map fun r=>(r,H,nx)
 | .lensl,[x]=>(A6t x).map fun r=>(r,H,nx)
 | .min,[x,y]=>(minV x y).map fun r=>(r,H,nx)
 | .max,[x,y]=>(maxV x y).map fun r=>(r,H,nx)
 | .store n,[p,x]=>(A0x n H p x).map fun H'=>(.t (.v undef),H',nx)
 | .make e n by' zc,[l,c]=>(D4j e n by' zc l c nx).map fun q=>(q.1,(nx,q.2)::H,nx+1)
 | .bslice e n zc len idx,ps=>(A1v e n zc len (idx.zip ps) nx).map fun q=>(q.1,(nx,q.2)::H,nx+1)
 | .build places zc idx,ps=>(B0w (fun k=>places[k]?) (zc.map fun x=>.t (.v x)) (idx.zip ps)).map fun cs=>(agOf cs,H,nx)
 | .barr n zc idx,ps=>(B0w (fun k=>some (k*n,n)) (zc.map fun x=>.t (.v x)) (idx.zip ps)).map fun cs=>(agOf cs,H,nx)
 | .box t,[x]=>(A1g x).map fun ps=>(.ptr nx 0,(nx,.cells t ps)::H,nx+1)
 | .alloc t zc,[]=>some (.ptr nx 0,(nx,.cells t (zc.map fun x=>.t (.v x)))::H,nx+1)
 | .app e z by',[d,x]=>appM e z by' H nx d x
 | .call f,ps=>match toTs H ps with
  | some (targs,F)=>match Φ f targs with
   | some r=>some (.t r,if F.isEmpty then H else if A3s r then H else remAll H F,nx)
   | none=>none
  | none=>none
 | .hcall f,ps=>Φ.h f ps H nx
 | .tslice e n zc len idx,ps=>(A5c e n zc len (idx.zip ps)).map fun r=>(r,H,nx)
 | .callv,fv::ps=>D7k Φ H nx fv ps
 | .ex e,ps=>(exM e ps).map fun r=>(r,H,nx)
 | .hx h,ps=>hxM h H nx ps
 | _,_=>none
def D0d (P:Program) (G:A1c) (o:Op):Option (MK×List Opd):=
 match o with
 | .move x=>some (.mv,[A0m G x])
 | .assign x=>some (.mv,[A0m G x])
 | .pick c a b=>some (.pick,[A0m G c,A0m G a,A0m G b])
 | .binOp op t x y _=>some (.bin (D4b P t) op (nkOf P t y),[A0m G x,A0m G y])
 | .unOp op _ x=>some (.un op,[A0m G x])
 | .convert src dst x=>match P.underlying src,P.underlying dst with
  | some _,some (.int k)=>some (.conv (some k),[A0m G x])
  | some _,some .string=>some (.conv none,[A0m G x])
  | _,_=>none
 | .load t a=>(A4g P t).map fun q=>(.load q.1 q.2,[A0m G a])
 | .fieldAddr t x f=>(A7m P t f).map fun q=>(.faddr q.1,[A0m G x])
 | .field t x f=>(A7m P t f).map fun q=>(.field q.1 q.2.1 q.2.2,[A0m G x])
 | .indexAddr t x i=>match A5o P t with
  | some (_,z)=>some (.iaddr z,[A0m G x,A0m G i])
  | none=>(E1o P t).map fun q=>(.aaddr q.1 q.2,[A0m G x,A0m G i])
 | .index t x i=>match P.underlying t with
  | some .string=>some (.index,[A0m G x,A0m G i])
  | _=>none
 | .slice t x lo hi none=>match P.underlying t with
  | some .string=>some (.slstr lo.isSome hi.isSome,A0m G x::((lo.map (A0m G)).toList++(hi.map (A0m G)).toList))
  | _=>match A5o P t with
   | some (_,z)=>some (.slice z lo.isSome hi.isSome,A0m G x::((lo.map (A0m G)).toList++(hi.map (A0m G)).toList))
   | none=>none
 | .extract x i=>some (.ext i,[A0m G x])
 | .nilCheck x=>some (.chk,[A0m G x])
 | .store t a x=>(A4g P t).map fun q=>(.store q.2,[A0m G a,A0m G x])
 | .makeSlice t l c=>(A3e P t).map fun q=>(.make q.1 q.2.1 q.2.2.1 q.2.2.2,[A0m G l,A0m G c])
 | .buildSlice t len parts=>(A3e P t).map fun q=>(.bslice q.1 q.2.1 q.2.2.2 len (parts.toList.map (·.1)),parts.toList.map fun p=>A0m G p.2)
 | .build t parts=>match P.underlying t,A2n P t with
  | some (.array _ e),some zc=>(P.info? e).map fun i=>(.barr i.size zc (parts.toList.map (·.1)),parts.toList.map fun p=>A0m G p.2)
  | some (.struct fields),some zc=>(fields.toList.mapM (fun f=>(P.info? f.type).map fun i=>(f.offset,i.size))).map fun places=>(.build places zc (parts.toList.map (·.1)),parts.toList.map fun p=>A0m G p.2)
  | _,_=>none
 | .box t x=>some (.box t,[A0m G x])
 | .alloc t=>(A2n P t).map fun zc=>(.alloc t zc,[])
 | .call ⟨.builtin .append,⟨[x,y]⟩,⟨[t,t']⟩⟩=>if t=t' then(A3e P t).map fun q=>(.app q.1 q.2.1 q.2.2.1,[A0m G x,A0m G y])else none
 | .call ⟨.builtin .len,⟨[x]⟩,⟨[t]⟩⟩=>match P.underlying t with
  | some .string=>some (.lenstr,[A0m G x])
  | some (.slice _)=>some (.lensl,[A0m G x])
  | _=>none
 | .call ⟨.builtin .min,⟨[x,y]⟩,_⟩=>some (.min,[A0m G x,A0m G y])
 | .call ⟨.builtin .max,⟨[x,y]⟩,_⟩=>some (.max,[A0m G x,A0m G y])
 | .call ⟨.value (.func f),args,ts⟩=>if ts.toList.any (refT P)||hot.contains f then some (.hcall f,args.toList.map (A0m G))else some (.call f,args.toList.map (A0m G))
 | .call ⟨.value x,args,_⟩=>some (.callv,A0m G x::args.toList.map (A0m G))
 | _=>some (.bad,[])
theorem B4x (G:A1c) (s:A0c) (parts:List (Nat×Operand)):(parts.map (·.1)).zip ((parts.map fun p=>A0m G p.2).map (·.ev s.env))=parts.map fun p=>(p.1,s.ev G p.2):=by
 induction parts with
 | nil=>rfl
 | cons p r ih=>simp only[List.map_cons,List.zip_cons_cons,ih,A5q]
theorem A0w {α β:Type} {x:Option α} {f:α->β} {y:β} (h:x.map f=some y):∃a,x=some a/\f a=y:=by
 cases x with
 | none=>cases h
 | some a=>exact⟨a,rfl,by simpa using h⟩
theorem D0e {P:Program} {G:A1c} {Φ:A0u} {s:A0c} {o:Op} {k:MK} {xs:List Opd} {q:PV×Heap×Nat} (hc:D0d P G o=some (k,xs))
  (he:A0i Φ s.H s.nx k (xs.map (·.ev s.env))=some q):valV P G Φ s o=some q:=by
 have ev1:=fun x=>A5q G s x;unfold D0d at hc;split at hc
 ·rename_i x;injection hc with hc;injection hc with h1 h2;subst h1;subst h2;simp only[List.map_cons,List.map_nil,A0i,ev1]at he;simpa[valV,opV,A3k]using he
 ·rename_i x;injection hc with hc;injection hc with h1 h2;subst h1;subst h2;simp only[List.map_cons,List.map_nil,A0i,ev1]at he;simpa[valV,opV,A3k]using he
 ·rename_i c a b;injection hc with hc;injection hc with h1 h2;subst h1;subst h2;simp only[List.map_cons,List.map_nil,A0i,ev1]at he;simp only[valV,opV,A3k];split at he
  ·rename_i t ht;rw[ht];simpa using he
  ·cases he
 ·rename_i op t x y yt;injection hc with hc;injection hc with h1 h2;subst h1;subst h2;simp only[List.map_cons,List.map_nil,A0i,ev1]at he;simp only[valV,opV,A3k];split at he
  ·rename_i a b ha hb;rw[ha,hb];simp only[F6b];split at he
   ·rename_i v hv;rw[hv];simpa using he
   ·rename_i hv;rw[hv];obtain⟨r,hr,rfl⟩:=A0w he;simp[D7l P op t _ y hr]
  ·rename_i hne;obtain⟨r,hr,rfl⟩:=A0w he;have hcm:=D7l P op t _ y hr;split
   ·rename_i a b ha hb;exact absurd hb (hne a b ha)
   ·simp[hcm]
 ·rename_i op t x;injection hc with hc;injection hc with h1 h2;subst h1;subst h2;simp only[List.map_cons,List.map_nil,A0i,ev1]at he;simp only[valV,opV,A3k];split at he
  ·rename_i a ha;rw[ha];obtain⟨v,hv,rfl⟩:=A0w he;simp only[hv,Option.map_some,Option.some.injEq]
  ·cases he
 ·rename_i src dst x;simp only[valV,opV,A3k];split at hc
  ·rename_i d k' hs hd;injection hc with hc;injection hc with h1 h2;subst h1;subst h2;simp only[List.map_cons,List.map_nil,A0i,ev1]at he;obtain⟨r,hr,rfl⟩:=A0w he;unfold convM at hr;split at hr
   ·rename_i n hx;rw[hx];simp only[E1n,hs,hd];simpa using hr
   ·simp at hr
   ·cases hr
  ·rename_i d hs hd;injection hc with hc;injection hc with h1 h2;subst h1;subst h2;simp only[List.map_cons,List.map_nil,A0i,ev1]at he;obtain⟨r,hr,rfl⟩:=A0w he;unfold convM at hr;split at hr
   ·simp at hr
   ·rename_i n hx;rw[hx];simp only[E1n,hs,hd];simpa using hr
   ·cases hr
  ·cases hc
 ·rename_i t a;obtain⟨⟨b,n⟩,hq,h⟩:=A0w hc;injection h with h1 h2;subst h1;subst h2;simp only[List.map_cons,List.map_nil,A0i,ev1]at he;simpa[valV,opV,A3k,D7s hq]using he
 ·rename_i t x f;obtain⟨⟨off,b,n⟩,hq,h⟩:=A0w hc;injection h with h1 h2;subst h1;subst h2;simp only[List.map_cons,List.map_nil,A0i,ev1]at he;simpa[valV,opV,A3k,E5v hq]using he
 ·rename_i t x f;obtain⟨⟨off,b,n⟩,hq,h⟩:=A0w hc;injection h with h1 h2;subst h1;subst h2;simp only[List.map_cons,List.map_nil,A0i,ev1]at he;simpa[valV,opV,A3k,E5w hq]using he
 ·rename_i t x i;split at hc
  ·rename_i e z hz;injection hc with hc;injection hc with h1 h2;subst h1;subst h2;simp only[List.map_cons,List.map_nil,A0i,ev1]at he;obtain⟨r,hr,rfl⟩:=A0w he;simp[valV,opV,A3k,E2c hz hr]
  ·obtain⟨⟨n,z⟩,hq,h⟩:=A0w hc;injection h with h1 h2;subst h1;subst h2;simp only[List.map_cons,List.map_nil,A0i,ev1]at he;obtain⟨r,hr,rfl⟩:=A0w he;simp[valV,opV,A3k,E2d hq hr]
 ·rename_i t x i;split at hc
  ·rename_i hu;injection hc with hc;injection hc with h1 h2;subst h1;subst h2;simp only[List.map_cons,List.map_nil,A0i,ev1]at he;obtain⟨r,hr,rfl⟩:=A0w he;simp[valV,opV,A3k,E2e hu hr]
  ·cases hc
 ·rename_i t x lo hi;split at hc
  ·rename_i hu;injection hc with hc;injection hc with h1 h2;subst h1;subst h2;cases lo<;>cases hi<;>simp only[Option.isSome_none,Option.isSome_some,Option.map_none,Option.map_some,Option.toList_none,Option.toList_some,List.nil_append,List.append_nil,List.cons_append,List.map_cons,List.map_nil,A0i,ev1]at he
   all_goals (obtain⟨r,hr,rfl⟩:=A0w he;simp[valV,opV,A3k,E2f hu hr])
  ·split at hc
   ·rename_i e z hz;injection hc with hc;injection hc with h1 h2;subst h1;subst h2;cases lo<;>cases hi<;>simp only[Option.isSome_none,Option.isSome_some,Option.map_none,Option.map_some,Option.toList_none,Option.toList_some,List.nil_append,List.append_nil,List.cons_append,List.map_cons,List.map_nil,A0i,ev1]at he
    all_goals (obtain⟨r,hr,rfl⟩:=A0w he;simp[valV,opV,A3k,E2g hz hr])
   ·cases hc
 ·rename_i x i;injection hc with hc;injection hc with h1 h2;subst h1;subst h2;simp only[List.map_cons,List.map_nil,A0i,ev1]at he;simpa[valV,opV,A3k]using he
 ·rename_i x;injection hc with hc;injection hc with h1 h2;subst h1;subst h2;simp only[List.map_cons,List.map_nil,A0i,ev1]at he;simp only[valV,opV,A3k];obtain⟨r,hr,rfl⟩:=A0w he;unfold chkM at hr;split at hr
  all_goals (first | (cases hr;done) | (rename_i hx;rw[hx];simpa using hr))
 ·rename_i t a x;obtain⟨⟨b,n⟩,hq,h⟩:=A0w hc;injection h with h1 h2;subst h1;subst h2;simp only[List.map_cons,List.map_nil,A0i,ev1]at he;obtain⟨H',hr,rfl⟩:=A0w he;simp[valV,opV,E2h hq hr]
 ·rename_i t l c;obtain⟨⟨e,n,by',zc⟩,hq,h⟩:=A0w hc;injection h with h1 h2;subst h1;subst h2;simp only[List.map_cons,List.map_nil,A0i,ev1]at he;obtain⟨r,hr,rfl⟩:=A0w he;simp[valV,opV,E5x hq hr]
 ·rename_i t len parts;obtain⟨⟨e,n,by',zc⟩,hq,h⟩:=A0w hc;injection h with h1 h2;subst h1;subst h2;simp only[A0i,B4x]at he;obtain⟨r,hr,rfl⟩:=A0w he
  have:A3f P t len (parts.toList.map fun p=>(p.1,s.ev G p.2)) s.nx=some r:=by
   simp only[A3f,hq];exact hr
  simp[valV,opV,this]
 ·rename_i t parts;split at hc
  ·rename_i n e zc hu hz;obtain⟨i,hq,h⟩:=A0w hc;injection h with h1 h2;subst h1;subst h2;simp only[A0i,B4x]at he;obtain⟨cs,hr,rfl⟩:=A0w he;simp[valV,opV,C4f,C6l,hu,hq,hz,hr]
  ·rename_i fields zc hu hz;obtain⟨places,hq,h⟩:=A0w hc;injection h with h1 h2;subst h1;subst h2;simp only[A0i,B4x]at he;obtain⟨cs,hr,rfl⟩:=A0w he;simp[valV,opV,C4f,C6l,hu,hq,hz,hr]
  ·cases hc
 ·rename_i t x;injection hc with hc;injection hc with h1 h2;subst h1;subst h2;simp only[List.map_cons,List.map_nil,A0i,ev1]at he;simpa[valV,opV]using he
 ·rename_i t;obtain⟨zc,hq,h⟩:=A0w hc;injection h with h1 h2;subst h1;subst h2;simp only[List.map_nil,A0i]at he;simpa[valV,opV,hq]using he
 ·rename_i x y t t';split at hc
  ·rename_i e;subst e;obtain⟨⟨e,n,by',zc⟩,hq,h⟩:=A0w hc;injection h with h1 h2;subst h1;subst h2;simp only[List.map_cons,List.map_nil,A0i,ev1]at he;simp[valV,opV,F2d hq he]
  ·cases hc
 ·rename_i x t;split at hc
  ·rename_i hu;injection hc with hc;injection hc with h1 h2;subst h1;subst h2;simp only[List.map_cons,List.map_nil,A0i,ev1]at he;obtain⟨r,hr,rfl⟩:=A0w he;unfold lenstrM at hr;split at hr
   ·rename_i st hx
    have:lenV P t (s.ev G x)=some r:=by rw[hx];simp only[lenV,hu];exact hr
    simp[valV,opV,A3k,B2a,this]
   ·cases hr
  ·rename_i e hu;injection hc with hc;injection hc with h1 h2;subst h1;subst h2;simp only[List.map_cons,List.map_nil,A0i,ev1]at he;obtain⟨r,hr,rfl⟩:=A0w he;unfold A6t at hr;split at hr
   all_goals (first | (cases hr;done) | skip)
   all_goals
    rename_i hx
    have:lenV P t (s.ev G x)=some r:=by rw[hx];simp only[lenV,hu];exact hr
    simp[valV,opV,A3k,B2a,this]
  ·cases hc
 ·rename_i x y ts;injection hc with hc;injection hc with h1 h2;subst h1;subst h2;simp only[List.map_cons,List.map_nil,A0i,ev1]at he;simpa[valV,opV,A3k,B2a]using he
 ·rename_i x y ts;injection hc with hc;injection hc with h1 h2;subst h1;subst h2;simp only[List.map_cons,List.map_nil,A0i,ev1]at he;simpa[valV,opV,A3k,B2a]using he
 ·rename_i f args ts
  have e:(args.toList.map (A0m G)).map (·.ev s.env)=args.toList.map (s.ev G):=by
   rw[List.map_map];exact List.map_congr_left fun x _=>ev1 x
  split at hc
  ·rename_i hr;injection hc with hc;injection hc with h1 h2;subst h1;subst h2;simp only[A0i,e]at he;simp only[valV,hr,if_true];exact he
  ·rename_i hr;injection hc with hc;injection hc with h1 h2;subst h1;subst h2;simp only[A0i,e]at he;simp only[valV,hr,Bool.false_eq_true,if_false];exact he
 ·rename_i x args ts hne;injection hc with hc;injection hc with h1 h2;subst h1;subst h2
  have e:(args.toList.map (A0m G)).map (·.ev s.env)=args.toList.map (s.ev G):=by
   rw[List.map_map];exact List.map_congr_left fun x _=>ev1 x
  simp only[List.map_cons,A0i,e,ev1]at he;unfold valV;split
  ·rename_i f' a' t' heq;injection heq with heq;injection heq with h1 h2 h3;injection h1 with h1;exact absurd h1 (hne f')
  ·rename_i x' a' t' _ heq;injection heq with heq;injection heq with h1 h2 h3;injection h1 with h1;subst h1;subst h2;exact he
  ·rename_i h1 h2;exact absurd rfl (h2 _ _ _)
 ·injection hc with hc;injection hc with h1 h2;subst h1;subst h2;simp[A0i]at he
def litT:Op->Bool
 | .buildSlice _ len _=>len != 0
 | _=>true
def opK (P:Program) (G:A1c) (d:Bool) (o:Op):MK×List Opd:=
 match extK P G o with
 | some q=>q
 | none=>
 match d&&litT o,o with
 | true,.buildSlice t len parts=>match A3e P t with
  | some q=>(.tslice q.1 q.2.1 q.2.2.2 len (parts.toList.map (·.1)),parts.toList.map fun p=>A0m G p.2)
  | none=>(.bad,[])
 | _,o=>match D0d P G o with
  | some q=>q
  | none=>(.bad,[])
theorem B6q {P:Program} {G:A1c} {B:Nat} {Φ:A0u} {s:A0c} {o:Oper} {d:Bool} {k:MK} {xs:List Opd} (hΦ:Φ.Sound P G) (hc:opK P G d o.op=(k,xs)) {r:PV} {H':Heap} {nx':Nat}
  (he:A0i Φ s.H s.nx k (xs.map (·.ev s.env))=some (r,H',nx')):AOp P G B o s r H' nx':=by
 unfold opK at hc;split at hc
 ·rename_i q hq;subst hc;refine F6n hq ?_;cases k<;>simp only
  case ex e=>
   simp only[A0i]at he;obtain⟨p,hp,e1⟩:=A0w he;exact⟨p,hp,e1.symm⟩
  case hx h=>simpa only[A0i]using he
  all_goals (exact absurd hq (C9v (by simp)))
 split at hc
 ·rename_i t len parts _ ho;split at hc
  ·rename_i q hq;obtain⟨e,n,by',zc⟩:=q;injection hc with h1 h2;subst h1;subst h2;simp only[A0i,B4x]at he;obtain⟨x,hx,e1⟩:=A0w he;injection e1 with e1 e2;injection e2 with e2 e3;subst e1;subst e2;subst e3;unfold A5c at hx;split at hx
   ·rename_i p0 ty cs hb;split at hx
    ·rename_i ts hts;split at hx
     ·rename_i hl;injection hx with hx;subst hx;unfold A1v at hb;split at hb
      ·rename_i hsz;obtain⟨cs',hf,e4⟩:=A0w hb;injection e4 with e4 e5;injection e5 with e5 e6;subst e6
       have hbs:A3f P t len (parts.toList.map fun p=>(p.1,s.ev G p.2)) s.nx=some (.row s.nx 0 len n,.cells e (ts.map .t)):=by
        simp only[A3f,hq];rw[if_pos hsz,hf,<-B1z hts];rfl
       exact F1u hl (B3h ho hbs)
      ·cases hb
     ·cases hx
    ·cases hx
   ·cases hx
  ·injection hc with h1 h2;subst h1;simp[A0i]at he
 ·split at hc
  ·rename_i q hq;subst hc;exact F1w hΦ (D0e hq he)
  ·injection hc with h1 h2;subst h1;simp[A0i]at he
structure Mini where
 dst:Option Nat
 k:MK
 xs:List Opd
 g:Option (Nat×Bool)
def Mini.wants (env:List (Nat×PV)) (m:Mini):Option Bool:=
 match m.g with
 | none=>some true
 | some (d,want)=>match look env d with
  | some (.t (.v (.bool b)))=>some (b==want)
  | some (.t (.v (.tuple _)))=>some false
  | _=>none
def A2z (P:Program) (G:A1c) (N:Nat) (d:Bool) (ops:Array Oper) (o:Oper):Option Mini:=
 match opK P G d o.op with
 | (k,xs)=>if o.dst.all (· < N)then
   (match o.guard with
   | none=>some ⟨o.dst,k,xs,none⟩
   | some (j,want)=>match (ops[j]?).bind (·.dst)with
    | some d=>some ⟨o.dst,k,xs,some (d,want)⟩
    | none=>none)
  else none
theorem A5d {P:Program} {G:A1c} {N:Nat} {d:Bool} {ops:Array Oper} {o:Oper} {m:Mini} (h:A2z P G N d ops o=some m) :
  opK P G d o.op=(m.k,m.xs)/\m.dst=o.dst/\(∀k,o.dst=some k->k<N)/\∀s:A0c,s.wants ops o=m.wants s.env:=by
 unfold A2z at h;split at h;rename_i k xs hc;split at h
 ·rename_i hd
  have hd':∀k,o.dst=some k->k<N:=by
   intro k hk;rw[hk]at hd;simpa using hd
  split at h
  ·rename_i hg;injection h with h;subst h;exact⟨hc,rfl,hd',fun s=>by simp[A0c.wants,Mini.wants,hg]⟩
  ·rename_i j want hg;split at h
   ·rename_i d hdd;injection h with h;subst h;exact⟨hc,rfl,hd',fun s=>by simp only[A0c.wants,Mini.wants,hg,hdd];rfl⟩
   ·cases h
 ·cases h
def D0f (Φ:A0u) (s:A0c) (m:Mini):Option A0c:=
 match m.wants s.env with
 | some true=>match A0i Φ s.H s.nx m.k (m.xs.map (·.ev s.env))with
  | some (r,H',nx')=>some (({ s with H:=H',nx:=nx' }:A0c).put m.dst r)
  | none=>none
 | some false=>some (s.put m.dst (.t (.v undef)))
 | none=>none
def runL (Φ:A0u):List Mini->A0c->Option A0c
 | [],s=>some s
 | m::r,s=>match D0f Φ s m with
  | some s'=>runL Φ r s'
  | none=>none
section
variable {P : Program} {G : A1c} {B N : Nat} {Φ : A0u} {d : Bool} {ops : Array Oper}
def B0z (P:Program) (G:A1c) (N:Nat) (d:Bool) (ops:Array Oper):List Oper->List Mini->Prop
 | [],l=>l=[]
 | o::r,l=>∃m l',l=m::l'/\A2z P G N d ops o=some m/\B0z P G N d ops r l'
theorem A3y:∀{os:List Oper} {l:List Mini},os.mapM (A2z P G N d ops)=some l->B0z P G N d ops os l
 | [],l,h=>by simp at h;simp only[B0z];exact h
 | o::r,l,h=>by
  simp only[List.mapM_cons,Option.bind_eq_bind,Option.pure_def]at h
  cases ho:A2z P G N d ops o with
  | none=>rw[ho]at h;cases h
  | some m=>
   rw[ho]at h
   cases hr:r.mapM (A2z P G N d ops)with
   | none=>rw[hr]at h;cases h
   | some l'=>
    rw[hr]at h;simp only[Option.bind_some,Option.some.injEq]at h;subst h;simp only[B0z];exact⟨m,l',rfl,ho,A3y hr⟩
theorem B0z.at_:∀{os:List Oper} {l:List Mini},B0z P G N d ops os l->∀(i:Nat),(∀o,os[i]?=some o->∃m,l[i]?=some m/\A2z P G N d ops o=some m)/\os.length=l.length
 | [],l,h,i=>by simp only[B0z]at h;subst h;simp
 | o::r,l,h,i=>by
  simp only[B0z]at h;obtain⟨m,l',rfl,hm,hr⟩:=h;refine⟨fun o' ho'=>?_,by simp[(B0z.at_ hr 0).2]⟩
  cases i with
  | zero=>simp only[List.getElem?_cons_zero,Option.some.injEq]at ho';subst ho';exact⟨m,by simp,hm⟩
  | succ i=>simpa using (B0z.at_ hr i).1 o' (by simpa using ho')
theorem A8s (hΦ:Φ.Sound P G) {Q:A0c->Prop}:∀(os:List Oper) {l:List Mini} {s s':A0c},B0z P G N d ops os l->s.n=N->runL Φ l s=some s'->Q s'->AOps P G B ops os Q s
 | [],l,s,s',ha,hn,h,hq=>by
  simp only[B0z]at ha;subst ha;simp only[runL,Option.some.injEq]at h;subst h;exact F1n hq
 | o::rest,l,s,s',ha,hn,h,hq=>by
  simp only[B0z]at ha;obtain⟨m,l',rfl,hm,hr⟩:=ha;obtain⟨hc,hdst,hd,hw⟩:=A5d hm;simp only[runL]at h;split at h
  ·rename_i s1 h1;unfold D0f at h1;rw[<-hw s]at h1
   have hd':∀k,o.dst=some k->k<s.n:=fun k hk=>by rw[hn];exact hd k hk
   rw[hdst]at h1;split at h1
   ·rename_i hww;split at h1
    ·rename_i r H' nx' hv;injection h1 with h1;subst h1;exact C9j hww hd' (B6q hΦ hc hv) (A8s hΦ rest hr (by rw[C0d];exact hn) h hq)
    ·cases h1
   ·rename_i hww;injection h1 with h1;subst h1;exact E4z hww hd' (A8s hΦ rest hr (by rw[C0d];exact hn) h hq)
   ·cases h1
  ·cases h
def A0o:MK->Bool
 | .store _ | .make _ _ _ _ | .bslice _ _ _ _ _ | .box _ | .alloc _ _ | .app _ _ _ | .hcall _ | .callv | .hx _=>false
 | _=>true
def A1w (Φ:A0u) (H:Heap) (nx:Nat) (k:MK) (ps:List PV):Option PV:=
 if A0o k then
  (match k with
  | .call f=>match toTs H ps with
   | some (targs,F)=>match Φ f targs with
    | some r=>if F.isEmpty||A3s r then some (.t r)else none
    | none=>none
   | none=>none
  | k=>(A0i Φ H nx k ps).map (·.1))
 else none
theorem C0n {H:Heap} {nx:Nat} {k:MK} {ps:List PV} {r:PV} (h:A1w Φ H nx k ps=some r):A0i Φ H nx k ps=some (r,H,nx):=by
 unfold A1w at h;split at h
 ·rename_i hk;split at h
  ·rename_i f;split at h
   ·rename_i targs F hT;split at h
    ·rename_i q hq;split at h
     ·rename_i hp;injection h with h;subst h;simp only[A0i,hT,hq]
      cases hF:F.isEmpty with
      | true=>simp
      | false=>
       rw[hF]at hp;simp only[Bool.false_or]at hp;simp[hp]
     ·cases h
    ·cases h
   ·cases h
  ·rename_i hnc;obtain⟨q,hq,rfl⟩:=A0w h;rw[hq];congr 1;unfold A0i at hq;split at hq
   all_goals (first
    | (simp[A0o]at hk;done)
    | (exact absurd rfl (hnc _))
    | (cases hq;done)
    | (injection hq with hq;rw[<-hq];done)
    | (obtain⟨a,_,rfl⟩:=A0w hq;rfl)
    | skip)
   ·split at hq
    ·injection hq with hq;rw[<-hq]
    ·cases hq
   ·split at hq
    ·split at hq
     ·injection hq with hq;rw[<-hq]
     ·obtain⟨a,_,rfl⟩:=A0w hq;rfl
    ·obtain⟨a,_,rfl⟩:=A0w hq;rfl
   ·split at hq
    ·obtain⟨a,_,rfl⟩:=A0w hq;rfl
    ·cases hq
 ·cases h
def Mini.eyes (m:Mini):List Nat:=
 (m.xs.filterMap fun | .tmp t=>some t | _=>none)++(match m.g with | some (d,_)=>[d] | none=>[])
def A0c.only (s:A0c) (ts:List Nat):A0c:={ s with env:=ts.filterMap fun t=>(look s.env t).map fun p=>(t,p) }
theorem B1a (s:A0c):∀(ts:List Nat) (t:Nat),look (s.only ts).env t=if t∈ts then look s.env t else none
 | [],t=>by simp[A0c.only,look]
 | u::ts,t=>by
  have ih:=B1a s ts t;simp only[A0c.only]at ih ⊢;simp only[List.filterMap_cons]
  cases hu:look s.env u with
  | none=>
   simp only[Option.map_none,ih];by_cases e:t=u
   ·subst e;simp[hu]
   ·simp[e]
  | some p=>
   simp only[Option.map_some,look];by_cases e:u=t
   ·subst e;simp[hu]
   ·rw[if_neg e,ih];simp[Ne.symm e]
theorem E5y (s:A0c) (m:Mini) (ts:List Nat) (h:∀t∈m.eyes,t∈ts):m.xs.map (·.ev (s.only ts).env)=m.xs.map (·.ev s.env):=by
 refine List.map_congr_left fun x hx=>?_
 cases x with
 | tmp t=>
  have:t∈m.eyes:=by
   unfold Mini.eyes;exact List.mem_append_left _ (List.mem_filterMap.2 ⟨.tmp t,hx,rfl⟩)
  simp only[Opd.ev,B1a,if_pos (h t this)]
 | k p=>rfl
theorem C4j (s:A0c) (m:Mini) (ts:List Nat) (h:∀t∈m.eyes,t∈ts):m.wants (s.only ts).env=m.wants s.env:=by
 unfold Mini.wants
 cases hg:m.g with
 | none=>rfl
 | some q=>
  obtain⟨d,want⟩:=q
  have:d∈m.eyes:=by unfold Mini.eyes;rw[hg];simp
  simp only[B1a,if_pos (h d this)]
def valQ (Φ:A0u) (s:A0c) (m:Mini):Option PV:=
 match m.wants s.env with
 | some true=>A1w Φ s.H s.nx m.k (m.xs.map (·.ev s.env))
 | some false=>some (.t (.v undef))
 | none=>none
def B3j:MK->Bool
 | .load _ _ | .call _=>false
 | k=>A0o k
def B0i:MK->Bool
 | .make _ _ _ _ | .bslice _ _ _ _ _ | .box _ | .alloc _ _=>true
 | _=>false
def E5z (Φ:A0u) (s:A0c) (m:Mini):Option A0c:=
 if A0o m.k then
  (match valQ Φ s m with
  | some v=>some (s.put m.dst v)
  | none=>none)
 else D0f Φ s m
def runD (Φ:A0u):List Mini->A0c->Option A0c
 | [],s=>some s
 | m::r,s=>match E5z Φ s m with
  | some s'=>runD Φ r s'
  | none=>none
def C4k:MK->Bool
 | .make _ _ _ _ | .alloc _ _=>true
 | _=>false
def A9v (A:List Nat) (pa k:Nat) (R:List (Nat×Nat)) (p p':Nat) (x y:Nat×Mini):Bool:=
 (A0o x.2.k&&(A0o y.2.k||B3j x.2.k||B0i y.2.k||R.contains (p,p'))||(A.getD y.1 0).testBit x.1||decide (pa<=p)&&decide (p'<pa+k)) &&
 ((match x.2.dst with
  | some d=>!(y.2.eyes.contains d)
  | none=>true)||(A.getD y.1 0).testBit x.1 && !(decide (pa<=p)&&decide (p'<pa+k))) &&
 ((match y.2.dst with
  | some d=>!(x.2.eyes.contains d)
  | none=>true)||(A.getD y.1 0).testBit x.1) &&
 (match x.2.dst with
  | some d=>y.2.dst != some d
  | none=>true)
def B4y (A:List Nat) (pa k:Nat) (R:List (Nat×Nat)):Nat->List (Nat×Mini)->Bool
 | _,[]=>true
 | p,x::r=>(r.zipIdx (p+1)).all (fun y=>A9v A pa k R p y.2 x y.1)&&B4y A pa k R (p+1) r
def A1h (l:List Mini) (π:List Nat):List (Nat×Mini):=π.filterMap fun i=>(l[i]?).map fun m=>(i,m)
def D0g (ops:Array Oper) (l:List Mini) (π:List Nat) (pa k:Nat) (R:List (Nat×Nat)):Bool:=
 (ops.toList.zipIdx.all fun p=>p.1.after.toList.all fun e=>decide (e.on<p.2) || !Region.binds .any e) &&
 ((A1h l π).length==l.length)&&((List.range l.length).all fun i=>π.contains i)&&decide (π.Nodup) &&
 B4y (ancs ops.toList []) pa k R 0 (A1h l π)&&decide (pa+k<=l.length) &&
 (((A1h l π).drop pa).take k).all fun x=>C4k x.2.k&&x.2.g.isNone
inductive GI where
 | o (m:Mini) (kp:Bool) (ag:List Nat)
 | g (j:Nat) (m:Mini)
def GI.mini:GI->Mini
 | .o m _ _=>m
 | .g _ m=>m
abbrev Pend:=List (Nat×MK×List PV×PV)
def agnP (Φ:A0u) (pd:Pend) (H:Heap) (nx:Nat) (ks:List Nat):Prop:=∀i∈ks,∃x,look pd i=some x/\A1w Φ H nx x.1 x.2.1=some x.2.2
def valD (Φ:A0u) (s:A0c) (m:Mini):Option (PV×Heap×Nat):=
 if A0o m.k then(valQ Φ s m).map fun v=>(v,s.H,s.nx)
 else match m.wants s.env with
  | some true=>A0i Φ s.H s.nx m.k (m.xs.map (·.ev s.env))
  | some false=>some (.t (.v undef),s.H,s.nx)
  | none=>none
def B9a (kp:Bool) (n:Nat) (m:Mini) (s:A0c) (v:PV) (pd:Pend):Pend:=if kp then(n,m.k,m.xs.map (·.ev s.env),v)::pd else pd
open Classical in
noncomputable def runG (Φ:A0u) (k:Nat):Nat->Nat->Pend->List GI->A0c->Option A0c
 | _,_,_,[],s=>some s
 | n,b,pd,.o m kp ag::r,s=>match valD Φ s m with
  | some (v,H',nx')=>if agnP Φ pd H' nx' ag then runG Φ k (n+1) b (B9a kp n m s v pd) r (({ s with H:=H',nx:=nx' }:A0c).put m.dst v)else none
  | none=>none
 | n,b,pd,.g j m::r,s=>match A0i Φ s.H ((if j=0 then s.nx else b)+k+j) m.k (m.xs.map (·.ev s.env))with
  | some (v,H',_)=>runG Φ k (n+1) (if j=0 then s.nx else b) pd r (({ s with H:=H',nx:=(if j=0 then s.nx else b)+2*k }:A0c).put m.dst v)
  | none=>none
def B8d (pa k:Nat) (R:List (Nat×Nat)) (l:List GI):Bool:=
 (l.zipIdx.all fun x=>match x.1 with
  | .o _ _ _=>decide (x.2<pa)||decide (pa+k<=x.2)
  | .g j _=>decide (pa<=x.2)&&decide (x.2<pa+k)&&(x.2==pa+j)) &&
 R.all fun r=>match l[r.2]? with
  | some (.o _ _ ag)=>ag.contains r.1
  | _=>false
def D4k (q:List (Nat×Mini)):Nat×Nat:=
 let free:=fun x:Nat×Mini=>C4k x.2.k&&x.2.g.isNone
 let pa:=q.findIdx free
 (if pa<q.length then pa else 0,((q.drop pa).takeWhile free).length)
def D4l (A:List Nat) (q:List (Nat×Mini)):List (Nat×Nat):=
 q.zipIdx.flatMap fun y=>if A0o y.1.2.k||B0i y.1.2.k then []else
  (q.zipIdx.filter fun x=>decide (x.2<y.2)&&A0o x.1.2.k && !B3j x.1.2.k && !(A.getD y.1.1 0).testBit x.1.1).map fun x=>(x.2,y.2)
def B4c (pa k:Nat) (R:List (Nat×Nat)) (q:List (Nat×Mini)):List GI:=
 q.zipIdx.map fun x=>if pa<=x.2/\x.2<pa+k then .g (x.2-pa) x.1.2 else .o x.1.2 (R.any fun r=>r.1==x.2) ((R.filter fun r=>r.2==x.2).map Prod.fst)
end
section
variable {P : Program} {G : A1c} {B N : Nat} {Φ : A0u} {ops : Array Oper}
theorem B2d {S:Array Bool} {i:Nat} (h:i∈Region.ready .any ops S):i<ops.size/\S.getD i true=false/\∃o,ops[i]?=some o/\∀e∈o.after.toList,Region.binds .any e=true->S.getD e.on false=true:=by
 unfold Region.ready at h;obtain⟨h1,h2⟩:=List.mem_filter.1 h;simp only[List.mem_range]at h1;simp only[Bool.and_eq_true,Bool.not_eq_true']at h2;refine⟨h1,h2.1,ops[i],Array.getElem?_eq_getElem h1,fun e he hb=>?_⟩;have:=h2.2;rw[Array.getElem?_eq_getElem h1]at this;simp only[Option.map_some,Option.getD_some]at this;rw[Array.all_eq_true']at this;have:=this e (Array.mem_def.2 he);simpa[hb]using this
theorem D7u {S:Array Bool} {i:Nat} {o:Oper} (ho:ops[i]?=some o) (h2:S.getD i true=false) (h3:∀e∈o.after.toList,Region.binds .any e=true->S.getD e.on false=true):i∈Region.ready .any ops S:=by
 unfold Region.ready;refine List.mem_filter.2 ⟨by simpa using (Array.getElem?_eq_some_iff.1 ho).1,?_⟩;simp only[h2,ho,Option.map_some,Option.getD_some,Bool.not_false,Bool.true_and];rw[Array.all_eq_true'];intro e he
 cases hb:Region.binds .any e with
 | false=>simp
 | true=>simp[h3 e (Array.mem_def.1 he) hb]
theorem A8t {S:Array Bool} {i:Nat} (h:i<S.size):S.getD i true=S.getD i false:=by
 simp[Array.getD_eq_getD_getElem?,h]
theorem A3r (S:Array Bool) (i j:Nat) (h:i<S.size):(S.setIfInBounds i true).getD j false=if i=j then true else S.getD j false:=by
 simp only[Array.getD_eq_getD_getElem?];by_cases e:i=j
 ·subst e;simp[h]
 ·simp[e,Array.getElem?_setIfInBounds_ne e]
def cnt (S:Array Bool):Nat:=S.toList.count true
theorem E6a {S:Array Bool} {i:Nat} (h:i<S.size) (hf:S.getD i false=false):cnt (S.setIfInBounds i true)=cnt S+1:=by
 unfold cnt;rw[Array.toList_setIfInBounds,List.count_set (by simpa using h)]
 have:S.toList[i]'(by simpa using h)=false:=by
  simp only[Array.getD_eq_getD_getElem?]at hf;rw[Array.getElem?_eq_getElem h]at hf;simpa using hf
 rw[this];simp
theorem D7v {S:Array Bool} (h:S.size<=cnt S):∀i,i<S.size->S.getD i false=true:=by
 intro i hi
 have hle:cnt S<=S.size:=by unfold cnt;have:=List.count_le_length (a:=true) (l:=S.toList);simpa using this
 have he:S.toList.count true=S.toList.length:=by
  unfold cnt at h hle
  have:S.toList.length=S.size:=by simp
  omega
 have:=List.count_eq_length.1 he S.toList[i] (by simp);simp only[Array.getD_eq_getD_getElem?,Array.getElem?_eq_getElem hi,Option.getD_some];simpa using this.symm
def Did (Φ:A0u) (s:A0c) (m:Mini) (v:PV) (s':A0c):Prop:=
 (A0o m.k=true/\valQ Φ s m=some v/\s'=s.put m.dst v) \/
 (A0o m.k=false/\m.wants s.env=some false/\v = .t (.v undef)/\s'=s.put m.dst v) \/
 (A0o m.k=false/\m.wants s.env=some true/\∃H' nx',A0i Φ s.H s.nx m.k (m.xs.map (·.ev s.env))=some (v,H',nx')/\s'=({ s with H:=H',nx:=nx' }:A0c).put m.dst v)
theorem D0h {s s':A0c} {m:Mini} (h:E5z Φ s m=some s'):∃v,Did Φ s m v s':=by
 unfold E5z at h;split at h
 ·rename_i hq;split at h
  ·rename_i v hv;injection h with h;exact⟨v,.inl ⟨hq,hv,h.symm⟩⟩
  ·cases h
 ·rename_i hq
  have hq:A0o m.k=false:=by simpa using hq
  unfold D0f at h;split at h
  ·rename_i hw;split at h
   ·rename_i r H' nx' he;injection h with h;exact⟨r,.inr (.inr ⟨hq,hw,H',nx',he,h.symm⟩)⟩
   ·cases h
  ·rename_i hw;injection h with h;exact⟨_,.inr (.inl ⟨hq,hw,rfl,h.symm⟩)⟩
  ·cases h
theorem C4l:∀(l:List Mini) {s s':A0c},runD Φ l s=some s'->∃(st:Nat->A0c) (vals:Nat->PV),st 0=s/\st l.length=s'/\∀(p:Nat) m,l[p]?=some m->Did Φ (st p) m (vals p) (st (p+1))
 | [],s,s',h=>by
  simp only[runD,Option.some.injEq]at h;exact⟨fun _=>s,fun _=>.dead,rfl,h,by simp⟩
 | q::r,s,s',h=>by
  simp only[runD]at h;split at h
  ·rename_i s1 h1;obtain⟨v,hd⟩:=D0h h1;obtain⟨st,vals,h0,hl,hall⟩:=C4l r h;refine⟨fun p=>match p with | 0=>s | p+1=>st p,fun p=>match p with | 0=>v | p+1=>vals p,rfl,by simpa using hl,fun p m hp=>?_⟩
   cases p with
   | zero=>simp only[List.getElem?_cons_zero,Option.some.injEq]at hp;subst hp;simp only;rw[h0];exact hd
   | succ p=>simpa using hall p m (by simpa using hp)
  ·cases h
theorem E6b {s s':A0c} {m:Mini} {v:PV} (h:Did Φ s m v s'):s'.env=(s.put m.dst v).env/\s'.n=s.n:=by
 rcases h with⟨_,_,rfl⟩ | ⟨_,_,_,rfl⟩ | ⟨_,_,H',nx',_,rfl⟩
 ·exact⟨rfl,C0d⟩
 ·exact⟨rfl,C0d⟩
 ·refine⟨?_,by rw[C0d]⟩;cases m.dst<;>rfl
theorem B4z {s s':A0c} {m:Mini} {v:PV} (h:Did Φ s m v s') (hq:A0o m.k=true):s'.H=s.H/\s'.nx=s.nx:=by
 rcases h with⟨_,_,rfl⟩ | ⟨hf,_⟩ | ⟨hf,_⟩
 ·exact⟨B0u,A8p⟩
 ·rw[hq]at hf;cases hf
 ·rw[hq]at hf;cases hf
def C6s (s:A0c):Prop:=∀b r,look s.H b=some r->b<s.nx
theorem A8u {H:Heap} {nx:Nat} {r:Row} (h:∀b r,look H b=some r->b<nx):∀b r',look ((nx,r)::H) b=some r'->b<nx+1:=by
 intro b r' hb;simp only[look]at hb;by_cases e:nx=b
 ·omega
 ·rw[if_neg e]at hb;have:=h b r' hb;omega
theorem E6c {k:HK} {H H':Heap} {nx nx':Nat} {ps:List PV} {v:PV} (h:hxM k H nx ps=some (v,H',nx')) (hf:∀b r,look H b=some r->b<nx):∀b r,look H' b=some r->b<nx':=by
 unfold hxM at h;split at h
 ·injection h with h;injection h with e1 e2;injection e2 with e2 e3;subst e2;subst e3;exact A8u hf
 ·split at h
  ·rename_i hl;split at h
   ·injection h with h;injection h with e1 e2;injection e2 with e2 e3;subst e2;subst e3;intro j r hj;rw[A0f]at hj;split at hj
    ·rename_i e;subst e;exact hf _ _ hl
    ·exact hf j r hj
   ·injection h with h;injection h with e1 e2;injection e2 with e2 e3;subst e2;subst e3;exact hf
  ·cases h
 ·split at h
  ·obtain⟨l,_,e⟩:=A0w h;injection e with e1 e2;injection e2 with e2 e3;subst e2;subst e3;exact hf
  ·cases h
 ·injection h with h;injection h with e1 e2;injection e2 with e2 e3;subst e2;subst e3;exact A8u hf
 ·split at h
  ·split at h
   ·injection h with h;injection h with e1 e2;injection e2 with e2 e3;subst e2;subst e3;exact hf
   ·cases h
  ·cases h
 ·split at h
  ·rename_i hl _;split at h
   ·injection h with h;injection h with e1 e2;injection e2 with e2 e3;subst e2;subst e3;intro j r hj;rw[A0f]at hj;split at hj
    ·rename_i e;subst e;exact hf _ _ hl
    ·exact hf j r hj
   ·cases h
  ·cases h
 ·split at h
  ·rename_i hl;split at h
   ·injection h with h;injection h with e1 e2;injection e2 with e2 e3;subst e2;subst e3;intro j r hj;rw[A0f]at hj;split at hj
    ·rename_i e;subst e;exact hf _ _ hl
    ·exact hf j r hj
   ·cases h
  ·cases h
 ·split at h
  ·injection h with h;injection h with e1 e2;injection e2 with e2 e3;subst e2;subst e3;exact hf
  ·cases h
 ·injection h with h;injection h with e1 e2;injection e2 with e2 e3;subst e2;subst e3;exact hf
 ·split at h
  ·rename_i hl _;split at h
   ·injection h with h;injection h with e1 e2;injection e2 with e2 e3;subst e2;subst e3;intro j r hj;rw[A0f]at hj;split at hj
    ·rename_i e;subst e;exact hf _ _ hl
    ·exact hf j r hj
   ·cases h
  ·cases h
 ·split at h
  ·split at h
   ·injection h with h;injection h with e1 e2;injection e2 with e2 e3;subst e2;subst e3;exact hf
   ·cases h
  ·cases h
 ·split at h
  ·injection h with h;injection h with e1 e2;injection e2 with e2 e3;subst e2;subst e3;exact A8u hf
  ·cases h
 ·cases h
theorem D4m (hΦ:Φ.Sound P G) {H H':Heap} {nx nx':Nat} {k:MK} {ps:List PV} {v:PV} (hq:A0o k=false) (h:A0i Φ H nx k ps=some (v,H',nx')) (hf:∀b r,look H b=some r->b<nx) :
  (∀b r,look H' b=some r->b<nx')/\(B0i k=true->∀b r,look H b=some r->look H' b=some r):=by
 have new:∀{row:Row},(∀b r,look ((nx,row)::H) b=some r->b<nx+1)/\(∀b r,look H b=some r->look ((nx,row)::H) b=some r):=by
  intro row;refine⟨A8u hf,fun b r hb=>?_⟩;have:=hf b r hb;simp only[look];rw[if_neg (by omega)];exact hb
 cases k<;>simp only[A0o]at hq<;>try (cases hq;done)
 case store n=>
  refine⟨?_,fun ha=>by simp[B0i]at ha⟩
  rcases ps with _ | ⟨p,_ | ⟨x,_ | ⟨y,r⟩⟩⟩<;>simp only[A0i]at h<;>try (cases h;done)
  obtain⟨H1,hs,e⟩:=A0w h;injection e with e1 e2;injection e2 with e2 e3;subst e2;subst e3;unfold A0x at hs;split at hs
  ·rename_i b o;split at hs
   ·split at hs
    ·rename_i ty cs hl;split at hs
     ·injection hs with hs;subst hs;intro j r hj;rw[A0f]at hj;split at hj
      ·rename_i e;subst e;exact hf _ _ hl
      ·exact hf j r hj
     ·cases hs
    ·cases hs
   ·cases hs
  ·cases hs
 case make e n by' zc=>
  rcases ps with _ | ⟨p,_ | ⟨x,_ | ⟨y,r⟩⟩⟩<;>simp only[A0i]at h<;>try (cases h;done)
  obtain⟨q,hs,e⟩:=A0w h;injection e with e1 e2;injection e2 with e2 e3;subst e2;subst e3;exact⟨new.1,fun _=>new.2⟩
 case bslice e n zc len idx=>
  simp only[A0i]at h;obtain⟨q,hs,e⟩:=A0w h;injection e with e1 e2;injection e2 with e2 e3;subst e2;subst e3;exact⟨new.1,fun _=>new.2⟩
 case box t=>
  rcases ps with _ | ⟨p,_ | ⟨x,r⟩⟩<;>simp only[A0i]at h<;>try (cases h;done)
  obtain⟨q,hs,e⟩:=A0w h;injection e with e1 e2;injection e2 with e2 e3;subst e2;subst e3;exact⟨new.1,fun _=>new.2⟩
 case alloc t zc=>
  rcases ps with _ | ⟨p,r⟩<;>simp only[A0i]at h<;>try (cases h;done)
  injection h with e;injection e with e1 e2;injection e2 with e2 e3;subst e2;subst e3;exact⟨new.1,fun _=>new.2⟩
 case app e z by'=>
  refine⟨?_,fun ha=>by simp[B0i]at ha⟩
  rcases ps with _ | ⟨d,_ | ⟨x,_ | ⟨y,r⟩⟩⟩<;>simp only[A0i]at h<;>try (cases h;done)
  unfold appM at h;split at h
  ·split at h
   ·split at h
    ·split at h
     ·injection h with h;injection h with e1 e2;injection e2 with e2 e3;subst e2;subst e3;exact hf
     ·split at h
      ·injection h with h;injection h with e1 e2;injection e2 with e2 e3;subst e2;subst e3;exact new.1
      ·cases h
    ·cases h
   ·split at h
    ·split at h
     ·injection h with h;injection h with e1 e2;injection e2 with e2 e3;subst e2;subst e3;refine A8u fun b r hb=>?_;rw[A1e]at hb;split at hb
      ·cases hb
      ·exact hf b r hb
     ·cases h
    ·cases h
   ·cases h
  ·cases h
 case hx hk=>
  refine⟨?_,fun ha=>by simp[B0i]at ha⟩;simp only[A0i]at h;exact E6c h hf
 case hcall f=>
  refine⟨?_,fun ha=>by simp[B0i]at ha⟩;simp only[A0i]at h;exact hΦ.fresh _ _ _ _ _ _ _ h hf
 case callv=>
  refine⟨?_,fun ha=>by simp[B0i]at ha⟩;rcases ps with _ | ⟨fv,ps⟩
  ·simp[A0i]at h
  ·simp only[A0i]at h;unfold D7k at h;split at h
   ·exact hΦ.fresh _ _ _ _ _ _ _ h hf
   ·exact hΦ.fresh _ _ _ _ _ _ _ h hf
   ·cases h
theorem B1b (hΦ:Φ.Sound P G) {s s':A0c} {m:Mini} {v:PV} (h:Did Φ s m v s') (hf:C6s s):C6s s'/\(B0i m.k=true\/A0o m.k=true->∀b r,look s.H b=some r->look s'.H b=some r):=by
 rcases h with⟨hq,_,rfl⟩ | ⟨hq,_,_,rfl⟩ | ⟨hq,_,H',nx',he,rfl⟩
 ·unfold C6s;rw[B0u,A8p];exact⟨hf,fun _ b r hb=>hb⟩
 ·unfold C6s;rw[B0u,A8p];exact⟨hf,fun _ b r hb=>hb⟩
 ·have:=D4m hΦ hq he hf;unfold C6s;rw[B0u,A8p];refine⟨this.1,fun ha=>?_⟩;rcases ha with ha | ha
  ·exact this.2 ha
  ·rw[hq]at ha;cases ha
mutual
theorem F2e {H H':Heap} (hh:∀b r,look H b=some r->look H' b=some r):∀(p:PV) {q:T×List Nat},toT H p=some q->toT H' p=some q
 | .t x,q,h=>by simpa only[toT]using h
 | .row b o n z,q,h=>by
  simp only[toT]at h ⊢;split at h
  ·rename_i ty cs hl;rw[hh b _ hl];exact h
  ·cases h
 | .ag cs,q,h=>by
  simp only[toT]at h ⊢;obtain⟨a,ha,rfl⟩:=A0w h;rw[B5a hh cs ha];rfl
 | .tu cs,q,h=>by
  simp only[toT]at h ⊢;obtain⟨a,ha,rfl⟩:=A0w h;rw[B5a hh cs ha];rfl
 | .ptr _ _,q,h=>by simp[toT]at h
 | .fn _ _ _,q,h=>by simp[toT]at h
 | .ic _ _,q,h=>by simp[toT]at h
 | .mp _,q,h=>by simp[toT]at h
 | .dead,q,h=>by simp[toT]at h
theorem B5a {H H':Heap} (hh:∀b r,look H b=some r->look H' b=some r):∀(ps:List PV) {q:List T×List Nat},toTs H ps=some q->toTs H' ps=some q
 | [],q,h=>by simpa only[toTs]using h
 | p::ps,q,h=>by
  simp only[toTs]at h ⊢;split at h
  ·rename_i x F xs F' h1 h2;rw[F2e hh p h1,B5a hh ps h2];exact h
  ·cases h
end
theorem D4n {H H':Heap} {nx nx':Nat} {k:MK} {ps:List PV} {q:PV×Heap×Nat} (hk:B3j k=true) (h:A0i Φ H nx k ps=some q):A0i Φ H' nx' k ps=some (q.1,H',nx'):=by
 cases k<;>(first | (simp only[B3j,A0o,Bool.false_eq_true]at hk;done) | skip)
 case slstr lo hi=>
  cases lo<;>cases hi<;>rcases ps with _ | ⟨a,_ | ⟨b,_ | ⟨c,_ | ⟨d,r⟩⟩⟩⟩<;>simp only[A0i]at h ⊢ <;>(first | (cases h;done) | (obtain⟨x,hx,rfl⟩:=A0w h;rw[hx];rfl))
 case slice z lo hi=>
  cases lo<;>cases hi<;>rcases ps with _ | ⟨a,_ | ⟨b,_ | ⟨c,_ | ⟨d,r⟩⟩⟩⟩<;>simp only[A0i]at h ⊢ <;>(first | (cases h;done) | (obtain⟨x,hx,rfl⟩:=A0w h;rw[hx];rfl))
 case bin isB op nk=>
  rcases ps with _ | ⟨a,_ | ⟨b,_ | ⟨c,r⟩⟩⟩<;>simp only[A0i]at h ⊢ <;>(first | (cases h;done) | skip);split at h
  ·split at h
   ·rename_i hb;injection h with h;subst h;simp only[hb]
   ·rename_i hb;obtain⟨x,hx,rfl⟩:=A0w h;simp only[hb,hx,Option.map_some]
  ·rename_i hne;obtain⟨x,hx,rfl⟩:=A0w h;rw[hx];rfl
 case pick=>
  rcases ps with _ | ⟨a,_ | ⟨b,_ | ⟨c,_ | ⟨d,r⟩⟩⟩⟩<;>simp only[A0i]at h ⊢ <;>(first | (cases h;done) | skip);split at h
  ·injection h with h;subst h;rfl
  ·cases h
 case un op=>
  rcases ps with _ | ⟨a,_ | ⟨b,r⟩⟩<;>simp only[A0i]at h ⊢ <;>(first | (cases h;done) | skip);split at h
  ·obtain⟨x,hx,rfl⟩:=A0w h;rw[hx];rfl
  ·cases h
 case tslice e n zc len idx=>simp only[A0i]at h ⊢;obtain⟨x,hx,rfl⟩:=A0w h;rw[hx];rfl
 case build places zc idx=>simp only[A0i]at h ⊢;obtain⟨x,hx,rfl⟩:=A0w h;rw[hx];rfl
 case barr n zc idx=>simp only[A0i]at h ⊢;obtain⟨x,hx,rfl⟩:=A0w h;rw[hx];rfl
 case ex e=>simp only[A0i]at h ⊢;obtain⟨x,hx,rfl⟩:=A0w h;rw[hx];rfl
 case mv=>
  rcases ps with _ | ⟨a,_ | ⟨b,r⟩⟩<;>simp only[A0i]at h ⊢ <;>(first | (cases h;done) | (injection h with h;subst h;rfl))
 all_goals
  rcases ps with _ | ⟨a,_ | ⟨b,_ | ⟨c,r⟩⟩⟩<;>simp only[A0i]at h ⊢ <;>(first | (cases h;done) | (obtain⟨x,hx,rfl⟩:=A0w h;rw[hx];rfl))
theorem B4d {H H':Heap} {nx nx':Nat} {k:MK} {ps:List PV} {v:PV} (hk:B3j k=true) (h:A1w Φ H nx k ps=some v):A1w Φ H' nx' k ps=some v:=by
 unfold A1w at h ⊢;split at h
 ·rename_i hq;rw[if_pos hq];split at h
  ·simp[B3j]at hk
  ·obtain⟨q,hq',rfl⟩:=A0w h;rw[D4n hk hq'];rfl
 ·cases h
theorem A8v {H H':Heap} {nx nx':Nat} {k:MK} {ps:List PV} {v:PV} (hh:∀b r,look H b=some r->look H' b=some r) (h:A1w Φ H nx k ps=some v):A1w Φ H' nx' k ps=some v:=by
 by_cases hk:B3j k=true
 ·exact B4d hk h
 ·cases k<;>(first | (exact absurd rfl hk) | skip)
  case load agg n=>
   unfold A1w at h ⊢;simp only[A0o,if_true]at h ⊢;obtain⟨q,hq,rfl⟩:=A0w h
   rcases ps with _ | ⟨p,_ | ⟨x,r⟩⟩<;>simp only[A0i]at hq ⊢ <;> try (cases hq;done)
   obtain⟨a,ha,rfl⟩:=A0w hq
   have:A0t agg n H' p=some a:=by
    unfold A0t at ha ⊢;split at ha
    ·exact ha
    ·split at ha
     ·rename_i hl;rw[hh _ _ hl];exact ha
     ·cases ha
    ·cases ha
   rw[this];rfl
  case call f=>
   unfold A1w at h ⊢;simp only[A0o,if_true]at h ⊢;split at h
   ·rename_i targs F hT;rw[B5a hh ps hT];exact h
   ·cases h
  all_goals (unfold A1w at h;simp[A0o]at h)
variable {l : List Mini} {π : List Nat} {pa k : Nat} {R : List (Nat × Nat)}
structure G0a (ops:Array Oper) (q:List (Nat×Mini)) (pa k:Nat) (R:List (Nat×Nat)):Prop where
 back:∀(i:Nat) o,ops[i]?=some o->∀e∈o.after.toList,Region.binds .any e=true->e.on<i
 pair:∀(p p':Nat) x y,p<p'->q[p]?=some x->q[p']?=some y->A9v (ancs ops.toList []) pa k R p p' x y=true
 all:∀i,i<ops.size->∃(p:Nat) (m:Mini),q[p]?=some (i,m)
 fits:pa+k<=q.length
 grp:∀(p:Nat) x,q[p]?=some x->pa<=p->p<pa+k->C4k x.2.k=true/\x.2.g=none
theorem B3k {A:List Nat}:∀{q:List (Nat×Mini)} {n:Nat},B4y A pa k R n q=true->∀(p p':Nat) x y,p<p'->q[p]?=some x->q[p']?=some y->A9v A pa k R (n+p) (n+p') x y=true
 | [],_,_,p,p',x,y,_,h,_=>by simp at h
 | a::q,n,hq,p,p',x,y,hlt,h,h'=>by
  simp only[B4y,Bool.and_eq_true]at hq
  cases p' with
  | zero=>omega
  | succ p'=>
   simp only[List.getElem?_cons_succ]at h'
   cases p with
   | zero=>
    simp only[List.getElem?_cons_zero,Option.some.injEq]at h;subst h
    have:=List.all_eq_true.1 hq.1 (y,n+1+p') (by
     rw[List.mem_zipIdx_iff_le_and_getElem?_sub]
     exact⟨by omega,by rw[show n+1+p'-(n+1)=p' by omega];exact h'⟩)
    rw[show n+(p'+1)=n+1+p' by omega];simpa using this
   | succ p=>
    have:=B3k hq.2 p p' x y (by omega) (by simpa using h) h';rwa[show n+1+p=n+(p+1)by omega,show n+1+p'=n+(p'+1)by omega]at this
theorem B8e (l:List Mini):∀(π:List Nat) (p:Nat) x,(A1h l π)[p]?=some x->l[x.1]?=some x.2:=by
 intro π p x h;have:=List.mem_of_getElem? h;unfold A1h at this;obtain⟨i,_,hi⟩:=List.mem_filterMap.1 this;obtain⟨m,hm,rfl⟩:=A0w hi;exact hm
theorem E2i (hl:ops.size=l.length) (h:D0g ops l π pa k R=true):G0a ops (A1h l π) pa k R/\(A1h l π).length=l.length/\((A1h l π).map Prod.fst).Nodup:=by
 unfold D0g at h;simp only[Bool.and_eq_true,decide_eq_true_eq,beq_iff_eq]at h;obtain⟨⟨⟨⟨⟨⟨h1,h2⟩,h3⟩,h4⟩,h5⟩,h6⟩,h7⟩:=h;refine⟨⟨fun i o ho e he hb=>?_,fun p p' x y hlt hx hy=>?_,fun i hi=>?_,by omega,fun p x hx hp hp'=>?_⟩,h2,?_⟩
 ·have hq:(o,i)∈ops.toList.zipIdx:=by
   rw[List.mem_zipIdx_iff_getElem?];simpa using ho
  have:=List.all_eq_true.1 (List.all_eq_true.1 h1 _ hq) e he;simpa[hb]using this
 ·have:=B3k h5 p p' x y hlt hx hy;simpa using this
 ·have hc:=List.all_eq_true.1 h3 i (by simp;omega)
  have hmem:i∈π:=by simpa using hc
  have hil:i<l.length:=by omega
  have:(i,l[i])∈A1h l π:=List.mem_filterMap.2 ⟨i,hmem,by rw[List.getElem?_eq_getElem hil];rfl⟩;obtain⟨p,hp⟩:=List.getElem?_of_mem this;exact⟨p,_,hp⟩
 ·have hm:(((A1h l π).drop pa).take k)[p-pa]?=some x:=by
   rw[List.getElem?_take,if_pos (by omega),List.getElem?_drop,show pa+(p-pa)=p by omega];exact hx
  have:=List.all_eq_true.1 h7 x (List.mem_of_getElem? hm);simp only[Bool.and_eq_true,Option.isNone_iff_eq_none]at this;exact this
 ·have:(A1h l π).map Prod.fst=π.filter (fun i=>(l[i]?).isSome):=by
   unfold A1h;clear h1 h2 h3 h4 h5 h6 h7
   induction π with
   | nil=>rfl
   | cons i π ih=>
    simp only[List.filterMap_cons,List.filter_cons]
    cases hi:l[i]? with
    | none=>simpa using ih
    | some m=>simpa using ih
  rw[this];exact h4.filter _
theorem D4o {L L1:Loc} {H H1:Heap} {w:World} (src:Nat->Nat) (hok:A1o P G L H w) (hI:L1.I=L.I) (hnx:L.nx<=L1.nx) (hμ:∀b,b<L.nx->L1.μ b=L.μ b)
  (h1:∀b r,look H1 b=some r->b<L1.nx/\look H (src b)=some r/\L1.μ b=L.μ (src b)) (hinj:∀b b' r r',look H1 b=some r->look H1 b'=some r'->src b=src b'->b=b') :
  A1o P G L1 H1 w/\Mono L w L1 w/\Ext L H w L1 H1 w:=by
 have hm:Mono L w L1 w:=⟨fun g hg=>⟨by rw[hI];exact hg,rfl⟩,hnx,hμ,Nat.le_refl _,A1y.refl w⟩
 refine⟨⟨fun b hb=>hok.lt b (by rw[<-hI];exact hb),fun b r hb=>?_,fun b r hb=>?_,fun b b' r r' hb hb' he=>?_,fun b r hb=>(h1 b r hb).1,A2b hok hm.keeps⟩,hm,?_⟩
 ·obtain⟨_,h2,h3⟩:=h1 b r hb;rw[h3];exact(hok.rep _ r h2).keep hm rfl
 ·obtain⟨_,h2,h3⟩:=h1 b r hb;rw[h3,hI];exact hok.apart _ r h2
 ·obtain⟨_,h2,h3⟩:=h1 b r hb;obtain⟨_,h2',h3'⟩:=h1 b' r' hb';rw[h3,h3']at he;exact hinj b b' r r' hb hb' (hok.inj _ _ r r' h2 h2' he)
 ·exact⟨Nat.le_refl _,fun _ _ _=>rfl,fun g hg=>by rw[hI];exact hg,fun g hg=>.inl (by rw[hI]at hg;exact hg),fun g ⟨b,r,hb,e⟩=>.inr ⟨_,r,(h1 b r hb).2.1,(h1 b r hb).2.2.symm.trans e⟩,A1y.refl w,A3v.refl w⟩
def gH (row:Nat->Row) (nx:Nat):List Nat->Heap->Heap
 | [],H=>H
 | d::D,H=>(nx+D.length,row d)::gH row nx D H
def gpos:List Nat->Nat->Nat
 | [],_=>0
 | d::D,p=>if d=p then D.length else gpos D p
theorem B6r:∀{D:List Nat} {p:Nat},p∈D->gpos D p<D.length
 | d::D,p,h=>by
  simp only[gpos,List.length_cons];split
  ·omega
  ·rename_i e;have:=B6r (D:=D) (p:=p) (by simpa[Ne.symm e]using h);omega
theorem D7w:∀{D:List Nat} {p p':Nat},p∈D->p'∈D->gpos D p=gpos D p'->p=p'
 | d::D,p,p',h,h',he=>by
  simp only[gpos]at he;by_cases e:d=p
  ·by_cases e':d=p'
   ·exact e.symm.trans e'
   ·rw[if_pos e,if_neg e']at he;have:=B6r (D:=D) (p:=p') (by simpa[Ne.symm e']using h');omega
  ·by_cases e':d=p'
   ·rw[if_neg e,if_pos e']at he;have:=B6r (D:=D) (p:=p) (by simpa[Ne.symm e]using h);omega
   ·rw[if_neg e,if_neg e']at he;exact D7w (by simpa[Ne.symm e]using h) (by simpa[Ne.symm e']using h') he
theorem B4e {row:Nat->Row} {nx:Nat} {H:Heap}:∀(D:List Nat) {b:Nat},b<nx->look (gH row nx D H) b=look H b
 | [],_,_=>rfl
 | d::D,b,h=>by
  simp only[gH,look];rw[if_neg (by omega)];exact B4e D h
theorem E6d {row:Nat->Row} {nx:Nat} {H:Heap}:∀{D:List Nat} {p:Nat},p∈D->look (gH row nx D H) (nx+gpos D p)=some (row p)
 | d::D,p,h=>by
  simp only[gH,look,gpos];by_cases e:d=p
  ·subst e;simp
  ·have hp:p∈D:=by simpa[Ne.symm e]using h
   rw[if_neg e,if_neg (by have:=B6r hp;omega)];exact E6d hp
theorem D0i {row:Nat->Row} {nx:Nat} {H:Heap} (hf:∀b r,look H b=some r->b<nx) (D:List Nat):∀b r,look H b=some r->look (gH row nx D H) b=some r:=fun b r h=>by
 rw[B4e D (hf b r h)];exact h
theorem C6t:∀(k:Nat) {D:List Nat} {pa:Nat},D.Nodup->(∀p∈D,pa<=p/\p<pa+k)->D.length<=k
 | 0,D,pa,_,h=>by
  cases D with
  | nil=>simp
  | cons d D=>have:=h d (by simp);omega
 | k+1,D,pa,hn,h=>by
  by_cases hm:pa+k∈D
  ·have h1:(D.erase (pa+k)).length<=k:=C6t k (pa:=pa) (hn.erase _) fun p hp=>by
    have hp':=(hn.mem_erase_iff).1 hp;have:=h p hp'.2;have:=hp'.1;omega
   rw[List.length_erase_of_mem hm]at h1;omega
  ·have:=C6t k (pa:=pa) hn (fun p hp=>by
    have h1:=h p hp;have:p≠pa+k:=fun e=>hm (e▸hp)
    exact⟨h1.1,by omega⟩)
   omega
theorem D4p {H H':Heap} {n n':Nat} {κ:MK} {ps:List PV} {v:PV} (hk:C4k κ=true) (h:A0i Φ H n κ ps=some (v,H',n')) :
  ∃(row:Row) (gv:Nat->PV),v=gv n/\H'=(n,row)::H/\n'=n+1/\(∀H n,A0i Φ H n κ ps=some (gv n,(n,row)::H,n+1)) /\
   ∀(L:Loc) (w:World) (u:Value) (a b:Nat),b<L.nx->L.μ b=L.μ a->RepV P L w (gv a) u->RepV P L w (gv b) u:=by
 cases κ<;>simp only[C4k]at hk<;>try (cases hk;done)
 case make e n0 by' zc=>
  rcases ps with _ | ⟨p,_ | ⟨x,_ | ⟨y,r⟩⟩⟩<;>simp only[A0i]at h<;>try (cases h;done)
  obtain⟨q,hs,e⟩:=A0w h;injection e with e1 e2;injection e2 with e2 e3;subst e1;subst e2;subst e3;unfold D4j at hs;split at hs
  ·split at hs
   ·rename_i hb;injection hs with hs;subst hs;refine⟨_,fun n=>.row n 0 _ _,rfl,rfl,rfl,fun H n=>?_,fun L w u a b hb hab hr=>?_⟩
    ·simp only[A0i,D4j,if_pos hb,Option.map_some]
    ·simp only[RepV]at hr ⊢;rw[hab];exact⟨hb,hr.2⟩
   ·cases hs
  ·cases hs
 case alloc t zc=>
  rcases ps with _ | ⟨p,r⟩<;>simp only[A0i]at h<;>try (cases h;done)
  injection h with e;injection e with e1 e2;injection e2 with e2 e3;subst e1;subst e2;subst e3;refine⟨_,fun n=>.ptr n 0,rfl,rfl,rfl,fun H n=>by simp only[A0i],fun L w u a b hb hab hr=>?_⟩;simp only[RepV]at hr ⊢;rw[hab];exact⟨hb,hr.2⟩
theorem A8w {ms:List Mini} {st:Nat->A0c} {vals:Nat->PV} {s:A0c} (h0:st 0=s) (hall:∀(p:Nat) m,ms[p]?=some m->(st (p+1)).env=((st p).put m.dst (vals p)).env):∀(p:Nat),p<=ms.length->∀k q,look (st p).env k=some q ->
  (∃j m,j<p/\ms[j]?=some m/\m.dst=some k/\q=vals j)\/((∀j m,j<p->ms[j]?=some m->m.dst≠some k)/\look s.env k=some q)
 | 0,_,k,q,h=>.inr ⟨fun j m hj=>by omega,by rw[h0]at h;exact h⟩
 | p+1,hp,k,q,h=>by
  obtain⟨m,hm⟩:∃m,ms[p]?=some m:=⟨_,List.getElem?_eq_getElem (by omega)⟩
  rw[hall p m hm]at h;rcases D7e h with⟨e,rfl⟩ | ⟨e,h'⟩
  ·exact .inl ⟨p,m,by omega,hm,e,rfl⟩
  ·rcases A8w h0 hall p (by omega) k q h' with⟨j,mj,hj,hmj,hd,hq⟩ | ⟨hno,hs⟩
   ·exact .inl ⟨j,mj,by omega,hmj,hd,hq⟩
   ·refine .inr ⟨fun j mj hj hmj=>?_,hs⟩;by_cases ej:j=p
    ·subst ej;rw[hm]at hmj;injection hmj with hmj;subst hmj;exact e
    ·exact hno j mj (by omega) hmj
structure E2j (Φ:A0u) (ms:List Mini) (pa k:Nat) (R:List (Nat×Nat)) (s s2:A0c) (st:Nat->A0c) (vals:Nat->PV):Prop where
 start:st 0=s
 stop:st ms.length=s2
 norm:∀(p:Nat) m,ms[p]?=some m->(p<pa\/pa+k<=p)->Did Φ (st p) m (vals p) (st (p+1))
 grp:∀(p:Nat) m,ms[p]?=some m->pa<=p->p<pa+k->∃H' n',A0i Φ (st p).H ((st pa).nx+k+(p-pa)) m.k (m.xs.map (·.ev (st p).env))=some (vals p,H',n') /\
  st (p+1)=({ st p with H:=H',nx:=(st pa).nx+2*k }:A0c).put m.dst (vals p)
 again:∀(p p':Nat) m,(p,p')∈R->ms[p]?=some m->A1w Φ (st (p'+1)).H (st (p'+1)).nx m.k (m.xs.map (·.ev (st p).env))=some (vals p)
theorem E2j.env {ms:List Mini} {s s2:A0c} {st:Nat->A0c} {vals:Nat->PV} (h:E2j Φ ms pa k R s s2 st vals) {p:Nat} {m:Mini} (hm:ms[p]?=some m) :
  (st (p+1)).env=((st p).put m.dst (vals p)).env/\(st (p+1)).n=(st p).n:=by
 by_cases hp:p<pa\/pa+k<=p
 ·exact E6b (h.norm p m hm hp)
 ·obtain⟨H',n',_,e⟩:=h.grp p m hm (by omega) (by omega);rw[e];refine⟨?_,by rw[C0d]⟩;cases m.dst<;>rfl
structure InvD (P:Program) (G:A1c) (B:Nat) (q:List (Nat×Mini)) (pa k:Nat) (row:Nat->Row) (gv:Nat->Nat->PV) (st:Nat->A0c) (vals:Nat->PV) (s:A0c) (L0:Loc) (w0:World) (S:Array Bool) (p0:Nat) (D:List Nat) (L:Loc) (a:Act) (w:World):Prop where
 le:p0<=q.length
 part:D≠[]->p0=pa/\∃p,pa<=p/\p<pa+k/\p∉D
 grp:∀p∈D,pa<=p/\p<pa+k
 nodup:D.Nodup
 out:p0<=pa\/pa+k<=p0
 done:∀(p:Nat) x,q[p]?=some x->A0o x.2.k=false->(S.getD x.1 false=true ↔ p<p0\/p∈D)
 heap:A1o P G L (gH row (st p0).nx D (st p0).H) w
 nx:L.nx=(st p0).nx+D.length
 base:B<=L.nx
 size:a.tmps.size=s.n
 defers:a.defers=[]
 vals:∀(p:Nat) x,q[p]?=some x->S.getD x.1 false=true->p∉D->∀k,x.2.dst=some k->RepV P L w (vals p) (a.tmps.getD k undef)
 gvals:∀(p:Nat) x,q[p]?=some x->p∈D->∀k,x.2.dst=some k->RepV P L w (gv p ((st p0).nx+gpos D p)) (a.tmps.getD k undef)
 old:∀k u,(∀(p:Nat) x,q[p]?=some x->S.getD x.1 false=true->x.2.dst≠some k)->look s.env k=some u->RepV P L w u (a.tmps.getD k undef)
 ext:Ext L0 s.H w0 L (gH row (st p0).nx D (st p0).H) w
 μ:∀b,b<B->L.μ b=L0.μ b
theorem C4m (hmix:P.follows .mixedOrders=true) (hΦ:Φ.Sound P G) {Q:Exit->A0c->Prop} {s s2:A0c} {st:Nat->A0c} {vals:Nat->PV} {id:Nat} (ha0:ops.toList.mapM (A2z P G N true ops)=some l) (hd0:D0g ops l π pa k R=true)
  (hn:s.n=N) (hrun:E2j Φ ((A1h l π).map Prod.snd) pa k R s s2 st vals) (hq:Q .normal s2):A4y P G B (.region id ops true) Q s:=by
 intro L0 a0 w0 hi0;have ha:=A3y ha0
 have hlen:ops.size=l.length:=by have:=(ha.at_ 0).2;simpa using this
 obtain⟨hd,hql,hnodup⟩:=E2i hlen hd0;have h0:=hrun.start;have hlast:=hrun.stop;simp only[List.length_map]at hlast;generalize hq':A1h l π=q at *
 have hmem:∀(p:Nat) x,q[p]?=some x->l[x.1]?=some x.2:=by intro p x hx;rw[<-hq']at hx;exact B8e l π p x hx
 have hms:∀(p:Nat) x,q[p]?=some x->(q.map Prod.snd)[p]?=some x.2:=by intro p x hx;simp[hx]
 have hall:∀(p:Nat) m,(q.map Prod.snd)[p]?=some m->(st (p+1)).env=((st p).put m.dst (vals p)).env:=fun p m hm=>(hrun.env hm).1;have step:∀(p:Nat) x,q[p]?=some x->(p<pa\/pa+k<=p)->Did Φ (st p) x.2 (vals p) (st (p+1)):=fun p x hx=>hrun.norm p x.2 (hms p x hx)
 have gkind:∀(p:Nat) x,q[p]?=some x->pa<=p->p<pa+k->A0o x.2.k=false/\B0i x.2.k=true:=by
  intro p x hx h1 h2;have:=(hd.grp p x hx h1 h2).1;revert this;cases x.2.k<;>simp[C4k,A0o,B0i]
 have grp0:∀p,∃(row:Row) (gv:Nat->PV),∀x,q[p]?=some x->pa<=p->p<pa+k->vals p=gv ((st pa).nx+k+(p-pa)) /\
   st (p+1)=({ st p with H:=((st pa).nx+k+(p-pa),row)::(st p).H,nx:=(st pa).nx+2*k }:A0c).put x.2.dst (vals p) /\
   (∀H n,A0i Φ H n x.2.k (x.2.xs.map (·.ev (st p).env))=some (gv n,(n,row)::H,n+1)) /\
   ∀(L:Loc) (w:World) (u:Value) (a b:Nat),b<L.nx->L.μ b=L.μ a->RepV P L w (gv a) u->RepV P L w (gv b) u:=by
  intro p;by_cases hp:∃x,q[p]?=some x/\pa<=p/\p<pa+k
  ·obtain⟨x,hx,h1,h2⟩:=hp;obtain⟨H',n',he,hst⟩:=hrun.grp p x.2 (hms p x hx) h1 h2;obtain⟨row,gv,e1,e2,e3,e4,e5⟩:=D4p (P:=P) (hd.grp p x hx h1 h2).1 he;refine⟨row,gv,fun y hy _ _=>?_⟩;rw[hx]at hy;injection hy with hy;subst hy;exact⟨e1,by rw[hst,e2],e4,e5⟩
  ·exact⟨default,fun _=>.dead,fun x hx h1 h2=>absurd ⟨x,hx,h1,h2⟩ hp⟩
 have ⟨row,grp1⟩:=Classical.axiomOfChoice grp0;have ⟨gv,grp⟩:=Classical.axiomOfChoice grp1
 have uniq:∀(p p':Nat) x y,q[p]?=some x->q[p']?=some y->x.1=y.1->p=p':=by
  intro p p' x y hx hy e
  have h1:(q.map Prod.fst)[p]?=some x.1:=by simp[hx]
  have h2:(q.map Prod.fst)[p']?=some x.1:=by simp[hy,e]
  have hp:=(List.getElem?_eq_some_iff.1 h1).1;exact(List.getElem?_inj hp hnodup).1 (h1.trans h2.symm)
 have hfit:=hd.fits
 have gnx:∀j,pa+j+1<=pa+k->(st (pa+j+1)).nx=(st pa).nx+2*k:=by
  intro j hj;have hx:q[pa+j]?=some q[pa+j]:=List.getElem?_eq_getElem (by omega);rw[(grp (pa+j) _ hx (by omega) (by omega)).2.1,A8p]
 have fresh:∀p,p<=q.length->C6s (st p):=by
  intro p
  induction p with
  | zero=>intro _;rw[h0];exact fun b r hb=>by have:=hi0.heap.nx b r hb;rw[hi0.nx]at this;exact this
  | succ p ih=>
   intro hp;have hx:q[p]?=some q[p]:=List.getElem?_eq_getElem (by omega);by_cases hg:p<pa\/pa+k<=p
   ·exact(B1b hΦ (step p _ hx hg) (ih (by omega))).1
   ·rw[(grp p _ hx (by omega) (by omega)).2.1];unfold C6s;rw[B0u,A8p];intro b r hb;simp only[look]at hb;show b<(st pa).nx+2*k;split at hb
    ·omega
    ·have h1:=ih (by omega) b r hb;by_cases e:p=pa
     ·subst e;omega
     ·have:=gnx (p-1-pa) (by omega);rw[show pa+(p-1-pa)+1=p by omega]at this;omega
 have flat:∀(a b:Nat),a<=b->b<=q.length->(∀(p:Nat) x,a<=p->p<b->q[p]?=some x->A0o x.2.k=true)->(st b).H=(st a).H/\(st b).nx=(st a).nx:=by
  intro a b hab
  induction b with
  | zero=>
   intro _ _
   have:a=0:=by omega
   subst this;exact⟨rfl,rfl⟩
  | succ b ih=>
   intro hb hno;by_cases e:a=b+1
   ·subst e;exact⟨rfl,rfl⟩
   ·have hx:q[b]?=some q[b]:=List.getElem?_eq_getElem (by omega);have hqb:=hno b _ (by omega) (by omega) hx
    have h1:=B4z (step b _ hx (by
     rcases Nat.lt_or_ge b pa with h | h
     ·exact .inl h
     ·rcases Nat.lt_or_ge b (pa+k)with h' | h'
      ·have:=(gkind b _ hx h h').1;rw[hqb]at this;cases this
      ·exact .inr h')) hqb
    have h2:=ih (by omega) (by omega) (fun p x h1 h2 h3=>hno p x h1 (by omega) h3);exact⟨h1.1.trans h2.1,h1.2.trans h2.2⟩
 have nconst:∀p,p<=q.length->(st p).n=s.n:=by
  intro p
  induction p with
  | zero=>intro _;rw[h0]
  | succ p ih=>
   intro hp;have hx:q[p]?=some q[p]:=List.getElem?_eq_getElem (by omega);rw[(hrun.env (hms p _ hx)).2,ih (by omega)]
 have gafter:∀j,j<=k->∀b r,look (st (pa+j)).H b=some r->(b<(st pa).nx/\look (st pa).H b=some r)\/∃i,i<j/\b=(st pa).nx+k+i/\r=row (pa+i):=by
  intro j
  induction j with
  | zero=>intro _ b r hb;exact .inl ⟨fresh pa (by have:=hd.fits;omega) b r hb,hb⟩
  | succ j ih=>
   intro hj b r hb;have hx:q[pa+j]?=some q[pa+j]:=List.getElem?_eq_getElem (by omega);rw[show pa+(j+1)=pa+j+1 by omega,(grp (pa+j) _ hx (by omega) (by omega)).2.1,B0u]at hb;simp only[look]at hb;split at hb
   ·rename_i e;injection hb with hb;exact .inr ⟨j,by omega,by omega,hb.symm⟩
   ·rcases ih (by omega) b r hb with h | ⟨i,hi,e1,e2⟩
    ·exact .inl h
    ·exact .inr ⟨i,by omega,e1,e2⟩
 refine wp_region_any hmix ?_
 have main:∀(fuel:Nat) (S:Array Bool) (p0:Nat) (D:List Nat) (L:Loc) (a:Act) (w:World),S.size=ops.size->C0h ops S->ops.size<=cnt S+fuel ->
   InvD P G B q pa k row gv st vals s L0 w0 S p0 D L a w->wpAny P .any ops (Post P G B Q L0 s.H w0) fuel S a w:=by
  have full:∀(S:Array Bool) (p0:Nat) (D:List Nat) (L:Loc) (a:Act) (w:World),(∀i,i<ops.size->S.getD i false=true)->InvD P G B q pa k row gv st vals s L0 w0 S p0 D L a w->Post P G B Q L0 s.H w0 .normal a w:=by
   intro S p0 D L a w hS inv;have hxi:∀(p:Nat) x,q[p]?=some x->S.getD x.1 false=true:=fun p x hx=>hS _ (by have:=(List.getElem?_eq_some_iff.1 (hmem p x hx)).1;omega)
   have hD:D=[]:=by
    cases D with
    | nil=>rfl
    | cons d D=>
     obtain⟨e,p,h1,h2,h3⟩:=inv.part (by simp);have hx:q[p]?=some q[p]:=List.getElem?_eq_getElem (by omega);rcases (inv.done p _ hx (gkind p _ hx h1 h2).1).1 (hxi p _ hx)with h | h
     ·omega
     ·exact absurd h h3
   subst hD;have hheap:=inv.heap;have hnx:=inv.nx;have hext:=inv.ext;simp only[gH,List.length_nil,Nat.add_zero]at hheap hnx hext
   have hf:=flat p0 q.length inv.le (Nat.le_refl _) (fun p x h1 h2 h3=>by
    cases hk:A0o x.2.k with
    | true=>rfl
    | false=>
     rcases (inv.done p x h3 hk).1 (hxi p x h3)with h | h
     ·omega
     ·simp at h)
   refine⟨s2,L,hq,⟨?_,?_,inv.base,?_,inv.defers,fun k u hl=>?_⟩,?_,inv.μ⟩
   ·rw[<-hlast,hf.1];exact hheap
   ·rw[<-hlast,hf.2];exact hnx
   ·rw[<-hlast,nconst _ (Nat.le_refl _)];exact inv.size
   ·rw[<-hlast]at hl;rcases A8w h0 hall q.length (by simp) k u hl with⟨j,m,hj,hmj,hdst,rfl⟩ | ⟨hno,hs⟩
    ·have hx:q[j]?=some q[j]:=List.getElem?_eq_getElem hj
     have e:m=q[j].2:=by rw[hms j _ hx]at hmj;injection hmj with hmj;exact hmj.symm
     subst e;exact inv.vals j _ hx (hxi j _ hx) (by simp) k hdst
    ·refine inv.old k u (fun p x hx _=>hno p x.2 ?_ (hms p x hx)) hs;exact(List.getElem?_eq_some_iff.1 hx).1
   ·rw[<-hlast,hf.1];exact hext
  intro fuel
  induction fuel with
  | zero=>
   intro S p0 D L a w hs hS hc inv;have hall':=D7v (S:=S) (by omega);refine⟨?_,full S p0 D L a w (fun i hi=>hall' i (by omega)) inv⟩;rw[List.eq_nil_iff_forall_not_mem];intro i hi;obtain⟨h1,h2,_⟩:=B2d hi;rw[A8t (by omega),hall' i (by omega)]at h2;cases h2
  | succ fuel ih=>
   intro S p0 D L a w hs hS hc inv;refine⟨fun hr=>?_,fun i hi=>?_⟩
   ·refine full S p0 D L a w (fun i=>?_) inv
    induction i using Nat.strongRecOn with
    | _ i ihi=>
     intro hi
     cases hS':S.getD i false with
     | true=>rfl
     | false=>
      exfalso
      have:i∈Region.ready .any ops S:=D7u (o:=ops[i]) (Array.getElem?_eq_getElem hi) (by rw[A8t (by omega)];exact hS')
       (fun e he hb=>by
        have:=hd.back i _ (Array.getElem?_eq_getElem hi) e he hb
        exact ihi _ this (by omega))
      rw[hr]at this;cases this
   ·obtain⟨hi1,hun,o,ho,hp⟩:=B2d hi;rw[A8t (by omega)]at hun;obtain⟨p,mi,hx⟩:=hd.all i hi1;have hpl:p<q.length:=(List.getElem?_eq_some_iff.1 hx).1;obtain⟨mi',hmi',hcomp⟩:=(ha.at_ i).1 o (by simpa using ho)
    have emi:mi'=mi:=by have:=hmem p _ hx;simp only at this;rw[this]at hmi';injection hmi' with h;exact h.symm
    subst emi;obtain⟨hcop,hdst,hdlt,hwants⟩:=A5d hcomp;have bef:∀j,((ancs ops.toList []).getD i 0).testBit j=true->S.getD j false=true:=fun j hb=>A7c hS ho hb hp
    have aft:∀j,j<ops.size->((ancs ops.toList []).getD j 0).testBit i=true->S.getD j false=false:=by
     intro j hj hb
     cases hSj:S.getD j false with
     | false=>rfl
     | true=>
      have hjo:ops[j]?=some ops[j]:=Array.getElem?_eq_getElem hj;have:=A7c hS hjo hb (hS j _ hjo hSj);rw[this]at hun;cases hun
    have idx:∀(p':Nat) y,q[p']?=some y->y.1<ops.size:=fun p' y hy=>by have:=(List.getElem?_eq_some_iff.1 (hmem p' y hy)).1;omega
    have pD:p∉D:=fun h=>by
     have hg:=inv.grp p h;have:=(inv.done p _ hx (gkind p _ hx hg.1 hg.2).1).2 (.inr h);simp only at this;rw[this]at hun;cases hun
    have hbefore:∀(p':Nat) y,p'<p->q[p']?=some y->A0o y.2.k=false->¬(pa<=p'/\p<pa+k)->S.getD y.1 false=true:=by
     intro p' y hlt hy hyk hng;refine bef _ ?_;have hok:=hd.pair p' p _ _ hlt hy hx;unfold A9v at hok;simp only[Bool.and_eq_true]at hok;have h1:=hok.1.1.1;rw[hyk]at h1;simp only[Bool.false_and,Bool.false_or,Bool.or_eq_true,Bool.and_eq_true,decide_eq_true_eq]at h1;rcases h1 with h1 | h1
     ·exact h1
     ·exact absurd h1 hng
    have nogrp:D≠[]->p<pa+k:=fun hD=>by
     rcases Nat.lt_or_ge p (pa+k)with h | h
     ·exact h
     ·obtain⟨e,p',h1,h2,h3⟩:=inv.part hD;have hy:q[p']?=some q[p']:=List.getElem?_eq_getElem (by omega);have hyk:=(gkind p' _ hy h1 h2).1;rcases (inv.done p' _ hy hyk).1 (hbefore p' _ (by omega) hy hyk (by omega))with h | h
      ·omega
      ·exact absurd h h3
    have eye:∀k u,k∈mi'.eyes->look (st p).env k=some u->RepV P L w u (a.tmps.getD k undef):=by
     intro k' u hke hl;rcases A8w h0 hall p (by simp;omega) k' u hl with⟨j,m,hj,hmj,hdj,rfl⟩ | ⟨hno,hs'⟩
     ·have hy:q[j]?=some q[j]:=List.getElem?_eq_getElem (by omega)
      have e:m=q[j].2:=by rw[hms j _ hy]at hmj;injection hmj with hmj;exact hmj.symm
      subst e;have hok:=hd.pair j p _ _ hj hy hx;unfold A9v at hok;simp only[Bool.and_eq_true]at hok;have h2:=hok.1.1.2;rw[hdj]at h2;simp only[Bool.or_eq_true,Bool.not_eq_true',Bool.and_eq_true]at h2;rcases h2 with h2 | ⟨h2,h3⟩
      ·exact absurd hke (by simpa using h2)
      ·refine inv.vals j _ hy (bef _ h2) (fun hjD=>?_) k' hdj;have h4:=(inv.grp j hjD).1;have h5:=nogrp (List.ne_nil_of_mem hjD);simp[h4,h5]at h3
     ·refine inv.old k' u (fun p' y hy hSy hdy=>?_) hs';rcases Nat.lt_trichotomy p' p with hlt | heq | hgt
      ·exact hno p' y.2 hlt (hms p' y hy) hdy
      ·subst heq;rw[hx]at hy;injection hy with hy;subst hy;simp only at hSy;rw[hSy]at hun;cases hun
      ·have hok:=hd.pair p p' _ _ hgt hx hy;unfold A9v at hok;simp only[Bool.and_eq_true]at hok;have h3:=hok.1.2;rw[hdy]at h3;simp only[Bool.or_eq_true,Bool.not_eq_true']at h3;rcases h3 with h3 | h3
       ·exact absurd hke (by simpa using h3)
       ·have:=aft y.1 (idx p' y hy) h3;rw[this]at hSy;cases hSy
    have hS':C0h ops (S.setIfInBounds i true):=by
     intro j oj hoj hj e he hb;rw[A3r S i _ (by omega)]at hj ⊢;split
     ·rfl
     ·split at hj
      ·rename_i e1;subst e1;rw[ho]at hoj;injection hoj with hoj;subst hoj;exact hp e he hb
      ·exact hS j oj hoj hj e he hb
    have hc':ops.size<=cnt (S.setIfInBounds i true)+fuel:=by rw[E6a (by omega) hun];omega
    have dsts:∀(p':Nat) y k',q[p']?=some y->i≠y.1->y.2.dst=some k'->o.dst≠some k':=by
     intro p' y k' hy e hk;rw[<-hdst];intro hcon
     have epn:p≠p':=fun ep=>by subst ep;rw[hx]at hy;injection hy with hy;subst hy;exact e rfl
     rcases Nat.lt_or_gt_of_ne epn with hlt | hgt
     ·have hok:=hd.pair p p' _ _ hlt hx hy;unfold A9v at hok;simp only[Bool.and_eq_true]at hok;have h4:=hok.2;rw[hcon]at h4;simp only[bne_iff_ne]at h4;exact h4 hk
     ·have hok:=hd.pair p' p _ _ hgt hy hx;unfold A9v at hok;simp only[Bool.and_eq_true]at hok;have h4:=hok.2;rw[hk]at h4;simp only[bne_iff_ne]at h4;exact h4 hcon
    have next:∀(p1:Nat) (L':Loc) (w':World) (u:Value),p1<=q.length->(D≠[]->p1=p0)->(p1<=pa\/pa+k<=p1)->(st p1).nx=(st p1).nx ->
      (∀(p':Nat) y,q[p']?=some y->A0o y.2.k=false->((S.setIfInBounds i true).getD y.1 false=true ↔ p'<p1\/p'∈D)) ->
      RepV P L' w' (vals p) u->A1o P G L' (gH row (st p1).nx D (st p1).H) w'->L'.nx=(st p1).nx+D.length->Mono L w L' w'->Ext L (gH row (st p0).nx D (st p0).H) w L' (gH row (st p1).nx D (st p1).H) w' ->
      wpAny P .any ops (Post P G B Q L0 s.H w0) fuel (S.setIfInBounds i true) (a.put o.dst u) w':=by
     intro p1 L' w' u hp1 hDp hout _ hdone hru hok' hnx' hm' hx';refine ih _ p1 D L' _ w' (by simpa using hs) hS' hc' ⟨hp1,fun hD=>?_,inv.grp,inv.nodup,hout,hdone,hok',hnx',Nat.le_trans inv.base hm'.nx,?_,?_,?_,?_,?_,inv.ext.trans hx',fun b hb=>(hm'.μ b (Nat.lt_of_lt_of_le hb inv.base)).trans (inv.μ b hb)⟩
     ·rw[hDp hD];exact inv.part hD
     ·rw[<-inv.size];cases o.dst<;>simp[Act.put]
     ·cases o.dst<;>simp[Act.put,inv.defers]
     ·intro p' y hy hSy hpD k' hk;rw[A5x];by_cases e:i=y.1
      ·have ep:=uniq p p' _ _ hx hy e;subst ep;rw[hx]at hy;injection hy with hy;subst hy;rw[if_pos ⟨by rw[<-hdst];exact hk,by rw[inv.size,hn];exact hdlt k' (by rw[<-hdst];exact hk)⟩];exact hru
      ·rw[A3r S i _ (by omega),if_neg e]at hSy;rw[if_neg (fun h=>dsts p' y k' hy e hk h.1)];exact RepV.keep hm' _ (inv.vals p' y hy hSy hpD k' hk)
     ·intro p' y hy hpD k' hk;rw[A5x]
      have e:i≠y.1:=fun e=>by
       have ep:=uniq p p' _ _ hx hy e;subst ep;exact pD hpD
      rw[if_neg (fun h=>dsts p' y k' hy e hk h.1),hDp (List.ne_nil_of_mem hpD)];exact RepV.keep hm' _ (inv.gvals p' y hy hpD k' hk)
     ·intro k' u' hno h0';rw[A5x];have hk:=hno p _ hx (by rw[A3r S i _ (by omega),if_pos rfl]);rw[if_neg (fun h=>hk (by rw[hdst];exact h.1))];refine RepV.keep hm' u' (inv.old k' u' (fun p' y hy hSy=>hno p' y hy ?_) h0');rw[A3r S i _ (by omega)];split
      ·rfl
      ·exact hSy
    have keepdone:A0o mi'.k=true->∀(p':Nat) y,q[p']?=some y->A0o y.2.k=false->((S.setIfInBounds i true).getD y.1 false=true ↔ p'<p0\/p'∈D):=by
     intro hquiet p' y hy hyk;rw[A3r S i _ (by omega)];by_cases e:i=y.1
     ·have ep:=uniq p p' _ _ hx hy e;subst ep;rw[hx]at hy;injection hy with hy;subst hy;rw[hquiet]at hyk;cases hyk
     ·rw[if_neg e];exact inv.done p' y hy hyk
    have hi':Interp P G B L ({ ((st p).only mi'.eyes)with H:=gH row (st p0).nx D (st p0).H,nx:=(st p0).nx+D.length }:A0c) a w:=by
     refine⟨inv.heap,inv.nx,inv.base,by show a.tmps.size=(st p).n;rw[nconst p (by omega)];exact inv.size,inv.defers,fun k u hl=>?_⟩;have hl':look ((st p).only mi'.eyes).env k=some u:=hl;rw[B1a]at hl';split at hl'
     ·rename_i hke;exact eye k u hke hl'
     ·cases hl'
    have hww:({ ((st p).only mi'.eyes)with H:=gH row (st p0).nx D (st p0).H,nx:=(st p0).nx+D.length }:A0c).wants ops o=mi'.wants (st p).env:=by
     rw[hwants];exact C4j (st p) mi' mi'.eyes (fun _ h=>h)
    have hev:mi'.xs.map (·.ev ({ ((st p).only mi'.eyes)with H:=gH row (st p0).nx D (st p0).H,nx:=(st p0).nx+D.length }:A0c).env)=mi'.xs.map (·.ev (st p).env):=E5y (st p) mi' mi'.eyes (fun _ h=>h);unfold wpOp;rw[ho];simp only;by_cases hgp:pa<=p/\p<pa+k
    ·
     have hk:=gkind p _ hx hgp.1 hgp.2;simp only at hk;obtain⟨gval,gst,gev,grep⟩:=grp p _ hx hgp.1 hgp.2;simp only at gval gst gev grep
     have hp0:p0<=pa:=by
      rcases inv.out with h | h
      ·exact h
      ·have:=(inv.done p _ hx hk.1).2 (.inl (by omega));simp only at this;rw[this]at hun;cases hun
     have hpa:=hd.fits
     have hf:=flat p0 pa hp0 (by omega) (fun p' y h1 h2 h3=>by
      cases hyk:A0o y.2.k with
      | true=>rfl
      | false=>
       rcases (inv.done p' y h3 hyk).1 (hbefore p' y (by omega) h3 hyk (by omega))with h | h
       ·omega
       ·have:=inv.grp p' h;omega)
     have hwt:mi'.wants (st p).env=some true:=by
      have:=(hd.grp p _ hx hgp.1 hgp.2).2;simp only at this;simp[Mini.wants,this]
     rw[if_pos (hi'.wants (hww.trans hwt))];have hek':=gev (gH row (st p0).nx D (st p0).H) ((st p0).nx+D.length);rw[<-hev]at hek';have haop:=B6q (B:=B) hΦ hcop hek' L a w hi';refine .inl (A2j ?_ (fun _ _ _ h=>h.elim) haop);rintro a' w' ⟨u,L',rfl,hru,hok',hnx',hm',hx'⟩;have hnodup':(p::D).Nodup:=List.nodup_cons.2 ⟨pD,inv.nodup⟩
     have hgrp':∀p'∈p::D,pa<=p'/\p'<pa+k:=by
      intro p' h;rcases List.mem_cons.1 h with rfl | h
      ·exact hgp
      ·exact inv.grp p' h
     have hdone':∀(p':Nat) y,q[p']?=some y->A0o y.2.k=false->((S.setIfInBounds i true).getD y.1 false=true ↔ p'<p0\/p'∈p::D):=by
      intro p' y hy hyk;rw[A3r S i _ (by omega)];by_cases e:i=y.1
      ·have ep:=uniq p p' _ _ hx hy e;subst ep;simp[e]
      ·rw[if_neg e,inv.done p' y hy hyk,List.mem_cons]
       have:p'≠p:=fun ep=>by subst ep;rw[hx]at hy;injection hy with hy;subst hy;exact e rfl
       simp[this]
     have hvals':∀(p':Nat) y,q[p']?=some y->(S.setIfInBounds i true).getD y.1 false=true->p'∉p::D->∀k',y.2.dst=some k'->RepV P L' w' (vals p') ((a.put o.dst u).tmps.getD k' undef):=by
      intro p' y hy hSy hpD k' hk;rw[A5x]
      have e:i≠y.1:=fun e=>by
       have ep:=uniq p p' _ _ hx hy e;subst ep;exact hpD (by simp)
      rw[A3r S i _ (by omega),if_neg e]at hSy;rw[if_neg (fun h=>dsts p' y k' hy e hk h.1)];exact RepV.keep hm' _ (inv.vals p' y hy hSy (fun h=>hpD (by simp[h])) k' hk)
     have hgvals':∀(p':Nat) y,q[p']?=some y->p'∈p::D->∀k',y.2.dst=some k'->RepV P L' w' (gv p' ((st p0).nx+gpos (p::D) p')) ((a.put o.dst u).tmps.getD k' undef):=by
      intro p' y hy hpD k' hk;rw[A5x];by_cases ep:p=p'
      ·subst ep;rw[hx]at hy;injection hy with hy;subst hy;rw[if_pos ⟨by rw[<-hdst];exact hk,by rw[inv.size,hn];exact hdlt k' (by rw[<-hdst];exact hk)⟩];simpa[gpos]using hru
      ·have e:i≠y.1:=fun e=>ep (uniq p p' _ _ hx hy e)
       have hpD':p'∈D:=by simpa[Ne.symm ep]using hpD
       rw[if_neg (fun h=>dsts p' y k' hy e hk h.1)];simp only[gpos,if_neg ep];exact RepV.keep hm' _ (inv.gvals p' y hy hpD' k' hk)
     have hold':∀k' u',(∀(p':Nat) y,q[p']?=some y->(S.setIfInBounds i true).getD y.1 false=true->y.2.dst≠some k')->look s.env k'=some u'->RepV P L' w' u' ((a.put o.dst u).tmps.getD k' undef):=by
      intro k' u' hno h0';rw[A5x];have hk:=hno p _ hx (by rw[A3r S i _ (by omega),if_pos rfl]);rw[if_neg (fun h=>hk (by rw[hdst];exact h.1))];refine RepV.keep hm' u' (inv.old k' u' (fun p' y hy hSy=>hno p' y hy ?_) h0');rw[A3r S i _ (by omega)];split
      ·rfl
      ·exact hSy
     have hsz:(a.put o.dst u).tmps.size=s.n:=by rw[<-inv.size];cases o.dst<;>simp[Act.put]
     have hdf:(a.put o.dst u).defers=[]:=by cases o.dst<;>simp[Act.put,inv.defers]
     have hxt:=inv.ext.trans hx';have hμ':∀b,b<B->L'.μ b=L0.μ b:=fun b hb=>(hm'.μ b (Nat.lt_of_lt_of_le hb inv.base)).trans (inv.μ b hb);have hDk:(p::D).length<=k:=C6t k hnodup' hgrp';simp only[List.length_cons]at hDk;by_cases hmiss:∃p',pa<=p'/\p'<pa+k/\p'∉p::D
     ·
      refine ih _ pa (p::D) L' _ w' (by simpa using hs) hS' hc' ⟨by omega,fun _=>⟨rfl,hmiss⟩,hgrp',hnodup',.inl (Nat.le_refl _),?_,?_,?_,Nat.le_trans inv.base hm'.nx,hsz,hdf,hvals',?_,hold',?_,hμ'⟩
      ·intro p' y hy hyk;rw[hdone' p' y hy hyk];constructor
       ·rintro(h | h)
        ·exact .inl (by omega)
        ·exact .inr h
       ·rintro(h | h)
        ·refine(inv.done p' y hy hyk).1 (hbefore p' y (by omega) hy hyk (by omega)) |>.imp (fun h=>h) (fun h'=>by simp[h'])
        ·exact .inr h
      ·rw[hf.1,hf.2];exact hok'
      ·rw[hf.2,List.length_cons];omega
      ·rw[hf.2];exact hgvals'
      ·rw[hf.1,hf.2];exact hxt
     ·
      have hmem':∀j,j<k->pa+j∈p::D:=fun j hj=>Classical.byContradiction fun h=>hmiss ⟨pa+j,by omega,by omega,h⟩;have nx0:(st p0).nx=(st pa).nx:=hf.2.symm
      have hkpos:0<k:=by omega
      have hend:=gnx (k-1) (by omega);rw[show pa+(k-1)+1=pa+k by omega]at hend
      have hgk:∀j,j<k->gpos (p::D) (pa+j)<k:=fun j hj=>by have:=B6r (hmem' j hj);simp only[List.length_cons]at this;omega
      obtain⟨hok1,hm1,hx1⟩:=D4o (L1:={ I:=L'.I,μ:=fun b=>if(st pa).nx+k<=b then L'.μ ((st pa).nx+gpos (p::D) (pa+(b-((st pa).nx+k))))else L'.μ b,nx:=(st pa).nx+2*k }) (H1:=(st (pa+k)).H)
       (fun b=>if(st pa).nx+k<=b then(st pa).nx+gpos (p::D) (pa+(b-((st pa).nx+k)))else b) hok' rfl (by rw[hnx',nx0];simp only;omega) (fun b hb=>by
        rw[hnx',nx0]at hb;simp only
        rw[if_neg (by omega)]) (fun b r hb=>by
        rcases gafter k (Nat.le_refl _) b r hb with⟨h1,h2⟩ | ⟨j,hj,rfl,rfl⟩
        ·refine⟨by simp only;omega,?_,?_⟩
         ·rw[if_neg (by omega)];have:=B4e (row:=row) (nx:=(st p0).nx) (H:=(st p0).H) (p::D) (b:=b) (by omega);simp only[gH]at this;rw[this,<-hf.1];exact h2
         ·simp only;rw[if_neg (by omega),if_neg (by omega)]
        ·refine⟨by simp only;omega,?_,?_⟩
         ·rw[if_pos (by omega),show(st pa).nx+k+j-((st pa).nx+k)=j by omega];have:=E6d (row:=row) (nx:=(st p0).nx) (H:=(st p0).H) (hmem' j hj);simp only[gH]at this;rw[nx0]at this;rw[nx0];exact this
         ·simp only;rw[if_pos (by omega),if_pos (by omega)]) (fun b b' r r' hb hb' he=>by
        rcases gafter k (Nat.le_refl _) b r hb with⟨h1,h2⟩ | ⟨j,hj,rfl,rfl⟩<;>rcases gafter k (Nat.le_refl _) b' r' hb' with⟨h1',h2'⟩ | ⟨j',hj',rfl,rfl⟩
        ·rw[if_neg (by omega),if_neg (by omega)]at he;exact he
        ·rw[if_neg (by omega),if_pos (by omega)]at he;omega
        ·rw[if_pos (by omega),if_neg (by omega)]at he;omega
        ·rw[if_pos (by omega),if_pos (by omega),show(st pa).nx+k+j-((st pa).nx+k)=j by omega,show(st pa).nx+k+j'-((st pa).nx+k)=j' by omega]at he;have:=D7w (hmem' j hj) (hmem' j' hj') (by omega)
         omega)
      refine ih _ (pa+k) [] _ _ w' (by simpa using hs) hS' hc' ⟨by omega,fun h=>absurd rfl h,by simp,List.nodup_nil,.inr (Nat.le_refl _),?_,by simp only[gH];exact hok1,by simp only[List.length_nil,Nat.add_zero];exact hend.symm,Nat.le_trans inv.base (Nat.le_trans hm'.nx hm1.nx),hsz,hdf,?_,by simp,fun k' u' h1 h2=>RepV.keep hm1 _ (hold' k' u' h1 h2),by simp only[gH];exact hxt.trans hx1,fun b hb=>(hm1.μ b (Nat.lt_of_lt_of_le hb (Nat.le_trans inv.base hm'.nx))).trans (hμ' b hb)⟩
      ·intro p' y hy hyk;rw[hdone' p' y hy hyk];constructor
       ·rintro(h | h)
        ·exact .inl (by omega)
        ·exact .inl (hgrp' p' h).2
       ·rintro(h | h)
        ·rcases Nat.lt_or_ge p' pa with h1 | h1
         ·refine(inv.done p' y hy hyk).1 (hbefore p' y (by omega) hy hyk (by omega)) |>.imp (fun h=>h) (fun h'=>by simp[h'])
         ·have:=hmem' (p'-pa) (by omega);rw[show pa+(p'-pa)=p' by omega]at this;exact .inr this
        ·simp at h
      ·intro p' y hy hSy _ k' hk';by_cases hpD:p'∈p::D
       ·have hg:=hgrp' p' hpD;have h1:=RepV.keep hm1 _ (hgvals' p' y hy hpD k' hk');obtain⟨e1,_,_,e4⟩:=grp p' y hy hg.1 hg.2;rw[e1];refine e4 _ _ _ _ _ (by simp only;omega) ?_ h1;simp only;have:=B6r hpD;simp only[List.length_cons]at this;rw[if_pos (by omega),show(st pa).nx+k+(p'-pa)-((st pa).nx+k)=p'-pa by omega,show pa+(p'-pa)=p' by omega,nx0,if_neg (by omega)]
       ·exact RepV.keep hm1 _ (hvals' p' y hy hSy hpD k' hk')
    ·have hng:p<pa\/pa+k<=p:=by omega
     have hbefore':∀(p':Nat) y,p'<p->q[p']?=some y->A0o y.2.k=false->p'<p0:=by
      intro p' y hlt hy hyk;rcases (inv.done p' y hy hyk).1 (hbefore p' y hlt hy hyk (by omega))with h | h
      ·exact h
      ·have h1:=inv.grp p' h;have h2:=nogrp (List.ne_nil_of_mem h);omega
     have hdid:=step p _ hx hng;simp only at hdid;rcases hdid with⟨hquiet,hval,hst⟩ | ⟨hheavy,hwf,hv,hst⟩ | ⟨hheavy,hwt,H',nx',hek,hst⟩
     ·unfold valQ at hval;split at hval
      ·rename_i hwt;rw[if_pos (hi'.wants (hww.trans hwt))]
       have hval0:A1w Φ (st p0).H (st p0).nx mi'.k (mi'.xs.map (·.ev (st p).env))=some (vals p):=by
        by_cases hpp:p0<=p
        ·have hf:=flat p0 p hpp (by omega) (fun p' y h1 h2 h3=>by
          cases hyk:A0o y.2.k with
          | true=>rfl
          | false=>have:=hbefore' p' y h2 h3 hyk;omega)
         rw[<-hf.1,<-hf.2];exact hval
        ·have walk:∀p1,p<=p1->p1<=p0->A1w Φ (st p1).H (st p1).nx mi'.k (mi'.xs.map (·.ev (st p).env))=some (vals p):=by
          intro p1
          induction p1 with
          | zero=>
           intro h _
           have:p=0:=by omega
           subst this;exact hval
          | succ p1 ihp=>
           intro h1 h2;by_cases e:p=p1+1
           ·subst e;exact hval
           ·have hv1:=ihp (by omega) (by omega);have hle:=inv.le;have hy:q[p1]?=some q[p1]:=List.getElem?_eq_getElem (by have:=inv.le;omega);by_cases hgy:pa<=p1/\p1<pa+k
            ·refine A8v (fun b r hb=>?_) hv1;rw[(grp p1 _ hy hgy.1 hgy.2).2.1,B0u];simp only[look];have hfr:=fresh p1 (by have:=inv.le;omega) b r hb;by_cases e1:p1=pa
             ·subst e1;rw[if_neg (by omega)];exact hb
             ·rcases gafter (p1-pa) (by omega) b r (by rw[show pa+(p1-pa)=p1 by omega];exact hb)with⟨h3,_⟩ | ⟨i3,h3,h4,_⟩
              ·rw[if_neg (by omega)];exact hb
              ·rw[if_neg (by omega)];exact hb
            ·have hdy:=step p1 _ hy (by omega)
             cases hyk:A0o (q[p1]).2.k with
             | true=>
              have:=B4z hdy hyk;rw[this.1,this.2];exact hv1
             | false=>
              by_cases hind:B3j mi'.k=true
              ·exact B4d hind hv1
              ·have hlt:p<p1:=by
                rcases Nat.lt_or_ge p p1 with h | h
                ·exact h
                ·have:p1=p:=by omega
                 subst this;rw[hx]at hy;injection hy with hy;rw[<-hy]at hyk;simp only at hyk;rw[hquiet]at hyk;cases hyk
               have hSy:=(inv.done p1 _ hy hyk).2 (.inl (by omega));have hok:=hd.pair p p1 _ _ hlt hx hy;unfold A9v at hok;simp only[Bool.and_eq_true]at hok;have h1':=hok.1.1.1;simp only[hquiet,hyk,Bool.true_and,Bool.false_or,Bool.or_eq_true,Bool.and_eq_true,decide_eq_true_eq]at h1';rcases h1' with(((h | h) | h) | h) | h
               ·exact absurd h hind
               ·exact A8v ((B1b hΦ hdy (fresh p1 (by have:=inv.le;omega))).2 (.inl h)) hv1
               ·exact hrun.again p p1 mi' (by simpa using h) (hms p _ hx)
               ·have:=aft _ (idx p1 _ hy) h;rw[this]at hSy;cases hSy
               ·omega
         exact walk p0 (by omega) (Nat.le_refl _)
       have hval':A1w Φ (gH row (st p0).nx D (st p0).H) ((st p0).nx+D.length) mi'.k (mi'.xs.map (·.ev (st p).env))=some (vals p):=
        A8v (D0i (fresh p0 inv.le) D) hval0
       have hek':A0i Φ ({ ((st p).only mi'.eyes)with H:=gH row (st p0).nx D (st p0).H,nx:=(st p0).nx+D.length }:A0c).H ({ ((st p).only mi'.eyes)with H:=gH row (st p0).nx D (st p0).H,nx:=(st p0).nx+D.length }:A0c).nx mi'.k (mi'.xs.map (·.ev ({ ((st p).only mi'.eyes)with H:=gH row (st p0).nx D (st p0).H,nx:=(st p0).nx+D.length }:A0c).env))=some (vals p,gH row (st p0).nx D (st p0).H,(st p0).nx+D.length):=by
        rw[hev];exact C0n hval'
       have haop:=B6q (B:=B) hΦ hcop hek' L a w hi';refine .inl (A2j ?_ (fun _ _ _ h=>h.elim) haop);rintro a' w' ⟨u,L',rfl,hru,hok',hnx',hm',hx'⟩
       exact next p0 L' w' u inv.le (fun _=>rfl) inv.out rfl (keepdone hquiet) hru hok' hnx' hm' hx'
      ·rename_i hwf;rw[if_neg (by rw[hi'.wants (hww.trans hwf)];simp)];injection hval with hval
       exact next p0 L w undef inv.le (fun _=>rfl) inv.out rfl (keepdone hquiet) (by rw[<-hval];simp only[RepV,RepT]) inv.heap inv.nx (Mono.refl _ _) (Ext.refl _ _ _)
      ·cases hval
     all_goals
      have hp0p:p0<=p:=by
       rcases Nat.lt_or_ge p p0 with h | h
       ·have:=(inv.done p _ hx hheavy).2 (.inl h);simp only at this;rw[this]at hun;cases hun
       ·exact h
      have hD:D=[]:=by
       cases hD:D with
       | nil=>rfl
       | cons d D'=>
        exfalso
        have hne:D≠[]:=by rw[hD];simp
        have h1:=nogrp hne;have h2:=(inv.part hne).1;omega
      subst hD
      have hf:=flat p0 p hp0p (by omega) (fun p' y h1 h2 h3=>by
       cases hyk:A0o y.2.k with
       | true=>rfl
       | false=>have:=hbefore' p' y h2 h3 hyk;omega)
      have hdone':∀(p':Nat) y,q[p']?=some y->A0o y.2.k=false->((S.setIfInBounds i true).getD y.1 false=true ↔ p'<p+1\/p'∈([]:List Nat)):=by
       intro p' y hy hyk;rw[A3r S i _ (by omega)];by_cases e:i=y.1
       ·have ep:=uniq p p' _ _ hx hy e;subst ep;simp[e]
       ·rw[if_neg e,inv.done p' y hy hyk];simp only[List.not_mem_nil,or_false];constructor
        ·intro h;omega
        ·intro h
         have:p'≠p:=fun ep=>by subst ep;rw[hx]at hy;injection hy with hy;subst hy;exact e rfl
         exact hbefore' p' y (by omega) hy hyk
      have hout:p+1<=pa\/pa+k<=p+1:=by omega
     ·rw[if_neg (by rw[hi'.wants (hww.trans hwf)];simp)]
      have e1:(st (p+1)).H=(st p0).H:=by rw[hst,B0u,hf.1]
      have e2:(st (p+1)).nx=(st p0).nx:=by rw[hst,A8p,hf.2]
      refine next (p+1) L w undef (by omega) (fun h=>absurd rfl h) hout rfl hdone' (by rw[hv];simp only[RepV,RepT]) (by rw[e1];exact inv.heap) (by rw[e2];exact inv.nx) (Mono.refl _ _) (by rw[e1];exact Ext.refl _ _ _)
     ·rw[if_pos (hi'.wants (hww.trans hwt))]
      have hek':A0i Φ ({ ((st p).only mi'.eyes)with H:=gH row (st p0).nx [] (st p0).H,nx:=(st p0).nx+([]:List Nat).length }:A0c).H ({ ((st p).only mi'.eyes)with H:=gH row (st p0).nx [] (st p0).H,nx:=(st p0).nx+([]:List Nat).length }:A0c).nx mi'.k (mi'.xs.map (·.ev ({ ((st p).only mi'.eyes)with H:=gH row (st p0).nx [] (st p0).H,nx:=(st p0).nx+([]:List Nat).length }:A0c).env))=some (vals p,H',nx'):=by
       rw[hev];show A0i Φ (st p0).H (st p0).nx mi'.k _=_;rw[<-hf.1,<-hf.2];exact hek
      have haop:=B6q (B:=B) hΦ hcop hek' L a w hi';refine .inl (A2j ?_ (fun _ _ _ h=>h.elim) haop);rintro a' w' ⟨u,L',rfl,hru,hok',hnx',hm',hx'⟩
      have e1:(st (p+1)).H=H':=by rw[hst,B0u]
      have e2:(st (p+1)).nx=nx':=by rw[hst,A8p]
      exact next (p+1) L' w' u (by omega) (fun h=>absurd rfl h) hout rfl hdone' hru (by simp only[gH];rw[e1];exact hok') (by rw[e2];exact hnx') hm' (by simp only[gH];rw[e1];exact hx')
 obtain⟨hok,hm,hx⟩:=hi0.heap.of_heap (w':={ w0 with drawn:=w0.drawn+1 }) ⟨rfl,rfl,rfl⟩ rfl
 have hfalse:∀i,(Array.replicate ops.size false).getD i false=false:=by
  intro i;simp only[Array.getD_eq_getD_getElem?,Array.getElem?_replicate];split<;>rfl
 refine main ops.size _ 0 [] L0 a0 _ (by simp) ?_ (by omega) ⟨Nat.zero_le _,fun h=>absurd rfl h,by simp,List.nodup_nil,.inl (Nat.zero_le _),?_,by simp only[gH];rw[h0];exact hok,by rw[h0];exact hi0.nx,hi0.base,hi0.size,hi0.defers,?_,by simp,?_,by simp only[gH];rw[h0];exact hx,fun _ _=>rfl⟩
 ·intro i o _ h;rw[hfalse]at h;cases h
 ·intro p x _ _;rw[hfalse];simp
 ·intro p x _ h;rw[hfalse]at h;cases h
 ·intro k u _ hu;exact RepV.keep hm u (hi0.env k u hu)
theorem F2f {s:A0c} {m:Mini} {v:PV} {H':Heap} {nx':Nat} (h:valD Φ s m=some (v,H',nx')):Did Φ s m v (({ s with H:=H',nx:=nx' }:A0c).put m.dst v):=by
 unfold valD at h;split at h
 ·rename_i hq;obtain⟨u,hu,e⟩:=A0w h;injection e with e1 e2;injection e2 with e2 e3;subst e1;subst e2;subst e3;exact .inl ⟨hq,hu,rfl⟩
 ·rename_i hq
  have hq:A0o m.k=false:=by simpa using hq
  split at h
  ·rename_i hw;exact .inr (.inr ⟨hq,hw,H',nx',h,rfl⟩)
  ·rename_i hw;injection h with e;injection e with e1 e2;injection e2 with e2 e3;subst e1;subst e2;subst e3;exact .inr (.inl ⟨hq,hw,rfl,rfl⟩)
  ·cases h
def G0b (Φ:A0u) (k n:Nat):GI->A0c->Nat->Pend->PV->A0c->Nat->Pend->Prop
 | .o m kp ag,s,b,pd,v,s',b',pd'=>Did Φ s m v s'/\b'=b/\pd'=B9a kp n m s v pd/\agnP Φ pd s'.H s'.nx ag
 | .g j m,s,b,pd,v,s',b',pd'=>b'=(if j=0 then s.nx else b)/\pd'=pd/\∃H' n',A0i Φ s.H (b'+k+j) m.k (m.xs.map (·.ev s.env))=some (v,H',n')/\s'=({ s with H:=H',nx:=b'+2*k }:A0c).put m.dst v
theorem C4n:∀(l:List GI) {n b:Nat} {pd:Pend} {s s':A0c},runG Φ k n b pd l s=some s'->∃(st:Nat->A0c) (vals:Nat->PV) (bs:Nat->Nat) (pds:Nat->Pend),st 0=s/\bs 0=b/\pds 0=pd/\st l.length=s' /\
  ∀(p:Nat) x,l[p]?=some x->G0b Φ k (n+p) x (st p) (bs p) (pds p) (vals p) (st (p+1)) (bs (p+1)) (pds (p+1))
 | [],n,b,pd,s,s',h=>by
  simp only[runG,Option.some.injEq]at h;exact⟨fun _=>s,fun _=>.dead,fun _=>b,fun _=>pd,rfl,rfl,rfl,h,by simp⟩
 | y::r,n,b,pd,s,s',h=>by
  have key:∃v s1 b1 pd1,G0b Φ k n y s b pd v s1 b1 pd1/\runG Φ k (n+1) b1 pd1 r s1=some s':=by
   cases y with
   | o m kp ag=>
    simp only[runG]at h;split at h
    ·rename_i v H' nx' hv;split at h
     ·rename_i hag;refine⟨v,_,b,_,⟨F2f hv,rfl,rfl,?_⟩,h⟩;rw[B0u,A8p];exact hag
     ·cases h
    ·cases h
   | g j m=>
    simp only[runG]at h;split at h
    ·rename_i v H' n' hv;exact⟨v,_,_,pd,⟨rfl,rfl,H',n',hv,rfl⟩,h⟩
    ·cases h
  obtain⟨v,s1,b1,pd1,A4k,hr⟩:=key;obtain⟨st,vals,bs,pds,e1,e2,e3,e4,hall⟩:=C4n r hr;refine⟨fun p=>match p with | 0=>s | p+1=>st p,fun p=>match p with | 0=>v | p+1=>vals p,fun p=>match p with | 0=>b | p+1=>bs p,fun p=>match p with | 0=>pd | p+1=>pds p,rfl,rfl,rfl,by simpa using e4,fun p x hp=>?_⟩
  cases p with
  | zero=>
   simp only[List.getElem?_cons_zero,Option.some.injEq]at hp;subst hp;simp only[Nat.add_zero];rw[e1,e2,e3];exact A4k
  | succ p=>
   have:=hall p x (by simpa using hp);rw[show n+1+p=n+(p+1)by omega]at this;exact this
theorem C4o {l:List GI} {s s2:A0c} (h:runG Φ k 0 0 [] l s=some s2) (hsh:B8d pa k R l=true):∃st vals,E2j Φ (l.map GI.mini) pa k R s s2 st vals:=by
 obtain⟨st,vals,bs,pds,e1,e2,e3,e4,hall⟩:=C4n l h;simp only[Nat.zero_add]at hall;unfold B8d at hsh;simp only[Bool.and_eq_true]at hsh
 have shape:∀(p:Nat) x,l[p]?=some x->match x with
   | .o _ _ _=>p<pa\/pa+k<=p
   | .g j _=>pa<=p/\p<pa+k/\p=pa+j:=by
  intro p x hx;have:=List.all_eq_true.1 hsh.1 (x,p) (by rw[List.mem_zipIdx_iff_getElem?];exact hx)
  cases x with
  | o m kp ag=>simpa using this
  | g j m=>simpa[and_assoc]using this
 have item:∀(p:Nat) m,(l.map GI.mini)[p]?=some m->∃x,l[p]?=some x/\x.mini=m:=by
  intro p m hm;rw[List.getElem?_map]at hm;obtain⟨x,hx,e⟩:=A0w hm;exact⟨x,hx,e⟩
 have base:∀j,pa+j+1<=l.length->j<k->bs (pa+j+1)=(st pa).nx:=by
  intro j
  induction j with
  | zero=>
   intro hl hk;have hx:l[pa]?=some l[pa]:=List.getElem?_eq_getElem (by omega);have hs:=shape pa _ hx;have hst:=hall pa _ hx
   cases hy:l[pa]with
   | o m kp ag=>rw[hy]at hs;simp only at hs;omega
   | g j m=>
    rw[hy]at hs hst;simp only at hs
    have:j=0:=by omega
    subst this;exact hst.1
  | succ j ih=>
   intro hl hk;have hx:l[pa+(j+1)]?=some l[pa+(j+1)]:=List.getElem?_eq_getElem (by omega);have hs:=shape _ _ hx;have hst:=hall _ _ hx
   cases hy:l[pa+(j+1)]with
   | o m kp ag=>rw[hy]at hs;simp only at hs;omega
   | g i m=>
    rw[hy]at hs hst;simp only at hs
    have:i=j+1:=by omega
    subst this;have h1:=hst.1;simp only[Nat.add_eq_zero_iff,Nat.succ_ne_self,and_false,if_false]at h1;rw[h1];exact ih (by omega) (by omega)
 have kept:∀(p:Nat),p<=l.length->∀i x,look (pds p) i=some x->∃y:GI,l[i]?=some y/\x=(y.mini.k,y.mini.xs.map (·.ev (st i).env),vals i):=by
  intro p
  induction p with
  | zero=>intro _ i x hx;rw[e3]at hx;simp[look]at hx
  | succ p ih=>
   intro hp i x hx;have hy:l[p]?=some l[p]:=List.getElem?_eq_getElem (by omega);have hst:=hall p _ hy
   cases hg:l[p]with
   | o m kp ag=>
    rw[hg]at hst;rw[hst.2.2.1]at hx;unfold B9a at hx;split at hx
    ·simp only[look]at hx;split at hx
     ·rename_i e;subst e;injection hx with hx;exact⟨_,hy,by rw[hg,<-hx];rfl⟩
     ·exact ih (by omega) i x hx
    ·exact ih (by omega) i x hx
   | g j m=>
    rw[hg]at hst;rw[hst.2.1]at hx;exact ih (by omega) i x hx
 refine⟨st,vals,e1,by simpa using e4,fun p m hm hp=>?_,fun p m hm h1 h2=>?_,fun p p' m hR hm=>?_⟩
 ·obtain⟨x,hx,rfl⟩:=item p m hm;have hs:=shape p x hx;have hst:=hall p x hx
  cases x with
  | o m kp ag=>exact hst.1
  | g j m=>simp only at hs;omega
 ·obtain⟨x,hx,rfl⟩:=item p m hm;have hs:=shape p x hx;have hst:=hall p x hx
  cases x with
  | o m kp ag=>simp only at hs;omega
  | g j m=>
   simp only at hs;obtain⟨hb,_,H',n',he,hst'⟩:=hst
   have hbp:bs (p+1)=(st pa).nx:=by
    have:=base (p-pa) (by have:=(List.getElem?_eq_some_iff.1 hx).1;omega) (by omega);rwa[show pa+(p-pa)+1=p+1 by omega]at this
   rw[hbp]at he hst';rw[show p-pa=j by omega];exact⟨H',n',he,hst'⟩
 ·have:=List.all_eq_true.1 hsh.2 (p,p') hR;simp only at this;split at this
  ·rename_i m' kp ag hx';have hst:=hall p' _ hx';obtain⟨x,hx,he⟩:=hst.2.2.2 p (by simpa using this);obtain⟨y,hy,rfl⟩:=kept p' (by have:=(List.getElem?_eq_some_iff.1 hx').1;omega) p x hx;obtain⟨x2,hx2,rfl⟩:=item p m hm;rw[hy]at hx2;injection hx2 with hx2;subst hx2;exact he
  ·cases this
theorem D4q {l:List Mini} {s s2:A0c} (h:runD Φ l s=some s2):∃st vals,E2j Φ l 0 0 [] s s2 st vals:=by
 obtain⟨st,vals,e1,e2,hall⟩:=C4l l h;exact⟨st,vals,e1,e2,fun p m hm _=>hall p m hm,fun p m _ _ h2=>by omega,fun p p' m hR=>by simp at hR⟩
end
section
variable {P : Program} {G : A1c} {B N : Nat} {Φ : A0u} {ops : Array Oper} {l : List Mini} {π : List Nat} {R : List (Nat × Nat)}
def E6e:MK->Bool
 | .alloc _ _=>true
 | _=>false
theorem E6f {k:MK} (h:E6e k=true):∃t zc,k = .alloc t zc:=by cases k<;>simp_all [E6e]
def A9w (A:List Nat) (pe:Nat) (R:List (Nat×Nat)) (p p':Nat) (x y:Nat×Mini):Bool:=
 (A0o x.2.k&&(A0o y.2.k||B3j x.2.k||B0i y.2.k||R.contains (p,p'))||(A.getD y.1 0).testBit x.1||p'==pe) &&
 ((match x.2.dst with
  | some d=>!(y.2.eyes.contains d)
  | none=>true)||(A.getD y.1 0).testBit x.1) &&
 ((match y.2.dst with
  | some d=>!(x.2.eyes.contains d)
  | none=>true)||(A.getD y.1 0).testBit x.1) &&
 ((match x.2.dst with
  | some d=>y.2.dst != some d
  | none=>true)&&(p != pe || !(A0o y.2.k) || !(A.getD y.1 0).testBit x.1))
def B5b (A:List Nat) (pe:Nat) (R:List (Nat×Nat)):Nat->List (Nat×Mini)->Bool
 | _,[]=>true
 | p,x::r=>(r.zipIdx (p+1)).all (fun y=>A9w A pe R p y.2 x y.1)&&B5b A pe R (p+1) r
def A9x (ops:Array Oper) (l:List Mini) (π:List Nat) (pe:Nat) (R:List (Nat×Nat)):Bool:=
 (ops.toList.zipIdx.all fun p=>p.1.after.toList.all fun e=>decide (e.on<p.2) || !Region.binds .any e) &&
 ((A1h l π).length==l.length)&&((List.range l.length).all fun i=>π.contains i)&&decide (π.Nodup) &&
 B5b (ancs ops.toList []) pe R 0 (A1h l π)&&(match (A1h l π)[pe]? with
  | some x=>E6e x.2.k&&x.2.g.isNone
  | none=>false)
structure G0c (ops:Array Oper) (q:List (Nat×Mini)) (pe:Nat) (R:List (Nat×Nat)):Prop where
 back:∀(i:Nat) o,ops[i]?=some o->∀e∈o.after.toList,Region.binds .any e=true->e.on<i
 pair:∀(p p':Nat) x y,p<p'->q[p]?=some x->q[p']?=some y->A9w (ancs ops.toList []) pe R p p' x y=true
 all:∀i,i<ops.size->∃(p:Nat) (m:Mini),q[p]?=some (i,m)
 zero:∃x t zc,q[pe]?=some x/\x.2.k = .alloc t zc/\x.2.g=none
theorem B3l {A:List Nat} {pe:Nat}:∀{q:List (Nat×Mini)} {n:Nat},B5b A pe R n q=true->∀(p p':Nat) x y,p<p'->q[p]?=some x->q[p']?=some y->A9w A pe R (n+p) (n+p') x y=true
 | [],_,_,p,p',x,y,_,h,_=>by simp at h
 | a::q,n,hq,p,p',x,y,hlt,h,h'=>by
  simp only[B5b,Bool.and_eq_true]at hq
  cases p' with
  | zero=>omega
  | succ p'=>
   simp only[List.getElem?_cons_succ]at h'
   cases p with
   | zero=>
    simp only[List.getElem?_cons_zero,Option.some.injEq]at h;subst h
    have:=List.all_eq_true.1 hq.1 (y,n+1+p') (by
     rw[List.mem_zipIdx_iff_le_and_getElem?_sub]
     exact⟨by omega,by rw[show n+1+p'-(n+1)=p' by omega];exact h'⟩)
    rw[show n+(p'+1)=n+1+p' by omega];simpa using this
   | succ p=>
    have:=B3l hq.2 p p' x y (by omega) (by simpa using h) h';rwa[show n+1+p=n+(p+1)by omega,show n+1+p'=n+(p'+1)by omega]at this
theorem E2k {pe:Nat} (hl:ops.size=l.length) (h:A9x ops l π pe R=true):G0c ops (A1h l π) pe R/\(A1h l π).length=l.length/\((A1h l π).map Prod.fst).Nodup:=by
 unfold A9x at h;simp only[Bool.and_eq_true,decide_eq_true_eq,beq_iff_eq]at h;obtain⟨⟨⟨⟨⟨h1,h2⟩,h3⟩,h4⟩,h5⟩,h6⟩:=h;refine⟨⟨fun i o ho e he hb=>?_,fun p p' x y hlt hx hy=>?_,fun i hi=>?_,?_⟩,h2,?_⟩
 ·have hq:(o,i)∈ops.toList.zipIdx:=by
   rw[List.mem_zipIdx_iff_getElem?];simpa using ho
  have:=List.all_eq_true.1 (List.all_eq_true.1 h1 _ hq) e he;simpa[hb]using this
 ·have:=B3l h5 p p' x y hlt hx hy;simpa using this
 ·have hc:=List.all_eq_true.1 h3 i (by simp;omega)
  have hmem:i∈π:=by simpa using hc
  have hil:i<l.length:=by omega
  have:(i,l[i])∈A1h l π:=List.mem_filterMap.2 ⟨i,hmem,by rw[List.getElem?_eq_getElem hil];rfl⟩;obtain⟨p,hp⟩:=List.getElem?_of_mem this;exact⟨p,_,hp⟩
 ·split at h6
  ·rename_i x hx;simp only[Bool.and_eq_true,Option.isNone_iff_eq_none]at h6;obtain⟨t,zc,e⟩:=E6f h6.1;exact⟨x,t,zc,hx,e,h6.2⟩
  ·cases h6
 ·have:(A1h l π).map Prod.fst=π.filter (fun i=>(l[i]?).isSome):=by
   unfold A1h;clear h1 h2 h3 h4 h5 h6
   induction π with
   | nil=>rfl
   | cons i π ih=>
    simp only[List.filterMap_cons,List.filter_cons]
    cases hi:l[i]? with
    | none=>simpa using ih
    | some m=>simpa using ih
  rw[this];exact h4.filter _
structure InvE (P:Program) (G:A1c) (B:Nat) (q:List (Nat×Mini)) (pe:Nat) (ty:TypeId) (zc:List Value) (st:Nat->A0c) (vals:Nat->PV) (s:A0c) (L0:Loc) (w0:World) (S:Array Bool) (p0:Nat) (E:Option Nat) (L:Loc) (a:Act) (w:World):Prop where
 le:p0<=q.length
 low:E.isSome=true->p0<=pe
 done:∀(p:Nat) x,q[p]?=some x->A0o x.2.k=false->(S.getD x.1 false=true ↔ p<p0\/(E.isSome=true/\p=pe))
 heap:A1o P G L (st p0).H w
 nx:L.nx=(st p0).nx
 base:B<=L.nx
 size:a.tmps.size=s.n
 defers:a.defers=[]
 vals:∀(p:Nat) x,q[p]?=some x->S.getD x.1 false=true->¬(E.isSome=true/\p=pe)->∀k,x.2.dst=some k->RepV P L w (vals p) (a.tmps.getD k undef)
 early:∀g,E=some g->A4e P L w g (.cells ty (zc.map fun x=>.t (.v x)))/\¬L.I g/\(∀b r,look (st p0).H b=some r->L.μ b≠g)/\w0.heap.size<=g/\∀x k,q[pe]?=some x->x.2.dst=some k->a.tmps.getD k undef = .pointer (some ⟨g,0,none⟩)
 old:∀k u,(∀(p:Nat) x,q[p]?=some x->S.getD x.1 false=true->x.2.dst≠some k)->look s.env k=some u->RepV P L w u (a.tmps.getD k undef)
 ext:Ext L0 s.H w0 L (st p0).H w
 μ:∀b,b<B->L.μ b=L0.μ b
theorem D0j {L L':Loc} {w w':World} {g:Nat} {ty:TypeId} {zc:List Value} (hw:w'.heap[g]?=w.heap[g]?) (h:A4e P L w g (.cells ty (zc.map fun x=>.t (.v x)))):A4e P L' w' g (.cells ty (zc.map fun x=>.t (.v x))):=by
 obtain⟨arr,h1,h2,h3⟩:=h;refine⟨arr,hw.trans h1,h2,fun j c hj=>?_⟩;obtain⟨x,hx,h4,h5⟩:=h3 j c hj;rw[List.getElem?_map]at hj;obtain⟨v,_,rfl⟩:=Option.map_eq_some_iff.1 hj;refine⟨x,hx,h4,?_⟩;simp only[RepV,RepT]at h5 ⊢;exact h5
theorem InvE.absorb {q:List (Nat×Mini)} {pe:Nat} {ty:TypeId} {zc:List Value} {st:Nat->A0c} {vals:Nat->PV} {s:A0c} {L0 L:Loc} {w0 w:World} {S:Array Bool} {p0 g:Nat} {a:Act} (inv:InvE P G B q pe ty zc st vals s L0 w0 S p0 (some g) L a w)
  (hpe:pe<q.length) (hno:∀(p:Nat) x,p0<=p->p<pe->q[p]?=some x->A0o x.2.k=true) (hpk:∀x,q[pe]?=some x->A0o x.2.k=false) (hf:(st pe).H=(st p0).H/\(st pe).nx=(st p0).nx) (hfr:C6s (st p0))
  (hst:(st (pe+1)).H=((st pe).nx,.cells ty (zc.map fun x=>.t (.v x)))::(st pe).H/\(st (pe+1)).nx=(st pe).nx+1) (hv:vals pe = .ptr (st pe).nx 0) :
  ∃L',InvE P G B q pe ty zc st vals s L0 w0 S (pe+1) none L' a w:=by
 obtain⟨e1,e2,e3,e4,e5⟩:=inv.early g rfl;have hlow:=inv.low rfl
 let L':Loc:=⟨L.I,fun b=>if b=L.nx then g else L.μ b,L.nx+1⟩
 have hm:Mono L w L' w:=⟨fun b hb=>⟨hb,rfl⟩,Nat.le_succ _,fun b hb=>by show(if b=L.nx then g else L.μ b)=L.μ b;rw[if_neg (by omega)],Nat.le_refl _,A1y.refl w⟩
 have hH:(st (pe+1)).H=(L.nx,.cells ty (zc.map fun x=>.t (.v x)))::(st p0).H:=by rw[hst.1,hf.1,hf.2,inv.nx]
 have hN:(st (pe+1)).nx=L.nx+1:=by rw[hst.2,hf.2,inv.nx]
 have hlt:∀b r,look (st p0).H b=some r->b<L.nx:=fun b r hb=>by have:=hfr b r hb;rw[inv.nx];exact this
 have cases':∀b r,look (st (pe+1)).H b=some r->(b=L.nx/\r = .cells ty (zc.map fun x=>.t (.v x))/\L'.μ b=g)\/(look (st p0).H b=some r/\b<L.nx/\L'.μ b=L.μ b):=by
  intro b r hb;rw[hH]at hb;simp only[look]at hb;split at hb
  ·rename_i e;injection hb with hb;exact .inl ⟨e.symm,hb.symm,by show(if b=L.nx then g else L.μ b)=g;rw[if_pos e.symm]⟩
  ·have:=hlt b r hb;exact .inr ⟨hb,this,by show(if b=L.nx then g else L.μ b)=L.μ b;rw[if_neg (by omega)]⟩
 refine⟨L',⟨by omega,fun h=>(by cases h),fun p x hx hk=>?_,⟨inv.heap.lt,fun b r hb=>?_,fun b r hb=>?_,fun b b' r r' hb hb' he=>?_,fun b r hb=>?_,A2b inv.heap hm.keeps⟩,hN.symm,Nat.le_succ_of_le inv.base,inv.size,inv.defers,
  fun p x hx hS hn k hk=>?_,fun g' h=>(by cases h),fun k u h1 h2=>RepV.keep hm u (inv.old k u h1 h2),⟨inv.ext.size,inv.ext.same,inv.ext.more,inv.ext.new,fun g' ⟨b,r,hb,e⟩=>?_,inv.ext.shape,inv.ext.outer⟩,fun b hb=>?_⟩⟩
 ·rw[inv.done p x hx hk];constructor
  ·rintro(h | ⟨_,h⟩)<;>left<;>omega
  ·rintro(h | ⟨h,_⟩)
   ·by_cases h':p<p0
    ·exact .inl h'
    ·by_cases h2:p=pe
     ·exact .inr ⟨rfl,h2⟩
     ·have:=hno p x (by omega) (by omega) hx;rw[this]at hk;cases hk
   ·cases h
 ·rcases cases' b r hb with⟨_,rfl,e⟩ | ⟨h1,_,e⟩
  ·rw[e];exact D0j rfl e1
  ·rw[e];exact(inv.heap.rep b r h1).keep hm rfl
 ·rcases cases' b r hb with⟨_,_,e⟩ | ⟨h1,_,e⟩
  ·rw[e];exact e2
  ·rw[e];exact inv.heap.apart b r h1
 ·rcases cases' b r hb with⟨h1,_,e⟩ | ⟨h1,_,e⟩<;>rcases cases' b' r' hb' with⟨h1',_,e'⟩ | ⟨h1',_,e'⟩<;>rw[e,e']at he
  ·rw[h1,h1']
  ·exact absurd he.symm (e3 b' r' h1')
  ·exact absurd he (e3 b r h1)
  ·exact inv.heap.inj b b' r r' h1 h1' he
 ·show b<L.nx+1;rcases cases' b r hb with⟨h1,_⟩ | ⟨_,h1,_⟩<;>omega
 ·by_cases h2:p=pe
  ·subst h2;rw[e5 x k hx hk,hv];simp only[RepV]
   have:(st p).nx=L.nx:=by rw[hf.2,inv.nx]
   rw[this];exact⟨Nat.lt_succ_self _,by show _=Value.pointer (some ⟨if L.nx=L.nx then g else L.μ L.nx,0,none⟩);rw[if_pos rfl]⟩
  ·exact RepV.keep hm _ (inv.vals p x hx hS (fun h=>h2 h.2) k hk)
 ·rcases cases' b r hb with⟨_,_,e'⟩ | ⟨h1,_,e'⟩
  ·left;rw[<-e,e'];exact e4
  ·exact inv.ext.mine g' ⟨b,r,h1,e'.symm.trans e⟩
 ·show(if b=L.nx then g else L.μ b)=_;rw[if_neg (by have:=inv.base;omega)];exact inv.μ b hb
theorem E2l {L:Loc} {H:Heap} {w w':World} {o:Obj} (hok:A1o P G L H w) (hout:A3v w w') (hw:w'.heap=w.heap.push o):A1o P G L H w'/\Mono L w L w'/\Ext L H w L H w':=by
 have hold:∀g,g<w.heap.size->w'.heap[g]?=w.heap[g]?:=fun g hg=>by
  rw[hw,Array.getElem?_push_lt hg,Array.getElem?_eq_getElem hg]
 have hsz:w'.heap.size=w.heap.size+1:=by rw[hw];simp
 have hm:Mono L w L w':=⟨fun b hb=>⟨hb,hold b (hok.lt b hb)⟩,Nat.le_refl _,fun _ _=>rfl,by omega,fun g hg arr ty fz he=>by
  rw[hold g hg]at he
  exact⟨arr,fz,he,rfl⟩⟩
 exact⟨⟨fun b hb=>by have:=hok.lt b hb;omega,fun b r hb=>(hok.rep b r hb).keep hm (hold _ (hok.rep b r hb).lt),hok.apart,hok.inj,hok.nx,A2b hok hm.keeps⟩,hm,
  ⟨by omega,fun g hg _=>hold g hg,fun _ h=>h,fun _ h=>.inl h,fun _ h=>.inr h,hm.shape,hout⟩⟩
theorem E6g {o:Oper} {t:TypeId} {zc:List Value} (ho:o.op = .alloc t) (h:A2n P t=some zc) (a:Act) (w:World) :
  ∃w' ob,(execOp a.eval o).run P w = .ok (.value (.pointer (some ⟨w.heap.size,0,none⟩))) w'/\A3v w w'/\w'.heap=w.heap.push ob/\∀L,A4e P L w' w.heap.size (.cells t (zc.map fun x=>.t (.v x))):=by
 obtain⟨z,hz,rfl,h1⟩:=B0g h w;refine⟨w.alloc (.cells z.cells t),_,by simp[execOp,ho,Instr.alloc,newVar,newRow,hz],⟨rfl,rfl,rfl⟩,rfl,fun L=>⟨z.cells,heap_alloc_new w _,by simp,fun j c hj=>?_⟩⟩;rw[List.getElem?_map]at hj;obtain⟨v,hv,rfl⟩:=Option.map_eq_some_iff.1 hj;refine⟨v,by simpa using hv,h1 v (List.mem_of_getElem? hv),by simp only[RepV,RepT]⟩
theorem E6h {d:Bool} {o:Op} {t:TypeId} {zc:List Value} {xs:List Opd} (h:opK P G d o=(.alloc t zc,xs)):o = .alloc t/\A2n P t=some zc:=by
 unfold opK at h;split at h
 ·rename_i q hq;subst h;exact absurd hq (C9v (by simp))
 ·split at h
  ·split at h
   ·injection h with h _;cases h
   ·injection h with h _;cases h
  ·split at h
   ·rename_i q hq;subst h;unfold D0d at hq;split at hq
    all_goals first
     | (cases hq;done)
     | (injection hq with hq;injection hq with e1 e2;cases e1;done)
     | (obtain⟨x,hx,e⟩:=Option.map_eq_some_iff.1 hq;injection e with e1 e2;cases e1;done)
     | (obtain⟨x,hx,e⟩:=Option.map_eq_some_iff.1 hq;injection e with e1 e2;injection e1 with e3 e4;subst e3;subst e4;exact⟨rfl,hx⟩)
     | skip
    all_goals split at hq
    all_goals first
     | (cases hq;done)
     | (injection hq with hq;injection hq with e1 e2;cases e1;done)
     | (obtain⟨x,hx,e⟩:=Option.map_eq_some_iff.1 hq;injection e with e1 e2;cases e1;done)
     | skip
    all_goals split at hq
    all_goals first
     | (cases hq;done)
     | (injection hq with hq;injection hq with e1 e2;cases e1;done)
     | (obtain⟨x,hx,e⟩:=Option.map_eq_some_iff.1 hq;injection e with e1 e2;cases e1;done)
   ·injection h with h _;cases h
theorem D4r {pe:Nat} (hmix:P.follows .mixedOrders=true) (hΦ:Φ.Sound P G) {Q:Exit->A0c->Prop} {s s2:A0c} {st:Nat->A0c} {vals:Nat->PV} {id:Nat} (ha0:ops.toList.mapM (A2z P G N true ops)=some l) (hd0:A9x ops l π pe R=true)
  (hn:s.n=N) (hrun:E2j Φ ((A1h l π).map Prod.snd) 0 0 R s s2 st vals) (hq:Q .normal s2):A4y P G B (.region id ops true) Q s:=by
 intro L0 a0 w0 hi0;have ha:=A3y ha0
 have hlen:ops.size=l.length:=by have:=(ha.at_ 0).2;simpa using this
 obtain⟨hd,hql,hnodup⟩:=E2k hlen hd0;have h0:=hrun.start;have hlast:=hrun.stop;simp only[List.length_map]at hlast;generalize hq':A1h l π=q at *
 have hmem:∀(p:Nat) x,q[p]?=some x->l[x.1]?=some x.2:=by intro p x hx;rw[<-hq']at hx;exact B8e l π p x hx
 have hms:∀(p:Nat) x,q[p]?=some x->(q.map Prod.snd)[p]?=some x.2:=by intro p x hx;simp[hx]
 have hall:∀(p:Nat) m,(q.map Prod.snd)[p]?=some m->(st (p+1)).env=((st p).put m.dst (vals p)).env:=fun p m hm=>(hrun.env hm).1;have step:∀(p:Nat) x,q[p]?=some x->Did Φ (st p) x.2 (vals p) (st (p+1)):=fun p x hx=>hrun.norm p x.2 (hms p x hx) (.inr (by omega));obtain⟨xe,ty,zc,hxe,hke,hge⟩:=hd.zero;have hpel:pe<q.length:=(List.getElem?_eq_some_iff.1 hxe).1
 have hpk:∀x,q[pe]?=some x->A0o x.2.k=false:=fun x hx=>by rw[hxe]at hx;injection hx with hx;subst hx;rw[hke];rfl
 have uniq:∀(p p':Nat) x y,q[p]?=some x->q[p']?=some y->x.1=y.1->p=p':=by
  intro p p' x y hx hy e
  have h1:(q.map Prod.fst)[p]?=some x.1:=by simp[hx]
  have h2:(q.map Prod.fst)[p']?=some x.1:=by simp[hy,e]
  have hp:=(List.getElem?_eq_some_iff.1 h1).1;exact(List.getElem?_inj hp hnodup).1 (h1.trans h2.symm)
 have fresh:∀p,p<=q.length->C6s (st p):=by
  intro p
  induction p with
  | zero=>intro _;rw[h0];exact fun b r hb=>by have:=hi0.heap.nx b r hb;rw[hi0.nx]at this;exact this
  | succ p ih=>
   intro hp;have hx:q[p]?=some q[p]:=List.getElem?_eq_getElem (by omega);exact(B1b hΦ (step p _ hx) (ih (by omega))).1
 have flat:∀(a b:Nat),a<=b->b<=q.length->(∀(p:Nat) x,a<=p->p<b->q[p]?=some x->A0o x.2.k=true)->(st b).H=(st a).H/\(st b).nx=(st a).nx:=by
  intro a b hab
  induction b with
  | zero=>
   intro _ _
   have:a=0:=by omega
   subst this;exact⟨rfl,rfl⟩
  | succ b ih=>
   intro hb hno;by_cases e:a=b+1
   ·subst e;exact⟨rfl,rfl⟩
   ·have hx:q[b]?=some q[b]:=List.getElem?_eq_getElem (by omega);have hqb:=hno b _ (by omega) (by omega) hx;have h1:=B4z (step b _ hx) hqb;have h2:=ih (by omega) (by omega) (fun p x h1 h2 h3=>hno p x h1 (by omega) h3);exact⟨h1.1.trans h2.1,h1.2.trans h2.2⟩
 have nconst:∀p,p<=q.length->(st p).n=s.n:=by
  intro p
  induction p with
  | zero=>intro _;rw[h0]
  | succ p ih=>
   intro hp;have hx:q[p]?=some q[p]:=List.getElem?_eq_getElem (by omega);rw[(hrun.env (hms p _ hx)).2,ih (by omega)]
 have hstE:(st (pe+1)).H=((st pe).nx,.cells ty (zc.map fun x=>.t (.v x)))::(st pe).H/\(st (pe+1)).nx=(st pe).nx+1/\vals pe = .ptr (st pe).nx 0:=by
  rcases step pe xe hxe with⟨hqt,_⟩ | ⟨_,hwf,_⟩ | ⟨_,_,H',nx',he,hst⟩
  ·rw[hpk _ hxe]at hqt;cases hqt
  ·simp[Mini.wants,hge]at hwf
  ·rw[hke]at he;rw[hst,B0u,A8p];generalize xe.2.xs.map (·.ev (st pe).env)=ps at he
   cases ps with
   | nil=>
    simp only[A0i,Option.some.injEq,Prod.mk.injEq]at he;exact⟨he.2.1.symm,he.2.2.symm,he.1.symm⟩
   | cons p r=>simp[A0i]at he
 refine wp_region_any hmix ?_
 have main:∀(fuel:Nat) (S:Array Bool) (p0:Nat) (E:Option Nat) (L:Loc) (a:Act) (w:World),S.size=ops.size->C0h ops S->ops.size<=cnt S+fuel ->
   InvE P G B q pe ty zc st vals s L0 w0 S p0 E L a w->(E.isSome=true->∃(p:Nat) (x:Nat×Mini),p0<=p/\p<pe/\q[p]?=some x/\A0o x.2.k=false)->wpAny P .any ops (Post P G B Q L0 s.H w0) fuel S a w:=by
  have full:∀(S:Array Bool) (p0:Nat) (E:Option Nat) (L:Loc) (a:Act) (w:World),(∀i,i<ops.size->S.getD i false=true)->InvE P G B q pe ty zc st vals s L0 w0 S p0 E L a w->(E.isSome=true->∃(p:Nat) (x:Nat×Mini),p0<=p/\p<pe/\q[p]?=some x/\A0o x.2.k=false)->Post P G B Q L0 s.H w0 .normal a w:=by
   intro S p0 E L a w hS inv hpart;have hxi:∀(p:Nat) x,q[p]?=some x->S.getD x.1 false=true:=fun p x hx=>hS _ (by have:=(List.getElem?_eq_some_iff.1 (hmem p x hx)).1;omega)
   have hE:E=none:=by
    cases hE:E with
    | none=>rfl
    | some g=>
     obtain⟨p,x,h1,h2,h3,h4⟩:=hpart (by rw[hE];rfl);rcases (inv.done p x h3 h4).1 (hxi p x h3)with h | ⟨_,h⟩<;>omega
   subst hE
   have hf:=flat p0 q.length inv.le (Nat.le_refl _) (fun p x h1 h2 h3=>by
    cases hk:A0o x.2.k with
    | true=>rfl
    | false=>
     rcases (inv.done p x h3 hk).1 (hxi p x h3)with h | ⟨h,_⟩
     ·omega
     ·cases h)
   refine⟨s2,L,hq,⟨?_,?_,inv.base,?_,inv.defers,fun k u hl=>?_⟩,?_,inv.μ⟩
   ·rw[<-hlast,hf.1];exact inv.heap
   ·rw[<-hlast,hf.2];exact inv.nx
   ·rw[<-hlast,nconst _ (Nat.le_refl _)];exact inv.size
   ·rw[<-hlast]at hl;rcases A8w h0 hall q.length (by simp) k u hl with⟨j,m,hj,hmj,hdst,rfl⟩ | ⟨hno,hs⟩
    ·have hx:q[j]?=some q[j]:=List.getElem?_eq_getElem hj
     have e:m=q[j].2:=by rw[hms j _ hx]at hmj;injection hmj with hmj;exact hmj.symm
     subst e;exact inv.vals j _ hx (hxi j _ hx) (fun h=>(by cases h.1)) k hdst
    ·refine inv.old k u (fun p x hx _=>hno p x.2 ?_ (hms p x hx)) hs;exact(List.getElem?_eq_some_iff.1 hx).1
   ·rw[<-hlast,hf.1];exact inv.ext
  intro fuel
  induction fuel with
  | zero=>
   intro S p0 E L a w hs hS hc inv hpart;have hall':=D7v (S:=S) (by omega);refine⟨?_,full S p0 E L a w (fun i hi=>hall' i (by omega)) inv hpart⟩;rw[List.eq_nil_iff_forall_not_mem];intro i hi;obtain⟨h1,h2,_⟩:=B2d hi;rw[A8t (by omega),hall' i (by omega)]at h2;cases h2
  | succ fuel ih=>
   intro S p0 E L a w hs hS hc inv hpart
   have go:∀(S':Array Bool) (p1:Nat) (E1:Option Nat) (L':Loc) (a':Act) (w':World),S'.size=ops.size->C0h ops S'->ops.size<=cnt S'+fuel->InvE P G B q pe ty zc st vals s L0 w0 S' p1 E1 L' a' w'->wpAny P .any ops (Post P G B Q L0 s.H w0) fuel S' a' w':=by
    intro S' p1 E1 L' a' w' h1 h2 h3 inv'
    cases hE1:E1 with
    | none=>subst hE1;exact ih S' p1 none L' a' w' h1 h2 h3 inv' (fun h=>by cases h)
    | some g=>
     subst hE1;by_cases hex:∃(p:Nat) (x:Nat×Mini),p1<=p/\p<pe/\q[p]?=some x/\A0o x.2.k=false
     ·exact ih S' p1 (some g) L' a' w' h1 h2 h3 inv' (fun _=>hex)
     ·have hno:∀(p:Nat) x,p1<=p->p<pe->q[p]?=some x->A0o x.2.k=true:=fun p x h4 h5 h6=>by
       cases hk:A0o x.2.k with
       | true=>rfl
       | false=>exact absurd ⟨p,x,h4,h5,h6,hk⟩ hex
      have hlow:=inv'.low rfl;obtain⟨L2,inv2⟩:=inv'.absorb hpel hno hpk (flat p1 pe hlow (by omega) hno) (fresh p1 inv'.le) ⟨hstE.1,hstE.2.1⟩ hstE.2.2;exact ih S' (pe+1) none L2 a' w' h1 h2 h3 inv2 (fun h=>by cases h)
   refine⟨fun hr=>?_,fun i hi=>?_⟩
   ·refine full S p0 E L a w (fun i=>?_) inv hpart
    induction i using Nat.strongRecOn with
    | _ i ihi=>
     intro hi
     cases hS':S.getD i false with
     | true=>rfl
     | false=>
      exfalso
      have:i∈Region.ready .any ops S:=D7u (o:=ops[i]) (Array.getElem?_eq_getElem hi) (by rw[A8t (by omega)];exact hS')
       (fun e he hb=>by
        have:=hd.back i _ (Array.getElem?_eq_getElem hi) e he hb
        exact ihi _ this (by omega))
      rw[hr]at this;cases this
   ·obtain⟨hi1,hun,o,ho,hp⟩:=B2d hi;rw[A8t (by omega)]at hun;obtain⟨p,mi,hx⟩:=hd.all i hi1;have hpl:p<q.length:=(List.getElem?_eq_some_iff.1 hx).1;obtain⟨mi',hmi',hcomp⟩:=(ha.at_ i).1 o (by simpa using ho)
    have emi:mi'=mi:=by have:=hmem p _ hx;simp only at this;rw[this]at hmi';injection hmi' with h;exact h.symm
    subst emi;obtain⟨hcop,hdst,hdlt,hwants⟩:=A5d hcomp;have bef:∀j,((ancs ops.toList []).getD i 0).testBit j=true->S.getD j false=true:=fun j hb=>A7c hS ho hb hp
    have aft:∀j,j<ops.size->((ancs ops.toList []).getD j 0).testBit i=true->S.getD j false=false:=by
     intro j hj hb
     cases hSj:S.getD j false with
     | false=>rfl
     | true=>
      have hjo:ops[j]?=some ops[j]:=Array.getElem?_eq_getElem hj;have:=A7c hS hjo hb (hS j _ hjo hSj);rw[this]at hun;cases hun
    have idx:∀(p':Nat) y,q[p']?=some y->y.1<ops.size:=fun p' y hy=>by have:=(List.getElem?_eq_some_iff.1 (hmem p' y hy)).1;omega
    have hbefore:p≠pe->∀(p':Nat) y,p'<p->q[p']?=some y->A0o y.2.k=false->S.getD y.1 false=true:=by
     intro hpe p' y hlt hy hyk;refine bef _ ?_;have hok:=hd.pair p' p _ _ hlt hy hx;unfold A9w at hok;simp only[Bool.and_eq_true]at hok;have h1:=hok.1.1.1;rw[hyk]at h1;simp only[Bool.false_and,Bool.false_or,Bool.or_eq_true,beq_iff_eq]at h1;rcases h1 with h1 | h1
     ·exact h1
     ·exact absurd h1 hpe
    have late:pe<p->A0o mi'.k=false->E=none:=by
     intro hlt hhk
     cases hE:E with
     | none=>rfl
     | some g=>
      obtain⟨p',y,h1,h2,h3,h4⟩:=hpart (by rw[hE];rfl);rcases (inv.done p' y h3 h4).1 (hbefore (by omega) p' y (by omega) h3 h4)with h | ⟨_,h⟩<;>omega
    have eye:∀k u,k∈mi'.eyes->look (st p).env k=some u->RepV P L w u (a.tmps.getD k undef):=by
     intro k' u hke' hl;rcases A8w h0 hall p (by simp;omega) k' u hl with⟨j,m,hj,hmj,hdj,rfl⟩ | ⟨hno,hs'⟩
     ·have hy:q[j]?=some q[j]:=List.getElem?_eq_getElem (by omega)
      have e:m=q[j].2:=by rw[hms j _ hy]at hmj;injection hmj with hmj;exact hmj.symm
      subst e;have hok:=hd.pair j p _ _ hj hy hx;unfold A9w at hok;simp only[Bool.and_eq_true]at hok;have h2:=hok.1.1.2;rw[hdj]at h2;simp only[Bool.or_eq_true,Bool.not_eq_true']at h2;rcases h2 with h2 | h2
      ·exact absurd hke' (by simpa using h2)
      ·refine inv.vals j _ hy (bef _ h2) (fun hjE=>?_) k' hdj;obtain⟨hEs,hje⟩:=hjE;have h5:=hok.2.2;simp only[h2,Bool.not_true,Bool.or_false,Bool.or_eq_true,bne_iff_ne,ne_eq,Bool.not_eq_true']at h5;rcases h5 with h5 | h5
       ·exact h5 hje
       ·have:=late (by omega) h5;rw[this]at hEs;cases hEs
     ·refine inv.old k' u (fun p' y hy hSy hdy=>?_) hs';rcases Nat.lt_trichotomy p' p with hlt | heq | hgt
      ·exact hno p' y.2 hlt (hms p' y hy) hdy
      ·subst heq;rw[hx]at hy;injection hy with hy;subst hy;simp only at hSy;rw[hSy]at hun;cases hun
      ·have hok:=hd.pair p p' _ _ hgt hx hy;unfold A9w at hok;simp only[Bool.and_eq_true]at hok;have h3:=hok.1.2;rw[hdy]at h3;simp only[Bool.or_eq_true,Bool.not_eq_true']at h3;rcases h3 with h3 | h3
       ·exact absurd hke' (by simpa using h3)
       ·have:=aft y.1 (idx p' y hy) h3;rw[this]at hSy;cases hSy
    have hS':C0h ops (S.setIfInBounds i true):=by
     intro j oj hoj hj e he hb;rw[A3r S i _ (by omega)]at hj ⊢;split
     ·rfl
     ·split at hj
      ·rename_i e1;subst e1;rw[ho]at hoj;injection hoj with hoj;subst hoj;exact hp e he hb
      ·exact hS j oj hoj hj e he hb
    have hc':ops.size<=cnt (S.setIfInBounds i true)+fuel:=by rw[E6a (by omega) hun];omega
    have dsts:∀(p':Nat) y k',q[p']?=some y->i≠y.1->y.2.dst=some k'->o.dst≠some k':=by
     intro p' y k' hy e hk;rw[<-hdst];intro hcon
     have epn:p≠p':=fun ep=>by subst ep;rw[hx]at hy;injection hy with hy;subst hy;exact e rfl
     rcases Nat.lt_or_gt_of_ne epn with hlt | hgt
     ·have hok:=hd.pair p p' _ _ hlt hx hy;unfold A9w at hok;simp only[Bool.and_eq_true]at hok;have h4:=hok.2.1;rw[hcon]at h4;simp only[bne_iff_ne]at h4;exact h4 hk
     ·have hok:=hd.pair p' p _ _ hgt hy hx;unfold A9w at hok;simp only[Bool.and_eq_true]at hok;have h4:=hok.2.1;rw[hk]at h4;simp only[bne_iff_ne]at h4;exact h4 hcon
    have hidx:∀(p':Nat) y,q[p']?=some y->(i=y.1 ↔ p'=p):=fun p' y hy=>⟨fun e=>(uniq p p' _ _ hx hy e).symm,fun e=>by subst e;rw[hx]at hy;injection hy with hy;rw[<-hy]⟩
    have getS:∀(p':Nat) y,q[p']?=some y->((S.setIfInBounds i true).getD y.1 false=true ↔ p'=p\/S.getD y.1 false=true):=fun p' y hy=>by
     rw[A3r S i _ (by omega)];by_cases e:i=y.1
     ·rw[if_pos e];exact⟨fun _=>.inl ((hidx p' y hy).1 e),fun _=>rfl⟩
     ·rw[if_neg e];exact⟨fun h=>.inr h,fun h=>h.resolve_left fun e'=>e ((hidx p' y hy).2 e')⟩
    have next:∀(p1:Nat) (E1:Option Nat) (L':Loc) (w':World) (u:Value),p1<=q.length->(E1.isSome=true->p1<=pe) ->
      (∀(p':Nat) y,q[p']?=some y->A0o y.2.k=false->(p'=p\/S.getD y.1 false=true ↔ p'<p1\/(E1.isSome=true/\p'=pe))) ->
      ((p=pe/\E1.isSome=true)\/RepV P L' w' (vals p) u)->(∀p',p'≠p->(E1.isSome=true/\p'=pe ↔ E.isSome=true/\p'=pe)) ->
      (∀g,E1=some g->A4e P L' w' g (.cells ty (zc.map fun x=>.t (.v x)))/\¬L'.I g/\(∀b r,look (st p1).H b=some r->L'.μ b≠g)/\w0.heap.size<=g/\((p=pe/\u = .pointer (some ⟨g,0,none⟩))\/(p≠pe/\E=some g))) ->
      A1o P G L' (st p1).H w'->L'.nx=(st p1).nx->Mono L w L' w'->Ext L (st p0).H w L' (st p1).H w' ->
      wpAny P .any ops (Post P G B Q L0 s.H w0) fuel (S.setIfInBounds i true) (a.put o.dst u) w':=by
     intro p1 E1 L' w' u hp1 hlow hdone hru hEE hearly hok' hnx' hm' hx';refine go _ p1 E1 L' _ w' (by simpa using hs) hS' hc' ⟨hp1,hlow,fun p' y hy hyk=>(getS p' y hy).trans (hdone p' y hy hyk),hok',hnx',Nat.le_trans inv.base hm'.nx,?_,?_,?_,?_,?_,inv.ext.trans hx',fun b hb=>(hm'.μ b (Nat.lt_of_lt_of_le hb inv.base)).trans (inv.μ b hb)⟩
     ·rw[<-inv.size];cases o.dst<;>simp[Act.put]
     ·cases o.dst<;>simp[Act.put,inv.defers]
     ·intro p' y hy hSy hpE k' hk;rw[A5x];by_cases e:i=y.1
      ·have ep:=(hidx p' y hy).1 e;subst ep;rw[hx]at hy;injection hy with hy;subst hy;rw[if_pos ⟨by rw[<-hdst];exact hk,by rw[inv.size,hn];exact hdlt k' (by rw[<-hdst];exact hk)⟩];rcases hru with⟨h1,h2⟩ | h
       ·exact absurd ⟨h2,h1⟩ hpE
       ·exact h
      ·have hpp:p'≠p:=fun e'=>e ((hidx p' y hy).2 e');rw[if_neg (fun h=>dsts p' y k' hy e hk h.1)];exact RepV.keep hm' _ (inv.vals p' y hy (((getS p' y hy).1 hSy).resolve_left hpp) (fun h=>hpE ((hEE p' hpp).2 h)) k' hk)
     ·intro g hg;obtain⟨h1,h2,h3,h4,h5⟩:=hearly g hg;refine⟨h1,h2,h3,h4,fun x k' hxx hk=>?_⟩;rw[A5x];rcases h5 with⟨h5,h6⟩ | ⟨h5,h6⟩
      ·subst h5;rw[hx]at hxx;injection hxx with hxx;subst hxx;rw[if_pos ⟨by rw[<-hdst];exact hk,by rw[inv.size,hn];exact hdlt k' (by rw[<-hdst];exact hk)⟩];exact h6
      ·have e:i≠x.1:=fun e=>h5 ((hidx pe x hxx).1 e).symm;rw[if_neg (fun h=>dsts pe x k' hxx e hk h.1)];exact(inv.early g h6).2.2.2.2 x k' hxx hk
     ·intro k' u' hno h0';rw[A5x];have hk:=hno p _ hx (by rw[A3r S i _ (by omega),if_pos rfl]);rw[if_neg (fun h=>hk (by rw[hdst];exact h.1))];refine RepV.keep hm' u' (inv.old k' u' (fun p' y hy hSy=>hno p' y hy ?_) h0');rw[A3r S i _ (by omega)];split
      ·rfl
      ·exact hSy
    have keepE:∀{L':Loc} {w':World} {p1:Nat},Mono L w L' w'->Ext L (st p0).H w L' (st p1).H w'->p≠pe->∀g,E=some g->A4e P L' w' g (.cells ty (zc.map fun x=>.t (.v x)))/\¬L'.I g/\(∀b r,look (st p1).H b=some r->L'.μ b≠g)/\w0.heap.size<=g/\((p=pe/\undef = .pointer (some ⟨g,0,none⟩))\/(p≠pe/\E=some g)):=by
     intro L' w' p1 hm' hx' hpe g hg;obtain⟨e1,e2,e3,e4,_⟩:=inv.early g hg;have hgl:g<w.heap.size:=e1.lt;have hnm:¬Mine L (st p0).H g:=fun⟨b,r,hb,e⟩=>e3 b r hb e;refine⟨D0j (hx'.same g hgl hnm) e1,fun hI=>?_,fun b r hb e=>?_,e4,.inr ⟨hpe,hg⟩⟩
     ·rcases hx'.new g hI with h | h | h
      ·exact e2 h
      ·omega
      ·exact hnm h
     ·rcases hx'.mine g ⟨b,r,hb,e⟩with h | h
      ·omega
      ·exact hnm h
    have early':∀{L':Loc} {w':World} {p1:Nat} (u:Value),Mono L w L' w'->Ext L (st p0).H w L' (st p1).H w'->p≠pe->∀g,E=some g->A4e P L' w' g (.cells ty (zc.map fun x=>.t (.v x)))/\¬L'.I g/\(∀b r,look (st p1).H b=some r->L'.μ b≠g)/\w0.heap.size<=g/\((p=pe/\u = .pointer (some ⟨g,0,none⟩))\/(p≠pe/\E=some g)):=
     fun u hm' hx' hpe g hg=>by
      obtain⟨h1,h2,h3,h4,_⟩:=keepE hm' hx' hpe g hg;exact⟨h1,h2,h3,h4,.inr ⟨hpe,hg⟩⟩
    have hi':Interp P G B L ({ ((st p).only mi'.eyes)with H:=(st p0).H,nx:=(st p0).nx }:A0c) a w:=by
     refine⟨inv.heap,inv.nx,inv.base,by show a.tmps.size=(st p).n;rw[nconst p (by omega)];exact inv.size,inv.defers,fun k u hl=>?_⟩;have hl':look ((st p).only mi'.eyes).env k=some u:=hl;rw[B1a]at hl';split at hl'
     ·rename_i hke';exact eye k u hke' hl'
     ·cases hl'
    have hww:({ ((st p).only mi'.eyes)with H:=(st p0).H,nx:=(st p0).nx }:A0c).wants ops o=mi'.wants (st p).env:=by
     rw[hwants];exact C4j (st p) mi' mi'.eyes (fun _ h=>h)
    have hev:mi'.xs.map (·.ev ({ ((st p).only mi'.eyes)with H:=(st p0).H,nx:=(st p0).nx }:A0c).env)=mi'.xs.map (·.ev (st p).env):=E5y (st p) mi' mi'.eyes (fun _ h=>h);unfold wpOp;rw[ho];simp only;by_cases hpe:p=pe
    ·
     subst hpe;rw[hxe]at hx;injection hx with hx;subst hx;simp only at hke hge hcop hdst hww hwants
     have hE:E=none:=by
      cases hE:E with
      | none=>rfl
      | some g=>
       have:=(inv.done p _ hxe (hpk _ hxe)).2 (.inr ⟨by rw[hE];rfl,rfl⟩);simp only at this;rw[this]at hun;cases hun
     subst hE
     have hp0p:p0<=p:=by
      rcases Nat.lt_or_ge p p0 with h | h
      ·have:=(inv.done p _ hxe (hpk _ hxe)).2 (.inl h);simp only at this;rw[this]at hun;cases hun
      ·exact h
     rw[hke]at hcop;obtain⟨hoa,hzc⟩:=E6h hcop;obtain⟨w',ob,hr,hout,hheap,hrow⟩:=E6g hoa hzc a w;obtain⟨k1,k2,k3⟩:=E2l inv.heap hout hheap
     have hwt:mi'.wants (st p).env=some true:=by simp[Mini.wants,hge]
     rw[if_pos (hi'.wants (hww.trans hwt))];refine .inl ?_;unfold Oper.wp;rw[hr,Oper.upon_value]
     refine next p0 (some w.heap.size) L w' _ inv.le (fun _=>hp0p) (fun p' y hy hyk=>?_) (.inl ⟨rfl,rfl⟩) (fun p' hpp=>⟨fun h=>absurd h.2 hpp,fun h=>(by cases h.1)⟩) (fun g hg=>?_) k1 inv.nx k2 k3
     ·rw[inv.done p' y hy hyk];constructor
      ·rintro(h | h | ⟨h,_⟩)
       ·exact .inr ⟨rfl,h⟩
       ·exact .inl h
       ·cases h
      ·rintro(h | ⟨_,h⟩)
       ·exact .inr (.inl h)
       ·exact .inl h
     ·injection hg with hg;subst hg;refine⟨hrow L,fun hI=>by have:=inv.heap.lt _ hI;omega,fun b r hb e=>?_,inv.ext.size,.inl ⟨rfl,rfl⟩⟩;have:=(inv.heap.rep b r hb).lt;omega
    ·have hbefore':∀(p':Nat) y,p'<p->q[p']?=some y->A0o y.2.k=false->p'<p0\/(E.isSome=true/\p'=pe):=by
      intro p' y hlt hy hyk;exact(inv.done p' y hy hyk).1 (hbefore hpe p' y hlt hy hyk)
     have keepdone:A0o mi'.k=true->∀(p':Nat) y,q[p']?=some y->A0o y.2.k=false->(p'=p\/S.getD y.1 false=true ↔ p'<p0\/(E.isSome=true/\p'=pe)):=by
      intro hquiet p' y hy hyk;rw[inv.done p' y hy hyk];constructor
      ·rintro(h | h)
       ·subst h;rw[hx]at hy;injection hy with hy;subst hy;rw[hquiet]at hyk;cases hyk
       ·exact h
      ·exact fun h=>.inr h
     rcases step p _ hx with⟨hquiet,hval,hst⟩ | ⟨hheavy,hwf,hv,hst⟩ | ⟨hheavy,hwt,H',nx',hek,hst⟩
     ·simp only at hquiet hval hst;unfold valQ at hval;split at hval
      ·rename_i hwt;rw[if_pos (hi'.wants (hww.trans hwt))]
       have hval0:A1w Φ (st p0).H (st p0).nx mi'.k (mi'.xs.map (·.ev (st p).env))=some (vals p):=by
        by_cases hpp:p0<=p
        ·by_cases hlt:p<pe\/E=none
         ·have hf:=flat p0 p hpp (by omega) (fun p' y h1 h2 h3=>by
           cases hyk:A0o y.2.k with
           | true=>rfl
           | false=>
            rcases hbefore' p' y h2 h3 hyk with h | ⟨h,h'⟩
            ·omega
            ·rcases hlt with hlt | hlt
             ·omega
             ·rw[hlt]at h;cases h)
          rw[<-hf.1,<-hf.2];exact hval
         ·exfalso
          have hEs:E.isSome=true:=by
           cases hE:E with
           | none=>exact absurd (.inr hE) hlt
           | some g=>rfl
          obtain⟨p',y,h1,h2,h3,h4⟩:=hpart hEs;rcases hbefore' p' y (by omega) h3 h4 with h | ⟨_,h⟩<;>omega
        ·have walk:∀p1,p<=p1->p1<=p0->A1w Φ (st p1).H (st p1).nx mi'.k (mi'.xs.map (·.ev (st p).env))=some (vals p):=by
          intro p1
          induction p1 with
          | zero=>
           intro h _
           have:p=0:=by omega
           subst this;exact hval
          | succ p1 ihp=>
           intro h1 h2;by_cases e:p=p1+1
           ·subst e;exact hval
           ·have hv1:=ihp (by omega) (by omega);have hle:=inv.le;have hy:q[p1]?=some q[p1]:=List.getElem?_eq_getElem (by have:=inv.le;omega);have hdy:=step p1 _ hy
            cases hyk:A0o (q[p1]).2.k with
            | true=>
             have:=B4z hdy hyk;rw[this.1,this.2];exact hv1
            | false=>
             by_cases hind:B3j mi'.k=true
             ·exact B4d hind hv1
             ·have hlt:p<p1:=by
               rcases Nat.lt_or_ge p p1 with h | h
               ·exact h
               ·have:p1=p:=by omega
                subst this;rw[hx]at hy;injection hy with hy;rw[<-hy]at hyk;simp only at hyk;rw[hquiet]at hyk;cases hyk
              by_cases hp1e:p1=pe
              ·subst hp1e;have hye:=hy;rw[hxe]at hye;injection hye with hye;refine A8v ((B1b hΦ hdy (fresh p1 (by have:=inv.le;omega))).2 (.inl ?_)) hv1;rw[<-hye,hke];rfl
              have hSy:=(inv.done p1 _ hy hyk).2 (.inl (by omega));have hok:=hd.pair p p1 _ _ hlt hx hy;unfold A9w at hok;simp only[Bool.and_eq_true]at hok;have h1':=hok.1.1.1;simp only[hquiet,hyk,Bool.true_and,Bool.false_or,Bool.or_eq_true,beq_iff_eq]at h1';rcases h1' with(((h | h) | h) | h) | h
              ·exact absurd h hind
              ·exact A8v ((B1b hΦ hdy (fresh p1 (by have:=inv.le;omega))).2 (.inl h)) hv1
              ·exact hrun.again p p1 mi' (by simpa using h) (hms p _ hx)
              ·have:=aft _ (idx p1 _ hy) h;rw[this]at hSy;cases hSy
              ·exact absurd h hp1e
         exact walk p0 (by omega) (Nat.le_refl _)
       have hek':A0i Φ ({ ((st p).only mi'.eyes)with H:=(st p0).H,nx:=(st p0).nx }:A0c).H ({ ((st p).only mi'.eyes)with H:=(st p0).H,nx:=(st p0).nx }:A0c).nx mi'.k (mi'.xs.map (·.ev ({ ((st p).only mi'.eyes)with H:=(st p0).H,nx:=(st p0).nx }:A0c).env))=some (vals p,(st p0).H,(st p0).nx):=by
        rw[hev];exact C0n hval0
       have haop:=B6q (B:=B) hΦ hcop hek' L a w hi';refine .inl (A2j ?_ (fun _ _ _ h=>h.elim) haop);rintro a' w' ⟨u,L',rfl,hru,hok',hnx',hm',hx'⟩
       exact next p0 E L' w' u inv.le inv.low (keepdone hquiet) (.inr hru) (fun _ _=>Iff.rfl) (early' u hm' hx' hpe) hok' hnx' hm' hx'
      ·rename_i hwf;rw[if_neg (by rw[hi'.wants (hww.trans hwf)];simp)];injection hval with hval
       exact next p0 E L w undef inv.le inv.low (keepdone hquiet) (.inr (by rw[<-hval];simp only[RepV,RepT])) (fun _ _=>Iff.rfl) (early' undef (Mono.refl _ _) (Ext.refl _ _ _) hpe) inv.heap inv.nx (Mono.refl _ _) (Ext.refl _ _ _)
      ·cases hval
     all_goals
      simp only at hheavy hst
      have hp0p:p0<=p:=by
       rcases Nat.lt_or_ge p p0 with h | h
       ·have:=(inv.done p _ hx hheavy).2 (.inl h);simp only at this;rw[this]at hun;cases hun
       ·exact h
      have hEp:E.isSome=true->p<pe:=fun hEs=>by
       rcases Nat.lt_or_ge p pe with h | h
       ·exact h
       ·have:=late (by omega) hheavy;rw[this]at hEs;cases hEs
      have hf:=flat p0 p hp0p (by omega) (fun p' y h1 h2 h3=>by
       cases hyk:A0o y.2.k with
       | true=>rfl
       | false=>
        rcases hbefore' p' y h2 h3 hyk with h | ⟨h,h'⟩
        ·omega
        ·have:=hEp h;omega)
      have hdone':∀(p':Nat) y,q[p']?=some y->A0o y.2.k=false->(p'=p\/S.getD y.1 false=true ↔ p'<p+1\/(E.isSome=true/\p'=pe)):=by
       intro p' y hy hyk;rw[inv.done p' y hy hyk];constructor
       ·rintro(h | h | h)
        ·exact .inl (by omega)
        ·exact .inl (by omega)
        ·exact .inr h
       ·rintro(h | h)
        ·by_cases e:p'=p
         ·exact .inl e
         ·exact .inr (hbefore' p' y (by omega) hy hyk)
        ·exact .inr (.inr h)
      have hlow':E.isSome=true->p+1<=pe:=fun h=>hEp h
     ·rw[if_neg (by rw[hi'.wants (hww.trans hwf)];simp)]
      have e1:(st (p+1)).H=(st p0).H:=by rw[hst,B0u,hf.1]
      have e2:(st (p+1)).nx=(st p0).nx:=by rw[hst,A8p,hf.2]
      refine next (p+1) E L w undef (by omega) hlow' hdone' (.inr (by rw[hv];simp only[RepV,RepT])) (fun _ _=>Iff.rfl) (early' undef (Mono.refl _ _) (by rw[e1];exact Ext.refl _ _ _) hpe) (by rw[e1];exact inv.heap) (by rw[e2];exact inv.nx) (Mono.refl _ _) (by rw[e1];exact Ext.refl _ _ _)
     ·rw[if_pos (hi'.wants (hww.trans hwt))]
      have hek':A0i Φ ({ ((st p).only mi'.eyes)with H:=(st p0).H,nx:=(st p0).nx }:A0c).H ({ ((st p).only mi'.eyes)with H:=(st p0).H,nx:=(st p0).nx }:A0c).nx mi'.k (mi'.xs.map (·.ev ({ ((st p).only mi'.eyes)with H:=(st p0).H,nx:=(st p0).nx }:A0c).env))=some (vals p,H',nx'):=by
       rw[hev];show A0i Φ (st p0).H (st p0).nx mi'.k _=_;rw[<-hf.1,<-hf.2];exact hek
      have haop:=B6q (B:=B) hΦ hcop hek' L a w hi';refine .inl (A2j ?_ (fun _ _ _ h=>h.elim) haop);rintro a' w' ⟨u,L',rfl,hru,hok',hnx',hm',hx'⟩
      have e1:(st (p+1)).H=H':=by rw[hst,B0u]
      have e2:(st (p+1)).nx=nx':=by rw[hst,A8p]
      exact next (p+1) E L' w' u (by omega) hlow' hdone' (.inr hru) (fun _ _=>Iff.rfl) (early' u hm' (by rw[e1];exact hx') hpe) (by rw[e1];exact hok') (by rw[e2];exact hnx') hm' (by rw[e1];exact hx')
 obtain⟨hok,hm,hx⟩:=hi0.heap.of_heap (w':={ w0 with drawn:=w0.drawn+1 }) ⟨rfl,rfl,rfl⟩ rfl
 have hfalse:∀i,(Array.replicate ops.size false).getD i false=false:=by
  intro i;simp only[Array.getD_eq_getD_getElem?,Array.getElem?_replicate];split<;>rfl
 refine main ops.size _ 0 none L0 a0 _ (by simp) ?_ (by omega) ⟨Nat.zero_le _,fun h=>(by cases h),?_,by rw[h0];exact hok,by rw[h0];exact hi0.nx,hi0.base,hi0.size,hi0.defers,?_,fun g h=>(by cases h),?_,by rw[h0];exact hx,fun _ _=>rfl⟩ (fun h=>by cases h)
 ·intro i o _ h;rw[hfalse]at h;cases h
 ·intro p x _ _;rw[hfalse];constructor
  ·intro h;cases h
  ·rintro(h | ⟨h,_⟩)
   ·omega
   ·cases h
 ·intro p x _ h;rw[hfalse]at h;cases h
 ·intro k u _ hu;exact RepV.keep hm u (hi0.env k u hu)
end
inductive A0p where
 | skip
 | ops (l:List Mini)
 | draw (l:List Mini)
 | drawG (k:Nat) (l:List GI)
 | A9x (l:List GI)
 | seq (a b:A0p)
 | cond (c:Opd) (a b:A0p)
 | block (id:Nat) (b:A0p)
 | loop (b:A0p)
 | exit (id:Nat)
 | ret
 | scope (b:A0p)
def E6i (A:List Nat) (l:List Mini):List Nat:=
 let idx:=List.range l.length
 let hs:=idx.filter fun i=>!((l[i]?).map fun m=>A0o m.k).getD true
 let qs:=idx.filter fun i=>((l[i]?).map fun m=>A0o m.k).getD true
 (List.range (hs.length+1)).flatMap fun g=>(qs.filter fun i=>(hs.filter fun h=>(A.getD i 0).testBit h).length==g)++(hs[g]?).toList
def D0k (ops:Array Oper) (q:List (Nat×Mini)):Bool:=
 let A:=ancs ops.toList []
 q.zipIdx.all fun x=>match x.1.2.k with
  | .hcall _=>(q.drop (x.2+1)).all fun y=>(A.getD y.1 0).testBit x.1.1
  | _=>true
def F6o (ops:Array Oper) (l:List Mini) (π:List Nat):Option A0p:=
 let q:=A1h l π
 let pk:=D4k q
 let R:=D4l (ancs ops.toList []) q
 let is:=B4c pk.1 pk.2 R q
 if(D0g ops l π pk.1 pk.2 R&&B8d pk.1 pk.2 R is)&&D0k ops q then some (.drawG pk.2 is)else none
theorem C4p (pa k:Nat) (R:List (Nat×Nat)) (q:List (Nat×Mini)):(B4c pa k R q).map GI.mini=q.map Prod.snd:=by
 unfold B4c;rw[List.map_map]
 have:∀(q:List (Nat×Mini)) (n:Nat),(q.zipIdx n).map (GI.mini∘fun x=>if pa<=x.2/\x.2<pa+k then .g (x.2-pa) x.1.2 else .o x.1.2 (R.any fun r=>r.1==x.2) ((R.filter fun r=>r.2==x.2).map Prod.fst))=q.map Prod.snd:=by
  intro q
  induction q with
  | nil=>intro n;rfl
  | cons a q ih=>
   intro n;simp only[List.zipIdx_cons,List.map_cons,ih];congr 1;simp only[Function.comp];split<;>rfl
 exact this q 0
theorem E2m {ops:Array Oper} {l:List Mini} {π:List Nat} {M:A0p} (h:F6o ops l π=some M) :
  ∃pa k R is,M = .drawG k is/\D0g ops l π pa k R=true/\B8d pa k R is=true/\is.map GI.mini=(A1h l π).map Prod.snd/\D0k ops (A1h l π)=true:=by
 unfold F6o at h;simp only at h;split at h
 ·rename_i hc;rw[Bool.and_eq_true,Bool.and_eq_true]at hc;injection h with h;exact⟨_,_,_,_,h.symm,hc.1.1,hc.1.2,C4p _ _ _ _,hc.2⟩
 ·cases h
def F6p (ops:Array Oper) (l:List Mini) (π:List Nat):Option A0p:=
 let q:=A1h l π
 let R:=D4l (ancs ops.toList []) q
 match (List.range q.length).find? fun pe=>A9x ops l π pe R with
 | some _=>if B8d 0 0 R (B4c 0 0 R q)&&D0k ops q then some (.A9x (B4c 0 0 R q))else none
 | none=>none
theorem E2n {ops:Array Oper} {l:List Mini} {π:List Nat} {M:A0p} (h:F6p ops l π=some M) :
  ∃pe R is,M = .A9x is/\A9x ops l π pe R=true/\B8d 0 0 R is=true/\is.map GI.mini=(A1h l π).map Prod.snd/\D0k ops (A1h l π)=true:=by
 unfold F6p at h;simp only at h;split at h
 ·rename_i pe hpe;split at h
  ·rename_i hc;rw[Bool.and_eq_true]at hc;injection h with h;have hp:=List.find?_some hpe;exact⟨pe,_,_,h.symm,hp,hc.1,C4p _ _ _ _,hc.2⟩
  ·cases h
 ·cases h
def G0d (ops:Array Oper) (l:List Mini) (π:List Nat):Option A0p:=
 match F6o ops l π with
 | some M=>some M
 | none=>F6p ops l π
def comp (P:Program) (G:A1c) (N:Nat):Code->Option A0p
 | .skip=>some .skip
 | .label _=>some .skip
 | .region _ ops draw=>match ops.toList.mapM (A2z P G N draw ops)with
  | some l=>if draw then
    (if D0g ops l (E6i (ancs ops.toList []) l) 0 0 []&&D0k ops (A1h l (E6i (ancs ops.toList []) l))then some (.draw ((A1h l (E6i (ancs ops.toList []) l)).map Prod.snd))
    else G0d ops l (E6i (ancs ops.toList []) l))
   else some (.ops l)
  | none=>none
 | .seq a b=>match comp P G N a,comp P G N b with
  | some x,some y=>some (.seq x y)
  | _,_=>none
 | .cond c a b=>match comp P G N a,comp P G N b with
  | some x,some y=>some (.cond (A0m G c) x y)
  | _,_=>none
 | .block id b=>match comp P G N b with
  | some x=>some (.block id x)
  | none=>none
 | .loop b=>match comp P G N b with
  | some x=>some (.loop x)
  | none=>none
 | .exit id=>some (.exit id)
 | .ret=>some .ret
 | .scope b=>match comp P G N b with
  | some x=>some (.scope x)
  | none=>none
 | _=>none
def MC (P:Program) (G:A1c) (B N:Nat) (M:A0p) (Q:Exit->A0c->Prop) (s:A0c):Prop:=
 ∀c,comp P G N c=some M->s.n=N->A4y P G B c Q s
structure Ctx (P:Program) (G:A1c) (Φ:A0u):Prop where
 mix:P.follows .mixedOrders=true
 sound:Φ.Sound P G
section
variable {P : Program} {G : A1c} {B N : Nat} {Φ : A0u} {Q Q' : Exit -> A0c -> Prop} {s s' : A0c}
theorem A2a {c:Code} {M:A0p} (h:comp P G N c=some M) :
  match M with
  | .skip=>c = .skip\/∃l,c = .label l
  | .ops l=>∃id ops,c = .region id ops false/\ops.toList.mapM (A2z P G N false ops)=some l
  | .draw l=>∃id ops lt π,c = .region id ops true/\ops.toList.mapM (A2z P G N true ops)=some lt/\D0g ops lt π 0 0 []=true/\l=(A1h lt π).map Prod.snd/\D0k ops (A1h lt π)=true
  | .drawG k is=>∃id ops lt π pa R,c = .region id ops true/\ops.toList.mapM (A2z P G N true ops)=some lt/\D0g ops lt π pa k R=true/\B8d pa k R is=true/\is.map GI.mini=(A1h lt π).map Prod.snd/\D0k ops (A1h lt π)=true
  | .A9x is=>∃id ops lt π pe R,c = .region id ops true/\ops.toList.mapM (A2z P G N true ops)=some lt/\A9x ops lt π pe R=true/\B8d 0 0 R is=true/\is.map GI.mini=(A1h lt π).map Prod.snd/\D0k ops (A1h lt π)=true
  | .seq x y=>∃a b,c = .seq a b/\comp P G N a=some x/\comp P G N b=some y
  | .cond k x y=>∃k0 a b,c = .cond k0 a b/\k=A0m G k0/\comp P G N a=some x/\comp P G N b=some y
  | .block id x=>∃b,c = .block id b/\comp P G N b=some x
  | .loop x=>∃b,c = .loop b/\comp P G N b=some x
  | .exit id=>c = .exit id
  | .ret=>c = .ret
  | .scope x=>∃b,c = .scope b/\comp P G N b=some x:=by
 cases c<;>simp only[comp]at h
 case skip=>injection h with h;subst h;exact .inl rfl
 case label l=>injection h with h;subst h;exact .inr ⟨l,rfl⟩
 case region id ops draw=>
  split at h
  ·rename_i l hl
   cases draw with
   | false=>simp only[Bool.false_eq_true,if_false]at h;injection h with h;subst h;exact⟨id,ops,rfl,hl⟩
   | true=>
    simp only[if_true]at h;split at h
    ·rename_i hd;rw[Bool.and_eq_true]at hd;injection h with h;subst h;exact⟨id,ops,l,_,rfl,hl,hd.1,rfl,hd.2⟩
    ·unfold G0d at h;split at h
     ·rename_i M' hM;injection h with h;subst h;obtain⟨pa,k,R,is,rfl,h1,h2,h3⟩:=E2m hM;exact⟨id,ops,l,_,pa,R,rfl,hl,h1,h2,h3⟩
     ·obtain⟨pe,R,is,rfl,h1,h2,h3⟩:=E2n h;exact⟨id,ops,l,_,pe,R,rfl,hl,h1,h2,h3⟩
  ·cases h
 case seq a b=>
  split at h
  ·rename_i x y hx hy;injection h with h;subst h;exact⟨a,b,rfl,hx,hy⟩
  ·cases h
 case cond k a b=>
  split at h
  ·rename_i x y hx hy;injection h with h;subst h;exact⟨k,a,b,rfl,rfl,hx,hy⟩
  ·cases h
 case block id b=>
  split at h
  ·rename_i x hx;injection h with h;subst h;exact⟨b,rfl,hx⟩
  ·cases h
 case loop b=>
  split at h
  ·rename_i x hx;injection h with h;subst h;exact⟨b,rfl,hx⟩
  ·cases h
 case exit id=>injection h with h;subst h;rfl
 case ret=>injection h with h;subst h;rfl
 case scope b=>
  split at h
  ·rename_i x hx;injection h with h;subst h;exact⟨b,rfl,hx⟩
  ·cases h
 all_goals cases h
theorem MC.sub {M:A0p} (hs:Sub P G B s s') (hn:s'.n=s.n) (h:MC P G B N M Q s'):MC P G B N M Q s:=
 fun c hc hN=>(h c hc (hn.trans hN)).sub hs
theorem MC.mono {M:A0p} (h:MC P G B N M Q s) (hq:∀e s1,Q e s1->Q' e s1):MC P G B N M Q' s:=fun c hc hN=>(h c hc hN).mono hq
def G0e (P:Program) (G:A1c) (B N:Nat) (y:A0p) (Q:Exit->A0c->Prop):Exit->A0c->Prop
 | .normal,s=>s.n=N/\MC P G B N y Q s
 | e,s=>Q e s
theorem C4q {x y:A0p} (h:MC P G B N x (G0e P G B N y Q) s):MC P G B N (.seq x y) Q s:=by
 intro c hc hn;obtain⟨a,b,rfl,ha,hb⟩:=A2a hc;refine C9i ((h a ha hn).mono fun e s1 q=>?_)
 cases e<;>first | exact q.2 b hb q.1 | exact q
theorem E6j {k:Opd} {x y:A0p} {t:Bool} (hk:k.ev s.env = .t (.v (.bool t))) (h:MC P G B N (if t then x else y) Q s):MC P G B N (.cond k x y) Q s:=by
 intro c hc hn;obtain⟨k0,a,b,rfl,rfl,ha,hb⟩:=A2a hc;rw[A5q]at hk;refine E1l hk ?_;cases t
 ·exact h b hb hn
 ·exact h a ha hn
theorem A0j {id:Nat} {x:A0p} (h:MC P G B N x (A5n id Q) s):MC P G B N (.block id x) Q s:=by
 intro c hc hn;obtain⟨b,rfl,hb⟩:=A2a hc;exact D3x (h b hb hn)
def B5c (Q:Exit->A0c->Prop):Exit->A0c->Prop
 | .goto _,_=>False
 | e,s=>Q e s
theorem F2g {x:A0p} (h:MC P G B N x (B5c Q) s):MC P G B N (.scope x) Q s:=by
 intro c hc hn;obtain⟨b,rfl,hb⟩:=A2a hc;intro L a w hi;refine wp_scope_straight (wp_mono (h b hb hn L a w hi) ?_);rintro e a' w' ⟨s1,L1,q,rest⟩
 cases e with
 | goto l=>exact q.elim
 | normal=>exact⟨s1,L1,q,rest⟩
 | exit i=>exact⟨s1,L1,q,rest⟩
 | ret=>exact⟨s1,L1,q,rest⟩
 | panic ch=>exact⟨s1,L1,q,rest⟩
 | outgrown=>exact⟨s1,L1,q,rest⟩
theorem D4s {x:A0p} (Inv:Nat->A0c->Prop) (n:Nat) (h0:Inv n s) (hN:∀n s,Inv n s->s.n=N) (round:∀n s,Inv n s->MC P G B N x (F9x P G B Inv n Q) s):MC P G B N (.loop x) Q s:=by
 intro c hc _;obtain⟨b,rfl,hb⟩:=A2a hc;exact E1m Inv n h0 fun n s hi=>round n s hi b hb (hN n s hi)
noncomputable def runM (Φ:A0u):A0p->A0c->Option (Exit×A0c)
 | .skip,s=>some (.normal,s)
 | .ops l,s=>match runL Φ l s with
  | some s1=>some (.normal,s1)
  | none=>none
 | .draw l,s=>match runD Φ l s with
  | some s1=>some (.normal,s1)
  | none=>none
 | .drawG k l,s=>match runG Φ k 0 0 [] l s with
  | some s1=>some (.normal,s1)
  | none=>none
 | .A9x l,s=>match runG Φ 0 0 0 [] l s with
  | some s1=>some (.normal,s1)
  | none=>none
 | .seq a b,s=>match runM Φ a s with
  | some (.normal,s1)=>runM Φ b s1
  | r=>r
 | .cond c a b,s=>match c.ev s.env with
  | .t (.v (.bool t))=>bif t then runM Φ a s else runM Φ b s
  | _=>none
 | .block id b,s=>match runM Φ b s with
  | some (.exit i,s1)=>if i=id then some (.normal,s1)else some (.exit i,s1)
  | r=>r
 | .loop _,_=>none
 | .exit id,s=>some (.exit id,s)
 | .ret,s=>some (.ret,s)
 | .scope b,s=>match runM Φ b s with
  | some (.goto _,_)=>none
  | r=>r
theorem F6q {m:Mini} (h:D0f Φ s m=some s'):s'.n=s.n:=by
 unfold D0f at h;split at h
 ·split at h
  ·injection h with h;subst h;rw[C0d]
  ·cases h
 ·injection h with h;subst h;rw[C0d]
 ·cases h
theorem D7x:∀{l:List Mini} {s s':A0c},runL Φ l s=some s'->s'.n=s.n
 | [],s,s',h=>by simp only[runL,Option.some.injEq]at h;rw[h]
 | m::l,s,s',h=>by
  simp only[runL]at h;split at h
  ·rename_i s1 h1;rw[D7x h,F6q h1]
  ·cases h
theorem F5d:∀{l:List Mini} {s s':A0c},runD Φ l s=some s'->s'.n=s.n
 | [],s,s',h=>by simp only[runD,Option.some.injEq]at h;rw[h]
 | m::l,s,s',h=>by
  simp only[runD]at h;split at h
  ·rename_i s1 h1;rw[F5d h];obtain⟨v,hv⟩:=D0h h1;exact(E6b hv).2
  ·cases h
theorem D7y {k:Nat}:∀(l:List GI) {n b:Nat} {pd:Pend} {s s':A0c},runG Φ k n b pd l s=some s'->s'.n=s.n
 | [],n,b,pd,s,s',h=>by simp only[runG,Option.some.injEq]at h;rw[h]
 | .o m kp ag::r,n,b,pd,s,s',h=>by
  simp only[runG]at h;split at h
  ·split at h
   ·rw[D7y r h,C0d]
   ·cases h
  ·cases h
 | .g j m::r,n,b,pd,s,s',h=>by
  simp only[runG]at h;split at h
  ·rw[D7y r h,C0d]
  ·cases h
theorem B0j:∀(M:A0p) {s:A0c} {e:Exit} {s':A0c},runM Φ M s=some (e,s')->s'.n=s.n
 | .skip,s,e,s',h=>by simp only[runM,Option.some.injEq,Prod.mk.injEq]at h;rw[h.2]
 | .ops l,s,e,s',h=>by
  simp only[runM]at h;split at h
  ·rename_i s1 h1;simp only[Option.some.injEq,Prod.mk.injEq]at h;rw[<-h.2,D7x h1]
  ·cases h
 | .draw l,s,e,s',h=>by
  simp only[runM]at h;split at h
  ·rename_i s1 h1;simp only[Option.some.injEq,Prod.mk.injEq]at h;rw[<-h.2,F5d h1]
  ·cases h
 | .drawG k l,s,e,s',h=>by
  simp only[runM]at h;split at h
  ·rename_i s1 h1;simp only[Option.some.injEq,Prod.mk.injEq]at h;rw[<-h.2,D7y l h1]
  ·cases h
 | .A9x l,s,e,s',h=>by
  simp only[runM]at h;split at h
  ·rename_i s1 h1;simp only[Option.some.injEq,Prod.mk.injEq]at h;rw[<-h.2,D7y l h1]
  ·cases h
 | .seq a b,s,e,s',h=>by
  simp only[runM]at h;split at h
  ·rename_i s1 h1;rw[B0j b h,B0j a h1]
  ·exact B0j a h
 | .cond c a b,s,e,s',h=>by
  simp only[runM]at h;split at h
  ·rename_i t ht;cases t
   ·exact B0j b h
   ·exact B0j a h
  ·cases h
 | .block id b,s,e,s',h=>by
  simp only[runM]at h;split at h
  ·rename_i i s1 h1;split at h
   ·simp only[Option.some.injEq,Prod.mk.injEq]at h;rw[<-h.2,B0j b h1]
   ·simp only[Option.some.injEq,Prod.mk.injEq]at h;rw[<-h.2,B0j b h1]
  ·exact B0j b h
 | .loop _,s,e,s',h=>by simp[runM]at h
 | .exit id,s,e,s',h=>by simp only[runM,Option.some.injEq,Prod.mk.injEq]at h;rw[h.2]
 | .ret,s,e,s',h=>by simp only[runM,Option.some.injEq,Prod.mk.injEq]at h;rw[h.2]
 | .scope b,s,e,s',h=>by
  simp only[runM]at h;split at h
  ·cases h
  ·exact B0j b h
theorem A8x (hΦ:Ctx P G Φ):∀(M:A0p) {Q:Exit->A0c->Prop} {s:A0c} {e:Exit} {s':A0c},runM Φ M s=some (e,s')->Q e s'->MC P G B N M Q s
 | .skip,Q,s,e,s',h,hq=>by
  simp only[runM,Option.some.injEq,Prod.mk.injEq]at h;obtain⟨rfl,rfl⟩:=h;intro c hc hn;rcases A2a hc with rfl | ⟨l,rfl⟩
  ·exact E1j hq
  ·exact D3w hq
 | .ops l,Q,s,e,s',h,hq=>by
  simp only[runM]at h;split at h
  ·rename_i s1 h1;simp only[Option.some.injEq,Prod.mk.injEq]at h;obtain⟨rfl,rfl⟩:=h;intro c hc hn;obtain⟨id,ops,rfl,hl⟩:=A2a hc;exact B0v (A8s hΦ.sound _ (A3y hl) hn h1 hq)
  ·cases h
 | .draw l,Q,s,e,s',h,hq=>by
  simp only[runM]at h;split at h
  ·rename_i s1 h1;simp only[Option.some.injEq,Prod.mk.injEq]at h;obtain⟨rfl,rfl⟩:=h;intro c hc hn;obtain⟨id,ops,lt,π,rfl,hl,hd,rfl,_⟩:=A2a hc;obtain⟨st,vals,ht⟩:=D4q h1;exact C4m hΦ.mix hΦ.sound hl hd hn ht hq
  ·cases h
 | .drawG k l,Q,s,e,s',h,hq=>by
  simp only[runM]at h;split at h
  ·rename_i s1 h1;simp only[Option.some.injEq,Prod.mk.injEq]at h;obtain⟨rfl,rfl⟩:=h;intro c hc hn;obtain⟨id,ops,lt,π,pa,R,rfl,hl,hd,hsh,he,_⟩:=A2a hc;obtain⟨st,vals,ht⟩:=C4o h1 hsh;rw[he]at ht;exact C4m hΦ.mix hΦ.sound hl hd hn ht hq
  ·cases h
 | .A9x l,Q,s,e,s',h,hq=>by
  simp only[runM]at h;split at h
  ·rename_i s1 h1;simp only[Option.some.injEq,Prod.mk.injEq]at h;obtain⟨rfl,rfl⟩:=h;intro c hc hn;obtain⟨id,ops,lt,π,pe,R,rfl,hl,hd,hsh,he,_⟩:=A2a hc;obtain⟨st,vals,ht⟩:=C4o h1 hsh;rw[he]at ht;exact D4r hΦ.mix hΦ.sound hl hd hn ht hq
  ·cases h
 | .seq a b,Q,s,e,s',h,hq=>by
  intro c hc hn;refine C4q ?_ c hc hn;simp only[runM]at h;split at h
  ·rename_i s1 h1;exact A8x hΦ a h1 ⟨(B0j a h1).trans hn,A8x hΦ b h hq⟩
  ·rename_i hne;refine A8x hΦ a h ?_;cases e
   case normal=>exact absurd h (hne s')
   all_goals exact hq
 | .cond k a b,Q,s,e,s',h,hq=>by
  simp only[runM]at h;split at h
  ·rename_i t ht;refine E6j ht ?_;cases t
   ·exact A8x hΦ b h hq
   ·exact A8x hΦ a h hq
  ·cases h
 | .block id b,Q,s,e,s',h,hq=>by
  refine A0j ?_;simp only[runM]at h;split at h
  ·rename_i i s1 h1;refine A8x hΦ b h1 ?_;simp only[A5n];split at h
   ·rename_i hid;rw[if_pos hid];simp only[Option.some.injEq,Prod.mk.injEq]at h;obtain⟨rfl,rfl⟩:=h;exact hq
   ·rename_i hid;rw[if_neg hid];simp only[Option.some.injEq,Prod.mk.injEq]at h;obtain⟨rfl,rfl⟩:=h;exact hq
  ·rename_i hne;refine A8x hΦ b h ?_;cases e
   case exit i=>exact absurd h (hne i s')
   all_goals exact hq
 | .loop _,Q,s,e,s',h,hq=>by simp[runM]at h
 | .exit id,Q,s,e,s',h,hq=>by
  simp only[runM,Option.some.injEq,Prod.mk.injEq]at h;obtain⟨rfl,rfl⟩:=h;intro c hc hn;have:=A2a hc;simp only at this;subst this;exact E1k hq
 | .ret,Q,s,e,s',h,hq=>by
  simp only[runM,Option.some.injEq,Prod.mk.injEq]at h;obtain⟨rfl,rfl⟩:=h;intro c hc hn;have:=A2a hc;simp only at this;subst this;exact E4y hq
 | .scope b,Q,s,e,s',h,hq=>by
  refine F2g ?_;simp only[runM]at h;split at h
  ·cases h
  ·rename_i hne;refine A8x hΦ b h ?_;cases e
   case goto l=>exact absurd h (hne l s')
   all_goals exact hq
theorem A1p {α:Type}:∀{l:List (Nat×α)} {k:Nat} {x:α},look l k=some x->(k,x)∈l
 | [],k,x,h=>by simp[look]at h
 | (j,y)::l,k,x,h=>by
  simp only[look]at h;by_cases e:j=k
  ·rw[if_pos e]at h;injection h with h;subst h;subst e;simp
  ·rw[if_neg e]at h;exact List.mem_cons_of_mem _ (A1p h)
theorem A1q (hn:s'.n=s.n) (hx:s'.nx=s.nx) (he:∀q∈s'.env,look s.env q.1=some q.2) (hH:∀q∈s'.H,look s.H q.1=some q.2):Sub P G B s s':=by
 intro L a w hi;have back:∀b r,look s'.H b=some r->look s.H b=some r:=fun b r h=>hH _ (A1p h)
 refine⟨L,⟨⟨hi.heap.lt,fun b r h=>hi.heap.rep b r (back b r h),fun b r h=>hi.heap.apart b r (back b r h),fun b b' r r' h h'=>hi.heap.inj b b' r r' (back b r h) (back b' r' h'),fun b r h=>hi.heap.nx b r (back b r h),hi.heap.glob⟩,
  by rw[hx];exact hi.nx,hi.base,by rw[hn];exact hi.size,hi.defers,fun k p h=>hi.env k p (he _ (A1p h))⟩,?_,fun _ _=>rfl⟩
 exact⟨Nat.le_refl _,fun _ _ _=>rfl,fun _ h=>h,fun _ h=>.inl h,fun g ⟨b,r,h,e⟩=>.inr ⟨b,r,back b r h,e⟩,A1y.refl w,A3v.refl w⟩
mutual
def ren (σ:Nat->Nat):PV->PV
 | .t x=>.t x
 | .row b o n z=>.row (σ b) o n z
 | .ptr b o=>.ptr (σ b) o
 | .ag cs=>.ag (renL σ cs)
 | .tu cs=>.tu (renL σ cs)
 | .fn f a c=>.fn f (renL σ a) (renL σ c)
 | .ic t x=>.ic t (ren σ x)
 | .mp b=>.mp (σ b)
 | .dead=>.dead
def renL (σ:Nat->Nat):List PV->List PV
 | []=>[]
 | p::ps=>ren σ p::renL σ ps
end
mutual
def under (n:Nat):PV->Bool
 | .row b _ _ _=>decide (b<n)
 | .ptr b _=>decide (b<n)
 | .ag cs=>A4v n cs
 | .tu cs=>A4v n cs
 | .fn _ a c=>A4v n a&&A4v n c
 | .ic _ x=>under n x
 | .mp b=>decide (b<n)
 | _=>true
def A4v (n:Nat):List PV->Bool
 | []=>true
 | p::ps=>under n p&&A4v n ps
end
def B3m (σ:Nat->Nat):Row->Row
 | .cells ty cs=>.cells ty (renL σ cs)
 | .iter t pos=>.iter t pos
 | .map kk es=>.map kk es
 | .lp l x k p=>.lp l x k (ren σ p)
 | .blk l o=>.blk l o
def A8c (n:Nat):Row->Bool
 | .cells _ cs=>A4v n cs
 | .iter _ _=>true
 | .map _ _=>true
 | .lp _ _ _ p=>under n p
 | .blk _ _=>true
mutual
theorem C0o {L:Loc} {w:World} {σ:Nat->Nat} {nx:Nat}:∀(p:PV) {u:Value},under nx p=true->RepV P L w (ren σ p) u->RepV P ⟨L.I,fun b=>L.μ (σ b),nx⟩ w p u
 | .t x,u,_,h=>by simpa only[ren,RepV]using h
 | .row b o n z,u,hu,h=>by
  simp only[ren,RepV,under,decide_eq_true_eq]at h hu ⊢;exact⟨hu,h.2⟩
 | .ptr b o,u,hu,h=>by
  simp only[ren,RepV,under,decide_eq_true_eq]at h hu ⊢;exact⟨hu,h.2⟩
 | .ag cs,u,hu,h=>by
  simp only[ren,RepV,under]at h hu ⊢;obtain⟨us,e,h1,hl⟩:=h;exact⟨us,e,h1,B5d cs hu hl⟩
 | .tu cs,u,hu,h=>by
  simp only[ren,RepV,under]at h hu ⊢;obtain⟨us,e,hl⟩:=h;exact⟨us,e,B5d cs hu hl⟩
 | .fn f a c,u,hu,h=>by
  simp only[ren,RepV,under,Bool.and_eq_true]at h hu ⊢;obtain⟨us,vs,e,h1,h2⟩:=h;exact⟨us,vs,e,B5d a hu.1 h1,B5d c hu.2 h2⟩
 | .ic t x,u,hu,h=>by
  simp only[ren,RepV,under]at h hu ⊢;obtain⟨y,e,hy⟩:=h;exact⟨y,e,C0o x hu hy⟩
 | .mp b,u,hu,h=>by
  simp only[ren,RepV,under,decide_eq_true_eq]at h hu ⊢;exact⟨hu,h.2⟩
 | .dead,u,_,_=>by simp only[RepV]
theorem B5d {L:Loc} {w:World} {σ:Nat->Nat} {nx:Nat}:∀(ps:List PV) {us:List Value},A4v nx ps=true->A0y P L w (renL σ ps) us->A0y P ⟨L.I,fun b=>L.μ (σ b),nx⟩ w ps us
 | [],us,_,h=>by simpa only[renL,A0y]using h
 | p::ps,us,hu,h=>by
  simp only[renL,A0y,A4v,Bool.and_eq_true]at h hu ⊢;obtain⟨x,xs,e,hx,hxs⟩:=h;exact⟨x,xs,e,C0o p hu.1 hx,B5d ps hu.2 hxs⟩
end
theorem B8f (σ:Nat->Nat):∀(ps:List PV) (j:Nat),(renL σ ps)[j]?=(ps[j]?).map (ren σ)
 | [],j=>by simp[renL]
 | p::ps,0=>by simp[renL]
 | p::ps,j+1=>by simp[renL,B8f σ ps j]
theorem B3n {n:Nat}:∀{ps:List PV} {j:Nat} {p:PV},A4v n ps=true->ps[j]?=some p->under n p=true
 | [],j,p,_,h=>by simp at h
 | q::ps,0,p,hu,h=>by simp only[A4v,Bool.and_eq_true]at hu;simp at h;subst h;exact hu.1
 | q::ps,j+1,p,hu,h=>by simp only[A4v,Bool.and_eq_true]at hu;exact B3n hu.2 (by simpa using h)
theorem C0p (σ:Nat->Nat):∀(ps:List PV),(renL σ ps).length=ps.length
 | []=>rfl
 | p::ps=>by simp[renL,C0p σ ps]
theorem C0q (σ:Nat->Nat) (hn:s'.n=s.n) (hB:B<=s'.nx) (hσ:∀b,b<B->σ b=b) (he:∀q∈s'.env,look s.env q.1=some (ren σ q.2)/\under s'.nx q.2=true)
  (hH:∀q∈s'.H,look s.H (σ q.1)=some (B3m σ q.2)/\q.1<s'.nx/\A8c s'.nx q.2=true) (hinj:∀q∈s'.H,∀q'∈s'.H,σ q.1=σ q'.1->q.1=q'.1):Sub P G B s s':=by
 intro L a w hi;refine⟨⟨L.I,fun b=>L.μ (σ b),s'.nx⟩,⟨⟨hi.heap.lt,fun b r h=>?_,fun b r h=>?_,fun b b' r r' h h' e=>?_,fun b r h=>(hH _ (A1p h)).2.1,hi.heap.glob⟩,rfl,hB,by rw[hn];exact hi.size,hi.defers,fun k p h=>?_⟩,?_,fun b hb=>by show L.μ (σ b)=L.μ b;rw[hσ b hb]⟩
 ·obtain⟨h1,h2,h3⟩:=hH _ (A1p h);have:=hi.heap.rep _ _ h1
  cases r with
  | cells ty cs=>
   obtain⟨arr,ha,hl,hc⟩:=this;refine⟨arr,ha,by rw[C0p]at hl;exact hl,fun j c hj=>?_⟩;obtain⟨x,hx,h1x,hr⟩:=hc j (ren σ c) (by rw[B8f,hj];rfl);exact⟨x,hx,h1x,C0o c (B3n h3 hj) hr⟩
  | iter t pos=>exact this
  | map kk es=>exact this
  | lp l x k p=>exact⟨this.1,this.2.1,C0o p h3 this.2.2⟩
  | blk l o=>exact this
 ·exact hi.heap.apart _ _ (hH _ (A1p h)).1
 ·exact hinj _ (A1p h) _ (A1p h') (hi.heap.inj _ _ _ _ (hH _ (A1p h)).1 (hH _ (A1p h')).1 e)
 ·obtain⟨h1,h2⟩:=he _ (A1p h);exact C0o p h2 (hi.env k _ h1)
 ·exact⟨Nat.le_refl _,fun _ _ _=>rfl,fun _ h=>h,fun _ h=>.inl h,fun g ⟨b,r,h,e⟩=>.inr ⟨σ b,_,(hH _ (A1p h)).1,e⟩,A1y.refl w,A3v.refl w⟩
def frzP (H:Heap) (F:List Nat) (p:PV):PV:=
 match toT H p with
 | some (x,F')=>if F'.all (F.contains ·)then .t x else p
 | none=>p
theorem D7z {L:Loc} {H:Heap} {w:World} (hok:A1o P G L H w) (F:List Nat) {p:PV} {u:Value} (h:RepV P L w p u):RepV P { L with I:=fun g=>L.I g\/Lent L H F g } w (frzP H F p) u:=by
 have hm:Mono L w { L with I:=fun g=>L.I g\/Lent L H F g } w:=⟨fun g hg=>⟨.inl hg,rfl⟩,Nat.le_refl _,fun _ _=>rfl,Nat.le_refl _,A1y.refl w⟩
 unfold frzP;split
 ·rename_i x F' hx;split
  ·rename_i hF;simp only[RepV];exact D4a hok p hx h F (fun b hb=>by simpa using List.all_eq_true.1 hF b hb)
  ·exact RepV.keep hm p h
 ·exact RepV.keep hm p h
def A6u (H:Heap) (F:List Nat):Row->Row
 | .cells ty cs=>.cells ty (cs.map (frzP H F))
 | r=>r
def A0c.frz (s:A0c) (F:List Nat):A0c:=
 { s with env:=s.env.map (fun q=>(q.1,frzP s.H F q.2)),H:=(remAll s.H F).map (fun q=>(q.1,A6u s.H F q.2)) }
theorem B2e {α β:Type} (f:α->β):∀(l:List (Nat×α)) (k:Nat),look (l.map fun q=>(q.1,f q.2)) k=(look l k).map f
 | [],k=>by simp[look]
 | (j,x)::l,k=>by
  simp only[List.map_cons,look,B2e f l k];split<;>rfl
theorem F6r (F:List Nat):Sub P G B s (s.frz F):=by
 intro L a w hi
 have hm:Mono L w { L with I:=fun g=>L.I g\/Lent L s.H F g } w:=⟨fun g hg=>⟨.inl hg,rfl⟩,Nat.le_refl _,fun _ _=>rfl,Nat.le_refl _,A1y.refl w⟩
 have back:∀b r,look (s.frz F).H b=some r->∃r0,look s.H b=some r0/\b∉F/\r=A6u s.H F r0:=by
  intro b r h;simp only[A0c.frz]at h;rw[B2e]at h;obtain⟨r0,h0,rfl⟩:=A0w h;exact⟨r0,(A1m F s.H b r0 h0).1,(A1m F s.H b r0 h0).2,rfl⟩
 refine⟨{ L with I:=fun g=>L.I g\/Lent L s.H F g },⟨⟨?_,fun b r h=>?_,fun b r h hI=>?_,fun b b' r r' h h' e=>?_,fun b r h=>?_,?_⟩,hi.nx,hi.base,hi.size,hi.defers,fun k p h=>?_⟩,?_,fun _ _=>rfl⟩
 ·rintro b (h | ⟨k,_,⟨r,hr⟩,rfl⟩)
  ·exact hi.heap.lt b h
  ·exact(hi.heap.rep k r hr).lt
 ·obtain⟨r0,h0,_,rfl⟩:=back b r h;have:=hi.heap.rep b r0 h0
  cases r0 with
  | cells ty cs=>
   obtain⟨arr,ha,hl,hc⟩:=this;refine⟨arr,ha,by simpa using hl,fun j c hj=>?_⟩;simp only[List.getElem?_map]at hj;obtain⟨c0,hc0,rfl⟩:=A0w hj;obtain⟨x,hx,h1x,hr⟩:=hc j c0 hc0;exact⟨x,hx,h1x,D7z hi.heap F hr⟩
  | iter t pos=>exact this
  | map kk es=>exact this
  | lp l x k p=>exact⟨this.1,this.2.1,RepV.keep hm p this.2.2⟩
  | blk l o=>exact this
 ·obtain⟨r0,h0,hF,_⟩:=back b r h;rcases hI with hI | ⟨k,hk,⟨r1,h1⟩,e⟩
  ·exact hi.heap.apart b r0 h0 hI
  ·exact hF ((hi.heap.inj k b r1 r0 h1 h0 e)▸hk)
 ·obtain⟨r0,h0,_,_⟩:=back b r h;obtain⟨r1,h1,_,_⟩:=back b' r' h';exact hi.heap.inj b b' r0 r1 h0 h1 e
 ·obtain⟨r0,h0,_,_⟩:=back b r h;exact hi.heap.nx b r0 h0
 ·exact A2b hi.heap hm.keeps
 ·simp only[A0c.frz]at h;rw[B2e]at h;obtain⟨p0,h0,rfl⟩:=A0w h;exact D7z hi.heap F (hi.env k p0 h0)
 ·refine⟨Nat.le_refl _,fun _ _ _=>rfl,fun g h=>.inl h,fun g h=>?_,fun g ⟨b,r,h,e⟩=>?_,A1y.refl w,A3v.refl w⟩
  ·rcases h with h | ⟨k,_,⟨r,hr⟩,e⟩
   ·exact .inl h
   ·exact .inr (.inr ⟨k,r,hr,e⟩)
  ·obtain⟨r0,h0,_,_⟩:=back b r h;exact .inr ⟨b,r0,h0,e⟩
inductive RV where
 | tmp (t:Nat)
 | cell (t:Nat) (agg:Bool) (n:Nat)
def B5e (P:Program):ResultVar->Option RV
 | .tmp t=>some (.tmp t)
 | .cell a t=>(A4g P t).map fun q=>.cell a q.1 q.2
@[simp] def resM (s:A0c):List RV->Option (List PV)
 | []=>some []
 | .tmp t::r=>match look s.env t,resM s r with
  | some p,some ps=>some (p::ps)
  | _,_=>none
 | .cell a agg n::r=>match look s.env a,resM s r with
  | some (.ptr b o),some ps=>match A0t agg n s.H (.ptr b o)with
   | some q=>some (q::ps)
   | none=>none
  | _,_=>none
theorem C6u:∀{rs:List ResultVar} {vs:List RV} {ps:List PV},rs.mapM (B5e P)=some vs->resM s vs=some ps->A4l P s rs=some ps
 | [],vs,ps,h,hr=>by
  simp at h;subst h;simpa only[resM,A4l]using hr
 | r::rs,vs,ps,h,hr=>by
  simp only[List.mapM_cons,Option.bind_eq_bind,Option.pure_def]at h
  cases h1:B5e P r with
  | none=>rw[h1]at h;cases h
  | some v=>
   rw[h1]at h
   cases h2:rs.mapM (B5e P)with
   | none=>rw[h2]at h;cases h
   | some vs'=>
    rw[h2]at h;simp only[Option.bind_some,Option.some.injEq]at h;subst h
    cases r with
    | tmp t=>
     simp only[B5e,Option.some.injEq]at h1;subst h1;simp only[resM]at hr;split at hr
     ·rename_i p ps' hp hps;simp only[A4l,hp,C6u h2 hps];exact hr
     ·cases hr
    | cell a t=>
     simp only[B5e]at h1;obtain⟨⟨agg,n⟩,hs,rfl⟩:=A0w h1;simp only[resM]at hr;split at hr
     ·rename_i b o ps' hp hps;split at hr
      ·rename_i q hq;simp only[A4l,hp,C6u h2 hps,D7s hs,hq,Option.map_some];exact hr
      ·cases hr
     ·cases hr
@[simp] def oneOf:List PV->PV
 | [p]=>p
 | ps=>match allT ps with
  | some ts=>.t (.tu ts)
  | none=>.tu ps
def E6k (vs:List RV) (R:T->Prop) (e:Exit) (s:A0c):Prop:=
 (e = .normal\/e = .ret)/\∃ps r F,resM s vs=some ps/\toT s.H (oneOf ps)=some (r,F)/\R r
@[simp] def starts:Nat->List T->List (Nat×PV)
 | _,[]=>[]
 | k,x::xs=>(k,.t x)::starts (k+1) xs
theorem D0l:∀(xs:List T) (k:Nat),starts k xs=((xs.map PV.t).zipIdx k).map fun p=>(p.2,p.1)
 | [],k=>rfl
 | x::xs,k=>by simp[starts,D0l xs (k+1)]
@[simp] def startM (N:Nat) (args:List T):A0c:={ env:=starts 0 args,H:=[],nx:=0,n:=N }
theorem callM {f:FuncId} {fn:Func} {c:Code} {M:A0p} {vs:List RV} {args:List T} {R:T->Prop} (hf:P.funcs[f]?=some fn) (hb:fn.body=some c) (hname:(fn.name == "runtime.NumGoroutine")=false)
  (hc:comp P G N c=some M) (hrs:fn.results.toList.mapM (B5e P)=some vs) (hN:args.length+(fn.ntmps-args.length)=N) (h:MC P G 0 N M (E6k vs R) (startM N args)):A1d P G f args R:=by
 refine⟨⟨fn,c,hf,hb,hname⟩,fun I w us hlt hglob hargs=>calls_of_wp hf hb ?_⟩
 have hlen:us.size=args.length:=by simpa using hargs.length
 let L:Loc:=⟨I,fun _=>0,0⟩
 have hok:A1o P G L [] w:=⟨hlt,fun b r h=>by simp[look]at h,fun b r h=>by simp[look]at h,fun b b' r r' h=>by simp[look]at h,fun b r h=>by simp[look]at h,hglob⟩
 have hi:Interp P G 0 L (startM N args) { tmps:=us++Array.replicate (fn.ntmps-us.size) undef,defers:=[] } w:=by
  refine⟨hok,rfl,Nat.zero_le _,by simp[startM,hlen,hN],rfl,fun k p hl=>?_⟩;simp only[startM,D0l]at hl;obtain⟨_,hk⟩:=B4b _ k 0 p hl;simp only[Nat.sub_zero]at hk;have hrep:=A0y.ofT (P:=P) (L:=L) hargs;obtain⟨x,hx,hr⟩:=hrep.at_ k hk
  have hx':us[k]?=some x:=by simpa using hx
  have hk':k<us.size:=(Array.getElem?_eq_some_iff.1 hx').1;rw[Array.getD_eq_getD_getElem?,Array.getElem?_append_left hk',hx'];exact hr
 refine wp_mono (h c hc rfl L _ w hi) fun e a' w' ⟨s1,L1,q,hi1,hx,_⟩=>?_;obtain⟨he,ps,r,F,hres,hT,hR⟩:=q
 have hrv:B6p P fn s1=some (oneOf ps):=by
  unfold B6p;rw[C6u hrs hres];rcases ps with _ | ⟨x,_ | ⟨y,r⟩⟩<;>rfl
 obtain⟨v,hrun,hv⟩:=C0f hi1 hrv;have hrt:=D4a hi1.heap (oneOf ps) hT hv F (fun _ h=>h)
 have nomine:∀g,¬Mine L [] g:=fun g ⟨b,r,h,_⟩=>by simp[look]at h
 have hfin:a'.defers=[]/\∃v,(results fn a'.tmps).run P w' = .ok v w' /\
   ∃v' r I',Ending.returned v = .returned v'/\R r/\RepT I' w' r v'/\A3v w w'/\w.heap.size<=w'.heap.size/\(∀g,g<w.heap.size->w'.heap[g]?=w.heap[g]?) /\
   (∀g,I g->I' g)/\(∀g,I' g->I g\/w.heap.size<=g)/\(∀g,I' g->g<w'.heap.size):=by
  refine⟨hi1.defers,v,hrun,v,r,_,rfl,hR,hrt,hx.outer,hx.size,fun g hg=>hx.same g hg (nomine g),fun g hg=>.inl (hx.more g hg),fun g hg=>?_,fun g hg=>?_⟩
  ·rcases hg with hg | ⟨b,_,⟨r0,h0⟩,e0⟩
   ·rcases hx.new g hg with h | h | h
    ·exact .inl h
    ·exact .inr h
    ·exact absurd h (nomine g)
   ·rcases hx.mine g ⟨b,r0,h0,e0⟩with h | h
    ·exact .inr h
    ·exact absurd h (nomine g)
  ·rcases hg with hg | ⟨b,_,⟨r0,h0⟩,rfl⟩
   ·exact hi1.heap.lt g hg
   ·exact(hi1.heap.rep b r0 h0).lt
 rcases he with rfl | rfl
 ·exact hfin
 ·exact hfin
def D4t (P:Program) (G:A1c) (B:Nat) (vs:List RV) (R:PV->Heap->Nat->Prop) (e:Exit) (s:A0c):Prop:=
 (e = .normal\/e = .ret)/\∃s2 ps,Sub P G B s s2/\resM s2 vs=some ps/\R (oneOf ps) s2.H s2.nx
@[simp] def startsP:Nat->List PV->List (Nat×PV)
 | _,[]=>[]
 | k,x::xs=>(k,x)::startsP (k+1) xs
theorem C4r:∀(xs:List PV) (k:Nat),startsP k xs=(xs.zipIdx k).map fun p=>(p.2,p.1)
 | [],k=>rfl
 | x::xs,k=>by simp[startsP,C4r xs (k+1)]
theorem G0f {f:FuncId} {fn:Func} {c:Code} {M:A0p} {vs:List RV} {ps:List PV} {H H':Heap} {nx nx':Nat} {r:PV} (hf:P.funcs[f]?=some fn) (hb:fn.body=some c) (hname:(fn.name == "runtime.NumGoroutine")=false)
  (hc:comp P G N c=some M) (hrs:fn.results.toList.mapM (B5e P)=some vs) (hN:ps.length+(fn.ntmps-ps.length)=N)
  (h:MC P G nx N M (D4t P G nx vs fun r0 H0 nx0=>r0=r/\H0=H'/\nx0=nx') ⟨startsP 0 ps,H,nx,N⟩):A3n P G f ps H nx r H' nx':=by
 refine⟨⟨fn,c,hf,hb,hname⟩,fun L w us hok hnx hargs=>calls_of_wp hf hb ?_⟩
 have hlen:us.size=ps.length:=by simpa using hargs.length
 have hi:Interp P G nx L ⟨startsP 0 ps,H,nx,N⟩ { tmps:=us++Array.replicate (fn.ntmps-us.size) undef,defers:=[] } w:=by
  refine⟨hok,hnx,by rw[hnx];exact Nat.le_refl _,by simp[hlen,hN],rfl,fun k p hl=>?_⟩;simp only[C4r]at hl;obtain⟨_,hk⟩:=B4b _ k 0 p hl;simp only[Nat.sub_zero]at hk;obtain⟨x,hx,hr⟩:=hargs.at_ k hk
  have hx':us[k]?=some x:=by simpa using hx
  have hk':k<us.size:=(Array.getElem?_eq_some_iff.1 hx').1;rw[Array.getD_eq_getD_getElem?,Array.getElem?_append_left hk',hx'];exact hr
 refine wp_mono (h c hc rfl L _ w hi) fun e a' w' ⟨s1,L1,q,hi1,hx,hμ⟩=>?_;obtain⟨he,s2,rs,hsub,hres,hr,hH,hnx2⟩:=q;obtain⟨L2,hi2,hx2,hμ2⟩:=hsub L1 a' w' hi1
 have hrv:B6p P fn s2=some (oneOf rs):=by
  unfold B6p;rw[C6u hrs hres];rcases rs with _ | ⟨x,_ | ⟨y,r⟩⟩<;>rfl
 obtain⟨v,hrun,hv⟩:=C0f hi2 hrv;have hxx:=hx.trans hx2
 have hm:Mono L w L2 w':=⟨hxx.keeps hok,by rw[hnx];exact hi2.base,fun b hb=>(hμ2 b (by omega)).trans (hμ b (by omega)),hxx.size,hxx.shape⟩
 have hfin:a'.defers=[]/\∃v,(results fn a'.tmps).run P w' = .ok v w' /\
   ∃v' L',Ending.returned v = .returned v'/\RepV P L' w' r v'/\A1o P G L' H' w'/\L'.nx=nx'/\Mono L w L' w'/\Ext L H w L' H' w':=
  ⟨hi2.defers,v,hrun,v,L2,rfl,hr▸hv,hH▸hi2.heap,hi2.nx.trans hnx2,hm,hH▸hxx⟩
 rcases he with rfl | rfl
 ·exact hfin
 ·exact hfin
end
end Go.Abs
