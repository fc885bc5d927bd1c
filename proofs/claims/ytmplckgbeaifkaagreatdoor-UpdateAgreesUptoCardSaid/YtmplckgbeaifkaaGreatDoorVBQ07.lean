/-
 Auxiliary facts. No statement of the program stands here.
-/
import Derived.Test.YtmplckgbeaifkaaGreatDoorVBQ06
import Derived.Laws.StructEq
import Derived.Laws.BytesString
import Derived.Laws.RangeString
import Derived.MapKept
import Derived.WideKeyRuns
namespace Go.Abs
set_option linter.unusedSimpArgs false
set_option linter.unusedVariables false
open Go
def A1n:List CK->List T->List T->Option Bool
 | [],[],[]=>some true
 | .i::ks,.v (.int k a)::xs,.v (.int k' b)::ys=>if k=k' then(A1n ks xs ys).map fun r=>(a==b)&&r else none
 | .s::ks,.v (.string a)::xs,.v (.string b)::ys=>(A1n ks xs ys).map fun r=>(a.toList==b.toList)&&r
 | .b::ks,.v (.bool a)::xs,.v (.bool b)::ys=>(A1n ks xs ys).map fun r=>(a==b)&&r
 | _,_,_=>none
def mkFn (f:Fn) (first cap:List PV):PV:=
 match first,cap with
 | [],[]=>.t (.v (.func f #[] #[]))
 | first,cap=>.fn f first cap
def exM:EK->List PV->Option PV
 | .eqs neg ks,[.t (.ag xs),.t (.ag ys)]=>(A1n ks xs ys).map fun r=>.t (.v (.bool (if neg then !r else r)))
 | .mki t,[.t x]=>some (.t (.ic t x))
 | .mki t,[x]=>some (.ic t x)
 | .mkf f n,ps=>some (mkFn f (ps.take n) (ps.drop n))
 | .aix len n agg,[.t (.ag cs),.t (.v (.int _ i))]=>if 0<=i/\i<(len:Int)/\i.toNat*n+n<=cs.length then
   (if agg then some (.t (.ag ((cs.drop (i.toNat*n)).take n)))else(cs[i.toNat*n]?).map .t)
  else none
 | _,_=>none
def B0e:List T->Option (List UInt8)
 | []=>some []
 | .v (.int .u8 n)::r=>(B0e r).map fun l=>UInt8.ofNat n.toNat::l
 | _=>none
def E1w:List T->Option (List Int)
 | []=>some []
 | .v (.int .i64 n)::r=>(E1w r).map (n::·)
 | _=>none
def keyT:KK->PV->Option Key
 | .int k,.t (.v (.int k' n))=>if k'=k then some (.n [n])else none
 | .str,.t (.v (.string b))=>some (.s b)
 | .ints m,.t (.ag cs)=>(E1w cs).bind fun ns=>if ns.length=m then some (.n ns)else none
 | _,_=>none
def getK:List (Key×Value)->Key->Option Value
 | [],_=>none
 | (y,v)::r,x=>if y=x then some v else getK r x
def setK:List (Key×Value)->Key->Value->List (Key×Value)
 | [],x,v=>[(x,v)]
 | (y,u)::r,x,v=>if y=x then(y,v)::r else(y,u)::setK r x v
def C7s (ok:Bool) (z:Value) (q:Option Value):T:=
 if ok then .tu [.v (q.getD z),.v (.bool q.isSome)]else .v (q.getD z)
def A6f (zc:List Value) (k:Nat):List Value:=(Builtin.zeroCells zc.toArray k).toList
def hxM (k:HK) (H:Heap) (nx:Nat) (ps:List PV):Option (PV×Heap×Nat):=
 match k,ps with
 | .range,[.t (.v (.string s))]=>some (.ptr nx 0,(nx,.iter s 0)::H,nx+1)
 | .next,[.ptr b 0]=>match look H b with
  | some (.iter s pos)=>if pos<s.size then
    some (.t (.tu [.v (.bool true),.v (.int .i64 pos),.v (.int .i32 (Utf8.decode s pos).1)]),upd H b (.iter s (pos+(Utf8.decode s pos).2)),nx)
   else some (.t (.tu [.v (.bool false)]),H,nx)
  | _=>none
 | .b2s,[p]=>match toTS H p with
  | some cs=>(B0e cs).map fun l=>(.t (.v (.string ⟨l.toArray⟩)),H,nx)
  | none=>none
 | .mnew kk,[]=>some (.mp nx,(nx,.map kk [])::H,nx+1)
 | .mget kk z ok,[.mp b,p]=>match look H b,keyT kk p with
  | some (.map kk' es),some x=>if kk'=kk then some (.t (C7s ok z (getK es x)),H,nx)else none
  | _,_=>none
 | .mset kk,[.mp b,p,.t (.v v)]=>match look H b,keyT kk p with
  | some (.map kk' es),some x=>if kk'=kk then some (.t (.v undef),upd H b (.map kk (setK es x v)),nx)else none
  | _,_=>none
 | .clr n zc,[.row b o k z]=>match look H b with
  | some (.cells ty cs)=>if z=n/\0<k/\o+(A6f zc k).length<=cs.length then some (.t (.tu []),upd H b (.cells ty (A4y cs o ((A6f zc k).map fun x=>.t (.v x)))),nx)else none
  | _=>none
 | _,_=>none
 where
 toTS (H:Heap):PV->Option (List T)
  | .t (.v (.slice none _ _))=>some []
  | .t (.sl n cs)=>if cs.length=n then some cs else none
  | .row b o n z=>match look H b with
   | some (.cells _ cs)=>if z=1/\o+n<=cs.length then allT ((cs.drop o).take n)else none
   | _=>none
  | _=>none
def A2p (P:Program):Nat->List Field->Option (List CK)
 | _,[]=>some []
 | o,f::fs=>if f.name ≠ "_" /\ f.offset=o/\(P.info? f.type).map (·.size)=some 1 then
   (match P.underlying f.type with
   | some (.int _)=>(A2p P (o+1) fs).map (.i::·)
   | some .string=>(A2p P (o+1) fs).map (.s::·)
   | some .bool=>(A2p P (o+1) fs).map (.b::·)
   | _=>none)
  else none
def B9b (P:Program) (t:TypeId):Option (List CK):=
 match P.underlying t with
 | some (.struct fs)=>if P.stoodInHeld t=false/\P.eqGuardType P.depth t=false then A2p P 0 fs.toList else none
 | _=>none
def A3x (P:Program):Nat->List Field->Option (List CK)
 | _,[]=>some []
 | o,f::fs=>if f.name ≠ "_" /\ f.offset=o then
   (match P.underlying f.type with
   | some (.int _)=>(A3x P (o+1) fs).map (.i::·)
   | some .string=>(A3x P (o+1) fs).map (.s::·)
   | some .bool=>(A3x P (o+1) fs).map (.b::·)
   | some (.struct g)=>(A2p P 0 g.toList).bind fun k0=>
    if P.stoodInHeld f.type=false/\A4w P f.type=some (true,k0.length)then(A3x P (o+k0.length) fs).map (k0++·)else none
   | _=>none)
  else none
def B8e (P:Program) (t:TypeId):Option (List CK):=
 match P.underlying t with
 | some (.struct fs)=>if P.stoodInHeld t=false/\P.eqGuardType P.depth t=false then A3x P 0 fs.toList else none
 | _=>none
def CK.isI:CK->Bool
 | .i=>true
 | _=>false
def kkOf (P:Program) (kt:TypeId):Option KK:=
 match P.underlying kt with
 | some (.int k)=>some (.int k)
 | some .string=>some .str
 | some (.struct _)=>match B9b P kt with
  | some ks=>if ks.all CK.isI then some (.ints ks.length)else none
  | none=>none
 | _=>none
def E1x (P:Program) (t:TypeId):Option KK:=
 match P.underlying t with
 | some (.map kt _)=>kkOf P kt
 | _=>none
def D4o (P:Program) (t:TypeId):Option (KK×Value):=
 match P.underlying t with
 | some (.map kt et)=>match kkOf P kt,(P.info? et).bind (·.zero)with
  | some kk,some z=>some (kk,z)
  | _,_=>none
 | _=>none
def extK (P:Program) (G:A0u) (o:Op):Option (MK×List Opd):=
 match o with
 | .binOp .eql t x y _=>(B8e P t).map fun ks=>(.ex (.eqs false ks),[A0j G x,A0j G y])
 | .binOp .neq t x y _=>(B8e P t).map fun ks=>(.ex (.eqs true ks),[A0j G x,A0j G y])
 | .range t x=>match P.underlying t with
  | some .string=>some (.hx .range,[A0j G x])
  | _=>none
 | .next x true=>some (.hx .next,[A0j G x])
 | .convert src dst x=>match P.underlying src,P.underlying dst with
  | some (.slice e),some .string=>match P.underlying e with
   | some (.int .u8)=>some (.hx .b2s,[A0j G x])
   | _=>none
  | _,_=>none
 | .makeInterface t x=>match P.underlying t with
  | some (.interface _)=>none
  | some _=>some (.ex (.mki t),[A0j G x])
  | none=>none
 | .makeFunc f first cap=>some (.ex (.mkf f first.size),first.toList.map (A0j G)++cap.toList.map (A0j G))
 | .panic x=>some (.hx .pan,[A0j G x])
 | .call ⟨.builtin .clear,⟨[x]⟩,⟨[t]⟩⟩=>(A3w P t).map fun q=>(.hx (.clr q.2.1 q.2.2.2),[A0j G x])
 | .makeMap t none=>(E1x P t).map fun kk=>(.hx (.mnew kk),[])
 | .lookup t x y ok=>(D4o P t).map fun q=>(.hx (.mget q.1 q.2 ok),[A0j G x,A0j G y])
 | .mapUpdate t x y z=>(E1x P t).map fun kk=>(.hx (.mset kk),[A0j G x,A0j G y,A0j G z])
 | .index t x i=>match P.underlying t with
  | some (.array len e)=>(A4w P e).map fun q=>(.ex (.aix len q.2 q.1),[A0j G x,A0j G i])
  | _=>none
 | _=>none
theorem E1y {P:Program} {G:A0u} {o:Op} {k:MK} {xs:List Opd} (hk:match k with | .ex _ | .hx _=>False | _=>True):¬extK P G o=some (k,xs):=by
 intro h;unfold extK at h;split at h
 ·obtain⟨ks,_,e⟩:=Option.map_eq_some_iff.1 h;injection e with e1 e2;subst e1;exact hk
 ·obtain⟨ks,_,e⟩:=Option.map_eq_some_iff.1 h;injection e with e1 e2;subst e1;exact hk
 ·split at h
  ·injection h with h;injection h with e1 e2;subst e1;exact hk
  ·cases h
 ·injection h with h;injection h with e1 e2;subst e1;exact hk
 ·split at h
  ·split at h
   ·injection h with h;injection h with e1 e2;subst e1;exact hk
   ·cases h
  ·cases h
 ·split at h
  ·cases h
  ·injection h with h;injection h with e1 e2;subst e1;exact hk
  ·cases h
 ·injection h with h;injection h with e1 e2;subst e1;exact hk
 ·injection h with h;injection h with e1 e2;subst e1;exact hk
 ·obtain⟨ks,_,e⟩:=Option.map_eq_some_iff.1 h;injection e with e1 e2;subst e1;exact hk
 ·obtain⟨ks,_,e⟩:=Option.map_eq_some_iff.1 h;injection e with e1 e2;subst e1;exact hk
 ·obtain⟨ks,_,e⟩:=Option.map_eq_some_iff.1 h;injection e with e1 e2;subst e1;exact hk
 ·obtain⟨ks,_,e⟩:=Option.map_eq_some_iff.1 h;injection e with e1 e2;subst e1;exact hk
 ·split at h
  ·obtain⟨ks,_,e⟩:=Option.map_eq_some_iff.1 h;injection e with e1 e2;subst e1;exact hk
  ·cases h
 ·cases h
section
variable {P : Program} {G : A0u} {B : Nat} {s : A0b} {o : Oper}
theorem B3r {w:World} {t:TypeId} {xs:Array Value} {off:Nat} {x:Value} (hu:P.underlying t=some .string\/P.underlying t=some .bool\/∃k,P.underlying t=some (.int k)) (hx:xs[off]?=some x):(part t xs off).run P w = .ok x w:=by
 have ha:(isAgg t).run P w = .ok false w:=by
  rcases hu with h | h | ⟨k,h⟩<;>simp[isAgg,run_underlying h]
 simp[part,ha,hx]
theorem B9c {ks:List CK} {cx cy:List T} {r:Bool} (h:A1n (.i::ks) cx cy=some r):∃k a xs b ys r1,cx = .v (.int k a)::xs/\cy = .v (.int k b)::ys/\A1n ks xs ys=some r1/\r=((a==b)&&r1):=by
 unfold A1n at h;split at h
 all_goals (first | (rename_i hh;cases hh;done) | (cases h;done) | skip)
 rename_i ks' k a xs k' b ys hk;cases hk;split at h
 ·rename_i e;subst e;obtain⟨r1,h1,h2⟩:=Option.map_eq_some_iff.1 h;exact⟨k,a,xs,b,ys,r1,rfl,rfl,h1,h2.symm⟩
 ·cases h
theorem B9d {ks:List CK} {cx cy:List T} {r:Bool} (h:A1n (.s::ks) cx cy=some r):∃a xs b ys r1,cx = .v (.string a)::xs/\cy = .v (.string b)::ys/\A1n ks xs ys=some r1/\r=((a.toList==b.toList)&&r1):=by
 unfold A1n at h;split at h
 all_goals (first | (rename_i hh;cases hh;done) | (cases h;done) | skip)
 rename_i ks' a xs b ys hk;cases hk;obtain⟨r1,h1,h2⟩:=Option.map_eq_some_iff.1 h;exact⟨a,xs,b,ys,r1,rfl,rfl,h1,h2.symm⟩
theorem B9e {ks:List CK} {cx cy:List T} {r:Bool} (h:A1n (.b::ks) cx cy=some r):∃a xs b ys r1,cx = .v (.bool a)::xs/\cy = .v (.bool b)::ys/\A1n ks xs ys=some r1/\r=((a==b)&&r1):=by
 unfold A1n at h;split at h
 all_goals (first | (rename_i hh;cases hh;done) | (cases h;done) | skip)
 rename_i ks' a xs b ys hk;cases hk;obtain⟨r1,h1,h2⟩:=Option.map_eq_some_iff.1 h;exact⟨a,xs,b,ys,r1,rfl,rfl,h1,h2.symm⟩
theorem B0f {w:World} (I:Nat->Prop) (d:Nat) (xs ys:Array Value):∀(fs:List Field) (off:Nat) (ks:List CK) (cx cy:List T) (r:Bool),A2p P off fs=some ks->A1n ks cx cy=some r ->
  RepL I w cx (xs.toList.drop off)->RepL I w cy (ys.toList.drop off)->(Op.eqFields (d+1) xs ys fs).run P w = .ok r w
 | [],off,ks,cx,cy,r,hk,he,_,_=>by
  simp only[A2p,Option.some.injEq]at hk;subst hk;cases cx<;>cases cy<;>simp[A1n]at he;subst he;simp[Op.eqFields]
 | f::fs,off,ks,cx,cy,r,hk,he,hx,hy=>by
  simp only[A2p]at hk;split at hk
  ·rename_i hf;obtain⟨hn,ho,h1⟩:=hf
   have key:∀(a b:T) (cx' cy':List T) (r0 r1:Bool) (ks':List CK),cx=a::cx'->cy=b::cy'->A2p P (off+1) fs=some ks'->A1n ks' cx' cy'=some r1->r=(r0&&r1) ->
     (P.underlying f.type=some .string\/P.underlying f.type=some .bool\/∃k,P.underlying f.type=some (.int k)) ->
     (∀u v,RepT I w a u->RepT I w b v->(Op.equalIn (d+1) f.type u v).run P w = .ok r0 w)->(Op.eqFields (d+1) xs ys (f::fs)).run P w = .ok r w:=by
    intro a b cx' cy' r0 r1 ks' ex ey hks hr1 hr hu heq;subst ex;subst ey;simp only[RepL]at hx hy;obtain⟨u,us,e1,hu1,hus⟩:=hx;obtain⟨v,vs,e2,hv1,hvs⟩:=hy
    have g1:xs[off]?=some u:=by
     have:(xs.toList.drop off)[0]?=some u:=by rw[e1];rfl
     simpa using this
    have g2:ys[off]?=some v:=by
     have:(ys.toList.drop off)[0]?=some v:=by rw[e2];rfl
     simpa using this
    have d1:xs.toList.drop (off+1)=us:=by
     have:=congrArg (List.drop 1) e1;simpa using this
    have d2:ys.toList.drop (off+1)=vs:=by
     have:=congrArg (List.drop 1) e2;simpa using this
    have ih:=B0f I d xs ys fs (off+1) ks' cx' cy' r1 hks hr1 (by rw[d1];exact hus) (by rw[d2];exact hvs);simp only[Op.eqFields,hn,ne_eq,not_false_eq_true,if_true,ho,Sem.run_bind,B3r hu g1,B3r hu g2,Result.andThen_ok,heq u v hu1 hv1]
    cases r0 with
    | true=>simp[hr,ih]
    | false=>simp[hr]
   split at hk
   ·rename_i k hu;obtain⟨ks',hks,rfl⟩:=Option.map_eq_some_iff.1 hk;obtain⟨k1,a,xs',b,ys',r1,e1,e2,h1,h2⟩:=B9c he;refine key _ _ _ _ (a==b) r1 ks' e1 e2 hks h1 h2 (.inr (.inr ⟨k,hu⟩)) fun u v hu' hv'=>?_;simp only[RepT]at hu' hv';subst hu';subst hv';exact run_equalIn_int w d f.type k1 k a b hu
   ·rename_i hu;obtain⟨ks',hks,rfl⟩:=Option.map_eq_some_iff.1 hk;obtain⟨a,xs',b,ys',r1,e1,e2,h1,h2⟩:=B9d he;refine key _ _ _ _ (a.toList==b.toList) r1 ks' e1 e2 hks h1 h2 (.inl hu) fun u v hu' hv'=>?_;simp only[RepT]at hu' hv';subst hu';subst hv';exact run_equalIn_string w d f.type a b hu
   ·rename_i hu;obtain⟨ks',hks,rfl⟩:=Option.map_eq_some_iff.1 hk;obtain⟨a,xs',b,ys',r1,e1,e2,h1,h2⟩:=B9e he;refine key _ _ _ _ (a==b) r1 ks' e1 e2 hks h1 h2 (.inr (.inl hu)) fun u v hu' hv'=>?_;simp only[RepT]at hu' hv';subst hu';subst hv';exact run_equalIn_bool' w d f.type a b hu
   ·cases hk
  ·cases hk
theorem A8y:∀{k0 ks:List CK} {cx cy:List T} {r:Bool},A1n (k0++ks) cx cy=some r->∃x0 x1 y0 y1 r0 r1,cx=x0++x1/\cy=y0++y1/\x0.length=k0.length/\y0.length=k0.length/\A1n k0 x0 y0=some r0/\A1n ks x1 y1=some r1/\r=(r0&&r1)
 | [],ks,cx,cy,r,h=>⟨[],cx,[],cy,true,r,rfl,rfl,rfl,rfl,rfl,h,rfl⟩
 | k::k0,ks,cx,cy,r,h=>by
  cases k with
  | i=>
   obtain⟨k,a,xs,b,ys,r1,rfl,rfl,h1,rfl⟩:=B9c h;obtain⟨x0,x1,y0,y1,r0,r2,rfl,rfl,l1,l2,g1,g2,rfl⟩:=A8y h1;exact⟨_::x0,x1,_::y0,y1,(a==b)&&r0,r2,rfl,rfl,by simp[l1],by simp[l2],by simp[A1n,g1],g2,by rw[Bool.and_assoc]⟩
  | s=>
   obtain⟨a,xs,b,ys,r1,rfl,rfl,h1,rfl⟩:=B9d h;obtain⟨x0,x1,y0,y1,r0,r2,rfl,rfl,l1,l2,g1,g2,rfl⟩:=A8y h1;exact⟨_::x0,x1,_::y0,y1,(a.toList==b.toList)&&r0,r2,rfl,rfl,by simp[l1],by simp[l2],by simp[A1n,g1],g2,by rw[Bool.and_assoc]⟩
  | b=>
   obtain⟨a,xs,b,ys,r1,rfl,rfl,h1,rfl⟩:=B9e h;obtain⟨x0,x1,y0,y1,r0,r2,rfl,rfl,l1,l2,g1,g2,rfl⟩:=A8y h1;exact⟨_::x0,x1,_::y0,y1,(a==b)&&r0,r2,rfl,rfl,by simp[l1],by simp[l2],by simp[A1n,g1],g2,by rw[Bool.and_assoc]⟩
theorem C4r {I:Nat->Prop} {w:World}:∀{a b:List T} {us:List Value},RepL I w (a++b) us->RepL I w a (us.take a.length)/\RepL I w b (us.drop a.length)
 | [],b,us,h=>⟨by simp[RepL],by simpa using h⟩
 | x::a,b,us,h=>by
  simp only[List.cons_append,RepL]at h;obtain⟨u,us,rfl,hu,h⟩:=h;obtain⟨h1,h2⟩:=C4r h;exact⟨by simp only[List.length_cons,List.take_succ_cons,RepL];exact⟨u,_,rfl,hu,h1⟩,by simpa using h2⟩
theorem A8z {w:World} (I:Nat->Prop) (d:Nat) (xs ys:Array Value):∀(fs:List Field) (off:Nat) (ks:List CK) (cx cy:List T) (r:Bool),A3x P off fs=some ks->A1n ks cx cy=some r ->
  RepL I w cx (xs.toList.drop off)->RepL I w cy (ys.toList.drop off)->(Op.eqFields (d+2) xs ys fs).run P w = .ok r w
 | [],off,ks,cx,cy,r,hk,he,_,_=>by
  simp only[A3x,Option.some.injEq]at hk;subst hk;cases cx<;>cases cy<;>simp[A1n]at he;subst he;simp[Op.eqFields]
 | f::fs,off,ks,cx,cy,r,hk,he,hx,hy=>by
  simp only[A3x]at hk;split at hk
  ·rename_i hf;obtain⟨hn,ho⟩:=hf
   have key:∀(a b:T) (cx' cy':List T) (r0 r1:Bool) (ks':List CK),cx=a::cx'->cy=b::cy'->A3x P (off+1) fs=some ks'->A1n ks' cx' cy'=some r1->r=(r0&&r1) ->
     (P.underlying f.type=some .string\/P.underlying f.type=some .bool\/∃k,P.underlying f.type=some (.int k)) ->
     (∀u v,RepT I w a u->RepT I w b v->(Op.equalIn (d+2) f.type u v).run P w = .ok r0 w)->(Op.eqFields (d+2) xs ys (f::fs)).run P w = .ok r w:=by
    intro a b cx' cy' r0 r1 ks' ex ey hks hr1 hr hu heq;subst ex;subst ey;simp only[RepL]at hx hy;obtain⟨u,us,e1,hu1,hus⟩:=hx;obtain⟨v,vs,e2,hv1,hvs⟩:=hy
    have g1:xs[off]?=some u:=by
     have:(xs.toList.drop off)[0]?=some u:=by rw[e1];rfl
     simpa using this
    have g2:ys[off]?=some v:=by
     have:(ys.toList.drop off)[0]?=some v:=by rw[e2];rfl
     simpa using this
    have d1:xs.toList.drop (off+1)=us:=by
     have:=congrArg (List.drop 1) e1;simpa using this
    have d2:ys.toList.drop (off+1)=vs:=by
     have:=congrArg (List.drop 1) e2;simpa using this
    have ih:=A8z I d xs ys fs (off+1) ks' cx' cy' r1 hks hr1 (by rw[d1];exact hus) (by rw[d2];exact hvs);simp only[Op.eqFields,hn,ne_eq,not_false_eq_true,if_true,ho,Sem.run_bind,B3r hu g1,B3r hu g2,Result.andThen_ok,heq u v hu1 hv1]
    cases r0 with
    | true=>simp[hr,ih]
    | false=>simp[hr]
   split at hk
   ·rename_i k hu;obtain⟨ks',hks,rfl⟩:=Option.map_eq_some_iff.1 hk;obtain⟨k1,a,xs',b,ys',r1,e1,e2,h1,h2⟩:=B9c he;refine key _ _ _ _ (a==b) r1 ks' e1 e2 hks h1 h2 (.inr (.inr ⟨k,hu⟩)) fun u v hu' hv'=>?_;simp only[RepT]at hu' hv';subst hu';subst hv';exact run_equalIn_int w (d+1) f.type k1 k a b hu
   ·rename_i hu;obtain⟨ks',hks,rfl⟩:=Option.map_eq_some_iff.1 hk;obtain⟨a,xs',b,ys',r1,e1,e2,h1,h2⟩:=B9d he;refine key _ _ _ _ (a.toList==b.toList) r1 ks' e1 e2 hks h1 h2 (.inl hu) fun u v hu' hv'=>?_;simp only[RepT]at hu' hv';subst hu';subst hv';exact run_equalIn_string w (d+1) f.type a b hu
   ·rename_i hu;obtain⟨ks',hks,rfl⟩:=Option.map_eq_some_iff.1 hk;obtain⟨a,xs',b,ys',r1,e1,e2,h1,h2⟩:=B9e he;refine key _ _ _ _ (a==b) r1 ks' e1 e2 hks h1 h2 (.inr (.inl hu)) fun u v hu' hv'=>?_;simp only[RepT]at hu' hv';subst hu';subst hv';exact run_equalIn_bool' w (d+1) f.type a b hu
   ·rename_i g hu;obtain⟨k0,hk0,hk⟩:=Option.bind_eq_some_iff.1 hk;split at hk
    ·rename_i hc;obtain⟨hst,hsh⟩:=hc;obtain⟨ks',hks,rfl⟩:=Option.map_eq_some_iff.1 hk;obtain⟨x0,x1,y0,y1,r0,r1,rfl,rfl,l1,l2,h0,h1,hr⟩:=A8y he;obtain⟨hx0,hx1⟩:=C4r hx;obtain⟨hy0,hy1⟩:=C4r hy;rw[l1]at hx0 hx1;rw[l2]at hy0 hy1;rw[List.drop_drop]at hx1 hy1;have ih:=A8z I d xs ys fs (off+k0.length) ks' x1 y1 r1 hks h1 hx1 hy1;have hsg:=A2v hsh w
     have hfo:P.fieldsOf f.type=g:=by simp[Program.fieldsOf,hu]
     have pt:∀zs:Array Value,(part f.type zs off).run P w = .ok (.agg (zs.extract off (off+k0.length))) w:=fun zs=>by
      simp[part,hsg.1,hsg.2]
     have hin:(Op.equalIn (d+2) f.type (.agg (xs.extract off (off+k0.length))) (.agg (ys.extract off (off+k0.length)))).run P w = .ok r0 w:=by
      rw[run_equalIn_struct w (d+1) f.type _ _ (by rw[hfo];exact hu) hst,hfo];exact B0f I d _ _ g.toList 0 k0 x0 y0 r0 hk0 h0 (by simpa[Array.toList_extract,List.extract_eq_take_drop]using hx0) (by simpa[Array.toList_extract,List.extract_eq_take_drop]using hy0)
     simp only[Op.eqFields,hn,ne_eq,not_false_eq_true,if_true,ho,Sem.run_bind,pt,Result.andThen_ok,hin]
     cases r0 with
     | true=>simp[hr,ih]
     | false=>simp[hr]
    ·cases hk
   ·cases hk
  ·cases hk
theorem E1z {neg:Bool} {t:TypeId} {x y:Operand} {yt:TypeId} {ks:List CK} {r:PV} (ho:o.op = .binOp (if neg then .neq else .eql) t x y yt) (hk:B8e P t=some ks)
  (h:exM (.eqs neg ks) [s.ev G x,s.ev G y]=some r):AOp P G B o s r s.H s.nx:=by
 refine A4v fun L a w hi=>?_;have hx:=hi.ev x;have hy:=hi.ev y;unfold exM at h;split at h
 ·rename_i n' ks' xs ys e1 e2;injection e1 with e1 e1';subst e1;subst e1';injection e2 with e2 e3;injection e3 with e3 e4;rw[e2]at hx;rw[e3]at hy;simp only[RepV,RepT]at hx hy;obtain⟨us,ex,_,hxs⟩:=hx;obtain⟨vs,ey,_,hys⟩:=hy;obtain⟨b,hb,rfl⟩:=Option.map_eq_some_iff.1 h;unfold B8e at hk;split at hk
  ·rename_i fs hu;split at hk
   ·rename_i hc
    have hf:P.fieldsOf t=fs:=by simp[Program.fieldsOf,hu]
    have hrun:(Op.equalIn 10000 t (.agg us) (.agg vs)).run P w = .ok b w:=by
     rw[show(10000:Nat)=9997+2+1 from rfl,run_equalIn_struct w (9997+2) t us vs (by rw[hf];exact hu) hc.1,hf];exact A8z L.I 9997 us vs fs.toList 0 ks xs ys b hk hb (by simpa using hxs) (by simpa using hys)
    refine⟨.bool (if neg then !b else b),?_,by simp only[RepV,RepT]⟩
    cases neg with
    | true=>
     simp only[if_true]at ho;simp only[execOp,ho,ex,ey,Sem.run_bind,run_eqGuard_agg w .neq t x y us vs hc.2,run_neq_struct w t us vs,hrun,Result.andThen_ok,if_true];rfl
    | false=>
     simp only[Bool.false_eq_true,if_false]at ho;simp only[execOp,ho,ex,ey,Sem.run_bind,run_eqGuard_agg w .eql t x y us vs hc.2,run_eql_struct w t us vs,hrun,Result.andThen_ok,Bool.false_eq_true,if_false];rfl
   ·cases hk
  ·cases hk
 all_goals (first | (rename_i e _;cases e;done) | (rename_i e;cases e;done) | (cases h;done))
theorem F3h {t e:TypeId} {x i:Operand} {len n:Nat} {agg:Bool} {r:PV} (ho:o.op = .index t x i) (hu:P.underlying t=some (.array len e)) (hs:A4w P e=some (agg,n))
  (h:exM (.aix len n agg) [s.ev G x,s.ev G i]=some r):AOp P G B o s r s.H s.nx:=by
 refine A4v fun L a w hi=>?_;have hx:=hi.ev x;have hj:=hi.ev i;have h1:=A2v hs w;unfold exM at h;split at h
 all_goals (first | (rename_i e _;cases e;done) | (rename_i e;cases e;done) | (cases h;done) | skip)
 rename_i len' n' agg' cs k j e1 e2;injection e1 with e1 e3 e4;subst e1;subst e3;subst e4;injection e2 with e2 e3;injection e3 with e3 _;rw[e2]at hx;rw[e3]at hj;simp only[RepV,RepT]at hx hj;obtain⟨us,ex,h1s,hl⟩:=hx;split at h
 ·rename_i hj3
  cases agg with
  | true=>
   simp only[if_true,Option.some.injEq]at h;subst h;refine⟨.agg (us.extract (j.toNat*n) (j.toNat*n+n)),?_,?_⟩
   ·simp[execOp,ho,ex,hj,Instr.index,asIntOf,run_underlying hu,part,h1.1,h1.2,hj3.1,hj3.2.1]
   ·simp only[RepV,RepT];refine⟨_,rfl,fun y hy=>h1s y ?_,?_⟩
    ·simp only[Array.toList_extract,List.extract_eq_take_drop]at hy;exact List.mem_of_mem_drop (List.mem_of_mem_take hy)
    ·have h2:=(A0r.ofT (P:=P) (L:=L) hl).drop_take (j.toNat*n) n;rw[<-List.map_drop,<-List.map_take]at h2;simpa[List.extract_eq_take_drop]using h2.toT
  | false=>
   simp only[Bool.false_eq_true,if_false]at h
   cases hc:cs[j.toNat*n]? with
   | none=>rw[hc]at h;cases h
   | some c=>
    rw[hc]at h;injection h with h;subst h;obtain⟨v,hv,hr⟩:=hl.at_ _ hc
    have hv':us[j.toNat*n]?=some v:=by simpa using hv
    refine⟨v,?_,by simp only[RepV];exact hr⟩;simp[execOp,ho,ex,hj,Instr.index,asIntOf,run_underlying hu,part,h1.1,h1.2,hj3.1,hj3.2.1,hv']
 ·cases h
theorem E2a {t:TypeId} {x:Operand} {st:ByteArray} (ho:o.op = .range t x) (hu:P.underlying t=some .string) (hx:s.ev G x = .t (.v (.string st))):AOp P G B o s (.ptr s.nx 0) ((s.nx,.iter st 0)::s.H) (s.nx+1):=by
 refine B5g fun L a w hi=>?_;have h:=hi.ev x;rw[hx]at h;simp only[RepV,RepT]at h;refine⟨.pointer (some ⟨w.heap.size,0,none⟩),w.iter st 0,.stringIter st 0,by simp[execOp,ho,h,run_range_string w t st hu],⟨rfl,rfl,rfl⟩,rfl,fun hm=>⟨World.iter_heap w st 0,?_⟩⟩;simp only[RepV];exact⟨by simp[Loc.grow,hi.nx],by simp[Loc.grow,hi.nx]⟩
theorem E8z {x:Operand} {b:Nat} {st:ByteArray} {pos:Nat} (ho:o.op = .next x true) (hx:s.ev G x = .ptr b 0) (hl:look s.H b=some (.iter st pos)) (hp:pos<st.size) :
  AOp P G B o s (.t (.tu [.v (.bool true),.v (.int .i64 pos),.v (.int .i32 (Utf8.decode st pos).1)])) (upd s.H b (.iter st (pos+(Utf8.decode st pos).2))) s.nx:=fun L a w hi=>by
 have h:=hi.ev x;rw[hx]at h;simp only[RepV]at h;obtain⟨hb,h⟩:=h;have hr:=hi.heap.rep b _ hl;have hr':w.heap[L.μ b]?=some (.stringIter st pos):=hr;have hlt:=(Array.getElem?_eq_some_iff.1 hr').1;unfold Oper.wp
 have hrun:(execOp a.eval o).run P w = .ok (.value (.tuple #[.bool true,.int .i64 pos,.int .i32 (Utf8.decode st pos).1])) { w with heap:=w.heap.setIfInBounds (L.μ b) (.stringIter st (pos+(Utf8.decode st pos).2)) }:=by
  simp[execOp,ho,h,Instr.next,getObj,setObj,Sem.run,hr',hp,goInt]
 rw[hrun,Oper.upon_value]
 have hw:=A8d (w':={ w with heap:=w.heap.setIfInBounds (L.μ b) (.stringIter st (pos+(Utf8.decode st pos).2)) }) (r:=.iter st (pos+(Utf8.decode st pos).2)) hi.heap ⟨rfl,rfl,rfl⟩ hl (by simp)
  (fun g hg=>by simp[Array.getElem?_setIfInBounds_ne (Ne.symm hg)]) (fun g hg arr ty fz he=>by
   by_cases e:g=L.μ b
   ·subst e;simp[hlt]at he
   ·simp[Array.getElem?_setIfInBounds_ne (Ne.symm e)]at he;exact⟨arr,fz,he,rfl⟩)
  (fun _=>by simp[A5w,hlt])
 exact⟨_,L,rfl,by simp[RepV,RepT,RepL],hw.1,hi.nx,hw.2.1,hw.2.2⟩
theorem E9a {x:Operand} {b:Nat} {st:ByteArray} {pos:Nat} (ho:o.op = .next x true) (hx:s.ev G x = .ptr b 0) (hl:look s.H b=some (.iter st pos)) (hp:¬pos<st.size) :
  AOp P G B o s (.t (.tu [.v (.bool false)])) s.H s.nx:=by
 refine A4v fun L a w hi=>?_;have h:=hi.ev x;rw[hx]at h;simp only[RepV]at h;obtain⟨hb,h⟩:=h;have hr:w.heap[L.μ b]?=some (.stringIter st pos):=hi.heap.rep b _ hl;exact⟨.tuple #[.bool false],by simp[execOp,ho,h,Instr.next,getObj,Sem.run,hr,hp],by simp[RepV,RepT,RepL]⟩
theorem B9f {I:Nat->Prop} {w:World}:∀{cs:List T} {l:List UInt8} {us:List Value},B0e cs=some l->RepL I w cs us->∃ns:List Int,us=ns.map (Value.int .u8)/\l=ns.map fun n=>UInt8.ofNat n.toNat
 | [],l,us,h,hr=>by
  simp only[B0e,Option.some.injEq]at h;simp only[RepL]at hr;exact⟨[],by simp[hr],by simp[<-h]⟩
 | c::cs,l,us,h,hr=>by
  simp only[RepL]at hr;obtain⟨x,xs,rfl,hx,hxs⟩:=hr;unfold B0e at h;split at h
  ·rename_i e;cases e
  ·rename_i n r e;injection e with e1 e2;subst e1;subst e2;obtain⟨l',hl',rfl⟩:=Option.map_eq_some_iff.1 h;obtain⟨ns,h1,h2⟩:=B9f hl' hxs;simp only[RepT]at hx;exact⟨n::ns,by simp[hx,h1],by simp[h2]⟩
  ·cases h
theorem D4p:∀(ns:List Int) (b:ByteArray),ns.foldl (fun r n=>r.push (UInt8.ofNat n.toNat)) b=⟨b.data++(ns.map fun n=>UInt8.ofNat n.toNat).toArray⟩
 | [],b=>by simp
 | n::ns,b=>by
  rw[List.foldl_cons,D4p ns];simp[ByteArray.push]
theorem D4q (b o j:Nat):(⟨b,o,none⟩:Addr).add j=⟨b,o+j,none⟩:=by
 unfold Addr.add;split
 ·rename_i h;subst h;rfl
 ·rfl
theorem F3i {src dst e:TypeId} {x:Operand} {cs:List T} {l:List UInt8} (ho:o.op = .convert src dst x) (hs:P.underlying src=some (.slice e)) (hd:P.underlying dst=some .string) (he:P.underlying e=some (.int .u8))
  (hx:hxM.toTS s.H (s.ev G x)=some cs) (hl:B0e cs=some l):AOp P G B o s (.t (.v (.string ⟨l.toArray⟩))) s.H s.nx:=by
 refine A4v fun L a w hi=>?_;refine⟨.string ⟨l.toArray⟩,?_,by simp only[RepV,RepT]⟩;have h:=hi.ev x
 have go:∀(ad:Addr) (n c:Nat) (us:List Value),a.eval x = .slice (some ad) n c->us.length=n->(∀(j:Nat) v,us[j]?=some v->w.cell? (ad.add j)=some v)->RepL L.I w cs us ->
   (execOp a.eval o).run P w = .ok (.value (.string ⟨l.toArray⟩)) w:=by
  intro ad n c us e1 hn hc hr;obtain⟨ns,hu,hln⟩:=B9f hl hr
  have hload:(loadCells ad n).run P w = .ok (ns.map (Value.int .u8)).toArray w:=by
   have:=run_loadCells_list (P:=P) w ad us hc;rw[hn]at this;rw[this,hu]
  have:=run_bytesToString w ad n c ns hload;rw[D4p,<-hln,show(ByteArray.empty.data++l.toArray)=l.toArray from Array.empty_append]at this;simp only[execOp,ho,e1,Go.convert,Sem.run_bind,run_underlying hs,run_underlying hd,run_underlying he,Result.andThen_ok,this];rfl
 generalize hp:s.ev G x=p at h hx;unfold hxM.toTS at hx;split at hx
 ·rename_i n c;injection hx with hx;subst hx;simp only[B0e,Option.some.injEq]at hl;subst hl;simp only[RepV,RepT]at h;simp only[execOp,ho,h,Go.convert,Sem.run_bind,run_underlying hs,run_underlying hd,run_underlying he,Result.andThen_ok,Conv.bytesToString];rfl
 ·rename_i n cs';split at hx
  ·rename_i hn;injection hx with hx;subst hx;simp only[RepV,RepT]at h;obtain⟨ad,c,e1,hc,hb⟩:=h;rcases hb with⟨h0,h1⟩ | ⟨h0,h1,h2⟩
   ·subst h1;exact go ad n c [] e1 (by simp[h0]) (by simp) (by simp only[RepL])
   ·obtain⟨b,o',sp⟩:=ad;simp only at h0 h1 h2;subst h0
    have:∀(cs:List T) (o':Nat),RepC L.I w cs b o'->∃us:List Value,us.length=cs.length/\(∀(j:Nat) v,us[j]?=some v->w.cell? ⟨b,o'+j,none⟩=some v)/\RepL L.I w cs us:=by
     intro cs
     induction cs with
     | nil=>intro o' _;exact⟨[],rfl,by simp,by simp only[RepL]⟩
     | cons d cs ih=>
      intro o' hr;simp only[RepC]at hr;obtain⟨⟨v,hv,_,hd⟩,hr⟩:=hr;obtain⟨us,h1,h2,h3⟩:=ih (o'+1) hr;refine⟨v::us,by simp[h1],fun j y hj=>?_,by simp only[RepL];exact⟨v,us,rfl,hd,h3⟩⟩
      cases j with
      | zero=>simp at hj;subst hj;simpa using hv
      | succ j=>have:=h2 j y (by simpa using hj);rwa[show o'+(j+1)=o'+1+j by omega]
    obtain⟨us,h3,h4,h5⟩:=this _ _ h2;exact go ⟨b,o',none⟩ n c us e1 (by omega) (fun j v hj=>by rw[D4q];exact h4 j v hj) h5
  ·cases hx
 ·rename_i b o' n z;split at hx
  ·rename_i ty cs' hlook;split at hx
   ·rename_i hz;obtain⟨rfl,hz⟩:=hz;simp only[RepV]at h;obtain⟨hb',hμ,c,e1,hc,_⟩:=h;obtain⟨xs,hxl,hcell,h1,hrep⟩:=A6u (hi.heap.rep b _ hlook);have hseg:=hrep.drop_take o' n;rw[A5s hx]at hseg;refine go ⟨L.μ b,o',none⟩ n c ((xs.drop o').take n) e1 (by simp;omega) (fun j v hj=>?_) hseg.toT;rw[List.getElem?_take]at hj;split at hj
    ·rw[List.getElem?_drop]at hj;rw[D4q];exact hcell _ v hj
    ·cases hj
   ·cases hx
  ·cases hx
 ·cases hx
theorem F3j {t:TypeId} {x:Operand} {d:TypeDesc} {p:PV} (ho:o.op = .makeInterface t x) (hu:P.underlying t=some d) (hne:∀ms,d = .interface ms->False) (hp:exM (.mki t) [s.ev G x]=some p):AOp P G B o s p s.H s.nx:=
 A4v fun L a w hi=>by
  have h:=hi.ev x
  have hrun:(execOp a.eval o).run P w = .ok (.value (.iface t (a.eval x))) w:=by
   simp only[execOp,ho,Instr.makeInterface,Sem.run_bind,run_underlying hu,Result.andThen_ok]
   cases d<;>first | (exact(hne _ rfl).elim) | rfl
  refine⟨_,hrun,?_⟩;generalize s.ev G x=q at h hp
  cases q with
  | t y=>
   simp only[exM,Option.some.injEq]at hp;subst hp;simp only[RepV,RepT]at h ⊢;exact⟨_,rfl,h⟩
  | _=>
   simp only[exM,Option.some.injEq]at hp;subst hp;simp only[RepV]at h ⊢;exact⟨_,rfl,h⟩
theorem D1l {L:Loc} {a:Act} {w:World} (hi:Interp P G B L s a w):∀l:List Operand,A0r P L w ((l.map (A0j G)).map (·.ev s.env)) (l.map a.eval)
 | []=>by simp only[List.map_nil,A0r]
 | x::r=>by
  simp only[List.map_cons,A0r];exact⟨_,_,rfl,by rw[A5l];exact hi.ev x,D1l hi r⟩
theorem F3k {f:Fn} {first cap:Array Operand} {p:PV} (ho:o.op = .makeFunc f first cap) (hp:exM (.mkf f first.size) ((first.toList.map (A0j G)++cap.toList.map (A0j G)).map (·.ev s.env))=some p):AOp P G B o s p s.H s.nx:=
 A4v fun L a w hi=>by
  refine⟨.func f (first.map a.eval) (cap.map a.eval),by simp[execOp,ho,Instr.makeFunc],?_⟩
  have h1:=D1l hi first.toList
  have h2:=D1l hi cap.toList
  have l1:((first.toList.map (A0j G)).map (·.ev s.env)).length=first.size:=by simp
  generalize hF:(first.toList.map (A0j G)).map (·.ev s.env)=F at h1 l1;generalize hC:(cap.toList.map (A0j G)).map (·.ev s.env)=C at h2;rw[List.map_append,hF,hC]at hp;simp only[exM,Option.some.injEq]at hp;rw[<-l1,List.take_left,List.drop_left]at hp;subst hp;unfold mkFn;split
  ·simp only[A0r]at h1 h2;simp only[RepV,RepT]
   have e1:first.map a.eval = #[]:=by rw[<-Array.toList_inj,Array.toList_map];exact h1
   have e2:cap.map a.eval = #[]:=by rw[<-Array.toList_inj,Array.toList_map];exact h2
   rw[e1,e2]
  ·simp only[RepV];exact⟨_,_,rfl,by rw[Array.toList_map];exact h1,by rw[Array.toList_map];exact h2⟩
structure B3s (P:Program) (kt:TypeId) (K:Value->Prop):Prop where
 check:∀(w:World) (em:Bool) (v:Value),K v->(Instr.checkKey em 10000 kt v).run P w = .ok () w
 find:∀(w:World) (x:Value),K x->∀es:List MapEntry,(∀e∈es,K e.key)->((Instr.findKey kt x es).run P w = .ok none w/\∀e∈es,e.key≠x)\/∃j e,(Instr.findKey kt x es).run P w = .ok (some (j,e.val)) w/\es[j]?=some e/\e.key=x
 stays:∀(w:World) (v:Value),K v->(Instr.keyThatStays v v).run P w = .ok v w
theorem B6m {kt:TypeId} {d:TypeDesc} (hd:P.underlying kt=some d):B3s P kt (MapKept.IsKey d) where
 check:=fun w em v h=>MapKept.run_checkKey hd h em 9999
 find:=fun w x hx es hes=>by
  rcases MapKept.findNow_spec hx es 0 hes with⟨h1,h2⟩ | ⟨j,e0,h1,h2,h3⟩
  ·exact .inl ⟨MapKept.run_findKey hd h1,h2⟩
  ·exact .inr ⟨j,e0,by simpa using MapKept.run_findKey hd h1,h2,h3⟩
 stays:=fun w v h=>MapKept.run_keyThatStays h
def F3l (m:Nat) (v:Value):Prop:=∃ns:List Int,ns.length=m/\v = .agg (ns.map (.int .i64)).toArray
theorem C4s {I:Nat->Prop} {w:World}:∀ns:List Int,RepL I w (ns.map fun n=>T.v (.int .i64 n)) (ns.map (Value.int .i64))
 | []=>by simp[RepL]
 | n::r=>by
  simp only[List.map_cons,RepL,RepT];exact⟨_,_,rfl,rfl,C4s r⟩
theorem B6n:∀(a b:List Int),a.length=b.length->A1n (List.replicate a.length .i) (a.map fun n=>T.v (.int .i64 n)) (b.map fun n=>T.v (.int .i64 n))=some (decide (a=b))
 | [],[],_=>rfl
 | x::a,y::b,h=>by
  rw[List.length_cons,List.replicate_succ,List.map_cons,List.map_cons];simp only[A1n,if_true,B6n a b (by simpa using h),Option.map_some];congr 1;by_cases e:x=y<;>by_cases e2:a=b<;>simp[e,e2]
 | [],_::_,h=>by simp at h
 | _::_,[],h=>by simp at h
theorem D4r {a b:List Int} (h:(Value.agg (a.map (.int .i64)).toArray) = .agg (b.map (.int .i64)).toArray):a=b:=by
 injection h with h
 have h:a.map (Value.int .i64)=b.map (Value.int .i64):=by simpa using h
 exact(List.map_inj_right (fun x y e=>by injection e)).1 h
theorem C1s {kt:TypeId} {m:Nat} (hk:B9b P kt=some (List.replicate m .i)) (w:World) (a b:List Int) (ha:a.length=m) (hb:b.length=m) :
  (Op.equal kt (.agg (a.map (.int .i64)).toArray) (.agg (b.map (.int .i64)).toArray)).run P w = .ok (decide (a=b)) w:=by
 unfold B9b at hk;split at hk
 ·rename_i fs hu;split at hk
  ·rename_i hc
   have hf:P.fieldsOf kt=fs:=by simp[Program.fieldsOf,hu]
   show(Op.equalIn 10000 kt _ _).run P w=_;rw[show(10000:Nat)=9998+1+1 from rfl,run_equalIn_struct w (9998+1) kt _ _ (by rw[hf];exact hu) hc.1,hf];refine B0f (fun _=>True) 9998 _ _ fs.toList 0 (List.replicate m .i) _ _ _ hk ?_ (C4s a) (C4s b);rw[<-ha];exact B6n a b (by omega)
  ·cases hk
 ·cases hk
theorem C7t:∀{fs:List Field} {o m:Nat},A2p P o fs=some (List.replicate m .i)->fs.length=m/\∀(i:Nat) f,fs[i]?=some f->f.name ≠ "_" /\ f.offset=o+i/\∃k,P.underlying f.type=some (.int k)
 | [],o,m,h=>by
  simp only[A2p,Option.some.injEq]at h
  cases m with
  | zero=>exact⟨rfl,fun i f hf=>by simp at hf⟩
  | succ m=>rw[List.replicate_succ]at h;cases h
 | f::fs,o,m,h=>by
  simp only[A2p]at h;split at h
  ·rename_i hf;obtain⟨hn,ho,_⟩:=hf
   have key:∀{x:CK} (hx:(A2p P (o+1) fs).map (x::·)=some (List.replicate m .i)),∃m',m=m'+1/\x = .i/\A2p P (o+1) fs=some (List.replicate m' .i):=fun {x} hx=>by
    obtain⟨ks,h1,h2⟩:=Option.map_eq_some_iff.1 hx
    cases m with
    | zero=>cases h2
    | succ m=>
     rw[List.replicate_succ]at h2;injection h2 with h2 h3;exact⟨m,rfl,h2,by rw[h1,h3]⟩
   split at h
   ·rename_i k hu;obtain⟨m',rfl,_,h1⟩:=key h;obtain⟨i1,i2⟩:=C7t h1;refine⟨by simp[i1],fun i g hg=>?_⟩
    cases i with
    | zero=>
     injection hg with hg;subst hg;exact⟨hn,by omega,k,hu⟩
    | succ i=>
     obtain⟨j1,j2,j3⟩:=i2 i g hg;exact⟨j1,by omega,j3⟩
   ·obtain⟨_,_,e,_⟩:=key h;cases e
   ·obtain⟨_,_,e,_⟩:=key h;cases e
   ·cases h
  ·cases h
theorem D1m {kt:TypeId} {m:Nat} (hk:B9b P kt=some (List.replicate m .i)):B3s P kt (F3l m):=by
 obtain⟨fs,hu,hkf⟩:∃fs,P.underlying kt=some (.struct fs)/\A2p P 0 fs.toList=some (List.replicate m .i):=by
  unfold B9b at hk;split at hk
  ·rename_i fs hu;split at hk
   ·exact⟨fs,hu,hk⟩
   ·cases hk
  ·cases hk
 obtain⟨hfl,hfs⟩:=C7t hkf;refine⟨fun w em v hv=>?_,fun w x hx es hes=>?_,fun w v hv=>?_⟩
 ·obtain⟨ns,hl,rfl⟩:=hv;rw[show(10000:Nat)=9998+1+1 from rfl,Instr.checkKey];simp only[Sem.run_bind,run_underlying hu,Result.andThen_ok];rw[<-Array.forIn_toList]
  have hfs':∀f∈fs.toList,f.name ≠ "_" /\ ∃k x,P.underlying f.type=some (.int k)/\(ns.map (Value.int .i64)).toArray[f.offset]?=some (.int .i64 x):=fun f hf=>by
   obtain⟨i,hi,rfl⟩:=List.getElem_of_mem hf;obtain⟨h1,h2,k,h3⟩:=hfs i _ (List.getElem?_eq_getElem hi)
   have hin:i<ns.length:=by omega
   exact⟨h1,k,ns[i],h3,by rw[h2];simp[hin]⟩
  generalize fs.toList=L at hfs'
  induction L with
  | nil=>simp
  | cons f L ih=>
   obtain⟨h1,k,x,h2,h3⟩:=hfs' f (by simp);have p1:=B3r (w:=w) (.inr (.inr ⟨k,h2⟩)) h3
   have p2:(Instr.checkKey em (9998+1) f.type (.int .i64 x)).run P w = .ok () w:=by
    rw[Instr.checkKey];simp only[Sem.run_bind,run_underlying h2,Result.andThen_ok];rfl
   simp only[List.forIn_cons,Sem.run_bind,h1,ne_eq,not_false_eq_true,if_true,Result.andThen_ok,p1,p2,Sem.run_pure];exact ih fun g hg=>hfs' g (by simp[hg])
 ·obtain⟨a,ha,rfl⟩:=hx;rw[run_findKey_eq w (by rw[hu])]
  have key:∀(es:List MapEntry) (i:Nat),(∀e∈es,F3l m e.key)->((Instr.findAsking kt (.agg (a.map (.int .i64)).toArray) es i).run P w = .ok none w/\∀e∈es,e.key ≠ .agg (a.map (.int .i64)).toArray) \/
    ∃j e,(Instr.findAsking kt (.agg (a.map (.int .i64)).toArray) es i).run P w = .ok (some (i+j,e.val)) w/\es[j]?=some e/\e.key = .agg (a.map (.int .i64)).toArray:=by
   intro es
   induction es with
   | nil=>exact fun i _=>.inl ⟨by simp[Instr.findAsking],by simp⟩
   | cons e es ih=>
    intro i hes;obtain⟨b,hb,hbe⟩:=hes e (by simp);have he:=C1s hk w a b ha hb;rw[<-hbe]at he;by_cases hab:a=b
    ·right;refine⟨0,e,?_,rfl,by rw[hbe,hab]⟩;rw[decide_eq_true hab]at he;simp[Instr.findAsking,he]
    ·rw[decide_eq_false hab]at he;rcases ih (i+1) (fun y hy=>hes y (by simp[hy]))with⟨h1,h2⟩ | ⟨j,e',h1,h2,h3⟩
     ·left;refine⟨by simp[Instr.findAsking,he,h1],fun y hy=>?_⟩;rcases List.mem_cons.1 hy with rfl | hy
      ·intro h;rw[hbe]at h;exact hab (D4r h).symm
      ·exact h2 y hy
     ·right;exact⟨j+1,e',by simp[Instr.findAsking,he,h1,Nat.add_assoc,Nat.add_comm 1 j],by simpa using h2,h3⟩
  rcases key es 0 hes with h | ⟨j,e,h1,h2,h3⟩
  ·exact .inl h
  ·exact .inr ⟨j,e,by simpa using h1,h2,h3⟩
 ·obtain⟨ns,hl,rfl⟩:=hv
  have hs:Instr.sameBits 10000 (.agg (ns.map (.int .i64)).toArray) (.agg (ns.map (.int .i64)).toArray)=true:=by
   show Instr.sameBits (9999+1) _ _=true;simp only[Instr.sameBits,beq_self_eq_true,Bool.true_and,List.all_eq_true];intro p hp;obtain⟨i,hi,e⟩:=List.getElem_of_mem hp;rw[List.getElem_zip]at e;rw[<-e];simp[Instr.sameBits]
  simp[Instr.keyThatStays,hs]
def KV (kk:KK) (v:Value):Prop:=∃x:Key,x.ok kk=true/\v=x.val kk
theorem B3s.mono {kt:TypeId} {K K':Value->Prop} (h:B3s P kt K) (hs:∀v,K' v->K v):B3s P kt K':=
 ⟨fun w em v hv=>h.check w em v (hs v hv),fun w x hx es hes=>h.find w x (hs x hx) es fun e he=>hs _ (hes e he),fun w v hv=>h.stays w v (hs v hv)⟩
theorem F6l {k:IntKind} {v:Value} (h:KV (.int k) v):∃n,v = .int k n:=by
 obtain⟨x,hx,rfl⟩:=h;unfold Key.ok at hx;split at hx
 ·rename_i k' n e1;cases e1;exact⟨n,rfl⟩
 ·rename_i e1;cases e1
 ·rename_i e1;cases e1
 ·cases hx
theorem F6m {v:Value} (h:KV .str v):∃b,v = .string b:=by
 obtain⟨x,hx,rfl⟩:=h;unfold Key.ok at hx;split at hx
 ·rename_i e1;cases e1
 ·rename_i b e1;exact⟨b,rfl⟩
 ·rename_i e1;cases e1
 ·cases hx
theorem F3m {m:Nat} {v:Value} (h:KV (.ints m) v):F3l m v:=by
 obtain⟨x,hx,rfl⟩:=h;unfold Key.ok at hx;split at hx
 ·rename_i e1;cases e1
 ·rename_i e1;cases e1
 ·rename_i m' ns e1;cases e1;exact⟨ns,by simpa using hx,rfl⟩
 ·cases hx
theorem F3n {kk:KK} {x y:Key} (hx:x.ok kk=true) (hy:y.ok kk=true) (h:x.val kk=y.val kk):x=y:=by
 cases kk with
 | int k=>
  rcases x with ns | s
  ·rcases ns with _ | ⟨n,_ | ⟨n',r⟩⟩<;>first | (cases hx;done) | skip
   rcases y with ms | s
   ·rcases ms with _ | ⟨m,_ | ⟨m',r⟩⟩<;>first | (cases hy;done) | skip
    simp only[Key.val]at h;injection h with _ h;rw[h]
   ·cases hy
  ·cases hx
 | str=>
  rcases x with ns | s
  ·cases hx
  ·rcases y with ms | s'
   ·cases hy
   ·simp only[Key.val]at h;injection h with h;rw[h]
 | ints m=>
  rcases x with ns | s
  ·rcases y with ms | s
   ·simp only[Key.val]at h;rw[D4r h]
   ·cases hy
  ·cases hx
theorem E2b:∀{ks:List CK},ks.all CK.isI=true->ks=List.replicate ks.length .i
 | [],_=>rfl
 | .i::ks,h=>by
  rw[List.length_cons,List.replicate_succ,<-E2b (ks:=ks) (by simpa[CK.isI]using h)]
 | .s::ks,h=>by simp[CK.isI]at h
 | .b::ks,h=>by simp[CK.isI]at h
theorem D4s {kt:TypeId} {kk:KK} (h:kkOf P kt=some kk):B3s P kt (KV kk):=by
 unfold kkOf at h;split at h
 ·rename_i k hu;injection h with h;subst h
  exact(B6m hu).mono fun v hv=>by obtain⟨n,rfl⟩:=F6l hv;simp[MapKept.IsKey]
 ·rename_i hu;injection h with h;subst h
  exact(B6m hu).mono fun v hv=>by obtain⟨n,rfl⟩:=F6m hv;simp[MapKept.IsKey]
 ·split at h
  ·rename_i ks hk;split at h
   ·rename_i ha;injection h with h;subst h;exact(D1m (by rw[hk,<-E2b ha])).mono fun v hv=>F3m hv
   ·cases h
  ·cases h
 ·cases h
theorem D7w {t:TypeId} {kk:KK} (h:E1x P t=some kk):∃kt et,P.underlying t=some (.map kt et)/\B3s P kt (KV kk):=by
 unfold E1x at h;split at h
 ·rename_i kt et hu;exact⟨kt,et,hu,D4s h⟩
 ·cases h
theorem D1n {t:TypeId} {kk:KK} {z:Value} (h:D4o P t=some (kk,z)):∃kt et,P.underlying t=some (.map kt et)/\B3s P kt (KV kk)/\∀w,(zeroValue et).run P w = .ok z w:=by
 unfold D4o at h;split at h
 ·rename_i kt et hu;split at h
  ·rename_i kk' z' h1 h2;injection h with h;injection h with e1 e2;subst e1;subst e2;obtain⟨i,hi,hz⟩:=Option.bind_eq_some_iff.1 h2;exact⟨kt,et,hu,D4s h1,fun w=>by simp[zeroValue,typeInfo,hi,hz]⟩
  ·cases h
 ·cases h
theorem C7u {I:Nat->Prop} {w:World}:∀{cs:List T} {ns:List Int} {us:List Value},E1w cs=some ns->RepL I w cs us->us=ns.map (Value.int .i64)
 | [],ns,us,h,hr=>by
  simp only[E1w,Option.some.injEq]at h;simp only[RepL]at hr;subst h;exact hr
 | c::cs,ns,us,h,hr=>by
  simp only[RepL]at hr;obtain⟨x,xs,rfl,hx,hxs⟩:=hr;unfold E1w at h;split at h
  ·rename_i e;cases e
  ·rename_i n r e;injection e with e1 e2;subst e1;subst e2;obtain⟨ns',hns,rfl⟩:=Option.map_eq_some_iff.1 h;simp only[RepT]at hx;rw[hx,C7u hns hxs,List.map_cons]
  ·cases h
theorem D4t {kk:KK} {p:PV} {x:Key} {L:Loc} {w:World} {u:Value} (h:keyT kk p=some x) (hr:RepV P L w p u):x.ok kk=true/\u=x.val kk:=by
 unfold keyT at h;split at h
 ·split at h
  ·rename_i e;injection h with h;subst e;subst h;simp only[RepV,RepT]at hr;exact⟨rfl,hr⟩
  ·cases h
 ·injection h with h;subst h;simp only[RepV,RepT]at hr;exact⟨rfl,hr⟩
 ·obtain⟨ns,h1,h⟩:=Option.bind_eq_some_iff.1 h;split at h
  ·rename_i e;injection h with h;subst h;simp only[RepV,RepT]at hr;obtain⟨us,e1,_,h2⟩:=hr;refine⟨by simp[Key.ok,e],?_⟩;rw[e1];show Value.agg us=Value.agg _;congr 1;rw[<-Array.toList_inj,C7u h1 h2]
  ·cases h
 ·cases h
theorem C7v {k:Key}:∀{es:List (Key×Value)},(∀e∈es,e.1≠k)->getK es k=none
 | [],_=>rfl
 | (y,u)::r,h=>by
  rw[getK,if_neg (h (y,u) (by simp))];exact C7v fun e he=>h e (by simp[he])
theorem E2c {k:Key} {v:Value}:∀{es:List (Key×Value)} {j:Nat},(es.map (·.1)).Nodup->es[j]?=some (k,v)->getK es k=some v
 | [],j,_,h=>by simp at h
 | (y,u)::r,0,_,h=>by
  simp only[List.getElem?_cons_zero,Option.some.injEq,Prod.mk.injEq]at h;rw[getK,if_pos h.1,h.2]
 | (y,u)::r,j+1,hn,h=>by
  simp only[List.map_cons,List.nodup_cons]at hn;have hm:(k,v)∈r:=List.mem_of_getElem? (by simpa using h);rw[getK,if_neg (fun(e:y=k)=>hn.1 (e▸List.mem_map.2 ⟨_,hm,rfl⟩))];exact E2c hn.2 (by simpa using h)
theorem C7w {k:Key} {v:Value}:∀{es:List (Key×Value)},(∀e∈es,e.1≠k)->setK es k v=es++[(k,v)]
 | [],_=>rfl
 | (y,u)::r,h=>by
  rw[setK,if_neg (h (y,u) (by simp)),C7w fun e he=>h e (by simp[he])];rfl
theorem E2d {k:Key} {u v:Value}:∀{es:List (Key×Value)} {j:Nat},(es.map (·.1)).Nodup->es[j]?=some (k,u)->setK es k v=es.set j (k,v)
 | [],j,_,h=>by simp at h
 | (y,u')::r,0,_,h=>by
  simp only[List.getElem?_cons_zero,Option.some.injEq,Prod.mk.injEq]at h;rw[setK,if_pos h.1,h.1];rfl
 | (y,u')::r,j+1,hn,h=>by
  simp only[List.map_cons,List.nodup_cons]at hn;have hm:(k,u)∈r:=List.mem_of_getElem? (by simpa using h);rw[setK,if_neg (fun(e:y=k)=>hn.1 (e▸List.mem_map.2 ⟨_,hm,rfl⟩)),E2d hn.2 (by simpa using h)];rfl
theorem C4t {k:Key} {v:Value} {e:Key×Value}:∀{es:List (Key×Value)},e∈setK es k v->e=(k,v)\/e∈es
 | [],h=>.inl (by simpa[setK]using h)
 | (y,u)::r,h=>by
  rw[setK]at h;split at h
  ·rename_i hy;rcases List.mem_cons.1 h with h | h
   ·exact .inl (by rw[h,hy])
   ·exact .inr (by simp[h])
  ·rcases List.mem_cons.1 h with h | h
   ·exact .inr (by simp[h])
   ·exact(C4t h).imp id fun h=>by simp[h]
theorem C2p {k:Key} {v:Value}:∀{es:List (Key×Value)},(es.map (·.1)).Nodup->((setK es k v).map (·.1)).Nodup
 | [],_=>by simp[setK]
 | (y,u)::r,hn=>by
  simp only[List.map_cons,List.nodup_cons]at hn;rw[setK];split
  ·simpa using hn
  ·rename_i hy;simp only[List.map_cons,List.nodup_cons];refine⟨fun h=>?_,C2p hn.2⟩;obtain⟨e,he,e1⟩:=List.mem_map.1 h;rcases C4t he with rfl | he
   ·exact hy e1.symm
   ·exact hn.1 (e1▸List.mem_map.2 ⟨e,he,rfl⟩)
theorem D4u {kt:TypeId} {kk:KK} (hk:B3s P kt (KV kk)) {arr:Array MapEntry} {es:List (Key×Value)} {k:Key} (w:World) (h1:arr.toList.map (fun e=>(e.key,e.val))=es.map (fun e=>(e.1.val kk,e.2)))
  (h2:∀e∈es,e.1.ok kk=true) (hok:k.ok kk=true) :
  ((Instr.findKey kt (k.val kk) arr.toList).run P w = .ok none w/\∀e∈es,e.1≠k) \/
   ∃j e,(Instr.findKey kt (k.val kk) arr.toList).run P w = .ok (some (j,e.val)) w/\arr.toList[j]?=some e/\e.key=k.val kk/\es[j]?=some (k,e.val):=by
 have hes:∀e∈arr.toList,KV kk e.key:=fun e he=>by
  have hm:(e.key,e.val)∈arr.toList.map (fun e=>(e.key,e.val)):=List.mem_map.2 ⟨e,he,rfl⟩;rw[h1]at hm;obtain⟨e',he',eq⟩:=List.mem_map.1 hm;injection eq with eq _;exact⟨e'.1,h2 e' he',eq.symm⟩
 rcases hk.find w _ ⟨k,hok,rfl⟩ arr.toList hes with⟨f1,f2⟩ | ⟨j,e,f1,f2,f3⟩
 ·refine .inl ⟨f1,fun e he hek=>?_⟩;have hm:(e.1.val kk,e.2)∈es.map (fun e=>(e.1.val kk,e.2)):=List.mem_map.2 ⟨e,he,rfl⟩;rw[<-h1]at hm;obtain⟨e',he',eq⟩:=List.mem_map.1 hm;injection eq with eq _;exact f2 e' he' (by rw[eq,hek])
 ·have hj:(arr.toList.map (fun e=>(e.key,e.val)))[j]?=some (e.key,e.val):=by rw[List.getElem?_map,f2];rfl
  rw[h1,List.getElem?_map]at hj;obtain⟨e',he',eq⟩:=Option.map_eq_some_iff.1 hj;injection eq with eq1 eq2;refine .inr ⟨j,e,f1,f2,f3,?_⟩;rw[he',<-eq2,<-F3n (h2 e' (List.mem_of_getElem? he')) hok (eq1.trans f3)]
theorem E9b {t:TypeId} {kk:KK} (ho:o.op = .makeMap t none):AOp P G B o s (.mp s.nx) ((s.nx,.map kk [])::s.H) (s.nx+1):=by
 refine B5g fun L a w hi=>?_;refine⟨.map (some w.heap.size),w.alloc (.map #[] 0),.map #[] 0,by simp[execOp,ho,Instr.makeMap],⟨rfl,rfl,rfl⟩,rfl,fun hm=>⟨⟨#[],0,(MapKept.heap_alloc w _).1,by simp,by simp,by simp⟩,?_⟩⟩;simp only[RepV];exact⟨by simp[Loc.grow,hi.nx],by simp[Loc.grow,hi.nx]⟩
theorem E9c {t:TypeId} {x y:Operand} {ok:Bool} {kk:KK} {z:Value} {b:Nat} {es:List (Key×Value)} {k:Key} (ho:o.op = .lookup t x y ok) (hk:D4o P t=some (kk,z)) (hx:s.ev G x = .mp b) (hl:look s.H b=some (.map kk es))
  (hy:keyT kk (s.ev G y)=some k):AOp P G B o s (.t (C7s ok z (getK es k))) s.H s.nx:=by
 refine A4v fun L a w hi=>?_;obtain⟨kt,et,hu,hkey,hz⟩:=D1n hk;have ex:=hi.ev x;rw[hx]at ex;simp only[RepV]at ex;obtain⟨hb,ex⟩:=ex;obtain⟨hok,ey⟩:=D4t hy (hi.ev y);obtain⟨arr,clock,hh,h1,h2,hn⟩:=hi.heap.rep b _ hl;have hc:=hkey.check w arr.isEmpty (k.val kk) ⟨k,hok,rfl⟩;rcases D4u hkey w h1 h2 hok with⟨f1,f2⟩ | ⟨j,e,f1,f2,f3,f4⟩
 ·refine⟨if ok then .tuple #[z,.bool false]else z,?_,?_⟩
  ·simp[execOp,ho,Instr.lookup,run_underlying hu,ex,ey,MapKept.run_getObj_map hh,hc,f1,hz]
  ·rw[C7v f2];cases ok<;>simp[C7s,RepV,RepT,RepL]
 ·refine⟨if ok then .tuple #[e.val,.bool true]else e.val,?_,?_⟩
  ·simp[execOp,ho,Instr.lookup,run_underlying hu,ex,ey,MapKept.run_getObj_map hh,hc,f1]
  ·rw[E2c hn f4];cases ok<;>simp[C7s,RepV,RepT,RepL]
theorem E9d {t:TypeId} {x y z:Operand} {kk:KK} {v:Value} {b:Nat} {es:List (Key×Value)} {k:Key} (ho:o.op = .mapUpdate t x y z) (hk:E1x P t=some kk) (hx:s.ev G x = .mp b) (hl:look s.H b=some (.map kk es))
  (hy:keyT kk (s.ev G y)=some k) (hv:s.ev G z = .t (.v v)):AOp P G B o s (.t (.v undef)) (upd s.H b (.map kk (setK es k v))) s.nx:=fun L a w hi=>by
 obtain⟨kt,et,hu,hkey⟩:=D7w hk;have ex:=hi.ev x;rw[hx]at ex;simp only[RepV]at ex;obtain⟨hb,ex⟩:=ex;obtain⟨hok,ey⟩:=D4t hy (hi.ev y);have ez:=hi.ev z;rw[hv]at ez;simp only[RepV,RepT]at ez;obtain⟨arr,clock,hh,h1,h2,hn⟩:=hi.heap.rep b _ hl;have hlt:=(Array.getElem?_eq_some_iff.1 hh).1;have hc:=hkey.check w false (k.val kk) ⟨k,hok,rfl⟩;have hst:=hkey.stays w (k.val kk) ⟨k,hok,rfl⟩
 have step:∀(arr':Array MapEntry) (c':Nat),(execOp a.eval o).run P w = .ok .skip { w with heap:=w.heap.setIfInBounds (L.μ b) (.map arr' c') } ->
   arr'.toList.map (fun e=>(e.key,e.val))=(setK es k v).map (fun e=>(e.1.val kk,e.2)) ->
   o.wp P a w (fun a' w'=>∃v' L',a'=a.put o.dst v'/\RepV P L' w' (.t (.v undef)) v'/\A1l P G L' (upd s.H b (.map kk (setK es k v))) w'/\L'.nx=s.nx/\Mono L w L' w'/\Ext L s.H w L' (upd s.H b (.map kk (setK es k v))) w') (fun _ _ _=>False):=fun arr' c' hrun heq=>by
  unfold Oper.wp;rw[hrun,Oper.upon_skip]
  have hw:=A8d (w':={ w with heap:=w.heap.setIfInBounds (L.μ b) (.map arr' c') }) (r:=.map kk (setK es k v)) hi.heap ⟨rfl,rfl,rfl⟩ hl (by simp)
   (fun g hg=>by simp[Array.getElem?_setIfInBounds_ne (Ne.symm hg)]) (fun g hg arr ty fz he=>by
    by_cases e:g=L.μ b
    ·subst e;simp[hlt]at he
    ·simp[Array.getElem?_setIfInBounds_ne (Ne.symm e)]at he;exact⟨arr,fz,he,rfl⟩)
   (fun _=>⟨arr',c',by simp[hlt],heq,fun e he=>by
    rcases C4t he with rfl | he
    ·exact hok
    ·exact h2 e he,C2p hn⟩)
  exact⟨undef,L,rfl,by simp only[RepV,RepT],hw.1,hi.nx,hw.2.1,hw.2.2⟩
 rcases D4u hkey w h1 h2 hok with⟨f1,f2⟩ | ⟨j,e,f1,f2,f3,f4⟩
 ·refine step (arr.push { key:=k.val kk,val:=v,born:=clock }) (clock+1) ?_ ?_
  ·simp[execOp,ho,Instr.mapUpdate,run_underlying hu,ex,ey,ez,MapKept.run_getObj_map hh,hc,f1,MapKept.run_setObj_map _ hh]
  ·rw[C7w f2];simp[h1]
 ·have hj:arr[j]?=some e:=by simpa using f2
  refine step (arr.modify j fun e=>{ e with key:=k.val kk,val:=v }) clock ?_ ?_
  ·simp[execOp,ho,Instr.mapUpdate,run_underlying hu,ex,ey,ez,MapKept.run_getObj_map hh,hc,f1,hj,f3,hst,MapKept.run_setObj_map _ hh]
  ·rw[E2d hn f4,List.map_set,<-h1,Array.toList_modify];apply List.ext_getElem?;intro i;rw[List.getElem?_map,List.getElem?_modify,List.getElem?_set,List.length_map,List.getElem?_map];by_cases hi':j=i
   ·subst hi'
    have hlen:j<arr.size:=by simpa using (List.getElem?_eq_some_iff.1 f2).1
    simp[f2,hlen]
   ·simp[hi']
theorem F3o {t e:TypeId} {x:Operand} {b off k n by' ty:Nat} {zc:List Value} {cs:List PV} (ho:o.op = .call ⟨.builtin .clear,#[x],#[t]⟩) (he:A3w P t=some (e,n,by',zc)) (hx:s.ev G x = .row b off k n)
  (hl:look s.H b=some (.cells ty cs)) (hk:0<k) (hfit:off+(A6f zc k).length<=cs.length):AOp P G B o s (.t (.tu [])) (upd s.H b (.cells ty (A4y cs off ((A6f zc k).map fun x=>.t (.v x))))) s.nx:=fun L a w hi=>by
 obtain⟨i,z,hu,hi',hz,rfl,rfl,rfl,hzl,hpos,hone⟩:=A6o he;have hv:=hi.ev x;rw[hx]at hv;simp only[RepV]at hv;obtain⟨hb,hm,c,hv,hc,hfit2⟩:=hv;obtain⟨arr,harr,hle,hcs⟩:=hi.heap.rep b _ hl
 obtain⟨vs,hvs⟩:∃vs,vs=A6f z.cells.toList k:=⟨_,rfl⟩
 rw[<-hvs]at hfit ⊢
 have h1:∀x∈vs,x.oneCell'=true:=by
  intro x hx;obtain⟨j,hj,rfl⟩:=List.getElem_of_mem hx
  have hsz:0<z.cells.size:=by rw[<-Array.length_toList,hzl];exact hpos
  have hlt:=Nat.mod_lt j hsz
  have e:vs[j]=z.cells[j%z.cells.size]:=by
   have:vs[j]?=some z.cells[j%z.cells.size]:=by
    rw[List.getElem?_eq_getElem hj]at *;simp only[hvs,A6f,Builtin.zeroCells]at hj ⊢;simp at hj ⊢;exact getElem!_pos z.cells _ hlt
   rw[List.getElem?_eq_getElem hj]at this;injection this
  rw[e];exact hone _ (by simp)
 have hstore:=run_storeCells_at P (L.μ b) off ty vs 0 arr w harr (by omega) h1;simp only[Nat.add_zero]at hstore
 have hzv:(zeroValue e).run P w = .ok z w:=by simp[zeroValue,typeInfo,hi',hz]
 have hrep:A0r P L w (vs.map fun x=>.t (.v x)) vs:=by
  clear hstore h1 hvs hfit
  induction vs with
  | nil=>simp only[List.map_nil,A0r]
  | cons x vs ih=>simp only[List.map_cons,A0r];exact⟨x,vs,rfl,by simp only[RepV,RepT],ih⟩
 have hlen:(vs.map fun x=>PV.t (.v x)).length=vs.length:=List.length_map _;rw[<-hlen]at hfit
 obtain⟨k',rfl⟩:∃k',k=k'+1:=⟨k-1,by omega⟩
 have hrun:(execOp a.eval o).run P w = .ok (.value (.tuple #[])) (w.setRow (L.μ b) (arr.toList.take off++vs++arr.toList.drop (off+vs.length)).toArray):=by
  have e1:(Builtin.zeroCells z.cells (k'+1)).toList=vs:=by rw[hvs,A6f]
  simp[execOp,ho,resolve,invoke,builtin,Builtin.clear_,run_underlying hu,hv,hzv,e1,hstore]
 unfold Oper.wp;rw[hrun,Oper.upon_value]
 have hw:=A8d (w':=w.setRow (L.μ b) (arr.toList.take off++vs++arr.toList.drop (off+vs.length)).toArray) (r:=.cells ty (A4y cs off (vs.map fun x=>.t (.v x)))) hi.heap ⟨rfl,rfl,rfl⟩ hl (by simp)
  (fun g hg=>setRow_other w _ g _ hg) (A8v harr (by simp;omega))
  (fun hm=>⟨_,setRow_heap w _ arr _ ty _ harr,by rw[A6n hfit];simp;omega,fun j c hj=>by
   obtain⟨z,hz,h1z,hr⟩:=B5f hle hfit hcs hrep h1 j c hj
   exact⟨z,hz,h1z,RepV.keep hm c hr⟩⟩)
 exact⟨.tuple #[],L,rfl,by simp[RepV,RepT,RepL],hw.1,hi.nx,hw.2.1,hw.2.2⟩
theorem D1o {n:Nat} {zc:List Value} {H:Heap} {nx:Nat} {p0:PV} {q:PV×Heap×Nat} (h:hxM (.clr n zc) H nx [p0]=some q) :
  ∃b off k ty cs,p0 = .row b off k n/\look H b=some (.cells ty cs)/\0<k/\off+(A6f zc k).length<=cs.length/\(.t (.tu []),upd H b (.cells ty (A4y cs off ((A6f zc k).map fun x=>.t (.v x)))),nx)=q:=by
 cases p0<;>first | (simp[hxM]at h;done) | skip
 rename_i b off k z;simp only[hxM]at h;split at h
 ·rename_i ty cs hl;split at h
  ·rename_i hc;obtain⟨rfl,h1,h2⟩:=hc;injection h with h;exact⟨b,off,k,ty,cs,rfl,hl,h1,h2,h⟩
  ·cases h
 ·cases h
theorem C7x {kk:KK} {z:Value} {ok:Bool} {H:Heap} {nx:Nat} {p0 p:PV} {q:PV×Heap×Nat} (h:hxM (.mget kk z ok) H nx [p0,p]=some q) :
  ∃b es k,p0 = .mp b/\look H b=some (.map kk es)/\keyT kk p=some k/\(.t (C7s ok z (getK es k)),H,nx)=q:=by
 cases p0<;>first | (simp[hxM]at h;done) | skip
 rename_i b;simp only[hxM]at h;split at h
 ·rename_i kk' es x h1 h2;split at h
  ·rename_i e;subst e;injection h with h;exact⟨b,es,x,rfl,h1,h2,h⟩
  ·cases h
 ·cases h
theorem C7y {kk:KK} {H:Heap} {nx:Nat} {p0 p p1:PV} {q:PV×Heap×Nat} (h:hxM (.mset kk) H nx [p0,p,p1]=some q) :
  ∃b es k v,p0 = .mp b/\look H b=some (.map kk es)/\keyT kk p=some k/\p1 = .t (.v v)/\(.t (.v undef),upd H b (.map kk (setK es k v)),nx)=q:=by
 cases p0<;>first | (simp[hxM]at h;done) | skip
 rename_i b
 rcases p1 with x | _ | _ | _ | _ | _ | _ | _ | _<;>first | (simp[hxM]at h;done) | skip
 cases x<;>first | (simp[hxM]at h;done) | skip
 rename_i v;simp only[hxM]at h;split at h
 ·rename_i kk' es x h1 h2;split at h
  ·rename_i e;subst e;injection h with h;exact⟨b,es,x,v,rfl,h1,h2,rfl,h⟩
  ·cases h
 ·cases h
theorem F3p {k:MK} {xs:List Opd} (hc:extK P G o.op=some (k,xs)) {r:PV} {H':Heap} {nx':Nat}
  (he:match k with
   | .ex e=>∃p,exM e (xs.map (·.ev s.env))=some p/\(r,H',nx')=(p,s.H,s.nx)
   | .hx h=>hxM h s.H s.nx (xs.map (·.ev s.env))=some (r,H',nx')
   | _=>False):AOp P G B o s r H' nx':=by
 have ev1:=fun x=>A5l G s x;unfold extK at hc;split at hc
 ·rename_i t x y yt ho;obtain⟨ks,hk,e⟩:=Option.map_eq_some_iff.1 hc;injection e with e1 e2;subst e1;subst e2;simp only[List.map_cons,List.map_nil,ev1]at he;obtain⟨p,hp,e⟩:=he;injection e with e1 e2;injection e2 with e2 e3;subst e1;subst e2;subst e3;exact E1z (neg:=false) (by simpa using ho) hk hp
 ·rename_i t x y yt ho;obtain⟨ks,hk,e⟩:=Option.map_eq_some_iff.1 hc;injection e with e1 e2;subst e1;subst e2;simp only[List.map_cons,List.map_nil,ev1]at he;obtain⟨p,hp,e⟩:=he;injection e with e1 e2;injection e2 with e2 e3;subst e1;subst e2;subst e3;exact E1z (neg:=true) (by simpa using ho) hk hp
 ·rename_i t x ho;split at hc
  ·rename_i hu;injection hc with hc;injection hc with e1 e2;subst e1;subst e2;simp only[List.map_cons,List.map_nil,ev1]at he;generalize hp:s.ev G x=p at he;unfold hxM at he;split at he
   all_goals (first | (rename_i e _;cases e;done) | (rename_i e;cases e;done) | skip)
   ·rename_i st e1 e2;injection e2 with e2 e3;injection he with he;injection he with h1 h2;injection h2 with h2 h3;subst h1;subst h2;subst h3;exact E2a ho hu (hp.trans e2)
   ·cases he
  ·cases hc
 ·rename_i x ho;injection hc with hc;injection hc with e1 e2;subst e1;subst e2;simp only[List.map_cons,List.map_nil,ev1]at he;generalize hp:s.ev G x=p at he;unfold hxM at he;split at he
  all_goals (first | (rename_i e _;cases e;done) | (rename_i e;cases e;done) | skip)
  ·rename_i b e1 e2;injection e2 with e2 e3;split at he
   ·rename_i st pos hl;split at he
    ·rename_i hlt;injection he with he;injection he with h1 h2;injection h2 with h2 h3;subst h1;subst h2;subst h3;exact E8z ho (hp.trans e2) hl hlt
    ·rename_i hlt;injection he with he;injection he with h1 h2;injection h2 with h2 h3;subst h1;subst h2;subst h3;exact E9a ho (hp.trans e2) hl hlt
   ·cases he
  ·cases he
 ·rename_i src dst x ho;split at hc
  ·rename_i e hs hd;split at hc
   ·rename_i he';injection hc with hc;injection hc with e1 e2;subst e1;subst e2;simp only[List.map_cons,List.map_nil,ev1]at he;generalize hp:s.ev G x=p at he;unfold hxM at he;split at he
    all_goals (first | (rename_i e _;cases e;done) | (rename_i e;cases e;done) | skip)
    ·rename_i q e1 e2;injection e2 with e2 e3;split at he
     ·rename_i cs hcs;obtain⟨l,hl,e4⟩:=Option.map_eq_some_iff.1 he;injection e4 with h1 h2;injection h2 with h2 h3;subst h1;subst h2;subst h3;exact F3i ho hs hd he' (by rw[hp,e2];exact hcs) hl
     ·cases he
    ·rename_i hno _ _ _ _;exact(hno p rfl rfl).elim
   ·cases hc
  ·cases hc
 ·rename_i t x ho;split at hc
  ·cases hc
  ·rename_i d hne hu;injection hc with hc;injection hc with e1 e2;subst e1;subst e2;simp only[List.map_cons,List.map_nil,ev1]at he;obtain⟨p,hp,e⟩:=he;injection e with e1 e2;injection e2 with e2 e3;subst e1;subst e2;subst e3;exact F3j ho hu hne hp
  ·cases hc
 ·rename_i f first cap ho
  injection hc with hc;injection hc with e1 e2;subst e1;subst e2;obtain⟨p,hp,e⟩:=he;injection e with e1 e2;injection e2 with e2 e3;subst e1;subst e2;subst e3;exact F3k ho hp
 ·injection hc with hc;injection hc with e1 e2;subst e1;subst e2;simp only[List.map_cons,List.map_nil]at he;unfold hxM at he;split at he
  all_goals (first | (rename_i e _;cases e;done) | (rename_i e;cases e;done) | (cases he;done) | skip)
 ·rename_i x t ho;obtain⟨⟨e,n,by',zc⟩,hk,e0⟩:=Option.map_eq_some_iff.1 hc;injection e0 with e1 e2;subst e1;subst e2;simp only[List.map_cons,List.map_nil,ev1]at he;obtain⟨b,off,k,ty,cs,e1,e2,e3,e5,e4⟩:=D1o he;injection e4 with h1 h2;injection h2 with h2 h3;subst h1;subst h2;subst h3;exact F3o ho hk e1 e2 e3 e5
 ·rename_i t ho;obtain⟨kk,hk,e⟩:=Option.map_eq_some_iff.1 hc;injection e with e1 e2;subst e1;subst e2;injection he with he;injection he with h1 h2;injection h2 with h2 h3;subst h1;subst h2;subst h3;exact E9b ho
 ·rename_i t x y ok ho;obtain⟨⟨kk,z⟩,hk,e⟩:=Option.map_eq_some_iff.1 hc;injection e with e1 e2;subst e1;subst e2;simp only[List.map_cons,List.map_nil,ev1]at he;obtain⟨b,es,q,e1,e2,e3,e4⟩:=C7x he;injection e4 with h1 h2;injection h2 with h2 h3;subst h1;subst h2;subst h3;exact E9c ho hk e1 e2 e3
 ·rename_i t x y z ho;obtain⟨kk,hk,e⟩:=Option.map_eq_some_iff.1 hc;injection e with e1 e2;subst e1;subst e2;simp only[List.map_cons,List.map_nil,ev1]at he;obtain⟨b,es,q,v,e1,e2,e3,e5,e4⟩:=C7y he;injection e4 with h1 h2;injection h2 with h2 h3;subst h1;subst h2;subst h3;exact E9d ho hk e1 e2 e3 e5
 ·rename_i t x i ho;split at hc
  ·rename_i len el hu;obtain⟨⟨agg,n⟩,hs,e⟩:=Option.map_eq_some_iff.1 hc;injection e with e1 e2;subst e1;subst e2;simp only[List.map_cons,List.map_nil,ev1]at he;obtain⟨p,hp,e⟩:=he;injection e with e1 e2;injection e2 with e2 e3;subst e1;subst e2;subst e3;exact F3h ho hu hs hp
  ·cases hc
 ·cases hc
end
end Go.Abs
