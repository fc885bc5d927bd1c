/-
 Auxiliary facts. No statement of the program stands here.
-/
import Derived.Test.YtbiadmfmjnoecaaVRQ08
namespace Go.Abs
set_option linter.unusedSimpArgs false
set_option linter.unusedVariables false
open Go
def A0f (agg:Bool) (n:Nat) (H:Heap) (p:PV):Option PV:=
 match p with
 | .t (.pt cs)=>if agg then(if n<=cs.length then some (.t (.ag (cs.take n)))else none)else(cs.head?).map .t
 | .ptr b o=>match look H b with
  | some (.cells _ cs)=>if agg then(if o+n<=cs.length then some (agOf ((cs.drop o).take n))else none)else cs[o]?
  | _=>none
 | _=>none
theorem E6a {P:Program} {t:TypeId} {agg:Bool} {n:Nat} (h:A6r P t=some (agg,n)) (H:Heap) (p:PV):E1w P H t p=A0f agg n H p:=by
 unfold E1w A0f
 rw[h]
 cases agg<;>cases p<;>try rfl
 all_goals (rename_i x;cases x<;>rfl)
def A1q (z:Nat) (x i:PV):Option PV:=
 match i with
 | .t (.v (.int _ i))=>match x with
  | .t (.sl n cs)=>if 0<=i/\i<n then some (.t (.pt (cs.drop (i.toNat*z))))else none
  | .row b o n _=>if 0<=i/\i<n then some (.ptr b (o+i.toNat*z))else none
  | _=>none
 | _=>none
def E6b (n z:Nat) (x i:PV):Option PV:=
 match i with
 | .t (.v (.int _ i))=>match x with
  | .t (.pt cs)=>if 0<=i/\i<n then some (.t (.pt (cs.drop (i.toNat*z))))else none
  | .ptr b o=>if 0<=i/\i<n then some (.ptr b (o+i.toNat*z))else none
  | _=>none
 | _=>none
theorem F0a {P:Program} {t e:TypeId} {z:Nat} (h:A6s P t=some (e,z)) {x i r:PV} (hr:A1q z x i=some r):A4n P t x i=some r:=by
 unfold A1q at hr
 split at hr
 ·split at hr
  ·simp only[A4n,h];exact hr
  ·simp only[A4n,h];exact hr
  ·cases hr
 ·cases hr
theorem F0b {P:Program} {t:TypeId} {n z:Nat} (h:E9m P t=some (n,z)) {x i r:PV} (hr:E6b n z x i=some r):A4n P t x i=some r:=by
 unfold E6b at hr
 split at hr
 ·split at hr
  ·simp only[A4n,h];exact hr
  ·simp only[A4n,h];exact hr
  ·cases hr
 ·cases hr
@[simp] def faddrM (off:Nat) (x:PV):Option PV:=
 match x with
 | .t (.pt cs)=>some (.t (.pt (cs.drop off)))
 | .ptr b o=>some (.ptr b (o+off))
 | _=>none
theorem F4r {P:Program} {t:TypeId} {f off n:Nat} {b:Bool} (h:A8t P t f=some (off,b,n)) (x:PV):B0n P t x f=faddrM off x:=by
 unfold B0n faddrM
 rw[h]
 cases x<;>try rfl
 rename_i x;cases x<;>rfl
def E6c (off:Nat) (agg:Bool) (n:Nat) (x:PV):Option PV:=
 match x with
 | .t (.ag cs)=>if agg then(if off+n<=cs.length then some (.t (.ag ((cs.drop off).take n)))else none)else(cs[off]?).map .t
 | .ag cs=>if agg then(if off+n<=cs.length then some (agOf ((cs.drop off).take n))else none)else cs[off]?
 | _=>none
theorem F4s {P:Program} {t:TypeId} {f off n:Nat} {b:Bool} (h:A8t P t f=some (off,b,n)) (x:PV):D7g P t x f=E6c off b n x:=by
 unfold D7g E6c
 rw[h]
 cases b<;>cases x<;>try rfl
 all_goals (rename_i x;cases x<;>rfl)
def D1r (x i:PV):Option PV:=
 match x,i with
 | .t (.v (.string s)),.t (.v (.int _ i))=>if 0<=i then(s[i.toNat]?).map fun b=>.t (.v (.int .u8 b.toNat))else none
 | _,_=>none
theorem F0c {P:Program} {t:TypeId} (h:P.underlying t=some .string) {x i r:PV} (hr:D1r x i=some r):D7h P t x i=some r:=by
 unfold D1r at hr
 split at hr
 ·simp only[D7h,h];exact hr
 ·cases hr
def B6t (x:PV) (lo hi:Option PV):Option PV:=
 match x with
 | .t (.v (.string s))=>match boundV lo 0,boundV hi s.size with
  | some l,some h=>if l<=h/\h<=s.size then some (.t (.v (.string (s.extract l h))))else none
  | _,_=>none
 | _=>none
theorem F0d {P:Program} {t:TypeId} (h:P.underlying t=some .string) {x r:PV} {lo hi:Option PV} (hr:B6t x lo hi=some r):B9l P t x lo hi=some r:=by
 unfold B6t at hr
 split at hr
 ·simp only[B9l,h];exact hr
 ·cases hr
def A4e (z:Nat) (x:PV) (lo hi:Option PV):Option PV:=
 match x with
 | .t (.v (.slice none n c))=>match boundV lo 0,boundV hi n with
  | some l,some h=>if l=0/\h=0/\n=0/\c=0 then some (.t (.v (.slice none 0 0)))else none
  | _,_=>none
 | .t (.sl n cs)=>match boundV lo 0,boundV hi n with
  | some l,some h=>if l<=h/\h<=n then some (.t (.sl (h-l) ((cs.drop (l*z)).take ((h-l)*z))))else none
  | _,_=>none
 | .row b o n z'=>match boundV lo 0,boundV hi n with
  | some l,some h=>if z≠z' then none else if l<h/\h<=n then some (.row b (o+l*z') (h-l) z')else if l=0/\h=0 then some (.row b o 0 z')else if l=h/\h<=n then some (.t (.sl 0 []))else none
  | _,_=>none
 | _=>none
theorem F0e {P:Program} {t e:TypeId} {z:Nat} (h:A6s P t=some (e,z)) {x r:PV} {lo hi:Option PV} (hr:A4e z x lo hi=some r):B9l P t x lo hi=some r:=by
 have hu:P.underlying t=some (.slice e):=by
  unfold A6s at h
  split at h
  ·rename_i e' hu
   cases hi:P.info? e' with
   | none=>rw[hi]at h;cases h
   | some i=>rw[hi]at h;injection h with h;injection h with h1 h2;subst h1;exact hu
  ·cases h
 unfold A4e at hr
 split at hr
 ·split at hr
  ·rename_i el eh
   simp only[B9l,hu,h,el,eh];exact hr
  ·cases hr
 ·split at hr
  ·rename_i el eh
   simp only[B9l,hu,h,el,eh];exact hr
  ·cases hr
 ·split at hr
  ·rename_i el eh
   simp only[B9l,hu,h,el,eh];exact hr
  ·cases hr
 ·cases hr
@[simp] def lenstrM:PV->Option PV
 | .t (.v (.string s))=>some (.t (.v (.int .i64 s.size)))
 | _=>none
def B0r:PV->Option PV
 | .t (.v (.slice _ n _))=>some (.t (.v (.int .i64 n)))
 | .t (.sl n _)=>some (.t (.v (.int .i64 n)))
 | .row _ _ n _=>some (.t (.v (.int .i64 n)))
 | _=>none
@[simp] def convM (k:Option IntKind):PV->Option PV
 | .t (.v (.int _ n))=>match k with
  | some k=>some (.t (.v (.int k (k.wrap n))))
  | none=>none
 | .t (.v (.string s))=>match k with
  | none=>some (.t (.v (.string s)))
  | _=>none
 | _=>none
@[simp] def chkM:PV->Option PV
 | .ptr b o=>some (.ptr b o)
 | .t (.pt cs)=>some (.t (.pt cs))
 | .fn (.func f) first cap=>some (.fn (.func f) first cap)
 | .t (.v (.func (.func f) x y))=>some (.t (.v (.func (.func f) x y)))
 | _=>none
def A1e (n:Nat) (H:Heap) (p x:PV):Option Heap:=
 match p with
 | .ptr b o=>match A0w x with
  | some ps=>match look H b with
   | some (.cells ty cs)=>if ps.length=n/\o+ps.length<=cs.length then some (upd H b (.cells ty (A1y cs o ps)))else none
   | _=>none
  | none=>none
 | _=>none
theorem F0f {P:Program} {t:TypeId} {b:Bool} {n:Nat} (h:A6r P t=some (b,n)) {H H':Heap} {p x:PV} (hr:A1e n H p x=some H'):D1m P H t p x=some H':=by
 unfold A1e at hr
 split at hr
 ·split at hr
  ·rename_i hps
   simp only[D1m,h,hps]
   exact hr
  ·cases hr
 ·cases hr
def B9p (e n by':Nat) (zc:List Value) (l c:PV) (nx:Nat):Option (PV×Row):=
 match l,c with
 | .t (.v (.int _ l)),.t (.v (.int _ c))=>if 0<=l/\l<=c/\c<=9223372036854775807/\(by':Int)*c<=281474976710656 then some (.row nx 0 l.toNat n,.cells e (A9j zc l.toNat))else none
 | _,_=>none
theorem F4t {P:Program} {t e n by':Nat} {zc:List Value} (h:A5p P t=some (e,n,by',zc)) {l c:PV} {nx:Nat} {q:PV×Row} (hr:B9p e n by' zc l c nx=some q):E9u P t l c nx=some q:=by
 unfold B9p at hr
 split at hr
 ·simp only[E9u,h];exact hr
 ·cases hr
def A1p (e n:Nat) (zc:List Value) (len:Nat) (parts:List (Nat×PV)) (nx:Nat):Option (PV×Row):=
 if len*n<=16777216 then(A5q (fun i=>some (i*n,n)) (A9j zc len) parts).map fun cs=>(.row nx 0 len n,.cells e cs)else none
def appM (e z by':Nat) (H:Heap) (nx:Nat) (d x:PV):Option (PV×Heap×Nat):=
 match srcP H z x with
 | some (m,ps)=>match d with
  | .t (.v (.slice none n c))=>if n=0/\c=0 then
    (if m=0 then some (.t (.v (.slice none n c)),H,nx)else if m*by'<=140737488355328/\m<=9223372036854775807 then some (.row nx 0 m z,(nx,.cells e ps)::H,nx+1)else none)else none
  | .row b o n z'=>match look H b with
   | some (.cells ty cs)=>
    if z'=z/\o=0/\ty=e/\cs.length=n*z/\(n+m)*by'<=140737488355328/\n+m<=9223372036854775807 then some (.row nx 0 (n+m) z,(nx,.cells e (cs++ps))::rem H b,nx+1)else none
   | _=>none
  | _=>none
 | none=>none
theorem G1t {P:Program} {t e z by':Nat} {zc:List Value} (h:A5p P t=some (e,z,by',zc)) {H:Heap} {nx:Nat} {d x:PV} {q:PV×Heap×Nat} (hr:appM e z by' H nx d x=some q):C1t P H nx t d x=some q:=by
 unfold appM at hr
 split at hr
 ·rename_i m ps hs
  split at hr
  ·simp only[C1t,h,hs];exact hr
  ·simp only[C1t,h,hs];exact hr
  ·cases hr
 ·cases hr
def A6u (e n:Nat) (zc:List Value) (len:Nat) (parts:List (Nat×PV)):Option PV:=
 match A1p e n zc len parts 0 with
 | some (_,.cells _ cs)=>match allT cs with
  | some ts=>if ts.length=len*n then some (.t (.sl len ts))else none
  | none=>none
 | _=>none
def A0m (Φ:A1c) (H:Heap) (nx:Nat) (k:MK) (ps:List PV):Option (PV×Heap×Nat):=
 match k,ps with
 | .mv,[x]=>some (x,H,nx)
 | .pick,[c,a,b]=>match c with
  | .t (.v (.bool t))=>some (bif t then a else b,H,nx)
  | _=>none
 | .bin isB op nk,[x,y]=>match x,y with
  | .t (.v a),.t (.v b)=>match binM isB op a b with
   | some v=>some (.t (.v v),H,nx)
   | none=>(cmpM op nk (.t (.v a))).map fun r=>(r,H,nx)
  | x,_=>(cmpM op nk x).map fun r=>(r,H,nx)
 | .un op,[x]=>match x with
  | .t (.v a)=>(unV op a).map fun v=>(.t (.v v),H,nx)
  | _=>none
 | .conv k,[x]=>(convM k x).map fun r=>(r,H,nx)
 | .load agg n,[p]=>(A0f agg n H p).map fun r=>(r,H,nx)
 | .faddr off,[x]=>(faddrM off x).map fun r=>(r,H,nx)
 | .field off agg n,[x]=>(E6c off agg n x).map fun r=>(r,H,nx)
 | .iaddr z,[x,i]=>(A1q z x i).map fun r=>(r,H,nx)
 | .aaddr n z,[x,i]=>(E6b n z x i).map fun r=>(r,H,nx)
 | .index,[x,i]=>(D1r x i).map fun r=>(r,H,nx)
 | .slstr false false,[x]=>(B6t x none none).map fun r=>(r,H,nx)
 | .slstr true false,[x,l]=>(B6t x (some l) none).map fun r=>(r,H,nx)
 | .slstr false true,[x,h]=>(B6t x none (some h)).map fun r=>(r,H,nx)
 | .slstr true true,[x,l,h]=>(B6t x (some l) (some h)).map fun r=>(r,H,nx)
 | .slice z false false,[x]=>(A4e z x none none).map fun r=>(r,H,nx)
 | .slice z true false,[x,l]=>(A4e z x (some l) none).map fun r=>(r,H,nx)
 | .slice z false true,[x,h]=>(A4e z x none (some h)).map fun r=>(r,H,nx)
 | .slice z true true,[x,l,h]=>(A4e z x (some l) (some h)).map fun r=>(r,H,nx)
 | .ext i,[x]=>(extractV x i).map fun r=>(r,H,nx)
 | .chk,[x]=>(chkM x).map fun r=>(r,H,nx)
 | .lenstr,[x]=>(lenstrM x).map fun r=>(r,H,nx)
 | .lensl,[x]=>(B0r x).map fun r=>(r,H,nx)
 | .min,[x,y]=>(minV x y).map fun r=>(r,H,nx)
 | .max,[x,y]=>(maxV x y).map fun r=>(r,H,nx)
 | .store n,[p,x]=>(A1e n H p x).map fun H'=>(.t (.v undef),H',nx)
 | .make e n by' zc,[l,c]=>(B9p e n by' zc l c nx).map fun q=>(q.1,(nx,q.2)::H,nx+1)
 | .bslice e n zc len idx,ps=>(A1p e n zc len (idx.zip ps) nx).map fun q=>(q.1,(nx,q.2)::H,nx+1)
 | .build places zc idx,ps=>(A5q (fun k=>places[k]?) (zc.map fun x=>.t (.v x)) (idx.zip ps)).map fun cs=>(agOf cs,H,nx)
 | .barr n zc idx,ps=>(A5q (fun k=>some (k*n,n)) (zc.map fun x=>.t (.v x)) (idx.zip ps)).map fun cs=>(agOf cs,H,nx)
 | .box t,[x]=>(A0w x).map fun ps=>(.ptr nx 0,(nx,.cells t ps)::H,nx+1)
 | .alloc t zc,[]=>some (.ptr nx 0,(nx,.cells t (zc.map fun x=>.t (.v x)))::H,nx+1)
 | .app e z by',[d,x]=>appM e z by' H nx d x
 | .call f,ps=>match toTs H ps with
  | some (targs,F)=>match Φ f targs with
   | some r=>some (.t r,if F.isEmpty then H else if A7i r then H else remAll H F,nx)
   | none=>none
  | none=>none
 | .hcall f,ps=>Φ.h f ps H nx
 | .tslice e n zc len idx,ps=>(A6u e n zc len (idx.zip ps)).map fun r=>(r,H,nx)
 | .callv,fv::ps=>E5r Φ H nx fv ps
 | .ex e,ps=>(exM e ps).map fun r=>(r,H,nx)
 | .hx h,ps=>hxM h H nx ps
 | _,_=>none
def F4u (P:Program) (G:A1f) (o:Op):Option (MK×List Opd):=
 match o with
 | .move x=>some (.mv,[A0r G x])
 | .assign x=>some (.mv,[A0r G x])
 | .pick c a b=>some (.pick,[A0r G c,A0r G a,A0r G b])
 | .binOp op t x y _=>some (.bin (E1y P t) op (nkOf P t y),[A0r G x,A0r G y])
 | .unOp op _ x=>some (.un op,[A0r G x])
 | .convert src dst x=>match P.underlying src,P.underlying dst with
  | some _,some (.int k)=>some (.conv (some k),[A0r G x])
  | some _,some .string=>some (.conv none,[A0r G x])
  | _,_=>none
 | .load t a=>(A6r P t).map fun q=>(.load q.1 q.2,[A0r G a])
 | .fieldAddr t x f=>(A8t P t f).map fun q=>(.faddr q.1,[A0r G x])
 | .field t x f=>(A8t P t f).map fun q=>(.field q.1 q.2.1 q.2.2,[A0r G x])
 | .indexAddr t x i=>match A6s P t with
  | some (_,z)=>some (.iaddr z,[A0r G x,A0r G i])
  | none=>(E9m P t).map fun q=>(.aaddr q.1 q.2,[A0r G x,A0r G i])
 | .index t x i=>match P.underlying t with
  | some .string=>some (.index,[A0r G x,A0r G i])
  | _=>none
 | .slice t x lo hi none=>match P.underlying t with
  | some .string=>some (.slstr lo.isSome hi.isSome,A0r G x::((lo.map (A0r G)).toList++(hi.map (A0r G)).toList))
  | _=>match A6s P t with
   | some (_,z)=>some (.slice z lo.isSome hi.isSome,A0r G x::((lo.map (A0r G)).toList++(hi.map (A0r G)).toList))
   | none=>none
 | .extract x i=>some (.ext i,[A0r G x])
 | .nilCheck x=>some (.chk,[A0r G x])
 | .store t a x=>(A6r P t).map fun q=>(.store q.2,[A0r G a,A0r G x])
 | .makeSlice t l c=>(A5p P t).map fun q=>(.make q.1 q.2.1 q.2.2.1 q.2.2.2,[A0r G l,A0r G c])
 | .buildSlice t len parts=>(A5p P t).map fun q=>(.bslice q.1 q.2.1 q.2.2.2 len (parts.toList.map (·.1)),parts.toList.map fun p=>A0r G p.2)
 | .build t parts=>match P.underlying t,A3o P t with
  | some (.array _ e),some zc=>(P.info? e).map fun i=>(.barr i.size zc (parts.toList.map (·.1)),parts.toList.map fun p=>A0r G p.2)
  | some (.struct fields),some zc=>(fields.toList.mapM (fun f=>(P.info? f.type).map fun i=>(f.offset,i.size))).map fun places=>(.build places zc (parts.toList.map (·.1)),parts.toList.map fun p=>A0r G p.2)
  | _,_=>none
 | .box t x=>some (.box t,[A0r G x])
 | .alloc t=>(A3o P t).map fun zc=>(.alloc t zc,[])
 | .call ⟨.builtin .append,⟨[x,y]⟩,⟨[t,t']⟩⟩=>if t=t' then(A5p P t).map fun q=>(.app q.1 q.2.1 q.2.2.1,[A0r G x,A0r G y])else none
 | .call ⟨.builtin .len,⟨[x]⟩,⟨[t]⟩⟩=>match P.underlying t with
  | some .string=>some (.lenstr,[A0r G x])
  | some (.slice _)=>some (.lensl,[A0r G x])
  | _=>none
 | .call ⟨.builtin .min,⟨[x,y]⟩,_⟩=>some (.min,[A0r G x,A0r G y])
 | .call ⟨.builtin .max,⟨[x,y]⟩,_⟩=>some (.max,[A0r G x,A0r G y])
 | .call ⟨.value (.func f),args,ts⟩=>if ts.toList.any (refT P)||hot.contains f then some (.hcall f,args.toList.map (A0r G))else some (.call f,args.toList.map (A0r G))
 | .call ⟨.value x,args,_⟩=>some (.callv,A0r G x::args.toList.map (A0r G))
 | _=>some (.bad,[])
theorem B9q (G:A1f) (s:A0b) (parts:List (Nat×Operand)):(parts.map (·.1)).zip ((parts.map fun p=>A0r G p.2).map (·.ev s.env))=parts.map fun p=>(p.1,s.ev G p.2):=by
 induction parts with
 | nil=>rfl
 | cons p r ih=>simp only[List.map_cons,List.zip_cons_cons,ih,B0q]
theorem A0v {α β:Type} {x:Option α} {f:α->β} {y:β} (h:x.map f=some y):∃a,x=some a/\f a=y:=by
 cases x with
 | none=>cases h
 | some a=>exact⟨a,rfl,by simpa using h⟩
theorem D7x {P:Program} {G:A1f} {Φ:A1c} {s:A0b} {o:Op} {k:MK} {xs:List Opd} {q:PV×Heap×Nat} (hc:F4u P G o=some (k,xs))
  (he:A0m Φ s.H s.nx k (xs.map (·.ev s.env))=some q):valV P G Φ s o=some q:=by
 have ev1:=fun x=>B0q G s x
 unfold F4u at hc
 split at hc
 ·rename_i x
  injection hc with hc;injection hc with h1 h2;subst h1;subst h2
  simp only[List.map_cons,List.map_nil,A0m,ev1]at he
  simpa[valV,opV,A3x]using he
 ·rename_i x
  injection hc with hc;injection hc with h1 h2;subst h1;subst h2
  simp only[List.map_cons,List.map_nil,A0m,ev1]at he
  simpa[valV,opV,A3x]using he
 ·rename_i c a b
  injection hc with hc;injection hc with h1 h2;subst h1;subst h2
  simp only[List.map_cons,List.map_nil,A0m,ev1]at he
  simp only[valV,opV,A3x]
  split at he
  ·rename_i t ht;rw[ht];simpa using he
  ·cases he
 ·rename_i op t x y yt
  injection hc with hc;injection hc with h1 h2;subst h1;subst h2
  simp only[List.map_cons,List.map_nil,A0m,ev1]at he
  simp only[valV,opV,A3x]
  split at he
  ·rename_i a b ha hb
   rw[ha,hb]
   simp only[G6q]
   split at he
   ·rename_i v hv;rw[hv];simpa using he
   ·rename_i hv
    rw[hv]
    obtain⟨r,hr,rfl⟩:=A0v he
    simp[E5s P op t _ y hr]
  ·rename_i hne
   obtain⟨r,hr,rfl⟩:=A0v he
   have hcm:=E5s P op t _ y hr
   split
   ·rename_i a b ha hb;exact absurd hb (hne a b ha)
   ·simp[hcm]
 ·rename_i op t x
  injection hc with hc;injection hc with h1 h2;subst h1;subst h2
  simp only[List.map_cons,List.map_nil,A0m,ev1]at he
  simp only[valV,opV,A3x]
  split at he
  ·rename_i a ha
   rw[ha]
   obtain⟨v,hv,rfl⟩:=A0v he
   simp only[hv,Option.map_some,Option.some.injEq]
  ·cases he
 ·rename_i src dst x
  simp only[valV,opV,A3x]
  split at hc
  ·rename_i d k' hs hd
   injection hc with hc;injection hc with h1 h2;subst h1;subst h2
   simp only[List.map_cons,List.map_nil,A0m,ev1]at he
   obtain⟨r,hr,rfl⟩:=A0v he
   unfold convM at hr
   split at hr
   ·rename_i n hx
    rw[hx]
    simp only[E9l,hs,hd]
    simpa using hr
   ·simp at hr
   ·cases hr
  ·rename_i d hs hd
   injection hc with hc;injection hc with h1 h2;subst h1;subst h2
   simp only[List.map_cons,List.map_nil,A0m,ev1]at he
   obtain⟨r,hr,rfl⟩:=A0v he
   unfold convM at hr
   split at hr
   ·simp at hr
   ·rename_i n hx
    rw[hx]
    simp only[E9l,hs,hd]
    simpa using hr
   ·cases hr
  ·cases hc
 ·rename_i t a
  obtain⟨⟨b,n⟩,hq,h⟩:=A0v hc
  injection h with h1 h2;subst h1;subst h2
  simp only[List.map_cons,List.map_nil,A0m,ev1]at he
  simpa[valV,opV,A3x,E6a hq]using he
 ·rename_i t x f
  obtain⟨⟨off,b,n⟩,hq,h⟩:=A0v hc
  injection h with h1 h2;subst h1;subst h2
  simp only[List.map_cons,List.map_nil,A0m,ev1]at he
  simpa[valV,opV,A3x,F4r hq]using he
 ·rename_i t x f
  obtain⟨⟨off,b,n⟩,hq,h⟩:=A0v hc
  injection h with h1 h2;subst h1;subst h2
  simp only[List.map_cons,List.map_nil,A0m,ev1]at he
  simpa[valV,opV,A3x,F4s hq]using he
 ·rename_i t x i
  split at hc
  ·rename_i e z hz
   injection hc with hc;injection hc with h1 h2;subst h1;subst h2
   simp only[List.map_cons,List.map_nil,A0m,ev1]at he
   obtain⟨r,hr,rfl⟩:=A0v he
   simp[valV,opV,A3x,F0a hz hr]
  ·obtain⟨⟨n,z⟩,hq,h⟩:=A0v hc
   injection h with h1 h2;subst h1;subst h2
   simp only[List.map_cons,List.map_nil,A0m,ev1]at he
   obtain⟨r,hr,rfl⟩:=A0v he
   simp[valV,opV,A3x,F0b hq hr]
 ·rename_i t x i
  split at hc
  ·rename_i hu
   injection hc with hc;injection hc with h1 h2;subst h1;subst h2
   simp only[List.map_cons,List.map_nil,A0m,ev1]at he
   obtain⟨r,hr,rfl⟩:=A0v he
   simp[valV,opV,A3x,F0c hu hr]
  ·cases hc
 ·rename_i t x lo hi
  split at hc
  ·rename_i hu
   injection hc with hc;injection hc with h1 h2;subst h1;subst h2
   cases lo<;>cases hi<;>simp only[Option.isSome_none,Option.isSome_some,Option.map_none,Option.map_some,Option.toList_none,Option.toList_some,List.nil_append,List.append_nil,List.cons_append,List.map_cons,List.map_nil,A0m,ev1]at he
   all_goals (obtain⟨r,hr,rfl⟩:=A0v he;simp[valV,opV,A3x,F0d hu hr])
  ·split at hc
   ·rename_i e z hz
    injection hc with hc;injection hc with h1 h2;subst h1;subst h2
    cases lo<;>cases hi<;>simp only[Option.isSome_none,Option.isSome_some,Option.map_none,Option.map_some,Option.toList_none,Option.toList_some,List.nil_append,List.append_nil,List.cons_append,List.map_cons,List.map_nil,A0m,ev1]at he
    all_goals (obtain⟨r,hr,rfl⟩:=A0v he;simp[valV,opV,A3x,F0e hz hr])
   ·cases hc
 ·rename_i x i
  injection hc with hc;injection hc with h1 h2;subst h1;subst h2
  simp only[List.map_cons,List.map_nil,A0m,ev1]at he
  simpa[valV,opV,A3x]using he
 ·rename_i x
  injection hc with hc;injection hc with h1 h2;subst h1;subst h2
  simp only[List.map_cons,List.map_nil,A0m,ev1]at he
  simp only[valV,opV,A3x]
  obtain⟨r,hr,rfl⟩:=A0v he
  unfold chkM at hr
  split at hr
  all_goals (first | (cases hr;done) | (rename_i hx;rw[hx];simpa using hr))
 ·rename_i t a x
  obtain⟨⟨b,n⟩,hq,h⟩:=A0v hc
  injection h with h1 h2;subst h1;subst h2
  simp only[List.map_cons,List.map_nil,A0m,ev1]at he
  obtain⟨H',hr,rfl⟩:=A0v he
  simp[valV,opV,F0f hq hr]
 ·rename_i t l c
  obtain⟨⟨e,n,by',zc⟩,hq,h⟩:=A0v hc
  injection h with h1 h2;subst h1;subst h2
  simp only[List.map_cons,List.map_nil,A0m,ev1]at he
  obtain⟨r,hr,rfl⟩:=A0v he
  simp[valV,opV,F4t hq hr]
 ·rename_i t len parts
  obtain⟨⟨e,n,by',zc⟩,hq,h⟩:=A0v hc
  injection h with h1 h2;subst h1;subst h2
  simp only[A0m,B9q]at he
  obtain⟨r,hr,rfl⟩:=A0v he
  have:A3p P t len (parts.toList.map fun p=>(p.1,s.ev G p.2)) s.nx=some r:=by
   simp only[A3p,hq];exact hr
  simp[valV,opV,this]
 ·rename_i t parts
  split at hc
  ·rename_i n e zc hu hz
   obtain⟨i,hq,h⟩:=A0v hc
   injection h with h1 h2;subst h1;subst h2
   simp only[A0m,B9q]at he
   obtain⟨cs,hr,rfl⟩:=A0v he
   simp[valV,opV,D1o,D4a,hu,hq,hz,hr]
  ·rename_i fields zc hu hz
   obtain⟨places,hq,h⟩:=A0v hc
   injection h with h1 h2;subst h1;subst h2
   simp only[A0m,B9q]at he
   obtain⟨cs,hr,rfl⟩:=A0v he
   simp[valV,opV,D1o,D4a,hu,hq,hz,hr]
  ·cases hc
 ·rename_i t x
  injection hc with hc;injection hc with h1 h2;subst h1;subst h2
  simp only[List.map_cons,List.map_nil,A0m,ev1]at he
  simpa[valV,opV]using he
 ·rename_i t
  obtain⟨zc,hq,h⟩:=A0v hc
  injection h with h1 h2;subst h1;subst h2
  simp only[List.map_nil,A0m]at he
  simpa[valV,opV,hq]using he
 ·rename_i x y t t'
  split at hc
  ·rename_i e
   subst e
   obtain⟨⟨e,n,by',zc⟩,hq,h⟩:=A0v hc
   injection h with h1 h2;subst h1;subst h2
   simp only[List.map_cons,List.map_nil,A0m,ev1]at he
   simp[valV,opV,G1t hq he]
  ·cases hc
 ·rename_i x t
  split at hc
  ·rename_i hu
   injection hc with hc;injection hc with h1 h2;subst h1;subst h2
   simp only[List.map_cons,List.map_nil,A0m,ev1]at he
   obtain⟨r,hr,rfl⟩:=A0v he
   unfold lenstrM at hr
   split at hr
   ·rename_i st hx
    have:lenV P t (s.ev G x)=some r:=by rw[hx];simp only[lenV,hu];exact hr
    simp[valV,opV,A3x,B5n,this]
   ·cases hr
  ·rename_i e hu
   injection hc with hc;injection hc with h1 h2;subst h1;subst h2
   simp only[List.map_cons,List.map_nil,A0m,ev1]at he
   obtain⟨r,hr,rfl⟩:=A0v he
   unfold B0r at hr
   split at hr
   all_goals (first | (cases hr;done) | skip)
   all_goals
    rename_i hx
    have:lenV P t (s.ev G x)=some r:=by rw[hx];simp only[lenV,hu];exact hr
    simp[valV,opV,A3x,B5n,this]
  ·cases hc
 ·rename_i x y ts
  injection hc with hc;injection hc with h1 h2;subst h1;subst h2
  simp only[List.map_cons,List.map_nil,A0m,ev1]at he
  simpa[valV,opV,A3x,B5n]using he
 ·rename_i x y ts
  injection hc with hc;injection hc with h1 h2;subst h1;subst h2
  simp only[List.map_cons,List.map_nil,A0m,ev1]at he
  simpa[valV,opV,A3x,B5n]using he
 ·rename_i f args ts
  have e:(args.toList.map (A0r G)).map (·.ev s.env)=args.toList.map (s.ev G):=by
   rw[List.map_map]
   exact List.map_congr_left fun x _=>ev1 x
  split at hc
  ·rename_i hr
   injection hc with hc;injection hc with h1 h2;subst h1;subst h2
   simp only[A0m,e]at he
   simp only[valV,hr,if_true]
   exact he
  ·rename_i hr
   injection hc with hc;injection hc with h1 h2;subst h1;subst h2
   simp only[A0m,e]at he
   simp only[valV,hr,Bool.false_eq_true,if_false]
   exact he
 ·rename_i x args ts hne
  injection hc with hc;injection hc with h1 h2;subst h1;subst h2
  have e:(args.toList.map (A0r G)).map (·.ev s.env)=args.toList.map (s.ev G):=by
   rw[List.map_map]
   exact List.map_congr_left fun x _=>ev1 x
  simp only[List.map_cons,A0m,e,ev1]at he
  unfold valV
  split
  ·rename_i f' a' t' heq
   injection heq with heq
   injection heq with h1 h2 h3
   injection h1 with h1
   exact absurd h1 (hne f')
  ·rename_i x' a' t' _ heq
   injection heq with heq
   injection heq with h1 h2 h3
   injection h1 with h1
   subst h1;subst h2
   exact he
  ·rename_i h1 h2
   exact absurd rfl (h2 _ _ _)
 ·injection hc with hc;injection hc with h1 h2;subst h1;subst h2
  simp[A0m]at he
def litT:Op->Bool
 | .buildSlice _ len _=>len != 0
 | _=>true
def opK (P:Program) (G:A1f) (d:Bool) (o:Op):MK×List Opd:=
 match extK P G o with
 | some q=>q
 | none=>
 match d&&litT o,o with
 | true,.buildSlice t len parts=>match A5p P t with
  | some q=>(.tslice q.1 q.2.1 q.2.2.2 len (parts.toList.map (·.1)),parts.toList.map fun p=>A0r G p.2)
  | none=>(.bad,[])
 | _,o=>match F4u P G o with
  | some q=>q
  | none=>(.bad,[])
theorem B3l {P:Program} {G:A1f} {B:Nat} {Φ:A1c} {s:A0b} {o:Oper} {d:Bool} {k:MK} {xs:List Opd} (hΦ:Φ.Sound P G) (hc:opK P G d o.op=(k,xs)) {r:PV} {H':Heap} {nx':Nat}
  (he:A0m Φ s.H s.nx k (xs.map (·.ev s.env))=some (r,H',nx')):AOp P G B o s r H' nx':=by
 unfold opK at hc
 split at hc
 ·rename_i q hq
  subst hc
  refine G6y hq ?_
  cases k<;>simp only
  case ex e=>
   simp only[A0m]at he
   obtain⟨p,hp,e1⟩:=A0v he
   exact⟨p,hp,e1.symm⟩
  case hx h=>simpa only[A0m]using he
  all_goals (exact absurd hq (F4i (by simp)))
 split at hc
 ·rename_i t len parts _ ho
  split at hc
  ·rename_i q hq
   obtain⟨e,n,by',zc⟩:=q
   injection hc with h1 h2
   subst h1;subst h2
   simp only[A0m,B9q]at he
   obtain⟨x,hx,e1⟩:=A0v he
   injection e1 with e1 e2;injection e2 with e2 e3;subst e1;subst e2;subst e3
   unfold A6u at hx
   split at hx
   ·rename_i p0 ty cs hb
    split at hx
    ·rename_i ts hts
     split at hx
     ·rename_i hl
      injection hx with hx;subst hx
      unfold A1p at hb
      split at hb
      ·rename_i hsz
       obtain⟨cs',hf,e4⟩:=A0v hb
       injection e4 with e4 e5;injection e5 with e5 e6;subst e6
       have hbs:A3p P t len (parts.toList.map fun p=>(p.1,s.ev G p.2)) s.nx=some (.row s.nx 0 len n,.cells e (ts.map .t)):=by
        simp only[A3p,hq]
        rw[if_pos hsz,hf,<-B5m hts]
        rfl
       exact G1l hl (B6s ho hbs)
      ·cases hb
     ·cases hx
    ·cases hx
   ·cases hx
  ·injection hc with h1 h2
   subst h1
   simp[A0m]at he
 ·split at hc
  ·rename_i q hq
   subst hc
   exact G1n hΦ (D7x hq he)
  ·injection hc with h1 h2
   subst h1
   simp[A0m]at he
structure Mini where
 dst:Option Nat
 k:MK
 xs:List Opd
 g:Option (Nat×Bool)
def Mini.wants (env:List (Nat×PV)) (m:Mini):Option Bool:=
 match m.g with
 | none=>some true
 | some (d,want)=>match look env d with
  | some (.t (.v (.bool b)))=>some (b==want)
  | some (.t (.v (.tuple _)))=>some false
  | _=>none
def A2c (P:Program) (G:A1f) (N:Nat) (d:Bool) (ops:Array Oper) (o:Oper):Option Mini:=
 match opK P G d o.op with
 | (k,xs)=>if o.dst.all (· < N)then
   (match o.guard with
   | none=>some ⟨o.dst,k,xs,none⟩
   | some (j,want)=>match (ops[j]?).bind (·.dst)with
    | some d=>some ⟨o.dst,k,xs,some (d,want)⟩
    | none=>none)
  else none
theorem A5t {P:Program} {G:A1f} {N:Nat} {d:Bool} {ops:Array Oper} {o:Oper} {m:Mini} (h:A2c P G N d ops o=some m) :
  opK P G d o.op=(m.k,m.xs)/\m.dst=o.dst/\(∀k,o.dst=some k->k<N)/\∀s:A0b,s.wants ops o=m.wants s.env:=by
 unfold A2c at h
 split at h
 rename_i k xs hc
 split at h
 ·rename_i hd
  have hd':∀k,o.dst=some k->k<N:=by
   intro k hk
   rw[hk]at hd
   simpa using hd
  split at h
  ·rename_i hg
   injection h with h;subst h
   exact⟨hc,rfl,hd',fun s=>by simp[A0b.wants,Mini.wants,hg]⟩
  ·rename_i j want hg
   split at h
   ·rename_i d hdd
    injection h with h;subst h
    exact⟨hc,rfl,hd',fun s=>by simp only[A0b.wants,Mini.wants,hg,hdd];rfl⟩
   ·cases h
 ·cases h
def C4v (Φ:A1c) (s:A0b) (m:Mini):Option A0b:=
 match m.wants s.env with
 | some true=>match A0m Φ s.H s.nx m.k (m.xs.map (·.ev s.env))with
  | some (r,H',nx')=>some (({ s with H:=H',nx:=nx' }:A0b).put m.dst r)
  | none=>none
 | some false=>some (s.put m.dst (.t (.v undef)))
 | none=>none
def runL (Φ:A1c):List Mini->A0b->Option A0b
 | [],s=>some s
 | m::r,s=>match C4v Φ s m with
  | some s'=>runL Φ r s'
  | none=>none
section
variable {P : Program} {G : A1f} {B N : Nat} {Φ : A1c} {d : Bool} {ops : Array Oper}
def B6i (P:Program) (G:A1f) (N:Nat) (d:Bool) (ops:Array Oper):List Oper->List Mini->Prop
 | [],l=>l=[]
 | o::r,l=>∃m l',l=m::l'/\A2c P G N d ops o=some m/\B6i P G N d ops r l'
theorem A3e:∀{os:List Oper} {l:List Mini},os.mapM (A2c P G N d ops)=some l->B6i P G N d ops os l
 | [],l,h=>by simp at h;simp only[B6i];exact h
 | o::r,l,h=>by
  simp only[List.mapM_cons,Option.bind_eq_bind,Option.pure_def]at h
  cases ho:A2c P G N d ops o with
  | none=>rw[ho]at h;cases h
  | some m=>
   rw[ho]at h
   cases hr:r.mapM (A2c P G N d ops)with
   | none=>rw[hr]at h;cases h
   | some l'=>
    rw[hr]at h
    simp only[Option.bind_some,Option.some.injEq]at h
    subst h
    simp only[B6i]
    exact⟨m,l',rfl,ho,A3e hr⟩
theorem B6i.at_:∀{os:List Oper} {l:List Mini},B6i P G N d ops os l->∀(i:Nat),(∀o,os[i]?=some o->∃m,l[i]?=some m/\A2c P G N d ops o=some m)/\os.length=l.length
 | [],l,h,i=>by simp only[B6i]at h;subst h;simp
 | o::r,l,h,i=>by
  simp only[B6i]at h
  obtain⟨m,l',rfl,hm,hr⟩:=h
  refine⟨fun o' ho'=>?_,by simp[(B6i.at_ hr 0).2]⟩
  cases i with
  | zero=>simp only[List.getElem?_cons_zero,Option.some.injEq]at ho';subst ho';exact⟨m,by simp,hm⟩
  | succ i=>simpa using (B6i.at_ hr i).1 o' (by simpa using ho')
theorem B0s (hΦ:Φ.Sound P G) {Q:A0b->Prop}:∀(os:List Oper) {l:List Mini} {s s':A0b},B6i P G N d ops os l->s.n=N->runL Φ l s=some s'->Q s'->AOps P G B ops os Q s
 | [],l,s,s',ha,hn,h,hq=>by
  simp only[B6i]at ha
  subst ha
  simp only[runL,Option.some.injEq]at h
  subst h
  exact E5o hq
 | o::rest,l,s,s',ha,hn,h,hq=>by
  simp only[B6i]at ha
  obtain⟨m,l',rfl,hm,hr⟩:=ha
  obtain⟨hc,hdst,hd,hw⟩:=A5t hm
  simp only[runL]at h
  split at h
  ·rename_i s1 h1
   unfold C4v at h1
   rw[<-hw s]at h1
   have hd':∀k,o.dst=some k->k<s.n:=fun k hk=>by rw[hn];exact hd k hk
   rw[hdst]at h1
   split at h1
   ·rename_i hww
    split at h1
    ·rename_i r H' nx' hv
     injection h1 with h1
     subst h1
     exact D7d hww hd' (B3l hΦ hc hv) (B0s hΦ rest hr (by rw[C1q];exact hn) h hq)
    ·cases h1
   ·rename_i hww
    injection h1 with h1
    subst h1
    exact D7e hww hd' (B0s hΦ rest hr (by rw[C1q];exact hn) h hq)
   ·cases h1
  ·cases h
def A0x:MK->Bool
 | .store _ | .make _ _ _ _ | .bslice _ _ _ _ _ | .box _ | .alloc _ _ | .app _ _ _ | .hcall _ | .callv | .hx _=>false
 | _=>true
def A2n (Φ:A1c) (H:Heap) (nx:Nat) (k:MK) (ps:List PV):Option PV:=
 if A0x k then
  (match k with
  | .call f=>match toTs H ps with
   | some (targs,F)=>match Φ f targs with
    | some r=>if F.isEmpty||A7i r then some (.t r)else none
    | none=>none
   | none=>none
  | k=>(A0m Φ H nx k ps).map (·.1))
 else none
theorem E2c {H:Heap} {nx:Nat} {k:MK} {ps:List PV} {r:PV} (h:A2n Φ H nx k ps=some r):A0m Φ H nx k ps=some (r,H,nx):=by
 unfold A2n at h
 split at h
 ·rename_i hk
  split at h
  ·rename_i f
   split at h
   ·rename_i targs F hT
    split at h
    ·rename_i q hq
     split at h
     ·rename_i hp
      injection h with h;subst h
      simp only[A0m,hT,hq]
      cases hF:F.isEmpty with
      | true=>simp
      | false=>
       rw[hF]at hp
       simp only[Bool.false_or]at hp
       simp[hp]
     ·cases h
    ·cases h
   ·cases h
  ·rename_i hnc
   obtain⟨q,hq,rfl⟩:=A0v h
   rw[hq]
   congr 1
   unfold A0m at hq
   split at hq
   all_goals (first
    | (simp[A0x]at hk;done)
    | (exact absurd rfl (hnc _))
    | (cases hq;done)
    | (injection hq with hq;rw[<-hq];done)
    | (obtain⟨a,_,rfl⟩:=A0v hq;rfl)
    | skip)
   ·split at hq
    ·injection hq with hq;rw[<-hq]
    ·cases hq
   ·split at hq
    ·split at hq
     ·injection hq with hq;rw[<-hq]
     ·obtain⟨a,_,rfl⟩:=A0v hq;rfl
    ·obtain⟨a,_,rfl⟩:=A0v hq;rfl
   ·split at hq
    ·obtain⟨a,_,rfl⟩:=A0v hq;rfl
    ·cases hq
 ·cases h
def Mini.eyes (m:Mini):List Nat:=
 (m.xs.filterMap fun | .tmp t=>some t | _=>none)++(match m.g with | some (d,_)=>[d] | none=>[])
def A0b.only (s:A0b) (ts:List Nat):A0b:={ s with env:=ts.filterMap fun t=>(look s.env t).map fun p=>(t,p) }
theorem B9r (s:A0b):∀(ts:List Nat) (t:Nat),look (s.only ts).env t=if t∈ts then look s.env t else none
 | [],t=>by simp[A0b.only,look]
 | u::ts,t=>by
  have ih:=B9r s ts t
  simp only[A0b.only]at ih ⊢
  simp only[List.filterMap_cons]
  cases hu:look s.env u with
  | none=>
   simp only[Option.map_none,ih]
   by_cases e:t=u
   ·subst e;simp[hu]
   ·simp[e]
  | some p=>
   simp only[Option.map_some,look]
   by_cases e:u=t
   ·subst e;simp[hu]
   ·rw[if_neg e,ih]
    simp[Ne.symm e]
theorem G6z (s:A0b) (m:Mini) (ts:List Nat) (h:∀t∈m.eyes,t∈ts):m.xs.map (·.ev (s.only ts).env)=m.xs.map (·.ev s.env):=by
 refine List.map_congr_left fun x hx=>?_
 cases x with
 | tmp t=>
  have:t∈m.eyes:=by
   unfold Mini.eyes
   exact List.mem_append_left _ (List.mem_filterMap.2 ⟨.tmp t,hx,rfl⟩)
  simp only[Opd.ev,B9r,if_pos (h t this)]
 | k p=>rfl
theorem F0g (s:A0b) (m:Mini) (ts:List Nat) (h:∀t∈m.eyes,t∈ts):m.wants (s.only ts).env=m.wants s.env:=by
 unfold Mini.wants
 cases hg:m.g with
 | none=>rfl
 | some q=>
  obtain⟨d,want⟩:=q
  have:d∈m.eyes:=by unfold Mini.eyes;rw[hg];simp
  simp only[B9r,if_pos (h d this)]
def valQ (Φ:A1c) (s:A0b) (m:Mini):Option PV:=
 match m.wants s.env with
 | some true=>A2n Φ s.H s.nx m.k (m.xs.map (·.ev s.env))
 | some false=>some (.t (.v undef))
 | none=>none
def C3v:MK->Bool
 | .load _ _ | .call _=>false
 | k=>A0x k
def B3m:MK->Bool
 | .make _ _ _ _ | .bslice _ _ _ _ _ | .box _ | .alloc _ _=>true
 | _=>false
def F4v (Φ:A1c) (s:A0b) (m:Mini):Option A0b:=
 if A0x m.k then
  (match valQ Φ s m with
  | some v=>some (s.put m.dst v)
  | none=>none)
 else C4v Φ s m
def runD (Φ:A1c):List Mini->A0b->Option A0b
 | [],s=>some s
 | m::r,s=>match F4v Φ s m with
  | some s'=>runD Φ r s'
  | none=>none
def D1s:MK->Bool
 | .make _ _ _ _ | .alloc _ _=>true
 | _=>false
def B1r (A:List Nat) (pa k:Nat) (R:List (Nat×Nat)) (p p':Nat) (x y:Nat×Mini):Bool:=
 (A0x x.2.k&&(A0x y.2.k||C3v x.2.k||B3m y.2.k||R.contains (p,p'))||(A.getD y.1 0).testBit x.1||decide (pa<=p)&&decide (p'<pa+k)) &&
 ((match x.2.dst with
  | some d=>!(y.2.eyes.contains d)
  | none=>true)||(A.getD y.1 0).testBit x.1 && !(decide (pa<=p)&&decide (p'<pa+k))) &&
 ((match y.2.dst with
  | some d=>!(x.2.eyes.contains d)
  | none=>true)||(A.getD y.1 0).testBit x.1) &&
 (match x.2.dst with
  | some d=>y.2.dst != some d
  | none=>true)
def B9s (A:List Nat) (pa k:Nat) (R:List (Nat×Nat)):Nat->List (Nat×Mini)->Bool
 | _,[]=>true
 | p,x::r=>(r.zipIdx (p+1)).all (fun y=>B1r A pa k R p y.2 x y.1)&&B9s A pa k R (p+1) r
def A2v (l:List Mini) (π:List Nat):List (Nat×Mini):=π.filterMap fun i=>(l[i]?).map fun m=>(i,m)
def D7y (ops:Array Oper) (l:List Mini) (π:List Nat) (pa k:Nat) (R:List (Nat×Nat)):Bool:=
 (ops.toList.zipIdx.all fun p=>p.1.after.toList.all fun e=>decide (e.on<p.2) || !Region.binds .any e) &&
 ((A2v l π).length==l.length)&&((List.range l.length).all fun i=>π.contains i)&&decide (π.Nodup) &&
 B9s (ancs ops.toList []) pa k R 0 (A2v l π)&&decide (pa+k<=l.length) &&
 (((A2v l π).drop pa).take k).all fun x=>D1s x.2.k&&x.2.g.isNone
inductive GI where
 | o (m:Mini) (kp:Bool) (ag:List Nat)
 | g (j:Nat) (m:Mini)
def GI.mini:GI->Mini
 | .o m _ _=>m
 | .g _ m=>m
abbrev Pend:=List (Nat×MK×List PV×PV)
def agnP (Φ:A1c) (pd:Pend) (H:Heap) (nx:Nat) (ks:List Nat):Prop:=∀i∈ks,∃x,look pd i=some x/\A2n Φ H nx x.1 x.2.1=some x.2.2
def valD (Φ:A1c) (s:A0b) (m:Mini):Option (PV×Heap×Nat):=
 if A0x m.k then(valQ Φ s m).map fun v=>(v,s.H,s.nx)
 else match m.wants s.env with
  | some true=>A0m Φ s.H s.nx m.k (m.xs.map (·.ev s.env))
  | some false=>some (.t (.v undef),s.H,s.nx)
  | none=>none
def D4f (kp:Bool) (n:Nat) (m:Mini) (s:A0b) (v:PV) (pd:Pend):Pend:=if kp then(n,m.k,m.xs.map (·.ev s.env),v)::pd else pd
open Classical in
noncomputable def runG (Φ:A1c) (k:Nat):Nat->Nat->Pend->List GI->A0b->Option A0b
 | _,_,_,[],s=>some s
 | n,b,pd,.o m kp ag::r,s=>match valD Φ s m with
  | some (v,H',nx')=>if agnP Φ pd H' nx' ag then runG Φ k (n+1) b (D4f kp n m s v pd) r (({ s with H:=H',nx:=nx' }:A0b).put m.dst v)else none
  | none=>none
 | n,b,pd,.g j m::r,s=>match A0m Φ s.H ((if j=0 then s.nx else b)+k+j) m.k (m.xs.map (·.ev s.env))with
  | some (v,H',_)=>runG Φ k (n+1) (if j=0 then s.nx else b) pd r (({ s with H:=H',nx:=(if j=0 then s.nx else b)+2*k }:A0b).put m.dst v)
  | none=>none
def D7z (pa k:Nat) (R:List (Nat×Nat)) (l:List GI):Bool:=
 (l.zipIdx.all fun x=>match x.1 with
  | .o _ _ _=>decide (x.2<pa)||decide (pa+k<=x.2)
  | .g j _=>decide (pa<=x.2)&&decide (x.2<pa+k)&&(x.2==pa+j)) &&
 R.all fun r=>match l[r.2]? with
  | some (.o _ _ ag)=>ag.contains r.1
  | _=>false
def G7a (q:List (Nat×Mini)):Nat×Nat:=
 let free:=fun x:Nat×Mini=>D1s x.2.k&&x.2.g.isNone
 let pa:=q.findIdx free
 (if pa<q.length then pa else 0,((q.drop pa).takeWhile free).length)
def G7b (A:List Nat) (q:List (Nat×Mini)):List (Nat×Nat):=
 q.zipIdx.flatMap fun y=>if A0x y.1.2.k||B3m y.1.2.k then []else
  (q.zipIdx.filter fun x=>decide (x.2<y.2)&&A0x x.1.2.k && !C3v x.1.2.k && !(A.getD y.1.1 0).testBit x.1.1).map fun x=>(x.2,y.2)
def E2d (pa k:Nat) (R:List (Nat×Nat)) (q:List (Nat×Mini)):List GI:=
 q.zipIdx.map fun x=>if pa<=x.2/\x.2<pa+k then .g (x.2-pa) x.1.2 else .o x.1.2 (R.any fun r=>r.1==x.2) ((R.filter fun r=>r.2==x.2).map Prod.fst)
end
end Go.Abs
