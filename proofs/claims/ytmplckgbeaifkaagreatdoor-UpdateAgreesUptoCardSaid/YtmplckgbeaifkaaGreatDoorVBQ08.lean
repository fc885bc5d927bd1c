/-
 Auxiliary facts. No statement of the program stands here.
-/
import Derived.Test.YtmplckgbeaifkaaGreatDoorVBQ07
namespace Go.Abs
set_option linter.unusedSimpArgs false
set_option linter.unusedVariables false
open Go
def A0g (agg:Bool) (n:Nat) (H:Heap) (p:PV):Option PV:=
 match p with
 | .t (.pt cs)=>if agg then(if n<=cs.length then some (.t (.ag (cs.take n)))else none)else(cs.head?).map .t
 | .ptr b o=>match look H b with
  | some (.cells _ cs)=>if agg then(if o+n<=cs.length then some (agOf ((cs.drop o).take n))else none)else cs[o]?
  | _=>none
 | _=>none
theorem D4v {P:Program} {t:TypeId} {agg:Bool} {n:Nat} (h:A4w P t=some (agg,n)) (H:Heap) (p:PV):D1h P H t p=A0g agg n H p:=by
 unfold D1h A0g;rw[h]
 cases agg<;>cases p<;>try rfl
 all_goals (rename_i x;cases x<;>rfl)
def A1o (z:Nat) (x i:PV):Option PV:=
 match i with
 | .t (.v (.int _ i))=>match x with
  | .t (.sl n cs)=>if 0<=i/\i<n then some (.t (.pt (cs.drop (i.toNat*z))))else none
  | .row b o n _=>if 0<=i/\i<n then some (.ptr b (o+i.toNat*z))else none
  | _=>none
 | _=>none
def D4w (n z:Nat) (x i:PV):Option PV:=
 match i with
 | .t (.v (.int _ i))=>match x with
  | .t (.pt cs)=>if 0<=i/\i<n then some (.t (.pt (cs.drop (i.toNat*z))))else none
  | .ptr b o=>if 0<=i/\i<n then some (.ptr b (o+i.toNat*z))else none
  | _=>none
 | _=>none
theorem D7x {P:Program} {t e:TypeId} {z:Nat} (h:A5j P t=some (e,z)) {x i r:PV} (hr:A1o z x i=some r):A3v P t x i=some r:=by
 unfold A1o at hr;split at hr
 ·split at hr
  ·simp only[A3v,h];exact hr
  ·simp only[A3v,h];exact hr
  ·cases hr
 ·cases hr
theorem D7y {P:Program} {t:TypeId} {n z:Nat} (h:D7k P t=some (n,z)) {x i r:PV} (hr:D4w n z x i=some r):A3v P t x i=some r:=by
 unfold D4w at hr;split at hr
 ·split at hr
  ·simp only[A3v,h];exact hr
  ·simp only[A3v,h];exact hr
  ·cases hr
 ·cases hr
@[simp] def faddrM (off:Nat) (x:PV):Option PV:=
 match x with
 | .t (.pt cs)=>some (.t (.pt (cs.drop off)))
 | .ptr b o=>some (.ptr b (o+off))
 | _=>none
theorem E2e {P:Program} {t:TypeId} {f off n:Nat} {b:Bool} (h:A6v P t f=some (off,b,n)) (x:PV):A8c P t x f=faddrM off x:=by
 unfold A8c faddrM;rw[h]
 cases x<;>try rfl
 rename_i x;cases x<;>rfl
def D4x (off:Nat) (agg:Bool) (n:Nat) (x:PV):Option PV:=
 match x with
 | .t (.ag cs)=>if agg then(if off+n<=cs.length then some (.t (.ag ((cs.drop off).take n)))else none)else(cs[off]?).map .t
 | .ag cs=>if agg then(if off+n<=cs.length then some (agOf ((cs.drop off).take n))else none)else cs[off]?
 | _=>none
theorem E2f {P:Program} {t:TypeId} {f off n:Nat} {b:Bool} (h:A6v P t f=some (off,b,n)) (x:PV):C7j P t x f=D4x off b n x:=by
 unfold C7j D4x;rw[h]
 cases b<;>cases x<;>try rfl
 all_goals (rename_i x;cases x<;>rfl)
def B6o (x i:PV):Option PV:=
 match x,i with
 | .t (.v (.string s)),.t (.v (.int _ i))=>if 0<=i then(s[i.toNat]?).map fun b=>.t (.v (.int .u8 b.toNat))else none
 | _,_=>none
theorem D7z {P:Program} {t:TypeId} (h:P.underlying t=some .string) {x i r:PV} (hr:B6o x i=some r):C7k P t x i=some r:=by
 unfold B6o at hr;split at hr
 ·simp only[C7k,h];exact hr
 ·cases hr
def A3e (x:PV) (lo hi:Option PV):Option PV:=
 match x with
 | .t (.v (.string s))=>match boundV lo 0,boundV hi s.size with
  | some l,some h=>if l<=h/\h<=s.size then some (.t (.v (.string (s.extract l h))))else none
  | _,_=>none
 | _=>none
theorem D8a {P:Program} {t:TypeId} (h:P.underlying t=some .string) {x r:PV} {lo hi:Option PV} (hr:A3e x lo hi=some r):B3o P t x lo hi=some r:=by
 unfold A3e at hr;split at hr
 ·simp only[B3o,h];exact hr
 ·cases hr
def A5x (z:Nat) (x:PV) (lo hi:Option PV):Option PV:=
 match x with
 | .t (.v (.slice none n c))=>match boundV lo 0,boundV hi n with
  | some l,some h=>if l=0/\h=0/\n=0/\c=0 then some (.t (.v (.slice none 0 0)))else none
  | _,_=>none
 | .t (.sl n cs)=>match boundV lo 0,boundV hi n with
  | some l,some h=>if l<=h/\h<=n then some (.t (.sl (h-l) ((cs.drop (l*z)).take ((h-l)*z))))else none
  | _,_=>none
 | .row b o n z'=>match boundV lo 0,boundV hi n with
  | some l,some h=>if z≠z' then none else if l<h/\h<=n then some (.row b (o+l*z') (h-l) z')else if l=0/\h=0 then some (.row b o 0 z')else if l=h/\h<=n then some (.t (.sl 0 []))else none
  | _,_=>none
 | _=>none
theorem D8b {P:Program} {t e:TypeId} {z:Nat} (h:A5j P t=some (e,z)) {x r:PV} {lo hi:Option PV} (hr:A5x z x lo hi=some r):B3o P t x lo hi=some r:=by
 have hu:P.underlying t=some (.slice e):=by
  unfold A5j at h;split at h
  ·rename_i e' hu
   cases hi:P.info? e' with
   | none=>rw[hi]at h;cases h
   | some i=>rw[hi]at h;injection h with h;injection h with h1 h2;subst h1;exact hu
  ·cases h
 unfold A5x at hr;split at hr
 ·split at hr
  ·rename_i el eh;simp only[B3o,hu,h,el,eh];exact hr
  ·cases hr
 ·split at hr
  ·rename_i el eh;simp only[B3o,hu,h,el,eh];exact hr
  ·cases hr
 ·split at hr
  ·rename_i el eh;simp only[B3o,hu,h,el,eh];exact hr
  ·cases hr
 ·cases hr
@[simp] def lenstrM:PV->Option PV
 | .t (.v (.string s))=>some (.t (.v (.int .i64 s.size)))
 | _=>none
def A7k:PV->Option PV
 | .t (.v (.slice _ n _))=>some (.t (.v (.int .i64 n)))
 | .t (.sl n _)=>some (.t (.v (.int .i64 n)))
 | .row _ _ n _=>some (.t (.v (.int .i64 n)))
 | _=>none
@[simp] def convM (k:Option IntKind):PV->Option PV
 | .t (.v (.int _ n))=>match k with
  | some k=>some (.t (.v (.int k (k.wrap n))))
  | none=>none
 | .t (.v (.string s))=>match k with
  | none=>some (.t (.v (.string s)))
  | _=>none
 | _=>none
@[simp] def chkM:PV->Option PV
 | .ptr b o=>some (.ptr b o)
 | .t (.pt cs)=>some (.t (.pt cs))
 | .fn (.func f) first cap=>some (.fn (.func f) first cap)
 | .t (.v (.func (.func f) x y))=>some (.t (.v (.func (.func f) x y)))
 | _=>none
def A0t (n:Nat) (H:Heap) (p x:PV):Option Heap:=
 match p with
 | .ptr b o=>match A1m x with
  | some ps=>match look H b with
   | some (.cells ty cs)=>if ps.length=n/\o+ps.length<=cs.length then some (upd H b (.cells ty (A4y cs o ps)))else none
   | _=>none
  | none=>none
 | _=>none
theorem D8c {P:Program} {t:TypeId} {b:Bool} {n:Nat} (h:A4w P t=some (b,n)) {H H':Heap} {p x:PV} (hr:A0t n H p x=some H'):C2j P H t p x=some H':=by
 unfold A0t at hr;split at hr
 ·split at hr
  ·rename_i hps;simp only[C2j,h,hps];exact hr
  ·cases hr
 ·cases hr
def C7z (e n by':Nat) (zc:List Value) (l c:PV) (nx:Nat):Option (PV×Row):=
 match l,c with
 | .t (.v (.int _ l)),.t (.v (.int _ c))=>if 0<=l/\l<=c/\c<=9223372036854775807/\(by':Int)*c<=281474976710656 then some (.row nx 0 l.toNat n,.cells e (B7o zc l.toNat))else none
 | _,_=>none
theorem E2g {P:Program} {t e n by':Nat} {zc:List Value} (h:A3w P t=some (e,n,by',zc)) {l c:PV} {nx:Nat} {q:PV×Row} (hr:C7z e n by' zc l c nx=some q):D7s P t l c nx=some q:=by
 unfold C7z at hr;split at hr
 ·simp only[D7s,h];exact hr
 ·cases hr
def A3l (e n:Nat) (zc:List Value) (len:Nat) (parts:List (Nat×PV)) (nx:Nat):Option (PV×Row):=
 if len*n<=16777216 then(A8e (fun i=>some (i*n,n)) (B7o zc len) parts).map fun cs=>(.row nx 0 len n,.cells e cs)else none
def appM (e z by':Nat) (H:Heap) (nx:Nat) (d x:PV):Option (PV×Heap×Nat):=
 match srcP H z x with
 | some (m,ps)=>match d with
  | .t (.v (.slice none n c))=>if n=0/\c=0 then
    (if m=0 then some (.t (.v (.slice none n c)),H,nx)else if m*by'<=140737488355328/\m<=9223372036854775807 then some (.row nx 0 m z,(nx,.cells e ps)::H,nx+1)else none)else none
  | .row b o n z'=>match look H b with
   | some (.cells ty cs)=>
    if z'=z/\o=0/\ty=e/\cs.length=n*z/\(n+m)*by'<=140737488355328/\n+m<=9223372036854775807 then some (.row nx 0 (n+m) z,(nx,.cells e (cs++ps))::rem H b,nx+1)else none
   | _=>none
  | _=>none
 | none=>none
theorem E9e {P:Program} {t e z by':Nat} {zc:List Value} (h:A3w P t=some (e,z,by',zc)) {H:Heap} {nx:Nat} {d x:PV} {q:PV×Heap×Nat} (hr:appM e z by' H nx d x=some q):B5h P H nx t d x=some q:=by
 unfold appM at hr;split at hr
 ·rename_i m ps hs;split at hr
  ·simp only[B5h,h,hs];exact hr
  ·simp only[B5h,h,hs];exact hr
  ·cases hr
 ·cases hr
def A9a (e n:Nat) (zc:List Value) (len:Nat) (parts:List (Nat×PV)):Option PV:=
 match A3l e n zc len parts 0 with
 | some (_,.cells _ cs)=>match allT cs with
  | some ts=>if ts.length=len*n then some (.t (.sl len ts))else none
  | none=>none
 | _=>none
def A0e (Φ:A0v) (H:Heap) (nx:Nat) (k:MK) (ps:List PV):Option (PV×Heap×Nat):=
 match k,ps with
 | .mv,[x]=>some (x,H,nx)
 | .pick,[c,a,b]=>match c with
  | .t (.v (.bool t))=>some (bif t then a else b,H,nx)
  | _=>none
 | .bin isB op nk,[x,y]=>match x,y with
  | .t (.v a),.t (.v b)=>match binM isB op a b with
   | some v=>some (.t (.v v),H,nx)
   | none=>(cmpM op nk (.t (.v a))).map fun r=>(r,H,nx)
  | x,_=>(cmpM op nk x).map fun r=>(r,H,nx)
 | .un op,[x]=>match x with
  | .t (.v a)=>(unV op a).map fun v=>(.t (.v v),H,nx)
  | _=>none
 | .conv k,[x]=>(convM k x).map fun r=>(r,H,nx)
 | .load agg n,[p]=>(A0g agg n H p).map fun r=>(r,H,nx)
 | .faddr off,[x]=>(faddrM off x).map fun r=>(r,H,nx)
 | .field off agg n,[x]=>(D4x off agg n x).map fun r=>(r,H,nx)
 | .iaddr z,[x,i]=>(A1o z x i).map fun r=>(r,H,nx)
 | .aaddr n z,[x,i]=>(D4w n z x i).map fun r=>(r,H,nx)
 | .index,[x,i]=>(B6o x i).map fun r=>(r,H,nx)
 | .slstr false false,[x]=>(A3e x none none).map fun r=>(r,H,nx)
 | .slstr true false,[x,l]=>(A3e x (some l) none).map fun r=>(r,H,nx)
 | .slstr false true,[x,h]=>(A3e x none (some h)).map fun r=>(r,H,nx)
 | .slstr true true,[x,l,h]=>(A3e x (some l) (some h)).map fun r=>(r,H,nx)
 | .slice z false false,[x]=>(A5x z x none none).map fun r=>(r,H,nx)
 | .slice z true false,[x,l]=>(A5x z x (some l) none).map fun r=>(r,H,nx)
 | .slice z false true,[x,h]=>(A5x z x none (some h)).map fun r=>(r,H,nx)
 | .slice z true true,[x,l,h]=>(A5x z x (some l) (some h)).map fun r=>(r,H,nx)
 | .ext i,[x]=>(extractV x i).map fun r=>(r,H,nx)
 | .chk,[x]=>(chkM x).map fun r=>(r,H,nx)
 | .lenstr,[x]=>(lenstrM x).map fun r=>(r,H,nx)
 | .lensl,[x]=>(A7k x).map fun r=>(r,H,nx)
 | .min,[x,y]=>(minV x y).map fun r=>(r,H,nx)
 | .max,[x,y]=>(maxV x y).map fun r=>(r,H,nx)
 | .store n,[p,x]=>(A0t n H p x).map fun H'=>(.t (.v undef),H',nx)
 | .make e n by' zc,[l,c]=>(C7z e n by' zc l c nx).map fun q=>(q.1,(nx,q.2)::H,nx+1)
 | .bslice e n zc len idx,ps=>(A3l e n zc len (idx.zip ps) nx).map fun q=>(q.1,(nx,q.2)::H,nx+1)
 | .build places zc idx,ps=>(A8e (fun k=>places[k]?) (zc.map fun x=>.t (.v x)) (idx.zip ps)).map fun cs=>(agOf cs,H,nx)
 | .barr n zc idx,ps=>(A8e (fun k=>some (k*n,n)) (zc.map fun x=>.t (.v x)) (idx.zip ps)).map fun cs=>(agOf cs,H,nx)
 | .box t,[x]=>(A1m x).map fun ps=>(.ptr nx 0,(nx,.cells t ps)::H,nx+1)
 | .alloc t zc,[]=>some (.ptr nx 0,(nx,.cells t (zc.map fun x=>.t (.v x)))::H,nx+1)
 | .app e z by',[d,x]=>appM e z by' H nx d x
 | .call f,ps=>match toTs H ps with
  | some (targs,F)=>match Φ f targs with
   | some r=>some (.t r,if F.isEmpty then H else if A4r r then H else remAll H F,nx)
   | none=>none
  | none=>none
 | .hcall f,ps=>Φ.h f ps H nx
 | .tslice e n zc len idx,ps=>(A9a e n zc len (idx.zip ps)).map fun r=>(r,H,nx)
 | .callv,fv::ps=>D4m Φ H nx fv ps
 | .ex e,ps=>(exM e ps).map fun r=>(r,H,nx)
 | .hx h,ps=>hxM h H nx ps
 | _,_=>none
def D4y (P:Program) (G:A0u) (o:Op):Option (MK×List Opd):=
 match o with
 | .move x=>some (.mv,[A0j G x])
 | .assign x=>some (.mv,[A0j G x])
 | .pick c a b=>some (.pick,[A0j G c,A0j G a,A0j G b])
 | .binOp op t x y _=>some (.bin (D1k P t) op (nkOf P t y),[A0j G x,A0j G y])
 | .unOp op _ x=>some (.un op,[A0j G x])
 | .convert src dst x=>match P.underlying src,P.underlying dst with
  | some _,some (.int k)=>some (.conv (some k),[A0j G x])
  | some _,some .string=>some (.conv none,[A0j G x])
  | _,_=>none
 | .load t a=>(A4w P t).map fun q=>(.load q.1 q.2,[A0j G a])
 | .fieldAddr t x f=>(A6v P t f).map fun q=>(.faddr q.1,[A0j G x])
 | .field t x f=>(A6v P t f).map fun q=>(.field q.1 q.2.1 q.2.2,[A0j G x])
 | .indexAddr t x i=>match A5j P t with
  | some (_,z)=>some (.iaddr z,[A0j G x,A0j G i])
  | none=>(D7k P t).map fun q=>(.aaddr q.1 q.2,[A0j G x,A0j G i])
 | .index t x i=>match P.underlying t with
  | some .string=>some (.index,[A0j G x,A0j G i])
  | _=>none
 | .slice t x lo hi none=>match P.underlying t with
  | some .string=>some (.slstr lo.isSome hi.isSome,A0j G x::((lo.map (A0j G)).toList++(hi.map (A0j G)).toList))
  | _=>match A5j P t with
   | some (_,z)=>some (.slice z lo.isSome hi.isSome,A0j G x::((lo.map (A0j G)).toList++(hi.map (A0j G)).toList))
   | none=>none
 | .extract x i=>some (.ext i,[A0j G x])
 | .nilCheck x=>some (.chk,[A0j G x])
 | .store t a x=>(A4w P t).map fun q=>(.store q.2,[A0j G a,A0j G x])
 | .makeSlice t l c=>(A3w P t).map fun q=>(.make q.1 q.2.1 q.2.2.1 q.2.2.2,[A0j G l,A0j G c])
 | .buildSlice t len parts=>(A3w P t).map fun q=>(.bslice q.1 q.2.1 q.2.2.2 len (parts.toList.map (·.1)),parts.toList.map fun p=>A0j G p.2)
 | .build t parts=>match P.underlying t,A2z P t with
  | some (.array _ e),some zc=>(P.info? e).map fun i=>(.barr i.size zc (parts.toList.map (·.1)),parts.toList.map fun p=>A0j G p.2)
  | some (.struct fields),some zc=>(fields.toList.mapM (fun f=>(P.info? f.type).map fun i=>(f.offset,i.size))).map fun places=>(.build places zc (parts.toList.map (·.1)),parts.toList.map fun p=>A0j G p.2)
  | _,_=>none
 | .box t x=>some (.box t,[A0j G x])
 | .alloc t=>(A2z P t).map fun zc=>(.alloc t zc,[])
 | .call ⟨.builtin .append,⟨[x,y]⟩,⟨[t,t']⟩⟩=>if t=t' then(A3w P t).map fun q=>(.app q.1 q.2.1 q.2.2.1,[A0j G x,A0j G y])else none
 | .call ⟨.builtin .len,⟨[x]⟩,⟨[t]⟩⟩=>match P.underlying t with
  | some .string=>some (.lenstr,[A0j G x])
  | some (.slice _)=>some (.lensl,[A0j G x])
  | _=>none
 | .call ⟨.builtin .min,⟨[x,y]⟩,_⟩=>some (.min,[A0j G x,A0j G y])
 | .call ⟨.builtin .max,⟨[x,y]⟩,_⟩=>some (.max,[A0j G x,A0j G y])
 | .call ⟨.value (.func f),args,ts⟩=>if ts.toList.any (refT P)||hot.contains f then some (.hcall f,args.toList.map (A0j G))else some (.call f,args.toList.map (A0j G))
 | .call ⟨.value x,args,_⟩=>some (.callv,A0j G x::args.toList.map (A0j G))
 | _=>some (.bad,[])
theorem B3t (G:A0u) (s:A0b) (parts:List (Nat×Operand)):(parts.map (·.1)).zip ((parts.map fun p=>A0j G p.2).map (·.ev s.env))=parts.map fun p=>(p.1,s.ev G p.2):=by
 induction parts with
 | nil=>rfl
 | cons p r ih=>simp only[List.map_cons,List.zip_cons_cons,ih,A5l]
theorem A0m {α β:Type} {x:Option α} {f:α->β} {y:β} (h:x.map f=some y):∃a,x=some a/\f a=y:=by
 cases x with
 | none=>cases h
 | some a=>exact⟨a,rfl,by simpa using h⟩
theorem C8a {P:Program} {G:A0u} {Φ:A0v} {s:A0b} {o:Op} {k:MK} {xs:List Opd} {q:PV×Heap×Nat} (hc:D4y P G o=some (k,xs))
  (he:A0e Φ s.H s.nx k (xs.map (·.ev s.env))=some q):valV P G Φ s o=some q:=by
 have ev1:=fun x=>A5l G s x;unfold D4y at hc;split at hc
 ·rename_i x;injection hc with hc;injection hc with h1 h2;subst h1;subst h2;simp only[List.map_cons,List.map_nil,A0e,ev1]at he;simpa[valV,opV,A3d]using he
 ·rename_i x;injection hc with hc;injection hc with h1 h2;subst h1;subst h2;simp only[List.map_cons,List.map_nil,A0e,ev1]at he;simpa[valV,opV,A3d]using he
 ·rename_i c a b;injection hc with hc;injection hc with h1 h2;subst h1;subst h2;simp only[List.map_cons,List.map_nil,A0e,ev1]at he;simp only[valV,opV,A3d];split at he
  ·rename_i t ht;rw[ht];simpa using he
  ·cases he
 ·rename_i op t x y yt;injection hc with hc;injection hc with h1 h2;subst h1;subst h2;simp only[List.map_cons,List.map_nil,A0e,ev1]at he;simp only[valV,opV,A3d];split at he
  ·rename_i a b ha hb;rw[ha,hb];simp only[F3g];split at he
   ·rename_i v hv;rw[hv];simpa using he
   ·rename_i hv;rw[hv];obtain⟨r,hr,rfl⟩:=A0m he;simp[D4n P op t _ y hr]
  ·rename_i hne;obtain⟨r,hr,rfl⟩:=A0m he;have hcm:=D4n P op t _ y hr;split
   ·rename_i a b ha hb;exact absurd hb (hne a b ha)
   ·simp[hcm]
 ·rename_i op t x;injection hc with hc;injection hc with h1 h2;subst h1;subst h2;simp only[List.map_cons,List.map_nil,A0e,ev1]at he;simp only[valV,opV,A3d];split at he
  ·rename_i a ha;rw[ha];obtain⟨v,hv,rfl⟩:=A0m he;simp only[hv,Option.map_some,Option.some.injEq]
  ·cases he
 ·rename_i src dst x;simp only[valV,opV,A3d];split at hc
  ·rename_i d k' hs hd;injection hc with hc;injection hc with h1 h2;subst h1;subst h2;simp only[List.map_cons,List.map_nil,A0e,ev1]at he;obtain⟨r,hr,rfl⟩:=A0m he;unfold convM at hr;split at hr
   ·rename_i n hx;rw[hx];simp only[D7j,hs,hd];simpa using hr
   ·simp at hr
   ·cases hr
  ·rename_i d hs hd;injection hc with hc;injection hc with h1 h2;subst h1;subst h2;simp only[List.map_cons,List.map_nil,A0e,ev1]at he;obtain⟨r,hr,rfl⟩:=A0m he;unfold convM at hr;split at hr
   ·simp at hr
   ·rename_i n hx;rw[hx];simp only[D7j,hs,hd];simpa using hr
   ·cases hr
  ·cases hc
 ·rename_i t a;obtain⟨⟨b,n⟩,hq,h⟩:=A0m hc;injection h with h1 h2;subst h1;subst h2;simp only[List.map_cons,List.map_nil,A0e,ev1]at he;simpa[valV,opV,A3d,D4v hq]using he
 ·rename_i t x f;obtain⟨⟨off,b,n⟩,hq,h⟩:=A0m hc;injection h with h1 h2;subst h1;subst h2;simp only[List.map_cons,List.map_nil,A0e,ev1]at he;simpa[valV,opV,A3d,E2e hq]using he
 ·rename_i t x f;obtain⟨⟨off,b,n⟩,hq,h⟩:=A0m hc;injection h with h1 h2;subst h1;subst h2;simp only[List.map_cons,List.map_nil,A0e,ev1]at he;simpa[valV,opV,A3d,E2f hq]using he
 ·rename_i t x i;split at hc
  ·rename_i e z hz;injection hc with hc;injection hc with h1 h2;subst h1;subst h2;simp only[List.map_cons,List.map_nil,A0e,ev1]at he;obtain⟨r,hr,rfl⟩:=A0m he;simp[valV,opV,A3d,D7x hz hr]
  ·obtain⟨⟨n,z⟩,hq,h⟩:=A0m hc;injection h with h1 h2;subst h1;subst h2;simp only[List.map_cons,List.map_nil,A0e,ev1]at he;obtain⟨r,hr,rfl⟩:=A0m he;simp[valV,opV,A3d,D7y hq hr]
 ·rename_i t x i;split at hc
  ·rename_i hu;injection hc with hc;injection hc with h1 h2;subst h1;subst h2;simp only[List.map_cons,List.map_nil,A0e,ev1]at he;obtain⟨r,hr,rfl⟩:=A0m he;simp[valV,opV,A3d,D7z hu hr]
  ·cases hc
 ·rename_i t x lo hi;split at hc
  ·rename_i hu;injection hc with hc;injection hc with h1 h2;subst h1;subst h2;cases lo<;>cases hi<;>simp only[Option.isSome_none,Option.isSome_some,Option.map_none,Option.map_some,Option.toList_none,Option.toList_some,List.nil_append,List.append_nil,List.cons_append,List.map_cons,List.map_nil,A0e,ev1]at he
   all_goals (obtain⟨r,hr,rfl⟩:=A0m he;simp[valV,opV,A3d,D8a hu hr])
  ·split at hc
   ·rename_i e z hz;injection hc with hc;injection hc with h1 h2;subst h1;subst h2;cases lo<;>cases hi<;>simp only[Option.isSome_none,Option.isSome_some,Option.map_none,Option.map_some,Option.toList_none,Option.toList_some,List.nil_append,List.append_nil,List.cons_append,List.map_cons,List.map_nil,A0e,ev1]at he
    all_goals (obtain⟨r,hr,rfl⟩:=A0m he;simp[valV,opV,A3d,D8b hz hr])
   ·cases hc
 ·rename_i x i;injection hc with hc;injection hc with h1 h2;subst h1;subst h2;simp only[List.map_cons,List.map_nil,A0e,ev1]at he;simpa[valV,opV,A3d]using he
 ·rename_i x;injection hc with hc;injection hc with h1 h2;subst h1;subst h2;simp only[List.map_cons,List.map_nil,A0e,ev1]at he;simp only[valV,opV,A3d];obtain⟨r,hr,rfl⟩:=A0m he;unfold chkM at hr;split at hr
  all_goals (first | (cases hr;done) | (rename_i hx;rw[hx];simpa using hr))
 ·rename_i t a x;obtain⟨⟨b,n⟩,hq,h⟩:=A0m hc;injection h with h1 h2;subst h1;subst h2;simp only[List.map_cons,List.map_nil,A0e,ev1]at he;obtain⟨H',hr,rfl⟩:=A0m he;simp[valV,opV,D8c hq hr]
 ·rename_i t l c;obtain⟨⟨e,n,by',zc⟩,hq,h⟩:=A0m hc;injection h with h1 h2;subst h1;subst h2;simp only[List.map_cons,List.map_nil,A0e,ev1]at he;obtain⟨r,hr,rfl⟩:=A0m he;simp[valV,opV,E2g hq hr]
 ·rename_i t len parts;obtain⟨⟨e,n,by',zc⟩,hq,h⟩:=A0m hc;injection h with h1 h2;subst h1;subst h2;simp only[A0e,B3t]at he;obtain⟨r,hr,rfl⟩:=A0m he
  have:A3a P t len (parts.toList.map fun p=>(p.1,s.ev G p.2)) s.nx=some r:=by
   simp only[A3a,hq];exact hr
  simp[valV,opV,this]
 ·rename_i t parts;split at hc
  ·rename_i n e zc hu hz;obtain⟨i,hq,h⟩:=A0m hc;injection h with h1 h2;subst h1;subst h2;simp only[A0e,B3t]at he;obtain⟨cs,hr,rfl⟩:=A0m he;simp[valV,opV,C2l,C4q,hu,hq,hz,hr]
  ·rename_i fields zc hu hz;obtain⟨places,hq,h⟩:=A0m hc;injection h with h1 h2;subst h1;subst h2;simp only[A0e,B3t]at he;obtain⟨cs,hr,rfl⟩:=A0m he;simp[valV,opV,C2l,C4q,hu,hq,hz,hr]
  ·cases hc
 ·rename_i t x;injection hc with hc;injection hc with h1 h2;subst h1;subst h2;simp only[List.map_cons,List.map_nil,A0e,ev1]at he;simpa[valV,opV]using he
 ·rename_i t;obtain⟨zc,hq,h⟩:=A0m hc;injection h with h1 h2;subst h1;subst h2;simp only[List.map_nil,A0e]at he;simpa[valV,opV,hq]using he
 ·rename_i x y t t';split at hc
  ·rename_i e;subst e;obtain⟨⟨e,n,by',zc⟩,hq,h⟩:=A0m hc;injection h with h1 h2;subst h1;subst h2;simp only[List.map_cons,List.map_nil,A0e,ev1]at he;simp[valV,opV,E9e hq he]
  ·cases hc
 ·rename_i x t;split at hc
  ·rename_i hu;injection hc with hc;injection hc with h1 h2;subst h1;subst h2;simp only[List.map_cons,List.map_nil,A0e,ev1]at he;obtain⟨r,hr,rfl⟩:=A0m he;unfold lenstrM at hr;split at hr
   ·rename_i st hx
    have:lenV P t (s.ev G x)=some r:=by rw[hx];simp only[lenV,hu];exact hr
    simp[valV,opV,A3d,B1p,this]
   ·cases hr
  ·rename_i e hu;injection hc with hc;injection hc with h1 h2;subst h1;subst h2;simp only[List.map_cons,List.map_nil,A0e,ev1]at he;obtain⟨r,hr,rfl⟩:=A0m he;unfold A7k at hr;split at hr
   all_goals (first | (cases hr;done) | skip)
   all_goals
    rename_i hx
    have:lenV P t (s.ev G x)=some r:=by rw[hx];simp only[lenV,hu];exact hr
    simp[valV,opV,A3d,B1p,this]
  ·cases hc
 ·rename_i x y ts;injection hc with hc;injection hc with h1 h2;subst h1;subst h2;simp only[List.map_cons,List.map_nil,A0e,ev1]at he;simpa[valV,opV,A3d,B1p]using he
 ·rename_i x y ts;injection hc with hc;injection hc with h1 h2;subst h1;subst h2;simp only[List.map_cons,List.map_nil,A0e,ev1]at he;simpa[valV,opV,A3d,B1p]using he
 ·rename_i f args ts
  have e:(args.toList.map (A0j G)).map (·.ev s.env)=args.toList.map (s.ev G):=by
   rw[List.map_map];exact List.map_congr_left fun x _=>ev1 x
  split at hc
  ·rename_i hr;injection hc with hc;injection hc with h1 h2;subst h1;subst h2;simp only[A0e,e]at he;simp only[valV,hr,if_true];exact he
  ·rename_i hr;injection hc with hc;injection hc with h1 h2;subst h1;subst h2;simp only[A0e,e]at he;simp only[valV,hr,Bool.false_eq_true,if_false];exact he
 ·rename_i x args ts hne;injection hc with hc;injection hc with h1 h2;subst h1;subst h2
  have e:(args.toList.map (A0j G)).map (·.ev s.env)=args.toList.map (s.ev G):=by
   rw[List.map_map];exact List.map_congr_left fun x _=>ev1 x
  simp only[List.map_cons,A0e,e,ev1]at he;unfold valV;split
  ·rename_i f' a' t' heq;injection heq with heq;injection heq with h1 h2 h3;injection h1 with h1;exact absurd h1 (hne f')
  ·rename_i x' a' t' _ heq;injection heq with heq;injection heq with h1 h2 h3;injection h1 with h1;subst h1;subst h2;exact he
  ·rename_i h1 h2;exact absurd rfl (h2 _ _ _)
 ·injection hc with hc;injection hc with h1 h2;subst h1;subst h2;simp[A0e]at he
def litT:Op->Bool
 | .buildSlice _ len _=>len != 0
 | _=>true
def opK (P:Program) (G:A0u) (d:Bool) (o:Op):MK×List Opd:=
 match extK P G o with
 | some q=>q
 | none=>
 match d&&litT o,o with
 | true,.buildSlice t len parts=>match A3w P t with
  | some q=>(.tslice q.1 q.2.1 q.2.2.2 len (parts.toList.map (·.1)),parts.toList.map fun p=>A0j G p.2)
  | none=>(.bad,[])
 | _,o=>match D4y P G o with
  | some q=>q
  | none=>(.bad,[])
theorem B0g {P:Program} {G:A0u} {B:Nat} {Φ:A0v} {s:A0b} {o:Oper} {d:Bool} {k:MK} {xs:List Opd} (hΦ:Φ.Sound P G) (hc:opK P G d o.op=(k,xs)) {r:PV} {H':Heap} {nx':Nat}
  (he:A0e Φ s.H s.nx k (xs.map (·.ev s.env))=some (r,H',nx')):AOp P G B o s r H' nx':=by
 unfold opK at hc;split at hc
 ·rename_i q hq;subst hc;refine F3p hq ?_;cases k<;>simp only
  case ex e=>
   simp only[A0e]at he;obtain⟨p,hp,e1⟩:=A0m he;exact⟨p,hp,e1.symm⟩
  case hx h=>simpa only[A0e]using he
  all_goals (exact absurd hq (E1y (by simp)))
 split at hc
 ·rename_i t len parts _ ho;split at hc
  ·rename_i q hq;obtain⟨e,n,by',zc⟩:=q;injection hc with h1 h2;subst h1;subst h2;simp only[A0e,B3t]at he;obtain⟨x,hx,e1⟩:=A0m he;injection e1 with e1 e2;injection e2 with e2 e3;subst e1;subst e2;subst e3;unfold A9a at hx;split at hx
   ·rename_i p0 ty cs hb;split at hx
    ·rename_i ts hts;split at hx
     ·rename_i hl;injection hx with hx;subst hx;unfold A3l at hb;split at hb
      ·rename_i hsz;obtain⟨cs',hf,e4⟩:=A0m hb;injection e4 with e4 e5;injection e5 with e5 e6;subst e6
       have hbs:A3a P t len (parts.toList.map fun p=>(p.1,s.ev G p.2)) s.nx=some (.row s.nx 0 len n,.cells e (ts.map .t)):=by
        simp only[A3a,hq];rw[if_pos hsz,hf,<-A5s hts];rfl
       exact E8v hl (B2e ho hbs)
      ·cases hb
     ·cases hx
    ·cases hx
   ·cases hx
  ·injection hc with h1 h2;subst h1;simp[A0e]at he
 ·split at hc
  ·rename_i q hq;subst hc;exact E8y hΦ (C8a hq he)
  ·injection hc with h1 h2;subst h1;simp[A0e]at he
structure Mini where
 dst:Option Nat
 k:MK
 xs:List Opd
 g:Option (Nat×Bool)
def Mini.wants (env:List (Nat×PV)) (m:Mini):Option Bool:=
 match m.g with
 | none=>some true
 | some (d,want)=>match look env d with
  | some (.t (.v (.bool b)))=>some (b==want)
  | some (.t (.v (.tuple _)))=>some false
  | _=>none
def A3y (P:Program) (G:A0u) (N:Nat) (d:Bool) (ops:Array Oper) (o:Oper):Option Mini:=
 match opK P G d o.op with
 | (k,xs)=>if o.dst.all (· < N)then
   (match o.guard with
   | none=>some ⟨o.dst,k,xs,none⟩
   | some (j,want)=>match (ops[j]?).bind (·.dst)with
    | some d=>some ⟨o.dst,k,xs,some (d,want)⟩
    | none=>none)
  else none
theorem A4z {P:Program} {G:A0u} {N:Nat} {d:Bool} {ops:Array Oper} {o:Oper} {m:Mini} (h:A3y P G N d ops o=some m) :
  opK P G d o.op=(m.k,m.xs)/\m.dst=o.dst/\(∀k,o.dst=some k->k<N)/\∀s:A0b,s.wants ops o=m.wants s.env:=by
 unfold A3y at h;split at h;rename_i k xs hc;split at h
 ·rename_i hd
  have hd':∀k,o.dst=some k->k<N:=by
   intro k hk;rw[hk]at hd;simpa using hd
  split at h
  ·rename_i hg;injection h with h;subst h;exact⟨hc,rfl,hd',fun s=>by simp[A0b.wants,Mini.wants,hg]⟩
  ·rename_i j want hg;split at h
   ·rename_i d hdd;injection h with h;subst h;exact⟨hc,rfl,hd',fun s=>by simp only[A0b.wants,Mini.wants,hg,hdd];rfl⟩
   ·cases h
 ·cases h
def C1t (Φ:A0v) (s:A0b) (m:Mini):Option A0b:=
 match m.wants s.env with
 | some true=>match A0e Φ s.H s.nx m.k (m.xs.map (·.ev s.env))with
  | some (r,H',nx')=>some (({ s with H:=H',nx:=nx' }:A0b).put m.dst r)
  | none=>none
 | some false=>some (s.put m.dst (.t (.v undef)))
 | none=>none
def runL (Φ:A0v):List Mini->A0b->Option A0b
 | [],s=>some s
 | m::r,s=>match C1t Φ s m with
  | some s'=>runL Φ r s'
  | none=>none
section
variable {P : Program} {G : A0u} {B N : Nat} {Φ : A0v} {d : Bool} {ops : Array Oper}
def A9b (P:Program) (G:A0u) (N:Nat) (d:Bool) (ops:Array Oper):List Oper->List Mini->Prop
 | [],l=>l=[]
 | o::r,l=>∃m l',l=m::l'/\A3y P G N d ops o=some m/\A9b P G N d ops r l'
theorem A3z:∀{os:List Oper} {l:List Mini},os.mapM (A3y P G N d ops)=some l->A9b P G N d ops os l
 | [],l,h=>by simp at h;simp only[A9b];exact h
 | o::r,l,h=>by
  simp only[List.mapM_cons,Option.bind_eq_bind,Option.pure_def]at h
  cases ho:A3y P G N d ops o with
  | none=>rw[ho]at h;cases h
  | some m=>
   rw[ho]at h
   cases hr:r.mapM (A3y P G N d ops)with
   | none=>rw[hr]at h;cases h
   | some l'=>
    rw[hr]at h;simp only[Option.bind_some,Option.some.injEq]at h;subst h;simp only[A9b];exact⟨m,l',rfl,ho,A3z hr⟩
theorem A9b.at_:∀{os:List Oper} {l:List Mini},A9b P G N d ops os l->∀(i:Nat),(∀o,os[i]?=some o->∃m,l[i]?=some m/\A3y P G N d ops o=some m)/\os.length=l.length
 | [],l,h,i=>by simp only[A9b]at h;subst h;simp
 | o::r,l,h,i=>by
  simp only[A9b]at h;obtain⟨m,l',rfl,hm,hr⟩:=h;refine⟨fun o' ho'=>?_,by simp[(A9b.at_ hr 0).2]⟩
  cases i with
  | zero=>simp only[List.getElem?_cons_zero,Option.some.injEq]at ho';subst ho';exact⟨m,by simp,hm⟩
  | succ i=>simpa using (A9b.at_ hr i).1 o' (by simpa using ho')
theorem B5j (hΦ:Φ.Sound P G) {Q:A0b->Prop}:∀(os:List Oper) {l:List Mini} {s s':A0b},A9b P G N d ops os l->s.n=N->runL Φ l s=some s'->Q s'->AOps P G B ops os Q s
 | [],l,s,s',ha,hn,h,hq=>by
  simp only[A9b]at ha;subst ha;simp only[runL,Option.some.injEq]at h;subst h;exact D4i hq
 | o::rest,l,s,s',ha,hn,h,hq=>by
  simp only[A9b]at ha;obtain⟨m,l',rfl,hm,hr⟩:=ha;obtain⟨hc,hdst,hd,hw⟩:=A4z hm;simp only[runL]at h;split at h
  ·rename_i s1 h1;unfold C1t at h1;rw[<-hw s]at h1
   have hd':∀k,o.dst=some k->k<s.n:=fun k hk=>by rw[hn];exact hd k hk
   rw[hdst]at h1;split at h1
   ·rename_i hww;split at h1
    ·rename_i r H' nx' hv;injection h1 with h1;subst h1;exact C7g hww hd' (B0g hΦ hc hv) (B5j hΦ rest hr (by rw[B2m];exact hn) h hq)
    ·cases h1
   ·rename_i hww;injection h1 with h1;subst h1;exact C7h hww hd' (B5j hΦ rest hr (by rw[B2m];exact hn) h hq)
   ·cases h1
  ·cases h
def A0l:MK->Bool
 | .store _ | .make _ _ _ _ | .bslice _ _ _ _ _ | .box _ | .alloc _ _ | .app _ _ _ | .hcall _ | .callv | .hx _=>false
 | _=>true
def A1z (Φ:A0v) (H:Heap) (nx:Nat) (k:MK) (ps:List PV):Option PV:=
 if A0l k then
  (match k with
  | .call f=>match toTs H ps with
   | some (targs,F)=>match Φ f targs with
    | some r=>if F.isEmpty||A4r r then some (.t r)else none
    | none=>none
   | none=>none
  | k=>(A0e Φ H nx k ps).map (·.1))
 else none
theorem B9g {H:Heap} {nx:Nat} {k:MK} {ps:List PV} {r:PV} (h:A1z Φ H nx k ps=some r):A0e Φ H nx k ps=some (r,H,nx):=by
 unfold A1z at h;split at h
 ·rename_i hk;split at h
  ·rename_i f;split at h
   ·rename_i targs F hT;split at h
    ·rename_i q hq;split at h
     ·rename_i hp;injection h with h;subst h;simp only[A0e,hT,hq]
      cases hF:F.isEmpty with
      | true=>simp
      | false=>
       rw[hF]at hp;simp only[Bool.false_or]at hp;simp[hp]
     ·cases h
    ·cases h
   ·cases h
  ·rename_i hnc;obtain⟨q,hq,rfl⟩:=A0m h;rw[hq];congr 1;unfold A0e at hq;split at hq
   all_goals (first
    | (simp[A0l]at hk;done)
    | (exact absurd rfl (hnc _))
    | (cases hq;done)
    | (injection hq with hq;rw[<-hq];done)
    | (obtain⟨a,_,rfl⟩:=A0m hq;rfl)
    | skip)
   ·split at hq
    ·injection hq with hq;rw[<-hq]
    ·cases hq
   ·split at hq
    ·split at hq
     ·injection hq with hq;rw[<-hq]
     ·obtain⟨a,_,rfl⟩:=A0m hq;rfl
    ·obtain⟨a,_,rfl⟩:=A0m hq;rfl
   ·split at hq
    ·obtain⟨a,_,rfl⟩:=A0m hq;rfl
    ·cases hq
 ·cases h
def Mini.eyes (m:Mini):List Nat:=
 (m.xs.filterMap fun | .tmp t=>some t | _=>none)++(match m.g with | some (d,_)=>[d] | none=>[])
def A0b.only (s:A0b) (ts:List Nat):A0b:={ s with env:=ts.filterMap fun t=>(look s.env t).map fun p=>(t,p) }
theorem B0h (s:A0b):∀(ts:List Nat) (t:Nat),look (s.only ts).env t=if t∈ts then look s.env t else none
 | [],t=>by simp[A0b.only,look]
 | u::ts,t=>by
  have ih:=B0h s ts t;simp only[A0b.only]at ih ⊢;simp only[List.filterMap_cons]
  cases hu:look s.env u with
  | none=>
   simp only[Option.map_none,ih];by_cases e:t=u
   ·subst e;simp[hu]
   ·simp[e]
  | some p=>
   simp only[Option.map_some,look];by_cases e:u=t
   ·subst e;simp[hu]
   ·rw[if_neg e,ih];simp[Ne.symm e]
theorem E2h (s:A0b) (m:Mini) (ts:List Nat) (h:∀t∈m.eyes,t∈ts):m.xs.map (·.ev (s.only ts).env)=m.xs.map (·.ev s.env):=by
 refine List.map_congr_left fun x hx=>?_
 cases x with
 | tmp t=>
  have:t∈m.eyes:=by
   unfold Mini.eyes;exact List.mem_append_left _ (List.mem_filterMap.2 ⟨.tmp t,hx,rfl⟩)
  simp only[Opd.ev,B0h,if_pos (h t this)]
 | k p=>rfl
theorem C2q (s:A0b) (m:Mini) (ts:List Nat) (h:∀t∈m.eyes,t∈ts):m.wants (s.only ts).env=m.wants s.env:=by
 unfold Mini.wants
 cases hg:m.g with
 | none=>rfl
 | some q=>
  obtain⟨d,want⟩:=q
  have:d∈m.eyes:=by unfold Mini.eyes;rw[hg];simp
  simp only[B0h,if_pos (h d this)]
def valQ (Φ:A0v) (s:A0b) (m:Mini):Option PV:=
 match m.wants s.env with
 | some true=>A1z Φ s.H s.nx m.k (m.xs.map (·.ev s.env))
 | some false=>some (.t (.v undef))
 | none=>none
def B3u:MK->Bool
 | .load _ _ | .call _=>false
 | k=>A0l k
def B0i:MK->Bool
 | .make _ _ _ _ | .bslice _ _ _ _ _ | .box _ | .alloc _ _=>true
 | _=>false
def E2i (Φ:A0v) (s:A0b) (m:Mini):Option A0b:=
 if A0l m.k then
  (match valQ Φ s m with
  | some v=>some (s.put m.dst v)
  | none=>none)
 else C1t Φ s m
def runD (Φ:A0v):List Mini->A0b->Option A0b
 | [],s=>some s
 | m::r,s=>match E2i Φ s m with
  | some s'=>runD Φ r s'
  | none=>none
def C2r:MK->Bool
 | .make _ _ _ _ | .alloc _ _=>true
 | _=>false
def A4k (A:List Nat) (pa k:Nat) (R:List (Nat×Nat)) (p p':Nat) (x y:Nat×Mini):Bool:=
 (A0l x.2.k&&(A0l y.2.k||B3u x.2.k||B0i y.2.k||R.contains (p,p'))||(A.getD y.1 0).testBit x.1||decide (pa<=p)&&decide (p'<pa+k)) &&
 ((match x.2.dst with
  | some d=>!(y.2.eyes.contains d)
  | none=>true)||(A.getD y.1 0).testBit x.1 && !(decide (pa<=p)&&decide (p'<pa+k))) &&
 ((match y.2.dst with
  | some d=>!(x.2.eyes.contains d)
  | none=>true)||(A.getD y.1 0).testBit x.1) &&
 (match x.2.dst with
  | some d=>y.2.dst != some d
  | none=>true)
def B3v (A:List Nat) (pa k:Nat) (R:List (Nat×Nat)):Nat->List (Nat×Mini)->Bool
 | _,[]=>true
 | p,x::r=>(r.zipIdx (p+1)).all (fun y=>A4k A pa k R p y.2 x y.1)&&B3v A pa k R (p+1) r
def A1x (l:List Mini) (π:List Nat):List (Nat×Mini):=π.filterMap fun i=>(l[i]?).map fun m=>(i,m)
def C4u (ops:Array Oper) (l:List Mini) (π:List Nat) (pa k:Nat) (R:List (Nat×Nat)):Bool:=
 (ops.toList.zipIdx.all fun p=>p.1.after.toList.all fun e=>decide (e.on<p.2) || !Region.binds .any e) &&
 ((A1x l π).length==l.length)&&((List.range l.length).all fun i=>π.contains i)&&decide (π.Nodup) &&
 B3v (ancs ops.toList []) pa k R 0 (A1x l π)&&decide (pa+k<=l.length) &&
 (((A1x l π).drop pa).take k).all fun x=>C2r x.2.k&&x.2.g.isNone
inductive GI where
 | o (m:Mini) (kp:Bool) (ag:List Nat)
 | g (j:Nat) (m:Mini)
def GI.mini:GI->Mini
 | .o m _ _=>m
 | .g _ m=>m
abbrev Pend:=List (Nat×MK×List PV×PV)
def agnP (Φ:A0v) (pd:Pend) (H:Heap) (nx:Nat) (ks:List Nat):Prop:=∀i∈ks,∃x,look pd i=some x/\A1z Φ H nx x.1 x.2.1=some x.2.2
def valD (Φ:A0v) (s:A0b) (m:Mini):Option (PV×Heap×Nat):=
 if A0l m.k then(valQ Φ s m).map fun v=>(v,s.H,s.nx)
 else match m.wants s.env with
  | some true=>A0e Φ s.H s.nx m.k (m.xs.map (·.ev s.env))
  | some false=>some (.t (.v undef),s.H,s.nx)
  | none=>none
def B2o (kp:Bool) (n:Nat) (m:Mini) (s:A0b) (v:PV) (pd:Pend):Pend:=if kp then(n,m.k,m.xs.map (·.ev s.env),v)::pd else pd
open Classical in
noncomputable def runG (Φ:A0v) (k:Nat):Nat->Nat->Pend->List GI->A0b->Option A0b
 | _,_,_,[],s=>some s
 | n,b,pd,.o m kp ag::r,s=>match valD Φ s m with
  | some (v,H',nx')=>if agnP Φ pd H' nx' ag then runG Φ k (n+1) b (B2o kp n m s v pd) r (({ s with H:=H',nx:=nx' }:A0b).put m.dst v)else none
  | none=>none
 | n,b,pd,.g j m::r,s=>match A0e Φ s.H ((if j=0 then s.nx else b)+k+j) m.k (m.xs.map (·.ev s.env))with
  | some (v,H',_)=>runG Φ k (n+1) (if j=0 then s.nx else b) pd r (({ s with H:=H',nx:=(if j=0 then s.nx else b)+2*k }:A0b).put m.dst v)
  | none=>none
def B9h (pa k:Nat) (R:List (Nat×Nat)) (l:List GI):Bool:=
 (l.zipIdx.all fun x=>match x.1 with
  | .o _ _ _=>decide (x.2<pa)||decide (pa+k<=x.2)
  | .g j _=>decide (pa<=x.2)&&decide (x.2<pa+k)&&(x.2==pa+j)) &&
 R.all fun r=>match l[r.2]? with
  | some (.o _ _ ag)=>ag.contains r.1
  | _=>false
def F3q (q:List (Nat×Mini)):Nat×Nat:=
 let free:=fun x:Nat×Mini=>C2r x.2.k&&x.2.g.isNone
 let pa:=q.findIdx free
 (if pa<q.length then pa else 0,((q.drop pa).takeWhile free).length)
def F3r (A:List Nat) (q:List (Nat×Mini)):List (Nat×Nat):=
 q.zipIdx.flatMap fun y=>if A0l y.1.2.k||B0i y.1.2.k then []else
  (q.zipIdx.filter fun x=>decide (x.2<y.2)&&A0l x.1.2.k && !B3u x.1.2.k && !(A.getD y.1.1 0).testBit x.1.1).map fun x=>(x.2,y.2)
def D1p (pa k:Nat) (R:List (Nat×Nat)) (q:List (Nat×Mini)):List GI:=
 q.zipIdx.map fun x=>if pa<=x.2/\x.2<pa+k then .g (x.2-pa) x.1.2 else .o x.1.2 (R.any fun r=>r.1==x.2) ((R.filter fun r=>r.2==x.2).map Prod.fst)
end
end Go.Abs
