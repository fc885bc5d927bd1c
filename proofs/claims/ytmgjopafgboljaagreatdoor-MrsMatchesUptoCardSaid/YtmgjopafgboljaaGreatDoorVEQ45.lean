/- Auxiliary facts. -/
import Derived.Test.YtmgjopafgboljaaGreatDoorVEQ42
import Derived.Lib.ItoaLen
set_option linter.unusedSimpArgs false
set_option maxRecDepth 100000
set_option maxHeartbeats 0
set_option linter.unusedVariables false
namespace Go.Proofs.YtmgjopafgboljaaGreatDoor
open Go Go.Abs
variable {q : Gl}
noncomputable def gDec:List T->Option T
 | [.v (.int .i64 n)]=>open Classical in if -9223372036854775808<=n/\n<=9223372036854775807 then some (sv (bs (Lib.itoa n)))else none
 | _=>none
theorem hDec:GOK Tryz.prog (G q) 53 gDec:=fun args r hr=>by
 unfold gDec at hr;split at hr
 ·split at hr
  ·rename_i h;injection hr with hr;subst hr;exact D1g _ h
  ·cases hr
 ·cases hr
theorem E9j {n:Int} (h:-9223372036854775808<=n/\n<=9223372036854775807):gDec [iv n]=some (sv (ob (Lib.itoa n))):=by
 show(if _ then _ else _)=_;rw[if_pos h]
theorem sadd {a b c:ByteArray} (h:wb a++wb b=wb c) (hl:(wb c).length<=1000000000000) (Φ:A0u) (H:Heap) (nx:Nat):A0i Φ H nx (.bin false .add none) [.t (.v (.string a)),.t (.v (.string b))]=some (.t (.v (.string c)),H,nx):=by
 have e:a++b=c:=by
  apply ByteArray.ext;apply Array.ext';rw[ByteArray.data_append,Array.toList_append];exact h
 have ha:a.size=(wb a).length:=rfl;have hb:b.size=(wb b).length:=rfl;have hc:=congrArg List.length h;rw[List.length_append]at hc;rw[C4v _ _ _ _ (by omega),e]
theorem A2t (A B:List UInt8) {b:ByteArray} (hb:b=ob B) (hl:A.length+B.length<=1000000000000):∃S,S=A++B/\S.length=A.length+B.length /\
  ∀(Φ:A0u) (H:Heap) (nx:Nat),A0i Φ H nx (.bin false .add none) [.t (.v (.string (ob A))),.t (.v (.string b))]=some (.t (.v (.string (ob S))),H,nx):=by
 subst hb;exact⟨A++B,rfl,List.length_append,sadd (by rw[A3o,A3o,A3o]) (by rw[A3o,List.length_append];omega)⟩
theorem B2y {sep:List UInt8} {k:Nat}:∀{l:List (List UInt8)},(∀x∈l,x.length<=k)->(sepL sep l).length<=l.length*(k+sep.length)
 | [],_=>by simp[sepL]
 | [x],h=>by
  have:=h x (by simp);simp only[sepL,List.length_singleton];omega
 | x::y::r,h=>by
  have h1:=h x (by simp);have h2:=B2y (sep:=sep) (l:=y::r) (fun z hz=>h z (by simp[hz]));rw[A7s,List.length_append,List.length_append,List.length_cons (a:=x),Nat.succ_mul];omega
theorem E9k (sep:List UInt8) (l:List (List UInt8)):Lib.join l sep=sepL sep l:=by
 cases l with
 | nil=>rfl
 | cons x r=>
  rw[Lib.join_cons]
  induction r generalizing x with
  | nil=>simp[Lib.joinTail,sepL]
  | cons y r ih=>
   rw[A7s,<-ih y];simp[Lib.joinTail]
theorem E0m {t:T} {l:List ByteArray} (h:IsS eStr t l) (sep:ByteArray) (hl:l.length<=1000) (hd:(sepL (wb sep) (l.map wb)).length<=1000000000):gJo [t,sv sep]=some (sv (ob (sepL (wb sep) (l.map wb)))):=by
 have e:Lib.join (l.map (·.data.toList)) sep.data.toList=sepL (wb sep) (l.map wb):=E9k _ _;show g2 _ _ _ _=_;rw[C6w (τ:=tSl eStr) (σ:=tStr) (x:=l) (y:=sep) h rfl,e,if_pos ⟨hl,hd⟩]
theorem B9w {H:Heap} {b:Nat} {l:List ByteArray} (h:A0z eStr tyS H b l) (s:ByteArray):toTs H [rowP eStr b l,.t (.v (.string s))]=some ([A1a eStr l,sv s],C6x b l++([]++[])):=by
 rw[toTs,h.toT];rfl
theorem G1p {m:Mr} (h:A7q A0h m) {v:Int} (hv:inR m.vars.length v):(wM m v).length<=22:=by
 have h1:=hv.1;have h2:=hv.2;have h3:=h.vars;unfold wM;rw[List.length_append];have h4:=Lib.itoa_length_le v (by omega) (by omega)
 obtain⟨k,rfl⟩:∃k:Nat,v=(k:Int):=⟨v.toNat,by omega⟩
 have hm:=List.mem_of_getElem? (B5x (l:=m.vars) (k:=k) (by omega));obtain⟨c,hc,_⟩:=B1v (h.sorts _ hm);rw[hc];show 1+_<=22;omega
theorem B6c {big:Bool} {s:ByteArray} (h:A0h big s=true):(wb s).length<=32:=by
 unfold A0h at h;split at h
 ·cases h
 ·simp only[Bool.and_eq_true,decide_eq_true_eq]at h;exact h.1.1.1
theorem E9l:FnOK Tryz.prog (G q) 52 2 12 B0c [(.tmp 3)]:=by
 obtain⟨fn,h1,h2,h3,h4,h5⟩:=C7q (q:=q);exact⟨fn,h1,h2,h3,h4,by omega⟩
noncomputable def hNm (m:Mr) (X:Row) (ps:List PV) (H:Heap) (nx:Nat):Option (PV×Heap×Nat):=
 match ps with
 | [.t (.v (.int .i64 v)),.ptr 0 0]=>open Classical in if Abs.look H 0=some X/\inR m.vars.length v then some (.t (sv (ob (wM m v))),H,nx)else none
 | _=>none
theorem C5y {m:Mr} {X:Row} {H:Heap} {v:Int} (h:Abs.look H 0=some X) (hv:inR m.vars.length v) (nx:Nat):hNm m X [.t (.v (.int .i64 v)),.ptr 0 0] H nx=some (.t (sv (ob (wM m v))),H,nx):=by
 unfold hNm;exact if_pos ⟨h,hv⟩
theorem G1q {m:Mr} {tv tr tc:T} {X:Row} (hX:X=mRow [iv m.top,iv m.index,tv,tr,tc]) (hv:IsS eStr tv m.vars) (hs:m.vars.length<=100000) (hl:∀v,inR m.vars.length v->(wM m v).length<=1000000000):HOK Tryz.prog (G q) 52 (hNm m X) where
 call:=fun ps H nx r H' nx' hr=>by
  unfold hNm at hr;split at hr
  ·rename_i v;split at hr
   ·rename_i h;injection hr with hr;injection hr with h1 h2;injection h2 with h2 h3;subst h1;subst h2;subst h3;obtain⟨h0,hin⟩:=h;have zx:=ldM (H:=H) (k:=0) (by rw[h0,hX]);have hw:=hl v hin
    obtain⟨k,rfl⟩:∃k:Nat,v=(k:Int):=⟨v.toNat,by have:=hin.1;omega⟩
    have hkl:k<m.vars.length:=by have:=hin.2;omega
    have i1:=hv.iaddr (B5x hkl) .i64;have hz:eStr.z=1:=rfl;rw[hz,show eStr.enc (vS m.vars (k:Int))=[sv (vS m.vars (k:Int))]from rfl]at i1;have eD:gDec [iv (k:Int)]=_:=E9j (n:=(k:Int)) (by omega);have sa:=sadd (a:=vS m.vars (k:Int)) (b:=ob (Lib.itoa (k:Int))) (c:=ob (wM m (k:Int))) (by rw[A3o,A3o];rfl) (by rw[A3o];omega);have C:Ctx Tryz.prog (G q) _:=(A0s.cons (hDec (q:=q)) .nil).ctx mixed;refine E9l.callP rfl ?_;(conv in B0c=>cbv);refine A0a C ?_;simp -implicitDefEqProofs;refine A0e C ?_;simp -implicitDefEqProofs [zx.l2,i1,lp,eD,sa];exact B9q (by simp -implicitDefEqProofs)
   ·cases hr
  ·cases hr
 fresh:=fun ps H nx r H' nx' hr hf=>by
  unfold hNm at hr;split at hr
  ·split at hr
   ·injection hr with hr;injection hr with h1 h2;injection h2 with h2 h3;subst h2;subst h3;exact hf
   ·cases hr
  ·cases hr
def A6l (m:Mr) (i:Nat):List ByteArray:=(m.rels.take i).map fun x=>ob (prtE (wM m) x)
def B6d (m:Mr) (i:Nat):List ByteArray:=(m.cons.take i).map fun c=>ob (prtQ (wM m) c)
def B6e (m:Mr) (x:Ep) (j:Nat):List ByteArray:=(x.args.take j).map fun a=>ob (prtA (wM m) a)
theorem E3x {m:Mr} {i:Nat} {x:Ep} (h:m.rels[i]?=some x):A6l m (i+1)=A6l m i++[ob (prtE (wM m) x)]:=by
 unfold A6l;rw[List.take_add_one,h];simp
theorem E3y {m:Mr} {i:Nat} {c:Qq} (h:m.cons[i]?=some c):B6d m (i+1)=B6d m i++[ob (prtQ (wM m) c)]:=by
 unfold B6d;rw[List.take_add_one,h];simp
theorem E3z {m:Mr} {x:Ep} {j:Nat} {a:Ag} (h:x.args[j]?=some a):B6e m x (j+1)=B6e m x j++[ob (prtA (wM m) a)]:=by
 unfold B6e;rw[List.take_add_one,h];simp
theorem E0n (m:Mr) (x:Ep):(B6e m x x.args.length).map wb=x.args.map (prtA (wM m)):=by
 unfold B6e;rw[List.take_length,List.map_map];exact List.map_congr_left fun a _=>A3o _
theorem E0o (m:Mr):(A6l m m.rels.length).map wb=m.rels.map (prtE (wM m)):=by
 unfold A6l;rw[List.take_length,List.map_map];exact List.map_congr_left fun a _=>A3o _
theorem E0p (m:Mr):(B6d m m.cons.length).map wb=m.cons.map (prtQ (wM m)):=by
 unfold B6d;rw[List.take_length,List.map_map];exact List.map_congr_left fun a _=>A3o _
structure Szs (m:Mr):Prop where
 w:∀v,inR m.vars.length v->(wM m v).length<=22
 a:∀x∈m.rels,∀a∈x.args,(prtA (wM m) a).length<=60
 ags:∀x∈m.rels,(sepL [44,32] (x.args.map (prtA (wM m)))).length<=62000
 p:∀x∈m.rels,(wb x.pred).length<=32
 e:∀x∈m.rels,(prtE (wM m) x).length<=63000
 q:∀c∈m.cons,(prtQ (wM m) c).length<=60
 es:(sepL [59,32] (m.rels.map (prtE (wM m)))).length<=1100000
 qs:(sepL [59,32] (m.cons.map (prtQ (wM m)))).length<=1100
theorem szs {m:Mr} (h:A7q A0h m) (hs:SmM m):Szs m:=by
 have w:∀v,inR m.vars.length v->(wM m v).length<=22:=fun v hv=>G1p h hv;have nm:∀x∈m.rels,A0h false x.pred=true/\∀a∈x.args,A0h true a.role=true:=fun x hx=>A9k (h.preds x hx)
 have a:∀x∈m.rels,∀a∈x.args,(prtA (wM m) a).length<=60:=fun x hx a ha=>by
  have h1:=B6c ((nm x hx).2 a ha);have h2:=w a.var (h.ok.rel hx (by simp only[occE,List.mem_cons,List.mem_map];exact .inr ⟨a,ha,rfl⟩));unfold prtA;rw[List.length_append,List.length_cons];omega
 have ags:∀x∈m.rels,(sepL [44,32] (x.args.map (prtA (wM m)))).length<=62000:=fun x hx=>by
  have h1:=B2y (sep:=[44,32]) (k:=60) (l:=x.args.map (prtA (wM m))) (fun y hy=>by
   obtain⟨b,hb,rfl⟩:=List.mem_map.1 hy
   exact a x hx b hb)
  have h2:=hs.args x hx;rw[List.length_map]at h1;simp only[List.length_cons,List.length_nil]at h1;have:x.args.length*(60+(0+1+1))<=1000*(60+(0+1+1)):=Nat.mul_le_mul_right _ h2;omega
 have p:∀x∈m.rels,(wb x.pred).length<=32:=fun x hx=>B6c (nm x hx).1
 have e:∀x∈m.rels,(prtE (wM m) x).length<=63000:=fun x hx=>by
  have h1:=w x.label (h.ok.rel hx (by simp[occE]));have h2:=p x hx;have h3:=ags x hx;unfold prtE;simp only[List.length_append,List.length_cons,List.length_nil];omega
 have qq:∀c∈m.cons,(prtQ (wM m) c).length<=60:=fun c hc=>by
  have h1:=w c.high (h.ok.con hc (by simp[occC]));have h2:=w c.low (h.ok.con hc (by simp[occC]));unfold prtQ;simp only[List.length_append,List.length_cons,List.length_nil];omega
 have hr:=h.rels;have hc:=h.cons;refine⟨w,a,ags,p,e,qq,?_,?_⟩
 ·have h1:=B2y (sep:=[59,32]) (k:=63000) (l:=m.rels.map (prtE (wM m))) (fun y hy=>by
   obtain⟨b,hb,rfl⟩:=List.mem_map.1 hy
   exact e b hb)
  rw[List.length_map]at h1;simp only[List.length_cons,List.length_nil]at h1;have:m.rels.length*(63000+(0+1+1))<=16*(63000+(0+1+1)):=Nat.mul_le_mul_right _ hr;omega
 ·have h1:=B2y (sep:=[59,32]) (k:=60) (l:=m.cons.map (prtQ (wM m))) (fun y hy=>by
   obtain⟨b,hb,rfl⟩:=List.mem_map.1 hy
   exact qq b hb)
  rw[List.length_map]at h1;simp only[List.length_cons,List.length_nil]at h1;have:m.cons.length*(60+(0+1+1))<=16*(60+(0+1+1)):=Nat.mul_le_mul_right _ hc;omega
structure PrS (X:Row) (A R C:List ByteArray) (H:Heap) (nx ba br bc:Nat):Prop where
 x:Abs.look H 0=some X
 ra:A0z eStr tyS H ba A
 rr:A0z eStr tyS H br R
 rc:A0z eStr tyS H bc C
 a0:0<ba
 al:ba<nx
 r0:0<br
 rl:br<nx
 c0:0<bc
 cl:bc<nx
 ar:ba≠br
 ac:ba≠bc
 rc':br≠bc
section
variable {X : Row} {A R C : List ByteArray} {H H' : Heap} {nx nx' ba br bc : Nat}
theorem PrS.more (h:PrS X A R C H nx ba br bc) (hn:nx<=nx') (hk:∀c,c<nx->Abs.look H' c=Abs.look H c):PrS X A R C H' nx' ba br bc:=by
 have h1:=h.al;have h2:=h.rl;have h3:=h.cl;have h4:=h.a0
 exact⟨by rw[hk 0 (by omega)];exact h.x,h.ra.imp id fun e=>by rw[hk ba h1];exact e,h.rr.imp id fun e=>by rw[hk br h2];exact e,h.rc.imp id fun e=>by rw[hk bc h3];exact e,
  h.a0,by omega,h.r0,by omega,h.c0,by omega,h.ar,h.ac,h.rc'⟩
theorem PrS.setA {A':List ByteArray} (h:PrS X A R C H nx ba br bc) (hk:∀c,c<nx->c≠ba->Abs.look H' c=Abs.look H c) (hr:A0z eStr tyS H' nx A'):PrS X A' R C H' (nx+1) nx br bc:=by
 have h1:=h.al;have h2:=h.rl;have h3:=h.cl;have h4:=h.a0
 exact⟨by rw[hk 0 (by omega) (by omega)];exact h.x,hr,h.rr.imp id fun e=>by rw[hk br h2 h.ar.symm];exact e,h.rc.imp id fun e=>by rw[hk bc h3 h.ac.symm];exact e,
  by omega,by omega,h.r0,by omega,h.c0,by omega,by omega,by omega,h.rc'⟩
theorem PrS.setR {R':List ByteArray} (h:PrS X A R C H nx ba br bc) (hk:∀c,c<nx->c≠br->Abs.look H' c=Abs.look H c) (hr:A0z eStr tyS H' nx R'):PrS X A R' C H' (nx+1) ba nx bc:=by
 have h1:=h.al;have h2:=h.rl;have h3:=h.cl;have h4:=h.a0;have h5:=h.r0
 exact⟨by rw[hk 0 (by omega) (by omega)];exact h.x,h.ra.imp id fun e=>by rw[hk ba h1 h.ar];exact e,hr,h.rc.imp id fun e=>by rw[hk bc h3 h.rc'.symm];exact e,
  h.a0,by omega,by omega,by omega,h.c0,by omega,by omega,h.ac,by omega⟩
theorem PrS.setC {C':List ByteArray} (h:PrS X A R C H nx ba br bc) (hk:∀c,c<nx->c≠bc->Abs.look H' c=Abs.look H c) (hr:A0z eStr tyS H' nx C'):PrS X A R C' H' (nx+1) ba br nx:=by
 have h1:=h.al;have h2:=h.rl;have h3:=h.cl;have h4:=h.a0;have h5:=h.c0
 exact⟨by rw[hk 0 (by omega) (by omega)];exact h.x,h.ra.imp id fun e=>by rw[hk ba h1 h.ac];exact e,h.rr.imp id fun e=>by rw[hk br h2 h.rc'];exact e,hr,
  h.a0,by omega,h.r0,by omega,by omega,by omega,h.ar,by omega,by omega⟩
theorem PrS.noA (h:PrS X A R C H nx ba br bc):PrS X [] R C H nx ba br bc:=⟨h.x,.inl rfl,h.rr,h.rc,h.a0,h.al,h.r0,h.rl,h.c0,h.cl,h.ar,h.ac,h.rc'⟩
end
structure PrV where
 H:Heap
 nx:Nat
 ba:Nat
 br:Nat
 bc:Nat
 i:Nat
abbrev fnP:PV:=.fn (.func 52) [] [.ptr 0 0]
theorem mkP (f:Fn):exM (.mkf f 0) [.ptr 0 0]=some (.fn f [] [.ptr 0 0]):=rfl
def SPw (m:Mr) (tr:T) (n:Nat) (a:PrV):A0c:=⟨[(17,.t (iv (a.i:Int))),(16,.t (iv (n:Int))),(15,.t tr),(5,.t nilS),(4,rowP eStr a.br (A6l m a.i)),(3,fnP),(1,.ptr 0 0)],a.H,a.nx,97⟩
def SPq (m:Mr) (tc:T) (n:Nat) (a:PrV):A0c:=⟨[(60,.t (iv (a.i:Int))),(59,.t (iv (n:Int))),(58,.t tc),(5,rowP eStr a.bc (B6d m a.i)),(4,rowP eStr a.br (A6l m m.rels.length)),(3,fnP),(1,.ptr 0 0)],a.H,a.nx,97⟩
def SPa (m:Mr) (x:Ep) (tr ta:T) (n k i kx:Nat) (a:PrV):A0c:=⟨[(24,.t (iv (a.i:Int))),(23,.t (iv (k:Int))),(22,.t ta),(8,rowP eStr a.ba (B6e m x a.i)),(7,.ptr kx 0),(17,.t (iv (i:Int))),(16,.t (iv (n:Int))),(15,.t tr),(5,.t nilS),(4,rowP eStr a.br (A6l m i)),(3,fnP),(1,.ptr 0 0)],a.H,a.nx,97⟩
theorem E9m (x:ByteArray):A5c tyS 1 [.string ⟨#[]⟩] 1 [(0,.t (.v (.string x)))]=some (.t (.sl 1 [sv x])):=rfl
theorem B4m {m:Mr} {cs:List T} (hm:IsMr m cs) (hs:SmM m) (hL:A7q A0h m):A1d Tryz.prog (G q) 26 [.ag cs] (· = sv (ob (prtM m))):=by
 have Z:=szs hL hs;have ho:=hL.ok;obtain⟨tv,tr,tc,rl,rfl,hv,hr,hrm,hc⟩:=hm
 obtain⟨X,hX⟩:∃X,X=mRow [iv m.top,iv m.index,tv,tr,tc]:=⟨_,rfl⟩
 have ld:∀{H:Heap},Abs.look H 0=some X->LdM (iv m.top) (iv m.index) tv tr tc H 0:=fun h=>ldM (by rw[h,hX]);have lr:=hr.len;have lc:=hc.len
 have hrl:rl.length=m.rels.length:=by rw[<-hrm,List.length_map]
 have hsr:=hs.rels;have hsc:=hs.cons;have cd:=cd5 (iv m.top) (iv m.index) tv tr tc;have C:Ctx Tryz.prog (G q) _:=(A0s.cons (hJo (q:=q)) .nil).ctxH (A0v.cons (G1q (q:=q) hX hv hs.vars fun v h=>Nat.le_trans (Z.w v h) (by omega)) .nil) mixed
 obtain⟨R,hR⟩:∃R,R=prtM m:=⟨_,rfl⟩
 rw[<-hR];refine D5j.call rfl ?_;(conv in C1o=>cbv);refine A0a C ?_;simp -implicitDefEqProofs [cd];rw[show Row.cells 26 [.t (iv m.top),.t (iv m.index),.t tv,.t tr,.t tc]=X from hX.symm];refine A0a C ?_;simp -implicitDefEqProofs [mkP];refine A0a C ?_;simp -implicitDefEqProofs;refine MC.sub (A8j (nx':=4) (by omega)) rfl ?_
 have N0:PrS X [] (A6l m 0) [] [(0,X)] 4 1 2 3:=⟨rfl,.inl rfl,.inl rfl,.inl rfl,by omega,by omega,by omega,by omega,by omega,by omega,by omega,by omega,by omega⟩
 have z0:=ld N0.x;refine A0q (fun a:PrV=>⟨[(5,.t nilS),(4,rowP eStr a.br (A6l m m.rels.length)),(3,fnP),(1,.ptr 0 0)],a.H,a.nx,97⟩) (fun a=>PrS X [] (A6l m m.rels.length) [] a.H a.nx a.ba a.br a.bc) (fun _=>rfl) ?_ ?_
 ·refine A0a C ?_;simp -implicitDefEqProofs [z0.l3,lr];refine A0j ?_;refine A0n (SPw m tr rl.length) (fun a=>m.rels.length-a.i) (fun a=>PrS X [] (A6l m a.i) [] a.H a.nx a.ba a.br a.bc/\a.i<=m.rels.length) ⟨[(0,X)],4,1,2,3,0⟩ (fun _=>rfl) ⟨N0,Nat.zero_le _⟩ ?_ rfl ?_
  ·exact A0d (by simp -implicitDefEqProofs [SPw,A6l,rowP])
  rintro⟨H,nx,ba,br,bc,i⟩ ⟨hN,hi⟩;simp only at hN hi;by_cases hlt:i<rl.length
  ·obtain⟨c,hc1⟩:∃c,rl[i]?=some c:=⟨_,List.getElem?_eq_getElem (by omega)⟩
   have hx:m.rels[i]?=some c.x:=by rw[<-hrm,List.getElem?_map,hc1];rfl
   have hxm:=List.mem_of_getElem? hx;obtain⟨ta,hcs,hta⟩:=c.ok;have la:=hta.len;have hal:=hs.args c.x hxm;have i1:=hr.iaddr hc1 .i64;have hz:eEC.z=3:=rfl;rw[hz,show eEC.enc c=c.cs from rfl,hcs]at i1
   obtain⟨x,hxe⟩:∃x,x=c.x:=⟨_,rfl⟩
   rw[<-hxe]at hx hxm hta la hal i1;have w1:IntKind.i64.wrap ((i:Int)+1)=((i+1:Nat):Int):=A0k (by omega) (by omega);have s3:∀a b d,A0x 3 ((nx,.cells tyE [a,b,d])::H) (.ptr nx 0) (.t (.ag [sv x.pred,iv x.label,ta]))=some ((nx,eRow x.pred x.label ta)::H):=fun a b d=>st3 nx a b d (sv x.pred) (iv x.label) ta tyE H (cd3 _ _ _)
   obtain⟨H1,hH1⟩:∃H1,H1=(nx,eRow x.pred x.label ta)::H:=⟨_,rfl⟩
   rw[<-hH1]at s3
   have x1:Abs.look H1 nx=some (eRow x.pred x.label ta):=by rw[hH1,look_cons,if_pos rfl]
   have M1:PrS X [] (A6l m i) [] H1 (nx+1) ba br bc:=hN.more (by omega) fun c h=>by rw[hH1,look_cons,if_neg (by omega)]
   have ze1:=ldE x1;refine A0a C ?_;simp -implicitDefEqProofs [SPw,hlt];refine A0a C ?_;simp -implicitDefEqProofs;refine A0q (fun a:PrV=>⟨[(17,.t (iv (i:Int))),(16,.t (iv (rl.length:Int))),(15,.t tr),(5,.t nilS),(4,rowP eStr a.br (A6l m (i+1))),(3,fnP),(1,.ptr 0 0)],a.H,a.nx,97⟩) (fun a=>PrS X [] (A6l m (i+1)) [] a.H a.nx a.ba a.br a.bc) (fun _=>rfl) ?_ ?_
   ·refine A0j ?_;refine A0a C ?_;simp -implicitDefEqProofs [i1,l3_c,s3];refine A0a C ?_;simp -implicitDefEqProofs
    refine A0q (fun a:PrV=>⟨[(8,rowP eStr a.ba (B6e m x x.args.length)),(7,.ptr nx 0),(17,.t (iv (i:Int))),(16,.t (iv (rl.length:Int))),(15,.t tr),(5,.t nilS),(4,rowP eStr a.br (A6l m i)),(3,fnP),(1,.ptr 0 0)],a.H,a.nx,97⟩)
     (fun a=>PrS X (B6e m x x.args.length) (A6l m i) [] a.H a.nx a.ba a.br a.bc/\Abs.look a.H nx=some (eRow x.pred x.label ta)) (fun _=>rfl) ?_ ?_
    ·refine A0a C ?_;simp -implicitDefEqProofs [ze1.l2,la];refine A0j ?_
     refine A0n (SPa m x tr ta rl.length x.args.length i nx) (fun a=>x.args.length-a.i) (fun a=>PrS X (B6e m x a.i) (A6l m i) [] a.H a.nx a.ba a.br a.bc/\Abs.look a.H nx=some (eRow x.pred x.label ta)/\nx<a.nx/\a.ba≠nx/\a.i<=x.args.length)
      ⟨H1,nx+1,ba,br,bc,0⟩ (fun _=>rfl) ⟨M1,x1,by show nx<nx+1;omega,by have:=hN.al;show ba≠nx;omega,Nat.zero_le _⟩ ?_ rfl ?_
     ·exact A0d (by simp -implicitDefEqProofs [SPa,B6e,rowP])
     rintro⟨Ha,na,aa,ra,ca,j⟩ ⟨hY,hk,hkn,hba,hj⟩;simp only at hY hk hkn hba hj;by_cases hjl:j<x.args.length
     ·obtain⟨g,hg⟩:∃g,x.args[j]?=some g:=⟨_,List.getElem?_eq_getElem hjl⟩
      have hgm:=List.mem_of_getElem? hg;have i2:=hta.iaddr hg .i64;have hz2:eAg.z=2:=rfl;rw[hz2,show eAg.enc g=[sv g.role,iv g.var]from rfl]at i2;have w2:IntKind.i64.wrap ((j:Int)+1)=((j+1:Nat):Int):=A0k (by omega) (by omega);have t1:∀a b,A0x 2 ((na,.cells tyA [a,b])::Ha) (.ptr na 0) (.t (.ag [sv g.role,iv g.var]))=some ((na,.cells tyA [.t (sv g.role),.t (iv g.var)])::Ha):=fun a b=>st2 na a b _ _ tyA Ha
      obtain⟨Hb,hHb⟩:∃Hb,Hb=(na,Row.cells tyA [.t (sv g.role),.t (iv g.var)])::Ha:=⟨_,rfl⟩
      rw[<-hHb]at t1
      have kb:∀c,c<na->Abs.look Hb c=Abs.look Ha c:=fun c h=>by rw[hHb,look_cons,if_neg (by omega)]
      have lb:=A5m (H:=Hb) (b:=na) (ty:=tyA) (p0:=.t (sv g.role)) (p1:=.t (iv g.var)) (by rw[hHb,look_cons,if_pos rfl]);have Mb:=hY.more (nx':=na+1) (by omega) kb;have gin:=ho.rel hxm (v:=g.var) (by simp only[occE,List.mem_cons,List.mem_map];exact .inr ⟨g,hgm,rfl⟩);have eN:=fun nx'=>C5y (nx:=nx') Mb.x gin;have hsz:=Z.a x hxm g hgm;have hsz0:=hsz;unfold prtA at hsz;rw[List.length_append,List.length_cons]at hsz;have p1:=sadd (a:=g.role) (b:=⟨#[32]⟩) (c:=ob (wb g.role++[32])) (by simp only[A3o,List.append_assoc];try rfl) (by rw[A3o,List.length_append,List.length_singleton];omega);have p2:=sadd (a:=ob (wb g.role++[32])) (b:=ob (wM m g.var)) (c:=ob (prtA (wM m) g)) (by simp only[A3o,prtA,List.append_assoc];try rfl) (by rw[A3o];omega)
      have gl:(B6e m x j).length<=1000:=by unfold B6e;rw[List.length_map,List.length_take];omega
      obtain⟨Hd,ad,bd,cdd,fd⟩:=appT (by':=16) (nx:=na+1) (ob (prtA (wM m) g)) 1 rfl [sv (ob (prtA (wM m) g))] rfl Mb.ra Mb.al (by omega) (by omega);have Md:=Mb.setA cdd bd;have eA:=E3z (m:=m) hg;rw[<-eA]at Md ad;refine A0e C ?_;simp -implicitDefEqProofs [SPa,hjl,i2,A6j,t1,lb.1,lb.2,eN,p1,p2,E9m,ad,w2];refine Abs.Next.mk ⟨Hd,na+1+1,na+1,ra,ca,j+1⟩ ⟨⟨Md,?_,by show nx<na+1+1;omega,by show na+1≠nx;omega,hjl⟩,by show x.args.length-(j+1)<x.args.length-j;omega⟩ (A0d (by simp -implicitDefEqProofs [SPa]));show Abs.look Hd nx=_;rw[cdd nx (by omega) hba.symm,kb nx hkn];exact hk
     ·have ej:j=x.args.length:=by omega
      subst ej;refine A0e C ?_;simp -implicitDefEqProofs [SPa,hjl];exact Abs.Next.mk ⟨Ha,na,aa,ra,ca,0⟩ ⟨hY,hk⟩ (A0d (by simp -implicitDefEqProofs))
    ·rintro⟨Ha,na,aa,ra,ca,_⟩ ⟨hY,hk⟩;simp only at hY hk;have ze:=ldE hk;have gin:=ho.rel hxm (v:=x.label) (by simp[occE]);have eN:=fun nx'=>C5y (nx:=nx') hY.x gin;have hp:=Z.p x hxm;have hw:=Z.w x.label gin;have has:=Z.ags x hxm;have he:=Z.e x hxm;have eT:=B9w hY.ra ⟨#[44,32]⟩;have eJ:=E0m (t:=A1a eStr (B6e m x x.args.length)) (B7i eStr _) ⟨#[44,32]⟩ (by unfold B6e;rw[List.length_map,List.length_take];omega) (by rw[E0n];exact Nat.le_trans has (by omega));rw[E0n,show wb (⟨#[44,32]⟩:ByteArray)=[44,32]from rfl]at eJ
     obtain⟨J,hJ⟩:∃J,J=sepL [44,32] (x.args.map (prtA (wM m))):=⟨_,rfl⟩
     rw[<-hJ]at eJ has
     have hE:prtE (wM m) x=wM m x.label++58::(wb x.pred++40::(J++[41])):=by rw[hJ];rfl
     obtain⟨S1,q1,l1,p1⟩:=A2t (wM m x.label) [58] (b:=⟨#[58]⟩) rfl (by simp only[List.length_singleton];omega);obtain⟨S2,q2,l2,p2⟩:=A2t S1 (wb x.pred) (b:=x.pred) rfl (by simp only[List.length_singleton]at l1;omega);obtain⟨S3,q3,l3,p3⟩:=A2t S2 [40] (b:=⟨#[40]⟩) rfl (by simp only[List.length_singleton]at l1 ⊢;omega);obtain⟨S4,q4,l4,p4⟩:=A2t S3 J (b:=ob J) rfl (by simp only[List.length_singleton]at l1 l3;omega);obtain⟨S5,q5,l5,p5⟩:=A2t S4 [41] (b:=⟨#[41]⟩) rfl (by simp only[List.length_singleton]at l1 l3 ⊢;omega)
     have e5:S5=prtE (wM m) x:=by rw[hE,q5,q4,q3,q2,q1];simp
     rw[e5]at p5
     have rlen:(A6l m i).length<=1000:=by unfold A6l;rw[List.length_map,List.length_take];omega
     obtain⟨Hd,ad,bd,cdd,fd⟩:=appT (by':=16) (nx:=na) (ob (prtE (wM m) x)) 1 rfl [sv (ob (prtE (wM m) x))] rfl hY.rr hY.rl (by omega) (by omega);have Md:=(hY.setR cdd bd).noA;have eR:=E3x (m:=m) hx;rw[<-eR]at Md ad;refine A0e C ?_;simp -implicitDefEqProofs [ze.l0,ze.l1,eN,eT,eJ,p1,p2,p3,p4,p5,E9m,ad,-toTs];exact Abs.Next.mk ⟨Hd,na+1,aa,na,ca,0⟩ Md (A0d (by simp -implicitDefEqProofs))
   ·rintro⟨Ha,na,aa,ra,ca,_⟩ hN';refine A0e C ?_;simp -implicitDefEqProofs [w1];exact Abs.Next.mk ⟨Ha,na,aa,ra,ca,i+1⟩ ⟨⟨hN',by show i+1<=_;omega⟩,by show m.rels.length-(i+1)<m.rels.length-i;omega⟩ (A0d (by simp -implicitDefEqProofs [SPw]))
  ·have ei:i=m.rels.length:=by omega
   refine A0e C ?_;simp -implicitDefEqProofs [SPw,hlt];refine Abs.Next.mk ⟨H,nx,ba,br,bc,i⟩ ?_ (A0d (by simp -implicitDefEqProofs [ei]));rw[<-ei];exact hN
 clear N0 z0;rintro⟨H,nx,ba,br,bc,_⟩ hN;simp only at hN;have z:=ld hN.x;refine A0q (fun a:PrV=>⟨[(5,rowP eStr a.bc (B6d m m.cons.length)),(4,rowP eStr a.br (A6l m m.rels.length)),(3,fnP),(1,.ptr 0 0)],a.H,a.nx,97⟩) (fun a=>PrS X [] (A6l m m.rels.length) (B6d m m.cons.length) a.H a.nx a.ba a.br a.bc) (fun _=>rfl) ?_ ?_
 ·refine A0a C ?_;simp -implicitDefEqProofs [z.l4,lc];refine A0j ?_;refine A0n (SPq m tc m.cons.length) (fun a=>m.cons.length-a.i) (fun a=>PrS X [] (A6l m m.rels.length) (B6d m a.i) a.H a.nx a.ba a.br a.bc/\a.i<=m.cons.length) ⟨H,nx,ba,br,bc,0⟩ (fun _=>rfl) ⟨hN,Nat.zero_le _⟩ ?_ rfl ?_
  ·exact A0d (by simp -implicitDefEqProofs [SPq,B6d,rowP])
  clear hN z;rintro⟨H,nx,ba,br,bc,i⟩ ⟨hN,hi⟩;simp only at hN hi;by_cases hlt:i<m.cons.length
  ·obtain⟨c,hc1⟩:∃c,m.cons[i]?=some c:=⟨_,List.getElem?_eq_getElem (by omega)⟩
   have hcm:=List.mem_of_getElem? hc1;have i1:=hc.iaddr hc1 .i64;have hz:eQq.z=2:=rfl;rw[hz,show eQq.enc c=[iv c.high,iv c.low]from rfl]at i1;have w1:IntKind.i64.wrap ((i:Int)+1)=((i+1:Nat):Int):=A0k (by omega) (by omega);have t1:∀a b,A0x 2 ((nx,.cells tyQ [a,b])::H) (.ptr nx 0) (.t (.ag [iv c.high,iv c.low]))=some ((nx,.cells tyQ [.t (iv c.high),.t (iv c.low)])::H):=fun a b=>st2 nx a b _ _ tyQ H
   obtain⟨H1,hH1⟩:∃H1,H1=(nx,Row.cells tyQ [.t (iv c.high),.t (iv c.low)])::H:=⟨_,rfl⟩
   rw[<-hH1]at t1
   have M1:=hN.more (nx':=nx+1) (H':=H1) (by omega) fun c h=>by rw[hH1,look_cons,if_neg (by omega)]
   have l1:=A5m (H:=H1) (b:=nx) (ty:=tyQ) (p0:=.t (iv c.high)) (p1:=.t (iv c.low)) (by rw[hH1,look_cons,if_pos rfl]);have in1:=ho.con hcm (v:=c.high) (by simp[occC]);have in2:=ho.con hcm (v:=c.low) (by simp[occC]);have eN1:=fun nx'=>C5y (nx:=nx') M1.x in1;have eN2:=fun nx'=>C5y (nx:=nx') M1.x in2;have hw1:=Z.w _ in1;have hw2:=Z.w _ in2;have hq:=Z.q c hcm;obtain⟨S1,q1,l1',p1⟩:=A2t (wM m c.high) [32,113,101,113,32] (b:=⟨#[32,113,101,113,32]⟩) rfl (by simp only[List.length_cons,List.length_nil];omega);simp only[List.length_cons,List.length_nil]at l1';obtain⟨S2,q2,l2,p2⟩:=A2t S1 (wM m c.low) (b:=ob (wM m c.low)) rfl (by omega)
   have e2:S2=prtQ (wM m) c:=by unfold prtQ;rw[q2,q1];simp
   rw[e2]at p2
   have clen:(B6d m i).length<=1000:=by unfold B6d;rw[List.length_map,List.length_take];omega
   obtain⟨Hd,ad,bd,cdd,fd⟩:=appT (by':=16) (nx:=nx+1) (ob (prtQ (wM m) c)) 1 rfl [sv (ob (prtQ (wM m) c))] rfl M1.rc M1.cl (by omega) (by omega);have Md:=M1.setC cdd bd;have eC:=E3y (m:=m) hc1;rw[<-eC]at Md ad;refine A0e C ?_;simp -implicitDefEqProofs [SPq,hlt,i1,A6j,t1,l1.1,l1.2,eN1,eN2,p1,p2,E9m,ad,w1];exact Abs.Next.mk ⟨Hd,nx+1+1,ba,br,nx+1,i+1⟩ ⟨⟨Md,by show i+1<=_;omega⟩,by show m.cons.length-(i+1)<m.cons.length-i;omega⟩ (A0d (by simp -implicitDefEqProofs [SPq]))
  ·have ei:i=m.cons.length:=by omega
   subst ei;refine A0e C ?_;simp -implicitDefEqProofs [SPq,hlt];exact Abs.Next.mk ⟨H,nx,ba,br,bc,0⟩ hN (A0d (by simp -implicitDefEqProofs))
 clear hN z;rintro⟨H,nx,ba,br,bc,_⟩ hN;simp only at hN;have z:=ld hN.x;have eN1:=fun nx'=>C5y (nx:=nx') hN.x ho.top;have eN2:=fun nx'=>C5y (nx:=nx') hN.x ho.index;have hw1:=Z.w _ ho.top;have hw2:=Z.w _ ho.index;have hes:=Z.es;have hqs:=Z.qs;have eT1:=B9w hN.rr ⟨#[59,32]⟩;have eT2:=B9w hN.rc ⟨#[59,32]⟩;have eJ1:=E0m (t:=A1a eStr (A6l m m.rels.length)) (B7i eStr _) ⟨#[59,32]⟩ (by unfold A6l;rw[List.length_map,List.length_take];omega) (by rw[E0o];exact Nat.le_trans hes (by omega));have eJ2:=E0m (t:=A1a eStr (B6d m m.cons.length)) (B7i eStr _) ⟨#[59,32]⟩ (by unfold B6d;rw[List.length_map,List.length_take];omega) (by rw[E0p];exact Nat.le_trans hqs (by omega));rw[E0o,show wb (⟨#[59,32]⟩:ByteArray)=[59,32]from rfl]at eJ1;rw[E0p,show wb (⟨#[59,32]⟩:ByteArray)=[59,32]from rfl]at eJ2
 obtain⟨J1,hJ1⟩:∃J,J=sepL [59,32] (m.rels.map (prtE (wM m))):=⟨_,rfl⟩
 obtain⟨J2,hJ2⟩:∃J,J=sepL [59,32] (m.cons.map (prtQ (wM m))):=⟨_,rfl⟩
 rw[<-hJ1]at eJ1 hes;rw[<-hJ2]at eJ2 hqs
 have hE:R=wM m m.top++32::(wM m m.index++32::123::(J1++125::32::123::(J2++[125]))):=by rw[hR,hJ1,hJ2];rfl
 obtain⟨W1,hW1⟩:∃W,W=wM m m.top:=⟨_,rfl⟩
 obtain⟨W2,hW2⟩:∃W,W=wM m m.index:=⟨_,rfl⟩
 rw[<-hW1]at eN1 hw1 hE;rw[<-hW2]at eN2 hw2 hE;obtain⟨S1,q1,l1,p1⟩:=A2t W1 [32] (b:=⟨#[32]⟩) rfl (by simp only[List.length_singleton];omega);simp only[List.length_cons,List.length_nil]at l1;obtain⟨S2,q2,l2,p2⟩:=A2t S1 W2 (b:=ob W2) rfl (by omega);obtain⟨S3,q3,l3,p3⟩:=A2t S2 [32,123] (b:=⟨#[32,123]⟩) rfl (by simp only[List.length_cons,List.length_nil];omega);simp only[List.length_cons,List.length_nil]at l3;obtain⟨S4,q4,l4,p4⟩:=A2t S3 J1 (b:=ob J1) rfl (by omega);obtain⟨S5,q5,l5,p5⟩:=A2t S4 [125,32,123] (b:=⟨#[125,32,123]⟩) rfl (by simp only[List.length_cons,List.length_nil];omega);simp only[List.length_cons,List.length_nil]at l5;obtain⟨S6,q6,l6,p6⟩:=A2t S5 J2 (b:=ob J2) rfl (by omega);obtain⟨S7,q7,l7,p7⟩:=A2t S6 [125] (b:=⟨#[125]⟩) rfl (by simp only[List.length_cons,List.length_nil];omega)
 have e7:S7=R:=by rw[hE,q7,q6,q5,q4,q3,q2,q1];simp
 rw[e7]at p7;refine A0e C ?_;simp -implicitDefEqProofs [z.l0,z.l1,eN1,eN2,eT1,eT2,eJ1,eJ2,p1,p2,p3,p4,p5,p6,p7,-toTs]
structure MB (a b:Mr) (ca cb:List T):Prop where
 ha:IsMr a ca
 hb:IsMr b cb
 sa:SmM a
 sb:SmM b
 oa:okV a
 ob:okV b
 len:b.vars.length=a.vars.length
section
variable {a b : Mr} {ca cb : List T}
theorem D6k {α:Type} {e:Enc α} {ty b:Nat} {H:Heap} {l:List α} (h:Abs.look H b=some (A0l e ty l)) (x:T):toT H (.tu [.row b 0 l.length e.z,.t x])=some (.tu [slT e l,x],[b]++([]++[])):=by
 rw[toT,toTs,A2s h];rfl
end
def natL (l:List Nat):List Int:=l.map fun k:Nat=>(k:Int)
theorem B9x (l:List Nat):(natL l).length=l.length:=by simp[natL]
section
variable {a b : Mr} {ca cb : List T}
theorem F4a (H:Heap) (x:T):toT H (.t x)=some (x,[]):=by simp
theorem B8v (n:Nat) (x:Int):A1v tyI 1 [.int .i64 0] 1 [(0,.t (.v (.int .i64 x)))] n=some (.row n 0 1 1,.cells tyI [.t (iv x)]):=rfl
end
section
variable {a b : Mr} {ca cb : List T}
theorem C5z {α:Type} {f:Nat->Option α} {n k:Nat} (h:k<n):((List.range n).drop k).findSome? f=(match f k with | some r=>some r | none=>((List.range n).drop (k+1)).findSome? f):=by
 rw[List.drop_eq_getElem_cons (by simpa using h),List.findSome?_cons];simp only[List.getElem_range];cases f k<;>rfl
end
end Go.Proofs.YtmgjopafgboljaaGreatDoor
namespace Go.Abs
open Go
abbrev dgS:ByteArray:=⟨#[48,49,50,51,52,53,54,55,56,57,97,98,99,100,101,102,103,104,105,106,107,108,109,110,111,112,113,114,115,116,117,118,119,120,121,122]⟩
def dgt (n:Nat):UInt8:=dgS.data.toList.getD n 0
theorem G1r:∀n,n<36->dgS.data.toList[n]?=some (dgt n):=by decide
def C4a (u:Nat) (acc:List UInt8):List UInt8:=if h:u<36 then dgt u::acc else C4a (u / 36) (dgt (u%36)::acc)
termination_by u
decreasing_by exact Nat.div_lt_self (by omega) (by omega)
def f36 (u:Nat):ByteArray:=ob (C4a u [])
end Go.Abs
namespace Go.Proofs.YtmgjopafgboljaaGreatDoor
open Go Go.Abs
variable {q : Gl}
abbrev uN (n:Nat):T:=.v (.int .u64 (n:Int))
abbrev u8c (c:UInt8):PV:=.t (.v (.int .u8 (c.toNat:Int)))
theorem F5l {n:Nat} (h:n<36):B8c (.t (.v (.string dgS))) (.t (uN n))=some (u8c (dgt n)):=by
 have h1:(dgS[((n:Int)).toNat]?)=some (dgt n):=by
  have:=G1r n h;rw[Int.toNat_natCast]
  have hl:n<dgS.size:=by show n<36;exact h
  rw[getElem?_pos dgS n hl]
  have h2:dgS.data.toList[n]?=some dgS.data[n]:=by simp
  rw[h2]at this;exact this
 show(if 0<=(n:Int)then(dgS[((n:Int)).toNat]?).map _ else none)=_;rw[if_pos (by omega),h1];rfl
def gP2:List T->Option T
 | [.v (.int .i64 36)]=>some (bv false)
 | _=>none
structure FbC where
 u:Nat
 i:Nat
 D:List UInt8
 pre:List PV
def SFb (c:FbC):A0c:=⟨[(13,.t (iv (c.i:Int))),(17,.t (uN 36)),(12,.ptr 0 0),(10,.t nilS),(4,.t (bv false)),(3,.t (bv false)),(1,.t (uN c.u))],[(0,.cells 201 (c.pre++c.D.map u8c))],1,102⟩
structure OkFb (F:List UInt8) (c:FbC):Prop where
 eq:C4a c.u c.D=F
 pl:c.pre.length=c.i
 il:c.i+c.D.length=65
 lt:c.u<36^(c.i-52)
 i0:53<=c.i
 w:c.u<18446744073709551616
theorem D3d:∀D:List UInt8,A7n (D.map fun c=>T.v (.int .u8 (c.toNat:Int)))=some D
 | []=>rfl
 | c::D=>by
  rw[List.map_cons,A7n,D3d D];simp
theorem F4b {k:Nat} {pre:List PV} (h:pre.length=k+1) (c:PV) (m:List PV):(pre++m).set k c=pre.take k++(c::m):=by
 rw[List.set_append_left _ _ (by omega),List.set_eq_take_append_cons_drop,if_pos (by omega),List.drop_of_length_le (by omega)];simp
theorem E0q {i k:Nat} {pre:List PV} {D:List UInt8} (hk:i=k+1) (hpl:pre.length=i) (ty:Nat) (d:UInt8) :
  A0x 1 [(0,.cells ty (pre++D.map u8c))] (.ptr 0 k) (u8c d)=some [(0,.cells ty (pre.take k++(d::D).map u8c))]:=by
 subst hk;have h:=A1z (H:=[(0,.cells ty (pre++D.map u8c))]) (b:=0) (o:=k) (n:=1) (t:=u8c d) (ns:=[u8c d]) rfl rfl rfl (by rw[List.length_append];omega);rw[h];show some [(0,Row.cells ty ((pre++D.map u8c).set k (u8c d)))]=_;rw[F4b hpl];rfl
theorem E4a (u:Nat) (h:u<18446744073709551616):A1d Tryz.prog (G q) 157 [nilS,uN u,iv 36,bv false,bv false] (· = .tu [nilS,sv (f36 u)]):=by
 have hp:A1d Tryz.prog (G q) 171 [iv 36] (· = bv false):=by
  refine B0r.runs A0g rfl ?_;(conv in A5l=>cbv);simp -implicitDefEqProofs;decide
 have C:Ctx Tryz.prog (G q) _:=(A0s.cons (f:=171) (g:=gP2) (fun args r hr=>by
  unfold gP2 at hr;split at hr
  ·injection hr with hr;subst hr;exact hp
  ·cases hr) .nil).ctx mixed
 have eP2:gP2 [.v (.int .i64 36)]=some (bv false):=rfl
 obtain⟨F,hF⟩:∃F,F=C4a u []:=⟨_,rfl⟩
 have hf:f36 u=ob F:=by rw[hF];rfl
 rw[hf];have w36:IntKind.u64.wrap 36=36:=A7e (by omega) (by omega);refine B3c.call rfl ?_;(conv in A6z=>cbv);refine A0a C ?_;simp -implicitDefEqProofs;refine A0a C ?_;simp -implicitDefEqProofs;refine A0a C ?_;simp -implicitDefEqProofs;refine A0a C ?_;simp -implicitDefEqProofs;refine A0a C ?_;simp -implicitDefEqProofs
 obtain⟨Z,hZ⟩:∃Z:List PV,Z=List.replicate 65 (.t (.v (.int .u8 0))):=⟨_,rfl⟩
 have lZ:Z.length=65:=by rw[hZ];rfl
 have rz:∀ps,[(0,Row.cells 201 ps)]=[(0,Row.cells 201 ps)]:=fun _=>rfl;refine MC.sub (s':=⟨[(13,.t (iv 65)),(12,.ptr 0 0),(10,.t nilS),(4,.t (bv false)),(3,.t (bv false)),(2,.t (iv 36)),(1,.t (uN u)),(0,.t nilS)],[(0,.cells 201 Z)],1,102⟩) (by rw[hZ];exact A0d (by simp -implicitDefEqProofs)) rfl ?_
 refine A0q (fun c:FbC=>⟨[(13,.t (iv (c.i:Int))),(12,.ptr 0 0),(10,.t nilS),(4,.t (bv false)),(3,.t (bv false))],[(0,.cells 201 (c.pre++c.D.map u8c))],1,102⟩)
  (fun c=>c.D=F/\c.pre.length=c.i/\c.i+c.D.length=65/\0<c.D.length) (fun _=>rfl) ?_ ?_
 ·refine A0a C ?_;simp -implicitDefEqProofs [eP2];refine E6j (t:=false) rfl ?_;refine A0a C ?_;simp -implicitDefEqProofs [w36]
  refine A0q (fun c:FbC=>⟨[(13,.t (iv (c.i:Int))),(17,.t (uN 36)),(12,.ptr 0 0),(10,.t nilS),(4,.t (bv false)),(3,.t (bv false)),(1,.t (uN c.u))],[(0,.cells 201 (c.pre++c.D.map u8c))],1,102⟩)
   (fun c=>OkFb F c/\c.u<36) (fun _=>rfl) ?_ ?_
  ·refine A0j ?_;refine A0n SFb (fun c=>c.i) (OkFb F) ⟨u,65,[],Z⟩ (fun _=>rfl) ⟨hF.symm,lZ,rfl,by show u<36^13;exact Nat.lt_of_lt_of_le h (by decide),by show 53<=65;omega,h⟩ ?_ rfl ?_
   ·unfold SFb;simp only[List.map_nil,List.append_nil];exact A0d (by simp -implicitDefEqProofs)
   rintro⟨u,i,D,pre⟩ ⟨heq,hpl,hil,hlt,hi0,hw⟩;simp only at heq hpl hil hlt hi0 hw
   have w1:∀k:Nat,i=k+1->IntKind.i64.wrap ((i:Int)-1)=(k:Int):=fun k hk=>by rw[C6v (by omega) (by omega)];omega
   by_cases hge:36<=u
   ·have hi1:54<=i:=by
     refine Decidable.byContradiction fun hn=>?_
     have:i=53:=by omega
     rw[this]at hlt;simp at hlt;omega
    obtain⟨k,hk⟩:∃k,i=k+1:=⟨i-1,by omega⟩
    have w1:=w1 k hk
    obtain⟨d,hd⟩:∃d,d=u / 36:=⟨_,rfl⟩
    obtain⟨p,hp'⟩:∃p,p=d*36:=⟨_,rfl⟩
    obtain⟨r,hr⟩:∃r,r=u%36:=⟨_,rfl⟩
    have wd:IntKind.u64.wrap ((u:Int) / 36)=(d:Int):=by rw[A7e (by omega) (by omega)];omega
    have wp:IntKind.u64.wrap ((d:Int)*36)=(p:Int):=by rw[A7e (by omega) (by omega)];omega
    have wr:IntKind.u64.wrap ((u:Int)-(p:Int))=(r:Int):=by rw[A7e (by omega) (by omega)];omega
    have ix:=F5l (n:=r) (by omega)
    have aa:B3i 65 1 (.ptr 0 0) (.t (iv (k:Int)))=some (.ptr 0 k):=by
     simp only[B3i];rw[if_pos ⟨by omega,by omega⟩];simp
    have st:=E0q (D:=D) hk hpl 201 (dgt r)
    have hgi:(36:Int)<=(u:Int):=by omega
    refine A0e C ?_;simp -implicitDefEqProofs [SFb,hgi,hge,w1,wd,wp,wr,ix,aa,st];refine Abs.Next.mk ⟨d,k,dgt r::D,pre.take k⟩ ⟨⟨?_,by show(pre.take k).length=k;rw[List.length_take];omega,by show k+(dgt r::D).length=65;rw[List.length_cons];omega,?_,by show 53<=k;omega,by show d<_;omega⟩,by show k<i;omega⟩ (A0d (by simp -implicitDefEqProofs [SFb]))
    ·show C4a d (dgt r::D)=F;rw[<-heq,hd,hr]
     conv=>rhs;rw[C4a]
     rw[dif_neg (by omega)]
    ·show d<36^(k-52);rw[hd];refine(Nat.div_lt_iff_lt_mul (by omega)).2 ?_
     have:36^(k-52)*36=36^(i-52):=by rw[<-Nat.pow_succ];congr 1;omega
     rw[this];exact hlt
   ·have hgi:¬(36:Int)<=(u:Int):=by omega
    refine A0e C ?_;simp -implicitDefEqProofs [SFb,hgi,hge];exact Abs.Next.mk ⟨u,i,D,pre⟩ ⟨⟨heq,hpl,hil,hlt,hi0,hw⟩,by show u<36;omega⟩ (A0d (by simp -implicitDefEqProofs))
  ·rintro⟨u,i,D,pre⟩ ⟨⟨heq,hpl,hil,hlt,hi0,hw⟩,hu⟩;simp only at heq hpl hil hlt hi0 hw hu
   obtain⟨k,hk⟩:∃k,i=k+1:=⟨i-1,by omega⟩
   have w1:IntKind.i64.wrap ((i:Int)-1)=(k:Int):=by rw[C6v (by omega) (by omega)];omega
   have ix:=F5l hu
   have aa:B3i 65 1 (.ptr 0 0) (.t (iv (k:Int)))=some (.ptr 0 k):=by
    simp only[B3i];rw[if_pos ⟨by omega,by omega⟩];simp
   have st:=E0q (D:=D) hk hpl 201 (dgt u);refine A0e C ?_;simp -implicitDefEqProofs [w1,ix,aa,st];refine Abs.Next.mk ⟨0,k,dgt u::D,pre.take k⟩ ⟨?_,by show(pre.take k).length=k;rw[List.length_take];omega,by show k+(dgt u::D).length=65;rw[List.length_cons];omega,by simp⟩ (A0d (by simp -implicitDefEqProofs));show dgt u::D=F;rw[<-heq,C4a,dif_pos hu]
 ·rintro⟨_,i,D,pre⟩ ⟨hD,hpl,hil,hD0⟩;simp only at hD hpl hil hD0;subst hD
  have e1:∀nx,hxM (.slarr 65 1) [(0,.cells 201 (pre++D.map u8c))] nx [.ptr 0 0,.t (iv (i:Int))]=some (.row 0 i (65-i) 1,[(0,.cells 201 (pre++D.map u8c))],nx):=fun nx=>by
   have hl:(pre++D.map u8c).length=65:=by rw[List.length_append,List.length_map];omega
   show(if(pre++D.map u8c).length=65*1/\0<=(i:Int)/\(i:Int)<((65:Nat):Int)then _ else none)=_;rw[if_pos ⟨by omega,by omega,by omega⟩,Int.toNat_natCast,Nat.mul_one]
  have e2:∀nx,hxM .b2s [(0,.cells 201 (pre++D.map u8c))] nx [.row 0 i (65-i) 1]=some (.t (.v (.string (ob D))),[(0,.cells 201 (pre++D.map u8c))],nx):=fun nx=>by
   have hl:(pre++D.map u8c).length=65:=by rw[List.length_append,List.length_map];omega
   have ht:hxM.toTS [(0,.cells 201 (pre++D.map u8c))] (.row 0 i (65-i) 1)=some (D.map fun c=>T.v (.int .u8 (c.toNat:Int))):=by
    show(if 1=1/\i+(65-i)<=(pre++D.map u8c).length then allT (((pre++D.map u8c).drop i).take (65-i))else none)=_;rw[if_pos ⟨rfl,by omega⟩,<-hpl,List.drop_left,List.take_of_length_le (by rw[List.length_map];omega)]
    have:D.map u8c=(D.map fun c=>T.v (.int .u8 (c.toNat:Int))).map PV.t:=by rw[List.map_map];rfl
    rw[this,allT_map_t]
   simp only[hxM,ht,D3d,Option.map_some]
  refine A0e C ?_;simp -implicitDefEqProofs [e1,e2]
abbrev pNil:PV:=.t (.v (.pointer none))
theorem wsX {H:Heap} {nx b g:Nat} {p:PV} {l s:List UInt8} (h:Abs.look H b=some (bldR p g l)) (hp:p=pNil\/p = .ptr b 0) (hg:A0z eB tyU H g l) (hs:s≠[]) (hlen:l.length+s.length<=140737488355328) (hb:b<nx) (hgb:l=[]\/b≠g) :
  ∃(H':Heap) (r:T) (t:List PV->Heap->Nat->Option (PV×Heap×Nat)),t [.ptr b 0,.t (.v (.string (ob s)))] H nx=some (.t r,H',nx+1)/\HOK Tryz.prog (G q) 84 t /\
   Abs.look H' b=some (bldR (.ptr b 0) nx (l++s))/\A0z eB tyU H' nx (l++s)/\∀c,c<nx->c≠b->(l=[]\/c≠g)->Abs.look H' c=Abs.look H c:=by
 have look':∀c,c≠nx->Abs.look (wsH H b g nx l (l++s)) c=if c=b then(Abs.look (if l.isEmpty then H else rem H g) b).map fun _=>bldR (.ptr b 0) nx (l++s)else Abs.look (if l.isEmpty then H else rem H g) c:=fun c hc=>by
  unfold wsH;rw[look_cons,if_neg (fun e=>hc e.symm),A0f]
 have rem':∀c,(l=[]\/c≠g)->Abs.look (if l.isEmpty then H else rem H g) c=Abs.look H c:=fun c hc=>by
  rcases hc with rfl | hc
  ·rfl
  ·split
   ·rfl
   ·rw[A1e,if_neg hc]
 refine⟨wsH H b g nx l (l++s),_,_,C0y _ _ _ _,C0z (F7u h hp hg hs hlen) (fun hf k x hk=>?_),?_,.inr (by unfold wsH;rw[look_cons,if_pos rfl]),fun c h1 h2 h3=>?_⟩
 ·by_cases hkn:k=nx
  ·omega
  ·rw[look' k hkn]at hk;split at hk
   ·omega
   ·have:∃y,Abs.look H k=some y:=by
     split at hk
     ·exact⟨_,hk⟩
     ·rw[A1e]at hk;split at hk
      ·cases hk
      ·exact⟨_,hk⟩
    obtain⟨y,hy⟩:=this;have:=hf k y hy;omega
 ·rw[look' b (by omega),if_pos rfl,rem' b hgb,h];rfl
 ·rw[look' c (by omega),if_neg h2,rem' c h3]
def preL (out:List ByteArray) (x:Ep) (j:Nat):List UInt8:=wb x.pred++40::(wb (vS out x.label)++(x.args.take j).flatMap (argS out))
theorem E9n {out:List ByteArray} {x:Ep} {j:Nat} {a:Ag} (h:x.args[j]?=some a):preL out x (j+1)=preL out x j++argS out a:=by
 unfold preL;rw[List.take_add_one,h];simp
theorem F4c (out:List ByteArray) (x:Ep):preL out x x.args.length++[41]=preS out x:=by
 unfold preL preS;rw[List.take_length];simp
theorem C8m {α:Type} {f:α->List UInt8} (l:List α) (j:Nat):((l.take j).flatMap f).length<=(l.flatMap f).length:=by
 conv=>rhs;rw[<-List.take_append_drop j l,List.flatMap_append,List.length_append]
 omega
theorem C8n (out:List ByteArray) (x:Ep) (j:Nat):(preL out x j).length<=(preS out x).length:=by
 have:=C8m (f:=argS out) x.args j;unfold preL preS;simp only[List.length_append,List.length_cons,List.length_nil];omega
structure PdC where
 H:Heap
 nx:Nat
 g:Nat
 j:Nat
def SPd (tv ta:T) (n:Nat) (c:PdC):A0c:=⟨[(21,.t (iv (c.j:Int))),(20,.t (iv (n:Int))),(19,.t ta),(5,.ptr 1 0),(2,.ptr 0 0),(1,.t tv)],c.H,c.nx,39⟩
structure OkPd (out:List ByteArray) (x:Ep) (ta:T) (c:PdC):Prop where
 h0:Abs.look c.H 0=some (eRow x.pred x.label ta)
 h1:Abs.look c.H 1=some (bldR (.ptr 1 0) c.g (preL out x c.j))
 hg:A0z eB tyU c.H c.g (preL out x c.j)
 g1:1<c.g
 gl:c.g<c.nx
 le:c.j<=x.args.length
theorem E9o {x:Ep} {cs:List T} (hx:IsEp x cs) {tv:T} {out:List ByteArray} (ht:IsS eStr tv out) (hin:inE out.length x) (hal:x.args.length<=1000) (hsz:(preS out x).length<=1000000000):A1d Tryz.prog (G q) 73 [.ag cs,tv] (· = sv (ob (preS out x))):=by
 obtain⟨ta,rfl,hta⟩:=hx;have la:=hta.len;have c3:=cd3 (sv x.pred) (iv x.label) ta
 obtain⟨R,hR⟩:∃R,R=preS out x:=⟨_,rfl⟩
 rw[<-hR];have hz:eStr.z=1:=rfl
 have ivar:∀v:Int,inR out.length v->A2e 1 (.t tv) (.t (iv v))=some (.t (.pt ([sv (vS out v)]++rest eStr out v.toNat))):=fun v hv=>by
  obtain⟨k,rfl⟩:∃k:Nat,v=(k:Int):=⟨v.toNat,by have:=hv.1;omega⟩
  have hk:k<out.length:=by have:=hv.2;omega
  have:=ht.iaddr (B5x hk) .i64;rw[hz]at this;exact this
 refine C1p.call rfl ?_;(conv in B1l=>cbv);refine A0a A0g ?_;simp -implicitDefEqProofs [c3];refine A0a A0g ?_;simp -implicitDefEqProofs
 obtain⟨H0,hH0⟩:∃H0:Heap,H0=[(1,.cells tyB [pNil,.t nilS]),(0,eRow x.pred x.label ta)]:=⟨_,rfl⟩
 have z0:=ldE (H:=H0) (k:=0) (p:=x.pred) (l:=x.label) (ta:=ta) (by rw[hH0];rfl)
 have hb0:Abs.look H0 1=some (bldR pNil 2 []):=by rw[hH0];rfl
 have i0:=ivar x.label (hin _ (by simp[occE]));have hl0:=C8n out x 0
 have e0:preL out x 0=wb x.pred++40::wb (vS out x.label):=by simp[preL]
 rw[e0]at hl0;simp only[List.length_append,List.length_cons]at hl0;obtain⟨S1,q1,l1,p1⟩:=A2t (wb x.pred) [40] (b:=⟨#[40]⟩) rfl (by simp only[List.length_singleton];omega);have p1:∀(Φ:A0u) (H:Heap) (nx:Nat),A0i Φ H nx (.bin false .add none) [.t (.v (.string x.pred)),.t (.v (.string ⟨#[40]⟩))]=some (.t (.v (.string (ob S1))),H,nx):=p1;simp only[List.length_cons,List.length_nil]at l1;obtain⟨S2,q2,l2,p2⟩:=A2t S1 (wb (vS out x.label)) (b:=vS out x.label) rfl (by omega)
 have eS2:S2=preL out x 0:=by rw[e0,q2,q1];simp
 obtain⟨H1,r1,t1,et1,ok1,b1,g1,k1⟩:=wsX (q:=q) (s:=S2) hb0 (.inl rfl) (.inl rfl) (by rw[eS2,e0];simp) (by simp only[List.length_nil];omega) (nx:=2) (by omega) (.inl rfl);rw[List.nil_append,eS2]at b1 g1;have k10:=k1 0 (by omega) (by omega) (.inl rfl)
 have x1:Abs.look H1 0=some (eRow x.pred x.label ta):=by rw[k10,hH0];rfl
 have z1:=ldE x1;refine A0a (A0s.nil.ctxH (A0v.cons ok1 .nil) mixed) ?_;rw[show([(1,Row.cells 114 [.t (.v (.pointer none)),.t (.v (.slice none 0 0))]),(0,Row.cells tyE [.t (sv x.pred),.t (iv x.label),.t ta])]:Heap)=H0 from hH0.symm];simp -implicitDefEqProofs [z0.l0,z0.l1,p1,i0,lp,p2,et1];refine A0q (fun c:PdC=>⟨[(5,.ptr 1 0)],c.H,c.nx,39⟩) (fun c=>Abs.look c.H 1=some (bldR (.ptr 1 0) c.g (preL out x x.args.length))/\A0z eB tyU c.H c.g (preL out x x.args.length)) (fun _=>rfl) ?_ ?_
 ·refine A0a A0g ?_;simp -implicitDefEqProofs [z1.l2,la];refine A0j ?_;refine A0n (SPd tv ta x.args.length) (fun c=>x.args.length-c.j) (OkPd out x ta) ⟨H1,3,2,0⟩ (fun _=>rfl) ⟨x1,b1,g1,by show 1<2;omega,by show 2<3;omega,Nat.zero_le _⟩ ?_ rfl ?_
  ·exact A0d (by simp -implicitDefEqProofs [SPd])
  rintro⟨H,nx,g,j⟩ ⟨h0,h1,hg,hg1,hgl,hj⟩;simp only at h0 h1 hg hg1 hgl hj;by_cases hjl:j<x.args.length
  ·obtain⟨a,ha⟩:∃a,x.args[j]?=some a:=⟨_,List.getElem?_eq_getElem hjl⟩
   have i1:=hta.iaddr ha .i64;have hz2:eAg.z=2:=rfl;rw[hz2,show eAg.enc a=[sv a.role,iv a.var]from rfl]at i1;have w1:IntKind.i64.wrap ((j:Int)+1)=((j+1:Nat):Int):=A0k (by omega) (by omega);have s1:∀u v,A0x 2 ((nx,.cells tyA [u,v])::H) (.ptr nx 0) (.t (.ag [sv a.role,iv a.var]))=some ((nx,.cells tyA [.t (sv a.role),.t (iv a.var)])::H):=fun u v=>st2 nx u v _ _ tyA H
   obtain⟨Hb,hHb⟩:∃Hb,Hb=(nx,Row.cells tyA [.t (sv a.role),.t (iv a.var)])::H:=⟨_,rfl⟩
   rw[<-hHb]at s1
   have kb:∀c,c<nx->Abs.look Hb c=Abs.look H c:=fun c h=>by rw[hHb,look_cons,if_neg (by omega)]
   have lb:=A5m (H:=Hb) (b:=nx) (ty:=tyA) (p0:=.t (sv a.role)) (p1:=.t (iv a.var)) (by rw[hHb,look_cons,if_pos rfl]);have i2:=ivar a.var (hin _ (by simp only[occE,List.mem_cons,List.mem_map];exact .inr ⟨a,List.mem_of_getElem? ha,rfl⟩));have eP:=E9n (out:=out) ha;have hl1:=C8n out x (j+1);rw[eP,List.length_append]at hl1
   have hla:(argS out a).length=1+(wb a.role).length+1+(wb (vS out a.var)).length:=by unfold argS;simp only[List.length_cons,List.length_append];omega
   obtain⟨V1,y1,n1,v1⟩:=A2t [32] (wb a.role) (b:=a.role) rfl (by simp only[List.length_singleton];omega);have v1:∀(Φ:A0u) (H:Heap) (nx:Nat),A0i Φ H nx (.bin false .add none) [.t (.v (.string ⟨#[32]⟩)),.t (.v (.string a.role))]=some (.t (.v (.string (ob V1))),H,nx):=v1;simp only[List.length_cons,List.length_nil]at n1;obtain⟨V2,y2,n2,v2⟩:=A2t V1 [32] (b:=⟨#[32]⟩) rfl (by simp only[List.length_singleton];omega);simp only[List.length_cons,List.length_nil]at n2;obtain⟨V3,y3,n3,v3⟩:=A2t V2 (wb (vS out a.var)) (b:=vS out a.var) rfl (by omega)
   have eV:V3=argS out a:=by rw[y3,y2,y1];unfold argS;simp
   obtain⟨H3,r3,t3,et3,ok3,b3,g3,k3⟩:=wsX (q:=q) (s:=V3) (nx:=nx+1) (by rw[kb 1 (by omega)];exact h1) (.inr rfl) (hg.imp id fun e=>by rw[kb g hgl];exact e) (by rw[eV];unfold argS;simp) (by rw[eV];omega) (by omega) (.inr (by omega));rw[eV,<-eP]at b3 g3;refine A0e (A0s.nil.ctxH (A0v.cons ok3 .nil) mixed) ?_;simp -implicitDefEqProofs [SPd,hjl,i1,A6j,s1,lb.1,lb.2,v1,v2,i2,lp,v3,et3,w1];exact Abs.Next.mk ⟨H3,nx+1+1,nx+1,j+1⟩ ⟨⟨by show Abs.look H3 0=_;rw[k3 0 (by omega) (by omega) (.inr (by omega)),kb 0 (by omega)];exact h0,b3,g3,by show 1<nx+1;omega,by show nx+1<nx+1+1;omega,hjl⟩,by show x.args.length-(j+1)<x.args.length-j;omega⟩ (A0d (by simp -implicitDefEqProofs [SPd]))
  ·have ej:j=x.args.length:=by omega
   subst ej;refine A0e A0g ?_;simp -implicitDefEqProofs [SPd];exact Abs.Next.mk ⟨H,nx,g,0⟩ ⟨h1,hg⟩ (A0d (by simp -implicitDefEqProofs))
 rintro⟨H,nx,g,_⟩ ⟨h1,hg⟩;simp only at h1 hg;have hl2:=C8n out x x.args.length;have eE:=F4c out x
 obtain⟨L,hL⟩:∃L,L=preL out x x.args.length:=⟨_,rfl⟩
 rw[<-hL]at h1 hg hl2 eE
 have hne:L≠[]:=by rw[hL];unfold preL;simp
 have ok2:=C0z (F3w (q:=q) (nx:=nx) h1 hg hne (by omega)) (fun hf k x hk=>by
  rw[A1e]at hk;split at hk
  ·cases hk
  ·exact hf k x hk)
 have et2:=C0y [.ptr 1 0] H nx (.t (sv (bs L)),rem H g,nx)
 obtain⟨t2,ht2⟩:∃t2,t2=hOne [.ptr 1 0] H nx (.t (sv (bs L)),rem H g,nx):=⟨_,rfl⟩
 rw[<-ht2]at ok2 et2;have et2:t2 [.ptr 1 0] H nx=some (.t (.v (.string (ob L))),rem H g,nx):=et2;obtain⟨S,qs,ls,ps⟩:=A2t L [41] (b:=⟨#[41]⟩) rfl (by simp only[List.length_singleton];omega);rw[eE,<-hR]at qs;subst qs;refine A0e (A0s.nil.ctxH (A0v.cons ok2 .nil) mixed) ?_;simp -implicitDefEqProofs [et2,ps]
end Go.Proofs.YtmgjopafgboljaaGreatDoor
namespace Go.Abs
open Go
section
variable {P : Program} {G : A1c} {B N : Nat} {Φ : A0u} {s : A0c}
def MCX (P:Program) (G:A1c) (B N:Nat) (M:A0p) (R:(Exit->A0c->Prop)->Prop) (s:A0c):Prop:=∃Q,R Q/\MC P G B N M Q s
def PX (R:(Exit->A0c->Prop)->Prop) (e:Exit) (s:A0c):Prop:=∃Q,R Q/\Q e s
def F5m (P:Program) (G:A1c) (B:Nat) (S:A0c):Exit->A0c->Prop
 | .normal,s=>Sub P G B s S
 | _,_=>False
def RWh (P:Program) (G:A1c) (B:Nat) {α:Type} (S:α->A0c) (Ok:α->Prop) (R:(Exit->A0c->Prop)->Prop) (Q':Exit->A0c->Prop):Prop:=
 (∃a,Ok a/\Q'=F5m P G B (S a))\/∃Q,R Q/\Q'=B8g Q
def RBl (id:Nat) (R:(Exit->A0c->Prop)->Prop) (Q':Exit->A0c->Prop):Prop:=∃Q,R Q/\Q'=A5n id Q
structure Fin where
 r:PV
 H:Heap
 nx:Nat
def REnd (P:Program) (G:A1c) (B:Nat) (vs:List RV) (Post:Fin->Prop) (Q:Exit->A0c->Prop):Prop:=∃f,Post f/\Q=D4t P G B vs fun r0 H0 nx0=>r0=f.r/\H0=f.H/\nx0=f.nx
section
variable {α : Type} {S : α -> A0c} {Ok : α -> Prop} {R : (Exit -> A0c -> Prop) -> Prop} {i j : Nat} {vs : List RV} {Post : Fin -> Prop}
@[simp] theorem px_wh_normal:PX (RWh P G B S Ok R) .normal s=Next P G B S Ok s:=by
 apply propext;constructor
 ·rintro⟨Q,⟨a,ha,rfl⟩ | ⟨Q1,_,rfl⟩,h⟩
  ·exact⟨a,ha,h⟩
  ·exact h.elim
 ·rintro⟨a,ha,h⟩;exact⟨_,.inl ⟨a,ha,rfl⟩,h⟩
theorem G1s {e:Exit} (he:e ≠ .normal):PX (RWh P G B S Ok R) e s=PX R e s:=by
 apply propext;constructor
 ·rintro⟨Q,⟨a,ha,rfl⟩ | ⟨Q1,h1,rfl⟩,h⟩
  ·cases e<;>first | exact absurd rfl he | exact h.elim
  ·cases e<;>first | exact absurd rfl he | exact⟨Q1,h1,h⟩
 ·rintro⟨Q,h1,h⟩;refine⟨B8g Q,.inr ⟨Q,h1,rfl⟩,?_⟩
  cases e<;>first | exact absurd rfl he | exact h
@[simp] theorem px_wh_ret:PX (RWh P G B S Ok R) .ret s=PX R .ret s:=G1s (by simp)
@[simp] theorem px_wh_exit:PX (RWh P G B S Ok R) (.exit i) s=PX R (.exit i) s:=G1s (by simp)
@[simp] theorem px_bl_normal:PX (RBl j R) .normal s=PX R .normal s:=by
 apply propext;constructor
 ·rintro⟨_,⟨Q,h1,rfl⟩,h⟩;exact⟨Q,h1,h⟩
 ·rintro⟨Q,h1,h⟩;exact⟨_,⟨Q,h1,rfl⟩,h⟩
@[simp] theorem px_bl_ret:PX (RBl j R) .ret s=PX R .ret s:=by
 apply propext;constructor
 ·rintro⟨_,⟨Q,h1,rfl⟩,h⟩;exact⟨Q,h1,h⟩
 ·rintro⟨Q,h1,h⟩;exact⟨_,⟨Q,h1,rfl⟩,h⟩
@[simp] theorem px_bl_exit:PX (RBl j R) (.exit i) s=if i=j then PX R .normal s else PX R (.exit i) s:=by
 apply propext;by_cases hij:i=j
 ·rw[if_pos hij];constructor
  ·rintro⟨_,⟨Q,h1,rfl⟩,h⟩;simp only[inBlock_exit,if_pos hij]at h;exact⟨Q,h1,h⟩
  ·rintro⟨Q,h1,h⟩;exact⟨_,⟨Q,h1,rfl⟩,by simp only[inBlock_exit,if_pos hij];exact h⟩
 ·rw[if_neg hij];constructor
  ·rintro⟨_,⟨Q,h1,rfl⟩,h⟩;simp only[inBlock_exit,if_neg hij]at h;exact⟨Q,h1,h⟩
  ·rintro⟨Q,h1,h⟩;exact⟨_,⟨Q,h1,rfl⟩,by simp only[inBlock_exit,if_neg hij];exact h⟩
theorem A1u (f:Fin) (hp:Post f) (h:A1s (resM s vs) fun ps=>oneOf ps=f.r/\s.H=f.H/\s.nx=f.nx):PX (REnd P G B vs Post) .ret s:=⟨_,⟨f,hp,rfl⟩,B9q h⟩
theorem B4n (f:Fin) (hp:Post f) (h:A1s (resM s vs) fun ps=>oneOf ps=f.r/\s.H=f.H/\s.nx=f.nx):PX (REnd P G B vs Post) .normal s:=⟨_,⟨f,hp,rfl⟩,E8x h⟩
theorem A0r (hΦ:Ctx P G Φ) {M:A0p} (h:A3z Φ M s (PX R)):MCX P G B N M R s:=by
 obtain⟨e,s',h1,Q,h2,h3⟩:=A4h M h;exact⟨Q,h2,A8x hΦ M h1 h3⟩
theorem A0b (hΦ:Ctx P G Φ) {a b:A0p} (h:A3z Φ a s (A5y (fun s1=>MCX P G B N b R s1) (PX R))):MCX P G B N (.seq a b) R s:=by
 obtain⟨e,s',h1,h2⟩:=A4h a h;cases e
 case normal=>
  obtain⟨Q,h3,h4⟩:=h2;refine⟨Q,h3,fun c hc hn=>C4q ?_ c hc hn⟩;refine A8x hΦ a h1 ?_;exact⟨(B0j a h1).trans hn,h4⟩
 all_goals
  obtain⟨Q,h3,h4⟩:=h2;refine⟨Q,h3,fun c hc hn=>C4q ?_ c hc hn⟩;exact A8x hΦ a h1 h4
theorem A1k {id:Nat} {x:A0p} (h:MCX P G B N x (RBl id R) s):MCX P G B N (.block id x) R s:=by
 obtain⟨_,⟨Q,h1,rfl⟩,h2⟩:=h;exact⟨Q,h1,A0j h2⟩
theorem A3i {s':A0c} {M:A0p} (hs:Sub P G B s s') (hn:s'.n=s.n) (h:MCX P G B N M R s'):MCX P G B N M R s:=by
 obtain⟨Q,h1,h2⟩:=h;exact⟨Q,h1,MC.sub hs hn h2⟩
theorem A3q {x y:A0p} (S:α->A0c) (Ok:α->Prop) (hN:∀a,(S a).n=N) (h1:MCX P G B N x (RWh P G B S Ok R) s) (h2:∀a,Ok a->MCX P G B N y R (S a)):MCX P G B N (.seq x y) R s:=by
 obtain⟨_,⟨a,ha,rfl⟩ | ⟨Q,hQ,rfl⟩,hx⟩:=h1
 ·obtain⟨Q,hQ,hy⟩:=h2 a ha;refine⟨Q,hQ,A0q (α:=Unit) (fun _=>S a) (fun _=>True) (fun _=>hN a) (hx.mono fun e s1 q=>?_) fun _ _=>hy⟩;cases e
  case normal=>exact⟨(),trivial,q⟩
  all_goals exact q.elim
 ·refine⟨Q,hQ,A0q (α:=α) S (fun _=>False) hN (hx.mono fun e s1 q=>?_) fun _ h=>h.elim⟩;cases e
  case normal=>exact q.elim
  all_goals exact q
def C6a (P:Program) (G:A1c) (B N:Nat) (x:A0p) (Q:Exit->A0c->Prop):Nat->A0c->Prop
 | 0,s=>s.n=N/\MC P G B N x (B8g Q) s
 | n+1,s=>s.n=N/\∃s',MC P G B N x (F5m P G B s') s/\C6a P G B N x Q n s'
theorem C6a.n {x:A0p} {Q:Exit->A0c->Prop}:∀{n:Nat} {s:A0c},C6a P G B N x Q n s->s.n=N
 | 0,_,h=>h.1
 | _+1,_,h=>h.1
theorem E9p {x:A0p} {Q:Exit->A0c->Prop} {n:Nat} (h:C6a P G B N x Q n s):MC P G B N (.loop x) Q s:=by
 refine D4s (fun n s=>C6a P G B N x Q n s) n h (fun n s h=>h.n) fun n s h=>?_
 cases n with
 | zero=>
  refine h.2.mono fun e s1 q=>?_;cases e
  case normal=>exact q.elim
  all_goals exact q
 | succ n=>
  obtain⟨_,s',h1,h2⟩:=h;refine h1.mono fun e s1 q=>?_;cases e
  case normal=>exact⟨n,by omega,s',q,h2⟩
  all_goals exact q.elim
theorem A2w {x:A0p} (S:α->A0c) (μ:α->Nat) (Ok:α->Prop) (a0:α) (hN:∀a,(S a).n=N) (hok:Ok a0) (h0:Sub P G B s (S a0)) (hs:s.n=N)
  (round:∀a,Ok a->MCX P G B N x (RWh P G B S (fun a'=>Ok a'/\μ a'<μ a) R) (S a)):MCX P G B N (.loop x) R s:=by
 have key:∀(k:Nat) (a:α),μ a<=k->Ok a->∃Q,R Q/\∃n,C6a P G B N x Q n (S a):=by
  intro k
  induction k with
  | zero=>
   intro a hk ha;obtain⟨_,⟨a',⟨_,h2⟩,rfl⟩ | ⟨Q,hQ,rfl⟩,hx⟩:=round a ha
   ·omega
   ·exact⟨Q,hQ,0,hN a,hx⟩
  | succ k ih=>
   intro a hk ha;obtain⟨_,⟨a',⟨h1,h2⟩,rfl⟩ | ⟨Q,hQ,rfl⟩,hx⟩:=round a ha
   ·obtain⟨Q,hQ,n,hn⟩:=ih a' (by omega) h1;exact⟨Q,hQ,n+1,hN a,S a',hx,hn⟩
   ·exact⟨Q,hQ,0,hN a,hx⟩
 obtain⟨Q,hQ,n,hn⟩:=key (μ a0) a0 (Nat.le_refl _) hok;exact⟨Q,hQ,MC.sub h0 ((hN a0).trans hs.symm) (E9p hn)⟩
theorem FnOK.callX {f:FuncId} {k:Nat} {M:A0p} {vs:List RV} (h:FnOK P G f k N M vs) {ps:List PV} {H:Heap} {nx:Nat} {Post:Fin->Prop} (hk:ps.length=k)
  (hm:MCX P G nx N M (REnd P G nx vs Post) ⟨startsP 0 ps,H,nx,N⟩):∃f':Fin,Post f'/\A3n P G f ps H nx f'.r f'.H f'.nx:=by
 obtain⟨_,⟨f',hp,rfl⟩,h2⟩:=hm;exact⟨f',hp,h.callP hk h2⟩
end
end
section
variable {α : Type} {e : Enc α} {ty b : Nat} {H : Heap} {l : List α}
theorem B8w (hz:e.z=1) {x:α} {c:T} (hc:e.enc x=[c]):∀(l:List α) (i:Nat),(l.set i x).flatMap e.enc=(l.flatMap e.enc).set i c
 | [],i=>by simp
 | a::l,0=>by
  obtain⟨d,hd⟩:∃d,e.enc a=[d]:=by
   have:=e.len a;rw[hz]at this;exact List.length_eq_one_iff.1 this
  simp[hc,hd]
 | a::l,i+1=>by
  obtain⟨d,hd⟩:∃d,e.enc a=[d]:=by
   have:=e.len a;rw[hz]at this;exact List.length_eq_one_iff.1 this
  rw[List.set_cons_succ,List.flatMap_cons,List.flatMap_cons,hd,B8w hz hc l i];simp
theorem A5v (hz:e.z=1) {i:Nat} {x:α} {c:T} (h:Abs.look H b=some (A0l e ty l)) (hi:i<l.length) (hc:e.enc x=[c]) (hp:A1g (.t c)=some [.t c]):A0x 1 H (.ptr b i) (.t c)=some (Abs.upd H b (A0l e ty (l.set i x))):=by
 have hl:((l.flatMap e.enc).map PV.t).length=l.length:=by rw[List.length_map,A2p,hz,Nat.mul_one]
 have:=A1z (H:=H) (b:=b) (o:=i) (n:=1) h hp rfl (by rw[hl];omega);rw[this];congr 3;rw[B8w hz hc,List.map_set];rfl
end
theorem C8o {ty by' n nx:Nat} (z:Value) (hn:n<=1000000) (hb:by'<=100):D4j ty 1 by' [z] (.t (iv (n:Int))) (.t (iv (n:Int))) nx=some (.row nx 0 n 1,.cells ty (List.replicate n (.t (.v z)))):=by
 have h:(0:Int)<=(n:Int)/\(n:Int)<=(n:Int)/\(n:Int)<=9223372036854775807/\(by':Int)*(n:Int)<=281474976710656:=by
  refine⟨by omega,by omega,by omega,?_⟩
  have:by'*n<=100*1000000:=Nat.mul_le_mul hb hn
  have h2:(by':Int)*(n:Int)=((by'*n:Nat):Int):=by simp
  omega
 show(if _ then _ else _)=_;rw[if_pos h,Int.toNat_natCast];rfl
theorem F7x {α:Type} (e:Enc α) (ty n:Nat) (x:α) (c:T) (hc:e.enc x=[c]):Row.cells ty (List.replicate n (.t c))=A0l e ty (List.replicate n x):=by
 unfold A0l;congr 1
 induction n with
 | zero=>rfl
 | succ n ih=>rw[List.replicate_succ,List.replicate_succ,List.flatMap_cons,List.map_append,hc,<-ih];rfl
def A4k (s:Nat) (c:UInt8):Nat:=(s ^^^ c.toNat)*1099511628211%18446744073709551616
def E9q (l:List UInt8):Nat:=l.foldl A4k 14695981039346656037
theorem E4b {α:Type} {f:Nat->α->Nat} {L:List α} {j:Nat} {c:α} (hc:L[j]?=some c) (s0:Nat):(L.take (j+1)).foldl f s0=f ((L.take j).foldl f s0) c:=by
 rw[List.take_add_one,hc,List.foldl_append];rfl
theorem E4c {L:List UInt8} {j:Nat} {c:UInt8} (hc:L[j]?=some c) (s0:Nat):(L.take (j+1)).foldl A4k s0=A4k ((L.take j).foldl A4k s0) c:=E4b hc s0
theorem F7y (c:UInt8):IntKind.u64.wrap ((c.toNat:Int))=(c.toNat:Int):=by
 have:=c.toNat_lt;exact A7e (by omega) (by omega)
theorem F4d {s:Nat} (h:s<18446744073709551616) (c:UInt8):IntKind.u64.wrap (((BitVec.ofNat 64 s ^^^ BitVec.ofNat 64 c.toNat).toNat:Nat):Int)=((s ^^^ c.toNat:Nat):Int):=by
 have hc:=c.toNat_lt
 have e:(BitVec.ofNat 64 s ^^^ BitVec.ofNat 64 c.toNat).toNat=s ^^^ c.toNat:=by
  rw[BitVec.toNat_xor,BitVec.toNat_ofNat,BitVec.toNat_ofNat,Nat.mod_eq_of_lt (by omega),Nat.mod_eq_of_lt (by omega)]
 have hlt:=(BitVec.ofNat 64 s ^^^ BitVec.ofNat 64 c.toNat).isLt;rw[A7e (by omega) (by omega),e]
theorem E4d (s:Nat) (c:UInt8):IntKind.u64.wrap (((s ^^^ c.toNat:Nat):Int)*1099511628211)=(A4k s c:Int):=by
 unfold A4k;generalize s ^^^ c.toNat=x;unfold IntKind.wrap IntKind.bits IntKind.signed;simp only[Bool.false_and,Bool.false_eq_true,if_false];omega
theorem F4e (s:Nat) (c:UInt8):A4k s c<18446744073709551616:=by
 unfold A4k;omega
end Go.Abs
namespace Go.Proofs.YtmgjopafgboljaaGreatDoor
open Go Go.Abs
variable {q : Gl}
def Hsh (old:ByteArray) (l:List ByteArray):ByteArray:=f36 (E9q (wb old++10::sepL [10] (l.map wb)))
theorem E9r (L:List UInt8):∀{s0:Nat},s0<18446744073709551616->L.foldl A4k s0<18446744073709551616:=by
 induction L with
 | nil=>intro s0 h;exact h
 | cons c L ih=>intro s0 _;exact ih (F4e s0 c)
def gFB:List T->Option T
 | [.v (.slice none 0 0),.v (.int .u64 n),.v (.int .i64 36),.v (.bool false),.v (.bool false)]=>if 0<=n/\n<18446744073709551616 then some (.tu [nilS,sv (f36 n.toNat)])else none
 | _=>none
theorem hFB:GOK Tryz.prog (G q) 157 gFB:=fun args r hr=>by
 unfold gFB at hr;split at hr
 ·rename_i n;split at hr
  ·rename_i h;injection hr with hr;subst hr;have:=E4a (q:=q) n.toNat (by omega);rw[show uN n.toNat = .v (.int .u64 n)by show T.v (.int .u64 ((n.toNat:Nat):Int))=_;rw[Int.toNat_of_nonneg h.1]]at this;exact this
  ·cases hr
 ·cases hr
def gFU:List T->Option T
 | [.v (.int .u64 n),.v (.int .i64 36)]=>if 0<=n/\n<18446744073709551616 then some (sv (f36 n.toNat))else none
 | _=>none
theorem hFU2:GOK Tryz.prog (G q) 136 gFU:=fun args r hr=>by
 unfold gFU at hr;split at hr
 ·rename_i n;split at hr
  ·rename_i h;injection hr with hr;subst hr;have e:gFB [.v (.slice none 0 0),.v (.int .u64 n),.v (.int .i64 36),.v (.bool false),.v (.bool false)]=some (.tu [nilS,sv (f36 n.toNat)]):=if_pos h;refine B0q.runs ((A0s.cons (hFB (q:=q)) .nil).ctx mixed) rfl ?_;(conv in A5k=>cbv);simp -implicitDefEqProofs [e]
  ·cases hr
 ·cases hr
theorem hFU:GOK Tryz.prog (G q) 116 gFU:=fun args r hr=>by
 unfold gFU at hr;split at hr
 ·rename_i n;split at hr
  ·rename_i h;injection hr with hr;subst hr;have e:gFU [.v (.int .u64 n),.v (.int .i64 36)]=some (sv (f36 n.toNat)):=if_pos h;refine B3b.runs ((A0s.cons (hFU2 (q:=q)) .nil).ctx mixed) rfl ?_;(conv in A6y=>cbv);simp -implicitDefEqProofs [e]
  ·cases hr
 ·cases hr
theorem G1t {n:Nat} (h:n<18446744073709551616):gFU [.v (.int .u64 (n:Int)),.v (.int .i64 36)]=some (sv (f36 n)):=by
 simp only[gFU];rw[if_pos ⟨by omega,by omega⟩,Int.toNat_natCast]
def nxC (n:Nat) (b:Nat->Nat) (l:Nat->List ByteArray):List PV:=(List.range n).map fun v=>rowP eStr (b v) (l v)
theorem D3e {n v:Nat} (b:Nat->Nat) (l:Nat->List ByteArray) (h:v<n):(nxC n b l)[v]?=some (rowP eStr (b v) (l v)):=by
 unfold nxC;rw[List.getElem?_map,List.getElem?_range h];rfl
theorem C2u (n:Nat) (b:Nat->Nat) (l:Nat->List ByteArray):(nxC n b l).length=n:=by simp[nxC]
theorem E9s {n v:Nat} {b:Nat->Nat} {l:Nat->List ByteArray} (h:v<n) (k:Nat) (m:List ByteArray):(nxC n b l).set v (rowP eStr k m)=nxC n (fun w=>if w=v then k else b w) (fun w=>if w=v then m else l w):=by
 refine List.ext_getElem? fun i=>?_;rw[List.getElem?_set];by_cases hi:i<n
 ·rw[D3e _ _ hi,D3e _ _ hi];by_cases e:v=i
  ·subst e;rw[if_pos rfl,if_pos (by rw[C2u];exact h),if_pos rfl,if_pos rfl]
  ·rw[if_neg e,if_neg (fun e'=>e e'.symm),if_neg (fun e'=>e e'.symm)]
 ·rw[List.getElem?_eq_none (by rw[C2u];omega),List.getElem?_eq_none (by rw[C2u];omega),if_neg (by omega)]
structure NxS (Sp:List Nat) (H:Heap) (nx kn n:Nat) (b:Nat->Nat) (l:Nat->List ByteArray):Prop where
 row:∃ty,Abs.look H kn=some (.cells ty (nxC n b l))
 at_:∀v,v<n->A0z eStr tyS H (b v) (l v)
 fr:∀v,v<n->l v≠[]->b v∉Sp/\b v<nx
 inj:∀v w,v<n->w<n->l v≠[]->l w≠[]->b v=b w->v=w
 sp:∀c∈Sp,c<nx
 kn:kn∈Sp
def dnL (n:Nat) (nw:Nat->ByteArray) (v:Nat):List ByteArray:=(List.range n).map fun w=>if w<v then nw w else⟨#[]⟩
theorem F7z (n:Nat) (nw:Nat->ByteArray) (v:Nat):(dnL n nw v).length=n:=by simp[dnL]
theorem F4f (n:Nat) (nw:Nat->ByteArray):dnL n nw 0=List.replicate n ⟨#[]⟩:=by
 unfold dnL;refine List.ext_getElem? fun i=>?_;rw[List.getElem?_map];by_cases hi:i<n
 ·rw[List.getElem?_range hi,List.getElem?_replicate,if_pos hi];simp
 ·rw[List.getElem?_eq_none (by simp;omega),List.getElem?_eq_none (by simp;omega)];rfl
theorem F8a {n v:Nat} (nw:Nat->ByteArray) (h:v<n):(dnL n nw v).set v (nw v)=dnL n nw (v+1):=by
 refine List.ext_getElem? fun i=>?_;rw[List.getElem?_set];unfold dnL;by_cases hi:i<n
 ·rw[List.getElem?_map,List.getElem?_map,List.getElem?_range hi];simp only[Option.map_some,List.length_map,List.length_range];by_cases e:v=i
  ·subst e;simp[h]
  ·rw[if_neg e];congr 1;by_cases h2:i<v
   ·rw[if_pos h2,if_pos (by omega)]
   ·rw[if_neg h2,if_neg (by omega)]
 ·rw[List.getElem?_eq_none (by simp;omega),List.getElem?_eq_none (by simp;omega),if_neg (by omega)]
theorem F8b (n:Nat) (nw:Nat->ByteArray):dnL n nw n=(List.range n).map nw:=by
 unfold dnL;refine List.map_congr_left fun w hw=>?_;rw[if_pos (List.mem_range.1 hw)]
structure ShC where
 H:Heap
 v:Nat
def SSh (ko kn kr n nx:Nat) (c:ShC):A0c:=⟨[(15,.t (iv (c.v:Int))),(14,.t (iv (n:Int))),(5,.row kr 0 n 1),(1,.row kn 0 n 1),(0,.row ko 0 n 1)],c.H,nx,53⟩
def SSi (ko kn kr n v nx:Nat) (H:Heap) (t:T) (L:List UInt8) (j:Nat):A0c:=⟨[(36,.t (iv (j:Int))),(35,.t (iv (L.length:Int))),(34,.t t),(7,.t (uN ((L.take j).foldl A4k 14695981039346656037))),(6,.t (iv (v:Int))),(15,.t (iv (v:Int))),(14,.t (iv (n:Int))),(5,.row kr 0 n 1),(1,.row kn 0 n 1),(0,.row ko 0 n 1)],H,nx,53⟩
theorem E9t (s:ByteArray):IsS eB (.sl s.size (B7z s)) (wb s):=by
 right;unfold slT B7z;rw[C8i];rfl
theorem E4e {Sp:List Nat} {H:Heap} {nx ko kn n:Nat} {old:List ByteArray} {b:Nat->Nat} {l:Nat->List ByteArray} (hS:NxS Sp H nx kn n b l) (ho:Abs.look H ko=some (A0l eStr tyS old)) (hon:old.length=n) (hko:ko∈Sp) (hn:n<=100000)
  (hl:∀v,v<n->(l v).length<=1000) (hsz:∀v,v<n->(wb (vS old (v:Int))).length+1+(sepL [10] ((srtS (l v)).map wb)).length<=1000000000) :
  ∃f:Fin,(f.r = .row nx 0 n 1/\f.nx=nx+1/\Abs.look f.H nx=some (A0l eStr tyS ((List.range n).map fun v:Nat=>Hsh (vS old (v:Int)) (srtS (l v))))/\(∀c∈Sp,Abs.look f.H c=Abs.look H c)/\(Frs H nx->Frs f.H (nx+1))) /\
   A3n Tryz.prog (G q) 74 [.row ko 0 n 1,.row kn 0 n 1] H nx f.r f.H f.nx:=by
 obtain⟨nw,hnw⟩:∃nw:Nat->ByteArray,nw=fun v:Nat=>Hsh (vS old (v:Int)) (srtS (l v)):=⟨_,rfl⟩
 rw[<-hnw];obtain⟨tyN,hrow⟩:=hS.row;have hknl:=hS.sp kn hS.kn;have hkol:=hS.sp ko hko;have mk:=C8o (ty:=tyS) (by':=16) (n:=n) (nx:=nx) (.string ⟨#[]⟩) (by omega) (by omega);refine D5k.callX rfl ?_;(conv in C1q=>cbv);refine A0b A0g ?_;simp -implicitDefEqProofs;refine A0b A0g ?_;simp -implicitDefEqProofs [A8f,mk]
 obtain⟨H0,hH0⟩:∃H0:Heap,H0=(nx,A0l eStr tyS (dnL n nw 0))::H:=⟨_,rfl⟩
 have hrr:(nx,Row.cells tyS (List.replicate n (.t (.v (.string ⟨#[]⟩)))))=(nx,A0l eStr tyS (dnL n nw 0)):=by
  rw[F4f,<-F7x eStr tyS n ⟨#[]⟩ (sv ⟨#[]⟩) rfl]
 rw[hrr,<-hH0];refine A3q (fun c:ShC=>⟨[(5,.row nx 0 n 1)],c.H,nx+1,53⟩) (fun c=>Abs.look c.H nx=some (A0l eStr tyS (dnL n nw n))/\(∀c'∈Sp,Abs.look c.H c'=Abs.look H c')/\(Frs H nx->Frs c.H (nx+1))) (fun _=>rfl) ?_ ?_
 ·refine A0b A0g ?_;simp -implicitDefEqProofs [A8f];refine A1k ?_
  refine A2w (SSh ko kn nx n (nx+1)) (fun c=>n-c.v) (fun c=>Abs.look c.H nx=some (A0l eStr tyS (dnL n nw c.v))/\(∀c'∈Sp,Abs.look c.H c'=Abs.look H c')/\(∀w,c.v<=w->w<n->A0z eStr tyS c.H (b w) (l w))/\(Frs H nx->Frs c.H (nx+1))/\c.v<=n) ⟨H0,0⟩ (fun _=>rfl)
   ⟨by rw[hH0,look_cons,if_pos rfl],fun c hc=>by have:=hS.sp c hc;rw[hH0,look_cons,if_neg (by omega)],fun w _ hw=>(by
    by_cases hne:l w=[]
    ·exact .inl hne
    ·have:=(hS.fr w hw hne).2
     exact(hS.at_ w hw).imp id fun e=>by rw[hH0,look_cons,if_neg (by omega)];exact e),fun hf=>by rw[hH0];exact hf.cons (Nat.lt_succ_self _) (Nat.le_succ _),Nat.zero_le _⟩ ?_ rfl ?_
  ·exact A0d (by simp -implicitDefEqProofs [SSh])
  rintro⟨H1,v⟩ ⟨hd,hsp,hat,hfr,hv⟩;simp only at hd hsp hat hfr hv;by_cases hlt:v<n
  ·have w1:IntKind.i64.wrap ((v:Int)+1)=((v+1:Nat):Int):=A0k (by omega) (by omega)
   have hrn:Abs.look H1 kn=some (.cells tyN (nxC n b l)):=by rw[hsp kn hS.kn];exact hrow
   have hro:Abs.look H1 ko=some (A0l eStr tyS old):=by rw[hsp ko hko];exact ho
   have i1:∀k:Nat,A2e 1 (.row k 0 n 1) (.t (iv (v:Int)))=some (.ptr k v):=fun k=>by
    have:=D6h (e:=eInt) (b:=k) (l:=List.replicate n 0) (i:=v) (x:=0) (by rw[List.getElem?_replicate,if_pos hlt]) rfl;rw[List.length_replicate]at this;exact this
   have l1:A0t false 1 H1 (.ptr kn v)=some (rowP eStr (b v) (l v)):=by simp only[A0t,hrn,Bool.false_eq_true,if_false,D3e b l hlt]
   have rv:=hat v (Nat.le_refl _) hlt;have sc:=B5w (q:=q) (nx:=nx+1) rv (Nat.le_trans (hl v hlt) (by omega))
   obtain⟨H2,hH2⟩:∃H2,H2=if(l v).isEmpty then H1 else Abs.upd H1 (b v) (sRow (srtS (l v))):=⟨_,rfl⟩
   rw[<-hH2]at sc
   have k2:∀c,(l v≠[]->c≠b v)->Abs.look H2 c=Abs.look H1 c:=fun c hc=>by
    rw[hH2]
    by_cases he:l v=[]
    ·rw[he];rfl
    ·rw[if_neg (by simpa using he),A0f,if_neg (hc he)]
   have f2:Frs H1 (nx+1)->Frs H2 (nx+1):=fun h=>by
    rw[hH2];split
    ·exact h
    ·exact h.upd
   have r2:A0z eStr tyS H2 (b v) (srtS (l v)):=by
    by_cases he:l v=[]
    ·left;rw[he];exact C8f
    ·right;rw[hH2,if_neg (by simpa using he),A0f,if_pos rfl,rv.resolve_left he];exact congrArg some (B7h _).symm
   have hsp2:∀c∈Sp,Abs.look H2 c=Abs.look H c:=fun c hc=>by rw[k2 c (fun he e=>(hS.fr v hlt he).1 (e▸hc)),hsp c hc]
   have hrn2:Abs.look H2 kn=some (.cells tyN (nxC n b l)):=by rw[hsp2 kn hS.kn];exact hrow
   have hro2:Abs.look H2 ko=some (A0l eStr tyS old):=by rw[hsp2 ko hko];exact ho
   have hd2:Abs.look H2 nx=some (A0l eStr tyS (dnL n nw v)):=by rw[k2 nx (fun he e=>by have:=(hS.fr v hlt he).2;omega)];exact hd
   have l2:A0t false 1 H2 (.ptr kn v)=some (rowP eStr (b v) (srtS (l v))):=by
    simp only[A0t,hrn2,Bool.false_eq_true,if_false,D3e b l hlt];rw[D9r (b v) (A6a (l v))]
   have l3:=B1s (e:=eStr) (c:=sv (vS old (v:Int))) hro2 (B5x (by omega)) rfl rfl;obtain⟨t1,o1,ok1⟩:=hAt sc f2;have eT:=B9w r2 ⟨#[10]⟩;have hs2:=hsz v hlt;have eJ:=E0m (t:=A1a eStr (srtS (l v))) (B7i eStr _) ⟨#[10]⟩ (by rw[A6a];exact hl v hlt) (by rw[show wb (⟨#[10]⟩:ByteArray)=[10]from rfl];omega);rw[show wb (⟨#[10]⟩:ByteArray)=[10]from rfl]at eJ
   obtain⟨J,hJ⟩:∃J,J=sepL [10] ((srtS (l v)).map wb):=⟨_,rfl⟩
   rw[<-hJ]at eJ hs2;obtain⟨S1,q1,n1,p1⟩:=A2t (wb (vS old (v:Int))) [10] (b:=⟨#[10]⟩) rfl (by simp only[List.length_singleton];omega);have p1:∀(Φ:A0u) (H:Heap) (nx:Nat),A0i Φ H nx (.bin false .add none) [.t (.v (.string (vS old (v:Int)))),.t (.v (.string ⟨#[10]⟩))]=some (.t (.v (.string (ob S1))),H,nx):=p1;simp only[List.length_singleton]at n1;obtain⟨L,q2,n2,p2⟩:=A2t S1 J (b:=ob J) rfl (by omega)
   have eL:nw v=f36 (E9q L):=by
    rw[hnw];show Hsh _ _=_;unfold Hsh;rw[q2,q1,hJ];simp
   have hbt:=E9t (ob L);rw[show wb (ob L)=L from A3o L]at hbt
   obtain⟨tb,htb⟩:∃tb,tb=T.sl (ob L).size (B7z (ob L)):=⟨_,rfl⟩
   rw[<-htb]at hbt;have lb:=hbt.len
   have s2b:∀(H:Heap) (nx:Nat),hxM .s2b H nx [.t (.v (.string (ob L)))]=some (.t tb,H,nx):=fun H nx=>by rw[htb];rfl
   have C:Ctx Tryz.prog (G q) _:=(A0s.cons (hJo (q:=q)) (.cons (hFU (q:=q)) .nil)).ctxH (A0v.cons ok1 .nil) mixed;have hLlt:∀j,((L.take j).foldl A4k 14695981039346656037)<18446744073709551616:=fun j=>E9r _ (by omega);refine A0b C ?_;simp -implicitDefEqProofs [SSh,hlt];refine A0b C ?_;simp -implicitDefEqProofs
   refine A3q (fun c:ShC=>⟨[(15,.t (iv (v:Int))),(14,.t (iv (n:Int))),(5,.row nx 0 n 1),(1,.row kn 0 n 1),(0,.row ko 0 n 1)],c.H,nx+1,53⟩)
    (fun c=>Abs.look c.H nx=some (A0l eStr tyS (dnL n nw (v+1)))/\(∀c'∈Sp,Abs.look c.H c'=Abs.look H c')/\(∀w,v+1<=w->w<n->A0z eStr tyS c.H (b w) (l w))/\(Frs H nx->Frs c.H (nx+1))) (fun _=>rfl) ?_ ?_
   ·refine A1k ?_;refine A0b C ?_;simp -implicitDefEqProofs;refine A0b C ?_;simp -implicitDefEqProofs [i1,l1,o1];refine A0b C ?_;simp -implicitDefEqProofs;refine A3q (α:=Unit) (fun _=>⟨[(7,.t (uN (E9q L))),(6,.t (iv (v:Int))),(15,.t (iv (v:Int))),(14,.t (iv (n:Int))),(5,.row nx 0 n 1),(1,.row kn 0 n 1),(0,.row ko 0 n 1)],H2,nx+1,53⟩) (fun _=>True) (fun _=>rfl) ?_ ?_
    ·refine A0b C ?_;simp -implicitDefEqProofs [i1,l2,l3,p1,eT,eJ,p2,s2b,lb,-toTs];refine A1k ?_;refine A2w (SSi ko kn nx n v (nx+1) H2 tb L) (fun j=>L.length-j) (fun j=>j<=L.length) 0 (fun _=>rfl) (Nat.zero_le _) ?_ rfl ?_
     ·exact A0d (by simp -implicitDefEqProofs [SSi])
     intro j hj;by_cases hjl:j<L.length
     ·obtain⟨c,hc⟩:∃c,L[j]?=some c:=⟨_,List.getElem?_eq_getElem hjl⟩
      have i4:=hbt.iaddr hc .i64;have hzb:eB.z=1:=rfl;rw[hzb,show eB.enc c=[.v (.int .u8 (c.toNat:Int))]from rfl]at i4;have w2:IntKind.i64.wrap ((j:Int)+1)=((j+1:Nat):Int):=A0k (by omega) (by omega);have hst:=E4c hc 14695981039346656037
      obtain⟨s,hs⟩:∃s,s=(L.take j).foldl A4k 14695981039346656037:=⟨_,rfl⟩
      have hslt:s<18446744073709551616:=by rw[hs];exact hLlt j
      obtain⟨s',hs'⟩:∃s',s'=(L.take (j+1)).foldl A4k 14695981039346656037:=⟨_,rfl⟩
      rw[<-hs,<-hs']at hst;have wc:=F7y c;have wx:=F4d hslt c;have wm:=E4d s c;rw[<-hst]at wm
      obtain⟨x,hx⟩:∃x,x=s ^^^ c.toNat:=⟨_,rfl⟩
      rw[<-hx]at wx wm;refine A0r C ?_;simp -implicitDefEqProofs [SSi,<-hs,hjl,i4,lp,wc,wx,wm,w2];refine Abs.Next.mk (j+1) ⟨hjl,by omega⟩ (A0d ?_);rw[<-hs'];simp -implicitDefEqProofs;exact(congrArg (fun z:Int=>IntKind.u64.wrap (z*1099511628211)) wx).trans wm
     ·have ej:j=L.length:=by omega
      subst ej;refine A0r C ?_;simp -implicitDefEqProofs [SSi];exact Abs.Next.mk () trivial (A0d (by simp -implicitDefEqProofs [E9q]))
    rintro _ _;have eF:=G1t (n:=E9q L) (by have:=hLlt L.length;rw[List.take_length]at this;exact this);rw[<-eL]at eF;have st:=A5v (e:=eStr) (ty:=tyS) (c:=sv (nw v)) (x:=nw v) rfl hd2 (i:=v) (by rw[F7z];exact hlt) rfl rfl;rw[F8a nw hlt]at st;refine A0r C ?_;simp -implicitDefEqProofs [eF,i1,st];refine Abs.Next.mk ⟨Abs.upd H2 nx (A0l eStr tyS (dnL n nw (v+1))),0⟩ ⟨by show Abs.look (Abs.upd H2 nx _) nx=_;rw[A0f,if_pos rfl,hd2];rfl,fun c hc=>?_,fun w hw hwn=>?_,fun hf=>(f2 (hfr hf)).upd⟩ (A0d (by simp -implicitDefEqProofs))
    ·have:=hS.sp c hc;show Abs.look (Abs.upd H2 nx _) c=_;rw[A0f,if_neg (by omega)];exact hsp2 c hc
    ·by_cases hne:l w=[]
     ·exact .inl hne
     ·have h1:=(hS.fr w hwn hne).2;refine(hat w (by omega) hwn).imp id fun e=>?_;show Abs.look (Abs.upd H2 nx _) (b w)=_;rw[A0f,if_neg (by omega),k2 (b w) (fun he e'=>by have:=hS.inj w v hwn hlt hne he e';omega)];exact e
   ·rintro⟨H3,_⟩ ⟨g1,g2,g3,g4⟩;refine A0r C ?_;simp -implicitDefEqProofs [w1];exact Abs.Next.mk ⟨H3,v+1⟩ ⟨⟨g1,g2,g3,g4,hlt⟩,by show n-(v+1)<n-v;omega⟩ (A0d (by simp -implicitDefEqProofs [SSh]))
  ·have ev:v=n:=by omega
   subst ev;refine A0r A0g ?_;simp -implicitDefEqProofs [SSh];exact Abs.Next.mk ⟨H1,0⟩ ⟨hd,hsp,hfr⟩ (A0d (by simp -implicitDefEqProofs))
 rintro⟨H1,_⟩ ⟨g1,g2,g3⟩;rw[F8b]at g1;refine A0r A0g ?_;simp -implicitDefEqProofs;exact A1u ⟨.row nx 0 n 1,H1,nx+1⟩ ⟨rfl,rfl,g1,g2,g3⟩ (by simp -implicitDefEqProofs)
theorem D3f:∀(k u:Nat) (acc:List UInt8),u<36^(k+1)->(C4a u acc).length<=acc.length+(k+1)
 | 0,u,acc,h=>by
  rw[C4a,dif_pos (by simpa using h)];simp
 | k+1,u,acc,h=>by
  rw[C4a];split
  ·simp
  ·have:=D3f k (u / 36) (dgt (u%36)::acc) ((Nat.div_lt_iff_lt_mul (by omega)).2 (by rw[Nat.pow_succ]at h;exact h));rw[List.length_cons]at this;omega
theorem F8c {u:Nat} (h:u<18446744073709551616):(wb (f36 u)).length<=13:=by
 have:=D3f 12 u [] (Nat.lt_of_lt_of_le h (by decide));unfold f36;rw[A3o];simpa using this
theorem F8d (old:ByteArray) (l:List ByteArray):(wb (Hsh old l)).length<=13:=F8c (E9r _ (by omega))
theorem F4g {l:List ByteArray} {x:ByteArray} (h:x∈srtS l):x∈l:=by
 unfold srtS at h;obtain⟨y,hy,rfl⟩:=List.mem_map.1 h;rw[List.mem_mergeSort]at hy;obtain⟨z,hz,rfl⟩:=List.mem_map.1 hy;exact hz
theorem F8e (A:List (Int×ByteArray)) (v:Int) (s:ByteArray) (w:Int):nxt (A++[(v,s)]) w=if w=v then nxt A w++[s]else nxt A w:=by
 unfold nxt;rw[List.filter_append,List.map_append];by_cases h:w=v
 ·subst h;simp
 ·rw[if_neg h,List.filter_cons_of_neg (by simp;exact fun e=>h e.symm)];simp
theorem E9u (A:List (Int×ByteArray)) (v:Int):(nxt A v).length<=A.length:=by
 unfold nxt;rw[List.length_map];exact List.length_filter_le _ _
theorem F8f {A:List (Int×ByteArray)} {v:Int} {s:ByteArray} (h:s∈nxt A v):(v,s)∈A:=by
 unfold nxt at h;obtain⟨p,hp,rfl⟩:=List.mem_map.1 h;obtain⟨h1,h2⟩:=List.mem_filter.1 hp;rw[show v=p.1 from(of_decide_eq_true h2).symm];exact h1
theorem B8x:FnOK Tryz.prog (G q) 72 3 15 A4n []:=by
 obtain⟨fn,h1,h2,h3,h4,h5⟩:=B9b (q:=q);exact⟨fn,h1,h2,h3,h4,by omega⟩
theorem A7u (k n v:Nat) (h:v<n):A2e 1 (.row k 0 n 1) (.t (iv (v:Int)))=some (.ptr k v):=by
 have:=D6h (e:=eInt) (b:=k) (l:=List.replicate n 0) (i:=v) (x:=0) (by rw[List.getElem?_replicate,if_pos h]) rfl;rw[List.length_replicate]at this;exact this
theorem F4h {Sp:List Nat} {H:Heap} {nx kn k5 n:Nat} {b:Nat->Nat} {l:Nat->List ByteArray} (hS:NxS Sp H nx kn n b l) (h5:∃ty,Abs.look H k5=some (.cells ty [.row kn 0 n 1])) (hk5:k5∈Sp) (h5n:k5≠kn) {v:Nat} (hv:v<n) (s:ByteArray) (hl:(l v).length<=1000000000) :
  ∃f:Fin,(f.r = .t (.tu [])/\f.nx=nx+1/\NxS Sp f.H (nx+1) kn n (fun w=>if w=v then nx else b w) (fun w=>if w=v then l v++[s]else l w)/\(∀c∈Sp,c≠kn->Abs.look f.H c=Abs.look H c)/\(Frs H nx->Frs f.H (nx+1))) /\
   A3n Tryz.prog (G q) 72 [.t (iv (v:Int)),.t (sv s),.ptr k5 0] H nx f.r f.H f.nx:=by
 obtain⟨ty5,hb5⟩:=h5;obtain⟨tyN,hrow⟩:=hS.row;have hknl:=hS.sp kn hS.kn;have hk5l:=hS.sp k5 hk5
 have l5:A0t false 1 H (.ptr k5 0)=some (.row kn 0 n 1):=by simp[A0t,hb5]
 have l1:A0t false 1 H (.ptr kn v)=some (rowP eStr (b v) (l v)):=by simp only[A0t,hrow,Bool.false_eq_true,if_false,D3e b l hv]
 have i1:=A7u kn n v hv;by_cases hbv:l v=[]\/b v<nx
 ·obtain⟨b0,hb0,hb0l,hb0s⟩:∃b0,rowP eStr (b v) (l v)=rowP eStr b0 (l v)/\b0<nx/\(A0z eStr tyS H b0 (l v)/\∀c∈Sp,l v≠[]->c≠b0):=by
   by_cases he:l v=[]
   ·refine⟨kn,by rw[he];rfl,hknl,.inl he,fun _ _ h=>absurd he h⟩
   ·exact⟨b v,rfl,hbv.resolve_left he,hS.at_ v hv,fun c hc h e=>(hS.fr v hv h).1 (e▸hc)⟩
  by_cases he:l v=[]
  ·
   have ap:appM tyS 1 16 H nx (.t nilS) (.t (.sl 1 [sv s]))=some (rowP eStr nx ([]++[s]),(nx,A0l eStr tyS ([]++[s]))::H,nx+1):=by
    have hs:srcP H eStr.z (.t (.sl 1 [sv s]))=some ([s].length,([s].flatMap eStr.enc).map .t):=by
     have:T.sl 1 [sv s]=slT eStr [s]:=by simp[slT,eStr]
     rw[this];exact B2f (.inr rfl)
    exact C6y (e:=eStr) (ty:=tyS) (by':=16) (nx:=nx) (b:=0) (l:=[]) (m:=[s]) (.inl rfl) hs (by simp) (by simp)
   obtain⟨H2,hH2⟩:∃H2:Heap,H2=(nx,A0l eStr tyS [s])::H:=⟨_,rfl⟩
   rw[List.nil_append,<-hH2]at ap
   have k2:∀c,c<nx->Abs.look H2 c=Abs.look H c:=fun c h=>by rw[hH2,look_cons,if_neg (by omega)]
   have st:=A1z (H:=H2) (b:=kn) (o:=v) (n:=1) (by rw[k2 kn hknl];exact hrow) (A2v eStr nx [s]) rfl (by rw[C2u];omega);rw[show A2m (nxC n b l) v [rowP eStr nx [s]]=(nxC n b l).set v (rowP eStr nx [s])from rfl,E9s hv]at st
   obtain⟨H3,hH3⟩:∃H3,H3=Abs.upd H2 kn (.cells tyN (nxC n (fun w=>if w=v then nx else b w) (fun w=>if w=v then [s]else l w))):=⟨_,rfl⟩
   rw[<-hH3]at st
   have l5':A0t false 1 H2 (.ptr k5 0)=some (.row kn 0 n 1):=by simp[A0t,k2 k5 hk5l,hb5]
   have k3:∀c,c≠kn->Abs.look H3 c=Abs.look H2 c:=fun c h=>by rw[hH3,A0f,if_neg h]
   refine B8x.callX rfl ?_;(conv in A4n=>cbv);refine A0r A0g ?_;rw[he]at l1;have l1:A0t false 1 H (.ptr kn v)=some (.t nilS):=l1;simp -implicitDefEqProofs [l5,i1,l1,E9m,ap,l5',st];refine B4n ⟨.t (.tu []),H3,nx+1⟩ ⟨rfl,rfl,⟨⟨tyN,?_⟩,?_,?_,?_,fun c hc=>Nat.lt_succ_of_lt (hS.sp c hc),hS.kn⟩,fun c hc hne=>?_,fun hf=>?_⟩ (by simp -implicitDefEqProofs)
   ·show Abs.look H3 kn=_;rw[he,List.nil_append,hH3,A0f,if_pos rfl,k2 kn hknl,hrow];rfl
   ·intro w hw;show A0z eStr tyS H3 (if w=v then nx else b w) (if w=v then l v++[s]else l w);by_cases e:w=v
    ·rw[if_pos e,if_pos e,he];right;rw[k3 nx (by omega),hH2,look_cons,if_pos rfl];rfl
    ·rw[if_neg e,if_neg e]
     by_cases hne:l w=[]
     ·exact .inl hne
     ·have:=hS.fr w hw hne
      exact(hS.at_ w hw).imp id fun e2=>by rw[k3 (b w) (fun e3=>this.1 (e3▸hS.kn)),k2 (b w) this.2];exact e2
   ·intro w hw hne;show(if w=v then nx else b w)∉Sp/\(if w=v then nx else b w)<nx+1;by_cases e:w=v
    ·rw[if_pos e];exact⟨fun hm=>by have:=hS.sp nx hm;omega,by omega⟩
    ·rw[if_neg e]at hne ⊢;have:=hS.fr w hw hne;exact⟨this.1,by omega⟩
   ·intro w w' hw hw' hne hne' heq;have heq:(if w=v then nx else b w)=(if w'=v then nx else b w'):=heq;by_cases e:w=v
    ·by_cases e':w'=v
     ·rw[e,e']
     ·rw[if_pos e,if_neg e']at heq;rw[if_neg e']at hne';have:=(hS.fr w' hw' hne').2;omega
    ·rw[if_neg e]at hne;have h1:=(hS.fr w hw hne).2;by_cases e':w'=v
     ·rw[if_neg e,if_pos e']at heq;omega
     ·rw[if_neg e']at hne';rw[if_neg e,if_neg e']at heq;exact hS.inj w w' hw hw' hne hne' heq
   ·have:=hS.sp c hc;show Abs.look H3 c=_;rw[k3 c hne,k2 c this]
   ·show Frs H3 (nx+1);rw[hH3,hH2];exact(hf.cons (Nat.lt_succ_self _) (Nat.le_succ _)).upd
  ·
   have hb0':=(hS.fr v hv he).2;obtain⟨H2,a2,b2,c2,f2⟩:=appT (by':=16) (nx:=nx) s 1 rfl [sv s] rfl (hS.at_ v hv) hb0' (by omega) (by omega);have hbsp:=(hS.fr v hv he).1;have ks:∀c∈Sp,Abs.look H2 c=Abs.look H c:=fun c hc=>c2 c (hS.sp c hc) (fun e=>hbsp (e▸hc));have st:=A1z (H:=H2) (b:=kn) (o:=v) (n:=1) (by rw[ks kn hS.kn];exact hrow) (A2v eStr nx (l v++[s])) rfl (by rw[C2u];omega);rw[show A2m (nxC n b l) v [rowP eStr nx (l v++[s])]=(nxC n b l).set v (rowP eStr nx (l v++[s]))from rfl,E9s hv]at st
   obtain⟨H3,hH3⟩:∃H3,H3=Abs.upd H2 kn (.cells tyN (nxC n (fun w=>if w=v then nx else b w) (fun w=>if w=v then l v++[s]else l w))):=⟨_,rfl⟩
   rw[<-hH3]at st
   have l5':A0t false 1 H2 (.ptr k5 0)=some (.row kn 0 n 1):=by simp[A0t,ks k5 hk5,hb5]
   have k3:∀c,c≠kn->Abs.look H3 c=Abs.look H2 c:=fun c h=>by rw[hH3,A0f,if_neg h]
   refine B8x.callX rfl ?_;(conv in A4n=>cbv);refine A0r A0g ?_;simp -implicitDefEqProofs [l5,i1,l1,E9m,a2,l5',st];refine B4n ⟨.t (.tu []),H3,nx+1⟩ ⟨rfl,rfl,⟨⟨tyN,?_⟩,?_,?_,?_,fun c hc=>Nat.lt_succ_of_lt (hS.sp c hc),hS.kn⟩,fun c hc hne=>?_,fun hf=>?_⟩ (by simp -implicitDefEqProofs)
   ·show Abs.look H3 kn=_;rw[hH3,A0f,if_pos rfl,ks kn hS.kn,hrow];rfl
   ·intro w hw;show A0z eStr tyS H3 (if w=v then nx else b w) (if w=v then l v++[s]else l w);by_cases e:w=v
    ·rw[if_pos e,if_pos e]
     exact b2.imp id fun e2=>by rw[k3 nx (by omega)];exact e2
    ·rw[if_neg e,if_neg e]
     by_cases hne:l w=[]
     ·exact .inl hne
     ·have h1:=hS.fr w hw hne
      exact(hS.at_ w hw).imp id fun e2=>by rw[k3 (b w) (fun e3=>h1.1 (e3▸hS.kn)),c2 (b w) h1.2 (fun e3=>e (hS.inj w v hw hv hne he e3))];exact e2
   ·intro w hw hne;show(if w=v then nx else b w)∉Sp/\(if w=v then nx else b w)<nx+1;by_cases e:w=v
    ·rw[if_pos e];exact⟨fun hm=>by have:=hS.sp nx hm;omega,by omega⟩
    ·rw[if_neg e]at hne ⊢;have:=hS.fr w hw hne;exact⟨this.1,by omega⟩
   ·intro w w' hw hw' hne hne' heq;have heq:(if w=v then nx else b w)=(if w'=v then nx else b w'):=heq;by_cases e:w=v
    ·by_cases e':w'=v
     ·rw[e,e']
     ·rw[if_pos e,if_neg e']at heq;rw[if_neg e']at hne';have:=(hS.fr w' hw' hne').2;omega
    ·rw[if_neg e]at hne;have h1:=(hS.fr w hw hne).2;by_cases e':w'=v
     ·rw[if_neg e,if_pos e']at heq;omega
     ·rw[if_neg e']at hne';rw[if_neg e,if_neg e']at heq;exact hS.inj w w' hw hw' hne hne' heq
   ·show Abs.look H3 c=_;rw[k3 c hne,ks c hc]
   ·show Frs H3 (nx+1);rw[hH3];exact(f2 hf).upd
 ·exact absurd (by
   by_cases he:l v=[]
   ·exact .inl he
   ·exact .inr (hS.fr v hv he).2) hbv
theorem NxS.cons {Sp:List Nat} {H:Heap} {nx kn n:Nat} {b:Nat->Nat} {l:Nat->List ByteArray} (h:NxS Sp H nx kn n b l) (r:Row):NxS (nx::Sp) ((nx,r)::H) (nx+1) kn n b l:=by
 have hk:=h.sp kn h.kn;obtain⟨ty,hr⟩:=h.row;refine⟨⟨ty,by rw[look_cons,if_neg (by omega)];exact hr⟩,fun v hv=>?_,fun v hv hne=>?_,h.inj,fun c hc=>?_,List.mem_cons_of_mem _ h.kn⟩
 ·by_cases he:l v=[]
  ·exact .inl he
  ·have:=(h.fr v hv he).2
   exact(h.at_ v hv).imp id fun e=>by rw[look_cons,if_neg (by omega)];exact e
 ·have:=h.fr v hv hne;refine⟨fun hm=>?_,by omega⟩;rcases List.mem_cons.1 hm with e | e
  ·omega
  ·exact this.1 e
 ·rcases List.mem_cons.1 hc with e | e
  ·omega
  ·exact Nat.lt_succ_of_lt (h.sp c e)
theorem NxS.less {Sp Sp':List Nat} {H:Heap} {nx kn n:Nat} {b:Nat->Nat} {l:Nat->List ByteArray} (h:NxS Sp H nx kn n b l) (hs:∀c∈Sp',c∈Sp) (hk:kn∈Sp'):NxS Sp' H nx kn n b l:=
 ⟨h.row,h.at_,fun v hv hne=>⟨fun hm=>(h.fr v hv hne).1 (hs _ hm),(h.fr v hv hne).2⟩,h.inj,fun c hc=>h.sp c (hs c hc),hk⟩
theorem NxS.zero {Sp:List Nat} {H:Heap} {nx kn n ty:Nat} (hr:Abs.look H kn=some (.cells ty (List.replicate n (.t nilS)))) (hs:∀c∈Sp,c<nx) (hk:kn∈Sp):NxS Sp H nx kn n (fun _=>0) (fun _=>[]):=by
 refine⟨⟨ty,?_⟩,fun v _=>.inl rfl,fun v _ h=>absurd rfl h,fun v w _ _ h=>absurd rfl h,hs,hk⟩;rw[hr];congr 2;unfold nxC;refine List.ext_getElem? fun i=>?_;rw[List.getElem?_replicate,List.getElem?_map];by_cases hi:i<n
 ·rw[if_pos hi,List.getElem?_range hi];rfl
 ·rw[if_neg hi,List.getElem?_eq_none (by simp;omega)];rfl
noncomputable def gPd:List T->Option T
 | [t1,t2]=>open Classical in match tEp.dec t1,(tSl eStr).dec t2 with
  | some x,some out=>if inE out.length x.x/\x.x.args.length<=1000/\(preS out x.x).length<=1000000000 then some (sv (ob (preS out x.x)))else none
  | _,_=>none
 | _=>none
theorem hPd:GOK Tryz.prog (G q) 73 gPd:=fun args r hr=>by
 unfold gPd at hr;split at hr
 ·rename_i t1 t2;split at hr
  ·rename_i x out h1 h2;split at hr
   ·rename_i h;injection hr with hr;subst hr;have e1:t1 = .ag x.cs:=tEp.is_dec h1;subst e1;exact E9o x.ok ((tSl eStr).is_dec h2) h.1 h.2.1 h.2.2
   ·cases hr
  ·cases hr
 ·cases hr
theorem G1u {x:EC} {t:T} {out:List ByteArray} (ht:IsS eStr t out) (hin:inE out.length x.x) (hal:x.x.args.length<=1000) (hsz:(preS out x.x).length<=1000000000):gPd [.ag x.cs,t]=some (sv (ob (preS out x.x))):=by
 simp only[gPd];rw[tEp.dec_is (a:=x) rfl,(tSl eStr).dec_is ht];exact if_pos ⟨hin,hal,hsz⟩
theorem B7p {H:Heap} {nx:Nat} {t:T} {l:List ByteArray} (ht:t=slT eStr l) (hne:l≠[]) (hl:l.length<=1000000) :
  ∃f:Fin,(f.r = .row (nx+1) 0 l.length 1/\f.nx=nx+2/\Abs.look f.H (nx+1)=some (A0l eStr tyS l)/\(∀c,c<nx->Abs.look f.H c=Abs.look H c)/\(Frs H nx->Frs f.H (nx+2))) /\
   A3n Tryz.prog (G q) 46 [.t t] H nx f.r f.H f.nx:=by
 subst ht;have hs:srcP ((nx,.cells tyS [])::H) eStr.z (.t (slT eStr l))=some (l.length,(l.flatMap eStr.enc).map .t):=B2f (.inr rfl);have ap:=B2l (e:=eStr) (ty:=tyS) (b:=nx) (l:=[]) (H:=(nx,.cells tyS [])::H) (by':=16) (nx:=nx+1) (m:=l) (by rw[look_cons,if_pos rfl];rfl) hs (by simp;omega) (by simp;omega);rw[List.nil_append]at ap;have hz:eStr.z=1:=rfl;rw[hz]at ap
 obtain⟨H2,hH2⟩:∃H2:Heap,H2=(nx+1,A0l eStr tyS l)::rem ((nx,.cells tyS [])::H) nx:=⟨_,rfl⟩
 have ap:appM tyS 1 16 ((nx,.cells tyS [])::H) (nx+1) (.row nx 0 0 1) (.t (slT eStr l))=some (.row (nx+1) 0 l.length 1,H2,nx+2):=by rw[hH2];exact ap
 refine C3x.callX rfl ?_;(conv in B3v=>cbv);refine A0b A0g ?_;simp -implicitDefEqProofs;refine A0b A0g ?_;have ev:∀(Φ:A0u) (H:Heap) (nx:Nat),A0i Φ H nx (.bin false .eql (some .sl)) [.t (slT eStr l),.t (.v (.slice none 0 0))]=some (.t (.v (.bool false)),H,nx):=fun _ _ _=>rfl;simp -implicitDefEqProofs [ev];refine A0r A0g ?_;simp -implicitDefEqProofs [E8y,ap]
 exact A1u ⟨.row (nx+1) 0 l.length 1,H2,nx+2⟩ ⟨rfl,rfl,by show Abs.look H2 (nx+1)=_;rw[hH2,look_cons,if_pos rfl],fun c hc=>by
  show Abs.look H2 c=_
  rw[hH2,look_cons,if_neg (by omega),A1e,if_neg (by omega),look_cons,if_neg (by omega)],fun hf=>by
  show Frs H2 (nx+2);rw[hH2]
  exact((hf.cons (Nat.lt_succ_self _) (Nat.le_succ _)).rem).cons (by omega) (by omega)⟩ (by simp -implicitDefEqProofs)
def adJ (out:List ByteArray) (m:Mr) (i:Nat):List (Int×ByteArray):=(m.top,wTop)::(m.index,D8l)::(m.rels.take i).flatMap (addE out)
def adI (out:List ByteArray) (m:Mr) (i:Nat) (x:Ep) (j:Nat):List (Int×ByteArray):=adJ out m i++(x.label,ob (C7e++preS out x))::(x.args.take j).map fun a=>(a.var,ob (wb a.role++32::preS out x))
def adK (out:List ByteArray) (m:Mr) (i:Nat):List (Int×ByteArray):=adJ out m m.rels.length++(m.cons.take i).flatMap (addQ out)
section
variable {out : List ByteArray} {m : Mr} {i j : Nat} {x : Ep}
theorem F4i:adI out m i x 0=adJ out m i++[(x.label,ob (C7e++preS out x))]:=by simp[adI]
theorem F4j {a:Ag} (h:x.args[j]?=some a):adI out m i x (j+1)=adI out m i x j++[(a.var,ob (wb a.role++32::preS out x))]:=by
 unfold adI;rw[List.take_add_one,h];simp
theorem F4k (h:m.rels[i]?=some x):adJ out m (i+1)=adI out m i x x.args.length:=by
 unfold adJ adI;rw[List.take_add_one,h,List.take_length];simp[addE,adJ]
theorem F4l {c:Qq} (h:m.cons[i]?=some c):adK out m (i+1)=adK out m i++[(c.high,ob (E6y++wb (vS out c.low)))]++[(c.low,ob (F6u++wb (vS out c.high)))]:=by
 unfold adK;rw[List.take_add_one,h];simp[addQ]
theorem E9v:adK out m m.cons.length=adds out m:=by
 unfold adK adJ adds;rw[List.take_length,List.take_length];rfl
theorem F4m (x:Ep):(addE out x).length=(occE x).length:=by simp[addE,occE]
theorem D6l:(adJ out m i).length=(occJ m i).length:=by
 unfold adJ occJ;simp only[List.length_cons,List.length_flatMap,F4m]
theorem F8g:(adI out m i x j).length=(occI m i x j).length:=by
 unfold adI occI;rw[List.length_append,List.length_append,D6l];simp
theorem D6m:(adK out m i).length=(occK m i).length:=by
 unfold adK occK;rw[List.length_append,List.length_append,D6l];simp only[List.length_flatMap];rfl
end
theorem C2v {out:List ByteArray} (h:∀s∈out,(wb s).length<=32) (x:Int):(wb (vS out x)).length<=32:=by
 unfold vS;rw[List.getD_eq_getElem?_getD]
 cases hx:out[x.toNat]? with
 | none=>simp
 | some s=>exact h s (List.mem_of_getElem? hx)
structure SzN (m:Mr):Prop where
 p:∀x∈m.rels,(wb x.pred).length<=32
 a:∀x∈m.rels,∀a∈x.args,(wb a.role).length<=32
 v:∀s∈m.vars,(wb s).length<=32
theorem szN {m:Mr} (h:A7q A0h m):SzN m:=⟨fun x hx=>B6c (A9k (h.preds x hx)).1,fun x hx a ha=>B6c ((A9k (h.preds x hx)).2 a ha),fun s hs=>by
 obtain⟨c,rfl,_⟩:=B1v (h.sorts s hs)
 show 1<=32;omega⟩
theorem E9w {m:Mr} (hz:SzN m) (hs:SmM m) {out:List ByteArray} (ho:∀s∈out,(wb s).length<=32) {x:Ep} (hx:x∈m.rels):(preS out x).length<=70000:=by
 have h1:=hz.p x hx;have h2:=C2v ho x.label
 have h3:(x.args.flatMap (argS out)).length<=x.args.length*66:=by
  have:∀l:List Ag,(∀a∈l,(wb a.role).length<=32)->(l.flatMap (argS out)).length<=l.length*66:=fun l=>by
   induction l with
   | nil=>intro _;simp
   | cons a l ih=>
    intro h;have ha:=h a (by simp);have hv:=C2v ho a.var;have:=ih fun b hb=>h b (by simp[hb])
    have hA:(argS out a).length=1+((wb a.role).length+(1+(wb (vS out a.var)).length)):=by
     unfold argS;simp only[List.length_cons,List.length_append];omega
    rw[List.flatMap_cons,List.length_append,List.length_cons,Nat.succ_mul];omega
  exact this _ (hz.a x hx)
 have h4:=hs.args x hx;have h5:x.args.length*66<=1000*66:=Nat.mul_le_mul_right _ h4;unfold preS;simp only[List.length_append,List.length_cons,List.length_nil];omega
theorem F8h {m:Mr} (hz:SzN m) (hs:SmM m) {out:List ByteArray} (ho:∀s∈out,(wb s).length<=32):∀p∈adds out m,(wb p.2).length<=80000:=fun p hp=>by
 simp only[adds,List.mem_cons,List.mem_append,List.mem_flatMap]at hp;rcases hp with rfl | rfl | ⟨x,hx,hp⟩ | ⟨c,hc,hp⟩
 ·show 3<=80000;omega
 ·show 5<=80000;omega
 ·have h1:=E9w hz hs ho hx;unfold addE at hp;rcases List.mem_cons.1 hp with rfl | hp
  ·rw[A3o,List.length_append];show 6+_<=80000;omega
  ·obtain⟨g,hg,rfl⟩:=List.mem_map.1 hp;have:=hz.a x hx g hg;rw[A3o,List.length_append,List.length_cons];omega
 ·have h1:=C2v ho c.low;have h2:=C2v ho c.high;unfold addQ at hp;simp only[List.mem_cons,List.not_mem_nil,or_false]at hp;rcases hp with rfl | rfl
  ·rw[A3o,List.length_append];show 5+_<=80000;omega
  ·rw[A3o,List.length_append];show 4+_<=80000;omega
structure PfS (X:Row) (out:List ByteArray) (Sp:List Nat) (A:List (Int×ByteArray)) (H:Heap) (nx ko kn k5 n:Nat):Prop where
 x:Abs.look H 0=some X
 o:Abs.look H ko=some (A0l eStr tyS out)
 b5:∃ty,Abs.look H k5=some (.cells ty [.row kn 0 n 1])
 nxs:∃b,NxS Sp H nx kn n b fun v:Nat=>nxt A (v:Int)
 m0:0∈Sp
 mo:ko∈Sp
 m5:k5∈Sp
 n0:0≠kn
 no:ko≠kn
 n5:k5≠kn
theorem PfS.add {X:Row} {out:List ByteArray} {Sp:List Nat} {A:List (Int×ByteArray)} {H:Heap} {nx ko kn k5 n:Nat} (h:PfS X out Sp A H nx ko kn k5 n) {v:Int} (hv:inR n v) (s:ByteArray) (hl:A.length<=1000000000) :
  ∃(H':Heap) (nx':Nat) (t:List PV->Heap->Nat->Option (PV×Heap×Nat)),t [.t (.v (.int .i64 v)),.t (.v (.string s)),.ptr k5 0] H nx=some (.t (.tu []),H',nx')/\HOK Tryz.prog (G q) 72 t /\
   PfS X out Sp (A++[(v,s)]) H' nx' ko kn k5 n/\∀c∈Sp,c≠kn->Abs.look H' c=Abs.look H c:=by
 obtain⟨b,hb⟩:=h.nxs
 obtain⟨w,rfl⟩:∃w:Nat,v=(w:Int):=⟨v.toNat,by have:=hv.1;omega⟩
 have hw:w<n:=by have:=hv.2;omega
 obtain⟨⟨r,H',nx'⟩,⟨h1,h2,h3,h4,h5⟩,hc⟩:=F4h (q:=q) hb h.b5 h.m5 h.n5 hw s (Nat.le_trans (E9u A _) hl);simp only at h1 h2 h3 h4 h5 hc;subst h1;subst h2;obtain⟨t,t1,t2⟩:=hAt hc h5;refine⟨H',nx+1,t,t1,t2,⟨by rw[h4 0 h.m0 h.n0];exact h.x,by rw[h4 ko h.mo h.no];exact h.o,by rw[h4 k5 h.m5 h.n5];exact h.b5,⟨fun u=>if u=w then nx else b u,?_⟩,h.m0,h.mo,h.m5,h.n0,h.no,h.n5⟩,h4⟩
 ·have e:(fun u:Nat=>nxt (A++[((w:Int),s)]) (u:Int))=fun u:Nat=>if u=w then nxt A (w:Int)++[s]else nxt A (u:Int):=by
   funext u;rw[F8e];by_cases e:u=w
   ·subst e;rw[if_pos rfl,if_pos rfl]
   ·rw[if_neg e,if_neg (by omega)]
  rw[e];exact h3
theorem PfS.push {X:Row} {out:List ByteArray} {Sp:List Nat} {A:List (Int×ByteArray)} {H:Heap} {nx ko kn k5 n:Nat} (h:PfS X out Sp A H nx ko kn k5 n) (r:Row):PfS X out (nx::Sp) A ((nx,r)::H) (nx+1) ko kn k5 n:=by
 obtain⟨b,hb⟩:=h.nxs;have h0:=hb.sp 0 h.m0;have ho:=hb.sp ko h.mo;have h5:=hb.sp k5 h.m5;exact⟨by rw[look_cons,if_neg (by omega)];exact h.x,by rw[look_cons,if_neg (by omega)];exact h.o,by rw[look_cons,if_neg (by omega)];exact h.b5,⟨b,hb.cons r⟩,List.mem_cons_of_mem _ h.m0,List.mem_cons_of_mem _ h.mo,List.mem_cons_of_mem _ h.m5,h.n0,h.no,h.n5⟩
theorem PfS.less {X:Row} {out:List ByteArray} {Sp Sp':List Nat} {A:List (Int×ByteArray)} {H:Heap} {nx ko kn k5 n:Nat} (h:PfS X out Sp A H nx ko kn k5 n) (hs:∀c∈Sp',c∈Sp) (m0:0∈Sp') (mo:ko∈Sp') (m5:k5∈Sp') (mk:kn∈Sp'):PfS X out Sp' A H nx ko kn k5 n:=by
 obtain⟨b,hb⟩:=h.nxs;exact⟨h.x,h.o,h.b5,⟨b,hb.less hs mk⟩,m0,mo,m5,h.n0,h.no,h.n5⟩
theorem PfS.nx0 {X:Row} {out:List ByteArray} {Sp:List Nat} {A:List (Int×ByteArray)} {H:Heap} {nx ko kn k5 n:Nat} (h:PfS X out Sp A H nx ko kn k5 n):0<nx/\ko<nx/\k5<nx/\kn<nx:=by
 obtain⟨b,hb⟩:=h.nxs;exact⟨hb.sp 0 h.m0,hb.sp ko h.mo,hb.sp k5 h.m5,hb.sp kn hb.kn⟩
def outI (m:Mr):Nat->List ByteArray
 | 0=>m.vars
 | i+1=>rnd Hsh srtS m (outI m i)
theorem E0r (m:Mr):∀i,(outI m i).length=m.vars.length
 | 0=>rfl
 | i+1=>by
  show(rnd Hsh srtS m (outI m i)).length=_;unfold rnd;rw[List.length_map,A2u]
theorem F8i {m:Mr} (hz:SzN m):∀i,∀s∈outI m i,(wb s).length<=32
 | 0=>hz.v
 | i+1=>fun s hs=>by
  have hs:s∈rnd Hsh srtS m (outI m i):=hs;unfold rnd at hs;obtain⟨v,_,rfl⟩:=List.mem_map.1 hs;exact Nat.le_trans (F8d _ _) (by omega)
theorem mkF1 (f:Fn) (k:Nat):exM (.mkf f 0) [.ptr k 0]=some (.fn f [] [.ptr k 0]):=rfl
structure PfC where
 H:Heap
 nx:Nat
 ko:Nat
 i:Nat
structure PfD where
 H:Heap
 nx:Nat
 i:Nat
def SPf (n:Nat) (c:PfC):A0c:=⟨[(4,.t (iv (c.i:Int))),(3,.row c.ko 0 n 1),(1,.ptr 0 0)],c.H,c.nx,99⟩
abbrev fnA (k:Nat):PV:=.fn (.func 72) [] [.ptr k 0]
def SPg (tr:T) (r n ko k5 N:Nat) (c:PfD):A0c:=⟨[(36,.t (iv (c.i:Int))),(35,.t (iv (N:Int))),(34,.t tr),(6,fnA k5),(5,.ptr k5 0),(4,.t (iv (r:Int))),(3,.row ko 0 n 1),(1,.ptr 0 0)],c.H,c.nx,99⟩
def SPh (tc:T) (r n ko k5 N:Nat) (c:PfD):A0c:=⟨[(70,.t (iv (c.i:Int))),(69,.t (iv (N:Int))),(68,.t tc),(6,fnA k5),(5,.ptr k5 0),(4,.t (iv (r:Int))),(3,.row ko 0 n 1),(1,.ptr 0 0)],c.H,c.nx,99⟩
def SPk (tr ta:T) (s9:ByteArray) (i r n ko k5 N M:Nat) (c:PfD):A0c:=⟨[(52,.t (iv (c.i:Int))),(51,.t (iv (M:Int))),(50,.t ta),(9,.t (sv s9)),(36,.t (iv (i:Int))),(35,.t (iv (N:Int))),(34,.t tr),(6,fnA k5),(5,.ptr k5 0),(4,.t (iv (r:Int))),(3,.row ko 0 n 1),(1,.ptr 0 0)],c.H,c.nx,99⟩
theorem B6f {m:Mr} {cs:List T} (hm:IsMr m cs) (hs:SmM m) (hL:A7q A0h m) (hoc:(occ m).length<=900):A1d Tryz.prog (G q) 44 [.ag cs] (· = slT eStr (prof Hsh srtS m)):=by
 have hz:=szN hL;have ho:=hL.ok;obtain⟨tv,tr,tc,rl,rfl,hv,hr,hrm,hc⟩:=hm
 obtain⟨X,hX⟩:∃X,X=mRow [iv m.top,iv m.index,tv,tr,tc]:=⟨_,rfl⟩
 have ld:∀{H:Heap},Abs.look H 0=some X->LdM (iv m.top) (iv m.index) tv tr tc H 0:=fun h=>ldM (by rw[h,hX]);have lr:=hr.len;have lc:=hc.len
 have hrl:rl.length=m.rels.length:=by rw[<-hrm,List.length_map]
 have hsr:=hs.rels;have hsc:=hs.cons;have hsv:=hs.vars;have cd:=cd5 (iv m.top) (iv m.index) tv tr tc
 have hn0:0<m.vars.length:=by have:=ho.top.1;have:=ho.top.2;omega
 have hne:m.vars≠[]:=fun e=>by rw[e]at hn0;simp at hn0
 have hvt:tv=slT eStr m.vars:=hv.resolve_left fun h=>hne h.2
 obtain⟨n,hn⟩:∃n,n=m.vars.length:=⟨_,rfl⟩
 obtain⟨R,hR⟩:∃R,R=slT eStr (prof Hsh srtS m):=⟨_,rfl⟩
 have hR3:R=slT eStr (outI m 3):=hR;rw[<-hR];refine C3t.call rfl ?_;(conv in B3r=>cbv);refine A0a A0g ?_;simp -implicitDefEqProofs [cd];rw[show Row.cells 26 [.t (iv m.top),.t (iv m.index),.t tv,.t tr,.t tc]=X from hX.symm];have z0:=ld (H:=[(0,X)]) rfl;obtain⟨⟨r1,H1,n1⟩,⟨a1,a2,a3,a4,a5⟩,hcl⟩:=B7p (q:=q) (H:=[(0,X)]) (nx:=1) hvt hne (by omega);simp only at a1 a2 a3 a4 a5 hcl;subst a1;subst a2;obtain⟨t1,o1,ok1⟩:=hAt hcl a5;refine A0a (A0s.nil.ctxH (A0v.cons ok1 .nil) mixed) ?_;simp -implicitDefEqProofs [z0.l2,o1];refine A0q (fun c:PfC=>⟨[(3,.row c.ko 0 n 1)],c.H,c.nx,99⟩) (fun c=>Abs.look c.H c.ko=some (A0l eStr tyS (outI m 3))) (fun _=>rfl) ?_ ?_
 ·refine A0a A0g ?_;simp -implicitDefEqProofs;refine A0j ?_;refine A0n (SPf n) (fun c=>3-c.i) (fun c=>Abs.look c.H 0=some X/\Abs.look c.H c.ko=some (A0l eStr tyS (outI m c.i))/\0<c.ko/\c.ko<c.nx/\c.i<=3) ⟨H1,3,2,0⟩ (fun _=>rfl) ⟨by rw[a4 0 (by omega)];rfl,a3,by show 0<2;omega,by show 2<3;omega,by show 0<=3;omega⟩ ?_ rfl ?_
  ·exact A0d (by simp -implicitDefEqProofs [SPf,hn])
  rintro⟨H,nx,ko,r⟩ ⟨h0,hko,k0,kl,hr3⟩;simp only at h0 hko k0 kl hr3;by_cases hlt:r<3
  ·have hlti:(r:Int)<3:=by omega
   obtain⟨out,hout⟩:∃out,out=outI m r:=⟨_,rfl⟩
   have hol:out.length=n:=by rw[hout,E0r,hn]
   have hosz:∀s∈out,(wb s).length<=32:=by rw[hout];exact F8i hz r
   have hnext:outI m (r+1)=rnd Hsh srtS m out:=by rw[hout];rfl
   rw[<-hout]at hko;have w1:IntKind.i64.wrap ((r:Int)+1)=((r+1:Nat):Int):=A0k (by omega) (by omega);have hTo:IsS eStr (slT eStr out) out:=.inr rfl;have mk:=C8o (ty:=22) (by':=24) (n:=n) (nx:=nx) (.slice none 0 0) (by omega) (by omega)
   have lko:∀{H:Heap},Abs.look H ko=some (A0l eStr tyS out)->toT H (.row ko 0 n 1)=some (slT eStr out,[ko]):=fun h=>by
    have:=A2s (e:=eStr) h;rw[hol]at this;exact this
   have tPd:∀{H:Heap} (x:T),Abs.look H ko=some (A0l eStr tyS out)->toTs H [.t x,.row ko 0 n 1]=some ([x,slT eStr out],[ko]):=fun x h=>by
    simp only[toTs,F4a,lko h];rfl
   have iv1:∀v:Int,inR m.vars.length v->A2e 1 (.row ko 0 n 1) (.t (iv v))=some (.ptr ko v.toNat):=fun v hv=>by
    obtain⟨k,rfl⟩:∃k:Nat,v=(k:Int):=⟨v.toNat,by have:=hv.1;omega⟩
    exact A7u ko n k (by have:=hv.2;omega)
   have lv1:∀{H:Heap} (v:Int),inR m.vars.length v->Abs.look H ko=some (A0l eStr tyS out)->A0t false 1 H (.ptr ko v.toNat)=some (.t (sv (vS out v))):=fun v hv h=>by
    obtain⟨k,rfl⟩:∃k:Nat,v=(k:Int):=⟨v.toNat,by have:=hv.1;omega⟩
    exact B1s (e:=eStr) (c:=sv (vS out (k:Int))) h (B5x (by have:=hv.2;omega)) rfl rfl
   obtain⟨kn,hkn⟩:∃kn,kn=nx:=⟨_,rfl⟩
   obtain⟨k5,hk5⟩:∃k5,k5=nx+1:=⟨_,rfl⟩
   obtain⟨n2,hn2⟩:∃n2,n2=nx+2:=⟨_,rfl⟩
   obtain⟨Hm,hHm⟩:∃Hm:Heap,Hm=(nx,.cells 22 (List.replicate n (.t nilS)))::H:=⟨_,rfl⟩
   obtain⟨Hb,hHb⟩:∃Hb:Heap,Hb=(nx+1,.cells 99 [.row nx 0 n 1])::Hm:=⟨_,rfl⟩
   have stb:∀p,A0x 1 ((nx+1,.cells 99 [p])::Hm) (.ptr (nx+1) 0) (.row nx 0 n 1)=some Hb:=fun p=>by
    have:A1g (.row nx 0 n 1)=some [.row nx 0 n 1]:=rfl;rw[hHb];simp[A0x,this,upd,A2m]
   have kb:∀c,c<nx->Abs.look Hb c=Abs.look H c:=fun c h=>by rw[hHb,look_cons,if_neg (by omega),hHm,look_cons,if_neg (by omega)]
   have P0:PfS X out [0,ko,k5,kn] [] Hb n2 ko kn k5 n:=by
    rw[hk5,hkn,hn2];refine⟨by rw[kb 0 (by omega)];exact h0,by rw[kb ko kl];exact hko,⟨_,by rw[hHb,look_cons,if_pos rfl]⟩,⟨fun _=>0,?_⟩,by simp,by simp,by simp,by omega,by omega,by omega⟩;refine NxS.zero (ty:=22) (by rw[hHb,look_cons,if_neg (by omega),hHm,look_cons,if_pos rfl]) (fun c hc=>?_) (by simp);simp only[List.mem_cons,List.not_mem_nil,or_false]at hc;omega
   obtain⟨H2,n3,t2,o2,ok2,P2,K2⟩:=P0.add (q:=q) (v:=m.top) (by rw[hn];exact ho.top) wTop (by simp);obtain⟨H3,n4,t3,o3,ok3,P3,K3⟩:=P2.add (q:=q) (v:=m.index) (by rw[hn];exact ho.index) D8l (by simp);have o2:t2 [.t (.v (.int .i64 m.top)),.t (.v (.string ⟨#[116,111,112]⟩)),.ptr k5 0] Hb n2=some (.t (.tu []),H2,n3):=o2;have o3:t3 [.t (.v (.int .i64 m.index)),.t (.v (.string ⟨#[105,110,100,101,120]⟩)),.ptr k5 0] H2 n3=some (.t (.tu []),H3,n4):=o3
   have P3:PfS X out [0,ko,k5,kn] (adJ out m 0) H3 n4 ko kn k5 n:=by
    have e:[]++[(m.top,wTop)]++[(m.index,D8l)]=adJ out m 0:=by simp[adJ]
    rw[<-e];exact P3
   have zb:=ld P0.x;have z2:=ld P2.x;have z3:=ld P3.x;refine A0a A0g ?_;simp -implicitDefEqProofs [SPf,hlti,hlt];refine A0q (fun c:PfC=>⟨[(4,.t (iv (r:Int))),(3,.row c.ko 0 n 1),(1,.ptr 0 0)],c.H,c.nx,99⟩) (fun c=>Abs.look c.H 0=some X/\Abs.look c.H c.ko=some (A0l eStr tyS (outI m (r+1)))/\0<c.ko/\c.ko<c.nx) (fun _=>rfl) ?_ ?_
   ·refine A0j ?_;refine A0a A0g ?_;simp -implicitDefEqProofs [A8f,mk];rw[<-hHm];simp -implicitDefEqProofs [stb];refine A0a A0g ?_;simp -implicitDefEqProofs [mkF1];refine MC.sub (s':=⟨[(6,fnA k5),(5,.ptr k5 0),(4,.t (iv (r:Int))),(3,.row ko 0 n 1),(1,.ptr 0 0)],Hb,n2,99⟩) (by rw[hn2,hk5];exact A0d (by simp -implicitDefEqProofs)) rfl ?_;refine A0a (A0s.nil.ctxH (A0v.cons ok2 .nil) mixed) ?_;simp -implicitDefEqProofs [zb.l0,o2];refine A0a (A0s.nil.ctxH (A0v.cons ok3 .nil) mixed) ?_;simp -implicitDefEqProofs [z2.l1,o3];refine A0q (fun c:PfD=>⟨[(6,fnA k5),(5,.ptr k5 0),(4,.t (iv (r:Int))),(3,.row ko 0 n 1),(1,.ptr 0 0)],c.H,c.nx,99⟩) (fun c=>PfS X out [0,ko,k5,kn] (adJ out m m.rels.length) c.H c.nx ko kn k5 n) (fun _=>rfl) ?_ ?_
    ·refine A0a A0g ?_;simp -implicitDefEqProofs [z3.l3,lr];refine A0j ?_;refine A0n (SPg tr r n ko k5 rl.length) (fun c=>m.rels.length-c.i) (fun c=>PfS X out [0,ko,k5,kn] (adJ out m c.i) c.H c.nx ko kn k5 n/\c.i<=m.rels.length) ⟨H3,n4,0⟩ (fun _=>rfl) ⟨P3,Nat.zero_le _⟩ ?_ rfl ?_
     ·exact A0d (by simp -implicitDefEqProofs [SPg])
     rintro⟨Ha,na,i⟩ ⟨hP,hi⟩;simp only at hP hi;by_cases hil:i<rl.length
     ·obtain⟨c,hc1⟩:∃c,rl[i]?=some c:=⟨_,List.getElem?_eq_getElem (by omega)⟩
      have hx:m.rels[i]?=some c.x:=by rw[<-hrm,List.getElem?_map,hc1];rfl
      have hxm:=List.mem_of_getElem? hx
      have hin:inE out.length c.x:=fun v hv=>by rw[hol,hn];exact ho.rel hxm hv
      have hal:=hs.args c.x hxm;have hps:=E9w hz hs hosz hxm;have ePd:=G1u (x:=c) hTo hin hal (Nat.le_trans hps (by omega));obtain⟨ta,hcs,hta⟩:=c.ok;rw[hcs]at ePd;have la:=hta.len;have i1:=hr.iaddr hc1 .i64;have hze:eEC.z=3:=rfl;rw[hze,show eEC.enc c=c.cs from rfl,hcs]at i1
      obtain⟨x,hxe⟩:∃x,x=c.x:=⟨_,rfl⟩
      rw[<-hxe]at hx hxm hta la hal i1 ePd hps hin;have w2:IntKind.i64.wrap ((i:Int)+1)=((i+1:Nat):Int):=A0k (by omega) (by omega);have s3:∀a b d,A0x 3 ((na,.cells tyE [a,b,d])::Ha) (.ptr na 0) (.t (.ag [sv x.pred,iv x.label,ta]))=some ((na,eRow x.pred x.label ta)::Ha):=fun a b d=>st3 na a b d (sv x.pred) (iv x.label) ta tyE Ha (cd3 _ _ _);have P4:=hP.push (eRow x.pred x.label ta)
      obtain⟨Hc,hHc⟩:∃Hc,Hc=(na,eRow x.pred x.label ta)::Ha:=⟨_,rfl⟩
      obtain⟨nc,hnc⟩:∃nc,nc=na+1:=⟨_,rfl⟩
      rw[<-hHc]at s3 P4;rw[<-hnc]at P4
      have xc:Abs.look Hc na=some (eRow x.pred x.label ta):=by rw[hHc,look_cons,if_pos rfl]
      have ze:=ldE xc
      have lall:A0t true 3 Hc (.ptr na 0)=some (.t (.ag [sv x.pred,iv x.label,ta])):=by simp only[A0t,xc];rfl
      have hAl:(adJ out m i).length<=1000000000:=by rw[D6l];have:=B2o hs i (by omega);have:i*100001<=1000*100001:=Nat.mul_le_mul_right _ (by omega);omega
      obtain⟨S9,hS9⟩:∃S,S=preS out x:=⟨_,rfl⟩
      rw[<-hS9]at ePd hps;obtain⟨SL,qL,nL,pL⟩:=A2t C7e S9 (b:=ob S9) rfl (by show 6+_<=_;omega);have pL:∀(Φ:A0u) (H:Heap) (nx:Nat),A0i Φ H nx (.bin false .add none) [.t (.v (.string ⟨#[108,97,98,101,108,32]⟩)),.t (.v (.string (ob S9)))]=some (.t (.v (.string (ob SL))),H,nx):=pL;obtain⟨Hd,nd,td,od,okd,Pd,Kd⟩:=P4.add (q:=q) (v:=x.label) (by rw[<-hol];exact hin _ (by simp[occE])) (ob SL) hAl
      have eL:adJ out m i++[(x.label,ob SL)]=adI out m i x 0:=by rw[F4i,qL,hS9]
      rw[eL]at Pd
      have nakn:na≠kn:=by have:=hP.nx0;omega
      have zd:=ldE (H:=Hd) (k:=na) (p:=x.pred) (l:=x.label) (ta:=ta) (by rw[Kd na (by simp) nakn];exact xc);have Pd':PfS X out [0,ko,k5,kn] (adI out m i x 0) Hd nd ko kn k5 n:=Pd.less (fun c hc=>List.mem_cons_of_mem _ hc) (by simp) (by simp) (by simp) (by simp);refine A0a A0g ?_;simp -implicitDefEqProofs [SPg,hil];refine A0a A0g ?_;simp -implicitDefEqProofs;refine A0q (fun c:PfD=>⟨[(36,.t (iv (i:Int))),(35,.t (iv (rl.length:Int))),(34,.t tr),(6,fnA k5),(5,.ptr k5 0),(4,.t (iv (r:Int))),(3,.row ko 0 n 1),(1,.ptr 0 0)],c.H,c.nx,99⟩) (fun c=>PfS X out [0,ko,k5,kn] (adJ out m (i+1)) c.H c.nx ko kn k5 n) (fun _=>rfl) ?_ ?_
      ·refine A0j ?_;refine A0a A0g ?_;simp -implicitDefEqProofs [i1,l3_c,s3];refine A0a ((A0s.cons (hPd (q:=q)) .nil).ctx mixed) ?_;simp -implicitDefEqProofs [lall,tPd _ P4.o,ePd,-toTs];refine MC.sub (s':=⟨[(9,.t (.v (.string (ob S9)))),(8,.ptr na 0),(36,.t (iv (i:Int))),(35,.t (iv (rl.length:Int))),(34,.t tr),(6,fnA k5),(5,.ptr k5 0),(4,.t (iv (r:Int))),(3,.row ko 0 n 1),(1,.ptr 0 0)],Hc,nc,99⟩) (by rw[hnc];exact A0d (by simp -implicitDefEqProofs)) rfl ?_;refine A0a (A0s.nil.ctxH (A0v.cons okd .nil) mixed) ?_;simp -implicitDefEqProofs [ze.l1,pL,od];refine A0a A0g ?_;simp -implicitDefEqProofs [zd.l2,la];refine A0j ?_;refine A0n (SPk tr ta (ob S9) i r n ko k5 rl.length x.args.length) (fun c=>x.args.length-c.i) (fun c=>PfS X out [0,ko,k5,kn] (adI out m i x c.i) c.H c.nx ko kn k5 n/\c.i<=x.args.length) ⟨Hd,nd,0⟩ (fun _=>rfl) ⟨Pd',Nat.zero_le _⟩ ?_ rfl ?_
       ·exact A0d (by simp -implicitDefEqProofs [SPk])
       rintro⟨He,ne,j⟩ ⟨hQ,hj⟩;simp only at hQ hj;by_cases hjl:j<x.args.length
       ·obtain⟨g,hg⟩:∃g,x.args[j]?=some g:=⟨_,List.getElem?_eq_getElem hjl⟩
        have hgm:=List.mem_of_getElem? hg;have i2:=hta.iaddr hg .i64;have hz2:eAg.z=2:=rfl;rw[hz2,show eAg.enc g=[sv g.role,iv g.var]from rfl]at i2;have w3:IntKind.i64.wrap ((j:Int)+1)=((j+1:Nat):Int):=A0k (by omega) (by omega);have u1:∀a b,A0x 2 ((ne,.cells tyA [a,b])::He) (.ptr ne 0) (.t (.ag [sv g.role,iv g.var]))=some ((ne,.cells tyA [.t (sv g.role),.t (iv g.var)])::He):=fun a b=>st2 ne a b _ _ tyA He;have P5:=hQ.push (Row.cells tyA [.t (sv g.role),.t (iv g.var)])
        obtain⟨Hf,hHf⟩:∃Hf,Hf=(ne,Row.cells tyA [.t (sv g.role),.t (iv g.var)])::He:=⟨_,rfl⟩
        rw[<-hHf]at u1 P5;have lf:=A5m (H:=Hf) (b:=ne) (ty:=tyA) (p0:=.t (sv g.role)) (p1:=.t (iv g.var)) (by rw[hHf,look_cons,if_pos rfl]);have hro:=hz.a x hxm g hgm;obtain⟨V1,y1,m1,v1⟩:=A2t (wb g.role) [32] (b:=⟨#[32]⟩) rfl (by simp only[List.length_singleton];omega);have v1:∀(Φ:A0u) (H:Heap) (nx:Nat),A0i Φ H nx (.bin false .add none) [.t (.v (.string g.role)),.t (.v (.string ⟨#[32]⟩))]=some (.t (.v (.string (ob V1))),H,nx):=v1;simp only[List.length_singleton]at m1;obtain⟨V2,y2,m2,v2⟩:=A2t V1 S9 (b:=ob S9) rfl (by omega)
        have hBl:(adI out m i x j).length<=1000000000:=by rw[F8g];have:=C7t hs (i:=i) (j:=j) hxm (by omega);omega
        obtain⟨Hg,ng,tg,og,okg,Pg,Kg⟩:=P5.add (q:=q) (v:=g.var) (by rw[<-hol];exact hin _ (by simp only[occE,List.mem_cons,List.mem_map];exact .inr ⟨g,hgm,rfl⟩)) (ob V2) hBl
        have eV:adI out m i x j++[(g.var,ob V2)]=adI out m i x (j+1):=by rw[F4j hg,y2,y1,hS9];simp
        rw[eV]at Pg;refine A0e (A0s.nil.ctxH (A0v.cons okg .nil) mixed) ?_;simp -implicitDefEqProofs [SPk,hjl,i2,A6j,u1,lf.1,lf.2,v1,v2,og,w3];exact Abs.Next.mk ⟨Hg,ng,j+1⟩ ⟨⟨Pg.less (fun c hc=>List.mem_cons_of_mem _ hc) (by simp) (by simp) (by simp) (by simp),hjl⟩,by show x.args.length-(j+1)<x.args.length-j;omega⟩ (A0d (by simp -implicitDefEqProofs [SPk]))
       ·have ej:j=x.args.length:=by omega
        subst ej;refine A0e A0g ?_;simp -implicitDefEqProofs [SPk];exact Abs.Next.mk ⟨He,ne,0⟩ (by show PfS X out _ (adJ out m (i+1)) He ne ko kn k5 n;rw[F4k hx];exact hQ) (A0d (by simp -implicitDefEqProofs))
      ·rintro⟨He,ne,_⟩ hQ;refine A0e A0g ?_;simp -implicitDefEqProofs [w2];exact Abs.Next.mk ⟨He,ne,i+1⟩ ⟨⟨hQ,by show i+1<=_;omega⟩,by show m.rels.length-(i+1)<m.rels.length-i;omega⟩ (A0d (by simp -implicitDefEqProofs [SPg]))
     ·have ei:i=m.rels.length:=by omega
      subst ei;refine A0e A0g ?_;simp -implicitDefEqProofs [SPg,hil];exact Abs.Next.mk ⟨Ha,na,0⟩ hP (A0d (by simp -implicitDefEqProofs))
    clear P0 P2 P3 zb z2 z3 o2 o3 K2 K3;rintro⟨Ha,na,_⟩ hP;simp only at hP
    have hP:PfS X out [0,ko,k5,kn] (adK out m 0) Ha na ko kn k5 n:=by
     have e:adK out m 0=adJ out m m.rels.length:=by simp[adK]
     rw[e];exact hP
    have za:=ld hP.x;refine A0q (fun c:PfD=>⟨[(6,fnA k5),(5,.ptr k5 0),(4,.t (iv (r:Int))),(3,.row ko 0 n 1),(1,.ptr 0 0)],c.H,c.nx,99⟩) (fun c=>PfS X out [0,ko,k5,kn] (adds out m) c.H c.nx ko kn k5 n) (fun _=>rfl) ?_ ?_
    ·refine A0a A0g ?_;simp -implicitDefEqProofs [za.l4,lc];refine A0j ?_;refine A0n (SPh tc r n ko k5 m.cons.length) (fun c=>m.cons.length-c.i) (fun c=>PfS X out [0,ko,k5,kn] (adK out m c.i) c.H c.nx ko kn k5 n/\c.i<=m.cons.length) ⟨Ha,na,0⟩ (fun _=>rfl) ⟨hP,Nat.zero_le _⟩ ?_ rfl ?_
     ·exact A0d (by simp -implicitDefEqProofs [SPh])
     clear hP za;rintro⟨Ha,na,i⟩ ⟨hP,hi⟩;simp only at hP hi;by_cases hil:i<m.cons.length
     ·obtain⟨c,hc1⟩:∃c,m.cons[i]?=some c:=⟨_,List.getElem?_eq_getElem (by omega)⟩
      have hcm:=List.mem_of_getElem? hc1;have i1:=hc.iaddr hc1 .i64;have hzq:eQq.z=2:=rfl;rw[hzq,show eQq.enc c=[iv c.high,iv c.low]from rfl]at i1;have w2:IntKind.i64.wrap ((i:Int)+1)=((i+1:Nat):Int):=A0k (by omega) (by omega);have u1:∀a b,A0x 2 ((na,.cells tyQ [a,b])::Ha) (.ptr na 0) (.t (.ag [iv c.high,iv c.low]))=some ((na,.cells tyQ [.t (iv c.high),.t (iv c.low)])::Ha):=fun a b=>st2 na a b _ _ tyQ Ha;have P4:=hP.push (Row.cells tyQ [.t (iv c.high),.t (iv c.low)])
      obtain⟨Hc,hHc⟩:∃Hc,Hc=(na,Row.cells tyQ [.t (iv c.high),.t (iv c.low)])::Ha:=⟨_,rfl⟩
      obtain⟨nc,hnc⟩:∃nc,nc=na+1:=⟨_,rfl⟩
      rw[<-hHc]at u1 P4;rw[<-hnc]at P4
      have xc:Abs.look Hc na=some (Row.cells tyQ [.t (iv c.high),.t (iv c.low)]):=by rw[hHc,look_cons,if_pos rfl]
      have lc1:=A5m xc;have inh:=ho.con hcm (v:=c.high) (by simp[occC]);have inl:=ho.con hcm (v:=c.low) (by simp[occC]);have hh:=C2v hosz c.high;have hl:=C2v hosz c.low;obtain⟨SH,qH,nH,pH⟩:=A2t E6y (wb (vS out c.low)) (b:=vS out c.low) rfl (by show 5+_<=_;omega);have pH:∀(Φ:A0u) (H:Heap) (nx:Nat),A0i Φ H nx (.bin false .add none) [.t (.v (.string ⟨#[104,105,103,104,32]⟩)),.t (.v (.string (vS out c.low)))]=some (.t (.v (.string (ob SH))),H,nx):=pH;obtain⟨SL,qL,nL,pL⟩:=A2t F6u (wb (vS out c.high)) (b:=vS out c.high) rfl (by show 4+_<=_;omega);have pL:∀(Φ:A0u) (H:Heap) (nx:Nat),A0i Φ H nx (.bin false .add none) [.t (.v (.string ⟨#[108,111,119,32]⟩)),.t (.v (.string (vS out c.high)))]=some (.t (.v (.string (ob SL))),H,nx):=pL
      have hAl:(adK out m i).length<=1000000000:=by rw[D6m];have:=B2p hs i (by omega);omega
      obtain⟨Hd,nd,td,od,okd,Pd,Kd⟩:=P4.add (q:=q) (v:=c.high) (by rw[hn];exact inh) (ob SH) hAl
      have nakn:na≠kn:=by have:=hP.nx0;omega
      have ld1:=A5m (H:=Hd) (b:=na) (ty:=tyQ) (p0:=.t (iv c.high)) (p1:=.t (iv c.low)) (by rw[Kd na (by simp) nakn];exact xc);obtain⟨He,ne,te,oe,oke,Pe,Ke⟩:=Pd.add (q:=q) (v:=c.low) (by rw[hn];exact inl) (ob SL) (by rw[List.length_append,List.length_singleton];rw[D6m]at hAl ⊢;have:=B2p hs i (by omega);omega)
      have eV:adK out m i++[(c.high,ob SH)]++[(c.low,ob SL)]=adK out m (i+1):=by rw[F4l hc1,qH,qL]
      rw[eV]at Pe;refine A0a A0g ?_;simp -implicitDefEqProofs [SPh,hil];refine A0a A0g ?_;simp -implicitDefEqProofs;refine A0q (fun c:PfD=>⟨[(70,.t (iv (i:Int))),(69,.t (iv (m.cons.length:Int))),(68,.t tc),(6,fnA k5),(5,.ptr k5 0),(4,.t (iv (r:Int))),(3,.row ko 0 n 1),(1,.ptr 0 0)],c.H,c.nx,99⟩) (fun c=>PfS X out [0,ko,k5,kn] (adK out m (i+1)) c.H c.nx ko kn k5 n) (fun _=>rfl) ?_ ?_
      ·refine A0j ?_;refine A0a A0g ?_;simp -implicitDefEqProofs [i1,A6j,u1];refine MC.sub (s':=⟨[(13,.ptr na 0),(70,.t (iv (i:Int))),(69,.t (iv (m.cons.length:Int))),(68,.t tc),(6,fnA k5),(5,.ptr k5 0),(4,.t (iv (r:Int))),(3,.row ko 0 n 1),(1,.ptr 0 0)],Hc,nc,99⟩) (by rw[hnc];exact A0d (by simp -implicitDefEqProofs)) rfl ?_;refine A0a (A0s.nil.ctxH (A0v.cons okd .nil) mixed) ?_;simp -implicitDefEqProofs [lc1.1,lc1.2,iv1 _ inl,lv1 _ inl P4.o,pH,od];refine A0e (A0s.nil.ctxH (A0v.cons oke .nil) mixed) ?_;simp -implicitDefEqProofs [ld1.1,ld1.2,iv1 _ inh,lv1 _ inh Pd.o,pL,oe];exact Abs.Next.mk ⟨He,ne,0⟩ (Pe.less (fun c hc=>List.mem_cons_of_mem _ hc) (by simp) (by simp) (by simp) (by simp)) (A0d (by simp -implicitDefEqProofs))
      ·rintro⟨Hx,nx',_⟩ hQ;refine A0e A0g ?_;simp -implicitDefEqProofs [w2];exact Abs.Next.mk ⟨Hx,nx',i+1⟩ ⟨⟨hQ,by show i+1<=_;omega⟩,by show m.cons.length-(i+1)<m.cons.length-i;omega⟩ (A0d (by simp -implicitDefEqProofs [SPh]))
     ·have ei:i=m.cons.length:=by omega
      subst ei;refine A0e A0g ?_;simp -implicitDefEqProofs [SPh,hil];exact Abs.Next.mk ⟨Ha,na,0⟩ (by show PfS X out _ (adds out m) Ha na ko kn k5 n;rw[<-E9v];exact hP) (A0d (by simp -implicitDefEqProofs))
    clear hP za;rintro⟨Ha,na,_⟩ hP;simp only at hP;obtain⟨b,hb⟩:=hP.nxs;obtain⟨ty5,hb5⟩:=hP.b5
    have lad:(adds out m).length=(occ m).length:=by rw[<-E9v,D6m,B2n]
    have hlv:∀v:Nat,v<n->(nxt (adds out m) (v:Int)).length<=900:=fun v _=>Nat.le_trans (E9u _ _) (by omega)
    obtain⟨⟨rs,Hs,ns⟩,⟨b1,b2,b3,b4,b5⟩,hsc'⟩:=E4e (q:=q) hb hP.o hol hP.mo (by omega) (fun v hv=>Nat.le_trans (hlv v hv) (by omega)) (fun v hv=>by
     have h1:=C2v hosz (v:Int)
     have h2:=B2y (sep:=[10]) (k:=80000) (l:=(srtS (nxt (adds out m) (v:Int))).map wb) (fun y hy=>by
      obtain⟨s,hs',rfl⟩:=List.mem_map.1 hy
      exact F8h hz hs hosz _ (F8f (F4g hs')))
     have h3:=hlv v hv;rw[List.length_map,A6a,List.length_singleton]at h2;have h4:(nxt (adds out m) (v:Int)).length*(80000+1)<=900*(80000+1):=Nat.mul_le_mul_right _ h3
     omega)
    simp only at b1 b2 b3 b4 b5 hsc';subst b1;subst b2;obtain⟨t6,o6,ok6⟩:=hAt hsc' b5
    have l5:A0t false 1 Ha (.ptr k5 0)=some (.row kn 0 n 1):=by simp[A0t,hb5]
    have eo:((List.range n).map fun v:Nat=>Hsh (vS out (v:Int)) (srtS (nxt (adds out m) (v:Int))))=outI m (r+1):=by
     rw[hnext];unfold rnd upN;rw[List.map_map,<-hn];rfl
    rw[eo]at b3;refine A0e (A0s.nil.ctxH (A0v.cons ok6 .nil) mixed) ?_;simp -implicitDefEqProofs [l5,o6];exact Abs.Next.mk ⟨Hs,na+1,na,0⟩ ⟨by show Abs.look Hs 0=_;rw[b4 0 hP.m0];exact hP.x,b3,hP.nx0.1,Nat.lt_succ_self _⟩ (A0d (by simp -implicitDefEqProofs))
   ·rintro⟨Ha,na,ka,_⟩ ⟨g0,g1,g2,g3⟩;refine A0e A0g ?_;simp -implicitDefEqProofs [w1];exact Abs.Next.mk ⟨Ha,na,ka,r+1⟩ ⟨⟨g0,g1,g2,g3,hlt⟩,by show 3-(r+1)<3-r;omega⟩ (A0d (by simp -implicitDefEqProofs [SPf]))
  ·have er:r=3:=by omega
   subst er;refine A0e A0g ?_;simp -implicitDefEqProofs [SPf];exact Abs.Next.mk ⟨H,nx,ko,0⟩ hko (A0d (by simp -implicitDefEqProofs))
 rintro⟨H,nx,ko,_⟩ ho3;have hne2:=A2s (e:=eStr) ho3;rw[E0r,<-hn]at hne2;have hzs:eStr.z=1:=rfl;rw[hzs]at hne2;refine A0e A0g ?_;simp -implicitDefEqProofs [hne2,hR3,-toT]
structure Kx where
 k0:Nat
 kp:Nat
 kt:Nat
 kf:Nat
 ku:Nat
 kc:Nat
def Kx.l (K:Kx):List Nat:=[K.k0,K.kp,K.kt,K.kf,K.ku,K.kc]
abbrev tyX:Nat:=64
abbrev tyO:Nat:=4
def G1v (ca cb:List T) (ia ib:T) (K:Kx) (na n nb nc:Nat):Row:=.cells tyX ((ca++cb++[ia,ib]).map PV.t++[.row K.kp 0 na 1,.row K.kt 0 n 1,.row K.kf 0 n 1,.row K.ku 0 nb 1,.row K.kc 0 nc 1])
structure Mx where
 a:Mr
 b:Mr
 ca:List T
 cb:List T
 pa:List ByteArray
 pb:List ByteArray
 ia:T
 ib:T
 K:Kx
structure MxOk (M:Mx):Prop where
 mb:MB M.a M.b M.ca M.cb
 ha:IsS eStr M.ia M.pa
 hb:IsS eStr M.ib M.pb
 la:M.pa.length=M.a.vars.length
 lb:M.pb.length=M.a.vars.length
 nd:M.K.l.Nodup
 lr:M.b.rels.length=M.a.rels.length
 lc:M.b.cons.length=M.a.cons.length
def Mx.row (M:Mx):Row:=G1v M.ca M.cb M.ia M.ib M.K M.a.rels.length M.a.vars.length M.b.rels.length M.b.cons.length
def Mx.ok (M:Mx):Int->Int->Bool:=D0z M.pa M.pb M.a M.b
structure MtS (M:Mx) (pl v:List Int) (uP uC:List Bool) (H:Heap) (nx:Nat):Prop where
 o:Abs.look H M.K.k0=some M.row
 p:Abs.look H M.K.kp=some (A0l eInt tyI pl)
 t:Abs.look H M.K.kt=some (A0l eInt tyI v)
 f:Abs.look H M.K.kf=some (A0l eInt tyI (frm M.a.vars.length v))
 u:Abs.look H M.K.ku=some (A0l A8m tyO uP)
 c:Abs.look H M.K.kc=some (A0l A8m tyO uC)
 lp:pl.length=M.a.rels.length
 lv:v.length=M.a.vars.length
 lu:uP.length=M.b.rels.length
 lc:uC.length=M.b.cons.length
 lt:∀c∈M.K.l,c<nx
section
variable {M : Mx} {pl v : List Int} {uP uC : List Bool} {H H' : Heap} {nx nx' : Nat}
theorem Kx.m0 (K:Kx):K.k0∈K.l:=by simp[Kx.l]
theorem Kx.mp (K:Kx):K.kp∈K.l:=by simp[Kx.l]
theorem Kx.mt (K:Kx):K.kt∈K.l:=by simp[Kx.l]
theorem Kx.mf (K:Kx):K.kf∈K.l:=by simp[Kx.l]
theorem Kx.mu (K:Kx):K.ku∈K.l:=by simp[Kx.l]
theorem Kx.mc (K:Kx):K.kc∈K.l:=by simp[Kx.l]
structure KNe (K:Kx):Prop where
 a0p:K.k0≠K.kp
 a0t:K.k0≠K.kt
 a0f:K.k0≠K.kf
 a0u:K.k0≠K.ku
 a0c:K.k0≠K.kc
 apt:K.kp≠K.kt
 apf:K.kp≠K.kf
 apu:K.kp≠K.ku
 apc:K.kp≠K.kc
 atf:K.kt≠K.kf
 atu:K.kt≠K.ku
 atc:K.kt≠K.kc
 afu:K.kf≠K.ku
 afc:K.kf≠K.kc
 auc:K.ku≠K.kc
theorem Kx.ne {K:Kx} (h:K.l.Nodup):KNe K:=by
 simp only[Kx.l,List.nodup_cons,List.mem_cons,List.not_mem_nil,or_false,not_or]at h;obtain⟨⟨h1,h2,h3,h4,h5⟩,⟨h6,h7,h8,h9⟩,⟨h10,h11,h12⟩,⟨h13,h14⟩,h15,_⟩:=h;exact⟨h1,h2,h3,h4,h5,h6,h7,h8,h9,h10,h11,h12,h13,h14,h15⟩
structure LdX (M:Mx) (H:Heap):Prop where
 p:A0t false 1 H (.ptr M.K.k0 12)=some (.row M.K.kp 0 M.a.rels.length 1)
 t:A0t false 1 H (.ptr M.K.k0 13)=some (.row M.K.kt 0 M.a.vars.length 1)
 f:A0t false 1 H (.ptr M.K.k0 14)=some (.row M.K.kf 0 M.a.vars.length 1)
 u:A0t false 1 H (.ptr M.K.k0 15)=some (.row M.K.ku 0 M.b.rels.length 1)
 c:A0t false 1 H (.ptr M.K.k0 16)=some (.row M.K.kc 0 M.b.cons.length 1)
 ia:A0t false 1 H (.ptr M.K.k0 10)=some (.t M.ia)
 ib:A0t false 1 H (.ptr M.K.k0 11)=some (.t M.ib)
 va:∃t,A0t false 1 H (.ptr M.K.k0 2)=some (.t t)/\IsS eStr t M.a.vars
 vb:∃t,A0t false 1 H (.ptr M.K.k0 7)=some (.t t)/\IsS eStr t M.b.vars
 ra:∃t rl,A0t false 1 H (.ptr M.K.k0 3)=some (.t t)/\IsS eEC t rl/\rl.map EC.x=M.a.rels
 rb:∃t rl,A0t false 1 H (.ptr M.K.k0 8)=some (.t t)/\IsS eEC t rl/\rl.map EC.x=M.b.rels
 ca:∃t,A0t false 1 H (.ptr M.K.k0 4)=some (.t t)/\IsS eQq t M.a.cons
 cb:∃t,A0t false 1 H (.ptr M.K.k0 9)=some (.t t)/\IsS eQq t M.b.cons
theorem ldX (hM:MxOk M) (h:Abs.look H M.K.k0=some M.row):LdX M H:=by
 obtain⟨tva,tra,tca,rla,eca,hva,hra,hrma,hca⟩:=hM.mb.ha;obtain⟨tvb,trb,tcb,rlb,ecb,hvb,hrb,hrmb,hcb⟩:=hM.mb.hb
 have e:M.row = .cells tyX [.t (iv M.a.top),.t (iv M.a.index),.t tva,.t tra,.t tca,.t (iv M.b.top),.t (iv M.b.index),.t tvb,.t trb,.t tcb,.t M.ia,.t M.ib,.row M.K.kp 0 M.a.rels.length 1,.row M.K.kt 0 M.a.vars.length 1,.row M.K.kf 0 M.a.vars.length 1,.row M.K.ku 0 M.b.rels.length 1,.row M.K.kc 0 M.b.cons.length 1]:=by
  unfold Mx.row G1v;rw[eca,ecb];rfl
 rw[e]at h
 have l:∀i,A0t false 1 H (.ptr M.K.k0 i)=([.t (iv M.a.top),.t (iv M.a.index),.t tva,.t tra,.t tca,.t (iv M.b.top),.t (iv M.b.index),.t tvb,.t trb,.t tcb,.t M.ia,.t M.ib,.row M.K.kp 0 M.a.rels.length 1,.row M.K.kt 0 M.a.vars.length 1,.row M.K.kf 0 M.a.vars.length 1,.row M.K.ku 0 M.b.rels.length 1,.row M.K.kc 0 M.b.cons.length 1]:List PV)[i]?:=fun i=>by
  simp only[A0t,h,Bool.false_eq_true,if_false]
 exact⟨l 12,l 13,l 14,l 15,l 16,l 10,l 11,⟨_,l 2,hva⟩,⟨_,l 7,hvb⟩,⟨_,_,l 3,hra,hrma⟩,⟨_,_,l 8,hrb,hrmb⟩,⟨_,l 4,hca⟩,⟨_,l 9,hcb⟩⟩
theorem MtS.more (h:MtS M pl v uP uC H nx) (hk:∀c∈M.K.l,Abs.look H' c=Abs.look H c) (hn:nx<=nx'):MtS M pl v uP uC H' nx':=
 ⟨by rw[hk _ M.K.m0];exact h.o,by rw[hk _ M.K.mp];exact h.p,by rw[hk _ M.K.mt];exact h.t,by rw[hk _ M.K.mf];exact h.f,by rw[hk _ M.K.mu];exact h.u,by rw[hk _ M.K.mc];exact h.c,h.lp,h.lv,h.lu,h.lc,fun c hc=>Nat.lt_of_lt_of_le (h.lt c hc) hn⟩
theorem MtS.setV (hM:MxOk M) (h:MtS M pl v uP uC H nx) {w:List Int} (hl:w.length=M.a.vars.length):MtS M pl w uP uC (Abs.upd (Abs.upd H M.K.kt (A0l eInt tyI w)) M.K.kf (A0l eInt tyI (frm M.a.vars.length w))) nx:=by
 have n:=Kx.ne hM.nd;refine⟨?_,?_,?_,?_,?_,?_,h.lp,hl,h.lu,h.lc,h.lt⟩
 ·rw[A0f,if_neg n.a0f,A0f,if_neg n.a0t];exact h.o
 ·rw[A0f,if_neg n.apf,A0f,if_neg n.apt];exact h.p
 ·rw[A0f,if_neg n.atf,A0f,if_pos rfl,h.t];rfl
 ·rw[A0f,if_pos rfl,A0f,if_neg n.atf.symm,h.f];rfl
 ·rw[A0f,if_neg n.afu.symm,A0f,if_neg n.atu.symm];exact h.u
 ·rw[A0f,if_neg n.afc.symm,A0f,if_neg n.atc.symm];exact h.c
end
theorem C8p {α:Type} (e:Enc α) (b:Nat) (l:List α) (x:T):extractV (oneOf [rowP e b l,.t x]) 0=some (rowP e b l)/\extractV (oneOf [rowP e b l,.t x]) 1=some (.t x):=by
 cases l<;>exact⟨rfl,rfl⟩
structure F5n (M:Mx) (pl v:List Int) (uP uC:List Bool) (H:Heap) (nx bb:Nat) (bd:List Int) (o:(List Int×List Int)×Bool) (f:Fin):Prop where
 b':∃b',f.r=oneOf [rowP eInt b' o.1.2,.t (bv o.2)]/\A0z eInt tyI f.H b' o.1.2/\b'∉M.K.l/\b'<f.nx/\(b'=bb\/nx<=b')
 s:MtS M pl o.1.1 uP uC f.H f.nx
 k:∀c,c<nx->c∉M.K.l->c≠bb->Abs.look f.H c=Abs.look H c
 n:nx<=f.nx
 fr:Frs H nx->Frs f.H f.nx
theorem MtS.k {M:Mx} {pl v:List Int} {uP uC:List Bool} {H:Heap} {nx:Nat} (h:MtS M pl v uP uC H nx) {w:Nat} (hw:w<M.a.vars.length) :
  A2e 1 (.row M.K.kt 0 M.a.vars.length 1) (.t (iv (w:Int)))=some (.ptr M.K.kt w)/\A0t false 1 H (.ptr M.K.kt w)=some (.t (iv (bnd v (w:Int)))) /\
  A2e 1 (.row M.K.kf 0 M.a.vars.length 1) (.t (iv (w:Int)))=some (.ptr M.K.kf w)/\A0t false 1 H (.ptr M.K.kf w)=some (.t (iv (plc (w:Int) 0 v))):=
 ⟨A7u _ _ _ hw,B1s (e:=eInt) h.t (C1f (by rw[h.lv];exact hw)) rfl rfl,A7u _ _ _ hw,B1s (e:=eInt) h.f (C5d hw) rfl rfl⟩
theorem E4f {M:Mx} (hM:MxOk M) {pl v:List Int} {uP uC:List Bool} {H:Heap} {nx bb:Nat} {bd:List Int} (h:MtS M pl v uP uC H nx) (hpm:PMv (fun _ _=>true) M.a.vars.length v) (hb:A0z eInt tyI H bb bd) (hbK:bb∉M.K.l) (hbl:bb<nx) (hbn:bd.length<=100000)
  {x y:Int} (hx:inR M.a.vars.length x) (hy:inR M.a.vars.length y) :
  ∃f,F5n M pl v uP uC H nx bb bd (B1i M.ok (v,bd) x y) f/\A3n Tryz.prog (G q) 76 [.ptr M.K.k0 0,.t (iv x),.t (iv y),rowP eInt bb bd] H nx f.r f.H f.nx:=by
 have L:=ldX hM h.o;obtain⟨tva,lva,hva⟩:=L.va;obtain⟨tvb,lvb,hvb⟩:=L.vb
 obtain⟨k,rfl⟩:∃k:Nat,x=(k:Int):=⟨x.toNat,by have:=hx.1;omega⟩
 obtain⟨l,rfl⟩:∃l:Nat,y=(l:Int):=⟨y.toNat,by have:=hy.1;omega⟩
 have hk:k<M.a.vars.length:=by have:=hx.2;omega
 have hl:l<M.a.vars.length:=by have:=hy.2;omega
 obtain⟨i1,l1,_,_⟩:=h.k hk;obtain⟨_,_,i2,l2⟩:=h.k hl;have hz:eStr.z=1:=rfl;have j1:=hva.iaddr (B5x hk) .i64;rw[hz,show eStr.enc (vS M.a.vars (k:Int))=[sv (vS M.a.vars (k:Int))]from rfl]at j1;have j2:=hvb.iaddr (B5x (l:=M.b.vars) (k:=l) (by rw[hM.mb.len];exact hl)) .i64;rw[hz,show eStr.enc (vS M.b.vars (l:Int))=[sv (vS M.b.vars (l:Int))]from rfl]at j2;have j3:=hM.ha.iaddr (B5x (l:=M.pa) (k:=k) (by rw[hM.la];exact hk)) .i64;rw[hz,show eStr.enc (vS M.pa (k:Int))=[sv (vS M.pa (k:Int))]from rfl]at j3;have j4:=hM.hb.iaddr (B5x (l:=M.pb) (k:=l) (by rw[hM.lb];exact hl)) .i64;rw[hz,show eStr.enc (vS M.pb (l:Int))=[sv (vS M.pb (l:Int))]from rfl]at j4;have ne:=Kx.ne hM.nd
 obtain⟨o,ho⟩:∃o,o=B1i M.ok (v,bd) (k:Int) (l:Int):=⟨_,rfl⟩
 rw[<-ho];unfold B1i at ho;simp only at ho
 have same:∀bl:Bool,o=((v,bd),bl)->F5n M pl v uP uC H nx bb bd o ⟨oneOf [rowP eInt bb bd,.t (bv bl)],H,nx⟩:=fun bl e=>by
  subst e;exact⟨⟨bb,rfl,hb,hbK,hbl,.inl rfl⟩,h,fun _ _ _ _=>rfl,Nat.le_refl _,fun h=>h⟩
 refine B5q.callX rfl ?_;(conv in A8g=>cbv);refine A0b A0g ?_;simp -implicitDefEqProofs
 by_cases c1:bnd v (k:Int)=(l:Int)
 ·rw[if_pos c1]at ho
  have d1:0<=bnd v (k:Int):=by omega
  have d2:(bnd v (k:Int)==(l:Int))=true:=by rw[c1];simp
  refine A0b A0g ?_;simp -implicitDefEqProofs [L.t,i1,l1,d1,d2,-beq_iff_eq];exact A1u _ (same true ho) (by simp -implicitDefEqProofs)
 ·rw[if_neg c1]at ho
  have d2:(bnd v (k:Int)==(l:Int))=false:=by simp[c1]
  by_cases c2:0<=bnd v (k:Int)
  ·rw[if_pos (.inl c2)]at ho;refine A0b A0g ?_;simp -implicitDefEqProofs [L.t,i1,l1,c2,d2,c1];exact A1u _ (same false ho) (by simp -implicitDefEqProofs)
  by_cases c3:(l:Int)∈v
  ·rw[if_pos (.inr (.inl c3))]at ho
   have c3':0<=plc (l:Int) 0 v:=by
    have:=(not_congr (B1f (x:=(l:Int)) (l:=v) (i:=0))).2 (fun e=>e c3);omega
   refine A0b A0g ?_;simp -implicitDefEqProofs [L.t,L.f,i1,l1,i2,l2,c2,c3',d2,c1];exact A1u _ (same false ho) (by simp -implicitDefEqProofs)
  have c3':¬0<=plc (l:Int) 0 v:=by
   have:=(B1f (x:=(l:Int)) (l:=v) (i:=0)).2 c3;omega
  refine A0b A0g ?_;simp -implicitDefEqProofs [L.t,L.f,i1,l1,i2,l2,c2,c3'];have eok:M.ok (k:Int) (l:Int)=(decide (vS M.a.vars (k:Int)=vS M.b.vars (l:Int))&&decide (vS M.pa (k:Int)=vS M.pb (l:Int))):=rfl;by_cases c4:vS M.a.vars (k:Int)=vS M.b.vars (l:Int)
  ·by_cases c5:vS M.pa (k:Int)=vS M.pb (l:Int)
   ·have e1:M.ok (k:Int) (l:Int)=true:=by rw[eok,decide_eq_true c4,decide_eq_true c5];rfl
    rw[if_neg (by rintro(e | e | e);exact c2 e;exact c3 e;rw[e1]at e;cases e)]at ho;rw[Int.toNat_natCast]at ho;refine A0b A0g ?_;simp -implicitDefEqProofs [lva,lvb,L.ia,L.ib,j1,j2,j3,j4,lp,A2g,c4,c5]
    obtain⟨w,hw⟩:∃w,w=v.set k (l:Int):=⟨_,rfl⟩
    have hlw:w.length=M.a.vars.length:=by rw[hw,List.length_set,h.lv]
    have hfr:frm M.a.vars.length w=(frm M.a.vars.length v).set l (k:Int):=by
     rw[hw];exact F6w h.lv hk hl (by omega) c3
    have s1:=A5v (e:=eInt) (ty:=tyI) (c:=iv (l:Int)) (x:=(l:Int)) rfl h.t (i:=k) (by rw[h.lv];exact hk) rfl rfl;rw[<-hw]at s1
    have hf2:Abs.look (Abs.upd H M.K.kt (A0l eInt tyI w)) M.K.kf=some (A0l eInt tyI (frm M.a.vars.length v)):=by rw[A0f,if_neg ne.atf.symm];exact h.f
    have s2:=A5v (e:=eInt) (ty:=tyI) (c:=iv (k:Int)) (x:=(k:Int)) rfl hf2 (i:=l) (by rw[A9z];exact hl) rfl rfl;rw[<-hfr]at s2;have hS:=h.setV hM hlw
    obtain⟨H1,hH1⟩:∃H1,H1=Abs.upd H M.K.kt (A0l eInt tyI w):=⟨_,rfl⟩
    obtain⟨H2,hH2⟩:∃H2,H2=Abs.upd H1 M.K.kf (A0l eInt tyI (frm M.a.vars.length w)):=⟨_,rfl⟩
    rw[<-hH1]at s1 s2 hS;rw[<-hH2]at s2 hS
    have k2:∀c,c∉M.K.l->Abs.look H2 c=Abs.look H c:=fun c hc=>by
     rw[hH2,A0f,if_neg (fun e=>hc (by rw[e];exact M.K.mf)),hH1,A0f,if_neg (fun e=>hc (by rw[e];exact M.K.mt))]
    have fr2:Frs H nx->Frs H2 nx:=fun hf=>by rw[hH2,hH1];exact hf.upd.upd
    refine A0b A0g ?_;simp -implicitDefEqProofs [L.t,L.f,i1,i2,s1,s2];obtain⟨H3,a3,b3,c3'',f3⟩:=appB (e:=eInt) (by':=8) (nx:=nx) (ty:=tyI) (H:=H2) (b:=bb) (l:=bd) (k:Int) 1 rfl [.t (iv (k:Int))] rfl (hb.imp id fun e=>by rw[k2 bb hbK];exact e) hbl (by omega) (by omega);refine A0r A0g ?_;simp -implicitDefEqProofs [B8v,a3];refine A1u ⟨oneOf [rowP eInt (nx+1) (bd++[(k:Int)]),.t (bv true)],H3,nx+2⟩ ?_ (by simp -implicitDefEqProofs);rw[ho];refine⟨⟨nx+1,rfl,b3,fun hm=>by have:=h.lt _ hm;omega,by show nx+1<nx+2;omega,.inr (by omega)⟩,?_,fun c h1 h2 h3=>?_,by show nx<=nx+2;omega,fun hf=>f3 (fr2 hf)⟩
    ·rw[<-hw];exact hS.more (fun c hc=>c3'' c (h.lt c hc) (fun e=>hbK (e▸hc))) (by show nx<=nx+2;omega)
    ·show Abs.look H3 c=_;rw[c3'' c h1 h3,k2 c h2]
   ·have e1:M.ok (k:Int) (l:Int)=false:=by rw[eok,decide_eq_false c5,Bool.and_false]
    rw[if_pos (.inr (.inr e1))]at ho;refine A0b A0g ?_;simp -implicitDefEqProofs [lva,lvb,L.ia,L.ib,j1,j2,j3,j4,lp,A2g,c4,c5];exact A1u _ (same false ho) (by simp -implicitDefEqProofs)
  ·have e1:M.ok (k:Int) (l:Int)=false:=by rw[eok,decide_eq_false c4,Bool.false_and]
   rw[if_pos (.inr (.inr e1))]at ho;refine A0b A0g ?_;simp -implicitDefEqProofs [lva,lvb,j1,j2,lp,A2g,c4];exact A1u _ (same false ho) (by simp -implicitDefEqProofs)
theorem MtS.mk2 {M:Mx} (hM:MxOk M) {pl v w:List Int} {uP uC:List Bool} {H H':Heap} {nx:Nat} (h:MtS M pl v uP uC H nx) (hl:w.length=M.a.vars.length) (ht:Abs.look H' M.K.kt=some (A0l eInt tyI w)) (hf:Abs.look H' M.K.kf=some (A0l eInt tyI (frm M.a.vars.length w)))
  (hk:∀c,c≠M.K.kt->c≠M.K.kf->Abs.look H' c=Abs.look H c):MtS M pl w uP uC H' nx:=by
 have n:=Kx.ne hM.nd;exact⟨by rw[hk _ n.a0t n.a0f];exact h.o,by rw[hk _ n.apt n.apf];exact h.p,ht,hf,by rw[hk _ n.atu.symm n.afu.symm];exact h.u,by rw[hk _ n.atc.symm n.afc.symm];exact h.c,h.lp,hl,h.lu,h.lc,h.lt⟩
structure G1w (M:Mx) (pl v0:List Int) (uP uC:List Bool) (H:Heap) (nx:Nat) (f:Fin):Prop where
 r:f.r = .t (.tu [])
 n:f.nx=nx
 s:MtS M pl v0 uP uC f.H nx
 k:∀c,c∉M.K.l->Abs.look f.H c=Abs.look H c
 fr:Frs H nx->Frs f.H nx
structure RlC where
 H:Heap
 v:List Int
 j:Nat
def SRl (M:Mx) (B:PV) (n nx:Nat) (c:RlC):A0c:=⟨[(8,.t (iv (c.j:Int))),(7,.t (iv (n:Int))),(6,B),(0,.ptr M.K.k0 0)],c.H,nx,31⟩
theorem B6g {M:Mx} (hM:MxOk M) {pl v v0:List Int} {uP uC:List Bool} {H:Heap} {nx bb:Nat} {bd:List Int} (h:MtS M pl v uP uC H nx) (hB:Bnds M.a.vars.length v0 (v,bd)) (hb:A0z eInt tyI H bb bd) (hbK:bb∉M.K.l) (hbn:bd.length<=100000) :
  ∃f,G1w M pl v0 uP uC H nx f/\A3n Tryz.prog (G q) 79 [.ptr M.K.k0 0,rowP eInt bb bd] H nx f.r f.H f.nx:=by
 have lB:=B9j eInt bb bd;refine B1m.callX rfl ?_;(conv in A6g=>cbv);refine A0b A0g ?_;simp -implicitDefEqProofs [lB];refine A1k ?_;refine A2w (SRl M (rowP eInt bb bd) bd.length nx) (fun c=>bd.length-c.j) (fun c=>MtS M pl c.v uP uC c.H nx/\Bnds M.a.vars.length v0 (c.v,bd.drop c.j)/\(∀c',c'∉M.K.l->Abs.look c.H c'=Abs.look H c')/\(Frs H nx->Frs c.H nx)/\c.j<=bd.length) ⟨H,v,0⟩ (fun _=>rfl) ⟨h,hB,fun _ _=>rfl,fun h=>h,Nat.zero_le _⟩ ?_ rfl ?_
 ·exact A0d (by simp -implicitDefEqProofs [SRl])
 rintro⟨Ha,w,j⟩ ⟨hS,hBn,hk,hf,hj⟩;simp only at hS hBn hk hf hj;by_cases hjl:j<bd.length
 ·obtain⟨x,hx⟩:∃x,bd[j]?=some x:=⟨_,List.getElem?_eq_getElem hjl⟩
  rw[List.drop_eq_getElem_cons hjl,(List.getElem?_eq_some_iff.1 hx).2]at hBn;obtain⟨hB2,y,hy,hyn,hfr⟩:=hBn.step;have hxr:=(hBn.inr x (by simp)).1
  obtain⟨k,rfl⟩:∃k:Nat,x=(k:Int):=⟨x.toNat,by have:=hxr.1;omega⟩
  have hkn:k<M.a.vars.length:=by have:=hxr.2;omega
  rw[Int.toNat_natCast]at hB2 hfr
  have hne:bd≠[]:=fun e=>by rw[e]at hjl;simp at hjl
  have rb:Abs.look Ha bb=some (A0l eInt tyI bd):=by rw[hk bb hbK];exact hb.resolve_left hne
  have i1:A2e 1 (rowP eInt bb bd) (.t (iv (j:Int)))=some (.ptr bb j):=by
   have:=B6t (e:=eInt) (b:=bb) hx .i64;rw[show eInt.z=1 from rfl,Nat.mul_one]at this;exact this
  have l1:=B1s (e:=eInt) (c:=iv (k:Int)) rb hx rfl rfl;have L:=ldX hM hS.o;obtain⟨i2,l2,_,_⟩:=hS.k hkn;rw[hy]at l2;obtain⟨_,_,i3,_⟩:=hS.k hyn;have ne:=Kx.ne hM.nd;have w1:IntKind.i64.wrap ((j:Int)+1)=((j+1:Nat):Int):=A0k (by omega) (by omega);have s1:=A5v (e:=eInt) (ty:=tyI) (c:=iv (-1)) (x:=(-1:Int)) rfl hS.f (i:=y) (by rw[A9z];exact hyn) rfl rfl;rw[<-hfr]at s1
  obtain⟨w',hw'⟩:∃w',w'=w.set k (-1:Int):=⟨_,rfl⟩
  rw[<-hw']at s1 hB2
  obtain⟨H1,hH1⟩:∃H1,H1=Abs.upd Ha M.K.kf (A0l eInt tyI (frm M.a.vars.length w')):=⟨_,rfl⟩
  rw[<-hH1]at s1
  have hL1:Abs.look H1 M.K.k0=some M.row:=by rw[hH1,A0f,if_neg ne.a0f];exact hS.o
  have L1:=ldX hM hL1
  have t1:Abs.look H1 M.K.kt=some (A0l eInt tyI w):=by rw[hH1,A0f,if_neg ne.atf];exact hS.t
  have s2:=A5v (e:=eInt) (ty:=tyI) (c:=iv (-1)) (x:=(-1:Int)) rfl t1 (i:=k) (by rw[hS.lv];exact hkn) rfl rfl;rw[<-hw']at s2
  obtain⟨H2,hH2⟩:∃H2,H2=Abs.upd H1 M.K.kt (A0l eInt tyI w'):=⟨_,rfl⟩
  rw[<-hH2]at s2
  have hlw:w'.length=M.a.vars.length:=by rw[hw',List.length_set,hS.lv]
  have S2:MtS M pl w' uP uC H2 nx:=hS.mk2 hM hlw (by rw[hH2,A0f,if_pos rfl,t1];rfl) (by rw[hH2,A0f,if_neg ne.atf.symm,hH1,A0f,if_pos rfl,hS.f];rfl)
   (fun c h1 h2=>by rw[hH2,A0f,if_neg h1,hH1,A0f,if_neg h2])
  refine A0r A0g ?_;simp -implicitDefEqProofs [SRl,hjl,i1,l1,L.f,L.t,i2,l2,i3,s1,L1.t,s2,w1]
  exact Abs.Next.mk ⟨H2,w',j+1⟩ ⟨⟨S2,hB2,fun c hc=>by
   show Abs.look H2 c=_;rw[hH2,A0f,if_neg (fun e=>hc (by rw[e];exact M.K.mt)),hH1,A0f,if_neg (fun e=>hc (by rw[e];exact M.K.mf))]
   exact hk c hc,fun h=>by
   show Frs H2 nx
   rw[hH2,hH1];exact(hf h).upd.upd,hjl⟩,by show bd.length-(j+1)<bd.length-j;omega⟩ (A0d (by simp -implicitDefEqProofs [SRl]))
 ·have ej:j=bd.length:=by omega
  subst ej;rw[List.drop_length]at hBn;have ev:w=v0:=hBn.back;subst ev;refine A0r A0g ?_;simp -implicitDefEqProofs [SRl];exact B4n ⟨.t (.tu []),Ha,nx⟩ ⟨rfl,rfl,hS,hk,hf⟩ (by simp -implicitDefEqProofs)
structure PrL (L:PV) (prs:List (Int×Int)) (Kr:List Nat) (H:Heap):Prop where
 len:A6t L=some (.t (iv (prs.length:Int)))
 at_:∀(i:Nat) (p:Int×Int),prs[i]?=some p->∃A,A2e 2 L (.t (iv (i:Int)))=some A/\∀H',(∀c∈Kr,Abs.look H' c=Abs.look H c)->A0t true 2 H' A=some (.t (.ag [iv p.1,iv p.2]))
structure G1x (M:Mx) (pl:List Int) (uP uC:List Bool) (H:Heap) (nx:Nat) (o:(List Int×List Int)×Bool) (f:Fin):Prop where
 b':∃b',f.r=oneOf [rowP eInt b' o.1.2,.t (bv o.2)]/\A0z eInt tyI f.H b' o.1.2/\b'∉M.K.l/\b'<f.nx/\nx<=b'
 s:MtS M pl o.1.1 uP uC f.H f.nx
 k:∀c,c<nx->c∉M.K.l->Abs.look f.H c=Abs.look H c
 n:nx<=f.nx
 fr:Frs H nx->Frs f.H f.nx
structure BaC where
 H:Heap
 nx:Nat
 bb:Nat
 bd:List Int
 v:List Int
 j:Nat
def SBa (M:Mx) (L:PV) (n:Nat) (c:BaC):A0c:=⟨[(13,.t (iv (c.j:Int))),(12,.t (iv (n:Int))),(11,L),(6,rowP eInt c.bb c.bd),(0,.ptr M.K.k0 0)],c.H,c.nx,33⟩
theorem D3g {ok:Int->Int->Bool} (st:List Int×List Int) (x y:Int):(B1i ok st x y).1.2.length<=st.2.length+1:=by
 unfold B1i;split
 ·simp
 ·split
  ·simp
  ·simp
theorem B7q {M:Mx} (hM:MxOk M) {pl v:List Int} {uP uC:List Bool} {H:Heap} {nx:Nat} (h:MtS M pl v uP uC H nx) (hpm:PMv (fun _ _=>true) M.a.vars.length v) {L:PV} {prs:List (Int×Int)} {Kr:List Nat} (hL:PrL L prs Kr H) (hKr:∀c∈Kr,c<nx/\c∉M.K.l)
  (hin:∀p∈prs,inR M.a.vars.length p.1/\inR M.a.vars.length p.2) (hlen:prs.length<=10000) :
  ∃f,G1x M pl uP uC H nx (B1j M.ok (v,[]) prs) f/\A3n Tryz.prog (G q) 48 [.ptr M.K.k0 0,L] H nx f.r f.H f.nx:=by
 obtain⟨O,hO⟩:∃O,O=B1j M.ok (v,[]) prs:=⟨_,rfl⟩
 rw[<-hO];refine B1n.callX rfl ?_;(conv in A6h=>cbv);refine A0b A0g ?_;simp -implicitDefEqProofs;refine A0b A0g ?_;simp -implicitDefEqProofs;refine A3i (A8j (nx':=nx+1) (by omega)) rfl ?_;refine A3q (fun c:BaC=>⟨[(6,rowP eInt c.bb c.bd)],c.H,c.nx,33⟩) (fun c=>O=((c.v,c.bd),true)/\MtS M pl c.v uP uC c.H c.nx/\A0z eInt tyI c.H c.bb c.bd/\c.bb∉M.K.l/\c.bb<c.nx/\nx<=c.bb/\(∀c',c'<nx->c'∉M.K.l->Abs.look c.H c'=Abs.look H c')/\(Frs H nx->Frs c.H c.nx)) (fun _=>rfl) ?_ ?_
 ·refine A0b A0g ?_;simp -implicitDefEqProofs [hL.len];refine A1k ?_
  refine A2w (SBa M L prs.length) (fun c=>prs.length-c.j) (fun c=>(O=B1j M.ok (c.v,c.bd) (prs.drop c.j)/\Bnds M.a.vars.length v (c.v,c.bd)/\c.bd.length<=c.j)/\(MtS M pl c.v uP uC c.H c.nx/\A0z eInt tyI c.H c.bb c.bd/\c.bb∉M.K.l/\c.bb<c.nx/\nx<=c.bb/\nx<=c.nx)/\(∀c',c'<nx->c'∉M.K.l->Abs.look c.H c'=Abs.look H c')/\(Frs H nx->Frs c.H c.nx)/\c.j<=prs.length)
   ⟨H,nx+1,nx,[],v,0⟩ (fun _=>rfl) ⟨⟨hO,Bnds.nil hpm,Nat.zero_le _⟩,⟨h.more (fun _ _=>rfl) (Nat.le_succ _),.inl rfl,fun hm=>Nat.lt_irrefl nx (h.lt nx hm),Nat.lt_succ_self _,Nat.le_refl _,Nat.le_succ _⟩,fun _ _ _=>rfl,fun hf=>hf.mono (Nat.le_succ _),Nat.zero_le _⟩ ?_ rfl ?_
  ·exact A0d (by simp -implicitDefEqProofs [SBa,rowP])
  rintro⟨Ha,na,bb,bd,w,j⟩ ⟨⟨hOj,hBn,hbj⟩,⟨hS,hb,hbK,hbl,hbn,hnn⟩,hk,hf,hj⟩;simp only at hOj hBn hbj hS hb hbK hbl hbn hnn hk hf hj;by_cases hjl:j<prs.length
  ·obtain⟨p,hp⟩:∃p,prs[j]?=some p:=⟨_,List.getElem?_eq_getElem hjl⟩
   have hpm':=List.mem_of_getElem? hp;obtain⟨hp1,hp2⟩:=hin p hpm';rw[List.drop_eq_getElem_cons hjl,(List.getElem?_eq_some_iff.1 hp).2,B1j]at hOj;obtain⟨A,iA,lA⟩:=hL.at_ j p hp;have lA':=lA Ha (fun c hc=>hk c (hKr c hc).1 (hKr c hc).2);have w1:IntKind.i64.wrap ((j:Int)+1)=((j+1:Nat):Int):=A0k (by omega) (by omega);have u1:∀a b,A0x 2 ((na,.cells 68 [a,b])::Ha) (.ptr na 0) (.t (.ag [iv p.1,iv p.2]))=some ((na,.cells 68 [.t (iv p.1),.t (iv p.2)])::Ha):=fun a b=>st2 na a b _ _ 68 Ha
   obtain⟨Hb,hHb⟩:∃Hb,Hb=(na,Row.cells 68 [.t (iv p.1),.t (iv p.2)])::Ha:=⟨_,rfl⟩
   obtain⟨nb,hnb⟩:∃nb,nb=na+1:=⟨_,rfl⟩
   rw[<-hHb]at u1
   have kb:∀c,c<na->Abs.look Hb c=Abs.look Ha c:=fun c h=>by rw[hHb,look_cons,if_neg (by omega)]
   have lb:=A5m (H:=Hb) (b:=na) (ty:=68) (p0:=.t (iv p.1)) (p1:=.t (iv p.2)) (by rw[hHb,look_cons,if_pos rfl]);have a0:B3i 2 1 (.ptr na 0) (.t (.v (.int .i64 0)))=some (.ptr na 0):=rfl;have a1:B3i 2 1 (.ptr na 0) (.t (.v (.int .i64 1)))=some (.ptr na 1):=rfl;have Sb:MtS M pl w uP uC Hb nb:=hS.more (fun c hc=>kb c (hS.lt c hc)) (by omega);obtain⟨⟨fr,fH,fn⟩,⟨⟨b',hr,hb',hbK',hbl',hbo⟩,hS',hk',hn',hf'⟩,hc⟩:=E4f (q:=q) hM Sb hBn.pm (hb.imp id fun e=>by rw[kb bb hbl];exact e) hbK (by omega) (by omega) hp1 hp2;simp only at hr hb' hbK' hbl' hbo hS' hk' hn' hf' hc;have hBn':=C5e (ok:=M.ok) hBn hp1 hp2;have hbl2:=D3g (ok:=M.ok) (w,bd) p.1 p.2
   obtain⟨⟨⟨w2,bd2⟩,ok2⟩,ho2⟩:∃o2,o2=B1i M.ok (w,bd) p.1 p.2:=⟨_,rfl⟩
   rw[<-ho2]at hOj hr hb' hS' hBn' hbl2;simp only at hOj hr hb' hS' hBn' hbl2;obtain⟨x0,x1⟩:=C8p eInt b' bd2 (bv ok2);obtain⟨t,t1,t2⟩:=hAt hc hf';rw[hr]at t1
   obtain⟨rr,hrr⟩:∃rr,rr=oneOf [rowP eInt b' bd2,.t (bv ok2)]:=⟨_,rfl⟩
   rw[<-hrr]at t1 x0 x1
   have kf:∀c',c'<nx->c'∉M.K.l->Abs.look fH c'=Abs.look H c':=fun c h1 h2=>by rw[hk' c (by omega) h2 (by omega),kb c (by omega)];exact hk c h1 h2
   have ff:Frs H nx->Frs fH fn:=fun h=>hf' (by rw[hHb,hnb];exact(hf h).cons (Nat.lt_succ_self _) (Nat.le_succ _));have CC:Ctx Tryz.prog (G q) _:=A0s.nil.ctxH (A0v.cons t2 .nil) mixed;refine A0b CC ?_;simp -implicitDefEqProofs [SBa,hjl];refine A0b CC ?_;simp -implicitDefEqProofs;refine A3q (fun c:BaC=>⟨[(13,.t (iv (j:Int))),(12,.t (iv (prs.length:Int))),(11,L),(6,rowP eInt c.bb c.bd),(0,.ptr M.K.k0 0)],c.H,c.nx,33⟩) (fun c=>ok2=true/\fH=c.H/\fn=c.nx/\b'=c.bb/\bd2=c.bd) (fun _=>rfl) ?_ ?_
   ·refine A1k ?_;refine A0b CC ?_;simp -implicitDefEqProofs [iA,lA',u1];refine A3i (s':=⟨[(8,.ptr na 0),(13,.t (iv (j:Int))),(12,.t (iv (prs.length:Int))),(11,L),(6,rowP eInt bb bd),(0,.ptr M.K.k0 0)],Hb,nb,33⟩) (by rw[hnb];exact A0d (by simp -implicitDefEqProofs)) rfl ?_;refine A0b CC ?_;simp -implicitDefEqProofs [a0,a1,lb.1,lb.2,t1,x0,x1,-extractV];refine A0b CC ?_;simp -implicitDefEqProofs
    cases ok2 with
    | true=>
     refine A0r CC ?_;simp -implicitDefEqProofs;exact Abs.Next.mk ⟨fH,fn,b',bd2,[],0⟩ ⟨rfl,rfl,rfl,rfl⟩ (A0d (by simp -implicitDefEqProofs))
    | false=>
     rw[if_neg (by simp)]at hOj;subst hOj;refine A0r CC ?_;simp -implicitDefEqProofs;refine A1u ⟨oneOf [rowP eInt b' bd2,.t (bv false)],fH,fn⟩ ⟨⟨b',rfl,hb',hbK',hbl',?_⟩,hS',kf,by show nx<=fn;omega,ff⟩ (by simp -implicitDefEqProofs);rcases hbo with e | e<;>omega
   ·rintro⟨_,_,_,_,_,_⟩ ⟨e0,e1,e2,e3,e4⟩;simp only at e1 e2 e3 e4;subst e0 e1 e2 e3 e4;rw[if_pos rfl]at hOj;refine A0r CC ?_;simp -implicitDefEqProofs [w1];refine Abs.Next.mk ⟨fH,fn,b',bd2,w2,j+1⟩ ⟨⟨⟨hOj,hBn',by show bd2.length<=j+1;omega⟩,⟨hS',hb',hbK',hbl',?_,by show nx<=fn;omega⟩,kf,ff,hjl⟩,by show prs.length-(j+1)<prs.length-j;omega⟩ (A0d (by simp -implicitDefEqProofs [SBa]));show nx<=b';rcases hbo with e | e<;>omega
  ·have ej:j=prs.length:=by omega
   subst ej;rw[List.drop_length,B1j]at hOj;refine A0r A0g ?_;simp -implicitDefEqProofs [SBa];exact Abs.Next.mk ⟨Ha,na,bb,bd,w,0⟩ ⟨hOj,hS,hb,hbK,hbl,hbn,hk,hf⟩ (A0d (by simp -implicitDefEqProofs))
 rintro⟨Ha,na,bb,bd,w,_⟩ ⟨hOj,hS,hb,hbK,hbl,hbn,hk,hf⟩;simp only at hOj hS hb hbK hbl hbn hk hf;subst hOj;refine A0r A0g ?_;simp -implicitDefEqProofs;exact A1u ⟨oneOf [rowP eInt bb bd,.t (bv true)],Ha,na⟩ ⟨⟨bb,rfl,hb,hbK,hbl,hbn⟩,hS,hk,by show nx<=na;omega,hf⟩ (by simp -implicitDefEqProofs)
def ePr:Enc (Int×Int):=⟨2,fun p=>[iv p.1,iv p.2],fun _=>rfl,by omega,fun a b h=>by
 obtain⟨_,_⟩:=a;obtain⟨_,_⟩:=b;injection h with h1 h;injection h with h2 _;injection h1 with h1;injection h1 with _ h1;injection h2 with h2;injection h2 with _ h2;simp only at h1 h2
 subst h1;subst h2;rfl⟩
def C8q:Option (List (Int×Int))->T
 | some l=>.tu [slT ePr l,bv true]
 | none=>.tu [nilS,bv false]
def pqI (x y:Ep) (i:Nat):List (Int×Int):=(x.label,y.label)::((x.args.map (·.var)).zip (y.args.map (·.var))).take i
theorem F4n {x y:Ep} {i:Nat} {g h:Ag} (hg:x.args[i]?=some g) (hh:y.args[i]?=some h):pqI x y (i+1)=pqI x y i++[(g.var,h.var)]:=by
 unfold pqI;have e:((x.args.map (·.var)).zip (y.args.map (·.var)))[i]?=some (g.var,h.var):=List.getElem?_zip_eq_some.2 ⟨by simp[hg],by simp[hh]⟩;rw[List.take_add_one,e];simp
structure PqC where
 H:Heap
 nx:Nat
 ko:Nat
 i:Nat
abbrev ty2:Nat:=68
def SPq2 (x y:Ep) (ta:T) (n:Nat) (c:PqC):A0c:=⟨[(32,.t (iv (c.i:Int))),(31,.t (iv (n:Int))),(30,.t ta),(6,rowP ePr c.ko (pqI x y c.i)),(3,.ptr 1 0),(2,.ptr 0 0)],c.H,c.nx,60⟩
theorem D3h (Φ:A0u) (H:Heap) (nx:Nat) (x y:Int):A0i Φ H nx (.barr 1 [.int .i64 0,.int .i64 0] [0,1]) [.t (iv x),.t (iv y)]=some (.t (.ag [iv x,iv y]),H,nx):=rfl
theorem tsl_2 (a b:T):A5c ty2 2 [.int .i64 0,.int .i64 0] 1 [(0,.t (.ag [a,b]))]=some (.t (.sl 1 [a,b])):=rfl
theorem E4g (X Y:EC) (hx:X.x.args.length<=1000) (hy:Y.x.args.length<=1000):A1d Tryz.prog (G q) 78 [.ag X.cs,.ag Y.cs] (· = C8q (A4i X.x Y.x)):=by
 obtain⟨x,hxx⟩:∃x,x=X.x:=⟨_,rfl⟩
 obtain⟨y,hyy⟩:∃y,y=Y.x:=⟨_,rfl⟩
 obtain⟨ta,hxc,hta⟩:=X.ok;obtain⟨tb,hyc,htb⟩:=Y.ok;rw[hxc,hyc];rw[<-hxx]at hx hta ⊢;rw[<-hyy]at hy htb ⊢;have la:=hta.len;have lb:=htb.len;have c3x:=cd3 (sv x.pred) (iv x.label) ta;have c3y:=cd3 (sv y.pred) (iv y.label) tb
 obtain⟨R,hR⟩:∃R,R=C8q (A4i x y):=⟨_,rfl⟩
 rw[<-hR]
 have no:¬(x.pred=y.pred/\x.args.map (·.role)=y.args.map (·.role))->R = .tu [nilS,bv false]:=fun h=>by rw[hR];unfold A4i;rw[if_neg h];rfl
 obtain⟨H0,hH0⟩:∃H0:Heap,H0=[(1,eRow y.pred y.label tb),(0,eRow x.pred x.label ta)]:=⟨_,rfl⟩
 have zx:=ldE (H:=H0) (k:=0) (p:=x.pred) (l:=x.label) (ta:=ta) (by rw[hH0];rfl);have zy:=ldE (H:=H0) (k:=1) (p:=y.pred) (l:=y.label) (ta:=tb) (by rw[hH0];rfl);refine D5l.call rfl ?_;(conv in C1r=>cbv);refine A0a A0g ?_;simp -implicitDefEqProofs [c3x,c3y];rw[show([(1,Row.cells 47 [.t (sv y.pred),.t (iv y.label),.t tb]),(0,Row.cells 47 [.t (sv x.pred),.t (iv x.label),.t ta])]:Heap)=H0 from hH0.symm];by_cases h1:x.pred=y.pred
 ·have b1:(x.pred.toList==y.pred.toList)=true:=by rw[A2g];exact decide_eq_true h1
  by_cases h2:x.args.length=y.args.length
  ·have b2:((x.args.length:Int) !=(y.args.length:Int))=false:=by rw[h2];exact bne_self_eq_false _
   refine A0a A0g ?_;simp -implicitDefEqProofs [zx.l0,zy.l0,zx.l2,zy.l2,la,lb,b1,b2];have bsl:∀k,A1v ty2 2 [.int .i64 0,.int .i64 0] 1 [(0,.t (.ag [iv x.label,iv y.label]))] k=some (rowP ePr k (pqI x y 0),A0l ePr ty2 (pqI x y 0)):=fun k=>rfl;refine A0a A0g ?_;simp -implicitDefEqProofs [zx.l1,zy.l1,D3h,bsl,-evalK_barr];refine A0q (fun c:PqC=>⟨[(6,rowP ePr c.ko (pqI x y x.args.length))],c.H,c.nx,60⟩) (fun c=>A0z ePr ty2 c.H c.ko (pqI x y x.args.length)/\x.args.map (·.role)=y.args.map (·.role)) (fun _=>rfl) ?_ ?_
   ·refine A0a A0g ?_;have zx':=ldE (H:=(2,A0l ePr ty2 (pqI x y 0))::H0) (k:=0) (p:=x.pred) (l:=x.label) (ta:=ta) (by rw[hH0];rfl);simp -implicitDefEqProofs [zx'.l2,la];refine A0j ?_
    refine A0n (SPq2 x y ta x.args.length) (fun c=>x.args.length-c.i) (fun c=>Abs.look c.H 1=some (eRow y.pred y.label tb)/\A0z ePr ty2 c.H c.ko (pqI x y c.i)/\1<c.ko/\c.ko<c.nx/\(x.args.map (·.role)).take c.i=(y.args.map (·.role)).take c.i/\c.i<=x.args.length)
     ⟨(2,A0l ePr ty2 (pqI x y 0))::H0,3,2,0⟩ (fun _=>rfl) ⟨by rw[hH0];rfl,.inr rfl,by show 1<2;omega,by show 2<3;omega,rfl,Nat.zero_le _⟩ ?_ rfl ?_
    ·exact A0d (by simp -implicitDefEqProofs [SPq2])
    rintro⟨H,nx,ko,i⟩ ⟨g1,go,gk,gl,gr,gi⟩;simp only at g1 go gk gl gr gi;by_cases hlt:i<x.args.length
    ·obtain⟨g,hg⟩:∃g,x.args[i]?=some g:=⟨_,List.getElem?_eq_getElem hlt⟩
     obtain⟨k,hk⟩:∃k,y.args[i]?=some k:=⟨_,List.getElem?_eq_getElem (by omega)⟩
     have i1:=hta.iaddr hg .i64;have i2:=htb.iaddr hk .i64;have hz2:eAg.z=2:=rfl;rw[hz2,show eAg.enc g=[sv g.role,iv g.var]from rfl]at i1;rw[hz2,show eAg.enc k=[sv k.role,iv k.var]from rfl]at i2;have w1:IntKind.i64.wrap ((i:Int)+1)=((i+1:Nat):Int):=A0k (by omega) (by omega);have u1:∀a b,A0x 2 ((nx,.cells tyA [a,b])::H) (.ptr nx 0) (.t (.ag [sv g.role,iv g.var]))=some ((nx,.cells tyA [.t (sv g.role),.t (iv g.var)])::H):=fun a b=>st2 nx a b _ _ tyA H
     obtain⟨Hb,hHb⟩:∃Hb,Hb=(nx,Row.cells tyA [.t (sv g.role),.t (iv g.var)])::H:=⟨_,rfl⟩
     rw[<-hHb]at u1
     have kb:∀c,c<nx->Abs.look Hb c=Abs.look H c:=fun c h=>by rw[hHb,look_cons,if_neg (by omega)]
     have lb':=A5m (H:=Hb) (b:=nx) (ty:=tyA) (p0:=.t (sv g.role)) (p1:=.t (iv g.var)) (by rw[hHb,look_cons,if_pos rfl]);have zy':=ldE (H:=Hb) (k:=1) (p:=y.pred) (l:=y.label) (ta:=tb) (by rw[kb 1 (by omega)];exact g1);by_cases hro:g.role=k.role
     ·have b3:(g.role.toList==k.role.toList)=true:=by rw[A2g];exact decide_eq_true hro
      have pl:(pqI x y i).length<=2000:=by unfold pqI;rw[List.length_cons,List.length_take];simp only[List.length_zip,List.length_map];omega
      obtain⟨Hd,ad,bd,cdd,_⟩:=appT (by':=16) (nx:=nx+1) ((g.var,k.var):Int×Int) 2 rfl [iv g.var,iv k.var] rfl (go.imp id fun e=>by rw[kb ko gl];exact e) (by omega) (by omega) (by omega);rw[<-F4n hg hk]at ad bd;refine A0e A0g ?_;simp -implicitDefEqProofs [SPq2,hlt,i1,A6j,u1,lb'.1,lb'.2,zy'.l2,i2,lp,b3,D3h,tsl_2,ad,w1,-evalK_barr];refine Abs.Next.mk ⟨Hd,nx+1+1,nx+1,i+1⟩ ⟨⟨by show Abs.look Hd 1=_;rw[cdd 1 (by omega) (by omega),kb 1 (by omega)];exact g1,bd,by show 1<nx+1;omega,by show nx+1<nx+1+1;omega,?_,hlt⟩,by show x.args.length-(i+1)<x.args.length-i;omega⟩ (A0d (by simp -implicitDefEqProofs [SPq2]));show(x.args.map (·.role)).take (i+1)=(y.args.map (·.role)).take (i+1);rw[List.take_add_one,List.take_add_one,gr];simp[hg,hk,hro]
     ·have b3:(g.role.toList==k.role.toList)=false:=by rw[A2g];exact decide_eq_false hro
      have hRn:=no fun h=>hro (by
       have:=congrArg (fun l=>l[i]?) h.2
       simpa[hg,hk]using this)
      refine A0e A0g ?_;simp -implicitDefEqProofs [SPq2,hlt,i1,A6j,u1,lb'.1,zy'.l2,i2,lp,b3,hRn]
    ·have ei:i=x.args.length:=by omega
     subst ei;refine A0e A0g ?_;simp -implicitDefEqProofs [SPq2];refine Abs.Next.mk ⟨H,nx,ko,0⟩ ⟨go,?_⟩ (A0d (by simp -implicitDefEqProofs));rw[List.take_of_length_le (by simp),List.take_of_length_le (by simp;omega)]at gr;exact gr
   rintro⟨H,nx,ko,_⟩ ⟨go,hro⟩;simp only at go
   have hRs:R = .tu [slT ePr (pqI x y x.args.length),bv true]:=by
    rw[hR];have e:A4i x y=some ((x.label,y.label)::(x.args.map (·.var)).zip (y.args.map (·.var))):=if_pos ⟨h1,hro⟩;rw[e];unfold pqI;rw[List.take_of_length_le (by simp only[List.length_zip,List.length_map];exact Nat.min_le_left _ _)];rfl
   obtain⟨L,hL⟩:∃L,L=pqI x y x.args.length:=⟨_,rfl⟩
   rw[<-hL]at go hRs ⊢
   have hne:L≠[]:=by rw[hL];unfold pqI;simp
   have e:rowP ePr ko L = .row ko 0 L.length 2:=A6q ePr ko L hne;have ht:=D6k (e:=ePr) (go.resolve_left hne) (bv true);rw[show ePr.z=2 from rfl]at ht;rw[e];refine A0e A0g ?_;simp -implicitDefEqProofs [ht,hRs,-toT]
  ·have b2:((x.args.length:Int) !=(y.args.length:Int))=true:=by rw[bne_iff_ne];omega
   have hRn:=no fun h=>h2 (by have:=congrArg List.length h.2;simpa using this);refine A0a A0g ?_;simp -implicitDefEqProofs [zx.l0,zy.l0,zx.l2,zy.l2,la,lb,b1,b2,hRn]
 ·have b1:(x.pred.toList==y.pred.toList)=false:=by rw[A2g];exact decide_eq_false h1
  have hRn:=no fun h=>h1 h.1;refine A0a A0g ?_;simp -implicitDefEqProofs [zx.l0,zy.l0,b1,hRn]
noncomputable def gPs:List T->Option T
 | [t1,t2]=>open Classical in match tEp.dec t1,tEp.dec t2 with
  | some x,some y=>if x.x.args.length<=1000/\y.x.args.length<=1000 then some (C8q (A4i x.x y.x))else none
  | _,_=>none
 | _=>none
theorem hPs:GOK Tryz.prog (G q) 78 gPs:=fun args r hr=>by
 unfold gPs at hr;split at hr
 ·rename_i t1 t2;split at hr
  ·rename_i x y h1 h2;split at hr
   ·rename_i h;injection hr with hr;subst hr;have e1:t1 = .ag x.cs:=tEp.is_dec h1;have e2:t2 = .ag y.cs:=tEp.is_dec h2;subst e1 e2;exact E4g x y h.1 h.2
   ·cases hr
  ·cases hr
 ·cases hr
theorem G1y (x y:EC) (hx:x.x.args.length<=1000) (hy:y.x.args.length<=1000):gPs [.ag x.cs,.ag y.cs]=some (C8q (A4i x.x y.x)):=by
 simp only[gPs];rw[tEp.dec_is (a:=x) rfl,tEp.dec_is (a:=y) rfl];exact if_pos ⟨hx,hy⟩
theorem E0s {t:T} {prs:List (Int×Int)} (h:IsS ePr t prs) (H:Heap):PrL (.t t) prs [] H:=⟨h.len,fun i p hp=>by
 have i1:=h.iaddr hp .i64
 exact⟨_,i1,fun H' _=>A6j _ _ _ _⟩⟩
theorem F4o {n k:Nat} (F:Nat->Bool) (h:k<n):((List.range n).drop k).any F=(F k||((List.range n).drop (k+1)).any F):=by
 rw[List.drop_eq_getElem_cons (by simpa using h),List.getElem_range,List.any_cons]
theorem C2w {ok:Int->Int->Bool}:∀(l:List (Int×Int)) (st:List Int×List Int),(B1j ok st l).1.2.length<=st.2.length+l.length
 | [],st=>by rw[B1j];exact Nat.le_add_right _ _
 | p::r,st=>by
  rw[B1j];have h:=D3g (ok:=ok) st p.1 p.2;split
  ·have:=C2w (ok:=ok) r (B1i ok st p.1 p.2).1;rw[List.length_cons];omega
  ·show(B1i ok st p.1 p.2).1.2.length<=_;rw[List.length_cons];omega
theorem MtS.setC {M:Mx} (hM:MxOk M) {pl v:List Int} {uP uC w:List Bool} {H:Heap} {nx:Nat} (h:MtS M pl v uP uC H nx) (hl:w.length=M.b.cons.length):MtS M pl v uP w (Abs.upd H M.K.kc (A0l A8m tyO w)) nx:=by
 have n:=Kx.ne hM.nd;refine⟨?_,?_,?_,?_,?_,?_,h.lp,h.lv,h.lu,hl,h.lt⟩
 ·rw[A0f,if_neg n.a0c];exact h.o
 ·rw[A0f,if_neg n.apc];exact h.p
 ·rw[A0f,if_neg n.atc];exact h.t
 ·rw[A0f,if_neg n.afc];exact h.f
 ·rw[A0f,if_neg n.auc];exact h.u
 ·rw[A0f,if_pos rfl,h.c];rfl
structure G1z (M:Mx) (pl v:List Int) (uP:List Bool) (us:List Nat) (H:Heap) (nx:Nat) (ok:Bool) (f:Fin):Prop where
 r:f.r = .t (bv ok)
 s:∃v' uC',MtS M pl v' uP uC' f.H f.nx/\(ok=false->v'=v/\uC'=useL M.b.cons.length us)
 k:∀c,c<nx->c∉M.K.l->Abs.look f.H c=Abs.look H c
 n:nx<=f.nx
 fr:Frs H nx->Frs f.H f.nx
structure CmC where
 H:Heap
 nx:Nat
 k:Nat
def SCm (M:Mx) (tb:T) (n i:Nat) (c:CmC):A0c:=⟨[(23,.t (iv (c.k:Int))),(22,.t (iv (n:Int))),(21,.t tb),(1,.t (iv (i:Int))),(0,.ptr M.K.k0 0)],c.H,c.nx,86⟩
abbrev tyQm:Nat:=52
theorem E4h {M:Mx} (hM:MxOk M) {pl:List Int} {uP:List Bool}:∀(m:Nat) {i:Nat} {v:List Int} {us:List Nat} {H:Heap} {nx:Nat},i+m=M.a.cons.length->MtS M pl v uP (useL M.b.cons.length us) H nx->PMv (fun _ _=>true) M.a.vars.length v ->
  ∃f,G1z M pl v uP us H nx (A4r M.ok M.b.cons (M.a.cons.drop i) v us) f/\A3n Tryz.prog (G q) 77 [.ptr M.K.k0 0,.t (iv (i:Int))] H nx f.r f.H f.nx:=by
 intro m
 induction m with
 | zero=>
  intro i v us H nx him h hpm
  have ei:i=M.a.cons.length:=by omega
  subst ei;rw[List.drop_length,A4r];have L:=ldX hM h.o;obtain⟨ta,lca,hca⟩:=L.ca;have la:=hca.len;refine A8i.callX rfl ?_;(conv in A5h=>cbv);refine A0b A0g ?_;simp -implicitDefEqProofs;refine A0b A0g ?_;simp -implicitDefEqProofs [lca,la];exact A1u ⟨.t (bv true),H,nx⟩ ⟨rfl,⟨v,_,h,fun e=>by cases e⟩,fun _ _ _=>rfl,Nat.le_refl _,fun h=>h⟩ (by simp -implicitDefEqProofs)
 | succ m ih=>
  intro i v us H nx him h hpm
  have hil:i<M.a.cons.length:=by omega
  obtain⟨c,hc⟩:∃c,M.a.cons[i]?=some c:=⟨_,List.getElem?_eq_getElem hil⟩
  have ed:M.a.cons.drop i=c::M.a.cons.drop (i+1):=by rw[List.drop_eq_getElem_cons hil,(List.getElem?_eq_some_iff.1 hc).2]
  rw[ed]
  obtain⟨F,hF⟩:∃F:Nat->Bool,F=fun k=>if k∈us then false else match A2x M.ok v (A5r c (M.b.cons.getD k ⟨0,0⟩))with
   | some w=>A4r M.ok M.b.cons (M.a.cons.drop (i+1)) w (k::us)
   | none=>false:=⟨_,rfl⟩
  obtain⟨O,hO⟩:∃O,O=A4r M.ok M.b.cons (c::M.a.cons.drop (i+1)) v us:=⟨_,rfl⟩
  rw[<-hO]
  replace hO:O=(List.range M.b.cons.length).any F:=by rw[hO,hF];rfl
  have L:=ldX hM h.o;obtain⟨ta,lca,hca⟩:=L.ca;obtain⟨tb,lcb,hcb⟩:=L.cb;have la:=hca.len;have lb:=hcb.len;have ia:=hca.iaddr hc .i64;have hz:eQq.z=2:=rfl;rw[hz,show eQq.enc c=[iv c.high,iv c.low]from rfl]at ia
  have bne0:((i:Int)==(M.a.cons.length:Int))=false:=by rw[beq_eq_false_iff_ne];omega
  have hcin:=hM.mb.oa.inQ c (List.mem_of_getElem? hc);have sca:=hM.mb.sa.cons;have elc:=hM.lc
  have wi:IntKind.i64.wrap ((i:Int)+1)=(i:Int)+1:=by
   have:IntKind.i64.wrap ((i:Int)+1)=((i+1:Nat):Int):=A0k (by omega) (by omega);rw[this];rfl
  refine A8i.callX rfl ?_;(conv in A5h=>cbv);refine A0b A0g ?_;simp -implicitDefEqProofs;refine A0b A0g ?_;simp -implicitDefEqProofs [lca,la,bne0];refine A3q (fun c:CmC=>⟨[],c.H,c.nx,86⟩) (fun c=>O=false/\MtS M pl v uP (useL M.b.cons.length us) c.H c.nx/\(∀c',c'<nx->c'∉M.K.l->Abs.look c.H c'=Abs.look H c')/\nx<=c.nx/\(Frs H nx->Frs c.H c.nx)) (fun _=>rfl) ?_ ?_
  ·refine A0b A0g ?_;simp -implicitDefEqProofs [lcb,lb];refine A1k ?_
   refine A2w (SCm M tb M.b.cons.length i) (fun c=>M.b.cons.length-c.k) (fun c=>O=((List.range M.b.cons.length).drop c.k).any F/\MtS M pl v uP (useL M.b.cons.length us) c.H c.nx/\(∀c',c'<nx->c'∉M.K.l->Abs.look c.H c'=Abs.look H c')/\nx<=c.nx/\(Frs H nx->Frs c.H c.nx)/\c.k<=M.b.cons.length)
    ⟨H,nx,0⟩ (fun _=>rfl) ⟨hO,h,fun _ _ _=>rfl,Nat.le_refl _,fun h=>h,Nat.zero_le _⟩ ?_ rfl ?_
   ·exact A0d (by simp -implicitDefEqProofs [SCm])
   rintro⟨Ha,na,k⟩ ⟨hOk,hS,hk,hn,hf,hkl⟩;simp only at hOk hS hk hn hf hkl;by_cases hlt:k<M.b.cons.length
   ·rw[F4o F hlt]at hOk
    obtain⟨d,hd⟩:∃d,M.b.cons[k]?=some d:=⟨_,List.getElem?_eq_getElem hlt⟩
    have hFk:F k=if k∈us then false else match A2x M.ok v (A5r c d)with
     | some w=>A4r M.ok M.b.cons (M.a.cons.drop (i+1)) w (k::us)
     | none=>false:=by
     rw[hF];simp only;rw[List.getD_eq_getElem?_getD,hd,Option.getD_some]
    have hdin:inQ M.a.vars.length d:=by rw[<-hM.mb.len];exact hM.mb.ob.inQ d (List.mem_of_getElem? hd)
    have hpin:=B9l hcin hdin;have i1:=hcb.iaddr hd .i64;rw[hz,show eQq.enc d=[iv d.high,iv d.low]from rfl]at i1;have w1:IntKind.i64.wrap ((k:Int)+1)=((k+1:Nat):Int):=A0k (by omega) (by omega);have u1:∀a b,A0x 2 ((na,.cells tyQm [a,b])::Ha) (.ptr na 0) (.t (.ag [iv d.high,iv d.low]))=some ((na,.cells tyQm [.t (iv d.high),.t (iv d.low)])::Ha):=fun a b=>st2 na a b _ _ tyQm Ha
    obtain⟨Hb,hHb⟩:∃Hb,Hb=(na,Row.cells tyQm [.t (iv d.high),.t (iv d.low)])::Ha:=⟨_,rfl⟩
    obtain⟨nb,hnb⟩:∃nb,nb=na+1:=⟨_,rfl⟩
    rw[<-hHb]at u1
    have kb:∀c,c<na->Abs.look Hb c=Abs.look Ha c:=fun c h=>by rw[hHb,look_cons,if_neg (by omega)]
    have lbb:=A5m (H:=Hb) (b:=na) (ty:=tyQm) (p0:=.t (iv d.high)) (p1:=.t (iv d.low)) (by rw[hHb,look_cons,if_pos rfl]);have Sb:MtS M pl v uP (useL M.b.cons.length us) Hb nb:=hS.more (fun c hc=>kb c (hS.lt c hc)) (by omega)
    have hkb:∀c',c'<nx->c'∉M.K.l->Abs.look Hb c'=Abs.look H c':=fun c h1 h2=>by rw[kb c (by omega)];exact hk c h1 h2
    have hfb:Frs H nx->Frs Hb nb:=fun h=>by rw[hHb,hnb];exact(hf h).cons (Nat.lt_succ_self _) (Nat.le_succ _)
    have Lb:=ldX hM Sb.o;obtain⟨ta',lca',hca'⟩:=Lb.ca;have ia':=hca'.iaddr hc .i64;rw[hz,show eQq.enc c=[iv c.high,iv c.low]from rfl]at ia';have iu:A2e 1 (.row M.K.kc 0 M.b.cons.length 1) (.t (iv (k:Int)))=some (.ptr M.K.kc k):=A7u _ _ _ hlt;have lu:=B1s (e:=A8m) Sb.c (A8o us hlt) rfl rfl;have bd2:∀x y:Int,∀Φ H nx,A0i Φ H nx (.barr 1 [.int .i64 0,.int .i64 0] [0,1]) [.t (iv x),.t (iv y)]=some (.t (.ag [iv x,iv y]),H,nx):=fun _ _ _ _ _=>rfl;have htsl:A5c ty2 2 [.int .i64 0,.int .i64 0] 2 [(0,.t (.ag [iv c.high,iv d.high])),(1,.t (.ag [iv c.low,iv d.low]))]=some (.t (slT ePr (A5r c d))):=rfl;obtain⟨⟨fr,fH,fn⟩,⟨⟨b',hr,hb',hbK',hbl',hbo⟩,hS',hk',hn',hf'⟩,hcl⟩:=B7q (q:=q) hM Sb hpm (E0s (IsS.mk (A5r c d)) Hb) (Kr:=[]) (by simp) hpin (by simp[A5r]);simp only at hr hb' hbK' hbl' hbo hS' hk' hn' hf' hcl;have hbn':=C2w (ok:=M.ok) (A5r c d) (v,[]);have hBn':=B2k (ok:=M.ok) (Bnds.nil hpm) hpin;have hbA:=B9o (ok:=M.ok) (A5r c d) (v,[]);rw[show(v,([]:List Int)).1=v from rfl]at hbA;rw[hbA]at hFk
    obtain⟨⟨⟨w2,bd⟩,ok2⟩,ho2⟩:∃o2,o2=B1j M.ok (v,[]) (A5r c d):=⟨_,rfl⟩
    rw[<-ho2]at hr hb' hS' hBn' hbn' hFk;simp only at hr hb' hS' hBn' hbn' hFk;rw[show(A5r c d).length=2 from rfl,List.length_nil]at hbn';obtain⟨x0,x1⟩:=C8p eInt b' bd (bv ok2);obtain⟨t,t1,t2⟩:=hAt hcl hf';rw[hr]at t1
    obtain⟨rr,hrr⟩:∃rr,rr=oneOf [rowP eInt b' bd,.t (bv ok2)]:=⟨_,rfl⟩
    rw[<-hrr]at t1 x0 x1
    have kf:∀c',c'<nx->c'∉M.K.l->Abs.look fH c'=Abs.look H c':=fun c h1 h2=>by rw[hk' c (by omega) h2];exact hkb c h1 h2
    refine A0b A0g ?_;simp -implicitDefEqProofs [SCm,hlt];refine A0b A0g ?_;simp -implicitDefEqProofs;refine A3q (fun c:CmC=>⟨[(23,.t (iv (k:Int))),(22,.t (iv (M.b.cons.length:Int))),(21,.t tb),(1,.t (iv (i:Int))),(0,.ptr M.K.k0 0)],c.H,c.nx,86⟩) (fun c=>O=((List.range M.b.cons.length).drop (k+1)).any F/\MtS M pl v uP (useL M.b.cons.length us) c.H c.nx/\(∀c',c'<nx->c'∉M.K.l->Abs.look c.H c'=Abs.look H c')/\nx<=c.nx/\(Frs H nx->Frs c.H c.nx)) (fun _=>rfl) ?_ ?_
    ·refine A1k ?_;refine A0b A0g ?_;simp -implicitDefEqProofs [i1,A6j,u1];refine A3i (s':=⟨[(5,.t (iv (k:Int))),(6,.ptr na 0),(23,.t (iv (k:Int))),(22,.t (iv (M.b.cons.length:Int))),(21,.t tb),(1,.t (iv (i:Int))),(0,.ptr M.K.k0 0)],Hb,nb,86⟩) (by rw[hnb];exact A0d (by simp -implicitDefEqProofs)) rfl ?_;by_cases hu:k∈us
     ·rw[decide_eq_true hu]at lu;rw[if_pos hu]at hFk;rw[hFk,Bool.false_or]at hOk;refine A0b A0g ?_;simp -implicitDefEqProofs [Lb.c,iu,lu];exact Abs.Next.mk ⟨Hb,nb,0⟩ ⟨hOk,Sb,hkb,by show nx<=nb;omega,hfb⟩ (A0d (by simp -implicitDefEqProofs))
     rw[decide_eq_false hu]at lu;rw[if_neg hu]at hFk;refine A0b A0g ?_;simp -implicitDefEqProofs [Lb.c,iu,lu]
     cases ok2 with
     | false=>
      rw[if_neg (by simp)]at hFk;simp only at hFk;rw[hFk,Bool.false_or]at hOk;obtain⟨⟨gr,gH,gn⟩,⟨hgr,hgn,hgS,hgk,hgf⟩,hcg⟩:=B6g (q:=q) hM hS' hBn' hb' hbK' (by omega);simp only at hgr hgn hgS hgk hgf hcg;subst hgr hgn;obtain⟨tr,tr1,tr2⟩:=hAt hcg hgf;have CC:Ctx Tryz.prog (G q) _:=A0s.nil.ctxH (A0v.cons t2 (A0v.cons tr2 .nil)) mixed;refine A0b CC ?_;simp -implicitDefEqProofs [Lb.c,lca',ia',lp,lbb.1,lbb.2,bd2,htsl,t1,x0,x1,-extractV,-evalK_barr];refine A0b CC ?_;simp -implicitDefEqProofs;refine A0r CC ?_;simp -implicitDefEqProofs [tr1];exact Abs.Next.mk ⟨gH,gn,0⟩ ⟨hOk,hgS,fun c h1 h2=>by show Abs.look gH c=_;rw[hgk c h2];exact kf c h1 h2,by show nx<=gn;omega,fun h=>hgf (hf' (hfb h))⟩ (A0d (by simp -implicitDefEqProofs))
     | true=>
      rw[if_pos rfl]at hFk;simp only at hFk;have s1:=A5v (e:=A8m) (ty:=tyO) (c:=bv true) (x:=true) rfl hS'.c (i:=k) (by rw[A2r];exact hlt) rfl rfl;have hq1:∀j,j∈k::us ↔ j=k\/j∈us:=fun j=>List.mem_cons;rw[C7f hlt hq1]at s1;have S2:=hS'.setC hM (w:=useL M.b.cons.length (k::us)) (A2r _ _)
      obtain⟨H2,hH2⟩:∃H2,H2=Abs.upd fH M.K.kc (A0l A8m tyO (useL M.b.cons.length (k::us))):=⟨_,rfl⟩
      rw[<-hH2]at s1 S2
      have k2:∀c,c∉M.K.l->Abs.look H2 c=Abs.look fH c:=fun c hc=>by rw[hH2,A0f,if_neg (fun e=>hc (by rw[e];exact M.K.mc))]
      have f2:Frs H nx->Frs H2 fn:=fun h=>by rw[hH2];exact(hf' (hfb h)).upd
      have L1:=ldX hM hS'.o;obtain⟨⟨cr,cH,cn⟩,⟨hcr,⟨v',uC',hcS,hcE⟩,hck,hcn,hcf⟩,hcc⟩:=ih (i:=i+1) (by omega) S2 hBn'.pm;simp only at hcr hcS hck hcn hcf hcc
      obtain⟨ok3,ho3⟩:∃ok3,ok3=A4r M.ok M.b.cons (M.a.cons.drop (i+1)) w2 (k::us):=⟨_,rfl⟩
      rw[<-ho3]at hFk hcr hcE;subst hcr;obtain⟨tc,tc1,tc2⟩:=hAt hcc hcf;rw[show((i+1:Nat):Int)=(i:Int)+1 from rfl]at tc1
      have kc:∀c',c'<nx->c'∉M.K.l->Abs.look cH c'=Abs.look H c':=fun c h1 h2=>by rw[hck c (by omega) h2,k2 c h2];exact kf c h1 h2
      cases ok3 with
      | true=>
       rw[hFk,Bool.true_or]at hOk;subst hOk;have CC:Ctx Tryz.prog (G q) _:=A0s.nil.ctxH (A0v.cons t2 (A0v.cons tc2 .nil)) mixed;refine A0b CC ?_;simp -implicitDefEqProofs [Lb.c,lca',ia',lp,lbb.1,lbb.2,bd2,htsl,t1,x0,x1,-extractV,-evalK_barr];refine A0b CC ?_;simp -implicitDefEqProofs [L1.c,iu,s1,wi,tc1];exact A1u ⟨.t (bv true),cH,cn⟩ ⟨rfl,⟨v',uC',hcS,fun e=>by cases e⟩,kc,by show nx<=cn;omega,fun h=>hcf (f2 h)⟩ (by simp -implicitDefEqProofs)
      | false=>
       rw[hFk,Bool.false_or]at hOk;obtain⟨e1,e2⟩:=hcE rfl;subst e1 e2;have L3:=ldX hM hcS.o;have s3:=A5v (e:=A8m) (ty:=tyO) (c:=bv false) (x:=false) rfl hcS.c (i:=k) (by rw[A2r];exact hlt) rfl rfl;rw[C5f hlt hu hq1]at s3;have S3:=hcS.setC hM (w:=useL M.b.cons.length us) (A2r _ _)
       obtain⟨H3,hH3⟩:∃H3,H3=Abs.upd cH M.K.kc (A0l A8m tyO (useL M.b.cons.length us)):=⟨_,rfl⟩
       rw[<-hH3]at s3 S3
       have k3:∀c,c∉M.K.l->Abs.look H3 c=Abs.look cH c:=fun c hc=>by rw[hH3,A0f,if_neg (fun e=>hc (by rw[e];exact M.K.mc))]
       have f3:Frs H nx->Frs H3 cn:=fun h=>by rw[hH3];exact(hcf (f2 h)).upd
       obtain⟨⟨gr,gH,gn⟩,⟨hgr,hgn,hgS,hgk,hgf⟩,hcg⟩:=B6g (q:=q) hM S3 hBn' (hb'.imp id fun e=>by rw[k3 b' hbK',hck b' hbl' hbK',k2 b' hbK'];exact e) hbK' (by omega);simp only at hgr hgn hgS hgk hgf hcg;subst hgr hgn;obtain⟨tr,tr1,tr2⟩:=hAt hcg hgf;have CC:Ctx Tryz.prog (G q) _:=A0s.nil.ctxH (A0v.cons t2 (A0v.cons tc2 (A0v.cons tr2 .nil))) mixed;refine A0b CC ?_;simp -implicitDefEqProofs [Lb.c,lca',ia',lp,lbb.1,lbb.2,bd2,htsl,t1,x0,x1,-extractV,-evalK_barr];refine A0b CC ?_;simp -implicitDefEqProofs [L1.c,iu,s1,wi,tc1,L3.c,s3];refine A0r CC ?_;simp -implicitDefEqProofs [tr1];exact Abs.Next.mk ⟨gH,gn,0⟩ ⟨hOk,hgS,fun c h1 h2=>by show Abs.look gH c=_;rw[hgk c h2,k3 c h2];exact kc c h1 h2,by show nx<=gn;omega,fun h=>hgf (f3 h)⟩ (A0d (by simp -implicitDefEqProofs))
    ·rintro⟨Hz,nz,_⟩ ⟨g1,g2,g3,g4,g5⟩;simp only at g1 g2 g3 g4 g5;refine A0r A0g ?_;simp -implicitDefEqProofs [w1];exact Abs.Next.mk ⟨Hz,nz,k+1⟩ ⟨⟨g1,g2,g3,g4,g5,hlt⟩,by show M.b.cons.length-(k+1)<M.b.cons.length-k;omega⟩ (A0d (by simp -implicitDefEqProofs [SCm]))
   ·have ek:k=M.b.cons.length:=by omega
    subst ek;rw[List.drop_of_length_le (by simp),List.any_nil]at hOk;refine A0r A0g ?_;simp -implicitDefEqProofs [SCm];exact Abs.Next.mk ⟨Ha,na,0⟩ ⟨hOk,hS,hk,hn,hf⟩ (A0d (by simp -implicitDefEqProofs))
  rintro⟨Hz,nz,_⟩ ⟨g1,g2,g3,g4,g5⟩;simp only at g1 g2 g3 g4 g5;subst g1;refine A0r A0g ?_;simp -implicitDefEqProofs;exact A1u ⟨.t (bv false),Hz,nz⟩ ⟨rfl,⟨v,_,g2,fun _=>⟨rfl,rfl⟩⟩,g3,g4,g5⟩ (by simp -implicitDefEqProofs)
theorem E0t (a b:List Nat):natL (a++b)=natL a++natL b:=by simp[natL]
theorem D6n {α:Type} {l:List α} {i:Nat} {x:α}:(l.set i x).take i=l.take i:=by
 rw[List.take_set,List.set_eq_of_length_le (by rw[List.length_take];omega)]
theorem C8r {α:Type} {l:List α} {i:Nat} {x:α} (h:i<l.length):(l.set i x).take (i+1)=l.take i++[x]:=by
 rw[List.take_add_one,D6n,List.getElem?_set_self h];rfl
theorem MtS.setU {M:Mx} (hM:MxOk M) {pl v:List Int} {uP uC w:List Bool} {H:Heap} {nx:Nat} (h:MtS M pl v uP uC H nx) (hl:w.length=M.b.rels.length):MtS M pl v w uC (Abs.upd H M.K.ku (A0l A8m tyO w)) nx:=by
 have n:=Kx.ne hM.nd;refine⟨?_,?_,?_,?_,?_,?_,h.lp,h.lv,hl,h.lc,h.lt⟩
 ·rw[A0f,if_neg n.a0u];exact h.o
 ·rw[A0f,if_neg n.apu];exact h.p
 ·rw[A0f,if_neg n.atu];exact h.t
 ·rw[A0f,if_neg n.afu];exact h.f
 ·rw[A0f,if_pos rfl,h.u];rfl
 ·rw[A0f,if_neg n.auc.symm];exact h.c
theorem MtS.setP {M:Mx} (hM:MxOk M) {pl v w:List Int} {uP uC:List Bool} {H:Heap} {nx:Nat} (h:MtS M pl v uP uC H nx) (hl:w.length=M.a.rels.length):MtS M w v uP uC (Abs.upd H M.K.kp (A0l eInt tyI w)) nx:=by
 have n:=Kx.ne hM.nd;refine⟨?_,?_,?_,?_,?_,?_,hl,h.lv,h.lu,h.lc,h.lt⟩
 ·rw[A0f,if_neg n.a0p];exact h.o
 ·rw[A0f,if_pos rfl,h.p];rfl
 ·rw[A0f,if_neg n.apt.symm];exact h.t
 ·rw[A0f,if_neg n.apf.symm];exact h.f
 ·rw[A0f,if_neg n.apu.symm];exact h.u
 ·rw[A0f,if_neg n.apc.symm];exact h.c
structure G2a (M:Mx) (v:List Int) (ps:List Nat) (H:Heap) (nx:Nat) (O:Option (List Nat)) (f:Fin):Prop where
 r:f.r = .t (bv O.isSome)
 s:∃pl' v' uP' uC',MtS M pl' v' uP' uC' f.H f.nx/\(∀r,O=some r->pl'=natL r)/\(O=none->v'=v/\uP'=useL M.b.rels.length ps/\uC'=useL M.b.cons.length []/\pl'.take ps.length=natL ps)
 k:∀c,c<nx->c∉M.K.l->Abs.look f.H c=Abs.look H c
 n:nx<=f.nx
 fr:Frs H nx->Frs f.H f.nx
structure RsC where
 H:Heap
 nx:Nat
 k:Nat
 pl:List Int
def SRs (M:Mx) (tb:T) (n i:Nat) (c:RsC):A0c:=⟨[(25,.t (iv (c.k:Int))),(24,.t (iv (n:Int))),(23,.t tb),(1,.t (iv (i:Int))),(0,.ptr M.K.k0 0)],c.H,c.nx,93⟩
def F8j (ok:Int->Int->Bool) (bc ac:List Qq) (br:List Ep) (x:Ep) (r:List Ep) (v:List Int) (p:List Nat) (k:Nat):Option (List Nat):=if k∈p then none else match A4i x (br.getD k ⟨⟨#[]⟩,0,[]⟩)with
  | none=>none
  | some l=>match A2x ok v l with
   | none=>none
   | some w=>A4b ok bc ac br r w (p++[k])
theorem E4i (ok:Int->Int->Bool) (bc ac:List Qq) (br:List Ep) (x:Ep) (r:List Ep) (v:List Int) (p:List Nat):A4b ok bc ac br (x::r) v p=(List.range br.length).findSome? (F8j ok bc ac br x r v p):=rfl
theorem E9x {x y:Ep} {l:List (Int×Int)} (h:A4i x y=some l):l.length<=x.args.length+1:=by
 unfold A4i at h;split at h
 ·injection h with h;subst h;rw[List.length_cons,List.length_zip,List.length_map,List.length_map];omega
 ·cases h
theorem E4j {M:Mx} (hM:MxOk M):∀(m:Nat) {ps:List Nat} {pl v:List Int} {H:Heap} {nx:Nat},ps.length+m=M.a.rels.length->pl.take ps.length=natL ps->MtS M pl v (useL M.b.rels.length ps) (useL M.b.cons.length []) H nx->PMv (fun _ _=>true) M.a.vars.length v ->
  ∃f,G2a M v ps H nx (A4b M.ok M.b.cons M.a.cons M.b.rels (M.a.rels.drop ps.length) v ps) f/\A3n Tryz.prog (G q) 49 [.ptr M.K.k0 0,.t (iv (ps.length:Int))] H nx f.r f.H f.nx:=by
 intro m
 induction m with
 | zero=>
  intro ps pl v H nx him hpl h hpm
  have ei:ps.length=M.a.rels.length:=by omega
  obtain⟨i,hi⟩:∃i,i=ps.length:=⟨_,rfl⟩
  rw[<-hi]at ei hpl ⊢
  have edr:M.a.rels.drop i=[]:=by rw[ei,List.drop_length]
  have hfull:pl=natL ps:=by rw[<-hpl,ei,<-h.lp,List.take_length]
  rw[edr,A4b];have L:=ldX hM h.o;obtain⟨ta,rl,lra,hra,hrm⟩:=L.ra;have la:=hra.len;rw[show rl.length=i by rw[ei,<-hrm,List.length_map]]at la;obtain⟨⟨cr,cH,cn⟩,⟨hcr,⟨v',uC',hcS,hcE⟩,hck,hcn,hcf⟩,hcc⟩:=E4h (q:=q) hM M.a.cons.length (i:=0) (Nat.zero_add _) h hpm;simp only at hcr hcS hck hcn hcf hcc;rw[List.drop_zero]at hcr hcE
  obtain⟨ok,hok⟩:∃ok,ok=A4r M.ok M.b.cons M.a.cons v []:=⟨_,rfl⟩
  rw[<-hok]at hcr hcE ⊢;subst hcr;obtain⟨tc,tc1,tc2⟩:=hAt hcc hcf;rw[show(iv ((0:Nat):Int)) = .v (.int .i64 0)from rfl]at tc1;have CC:Ctx Tryz.prog (G q) _:=A0s.nil.ctxH (A0v.cons tc2 .nil) mixed;refine A8h.callX rfl ?_;(conv in A5g=>cbv);refine A0b CC ?_;simp -implicitDefEqProofs;refine A0b CC ?_;simp -implicitDefEqProofs [lra,la,tc1];refine A1u ⟨.t (bv ok),cH,cn⟩ ⟨by cases ok<;>rfl,⟨pl,v',_,uC',hcS,fun r hr=>?_,fun hn=>?_⟩,hck,hcn,hcf⟩ (by simp -implicitDefEqProofs)
  ·cases ok with
   | true=>rw[if_pos rfl]at hr;injection hr with hr;rw[<-hr];exact hfull
   | false=>rw[if_neg (by simp)]at hr;cases hr
  ·cases ok with
   | true=>rw[if_pos rfl]at hn;cases hn
   | false=>obtain⟨e1,e2⟩:=hcE rfl;exact⟨e1,rfl,e2,by rw[<-hi];exact hpl⟩
 | succ m ih=>
  intro ps pl0 v H nx him hpl0 h hpm
  obtain⟨i,hi⟩:∃i,i=ps.length:=⟨_,rfl⟩
  have hil:i<M.a.rels.length:=by omega
  rw[<-hi]at hpl0 ⊢;have L:=ldX hM h.o;obtain⟨ta,rla,lra,hra,hrma⟩:=L.ra;obtain⟨tb,rlb,lrb,hrb,hrmb⟩:=L.rb
  have lla:rla.length=M.a.rels.length:=by rw[<-hrma,List.length_map]
  have llb:rlb.length=M.b.rels.length:=by rw[<-hrmb,List.length_map]
  have la:=hra.len;have lb:=hrb.len;rw[lla]at la;rw[llb]at lb
  obtain⟨X,hX⟩:∃X,rla[i]?=some X:=⟨_,List.getElem?_eq_getElem (by omega)⟩
  have hXr:M.a.rels[i]?=some X.x:=by rw[<-hrma,List.getElem?_map,hX];rfl
  have hXm:=List.mem_of_getElem? hXr
  have edr:M.a.rels.drop i=X.x::M.a.rels.drop (i+1):=by rw[List.drop_eq_getElem_cons hil,(List.getElem?_eq_some_iff.1 hXr).2]
  rw[edr,E4i]
  obtain⟨F,hF⟩:∃F,F=F8j M.ok M.b.cons M.a.cons M.b.rels X.x (M.a.rels.drop (i+1)) v ps:=⟨_,rfl⟩
  rw[<-hF]
  obtain⟨O,hO⟩:∃O,O=(List.range M.b.rels.length).findSome? F:=⟨_,rfl⟩
  rw[<-hO];have i1:=hra.iaddr hX .i64;have hz:eEC.z=3:=rfl;rw[hz,show eEC.enc X=X.cs from rfl]at i1
  have bne0:((i:Int)==(M.a.rels.length:Int))=false:=by rw[beq_eq_false_iff_ne];omega
  have hXin:=hM.mb.oa.inE X.x hXm;have sra:=hM.mb.sa.rels;have sXa:=hM.mb.sa.args X.x hXm;have elr:=hM.lr
  have wi:IntKind.i64.wrap ((i:Int)+1)=(i:Int)+1:=by
   have:IntKind.i64.wrap ((i:Int)+1)=((i+1:Nat):Int):=A0k (by omega) (by omega);rw[this];rfl
  refine A8h.callX rfl ?_;(conv in A5g=>cbv);refine A0b A0g ?_;simp -implicitDefEqProofs;refine A0b A0g ?_;simp -implicitDefEqProofs [lra,la,bne0];refine A3q (fun c:RsC=>⟨[],c.H,c.nx,93⟩) (fun c=>O=none/\MtS M c.pl v (useL M.b.rels.length ps) (useL M.b.cons.length []) c.H c.nx/\c.pl.take i=natL ps/\(∀c',c'<nx->c'∉M.K.l->Abs.look c.H c'=Abs.look H c')/\nx<=c.nx/\(Frs H nx->Frs c.H c.nx)) (fun _=>rfl) ?_ ?_
  ·refine A0b A0g ?_;simp -implicitDefEqProofs [lrb,lb];refine A1k ?_
   refine A2w (SRs M tb M.b.rels.length i) (fun c=>M.b.rels.length-c.k) (fun c=>O=((List.range M.b.rels.length).drop c.k).findSome? F/\MtS M c.pl v (useL M.b.rels.length ps) (useL M.b.cons.length []) c.H c.nx/\c.pl.take i=natL ps/\(∀c',c'<nx->c'∉M.K.l->Abs.look c.H c'=Abs.look H c')/\nx<=c.nx/\(Frs H nx->Frs c.H c.nx)/\c.k<=M.b.rels.length)
    ⟨H,nx,0,pl0⟩ (fun _=>rfl) ⟨hO,h,hpl0,fun _ _ _=>rfl,Nat.le_refl _,fun h=>h,Nat.zero_le _⟩ ?_ rfl ?_
   ·exact A0d (by simp -implicitDefEqProofs [SRs])
   rintro⟨Ha,na,k,pl⟩ ⟨hOk,hS,hpl,hk,hn,hf,hkl⟩;simp only at hOk hS hpl hk hn hf hkl;by_cases hlt:k<M.b.rels.length
   ·rw[C5z hlt]at hOk
    obtain⟨Y,hY⟩:∃Y,rlb[k]?=some Y:=⟨_,List.getElem?_eq_getElem (by omega)⟩
    have hYr:M.b.rels[k]?=some Y.x:=by rw[<-hrmb,List.getElem?_map,hY];rfl
    have hYm:=List.mem_of_getElem? hYr
    have hFk:F k=if k∈ps then none else match A4i X.x Y.x with
     | none=>none
     | some l=>match A2x M.ok v l with
      | none=>none
      | some w=>A4b M.ok M.b.cons M.a.cons M.b.rels (M.a.rels.drop (i+1)) w (ps++[k]):=by
     rw[hF,F8j,List.getD_eq_getElem?_getD,hYr,Option.getD_some]
    have hYin:inE M.a.vars.length Y.x:=by rw[<-hM.mb.len];exact hM.mb.ob.inE Y.x hYm
    have sYa:=hM.mb.sb.args Y.x hYm;have i2:=hrb.iaddr hY .i64;rw[hz,show eEC.enc Y=Y.cs from rfl]at i2;have w1:IntKind.i64.wrap ((k:Int)+1)=((k+1:Nat):Int):=A0k (by omega) (by omega);have La:=ldX hM hS.o;obtain⟨ta',rla',lra',hra',hrma'⟩:=La.ra;obtain⟨tb',rlb',lrb',hrb',hrmb'⟩:=La.rb
    obtain⟨X',hX'⟩:∃X',rla'[i]?=some X':=⟨_,List.getElem?_eq_getElem (by rw[show rla'.length=M.a.rels.length by rw[<-hrma',List.length_map]];exact hil)⟩
    obtain⟨Y',hY'⟩:∃Y',rlb'[k]?=some Y':=⟨_,List.getElem?_eq_getElem (by rw[show rlb'.length=M.b.rels.length by rw[<-hrmb',List.length_map]];exact hlt)⟩
    have eX:X'.x=X.x:=by
     have:M.a.rels[i]?=some X'.x:=by rw[<-hrma',List.getElem?_map,hX'];rfl
     rw[hXr]at this;injection this with this;exact this.symm
    have eY:Y'.x=Y.x:=by
     have:M.b.rels[k]?=some Y'.x:=by rw[<-hrmb',List.getElem?_map,hY'];rfl
     rw[hYr]at this;injection this with this;exact this.symm
    have j1:=hra'.iaddr hX' .i64;rw[hz,show eEC.enc X'=X'.cs from rfl]at j1;have j2:=hrb'.iaddr hY' .i64;rw[hz,show eEC.enc Y'=Y'.cs from rfl]at j2;have eP:=G1y X' Y' (by rw[eX];exact sXa) (by rw[eY];exact sYa);rw[eX,eY]at eP;have iu:A2e 1 (.row M.K.ku 0 M.b.rels.length 1) (.t (iv (k:Int)))=some (.ptr M.K.ku k):=A7u _ _ _ hlt;have ip:A2e 1 (.row M.K.kp 0 M.a.rels.length 1) (.t (iv (i:Int)))=some (.ptr M.K.kp i):=A7u _ _ _ hil;have lu:=B1s (e:=A8m) hS.u (A8o ps hlt) rfl rfl;refine A0b A0g ?_;simp -implicitDefEqProofs [SRs,hlt];refine A0b A0g ?_;simp -implicitDefEqProofs;refine A3q (fun c:RsC=>⟨[(25,.t (iv (k:Int))),(24,.t (iv (M.b.rels.length:Int))),(23,.t tb),(1,.t (iv (i:Int))),(0,.ptr M.K.k0 0)],c.H,c.nx,93⟩) (fun c=>O=((List.range M.b.rels.length).drop (k+1)).findSome? F/\MtS M c.pl v (useL M.b.rels.length ps) (useL M.b.cons.length []) c.H c.nx/\c.pl.take i=natL ps/\(∀c',c'<nx->c'∉M.K.l->Abs.look c.H c'=Abs.look H c')/\nx<=c.nx/\(Frs H nx->Frs c.H c.nx)) (fun _=>rfl) ?_ ?_
    ·refine A1k ?_;refine A0b A0g ?_;simp -implicitDefEqProofs;have C0:Ctx Tryz.prog (G q) _:=(A0s.cons (hPs (q:=q)) .nil).ctxH A0v.nil mixed
     cases hpe:A4i X.x Y.x with
     | none=>
      rw[hpe]at hFk eP
      have hFk:F k=none:=by rw[hFk];split<;>rfl
      rw[hFk]at hOk;refine A0b C0 ?_;simp -implicitDefEqProofs [La.p,lra',lrb',j1,j2,E8b,eP,C8q];refine A0b C0 ?_;simp -implicitDefEqProofs;exact Abs.Next.mk ⟨Ha,na,0,pl⟩ ⟨hOk,hS,hpl,hk,hn,hf⟩ (A0d (by simp -implicitDefEqProofs))
     | some l=>
     rw[hpe]at hFk eP;simp only at hFk;by_cases hu:k∈ps
     ·rw[decide_eq_true hu]at lu;rw[if_pos hu]at hFk;rw[hFk]at hOk;refine A0b C0 ?_;simp -implicitDefEqProofs [La.p,lra',lrb',j1,j2,E8b,eP,C8q];refine A0b C0 ?_;simp -implicitDefEqProofs [La.u,iu,lu];exact Abs.Next.mk ⟨Ha,na,0,pl⟩ ⟨hOk,hS,hpl,hk,hn,hf⟩ (A0d (by simp -implicitDefEqProofs))
     rw[decide_eq_false hu]at lu;rw[if_neg hu]at hFk;have hpin:=B9m hXin hYin hpe;have hll:=E9x hpe;obtain⟨⟨fr,fH,fn⟩,⟨⟨b',hr,hb',hbK',hbl',hbo⟩,hS',hk',hn',hf'⟩,hcl⟩:=B7q (q:=q) hM hS hpm (E0s (IsS.mk l) Ha) (Kr:=[]) (by simp) hpin (by omega);simp only at hr hb' hbK' hbl' hbo hS' hk' hn' hf' hcl;have hbn':=C2w (ok:=M.ok) l (v,[]);have hBn':=B2k (ok:=M.ok) (Bnds.nil hpm) hpin;have hbA:=B9o (ok:=M.ok) l (v,[]);rw[show(v,([]:List Int)).1=v from rfl]at hbA;rw[hbA]at hFk
     obtain⟨⟨⟨w2,bd⟩,ok2⟩,ho2⟩:∃o2,o2=B1j M.ok (v,[]) l:=⟨_,rfl⟩
     rw[<-ho2]at hr hb' hS' hBn' hbn' hFk;simp only at hr hb' hS' hBn' hbn' hFk;rw[List.length_nil]at hbn';obtain⟨x0,x1⟩:=C8p eInt b' bd (bv ok2);obtain⟨t,t1,t2⟩:=hAt hcl hf';rw[hr]at t1
     obtain⟨rr,hrr⟩:∃rr,rr=oneOf [rowP eInt b' bd,.t (bv ok2)]:=⟨_,rfl⟩
     rw[<-hrr]at t1 x0 x1
     have kf:∀c',c'<nx->c'∉M.K.l->Abs.look fH c'=Abs.look H c':=fun c h1 h2=>by rw[hk' c (by omega) h2];exact hk c h1 h2
     cases ok2 with
     | false=>
      rw[if_neg (by simp)]at hFk;simp only at hFk;rw[hFk]at hOk;obtain⟨⟨gr,gH,gn⟩,⟨hgr,hgn,hgS,hgk,hgf⟩,hcg⟩:=B6g (q:=q) hM hS' hBn' hb' hbK' (by omega);simp only at hgr hgn hgS hgk hgf hcg;subst hgr hgn;obtain⟨tr,tr1,tr2⟩:=hAt hcg hgf;have CC:Ctx Tryz.prog (G q) _:=(A0s.cons (hPs (q:=q)) .nil).ctxH (A0v.cons t2 (A0v.cons tr2 .nil)) mixed;refine A0b CC ?_;simp -implicitDefEqProofs [La.p,lra',lrb',j1,j2,E8b,eP,C8q];refine A0b CC ?_;simp -implicitDefEqProofs [La.u,iu,lu];refine A0b CC ?_;simp -implicitDefEqProofs [t1,x0,x1,-extractV];refine A0b CC ?_;simp -implicitDefEqProofs;refine A0r CC ?_;simp -implicitDefEqProofs [tr1];exact Abs.Next.mk ⟨gH,gn,0,pl⟩ ⟨hOk,hgS,hpl,fun c h1 h2=>by show Abs.look gH c=_;rw[hgk c h2];exact kf c h1 h2,by show nx<=gn;omega,fun h=>hgf (hf' (hf h))⟩ (A0d (by simp -implicitDefEqProofs))
     | true=>
      rw[if_pos rfl]at hFk;simp only at hFk
      have hq1:∀j,j∈ps++[k] ↔ j=k\/j∈ps:=fun j=>by rw[List.mem_append,List.mem_singleton];exact or_comm
      have s1:=A5v (e:=A8m) (ty:=tyO) (c:=bv true) (x:=true) rfl hS'.u (i:=k) (by rw[A2r];exact hlt) rfl rfl;rw[C7f hlt hq1]at s1;have S1:=hS'.setU hM (w:=useL M.b.rels.length (ps++[k])) (A2r _ _)
      obtain⟨H1,hH1⟩:∃H1,H1=Abs.upd fH M.K.ku (A0l A8m tyO (useL M.b.rels.length (ps++[k]))):=⟨_,rfl⟩
      rw[<-hH1]at s1 S1;have s2:=A5v (e:=eInt) (ty:=tyI) (c:=iv (k:Int)) (x:=(k:Int)) rfl S1.p (i:=i) (by rw[S1.lp];exact hil) rfl rfl
      obtain⟨pl2,hpl2⟩:∃pl2,pl2=pl.set i (k:Int):=⟨_,rfl⟩
      rw[<-hpl2]at s2;have S2:=S1.setP hM (w:=pl2) (by rw[hpl2,List.length_set];exact S1.lp)
      obtain⟨H2,hH2⟩:∃H2,H2=Abs.upd H1 M.K.kp (A0l eInt tyI pl2):=⟨_,rfl⟩
      rw[<-hH2]at s2 S2
      have k2:∀c,c∉M.K.l->Abs.look H2 c=Abs.look fH c:=fun c hc=>by rw[hH2,A0f,if_neg (fun e=>hc (by rw[e];exact M.K.mp)),hH1,A0f,if_neg (fun e=>hc (by rw[e];exact M.K.mu))]
      have f2:Frs H nx->Frs H2 fn:=fun h=>by rw[hH2,hH1];exact(hf' (hf h)).upd.upd
      have L1:=ldX hM hS'.o;have L2:=ldX hM S1.o
      have elen:(ps++[k]).length=i+1:=by rw[List.length_append,List.length_singleton,hi]
      obtain⟨⟨cr,cH,cn⟩,⟨hcr,⟨pl3,v',uP',uC',hcS,hcO,hcE⟩,hck,hcn,hcf⟩,hcc⟩:=ih (ps:=ps++[k]) (by rw[elen];omega) (by rw[elen,hpl2,C8r (by rw[S1.lp];exact hil),hpl,E0t];rfl) S2 hBn'.pm;simp only at hcr hcS hck hcn hcf hcc;rw[elen]at hcr hcO hcE hcc
      obtain⟨O3,hO3⟩:∃O3,O3=A4b M.ok M.b.cons M.a.cons M.b.rels (M.a.rels.drop (i+1)) w2 (ps++[k]):=⟨_,rfl⟩
      rw[<-hO3]at hFk hcr hcO hcE;subst hcr;obtain⟨tc,tc1,tc2⟩:=hAt hcc hcf;rw[show((i+1:Nat):Int)=(i:Int)+1 from rfl]at tc1
      have kc:∀c',c'<nx->c'∉M.K.l->Abs.look cH c'=Abs.look H c':=fun c h1 h2=>by rw[hck c (by omega) h2,k2 c h2];exact kf c h1 h2
      rw[hFk]at hOk
      cases O3 with
      | some r3=>
       simp only at hOk;subst hOk;rw[show(some r3:Option (List Nat)).isSome=true from rfl]at tc1;have CC:Ctx Tryz.prog (G q) _:=(A0s.cons (hPs (q:=q)) .nil).ctxH (A0v.cons t2 (A0v.cons tc2 .nil)) mixed;refine A0b CC ?_;simp -implicitDefEqProofs [La.p,lra',lrb',j1,j2,E8b,eP,C8q];refine A0b CC ?_;simp -implicitDefEqProofs [La.u,iu,lu];refine A0b CC ?_;simp -implicitDefEqProofs [t1,x0,x1,-extractV];refine A0b CC ?_;simp -implicitDefEqProofs [L1.u,iu,s1,L2.p,ip,s2,wi,tc1];exact A1u ⟨.t (bv true),cH,cn⟩ ⟨rfl,⟨pl3,v',uP',uC',hcS,hcO,fun e=>by cases e⟩,kc,by show nx<=cn;omega,fun h=>hcf (f2 h)⟩ (by simp -implicitDefEqProofs)
      | none=>
       simp only at hOk;obtain⟨e1,e2,e3,e4⟩:=hcE rfl;subst e1 e2 e3;rw[show(none:Option (List Nat)).isSome=false from rfl]at tc1
       have e4':pl3.take i=natL ps:=by
        have:=congrArg (fun l=>l.take i) e4;simp only[List.take_take,Nat.min_eq_left (Nat.le_succ i)]at this;rw[this,E0t,List.take_append_of_le_length (by rw[B9x];omega),List.take_of_length_le (by rw[B9x];omega)]
       have L3:=ldX hM hcS.o;have s3:=A5v (e:=A8m) (ty:=tyO) (c:=bv false) (x:=false) rfl hcS.u (i:=k) (by rw[A2r];exact hlt) rfl rfl;rw[C5f hlt hu hq1]at s3;have S3:=hcS.setU hM (w:=useL M.b.rels.length ps) (A2r _ _)
       obtain⟨H3,hH3⟩:∃H3,H3=Abs.upd cH M.K.ku (A0l A8m tyO (useL M.b.rels.length ps)):=⟨_,rfl⟩
       rw[<-hH3]at s3 S3
       have k3:∀c,c∉M.K.l->Abs.look H3 c=Abs.look cH c:=fun c hc=>by rw[hH3,A0f,if_neg (fun e=>hc (by rw[e];exact M.K.mu))]
       have f3:Frs H nx->Frs H3 cn:=fun h=>by rw[hH3];exact(hcf (f2 h)).upd
       obtain⟨⟨gr,gH,gn⟩,⟨hgr,hgn,hgS,hgk,hgf⟩,hcg⟩:=B6g (q:=q) hM S3 hBn' (hb'.imp id fun e=>by rw[k3 b' hbK',hck b' hbl' hbK',k2 b' hbK'];exact e) hbK' (by omega);simp only at hgr hgn hgS hgk hgf hcg;subst hgr hgn;obtain⟨tr,tr1,tr2⟩:=hAt hcg hgf;have CC:Ctx Tryz.prog (G q) _:=(A0s.cons (hPs (q:=q)) .nil).ctxH (A0v.cons t2 (A0v.cons tc2 (A0v.cons tr2 .nil))) mixed;refine A0b CC ?_;simp -implicitDefEqProofs [La.p,lra',lrb',j1,j2,E8b,eP,C8q];refine A0b CC ?_;simp -implicitDefEqProofs [La.u,iu,lu];refine A0b CC ?_;simp -implicitDefEqProofs [t1,x0,x1,-extractV];refine A0b CC ?_;simp -implicitDefEqProofs [L1.u,iu,s1,L2.p,ip,s2,wi,tc1,L3.u,s3];refine A0r CC ?_;simp -implicitDefEqProofs [tr1];exact Abs.Next.mk ⟨gH,gn,0,pl3⟩ ⟨hOk,hgS,e4',fun c h1 h2=>by show Abs.look gH c=_;rw[hgk c h2,k3 c h2];exact kc c h1 h2,by show nx<=gn;omega,fun h=>hgf (f3 h)⟩ (A0d (by simp -implicitDefEqProofs))
    ·rintro⟨Hz,nz,_,plz⟩ ⟨g1,g2,gp,g3,g4,g5⟩;simp only at g1 g2 gp g3 g4 g5;refine A0r A0g ?_;simp -implicitDefEqProofs [w1];exact Abs.Next.mk ⟨Hz,nz,k+1,plz⟩ ⟨⟨g1,g2,gp,g3,g4,g5,hlt⟩,by show M.b.rels.length-(k+1)<M.b.rels.length-k;omega⟩ (A0d (by simp -implicitDefEqProofs [SRs]))
   ·have ek:k=M.b.rels.length:=by omega
    subst ek;rw[List.drop_of_length_le (by simp),List.findSome?_nil]at hOk;refine A0r A0g ?_;simp -implicitDefEqProofs [SRs];exact Abs.Next.mk ⟨Ha,na,0,pl⟩ ⟨hOk,hS,hpl,hk,hn,hf⟩ (A0d (by simp -implicitDefEqProofs))
  rintro⟨Hz,nz,_,plz⟩ ⟨g1,g2,gp,g3,g4,g5⟩;simp only at g1 g2 gp g3 g4 g5;subst g1;refine A0r A0g ?_;simp -implicitDefEqProofs;exact A1u ⟨.t (bv false),Hz,nz⟩ ⟨rfl,⟨plz,v,_,_,g2,(fun r hr=>by cases hr),fun _=>⟨rfl,rfl,rfl,by rw[<-hi];exact gp⟩⟩,g3,g4,g5⟩ (by simp -implicitDefEqProofs)
abbrev u64v (n:Nat):T:=.v (.int .u64 (n:Int))
theorem F8k {n:Nat} (hn:n<=100000):IntKind.u64.wrap (n:Int)=(n:Int):=by
 simp only[IntKind.wrap,IntKind.bits,IntKind.signed];simp;omega
theorem G2b:IntKind.u64.wrap 1=1:=rfl
theorem E9y:IntKind.u64.wrap 0=0:=rfl
theorem andU {n:Nat} (hn:n<=100000):(BitVec.ofNat 64 n&&&4294967295#64).toNat=n:=by
 rw[BitVec.toNat_and,BitVec.toNat_ofNat,BitVec.toNat_ofNat,show(4294967295:Nat)%2^64=2^32-1 from rfl,Nat.and_two_pow_sub_one_eq_mod,Nat.mod_mod_of_dvd _ (by decide)];omega
theorem F8l {n:Nat} (hn:n<=100000) (Φ:A0u) (H:Heap) (nx:Nat):A0i Φ H nx (.bin false .and none) [.t (.v (.int .u64 (n:Int))),.t (.v (.int .u64 4294967295))]=some (.t (u64v n),H,nx):=by
 rw[evalK_and];have e:BitVec.toNat (w:=IntKind.u64.bits) (BitVec.ofInt IntKind.u64.bits (n:Int)&&&BitVec.ofInt IntKind.u64.bits 4294967295)=n:=andU hn;rw[e,F8k hn]
theorem andU1 (Φ:A0u) (H:Heap) (nx:Nat):A0i Φ H nx (.bin false .and none) [.t (.v (.int .u64 1)),.t (.v (.int .u64 4294967295))]=some (.t (.v (.int .u64 1)),H,nx):=F8l (n:=1) (by omega) Φ H nx
theorem andU0 (Φ:A0u) (H:Heap) (nx:Nat):A0i Φ H nx (.bin false .and none) [.t (.v (.int .u64 0)),.t (.v (.int .u64 4294967295))]=some (.t (.v (.int .u64 0)),H,nx):=F8l (n:=0) (by omega) Φ H nx
theorem E4k {n:Nat} (hn:n<=100000):A1d Tryz.prog (G q) 118 [.v (.int .u64 1),u64v n] (· = .tu [u64v 0,u64v n]):=by
 have w:=F8k hn;have a:=F8l hn
 have f:(n:Int).fdiv 4294967296=0:=by
  rw[Int.fdiv_eq_ediv_of_nonneg _ (by omega)];omega
 refine D1q.call rfl ?_;(conv in B8o=>cbv);refine A0a A0g ?_;simp -implicitDefEqProofs;refine A0a A0g ?_;simp -implicitDefEqProofs [andU1,-evalK_and];refine A0a A0g ?_;simp -implicitDefEqProofs;refine A0a A0g ?_;simp -implicitDefEqProofs [a,-evalK_and];refine A0a A0g ?_;simp -implicitDefEqProofs [f];refine A0a A0g ?_;simp -implicitDefEqProofs [w];refine A0a A0g ?_;simp -implicitDefEqProofs [E9y,f];refine A0a A0g ?_;simp -implicitDefEqProofs [andU0,-evalK_and];refine A0a A0g ?_;simp -implicitDefEqProofs;refine A0a A0g ?_;simp -implicitDefEqProofs [E9y];refine A0a A0g ?_;simp -implicitDefEqProofs [E9y];refine A0e A0g ?_;simp -implicitDefEqProofs [w]
noncomputable def gMl:List T->Option T
 | [.v (.int .u64 a),.v (.int .u64 b)]=>if a=1/\0<=b/\b<=100000 then some (.tu [u64v 0,.v (.int .u64 b)])else none
 | _=>none
theorem hM64:GOK Tryz.prog (G q) 118 gMl:=fun args r hr=>by
 unfold gMl at hr;split at hr
 ·rename_i a b;split at hr
  ·rename_i h;obtain⟨rfl,h0,h1⟩:=h;injection hr with hr;subst hr
   obtain⟨n,rfl⟩:∃n:Nat,b=(n:Int):=⟨b.toNat,by omega⟩
   exact E4k (by omega)
  ·cases hr
 ·cases hr
theorem F5o {n:Nat} (h:n<=100000):gMl [.v (.int .u64 1),.v (.int .u64 (n:Int))]=some (.tu [u64v 0,u64v n]):=by
 simp only[gMl];rw[if_pos ⟨trivial,by omega,by omega⟩]
theorem hMl:GOK Tryz.prog (G q) 75 gMl:=fun args r hr=>by
 unfold gMl at hr;split at hr
 ·rename_i a b;split at hr
  ·rename_i h;obtain⟨rfl,h0,h1⟩:=h;injection hr with hr;subst hr
   obtain⟨n,rfl⟩:∃n:Nat,b=(n:Int):=⟨b.toNat,by omega⟩
   have e:=F5o (n:=n) (by omega);have C:Ctx Tryz.prog (G q) _:=(A0s.cons (hM64 (q:=q)) .nil).ctx mixed;refine E3k.call rfl ?_;(conv in C5n=>cbv);refine A0a C ?_;simp -implicitDefEqProofs;refine A0a C ?_;show MC _ _ _ _ _ _ _;refine A0a C ?_;simp -implicitDefEqProofs [e];refine A0e C ?_;simp -implicitDefEqProofs
  ·cases hr
 ·cases hr
def B0s (m n:Nat):Row:=.cells tyI (List.replicate m (.t (iv (-1)))++List.replicate (n-m) (.t (iv 0)))
theorem F4p {H:Heap} {nx b m n:Nat} (h:Abs.look H b=some (B0s m n)) (h0:0<m) (hm:m<n) :
  hxM (.cpy 1) H nx [.row b m (n-m) 1,.row b 0 m 1]=some (.t (iv ((Nat.min m (n-m):Nat):Int)),Abs.upd H b (B0s (m+Nat.min m (n-m)) n),nx):=by
 have hj1:Nat.min m (n-m)<=m:=Nat.min_le_left _ _;have hj2:Nat.min m (n-m)<=n-m:=Nat.min_le_right _ _;have hj0:0<Nat.min m (n-m):=Nat.lt_min.2 ⟨h0,by omega⟩
 obtain⟨j,hj⟩:∃j,j=Nat.min m (n-m):=⟨_,rfl⟩
 unfold B0s at h
 have e1:((List.replicate m (PV.t (iv (-1)))++List.replicate (n-m) (PV.t (iv 0))).drop 0).take (m*1)=List.replicate m (PV.t (iv (-1))):=by
  rw[List.drop_zero,Nat.mul_one,List.take_append_of_le_length (by simp),List.take_of_length_le (by simp)]
 simp only[hxM,srcP,h,List.length_append,List.length_replicate,true_and];rw[if_pos (by omega)];simp only;rw[e1,if_pos ⟨hj0,by simp;try omega,by simp⟩,<-hj];rw[<-hj]at hj0 hj1 hj2;congr 3;unfold B0s;congr 2;rw[Nat.mul_one,List.take_replicate,Nat.min_eq_left hj1,B4s (by simp;omega)];rw[List.take_append_of_le_length (by simp),List.take_of_length_le (by simp),List.length_replicate,List.drop_append,List.length_replicate,List.drop_of_length_le (by simp),Nat.add_sub_cancel_left,List.drop_replicate,List.nil_append,List.replicate_append_replicate];congr 2;omega
theorem E9z {H:Heap} {nx b k n ty:Nat} (h:Abs.look H b=some (B0s 0 n)) (hk:Abs.look H k=some (.cells ty [.t (iv (-1))])) (hn:0<n) :
  hxM (.cpy 1) H nx [.row b 0 n 1,.row k 0 1 1]=some (.t (.v (.int .i64 1)),Abs.upd H b (B0s 1 n),nx):=by
 have hj:Nat.min 1 n=1:=Nat.min_eq_left hn;unfold B0s at h;simp only[hxM,srcP,h,hk,List.length_append,List.length_replicate,true_and];rw[if_pos (by simp)];simp only;rw[hj,if_pos ⟨by omega,by simp,rfl⟩];congr 3;unfold B0s;congr 2
 obtain⟨m,rfl⟩:∃m,n=m+1:=⟨n-1,by omega⟩
 rfl
theorem E4l (n:Nat):B0s n n=A0l eInt tyI (List.replicate n (-1)):=by
 unfold B0s A0l;rw[Nat.sub_self,List.replicate_zero,List.append_nil];congr 1
 induction n with
 | zero=>rfl
 | succ n ih=>rw[List.replicate_succ,List.replicate_succ,List.flatMap_cons,List.map_append,<-ih];rfl
structure G2c (n:Nat) (H:Heap) (nx:Nat) (f:Fin):Prop where
 b':∃b',f.r = .row b' 0 n 1/\Abs.look f.H b'=some (A0l eInt tyI (List.replicate n (-1)))/\nx<=b'/\b'<f.nx
 k:∀c,c<nx->Abs.look f.H c=Abs.look H c
 n:nx<=f.nx
 fr:Frs H nx->Frs f.H f.nx
structure RpC where
 H:Heap
 m:Nat
def SRpt (n nx:Nat) (c:RpC):A0c:=⟨[(8,.t (iv (c.m:Int))),(7,.row nx 0 n 1)],c.H,nx+1,48⟩
theorem E0u {n:Nat} (h0:0<n) (hn:n<=100000) {H:Heap} {nx kx ty:Nat} (hx:Abs.look H kx=some (.cells ty [.t (iv (-1))])) (hk:kx<nx) :
  ∃f,G2c n H nx f/\A3n Tryz.prog (G q) 45 [.row kx 0 1 1,.t (iv (n:Int))] H nx f.r f.H f.nx:=by
 have w:=F8k hn;have e:=F5o hn;have C:Ctx Tryz.prog (G q) _:=(A0s.cons (hMl (q:=q)) .nil).ctx mixed;have b1:decide ((n:Int)<0)=false:=decide_eq_false (by omega);have b2:decide ((9223372036854775807:Int)<(n:Int))=false:=decide_eq_false (by omega);have wi:IntKind.i64.wrap (n:Int)=(n:Int):=A0k (by omega) (by omega);have lx:A6t (.row kx 0 1 1)=some (.t (.v (.int .i64 1))):=rfl;have mk:=C8o (ty:=tyI) (by':=8) (nx:=nx) (.int .i64 0) (n:=n) (by omega) (by omega);refine C2c.callX rfl ?_;(conv in B1q=>cbv);refine A0b C ?_;simp -implicitDefEqProofs;refine A0b C ?_;simp -implicitDefEqProofs [b1];refine A0b C ?_;simp -implicitDefEqProofs [lx,G2b,w,e];refine A0b C ?_;simp -implicitDefEqProofs [b2];refine A0b C ?_;simp -implicitDefEqProofs [wi,mk]
 obtain⟨H1,hH1⟩:∃H1,H1=(nx,Row.cells tyI (List.replicate n (PV.t (.v (.int .i64 0)))))::H:=⟨_,rfl⟩
 rw[<-hH1]
 have r1:Abs.look H1 nx=some (B0s 0 n):=by rw[hH1,look_cons,if_pos rfl];rfl
 have k1:∀c,c<nx->Abs.look H1 c=Abs.look H c:=fun c h=>by rw[hH1,look_cons,if_neg (by omega)]
 have f1:Frs H nx->Frs H1 (nx+1):=fun h=>by rw[hH1];exact h.cons (Nat.lt_succ_self _) (Nat.le_succ _)
 have c1:=E9z (nx:=nx+1) r1 (k:=kx) (ty:=ty) (by rw[k1 kx hk];exact hx) h0
 obtain⟨H2,hH2⟩:∃H2,H2=Abs.upd H1 nx (B0s 1 n):=⟨_,rfl⟩
 rw[<-hH2]at c1
 have r2:Abs.look H2 nx=some (B0s 1 n):=by rw[hH2,A0f,if_pos rfl,r1];rfl
 have k2:∀c,c<nx->Abs.look H2 c=Abs.look H c:=fun c h=>by rw[hH2,A0f,if_neg (by omega)];exact k1 c h
 have f2:Frs H nx->Frs H2 (nx+1):=fun h=>by rw[hH2];exact(f1 h).upd
 refine A0b C ?_;simp -implicitDefEqProofs [c1];have ln:A6t (.row nx 0 n 1)=some (.t (iv (n:Int))):=rfl;refine A3q (fun c:RpC=>⟨[(7,.row nx 0 n 1)],c.H,nx+1,48⟩) (fun c=>Abs.look c.H nx=some (B0s n n)/\(∀c',c'<nx->Abs.look c.H c'=Abs.look H c')/\(Frs H nx->Frs c.H (nx+1))) (fun _=>rfl) ?_ ?_
 ·refine A1k ?_;refine A2w (SRpt n nx) (fun c=>n-c.m) (fun c=>Abs.look c.H nx=some (B0s c.m n)/\(∀c',c'<nx->Abs.look c.H c'=Abs.look H c')/\(Frs H nx->Frs c.H (nx+1))/\0<c.m/\c.m<=n) ⟨H2,1⟩ (fun _=>rfl) ⟨r2,k2,f2,Nat.lt_succ_self _,h0⟩ ?_ rfl ?_
  ·exact A0d (by simp -implicitDefEqProofs [SRpt])
  rintro⟨Ha,m⟩ ⟨hr,hk,hf,hm0,hm⟩;simp only at hr hk hf hm0 hm;by_cases hlt:m<n
  ·have cs:=F4p (nx:=nx+1) hr hm0 hlt
   obtain⟨j,hj⟩:∃j,j=Nat.min m (n-m):=⟨_,rfl⟩
   have hj1:j<=n-m:=by rw[hj];exact Nat.min_le_right _ _
   have hj0:0<j:=by rw[hj];exact Nat.lt_min.2 ⟨hm0,by omega⟩
   rw[<-hj]at cs
   have w1:IntKind.i64.wrap ((m:Int)+(j:Int))=((m+j:Nat):Int):=by
    have h:m+j<=100000:=by omega
    exact A0k (by omega) (by omega)
   have s1:A8b 1 (.row nx 0 n 1) (some (.t (iv (m:Int)))) none=some (.row nx m (n-m) 1):=by
    simp[A8b,boundV,hlt]
   have s2:A8b 1 (.row nx 0 n 1) none (some (.t (iv (m:Int))))=some (.row nx 0 m 1):=by
    simp[A8b,boundV,hm0,hm]
   refine A0b C ?_;simp -implicitDefEqProofs [SRpt,ln,hlt];refine A0r C ?_;simp -implicitDefEqProofs [s1,s2,cs,w1];exact Abs.Next.mk ⟨Abs.upd Ha nx (B0s (m+j) n),m+j⟩ ⟨⟨by show Abs.look (Abs.upd Ha nx (B0s (m+j) n)) nx=_;rw[A0f,if_pos rfl,hr];rfl,fun c h=>by show Abs.look (Abs.upd Ha nx (B0s (m+j) n)) c=_;rw[A0f,if_neg (by omega)];exact hk c h,fun h=>(hf h).upd,by show 0<m+j;omega,by show m+j<=n;omega⟩,by show n-(m+j)<n-m;omega⟩ (A0d (by simp -implicitDefEqProofs [SRpt]))
  ·have em:m=n:=by omega
   subst em;refine A0b C ?_;simp -implicitDefEqProofs [SRpt,ln];exact Abs.Next.mk ⟨Ha,0⟩ ⟨hr,hk,hf⟩ (A0d (by simp -implicitDefEqProofs))
 rintro⟨Ha,_⟩ ⟨hr,hk,hf⟩;simp only at hr hk hf;rw[E4l]at hr;refine A0b C ?_;simp -implicitDefEqProofs;refine A0r C ?_;simp -implicitDefEqProofs;exact A1u ⟨.row nx 0 n 1,Ha,nx+1⟩ ⟨⟨nx,rfl,hr,Nat.le_refl _,Nat.lt_succ_self _⟩,hk,Nat.le_succ _,hf⟩ (by simp -implicitDefEqProofs)
theorem F5p (l:List (List UInt8)):(l.mergeSort fun x y=>decide (x<=y)).Pairwise fun x y=>x<=y:=by
 have h:=List.pairwise_mergeSort (le:=fun x y:List UInt8=>decide (x<=y)) (fun a b c h1 h2=>decide_eq_true (List.le_trans (of_decide_eq_true h1) (of_decide_eq_true h2))) (fun a b=>by
  rw[Bool.or_eq_true,decide_eq_true_eq,decide_eq_true_eq];exact List.le_total a b) l
 exact h.imp fun h=>of_decide_eq_true h
theorem F0a (l m:List ByteArray) (h:l.Perm m):srtS l=srtS m:=by
 have hp:((l.map lb).mergeSort fun x y=>decide (x<=y)).Perm ((m.map lb).mergeSort fun x y=>decide (x<=y)):=((List.mergeSort_perm _ _).trans (h.map lb)).trans (List.mergeSort_perm _ _).symm;unfold srtS;congr 1;exact List.Perm.eq_of_pairwise (le:=fun x y:List UInt8=>x<=y) (fun a b _ _ h1 h2=>List.le_antisymm h1 h2) (F5p _) (F5p _) hp
structure EqC where
 i:Nat
def SEq (ta tb:T) (n:Nat) (c:EqC):A0c:=⟨[(13,.t (iv (c.i:Int))),(12,.t (iv (n:Int))),(1,.t tb),(0,.t ta)],[],0,26⟩
theorem F4q {ta tb:T} {l m:List ByteArray} (ha:IsS eStr ta l) (hb:IsS eStr tb m) (hl:l.length<=1000000):A1d Tryz.prog (G q) 47 [ta,tb] (· = bv (decide (l=m))):=by
 have la:=ha.len;have lb:=hb.len
 obtain⟨R,hR⟩:∃R,R=decide (l=m):=⟨_,rfl⟩
 rw[<-hR];refine C3w.call rfl ?_;(conv in B3u=>cbv);refine A0a A0g ?_;simp -implicitDefEqProofs;by_cases hlen:l.length=m.length
 ·have b2:((l.length:Int) !=(m.length:Int))=false:=by rw[hlen];exact bne_self_eq_false _
  refine A0a A0g ?_;simp -implicitDefEqProofs [la,lb,b2];refine A0q (fun _:EqC=>⟨[],[],0,26⟩) (fun _=>R=true) (fun _=>rfl) ?_ ?_
  ·refine A0a A0g ?_;simp -implicitDefEqProofs [la];refine A0j ?_;refine A0n (SEq ta tb l.length) (fun c=>l.length-c.i) (fun c=>l.take c.i=m.take c.i/\c.i<=l.length) ⟨0⟩ (fun _=>rfl) ⟨rfl,Nat.zero_le _⟩ ?_ rfl ?_
   ·exact A0d (by simp -implicitDefEqProofs [SEq])
   rintro⟨i⟩ ⟨ht,hi⟩;simp only at ht hi;by_cases hlt:i<l.length
   ·obtain⟨x,hx⟩:∃x,l[i]?=some x:=⟨_,List.getElem?_eq_getElem hlt⟩
    obtain⟨y,hy⟩:∃y,m[i]?=some y:=⟨_,List.getElem?_eq_getElem (by omega)⟩
    have i1:=ha.iaddr hx .i64;have i2:=hb.iaddr hy .i64;have hz:eStr.z=1:=rfl;rw[hz,show eStr.enc x=[sv x]from rfl]at i1;rw[hz,show eStr.enc y=[sv y]from rfl]at i2;have w1:IntKind.i64.wrap ((i:Int)+1)=((i+1:Nat):Int):=A0k (by omega) (by omega);refine A0a A0g ?_;simp -implicitDefEqProofs [SEq,hlt];refine A0a A0g ?_;simp -implicitDefEqProofs;refine A0q (fun _:EqC=>SEq ta tb l.length ⟨i⟩) (fun _=>x=y) (fun _=>rfl) ?_ ?_
    ·refine A0j ?_;refine A0a A0g ?_;simp -implicitDefEqProofs;by_cases hxy:x=y
     ·have b3:(x.toList==y.toList)=true:=by rw[hxy];exact beq_self_eq_true _
      refine A0e A0g ?_;simp -implicitDefEqProofs [i1,i2,lp,b3];exact Abs.Next.mk ⟨0⟩ hxy (A0d (by simp -implicitDefEqProofs [SEq]))
     ·have b3:(x.toList==y.toList)=false:=by rw[A2g];exact decide_eq_false hxy
      have hRf:R=false:=by
       rw[hR];refine decide_eq_false fun e=>hxy ?_;rw[e,hy]at hx;injection hx with hx;exact hx.symm
      refine A0e A0g ?_;simp -implicitDefEqProofs [i1,i2,lp,b3,hRf]
    ·rintro _ hxy;refine A0e A0g ?_;simp -implicitDefEqProofs [SEq,w1];refine Abs.Next.mk ⟨i+1⟩ ⟨⟨?_,hlt⟩,by show l.length-(i+1)<l.length-i;omega⟩ (A0d (by simp -implicitDefEqProofs [SEq]));show l.take (i+1)=m.take (i+1);rw[List.take_add_one,List.take_add_one,ht,hx,hy,hxy]
   ·have ei:i=l.length:=by omega
    subst ei;refine A0e A0g ?_;simp -implicitDefEqProofs [SEq];refine Abs.Next.mk ⟨0⟩ ?_ (A0d (by simp -implicitDefEqProofs));rw[List.take_length,hlen,List.take_length]at ht;rw[hR];exact decide_eq_true ht
  rintro _ hRt;refine A0e A0g ?_;simp -implicitDefEqProofs [hRt]
 ·have b2:((l.length:Int) !=(m.length:Int))=true:=by rw[bne_iff_ne];omega
  have hRf:R=false:=by rw[hR];exact decide_eq_false fun e=>hlen (by rw[e])
  refine A0a A0g ?_;simp -implicitDefEqProofs [la,lb,b2,hRf]
noncomputable def gEq:List T->Option T
 | [t1,t2]=>open Classical in match (tSl eStr).dec t1,(tSl eStr).dec t2 with
  | some l,some m=>if l.length<=1000000 then some (bv (decide (l=m)))else none
  | _,_=>none
 | _=>none
theorem hEq:GOK Tryz.prog (G q) 47 gEq:=fun args r hr=>by
 unfold gEq at hr;split at hr
 ·split at hr
  ·rename_i l m h1 h2;split at hr
   ·rename_i h;injection hr with hr;subst hr;exact F4q ((tSl eStr).is_dec h1) ((tSl eStr).is_dec h2) h
   ·cases hr
  ·cases hr
 ·cases hr
theorem G2d {ta tb:T} {l m:List ByteArray} (ha:IsS eStr ta l) (hb:IsS eStr tb m) (h:l.length<=1000000):gEq [ta,tb]=some (bv (decide (l=m))):=by
 simp only[gEq];rw[(tSl eStr).dec_is ha,(tSl eStr).dec_is hb];exact if_pos h
theorem A9l {α:Type} {e:Enc α} {ty:Nat} {x:α} {c:T} (hc:e.enc x=[c]) (n:Nat):A0l e ty (List.replicate n x) = .cells ty (List.replicate n (.t c)):=by
 unfold A0l;congr 1
 induction n with
 | zero=>rfl
 | succ n ih=>rw[List.replicate_succ,List.replicate_succ,List.flatMap_cons,List.map_append,ih,hc];rfl
theorem C8s (m:Nat):useL m []=List.replicate m false:=by
 refine List.ext_getElem? fun i=>?_;by_cases h:i<m
 ·rw[A8o [] h,List.getElem?_replicate,if_pos h];rfl
 ·rw[List.getElem?_eq_none (by rw[A2r];omega),List.getElem?_eq_none (by simp;omega)]
theorem F0b (w:Nat):∀(n i:Nat),plc (w:Int) i (List.replicate n (-1)) = -1
 | 0,_=>rfl
 | n+1,i=>by
  rw[List.replicate_succ,plc,if_neg (by omega)];exact F0b w n (i+1)
theorem F8m (n:Nat):frm n (List.replicate n (-1))=List.replicate n (-1):=by
 refine List.ext_getElem? fun i=>?_;by_cases h:i<n
 ·rw[C5d h,List.getElem?_replicate,if_pos h,F0b]
 ·rw[List.getElem?_eq_none (by rw[A9z];omega),List.getElem?_eq_none (by simp;omega)]
theorem hTwo {P:Program} {G:A1c} {f:FuncId} {t u:List PV->Heap->Nat->Option (PV×Heap×Nat)} (ht:HOK P G f t) (hu:HOK P G f u) {ps1 ps2:List PV} {H1 H2:Heap} {n1 n2:Nat} {o1 o2:PV×Heap×Nat} (h1:t ps1 H1 n1=some o1) (h2:u ps2 H2 n2=some o2) (hne:n1≠n2) :
  ∃v:List PV->Heap->Nat->Option (PV×Heap×Nat),v ps1 H1 n1=some o1/\v ps2 H2 n2=some o2/\HOK P G f v:=by
 refine⟨fun ps H nx=>if nx=n1 then t ps H nx else u ps H nx,?_,?_,?_⟩
 ·simp only[if_true];exact h1
 ·simp only[if_neg (Ne.symm hne)];exact h2
 ·refine⟨fun ps H nx r H' nx' h=>?_,fun ps H nx r H' nx' h=>?_⟩
  ·split at h
   ·exact ht.call _ _ _ _ _ _ h
   ·exact hu.call _ _ _ _ _ _ h
  ·split at h
   ·exact ht.fresh _ _ _ _ _ _ h
   ·exact hu.fresh _ _ _ _ _ _ h
def mmT:Option (List Nat)->T
 | some r=>.tu [slT eInt (natL r),bv true]
 | none=>.tu [nilS,bv false]
noncomputable def gPf (a b:Mr) (ca cb:List T):List T->Option T
 | [t]=>open Classical in if t = .ag ca then some (slT eStr (prof Hsh srtS a))else if t = .ag cb then some (slT eStr (prof Hsh srtS b))else none
 | _=>none
section
variable {a b : Mr} {ca cb : List T}
theorem gPf_a:gPf a b ca cb [.ag ca]=some (slT eStr (prof Hsh srtS a)):=by simp[gPf]
theorem gPf_b (ha:IsMr a ca) (hb:IsMr b cb):gPf a b ca cb [.ag cb]=some (slT eStr (prof Hsh srtS b)):=by
 by_cases h:cb=ca
 ·subst h;have e:a=b:=IsMr.uniq ha hb;subst e;simp[gPf]
 ·simp[gPf,h]
theorem hPf (ha:IsMr a ca) (hb:IsMr b cb) (sa:SmM a) (sb:SmM b) (La:A7q A0h a) (Lb:A7q A0h b) (oa:(occ a).length<=900) (ob:(occ b).length<=900):GOK Tryz.prog (G q) 44 (gPf a b ca cb):=fun args r hr=>by
 unfold gPf at hr;split at hr
 ·split at hr
  ·rename_i h;subst h;injection hr with hr;subst hr;exact B6f ha sa La oa
  ·split at hr
   ·rename_i h;subst h;injection hr with hr;subst hr;exact B6f hb sb Lb ob
   ·cases hr
 ·cases hr
theorem F8n (m:Mr) (out:List ByteArray):(rnd Hsh srtS m out).length=m.vars.length:=by
 unfold rnd;rw[List.length_map,A2u]
theorem E0v (m:Mr):(prof Hsh srtS m).length=m.vars.length:=F8n _ _
theorem F8o {r ty:Nat} {prs:List (Int×Int)} {H:Heap} (h:Abs.look H r=some (A0l ePr ty prs)) (hne:prs≠[]):PrL (.row r 0 prs.length 2) prs [r] H:=⟨rfl,fun i p hp=>by
 have i1:=B6t (e:=ePr) (b:=r) hp .i64;rw[A6q ePr r prs hne,show ePr.z=2 from rfl]at i1;refine⟨_,i1,fun H' hk=>?_⟩
 exact D9v (e:=ePr) (n:=2) ((hk r (by simp)).trans h) hp rfl⟩
def mcs (a0 a1 a2 a3 a4 b0 b1 b2 b3 b4 x y:T) (na nb nc:Nat):List PV:=[.t a0,.t a1,.t a2,.t a3,.t a4,.t b0,.t b1,.t b2,.t b3,.t b4,.t x,.t y,.row 5 0 na 1,.t nilS,.t nilS,.row 6 0 nb 1,.row 7 0 nc 1]
theorem bd_m (Φ:A0u) (H:Heap) (nx:Nat) (a0 a1 a2 a3 a4 b0 b1 b2 b3 b4:T) (x y:List ByteArray) (na nb nc:Nat):A0i Φ H nx (.build [(0,5),(5,5),(10,1),(11,1),(12,1),(13,1),(14,1),(15,1),(16,1)]
    [.int .i64 0,.int .i64 0,.slice none 0 0,.slice none 0 0,.slice none 0 0,.int .i64 0,.int .i64 0,.slice none 0 0,.slice none 0 0,.slice none 0 0,.slice none 0 0,.slice none 0 0,.slice none 0 0,.slice none 0 0,.slice none 0 0,.slice none 0 0,.slice none 0 0]
    [0,1,2,3,4,7,8]) [.t (.ag [a0,a1,a2,a3,a4]),.t (.ag [b0,b1,b2,b3,b4]),.t (slT eStr x),.t (slT eStr y),.row 5 0 na 1,.row 6 0 nb 1,.row 7 0 nc 1]=some (agOf (mcs a0 a1 a2 a3 a4 b0 b1 b2 b3 b4 (slT eStr x) (slT eStr y) na nb nc),H,nx):=rfl
theorem cs_m (a0 a1 a2 a3 a4 b0 b1 b2 b3 b4 x y:T) (na nb nc:Nat):A1g (agOf (mcs a0 a1 a2 a3 a4 b0 b1 b2 b3 b4 x y na nb nc))=some (mcs a0 a1 a2 a3 a4 b0 b1 b2 b3 b4 x y na nb nc):=rfl
theorem B0d (ha:IsMr a ca) (hb:IsMr b cb) (sa:SmM a) (sb:SmM b) (La:A7q A0h a) (Lb:A7q A0h b) (oa':(occ a).length<=900) (ob':(occ b).length<=900) (hfull:full a) :
  A1d Tryz.prog (G q) 23 [.ag ca,.ag cb] (· = mmT (A1r (A1l a b) a b)):=by
 have oa:=La.ok;have ob:=Lb.ok
 obtain⟨R,hR⟩:∃R,R=mmT (C5c Hsh srtS a b):=⟨_,rfl⟩
 rw[<-E7b F0a oa ob hfull,<-hR];obtain⟨tva,tra,tca,rla,eca,hva,hra,hrma,hca⟩:=id ha;obtain⟨tvb,trb,tcb,rlb,ecb,hvb,hrb,hrmb,hcb⟩:=id hb
 obtain⟨Xa,hXa⟩:∃X,X=mRow [iv a.top,iv a.index,tva,tra,tca]:=⟨_,rfl⟩
 obtain⟨Xb,hXb⟩:∃X,X=mRow [iv b.top,iv b.index,tvb,trb,tcb]:=⟨_,rfl⟩
 have cda:=cd5 (iv a.top) (iv a.index) tva tra tca;have cdb:=cd5 (iv b.top) (iv b.index) tvb trb tcb;have lva:=hva.len;have lvb:=hvb.len;have lra:=hra.len;have lrb:=hrb.len;have lca:=hca.len;have lcb:=hcb.len
 have rla':rla.length=a.rels.length:=by rw[<-hrma,List.length_map]
 have rlb':rlb.length=b.rels.length:=by rw[<-hrmb,List.length_map]
 rw[rla']at lra;rw[rlb']at lrb;have ld:∀{H:Heap},Abs.look H 0=some Xa->LdM (iv a.top) (iv a.index) tva tra tca H 0:=fun h=>ldM (by rw[h,hXa]);have ldb:∀{H:Heap},Abs.look H 1=some Xb->LdM (iv b.top) (iv b.index) tvb trb tcb H 1:=fun h=>ldM (by rw[h,hXb])
 obtain⟨H0,hH0⟩:∃H0:Heap,H0=[(1,Xb),(0,Xa)]:=⟨_,rfl⟩
 have z0:=ld (H:=H0) (by rw[hH0];rfl);have z1:=ldb (H:=H0) (by rw[hH0];rfl);refine D5m.call rfl ?_;(conv in C1s=>cbv);by_cases hL:a.vars.length≠b.vars.length\/a.rels.length≠b.rels.length\/a.cons.length≠b.cons.length
 ·have hR0:R = .tu [nilS,bv false]:=by rw[hR];unfold C5c;rw[if_pos hL];rfl
  subst eca ecb;refine A0a A0g ?_;simp -implicitDefEqProofs [cda,cdb];rw[show Row.cells 26 [.t (iv a.top),.t (iv a.index),.t tva,.t tra,.t tca]=Xa from hXa.symm,show Row.cells 26 [.t (iv b.top),.t (iv b.index),.t tvb,.t trb,.t tcb]=Xb from hXb.symm,show([(1,Xb),(0,Xa)]:Heap)=H0 from hH0.symm];by_cases c1:a.vars.length=b.vars.length
  ·have b1:((a.vars.length:Int) !=(b.vars.length:Int))=false:=by rw[c1];exact bne_self_eq_false _
   by_cases c2:a.rels.length=b.rels.length
   ·have b2:((a.rels.length:Int) !=(b.rels.length:Int))=false:=by rw[c2];exact bne_self_eq_false _
    have c3:a.cons.length≠b.cons.length:=by rcases hL with h | h | h<;>first | exact absurd c1 h | exact absurd c2 h | exact h
    have b3:((a.cons.length:Int) !=(b.cons.length:Int))=true:=by rw[bne_iff_ne];omega
    refine A0a A0g ?_;simp -implicitDefEqProofs [z0.l2,z1.l2,z0.l3,z1.l3,z0.l4,z1.l4,lva,lvb,lra,lrb,lca,lcb,b1,b2,b3,hR0]
   ·have b2:((a.rels.length:Int) !=(b.rels.length:Int))=true:=by rw[bne_iff_ne];omega
    refine A0a A0g ?_;simp -implicitDefEqProofs [z0.l2,z1.l2,z0.l3,z1.l3,z0.l4,z1.l4,lva,lvb,lra,lrb,lca,lcb,b1,b2,hR0]
  ·have b1:((a.vars.length:Int) !=(b.vars.length:Int))=true:=by rw[bne_iff_ne];omega
   refine A0a A0g ?_;simp -implicitDefEqProofs [z0.l2,z1.l2,z0.l3,z1.l3,z0.l4,z1.l4,lva,lvb,lra,lrb,lca,lcb,b1,hR0]
 have c1:a.vars.length=b.vars.length:=Classical.not_not.1 fun h=>hL (.inl h);have c2:a.rels.length=b.rels.length:=Classical.not_not.1 fun h=>hL (.inr (.inl h));have c3:a.cons.length=b.cons.length:=Classical.not_not.1 fun h=>hL (.inr (.inr h))
 have b1:((a.vars.length:Int) !=(b.vars.length:Int))=false:=by rw[c1];exact bne_self_eq_false _
 have b2:((a.rels.length:Int) !=(b.rels.length:Int))=false:=by rw[c2];exact bne_self_eq_false _
 have b3:((a.cons.length:Int) !=(b.cons.length:Int))=false:=by rw[c3];exact bne_self_eq_false _
 have hn0:0<a.vars.length:=by have:=oa.top;have h1:=this.1;have h2:=this.2;omega
 have sav:=sa.vars;have sar:=sa.rels;have sac:=sa.cons
 obtain⟨pa,hpa⟩:∃pa,pa=prof Hsh srtS a:=⟨_,rfl⟩
 obtain⟨pb,hpb⟩:∃pb,pb=prof Hsh srtS b:=⟨_,rfl⟩
 have lpa:pa.length=a.vars.length:=by rw[hpa];exact E0v a
 have lpb:pb.length=a.vars.length:=by rw[hpb,c1];exact E0v b
 have hP:=hPf (q:=q) ha hb sa sb La Lb oa' ob';have eA:=gPf_a (a:=a) (b:=b) (ca:=ca) (cb:=cb);have eB:=gPf_b ha hb;rw[<-hpa]at eA;rw[<-hpb]at eB;have mk1:=C8o (ty:=tyI) (by':=8) (nx:=5) (.int .i64 0) (n:=a.rels.length) (by omega) (by omega);have mk2:=C8o (ty:=tyO) (by':=1) (nx:=6) (.bool false) (n:=b.rels.length) (by omega) (by omega);have mk3:=C8o (ty:=tyO) (by':=1) (nx:=7) (.bool false) (n:=b.cons.length) (by omega) (by omega);have C0:Ctx Tryz.prog (G q) _:=(A0s.cons hP (.cons (hEq (q:=q)) .nil)).ctxH A0v.nil mixed;subst eca ecb;refine A0a C0 ?_;simp -implicitDefEqProofs [cda,cdb];rw[show Row.cells 26 [.t (iv a.top),.t (iv a.index),.t tva,.t tra,.t tca]=Xa from hXa.symm,show Row.cells 26 [.t (iv b.top),.t (iv b.index),.t tvb,.t trb,.t tcb]=Xb from hXb.symm,show([(1,Xb),(0,Xa)]:Heap)=H0 from hH0.symm];refine A0a C0 ?_;simp -implicitDefEqProofs [z0.l2,z1.l2,z0.l3,z1.l3,z0.l4,z1.l4,lva,lvb,lra,lrb,lca,lcb,b1,b2,b3];have z0':∀r,LdM (iv a.top) (iv a.index) tva tra tca r 0\/True:=fun _=>.inr trivial;refine A0a C0 ?_;simp -implicitDefEqProofs [z0.all,z1.all,eA,eB,z0.l3,z1.l3,z1.l4,lra,lrb,lcb,mk1,mk2,mk3,bd_m,cs_m,-evalK_build]
 obtain⟨cm,hcm⟩:∃cm,cm=mcs (iv a.top) (iv a.index) tva tra tca (iv b.top) (iv b.index) tvb trb tcb (slT eStr pa) (slT eStr pb) a.rels.length b.rels.length b.cons.length:=⟨_,rfl⟩
 rw[<-hcm]
 obtain⟨H1,hH1⟩:∃H1:Heap,H1=(8,Row.cells tyX cm)::(7,Row.cells tyO (List.replicate b.cons.length (PV.t (.v (.bool false)))))::(6,Row.cells tyO (List.replicate b.rels.length (PV.t (.v (.bool false)))))::(5,Row.cells tyI (List.replicate a.rels.length (PV.t (.v (.int .i64 0)))))::H0:=⟨_,rfl⟩
 rw[<-hH1]
 have q0:Abs.look H1 0=some Xa:=by rw[hH1,hH0];rfl
 have q1:Abs.look H1 1=some Xb:=by rw[hH1,hH0];rfl
 have q5:Abs.look H1 5=some (A0l eInt tyI (List.replicate a.rels.length 0)):=by rw[A9l (c:=iv 0) rfl,hH1];rfl
 have q6:Abs.look H1 6=some (A0l A8m tyO (List.replicate b.rels.length false)):=by rw[A9l (c:=bv false) rfl,hH1];rfl
 have q7:Abs.look H1 7=some (A0l A8m tyO (List.replicate b.cons.length false)):=by rw[A9l (c:=bv false) rfl,hH1];rfl
 have q8:Abs.look H1 8=some (.cells tyX cm):=by rw[hH1];rfl
 obtain⟨G1,hG1⟩:∃G1:Heap,G1=(9,Row.cells tyI [.t (iv (-1))])::H1:=⟨_,rfl⟩
 obtain⟨⟨fr1,F1,n1⟩,⟨⟨b1',hr1,hb1,hb1g,hb1l⟩,hk1,hn1,hf1⟩,hc1⟩:=E0u (q:=q) (n:=a.vars.length) hn0 sav (H:=G1) (nx:=10) (kx:=9) (ty:=tyI) (by rw[hG1];rfl) (by omega);simp only at hr1 hb1 hb1g hb1l hk1 hn1 hf1 hc1;subst hr1;obtain⟨t1,t1e,t1o⟩:=hAt hc1 hf1
 have kG1:∀c,c<9->Abs.look F1 c=Abs.look H1 c:=fun c h=>by rw[hk1 c (by omega),hG1,look_cons,if_neg (by omega)]
 obtain⟨cm1,hcm1⟩:∃cm1,cm1=cm.set 13 (.row b1' 0 a.vars.length 1):=⟨_,rfl⟩
 have s1:=A1z (H:=F1) (b:=8) (o:=13) (n:=1) (t:=.row b1' 0 a.vars.length 1) (ns:=[.row b1' 0 a.vars.length 1]) (by rw[kG1 8 (by omega)];exact q8) rfl rfl (by rw[hcm];show 13+1<=17;omega);rw[show A2m cm 13 [PV.row b1' 0 a.vars.length 1]=cm1 from hcm1.symm]at s1
 obtain⟨H2,hH2⟩:∃H2,H2=Abs.upd F1 8 (.cells tyX cm1):=⟨_,rfl⟩
 rw[<-hH2]at s1
 have k2:∀c,c≠8->Abs.look H2 c=Abs.look F1 c:=fun c h=>by rw[hH2,A0f,if_neg h]
 have e2:Abs.look H2 8=some (.cells tyX cm1):=by rw[hH2,A0f,if_pos rfl,kG1 8 (by omega),q8];rfl
 obtain⟨G2,hG2⟩:∃G2:Heap,G2=(n1,Row.cells tyI [.t (iv (-1))])::H2:=⟨_,rfl⟩
 obtain⟨⟨fr2,F2,n2⟩,⟨⟨b2',hr2,hb2,hb2g,hb2l⟩,hk2,hn2,hf2⟩,hc2⟩:=E0u (q:=q) (n:=a.vars.length) hn0 sav (H:=G2) (nx:=n1+1) (kx:=n1) (ty:=tyI) (by rw[hG2,look_cons,if_pos rfl]) (by omega);simp only at hr2 hb2 hb2g hb2l hk2 hn2 hf2 hc2;subst hr2;obtain⟨t2,t2e,t2o⟩:=hAt hc2 hf2
 have kG2:∀c,c<n1->Abs.look F2 c=Abs.look H2 c:=fun c h=>by rw[hk2 c (by omega),hG2,look_cons,if_neg (by omega)]
 obtain⟨cm2,hcm2⟩:∃cm2,cm2=cm1.set 14 (.row b2' 0 a.vars.length 1):=⟨_,rfl⟩
 have s2:=A1z (H:=F2) (b:=8) (o:=14) (n:=1) (t:=.row b2' 0 a.vars.length 1) (ns:=[.row b2' 0 a.vars.length 1]) (by rw[kG2 8 (by omega)];exact e2) rfl rfl (by rw[hcm1,List.length_set,hcm];show 14+1<=17;omega);rw[show A2m cm1 14 [PV.row b2' 0 a.vars.length 1]=cm2 from hcm2.symm]at s2
 obtain⟨H3,hH3⟩:∃H3,H3=Abs.upd F2 8 (.cells tyX cm2):=⟨_,rfl⟩
 rw[<-hH3]at s2
 have k3:∀c,c≠8->Abs.look H3 c=Abs.look F2 c:=fun c h=>by rw[hH3,A0f,if_neg h]
 have e3:Abs.look H3 8=some (.cells tyX cm2):=by rw[hH3,A0f,if_pos rfl,kG2 8 (by omega),e2];rfl
 obtain⟨M,hM⟩:∃M:Mx,M=⟨a,b,[iv a.top,iv a.index,tva,tra,tca],[iv b.top,iv b.index,tvb,trb,tcb],pa,pb,slT eStr pa,slT eStr pb,⟨8,5,b1',b2',6,7⟩⟩:=⟨_,rfl⟩
 have mok:MxOk M:=by
  subst hM;refine⟨⟨ha,hb,sa,sb,oa,ob,c1.symm⟩,.inr rfl,.inr rfl,lpa,lpb,?_,c2.symm,c3.symm⟩;show [8,5,b1',b2',6,7].Nodup;simp only[List.nodup_cons,List.mem_cons,List.not_mem_nil,or_false,not_or,List.nodup_nil,and_true,not_false_eq_true];omega
 have kk:∀c,c<8->Abs.look H3 c=Abs.look H1 c:=fun c h=>by rw[k3 c (by omega),kG2 c (by omega),k2 c (by omega),kG1 c (by omega)]
 have r0:Abs.look H3 0=some Xa:=(kk 0 (by omega)).trans q0;have r1:Abs.look H3 1=some Xb:=(kk 1 (by omega)).trans q1
 have S3:MtS M (List.replicate a.rels.length 0) (List.replicate a.vars.length (-1)) (useL b.rels.length []) (useL b.cons.length []) H3 n2:=by
  subst hM;refine⟨?_,(kk 5 (by omega)).trans q5,?_,?_,?_,?_,by simp,by simp,A2r _ _,A2r _ _,?_⟩
  ·rw[e3,hcm2,hcm1,hcm];rfl
  ·show Abs.look H3 b1'=_;rw[k3 b1' (by omega),kG2 b1' (by omega),k2 b1' (by omega)];exact hb1
  ·show Abs.look H3 b2'=_;rw[k3 b2' (by omega)];show Abs.look F2 b2'=some (A0l eInt tyI (frm a.vars.length (List.replicate a.vars.length (-1))));rw[F8m];exact hb2
  ·rw[C8s];exact(kk 6 (by omega)).trans q6
  ·rw[C8s];exact(kk 7 (by omega)).trans q7
  ·intro c hc;simp only[Kx.l,List.mem_cons,List.not_mem_nil,or_false]at hc;omega
 have hpm:PMv (fun _ _=>true) M.a.vars.length (List.replicate a.vars.length (-1)):=by subst hM;exact B1g _ _
 have npa:pa≠[]:=fun e=>by rw[e]at lpa;simp at lpa;omega
 have npb:pb≠[]:=fun e=>by rw[e]at lpb;simp at lpb;omega
 obtain⟨⟨fr4,F4,n4⟩,⟨hr4,hn4,hb4,hk4,hf4⟩,hc4⟩:=B7p (q:=q) (H:=H3) (nx:=n2) rfl npa (by omega);simp only at hr4 hn4 hb4 hk4 hf4 hc4;subst hr4 hn4;obtain⟨t4,t4e,t4o⟩:=hAt hc4 hf4;obtain⟨⟨fr5,F5,n5⟩,⟨hr5,hn5,hb5,hk5,hf5⟩,hc5⟩:=B7p (q:=q) (H:=F4) (nx:=n2+2) rfl npb (by omega);simp only at hr5 hn5 hb5 hk5 hf5 hc5;subst hr5 hn5;obtain⟨t5,t5e,t5o⟩:=hAt hc5 hf5
 have g4:Abs.look F5 (n2+1)=some (A0l eStr tyS pa):=by rw[hk5 _ (by omega)];exact hb4
 have hc6:=B5w (q:=q) (nx:=n2+2+2) (g:=n2+1) (H:=F5) (l:=pa) (.inr g4) (by omega);rw[if_neg (by simpa using npa),A6q eStr _ _ npa,<-B7h,show eStr.z=1 from rfl]at hc6
 obtain⟨F6,hF6⟩:∃F6,F6=Abs.upd F5 (n2+1) (A0l eStr tyS (srtS pa)):=⟨_,rfl⟩
 rw[<-hF6]at hc6;obtain⟨t6,t6e,t6o⟩:=hAt hc6 (fun h=>by rw[hF6];exact h.upd)
 have g5:Abs.look F6 (n2+3)=some (A0l eStr tyS pb):=by rw[hF6,A0f,if_neg (by omega)];exact hb5
 have hc7:=B5w (q:=q) (nx:=n2+2+2) (g:=n2+3) (H:=F6) (l:=pb) (.inr g5) (by omega);rw[if_neg (by simpa using npb),A6q eStr _ _ npb,<-B7h,show eStr.z=1 from rfl]at hc7
 obtain⟨F7,hF7⟩:∃F7,F7=Abs.upd F6 (n2+3) (A0l eStr tyS (srtS pb)):=⟨_,rfl⟩
 rw[<-hF7]at hc7;obtain⟨t7,t7e,t7o⟩:=hAt hc7 (fun h=>by rw[hF7];exact h.upd)
 have y1:Abs.look F7 (n2+1)=some (A0l eStr tyS (srtS pa)):=by rw[hF7,A0f,if_neg (by omega),hF6,A0f,if_pos rfl,g4];rfl
 have y2:Abs.look F7 (n2+3)=some (A0l eStr tyS (srtS pb)):=by rw[hF7,A0f,if_pos rfl,g5];rfl
 have k7:∀c,c<n2->Abs.look F7 c=Abs.look H3 c:=fun c h=>by rw[hF7,A0f,if_neg (by omega),hF6,A0f,if_neg (by omega),hk5 c (by omega),hk4 c h]
 have CA:Ctx Tryz.prog (G q) _:=(A0s.cons hP (.cons (hEq (q:=q)) .nil)).ctxH (A0v.cons t1o .nil) mixed;have z2:=ld q0;have zG1:LdM (iv a.top) (iv a.index) tva tra tca G1 0:=ld (by rw[hG1];exact q0);rw[hG1]at t1e zG1;refine A0a CA ?_;simp -implicitDefEqProofs [zG1.l2,lva,B8v,t1e,s1];have CB:Ctx Tryz.prog (G q) _:=(A0s.cons hP (.cons (hEq (q:=q)) .nil)).ctxH (A0v.cons t2o .nil) mixed;have zG2:LdM (iv a.top) (iv a.index) tva tra tca G2 0:=ld (by rw[hG2,look_cons,if_neg (by omega),k2 0 (by omega),kG1 0 (by omega)];exact q0);rw[hG2]at t2e zG2;refine A0a CB ?_;simp -implicitDefEqProofs [zG2.l2,lva,B8v,t2e,s2];obtain⟨v,v4,v5,vo⟩:=hTwo t4o t5o t4e t5e (by omega);have CC:Ctx Tryz.prog (G q) _:=(A0s.cons hP (.cons (hEq (q:=q)) .nil)).ctxH (A0v.cons vo .nil) mixed;have L3:=ldX mok S3.o;have L4:LdX M F4:=ldX mok (by subst hM;show Abs.look F4 8=_;rw[hk4 8 (by omega)];exact S3.o)
 have x1:A0t false 1 H3 (.ptr 8 10)=some (.t (slT eStr pa)):=by have:=L3.ia;subst hM;exact this
 have x2:A0t false 1 H3 (.ptr 8 11)=some (.t (slT eStr pb)):=by have:=L3.ib;subst hM;exact this
 have x3:A0t false 1 F4 (.ptr 8 11)=some (.t (slT eStr pb)):=by have:=L4.ib;subst hM;exact this
 refine A0a CC ?_;simp -implicitDefEqProofs [x1,x2,x3,v4,v5];have CD:Ctx Tryz.prog (G q) _:=(A0s.cons hP (.cons (hEq (q:=q)) .nil)).ctxH (A0v.cons t6o .nil) mixed;refine A0a CD ?_;simp -implicitDefEqProofs [t6e];have CE:Ctx Tryz.prog (G q) _:=(A0s.cons hP (.cons (hEq (q:=q)) .nil)).ctxH (A0v.cons t7o .nil) mixed;refine A0a CE ?_;simp -implicitDefEqProofs [t7e];have ls1:=A6a pa;have ls2:=A6a pb;have ht1:=A2s (e:=eStr) y1;have ht2:=A2s (e:=eStr) y2;rw[show eStr.z=1 from rfl]at ht1 ht2;rw[ls1]at ht1;rw[ls2]at ht2
 have hts:toTs F7 [.row (n2+1) 0 pa.length 1,.row (n2+3) 0 pb.length 1]=some ([slT eStr (srtS pa),slT eStr (srtS pb)],[n2+1]++([n2+3]++[])):=by
  simp only[toTs,ht1,ht2]
 have eq1:=G2d (l:=srtS pa) (m:=srtS pb) (.inr rfl) (.inr rfl) (by rw[ls1];omega);refine A0a C0 ?_;simp -implicitDefEqProofs [hts,eq1,-toTs,-toT];have hRp:R=mmT (C5c Hsh srtS a b):=hR;unfold C5c at hRp;rw[if_neg hL,<-hpa,<-hpb]at hRp;by_cases hse:srtS pa=srtS pb
 case neg=>
  have hR0:R = .tu [nilS,bv false]:=by rw[hRp,if_pos hse];rfl
  simp -implicitDefEqProofs [hse,hR0]
 rw[if_neg (fun h=>h hse)]at hRp;simp -implicitDefEqProofs [hse]
 obtain⟨n8,hn8⟩:∃n8,n8=n2+2+2:=⟨_,rfl⟩
 rw[<-hn8];refine MC.sub (s':=⟨[(6,.ptr 8 0),(3,.ptr 1 0),(2,.ptr 0 0)],F7,n8,117⟩) (A0d (by simp -implicitDefEqProofs)) rfl ?_
 obtain⟨prs,hprs⟩:∃prs,prs=[(a.top,b.top),(a.index,b.index)]:=⟨_,rfl⟩
 obtain⟨G8,hG8⟩:∃G8:Heap,G8=(n8,A0l ePr ty2 prs)::F7:=⟨_,rfl⟩
 have kG8:∀c,c<n8->Abs.look G8 c=Abs.look F7 c:=fun c h=>by rw[hG8,look_cons,if_neg (by omega)]
 have S8:MtS M (List.replicate a.rels.length 0) (List.replicate a.vars.length (-1)) (useL b.rels.length []) (useL b.cons.length []) G8 (n8+1):=S3.more (fun c hc=>by have:=S3.lt c hc;rw[kG8 c (by omega),k7 c this]) (by omega)
 have hpl:prs.length=2:=by rw[hprs];rfl
 have hL8:PrL (.row n8 0 2 2) prs [n8] G8:=by
  have:=F8o (H:=G8) (r:=n8) (ty:=ty2) (prs:=prs) (by rw[hG8,look_cons,if_pos rfl]) (by rw[hprs];simp);rw[hpl]at this;exact this
 have hMa:M.a=a:=by rw[hM]
 have hMb:M.b=b:=by rw[hM]
 have hMk:M.K=⟨8,5,b1',b2',6,7⟩:=by rw[hM]
 have hok:M.ok=D0z pa pb a b:=by rw[hM];rfl
 obtain⟨⟨fr9,F9,n9⟩,⟨⟨b9,hr9,hb9,hbK9,hbl9,hbo9⟩,hS9,hk9,hn9,hf9⟩,hc9⟩:=B7q (q:=q) mok S8 hpm hL8 (by
  intro c hc;rw[List.mem_singleton]at hc;subst hc;refine⟨Nat.lt_succ_self _,fun h=>?_⟩;have:=S3.lt _ h
  omega) (by
  intro p hp;rw[hprs]at hp;rw[hMa];rcases List.mem_cons.1 hp with rfl | hp
  ·exact⟨oa.top,by have:=ob.top;rwa[<-c1]at this⟩
  ·rw[List.mem_singleton]at hp;subst hp
   exact⟨oa.index,by have:=ob.index;rwa[<-c1]at this⟩) (by omega)
 simp only at hr9 hb9 hbK9 hbl9 hbo9 hS9 hk9 hn9 hf9 hc9
 have hBn:=B2k (ok:=M.ok) (l:=prs) (Bnds.nil hpm) (by
  intro p hp;rw[hprs]at hp;rw[hMa];rcases List.mem_cons.1 hp with rfl | hp
  ·exact⟨oa.top,by have:=ob.top;rwa[<-c1]at this⟩
  ·rw[List.mem_singleton]at hp;subst hp
   exact⟨oa.index,by have:=ob.index;rwa[<-c1]at this⟩)
 have hbA:=B9o (ok:=M.ok) prs (List.replicate a.vars.length (-1),[]);rw[show(List.replicate a.vars.length (-1:Int),([]:List Int)).1=List.replicate a.vars.length (-1)from rfl]at hbA;rw[<-hprs,<-hok,hbA]at hRp
 obtain⟨⟨⟨w2,bd⟩,ok2⟩,ho2⟩:∃o2,o2=B1j M.ok (List.replicate a.vars.length (-1),[]) prs:=⟨_,rfl⟩
 rw[<-ho2]at hr9 hb9 hS9 hBn hRp;simp only at hr9 hb9 hS9 hBn hRp;obtain⟨x90,x91⟩:=C8p eInt b9 bd (bv ok2);obtain⟨t9,t9e,t9o⟩:=hAt hc9 hf9;rw[hr9]at t9e
 obtain⟨rr,hrr⟩:∃rr,rr=oneOf [rowP eInt b9 bd,.t (bv ok2)]:=⟨_,rfl⟩
 rw[<-hrr]at t9e x90 x91;rw[hMk,show(Kx.k0 ⟨8,5,b1',b2',6,7⟩)=8 from rfl]at t9e
 have kF9:∀c,c<2->Abs.look F9 c=Abs.look H1 c:=fun c h=>by
  rw[hk9 c (by omega) (by rw[hMk];simp[Kx.l];omega),kG8 c (by omega),k7 c (by omega)];exact kk c (by omega)
 have r70:Abs.look F7 0=some Xa:=by rw[k7 0 (by omega)];exact r0
 have r71:Abs.look F7 1=some Xb:=by rw[k7 1 (by omega)];exact r1
 have z7:=ld r70;have z7b:=ldb r71
 have bsl2:∀k,A1v ty2 2 [.int .i64 0,.int .i64 0] 2 [(0,.t (.ag [iv a.top,iv b.top])),(1,.t (.ag [iv a.index,iv b.index]))] k=some (.row k 0 2 2,A0l ePr ty2 prs):=fun k=>by rw[hprs];rfl
 rw[hG8]at t9e
 cases ok2 with
 | false=>
  have hR0:R = .tu [nilS,bv false]:=by rw[hRp];rfl
  have CF:Ctx Tryz.prog (G q) _:=(A0s.cons hP (.cons (hEq (q:=q)) .nil)).ctxH (A0v.cons t9o .nil) mixed;refine A0a CF ?_;simp -implicitDefEqProofs [z7.l0,z7.l1,z7b.l0,z7b.l1,D3h,bsl2,t9e,x90,x91,hR0,-extractV,-evalK_barr]
 | true=>
  obtain⟨⟨cr,F10,n10⟩,⟨hcr,⟨pl3,v',uP',uC',hcS,hcO,hcE⟩,hck,hcn,hcf⟩,hcc⟩:=E4j (q:=q) mok a.rels.length (ps:=[]) (by rw[hMa];simp) (by simp[natL]) (by rw[hMb];exact hS9) hBn.pm;simp only at hcr hcS hcO hcE hck hcn hcf hcc;rw[hMa,hMb,show a.rels.drop ([]:List Nat).length=a.rels from rfl]at hcr hcO hcE
  obtain⟨O,hO⟩:∃O,O=A4b M.ok b.cons a.cons b.rels a.rels w2 []:=⟨_,rfl⟩
  have hRo:R=mmT O:=by rw[hRp,hO];rfl
  rw[<-hO]at hcr hcO hcE;subst hcr;obtain⟨tc,tce,tco⟩:=hAt hcc hcf;rw[hMk,show(Kx.k0 ⟨8,5,b1',b2',6,7⟩)=8 from rfl,show(iv ((([]:List Nat).length:Nat):Int)) = .v (.int .i64 0)from rfl]at tce;have CF:Ctx Tryz.prog (G q) _:=(A0s.cons hP (.cons (hEq (q:=q)) .nil)).ctxH (A0v.cons t9o (A0v.cons tco .nil)) mixed
  cases O with
  | none=>
   have hR0:R = .tu [nilS,bv false]:=hRo;rw[show(none:Option (List Nat)).isSome=false from rfl]at tce;refine A0a CF ?_;simp -implicitDefEqProofs [z7.l0,z7.l1,z7b.l0,z7b.l1,D3h,bsl2,t9e,x90,x91,tce,hR0,-extractV,-evalK_barr]
  | some r=>
   have hR0:R = .tu [slT eInt (natL r),bv true]:=hRo;rw[show(some r:Option (List Nat)).isSome=true from rfl]at tce;have hpr:=hcO r rfl;subst hpr;have lp3:=(ldX mok hcS.o).p;have lk3:=hcS.p;have ll3:=hcS.lp;rw[hMk,hMa]at lp3;rw[hMk]at lk3;rw[hMa]at ll3;rw[<-ll3]at lp3;have htt:=D6k (e:=eInt) lk3 (bv true);rw[show eInt.z=1 from rfl]at htt;refine A0a CF ?_;simp -implicitDefEqProofs [z7.l0,z7.l1,z7b.l0,z7b.l1,D3h,bsl2,t9e,x90,x91,tce,-extractV,-evalK_barr];refine A0e CF ?_;simp -implicitDefEqProofs [lp3,htt,hR0,-toT]
end
structure MtIn (a:Mr) (ca:List T):Prop where
 is:IsMr a ca
 sm:SmM a
 lo:A7q A0h a
 oc:(occ a).length<=900
noncomputable def gMm (a b:Mr) (ca cb:List T):List T->Option T
 | [t1,t2]=>open Classical in if t1 = .ag ca/\t2 = .ag cb then some (mmT (A1r (A1l a b) a b))else none
 | _=>none
section
variable {a b : Mr} {ca cb : List T}
theorem G2e:gMm a b ca cb [.ag ca,.ag cb]=some (mmT (A1r (A1l a b) a b)):=by
 simp[gMm]
theorem hMm (ha:MtIn a ca) (hb:MtIn b cb) (hf:full a):GOK Tryz.prog (G q) 23 (gMm a b ca cb):=fun args r hr=>by
 unfold gMm at hr;split at hr
 ·split at hr
  ·rename_i h;obtain⟨rfl,rfl⟩:=h;injection hr with hr;subst hr;exact B0d ha.is hb.is ha.sm hb.sm ha.lo hb.lo ha.oc hb.oc hf
  ·cases hr
 ·cases hr
theorem B7r (ha:MtIn a ca) (hb:MtIn b cb) (hf:full a):A1d Tryz.prog (G q) 25 [.ag ca,.ag cb] (· = bv (A1r (A1l a b) a b).isSome):=by
 obtain⟨tva,tra,tca,rla,eca,_⟩:=id ha.is;obtain⟨tvb,trb,tcb,rlb,ecb,_⟩:=id hb.is
 obtain⟨Xa,hXa⟩:∃X,X=mRow [iv a.top,iv a.index,tva,tra,tca]:=⟨_,rfl⟩
 obtain⟨Xb,hXb⟩:∃X,X=mRow [iv b.top,iv b.index,tvb,trb,tcb]:=⟨_,rfl⟩
 have cda:=cd5 (iv a.top) (iv a.index) tva tra tca;have cdb:=cd5 (iv b.top) (iv b.index) tvb trb tcb
 obtain⟨H0,hH0⟩:∃H0:Heap,H0=[(1,Xb),(0,Xa)]:=⟨_,rfl⟩
 have z0:LdM (iv a.top) (iv a.index) tva tra tca H0 0:=ldM (by rw[hH0,<-hXa];rfl);have z1:LdM (iv b.top) (iv b.index) tvb trb tcb H0 1:=ldM (by rw[hH0,<-hXb];rfl);have e:=G2e (a:=a) (b:=b) (ca:=ca) (cb:=cb);have C:Ctx Tryz.prog (G q) _:=(A0s.cons (hMm (q:=q) ha hb hf) .nil).ctx mixed
 obtain⟨O,hO⟩:∃O,O=A1r (A1l a b) a b:=⟨_,rfl⟩
 rw[<-hO]at e ⊢;subst eca ecb;refine E3h.call rfl ?_;(conv in C5l=>cbv);refine A0a C ?_;simp -implicitDefEqProofs [cda,cdb];rw[show Row.cells 26 [.t (iv a.top),.t (iv a.index),.t tva,.t tra,.t tca]=Xa from hXa.symm,show Row.cells 26 [.t (iv b.top),.t (iv b.index),.t tvb,.t trb,.t tcb]=Xb from hXb.symm,show([(1,Xb),(0,Xa)]:Heap)=H0 from hH0.symm]
 cases O with
 | none=>
  have e:gMm a b [iv a.top,iv a.index,tva,tra,tca] [iv b.top,iv b.index,tvb,trb,tcb] [.ag [iv a.top,iv a.index,tva,tra,tca],.ag [iv b.top,iv b.index,tvb,trb,tcb]]=some (.tu [nilS,bv false]):=e;refine A0a C ?_;simp -implicitDefEqProofs [z0.all,z1.all,e];refine A0e C ?_;simp -implicitDefEqProofs
 | some r=>
  have e:gMm a b [iv a.top,iv a.index,tva,tra,tca] [iv b.top,iv b.index,tvb,trb,tcb] [.ag [iv a.top,iv a.index,tva,tra,tca],.ag [iv b.top,iv b.index,tvb,trb,tcb]]=some (.tu [slT eInt (natL r),bv true]):=e
  obtain⟨tr,htr⟩:∃t,t=slT eInt (natL r):=⟨_,rfl⟩
  rw[<-htr]at e;refine A0a C ?_;simp -implicitDefEqProofs [z0.all,z1.all,e];refine A0e C ?_;simp -implicitDefEqProofs
end
def eVr:Enc Vr:=⟨2,fun v=>[sv v.sort,sv v.digits],fun _=>rfl,by omega,fun a b h=>by
 obtain⟨_,_⟩:=a;obtain⟨_,_⟩:=b;injection h with h1 h;injection h with h2 _;injection h1 with h1;injection h1 with h1;injection h2 with h2;injection h2 with h2;simp only at h1 h2
 subst h1;subst h2;rfl⟩
abbrev tyRd:Nat:=78
abbrev tyVr:Nat:=126
def A7v (s:ByteArray) (i:Nat) (e:Int) (v:PV):Row:=.cells tyRd [.t (sv s),.t (iv (i:Int)),.t (iv e),v]
structure RdS (s:ByteArray) (k0 kv i:Nat) (r:Rs) (H:Heap) (nx:Nat):Prop where
 o:Abs.look H k0=some (A7v s i r.e (rowP eVr kv r.seen))
 v:A0z eVr tyVr H kv r.seen
 rest:r.rest=(wb s).drop i
 hi:i<=s.size
 l0:k0<nx
 lv:kv<nx
 ne:kv≠k0
structure RdP (s:ByteArray) (k0 kv:Nat) (r':Rs) (H:Heap) (nx:Nat) (f:Fin):Prop where
 ex:∃kv' i',RdS s k0 kv' i' r' f.H f.nx/\(kv'=kv\/nx<=kv')
 k:∀c,c<nx->c≠k0->c≠kv->Abs.look f.H c=Abs.look H c
 n:nx<=f.nx
 fr:Frs H nx->Frs f.H f.nx
structure LdR (s:ByteArray) (i:Nat) (e:Int) (v:PV) (H:Heap) (k:Nat):Prop where
 l0:A0t false 1 H (.ptr k 0)=some (.t (sv s))
 l1:A0t false 1 H (.ptr k 1)=some (.t (iv (i:Int)))
 l2:A0t false 1 H (.ptr k 2)=some (.t (iv e))
 l3:A0t false 1 H (.ptr k 3)=some v
section
variable {s : ByteArray} {k0 kv i : Nat} {r : Rs} {H : Heap} {nx : Nat}
theorem ldR {e:Int} {v:PV} (h:Abs.look H k0=some (A7v s i e v)):LdR s i e v H k0:=by
 have l:∀j,A0t false 1 H (.ptr k0 j)=([.t (sv s),.t (iv (i:Int)),.t (iv e),v]:List PV)[j]?:=fun j=>by
  simp only[A0t,h,A7v,Bool.false_eq_true,if_false]
 exact⟨l 0,l 1,l 2,l 3⟩
theorem stR1 {e:Int} {v:PV} (h:Abs.look H k0=some (A7v s i e v)) (j:Nat):A0x 1 H (.ptr k0 1) (.t (iv (j:Int)))=some (Abs.upd H k0 (A7v s j e v)):=
 A1z (ns:=[.t (iv (j:Int))]) h rfl rfl (by show 1+1<=4;omega)
theorem stR2 {e:Int} {v:PV} (h:Abs.look H k0=some (A7v s i e v)) (e':Int):A0x 1 H (.ptr k0 2) (.t (iv e'))=some (Abs.upd H k0 (A7v s i e' v)):=
 A1z (ns:=[.t (iv e')]) h rfl rfl (by show 2+1<=4;omega)
theorem RdS.step (h:RdS s k0 kv i r H nx) {j:Nat} {e':Int} (hj:j<=s.size):RdS s k0 kv j ⟨(wb s).drop j,e',r.seen⟩ (Abs.upd H k0 (A7v s j e' (rowP eVr kv r.seen))) nx:=
 ⟨by rw[A0f,if_pos rfl,h.o];rfl,h.v.imp id fun e=>by rw[A0f,if_neg h.ne];exact e,rfl,hj,h.l0,h.lv,h.ne⟩
theorem A2y (s:ByteArray):(wb s).length=s.size:=Array.length_toList
theorem RdS.nil (h:RdS s k0 kv i r H nx):r.rest=[] ↔ s.size<=i:=by
 rw[h.rest,List.drop_eq_nil_iff,A2y]
theorem ixS {c:UInt8} (h:(wb s)[i]?=some c):B8c (.t (sv s)) (.t (iv (i:Int)))=some (u8c c):=by
 have h1:(s[((i:Int)).toNat]?)=some c:=by
  rw[Int.toNat_natCast]
  have hl:i<s.size:=by rw[<-A2y];exact(List.getElem?_eq_some_iff.1 h).1
  rw[getElem?_pos s i hl]
  have h2:(wb s)[i]?=some s.data[i]:=by simp[wb]
  rw[h2]at h;exact h
 show(if 0<=(i:Int)then(s[((i:Int)).toNat]?).map _ else none)=_;rw[if_pos (by omega),h1];rfl
theorem A9m (h:RdS s k0 kv i r H nx):∃f:Fin,(f.r = .t (.tu [])/\f.nx=nx/\RdS s k0 kv i (A4c r) f.H nx/\(∀c,c≠k0->Abs.look f.H c=Abs.look H c)/\(Frs H nx->Frs f.H nx))/\A3n Tryz.prog (G q) 90 [.ptr k0 0] H nx f.r f.H f.nx:=by
 have L:=ldR h.o;refine B6x.callX rfl ?_;(conv in A9a=>cbv);by_cases he:r.e=0
 ·have e1:A4c r=⟨r.rest,eos r.rest,r.seen⟩:=by unfold A4c;rw[if_pos he]
  rw[e1]
  have hb:(r.e != 0)=false:=by rw[he];rfl
  have s1:=stR2 h.o 8;have S1:=h.step (j:=i) (e':=8) h.hi
  obtain⟨H1,hH1⟩:∃H1,H1=Abs.upd H k0 (A7v s i 8 (rowP eVr kv r.seen)):=⟨_,rfl⟩
  rw[<-hH1]at s1 S1;have L1:=ldR S1.o
  have k1:∀c,c≠k0->Abs.look H1 c=Abs.look H c:=fun c hc=>by rw[hH1,A0f,if_neg hc]
  have f1:Frs H nx->Frs H1 nx:=fun h=>by rw[hH1];exact h.upd
  refine A0b A0g ?_;simp -implicitDefEqProofs [L.l2,hb];refine A0b A0g ?_;simp -implicitDefEqProofs [s1];by_cases hn:s.size<=i
  ·have e2:eos r.rest=9:=by unfold eos;rw[if_pos (h.nil.2 hn)]
   rw[e2];have hd:decide ((s.size:Int)<=(i:Int))=true:=decide_eq_true (by omega);have s2:=stR2 S1.o 9;have S2:=S1.step (j:=i) (e':=9) h.hi;refine A0r A0g ?_;simp -implicitDefEqProofs [L1.l1,L1.l0,hd,hn,s2];refine B4n ⟨.t (.tu []),Abs.upd H1 k0 (A7v s i 9 (rowP eVr kv r.seen)),nx⟩ ⟨rfl,rfl,by rw[h.rest];exact S2,fun c hc=>by show Abs.look (Abs.upd H1 k0 _) c=_;rw[A0f,if_neg hc];exact k1 c hc,fun h=>(f1 h).upd⟩ (by simp -implicitDefEqProofs)
  ·have e2:eos r.rest=8:=by unfold eos;rw[if_neg (fun e=>hn (h.nil.1 e))]
   rw[e2];have hd:decide ((s.size:Int)<=(i:Int))=false:=decide_eq_false (by omega);refine A0r A0g ?_;simp -implicitDefEqProofs [L1.l1,L1.l0,hd,hn];exact B4n ⟨.t (.tu []),H1,nx⟩ ⟨rfl,rfl,by rw[h.rest];exact S1,k1,f1⟩ (by simp -implicitDefEqProofs)
 ·have e1:=E0b he
  have hb:(r.e != 0)=true:=by rw[bne_iff_ne];exact he
  rw[e1];refine A0b A0g ?_;simp -implicitDefEqProofs [L.l2,hb];exact A1u ⟨.t (.tu []),H,nx⟩ ⟨rfl,rfl,h,fun _ _=>rfl,fun h=>h⟩ (by simp -implicitDefEqProofs)
theorem F0c (h:RdS s k0 kv i r H nx) (c:UInt8):A3n Tryz.prog (G q) 88 [.ptr k0 0,u8c c] H nx (.t (bv (A1x c r))) H nx:=by
 have L:=ldR h.o
 suffices ∃f:Fin,f=⟨.t (bv (A1x c r)),H,nx⟩/\A3n Tryz.prog (G q) 88 [.ptr k0 0,u8c c] H nx f.r f.H f.nx by
  obtain⟨f,rfl,hc⟩:=this;exact hc
 refine B2z.callX rfl ?_;(conv in A6x=>cbv);refine A0b A0g ?_;simp -implicitDefEqProofs;by_cases he:r.e=0
 ·have hb:(r.e==0)=true:=by rw[he];rfl
  by_cases hn:i<s.size
  ·have hd:decide ((i:Int)<(s.size:Int))=true:=decide_eq_true (by omega)
   obtain⟨x,hx⟩:∃x,(wb s)[i]?=some x:=⟨_,List.getElem?_eq_getElem (by rw[A2y];exact hn)⟩
   have ix:=ixS hx
   have e1:A1x c r=((x.toNat:Int)==(c.toNat:Int)):=by
    unfold A1x;rw[h.rest,decide_eq_true he,Bool.true_and,List.head?_drop,hx];by_cases hxc:x=c
    ·subst hxc;simp
    ·rw[decide_eq_false (by simpa using hxc)];symm;rw[beq_eq_false_iff_ne];intro h2;exact hxc (UInt8.toNat_inj.1 (by omega))
   refine A0r A0g ?_;simp -implicitDefEqProofs [L.l2,hb,L.l1,L.l0,hd,hn,ix];exact A1u ⟨.t (bv (A1x c r)),H,nx⟩ rfl (by simp -implicitDefEqProofs [e1])
  ·have hd:decide ((i:Int)<(s.size:Int))=false:=decide_eq_false (by omega)
   have e1:A1x c r=false:=by
    unfold A1x;rw[h.nil.2 (by omega)];simp
   refine A0r A0g ?_;simp -implicitDefEqProofs [L.l2,hb,L.l1,L.l0,hd,hn];exact A1u ⟨.t (bv (A1x c r)),H,nx⟩ rfl (by simp -implicitDefEqProofs [e1])
 ·have hb:(r.e==0)=false:=by rw[beq_eq_false_iff_ne];exact he
  have e1:=E9f he c;refine A0r A0g ?_;simp -implicitDefEqProofs [L.l2,hb];exact A1u ⟨.t (bv (A1x c r)),H,nx⟩ rfl (by simp -implicitDefEqProofs [e1])
structure MuC where
 H:Heap
 i:Nat
 k:Nat
 r:Rs
def SMu (k0:Nat) (t:ByteArray) (nx:Nat) (c:MuC):A0c:=⟨[(4,.t (iv (c.k:Int))),(1,.t (sv t)),(0,.ptr k0 0)],c.H,nx,52⟩
theorem F0d (h:RdS s k0 kv i r H nx) {t:ByteArray} (ht:t.size<=1000) (hs:s.size<=1000000000):∃f:Fin,(f.r = .t (.tu [])/\f.nx=nx/\(∃i',RdS s k0 kv i' (A1f (wb t) r) f.H nx)/\(∀c,c≠k0->Abs.look f.H c=Abs.look H c)/\(Frs H nx->Frs f.H nx))/\A3n Tryz.prog (G q) 87 [.ptr k0 0,.t (sv t)] H nx f.r f.H f.nx:=by
 obtain⟨R,hR⟩:∃R,R=A1f (wb t) r:=⟨_,rfl⟩
 rw[<-hR];refine B6y.callX rfl ?_;(conv in A9b=>cbv);refine A0b A0g ?_;simp -implicitDefEqProofs;refine A1k ?_;refine A2w (SMu k0 t nx) (fun c=>t.size-c.k) (fun c=>RdS s k0 kv c.i c.r c.H nx/\R=A1f ((wb t).drop c.k) c.r/\(∀c',c'≠k0->Abs.look c.H c'=Abs.look H c')/\(Frs H nx->Frs c.H nx)/\c.k<=t.size) ⟨H,i,0,r⟩ (fun _=>rfl) ⟨h,hR,fun _ _=>rfl,fun h=>h,Nat.zero_le _⟩ ?_ rfl ?_
 ·exact A0d (by simp -implicitDefEqProofs [SMu])
 rintro⟨Ha,j,k,ra⟩ ⟨hS,hRk,hk,hf,hkl⟩;simp only at hS hRk hk hf hkl;have L:=ldR hS.o;by_cases hlt:k<t.size
 rotate_left
 ·have hd:decide ((k:Int)<(t.size:Int))=false:=decide_eq_false (by omega);rw[List.drop_of_length_le (by rw[A2y];omega),A1f]at hRk;subst hRk;refine A0b A0g ?_;simp -implicitDefEqProofs [SMu,hd,hlt];exact B4n ⟨.t (.tu []),Ha,nx⟩ ⟨rfl,rfl,⟨j,hS⟩,hk,hf⟩ (by simp -implicitDefEqProofs)
 have hd:decide ((k:Int)<(t.size:Int))=true:=decide_eq_true (by omega)
 obtain⟨c,hc⟩:∃c,(wb t)[k]?=some c:=⟨_,List.getElem?_eq_getElem (by rw[A2y];exact hlt)⟩
 have ixt:=ixS hc
 have ed:(wb t).drop k=c::(wb t).drop (k+1):=by
  rw[List.drop_eq_getElem_cons (by rw[A2y];exact hlt),(List.getElem?_eq_some_iff.1 hc).2]
 rw[ed]at hRk;by_cases he:ra.e=0
 rotate_left
 ·have hb:(ra.e==0)=false:=by rw[beq_eq_false_iff_ne];exact he
  rw[D2o he]at hRk;subst hRk;refine A0b A0g ?_;simp -implicitDefEqProofs [SMu,hd,hlt,L.l2,hb];exact B4n ⟨.t (.tu []),Ha,nx⟩ ⟨rfl,rfl,⟨j,hS⟩,hk,hf⟩ (by simp -implicitDefEqProofs)
 have hb:(ra.e==0)=true:=by rw[he];rfl
 rw[A1f,if_pos he]at hRk;refine A0b A0g ?_;simp -implicitDefEqProofs [SMu,hd,hlt,L.l2,hb];obtain⟨⟨fr,fH,fn⟩,⟨hr,hn,hfS,hfk,hff⟩,hfc⟩:=A9m (q:=q) hS;simp only at hr hn hfS hfk hff hfc;subst hr hn;obtain⟨tf,tf1,tf2⟩:=hAt hfc hff;have CC:Ctx Tryz.prog (G q) _:=A0s.nil.ctxH (A0v.cons tf2 .nil) mixed;have w1:IntKind.i64.wrap ((k:Int)+1)=((k+1:Nat):Int):=A0k (by omega) (by omega);have hji:=hS.hi;have w2:IntKind.i64.wrap ((j:Int)+1)=((j+1:Nat):Int):=A0k (by omega) (by omega);refine A3q (fun c:MuC=>⟨[(4,.t (iv (k:Int))),(1,.t (sv t)),(0,.ptr k0 0)],c.H,fn,52⟩) (fun c'=>RdS s k0 kv c'.i c'.r c'.H fn/\R=A1f ((wb t).drop (k+1)) c'.r/\(∀c'',c''≠k0->Abs.look c'.H c''=Abs.look H c'')/\(Frs H fn->Frs c'.H fn)) (fun _=>rfl) ?_ ?_
 ·refine A1k ?_;by_cases hnl:s.size<=j
  ·have hd2:decide ((s.size:Int)<=(j:Int))=true:=decide_eq_true (by omega);rw[hS.nil.2 hnl]at hRk;simp only at hRk;subst hRk;refine A0b CC ?_;simp -implicitDefEqProofs [L.l1,L.l0,hd2,hnl,tf1];exact A1u ⟨.t (.tu []),fH,fn⟩ ⟨rfl,rfl,⟨j,hfS⟩,fun c hc=>(hfk c hc).trans (hk c hc),fun h=>hff (hf h)⟩ (by simp -implicitDefEqProofs)
  ·have hd2:decide ((s.size:Int)<=(j:Int))=false:=decide_eq_false (by omega)
   obtain⟨x,hx⟩:∃x,(wb s)[j]?=some x:=⟨_,List.getElem?_eq_getElem (by rw[A2y];omega)⟩
   have ixs:=ixS hx
   have er:ra.rest=x::(wb s).drop (j+1):=by
    rw[hS.rest,List.drop_eq_getElem_cons (by rw[A2y];omega),(List.getElem?_eq_some_iff.1 hx).2]
   rw[er]at hRk;simp only at hRk;by_cases hxc:x=c
   ·subst hxc;rw[if_pos rfl]at hRk;have S2:=hS.step (j:=j+1) (e':=ra.e) (by omega);have s2:=stR1 hS.o (j+1)
    obtain⟨H2,hH2⟩:∃H2,H2=Abs.upd Ha k0 (A7v s (j+1) ra.e (rowP eVr kv ra.seen)):=⟨_,rfl⟩
    rw[<-hH2]at s2 S2;rw[show((j+1:Nat):Int)=(j:Int)+1 from rfl]at s2 w2;refine A0b CC ?_;simp -implicitDefEqProofs [L.l1,L.l0,hd2,hnl,ixs,ixt];refine A0r CC ?_;simp -implicitDefEqProofs [L.l1,w2,s2];exact Abs.Next.mk ⟨H2,j+1,0,⟨(wb s).drop (j+1),ra.e,ra.seen⟩⟩ ⟨S2,hRk,fun c hc=>by show Abs.look H2 c=_;rw[hH2,A0f,if_neg hc];exact hk c hc,fun h=>by show Frs H2 fn;rw[hH2];exact(hf h).upd⟩ (A0d (by simp -implicitDefEqProofs))
   ·rw[if_neg hxc]at hRk;subst hRk
    have hne:((x.toNat:Int)==(c.toNat:Int))=false:=by
     rw[beq_eq_false_iff_ne];intro h2;exact hxc (UInt8.toNat_inj.1 (by omega))
    have hne2:((x.toNat:Int) !=(c.toNat:Int))=true:=by rw[bne,hne];rfl
    refine A0b CC ?_;simp -implicitDefEqProofs [L.l1,L.l0,hd2,hnl,ixs,ixt,hne,hne2,tf1];exact A1u ⟨.t (.tu []),fH,fn⟩ ⟨rfl,rfl,⟨j,hfS⟩,fun c hc=>(hfk c hc).trans (hk c hc),fun h=>hff (hf h)⟩ (by simp -implicitDefEqProofs)
 ·rintro⟨Hz,jz,_,rz⟩ ⟨g1,g2,g3,g4⟩;simp only at g1 g2 g3 g4;refine A0r A0g ?_;simp -implicitDefEqProofs [w1];exact Abs.Next.mk ⟨Hz,jz,k+1,rz⟩ ⟨⟨g1,g2,g3,g4,hlt⟩,by show t.size-(k+1)<t.size-k;omega⟩ (A0d (by simp -implicitDefEqProofs [SMu]))
end
end Go.Proofs.YtmgjopafgboljaaGreatDoor
