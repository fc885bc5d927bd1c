/- Auxiliary facts. -/
import Derived.Test.YtmgjopafgboljaaGreatDoorVFQ18
import Derived.Lib.ItoaLen
set_option linter.unusedSimpArgs false
set_option maxRecDepth 100000
set_option maxHeartbeats 0
set_option linter.unusedVariables false
open Go.Proofs.Tryz renaming prog->Xc
open List renaming replicate->Xd,length_append->Xf,length_cons->Xg,length_map->Xh,getElem?_eq_getElem->Xj,length_nil->Xk,length_singleton->Xl,mem_cons->Xn,range->Xo,mem_of_getElem?->Xp,take_add_one->Xq,mem_map->Xs,take_length->Xt,getElem?_map->Xu,getElem?_eq_none->Xv,length_take->Xz,drop_eq_getElem_cons->X0,take_of_length_le->X4,replicate_succ->X5,mem_cons_of_mem->X7,getElem?_eq_some_iff->X8,flatMap_cons->Ya,ext_getElem?->Yc,getElem?_replicate->Yd,length_replicate->Yf,map_map->Yg,drop_of_length_le->Yh,nil_append->Yj,not_mem_nil->Yk,map_congr_left->Yl,map_append->Ym,getElem?_range->Yo,length_set->Yp,drop_length->Yq,mem_singleton->Yr,getD_eq_getElem?_getD->Yu,length_zip->Yv,take_append_of_le_length->Yy,append_assoc->Yz,getElem_range->Y0,append_nil->Y2,length_eq_one_iff->Y6,getElem?_set->Zc,length_flatMap->Zd,mem_append->Ze,nodup_cons->Zf,drop_zero->Zj,mergeSort_perm->Zm
open Go.Abs renaming upd->Xe
open Go.IntKind renaming i64->Xi,u64->Xr,wrap->Y8,bits->Y9,signed->Za
open Nat renaming zero_le->Xm,lt_succ_self->Xw,le_succ->Xx,le_trans->Xy,le_refl->X1,min->X2,mul_le_mul_right->X9,mul_one->Yi,lt_of_lt_of_le->Ys,lt_succ_of_lt->Yt,min_eq_left->Yx,div_lt_iff_lt_mul->Y3,mod_eq_of_lt->Y7,min_le_left->Zh,min_le_right->Zl
open Int renaming toNat_natCast->X3
open BitVec renaming ofNat->X6,toNat_ofNat->Yn,ofInt->Zk
open Bool renaming false_eq_true->Yb,false_or->Yw,false_and->Zb
open Option renaming map_some->Y5,getD_some->Zi
open UInt8 renaming toNat_inj->Zn
namespace Go.Proofs.YtmgjopafgboljaaGreatDoor
open Go Go.Abs
variable {q : Gl}
noncomputable def Ow:List T->Option T
 | [.v (.int .i64 n)]=>open Classical in if -9223372036854775808<=n/\n<=9223372036854775807 then some (sv (bs (Lib.itoa n)))else none
 | _=>none
theorem tN:GOK Xc (G q) 53 Ow:=λargs r hr=>by
 unfold Ow at hr;split at hr
 .split at hr
  .rename_i h;injection hr with hr;subst hr;exact nT _ h
  .cases hr
 .cases hr
theorem tO {n:Int} (h:-9223372036854775808<=n/\n<=9223372036854775807):Ow [iv n]=some (sv (ob (Lib.itoa n))):=by
 show(if _ then _ else _)=_;rw[zu h]
theorem Ox {a b c:ByteArray} (h:wb a++wb b=wb c) (hl:(wb c).length<=1000000000000) (Φ:AP) (H:Ak) (nx:Nat):A0 Φ H nx (.bin false .add none) [.t (.v (.string a)),.t (.v (.string b))]=some (.t (.v (.string c)),H,nx):=by
 have e:a++b=c:=by
  apply ByteArray.ext;apply Array.ext';rw[ByteArray.data_append,Array.toList_append];exact h
 have ha:a.size=(wb a).length:=rfl;have hb:b.size=(wb b).length:=rfl;have hc:=congrArg List.length h;rw[Xf]at hc;rw[jE _ _ _ _ (by omega),e]
theorem C8 (A B:List UInt8) {b:ByteArray} (hb:b=ob B) (hl:A.length+B.length<=1000000000000):∃S,S=A++B/\S.length=A.length+B.length /\
  ∀(Φ:AP) (H:Ak) (nx:Nat),A0 Φ H nx (.bin false .add none) [.t (.v (.string (ob A))),.t (.v (.string b))]=some (.t (.v (.string (ob S))),H,nx):=by
 subst hb;exact⟨A++B,rfl,Xf,Ox (by rw[Co,Co,Co]) (by rw[Co,Xf];omega)⟩
theorem Ma {sep:List UInt8} {k:Nat}:∀{l:List (List UInt8)},(∀x∈l,x.length<=k)->(Cb sep l).length<=l.length*(k+sep.length)
 | [],_=>by simp[Cb]
 | [x],h=>by
  have:=h x (by simp);simp only[Cb,Xl];omega
 | x::y::r,h=>by
  have h1:=h x (by simp);have h2:=Ma (sep:=sep) (l:=y::r) (λz hz=>h z (by simp[hz]));rw[QL,Xf,Xf,Xg (a:=x),Nat.succ_mul];omega
theorem tP (sep:List UInt8) (l:List (List UInt8)):Lib.join l sep=Cb sep l:=by
 cases l with
 | nil=>rfl
 | cons x r=>
  rw[Lib.join_cons]
  induction r generalizing x with
  | nil=>simp[Lib.joinTail,Cb]
  | cons y r ih=>
   rw[QL,<-ih y];simp[Lib.joinTail]
theorem Oy {t:T} {l:List ByteArray} (h:IsS Ar t l) (sep:ByteArray) (hl:l.length<=1000) (hd:(Cb (wb sep) (l.map wb)).length<=1000000000):gJo [t,sv sep]=some (sv (ob (Cb (wb sep) (l.map wb)))):=by
 have e:Lib.join (l.map (·.data.toList)) sep.data.toList=Cb (wb sep) (l.map wb):=tP _ _;show g2 _ _ _ _=_;rw[Hn (τ:=tSl Ar) (σ:=CX) (x:=l) (y:=sep) h rfl,e,zu ⟨hl,hd⟩]
theorem Oz {H:Ak} {b:Nat} {l:List ByteArray} (h:AK Ar tyS H b l) (s:ByteArray):Bn H [Ax Ar b l,.t (.v (.string s))]=some ([Ba Ar l,sv s],FU b l++([]++[])):=by
 rw[Bn,h.toT];rfl
theorem tQ {m:Mr} (h:E8 AN m) {v:Int} (hv:inR m.vars.length v):(wM m v).length<=22:=by
 have h1:=hv.1;have h2:=hv.2;have h3:=h.vars;unfold wM;rw[Xf];have h4:=Lib.itoa_length_le v (by omega) (by omega)
 obtain⟨k,rfl⟩:∃k:Nat,v=(k:Int):=⟨v.toNat,by omega⟩
 have hm:=Xp (GE (l:=m.vars) (k:=k) (by omega));obtain⟨c,hc,_⟩:=QR (h.sorts _ hm);rw[hc];show 1+_<=22;omega
theorem O0 {big:Bool} {s:ByteArray} (h:AN big s=true):(wb s).length<=32:=by
 unfold AN at h;split at h
 .cases h
 .simp only[Bool.and_eq_true,decide_eq_true_eq]at h;exact h.1.1.1
theorem tR:AQ Xc (G q) 52 2 12 PR [(.tmp 3)]:=by
 obtain⟨fn,h1,h2,h3,h4,h5⟩:=oH (q:=q);exact⟨fn,h1,h2,h3,h4,by omega⟩
noncomputable def hNm (m:Mr) (X:Row) (ps:List PV) (H:Ak) (nx:Nat):Option (PV×Ak×Nat):=
 match ps with
 | [.t (.v (.int .i64 v)),.ptr 0 0]=>open Classical in if Aj H 0=some X/\inR m.vars.length v then some (.t (sv (ob (wM m v))),H,nx)else none
 | _=>none
theorem K0 {m:Mr} {X:Row} {H:Ak} {v:Int} (h:Aj H 0=some X) (hv:inR m.vars.length v) (nx:Nat):hNm m X [.t (.v (.int .i64 v)),.ptr 0 0] H nx=some (.t (sv (ob (wM m v))),H,nx):=by
 unfold hNm;exact zu ⟨h,hv⟩
theorem tU {m:Mr} {tv tr tc:T} {X:Row} (hX:X=Br [iv m.top,iv m.index,tv,tr,tc]) (hv:IsS Ar tv m.vars) (hs:m.vars.length<=100000) (hl:∀v,inR m.vars.length v->(wM m v).length<=1000000000):HOK Xc (G q) 52 (hNm m X) where
 call:=λps H nx r H' nx' hr=>by
  unfold hNm at hr;split at hr
  .rename_i v;split at hr
   .rename_i h;injection hr with hr;injection hr with h1 h2;injection h2 with h2 h3;subst h1;subst h2;subst h3;obtain⟨h0,hin⟩:=h;have zx:=ldM (H:=H) (k:=0) (by rw[h0,hX]);have hw:=hl v hin
    obtain⟨k,rfl⟩:∃k:Nat,v=(k:Int):=⟨v.toNat,by have:=hin.1;omega⟩
    have hkl:k<m.vars.length:=by have:=hin.2;omega
    have i1:=hv.iaddr (GE hkl) .i64;have hz:Ar.z=1:=rfl;rw[hz,show Ar.enc (vS m.vars (k:Int))=[sv (vS m.vars (k:Int))]from rfl]at i1;have eD:Ow [iv (k:Int)]=_:=tO (n:=(k:Int)) (by omega);have sa:=Ox (a:=vS m.vars (k:Int)) (b:=ob (Lib.itoa (k:Int))) (c:=ob (wM m (k:Int))) (by rw[Co,Co];rfl) (by rw[Co];omega);have C:Ctx Xc (G q) _:=(AB.cons (tN (q:=q)) .nil).ctx mixed;refine tR.callP rfl ?_;(conv in PR=>cbv);refine Ao C ?_;simp -implicitDefEqProofs;refine A8 C ?_;simp -implicitDefEqProofs [zx.l2,i1,lp,eD,sa];exact Ob (by simp -implicitDefEqProofs)
   .cases hr
  .cases hr
 fresh:=λps H nx r H' nx' hr hf=>by
  unfold hNm at hr;split at hr
  .split at hr
   .injection hr with hr;injection hr with h1 h2;injection h2 with h2 h3;subst h2;subst h3;exact hf
   .cases hr
  .cases hr
def CR (m:Mr) (i:Nat):List ByteArray:=(m.rels.take i).map λx=>ob (Dc (wM m) x)
def ER (m:Mr) (i:Nat):List ByteArray:=(m.cons.take i).map λc=>ob (Eh (wM m) c)
def ES (m:Mr) (x:Ep) (j:Nat):List ByteArray:=(x.args.take j).map λa=>ob (Dw (wM m) a)
theorem tV {m:Mr} {i:Nat} {x:Ep} (h:m.rels[i]?=some x):CR m (i+1)=CR m i++[ob (Dc (wM m) x)]:=by
 unfold CR;rw[Xq,h];simp
theorem tW {m:Mr} {i:Nat} {c:Qq} (h:m.cons[i]?=some c):ER m (i+1)=ER m i++[ob (Eh (wM m) c)]:=by
 unfold ER;rw[Xq,h];simp
theorem tX {m:Mr} {x:Ep} {j:Nat} {a:Ag} (h:x.args[j]?=some a):ES m x (j+1)=ES m x j++[ob (Dw (wM m) a)]:=by
 unfold ES;rw[Xq,h];simp
theorem YR (m:Mr) (x:Ep):(ES m x x.args.length).map wb=x.args.map (Dw (wM m)):=by
 unfold ES;rw[Xt,Yg];exact Yl λa _=>Co _
theorem YS (m:Mr):(CR m m.rels.length).map wb=m.rels.map (Dc (wM m)):=by
 unfold CR;rw[Xt,Yg];exact Yl λa _=>Co _
theorem YT (m:Mr):(ER m m.cons.length).map wb=m.cons.map (Eh (wM m)):=by
 unfold ER;rw[Xt,Yg];exact Yl λa _=>Co _
structure Szs (m:Mr):Prop where
 w:∀v,inR m.vars.length v->(wM m v).length<=22
 a:∀x∈m.rels,∀a∈x.args,(Dw (wM m) a).length<=60
 ags:∀x∈m.rels,(Cb [44,32] (x.args.map (Dw (wM m)))).length<=62000
 p:∀x∈m.rels,(wb x.pred).length<=32
 e:∀x∈m.rels,(Dc (wM m) x).length<=63000
 q:∀c∈m.cons,(Eh (wM m) c).length<=60
 es:(Cb [59,32] (m.rels.map (Dc (wM m)))).length<=1100000
 qs:(Cb [59,32] (m.cons.map (Eh (wM m)))).length<=1100
theorem szs {m:Mr} (h:E8 AN m) (hs:SmM m):Szs m:=by
 have w:∀v,inR m.vars.length v->(wM m v).length<=22:=λv hv=>tQ h hv;have nm:∀x∈m.rels,AN false x.pred=true/\∀a∈x.args,AN true a.role=true:=λx hx=>QQ (h.preds x hx)
 have a:∀x∈m.rels,∀a∈x.args,(Dw (wM m) a).length<=60:=λx hx a ha=>by
  have h1:=O0 ((nm x hx).2 a ha);have h2:=w a.var (h.ok.rel hx (by simp only[B7,Xn,Xs];exact .inr ⟨a,ha,rfl⟩));unfold Dw;rw[Xf,Xg];omega
 have ags:∀x∈m.rels,(Cb [44,32] (x.args.map (Dw (wM m)))).length<=62000:=λx hx=>by
  have h1:=Ma (sep:=[44,32]) (k:=60) (l:=x.args.map (Dw (wM m))) (λy hy=>by
   obtain⟨b,hb,rfl⟩:=Xs.1 hy
   exact a x hx b hb)
  have h2:=hs.args x hx;rw[Xh]at h1;simp only[Xg,Xk]at h1;have:x.args.length*(60+(0+1+1))<=1000*(60+(0+1+1)):=X9 _ h2;omega
 have p:∀x∈m.rels,(wb x.pred).length<=32:=λx hx=>O0 (nm x hx).1
 have e:∀x∈m.rels,(Dc (wM m) x).length<=63000:=λx hx=>by
  have h1:=w x.label (h.ok.rel hx (by simp[B7]));have h2:=p x hx;have h3:=ags x hx;unfold Dc;simp only[Xf,Xg,Xk];omega
 have qq:∀c∈m.cons,(Eh (wM m) c).length<=60:=λc hc=>by
  have h1:=w c.high (h.ok.con hc (by simp[BE]));have h2:=w c.low (h.ok.con hc (by simp[BE]));unfold Eh;simp only[Xf,Xg,Xk];omega
 have hr:=h.rels;have hc:=h.cons;refine⟨w,a,ags,p,e,qq,?_,?_⟩
 .have h1:=Ma (sep:=[59,32]) (k:=63000) (l:=m.rels.map (Dc (wM m))) (λy hy=>by
   obtain⟨b,hb,rfl⟩:=Xs.1 hy
   exact e b hb)
  rw[Xh]at h1;simp only[Xg,Xk]at h1;have:m.rels.length*(63000+(0+1+1))<=16*(63000+(0+1+1)):=X9 _ hr;omega
 .have h1:=Ma (sep:=[59,32]) (k:=60) (l:=m.cons.map (Eh (wM m))) (λy hy=>by
   obtain⟨b,hb,rfl⟩:=Xs.1 hy
   exact qq b hb)
  rw[Xh]at h1;simp only[Xg,Xk]at h1;have:m.cons.length*(60+(0+1+1))<=16*(60+(0+1+1)):=X9 _ hc;omega
structure PrS (X:Row) (A R C:List ByteArray) (H:Ak) (nx ba br bc:Nat):Prop where
 x:Aj H 0=some X
 ra:AK Ar tyS H ba A
 rr:AK Ar tyS H br R
 rc:AK Ar tyS H bc C
 a0:0<ba
 al:ba<nx
 r0:0<br
 rl:br<nx
 c0:0<bc
 cl:bc<nx
 ar:ba≠br
 ac:ba≠bc
 rc':br≠bc
section
variable {X : Row} {A R C : List ByteArray} {H H' : Ak} {nx nx' ba br bc : Nat}
theorem PrS.more (h:PrS X A R C H nx ba br bc) (hn:nx<=nx') (hk:∀c,c<nx->Aj H' c=Aj H c):PrS X A R C H' nx' ba br bc:=by
 have h1:=h.al;have h2:=h.rl;have h3:=h.cl;have h4:=h.a0
 exact⟨by rw[hk 0 (by omega)];exact h.x,h.ra.imp id λe=>by rw[hk ba h1];exact e,h.rr.imp id λe=>by rw[hk br h2];exact e,h.rc.imp id λe=>by rw[hk bc h3];exact e,
  h.a0,by omega,h.r0,by omega,h.c0,by omega,h.ar,h.ac,h.rc'⟩
theorem PrS.setA {A':List ByteArray} (h:PrS X A R C H nx ba br bc) (hk:∀c,c<nx->c≠ba->Aj H' c=Aj H c) (hr:AK Ar tyS H' nx A'):PrS X A' R C H' (nx+1) nx br bc:=by
 have h1:=h.al;have h2:=h.rl;have h3:=h.cl;have h4:=h.a0
 exact⟨by rw[hk 0 (by omega) (by omega)];exact h.x,hr,h.rr.imp id λe=>by rw[hk br h2 h.ar.symm];exact e,h.rc.imp id λe=>by rw[hk bc h3 h.ac.symm];exact e,
  by omega,by omega,h.r0,by omega,h.c0,by omega,by omega,by omega,h.rc'⟩
theorem PrS.setR {R':List ByteArray} (h:PrS X A R C H nx ba br bc) (hk:∀c,c<nx->c≠br->Aj H' c=Aj H c) (hr:AK Ar tyS H' nx R'):PrS X A R' C H' (nx+1) ba nx bc:=by
 have h1:=h.al;have h2:=h.rl;have h3:=h.cl;have h4:=h.a0;have h5:=h.r0
 exact⟨by rw[hk 0 (by omega) (by omega)];exact h.x,h.ra.imp id λe=>by rw[hk ba h1 h.ar];exact e,hr,h.rc.imp id λe=>by rw[hk bc h3 h.rc'.symm];exact e,
  h.a0,by omega,by omega,by omega,h.c0,by omega,by omega,h.ac,by omega⟩
theorem PrS.setC {C':List ByteArray} (h:PrS X A R C H nx ba br bc) (hk:∀c,c<nx->c≠bc->Aj H' c=Aj H c) (hr:AK Ar tyS H' nx C'):PrS X A R C' H' (nx+1) ba br nx:=by
 have h1:=h.al;have h2:=h.rl;have h3:=h.cl;have h4:=h.a0;have h5:=h.c0
 exact⟨by rw[hk 0 (by omega) (by omega)];exact h.x,h.ra.imp id λe=>by rw[hk ba h1 h.ac];exact e,h.rr.imp id λe=>by rw[hk br h2 h.rc'];exact e,hr,
  h.a0,by omega,h.r0,by omega,by omega,by omega,h.ar,by omega,by omega⟩
theorem PrS.noA (h:PrS X A R C H nx ba br bc):PrS X [] R C H nx ba br bc:=⟨h.x,.inl rfl,h.rr,h.rc,h.a0,h.al,h.r0,h.rl,h.c0,h.cl,h.ar,h.ac,h.rc'⟩
end
structure PrV where
 H:Ak
 nx:Nat
 ba:Nat
 br:Nat
 bc:Nat
 i:Nat
abbrev fnP:PV:=.fn (.func 52) [] [.ptr 0 0]
theorem mkP (f:Fn):exM (.mkf f 0) [.ptr 0 0]=some (.fn f [] [.ptr 0 0]):=rfl
def SPw (m:Mr) (tr:T) (n:Nat) (a:PrV):Am:=⟨[(17,.t (iv (a.i:Int))),(16,.t (iv (n:Int))),(15,.t tr),(5,.t Au),(4,Ax Ar a.br (CR m a.i)),(3,fnP),(1,.ptr 0 0)],a.H,a.nx,97⟩
def SPq (m:Mr) (tc:T) (n:Nat) (a:PrV):Am:=⟨[(60,.t (iv (a.i:Int))),(59,.t (iv (n:Int))),(58,.t tc),(5,Ax Ar a.bc (ER m a.i)),(4,Ax Ar a.br (CR m m.rels.length)),(3,fnP),(1,.ptr 0 0)],a.H,a.nx,97⟩
def SPa (m:Mr) (x:Ep) (tr ta:T) (n k i kx:Nat) (a:PrV):Am:=⟨[(24,.t (iv (a.i:Int))),(23,.t (iv (k:Int))),(22,.t ta),(8,Ax Ar a.ba (ES m x a.i)),(7,.ptr kx 0),(17,.t (iv (i:Int))),(16,.t (iv (n:Int))),(15,.t tr),(5,.t Au),(4,Ax Ar a.br (CR m i)),(3,fnP),(1,.ptr 0 0)],a.H,a.nx,97⟩
theorem Mg (x:ByteArray):EZ tyS 1 [.string ⟨#[]⟩] 1 [(0,.t (.v (.string x)))]=some (.t (.sl 1 [sv x])):=rfl
theorem tY {m:Mr} {cs:List T} (hm:BJ m cs) (hs:SmM m) (hL:E8 AN m):Bc Xc (G q) 26 [.ag cs] (· = sv (ob (QM m))):=by
 have Z:=szs hL hs;have ho:=hL.ok;obtain⟨tv,tr,tc,rl,rfl,hv,hr,hrm,hc⟩:=hm
 obtain⟨X,hX⟩:∃X,X=Br [iv m.top,iv m.index,tv,tr,tc]:=⟨_,rfl⟩
 have ld:∀{H:Ak},Aj H 0=some X->LdM (iv m.top) (iv m.index) tv tr tc H 0:=λh=>ldM (by rw[h,hX]);have lr:=hr.len;have lc:=hc.len
 have hrl:rl.length=m.rels.length:=by rw[<-hrm,Xh]
 have hsr:=hs.rels;have hsc:=hs.cons;have cd:=cd5 (iv m.top) (iv m.index) tv tr tc;have C:Ctx Xc (G q) _:=(AB.cons (hJo (q:=q)) .nil).ctxH (AG.cons (tU (q:=q) hX hv hs.vars λv h=>Xy (Z.w v h) (by omega)) .nil) mixed
 obtain⟨R,hR⟩:∃R,R=QM m:=⟨_,rfl⟩
 rw[<-hR];refine oG.call rfl ?_;(conv in UL=>cbv);refine Ao C ?_;simp -implicitDefEqProofs [cd];rw[show Row.cells 26 [.t (iv m.top),.t (iv m.index),.t tv,.t tr,.t tc]=X from hX.symm];refine Ao C ?_;simp -implicitDefEqProofs [mkP];refine Ao C ?_;simp -implicitDefEqProofs;refine MC.sub (EN (nx':=4) (by omega)) rfl ?_
 have N0:PrS X [] (CR m 0) [] [(0,X)] 4 1 2 3:=⟨rfl,.inl rfl,.inl rfl,.inl rfl,by omega,by omega,by omega,by omega,by omega,by omega,by omega,by omega,by omega⟩
 have z0:=ld N0.x;refine AZ (λa:PrV=>⟨[(5,.t Au),(4,Ax Ar a.br (CR m m.rels.length)),(3,fnP),(1,.ptr 0 0)],a.H,a.nx,97⟩) (λa=>PrS X [] (CR m m.rels.length) [] a.H a.nx a.ba a.br a.bc) (λ_=>rfl) ?_ ?_
 .refine Ao C ?_;simp -implicitDefEqProofs [z0.l3,lr];refine AY ?_;refine Bj (SPw m tr rl.length) (λa=>m.rels.length-a.i) (λa=>PrS X [] (CR m a.i) [] a.H a.nx a.ba a.br a.bc/\a.i<=m.rels.length) ⟨[(0,X)],4,1,2,3,0⟩ (λ_=>rfl) ⟨N0,Xm _⟩ ?_ rfl ?_
  .exact Aw (by simp -implicitDefEqProofs [SPw,CR,Ax])
  rintro⟨H,nx,ba,br,bc,i⟩ ⟨hN,hi⟩;simp only at hN hi;by_cases hlt:i<rl.length
  .obtain⟨c,hc1⟩:∃c,rl[i]?=some c:=⟨_,Xj (by omega)⟩
   have hx:m.rels[i]?=some c.x:=by rw[<-hrm,Xu,hc1];rfl
   have hxm:=Xp hx;obtain⟨ta,hcs,hta⟩:=c.ok;have la:=hta.len;have hal:=hs.args c.x hxm;have i1:=hr.iaddr hc1 .i64;have hz:eEC.z=3:=rfl;rw[hz,show eEC.enc c=c.cs from rfl,hcs]at i1
   obtain⟨x,hxe⟩:∃x,x=c.x:=⟨_,rfl⟩
   rw[<-hxe]at hx hxm hta la hal i1;have w1:Xi.wrap ((i:Int)+1)=((i+1:Nat):Int):=Bb (by omega) (by omega);have s3:∀a b d,AO 3 ((nx,.cells tyE [a,b,d])::H) (.ptr nx 0) (.t (.ag [sv x.pred,iv x.label,ta]))=some ((nx,Ca x.pred x.label ta)::H):=λa b d=>st3 nx a b d (sv x.pred) (iv x.label) ta tyE H (cd3 _ _ _)
   obtain⟨H1,hH1⟩:∃H1,H1=(nx,Ca x.pred x.label ta)::H:=⟨_,rfl⟩
   rw[<-hH1]at s3
   have x1:Aj H1 nx=some (Ca x.pred x.label ta):=by rw[hH1,A9,zu rfl]
   have M1:PrS X [] (CR m i) [] H1 (nx+1) ba br bc:=hN.more (by omega) λc h=>by rw[hH1,A9,zw (by omega)]
   have ze1:=ldE x1;refine Ao C ?_;simp -implicitDefEqProofs [SPw,hlt];refine Ao C ?_;simp -implicitDefEqProofs;refine AZ (λa:PrV=>⟨[(17,.t (iv (i:Int))),(16,.t (iv (rl.length:Int))),(15,.t tr),(5,.t Au),(4,Ax Ar a.br (CR m (i+1))),(3,fnP),(1,.ptr 0 0)],a.H,a.nx,97⟩) (λa=>PrS X [] (CR m (i+1)) [] a.H a.nx a.ba a.br a.bc) (λ_=>rfl) ?_ ?_
   .refine AY ?_;refine Ao C ?_;simp -implicitDefEqProofs [i1,Fz,s3];refine Ao C ?_;simp -implicitDefEqProofs
    refine AZ (λa:PrV=>⟨[(8,Ax Ar a.ba (ES m x x.args.length)),(7,.ptr nx 0),(17,.t (iv (i:Int))),(16,.t (iv (rl.length:Int))),(15,.t tr),(5,.t Au),(4,Ax Ar a.br (CR m i)),(3,fnP),(1,.ptr 0 0)],a.H,a.nx,97⟩)
     (λa=>PrS X (ES m x x.args.length) (CR m i) [] a.H a.nx a.ba a.br a.bc/\Aj a.H nx=some (Ca x.pred x.label ta)) (λ_=>rfl) ?_ ?_
    .refine Ao C ?_;simp -implicitDefEqProofs [ze1.l2,la];refine AY ?_
     refine Bj (SPa m x tr ta rl.length x.args.length i nx) (λa=>x.args.length-a.i) (λa=>PrS X (ES m x a.i) (CR m i) [] a.H a.nx a.ba a.br a.bc/\Aj a.H nx=some (Ca x.pred x.label ta)/\nx<a.nx/\a.ba≠nx/\a.i<=x.args.length)
      ⟨H1,nx+1,ba,br,bc,0⟩ (λ_=>rfl) ⟨M1,x1,by show nx<nx+1;omega,by have:=hN.al;show ba≠nx;omega,Xm _⟩ ?_ rfl ?_
     .exact Aw (by simp -implicitDefEqProofs [SPa,ES,Ax])
     rintro⟨Ha,na,aa,ra,ca,j⟩ ⟨hY,hk,hkn,hba,hj⟩;simp only at hY hk hkn hba hj;by_cases hjl:j<x.args.length
     .obtain⟨g,hg⟩:∃g,x.args[j]?=some g:=⟨_,Xj hjl⟩
      have hgm:=Xp hg;have i2:=hta.iaddr hg .i64;have hz2:eAg.z=2:=rfl;rw[hz2,show eAg.enc g=[sv g.role,iv g.var]from rfl]at i2;have w2:Xi.wrap ((j:Int)+1)=((j+1:Nat):Int):=Bb (by omega) (by omega);have t1:∀a b,AO 2 ((na,.cells tyA [a,b])::Ha) (.ptr na 0) (.t (.ag [sv g.role,iv g.var]))=some ((na,.cells tyA [.t (sv g.role),.t (iv g.var)])::Ha):=λa b=>st2 na a b _ _ tyA Ha
      obtain⟨Hb,hHb⟩:∃Hb,Hb=(na,Row.cells tyA [.t (sv g.role),.t (iv g.var)])::Ha:=⟨_,rfl⟩
      rw[<-hHb]at t1
      have kb:∀c,c<na->Aj Hb c=Aj Ha c:=λc h=>by rw[hHb,A9,zw (by omega)]
      have lb:=Eg (H:=Hb) (b:=na) (ty:=tyA) (p0:=.t (sv g.role)) (p1:=.t (iv g.var)) (by rw[hHb,A9,zu rfl]);have Mb:=hY.more (nx':=na+1) (by omega) kb;have gin:=ho.rel hxm (v:=g.var) (by simp only[B7,Xn,Xs];exact .inr ⟨g,hgm,rfl⟩);have eN:=λnx'=>K0 (nx:=nx') Mb.x gin;have hsz:=Z.a x hxm g hgm;have hsz0:=hsz;unfold Dw at hsz;rw[Xf,Xg]at hsz;have p1:=Ox (a:=g.role) (b:=⟨#[32]⟩) (c:=ob (wb g.role++[32])) (by simp only[Co,Yz];try rfl) (by rw[Co,Xf,Xl];omega);have p2:=Ox (a:=ob (wb g.role++[32])) (b:=ob (wM m g.var)) (c:=ob (Dw (wM m) g)) (by simp only[Co,Dw,Yz];try rfl) (by rw[Co];omega)
      have gl:(ES m x j).length<=1000:=by unfold ES;rw[Xh,Xz];omega
      obtain⟨Hd,ad,bd,cdd,fd⟩:=EM (by':=16) (nx:=na+1) (ob (Dw (wM m) g)) 1 rfl [sv (ob (Dw (wM m) g))] rfl Mb.ra Mb.al (by omega) (by omega);have Md:=Mb.setA cdd bd;have eA:=tX (m:=m) hg;rw[<-eA]at Md ad;refine A8 C ?_;simp -implicitDefEqProofs [SPa,hjl,i2,D2,t1,lb.1,lb.2,eN,p1,p2,Mg,ad,w2];refine A4.mk ⟨Hd,na+1+1,na+1,ra,ca,j+1⟩ ⟨⟨Md,?_,by show nx<na+1+1;omega,by show na+1≠nx;omega,hjl⟩,by show x.args.length-(j+1)<x.args.length-j;omega⟩ (Aw (by simp -implicitDefEqProofs [SPa]));show Aj Hd nx=_;rw[cdd nx (by omega) hba.symm,kb nx hkn];exact hk
     .have ej:j=x.args.length:=by omega
      subst ej;refine A8 C ?_;simp -implicitDefEqProofs [SPa,hjl];exact A4.mk ⟨Ha,na,aa,ra,ca,0⟩ ⟨hY,hk⟩ (Aw (by simp -implicitDefEqProofs))
    .rintro⟨Ha,na,aa,ra,ca,_⟩ ⟨hY,hk⟩;simp only at hY hk;have ze:=ldE hk;have gin:=ho.rel hxm (v:=x.label) (by simp[B7]);have eN:=λnx'=>K0 (nx:=nx') hY.x gin;have hp:=Z.p x hxm;have hw:=Z.w x.label gin;have has:=Z.ags x hxm;have he:=Z.e x hxm;have eT:=Oz hY.ra ⟨#[44,32]⟩;have eJ:=Oy (t:=Ba Ar (ES m x x.args.length)) (Of Ar _) ⟨#[44,32]⟩ (by unfold ES;rw[Xh,Xz];omega) (by rw[YR];exact Xy has (by omega));rw[YR,show wb (⟨#[44,32]⟩:ByteArray)=[44,32]from rfl]at eJ
     obtain⟨J,hJ⟩:∃J,J=Cb [44,32] (x.args.map (Dw (wM m))):=⟨_,rfl⟩
     rw[<-hJ]at eJ has
     have hE:Dc (wM m) x=wM m x.label++58::(wb x.pred++40::(J++[41])):=by rw[hJ];rfl
     obtain⟨S1,q1,l1,p1⟩:=C8 (wM m x.label) [58] (b:=⟨#[58]⟩) rfl (by simp only[Xl];omega);obtain⟨S2,q2,l2,p2⟩:=C8 S1 (wb x.pred) (b:=x.pred) rfl (by simp only[Xl]at l1;omega);obtain⟨S3,q3,l3,p3⟩:=C8 S2 [40] (b:=⟨#[40]⟩) rfl (by simp only[Xl]at l1 ⊢;omega);obtain⟨S4,q4,l4,p4⟩:=C8 S3 J (b:=ob J) rfl (by simp only[Xl]at l1 l3;omega);obtain⟨S5,q5,l5,p5⟩:=C8 S4 [41] (b:=⟨#[41]⟩) rfl (by simp only[Xl]at l1 l3 ⊢;omega)
     have e5:S5=Dc (wM m) x:=by rw[hE,q5,q4,q3,q2,q1];simp
     rw[e5]at p5
     have rlen:(CR m i).length<=1000:=by unfold CR;rw[Xh,Xz];omega
     obtain⟨Hd,ad,bd,cdd,fd⟩:=EM (by':=16) (nx:=na) (ob (Dc (wM m) x)) 1 rfl [sv (ob (Dc (wM m) x))] rfl hY.rr hY.rl (by omega) (by omega);have Md:=(hY.setR cdd bd).noA;have eR:=tV (m:=m) hx;rw[<-eR]at Md ad;refine A8 C ?_;simp -implicitDefEqProofs [ze.l0,ze.l1,eN,eT,eJ,p1,p2,p3,p4,p5,Mg,ad,-Bn];exact A4.mk ⟨Hd,na+1,aa,na,ca,0⟩ Md (Aw (by simp -implicitDefEqProofs))
   .rintro⟨Ha,na,aa,ra,ca,_⟩ hN';refine A8 C ?_;simp -implicitDefEqProofs [w1];exact A4.mk ⟨Ha,na,aa,ra,ca,i+1⟩ ⟨⟨hN',by show i+1<=_;omega⟩,by show m.rels.length-(i+1)<m.rels.length-i;omega⟩ (Aw (by simp -implicitDefEqProofs [SPw]))
  .have ei:i=m.rels.length:=by omega
   refine A8 C ?_;simp -implicitDefEqProofs [SPw,hlt];refine A4.mk ⟨H,nx,ba,br,bc,i⟩ ?_ (Aw (by simp -implicitDefEqProofs [ei]));rw[<-ei];exact hN
 clear N0 z0;rintro⟨H,nx,ba,br,bc,_⟩ hN;simp only at hN;have z:=ld hN.x;refine AZ (λa:PrV=>⟨[(5,Ax Ar a.bc (ER m m.cons.length)),(4,Ax Ar a.br (CR m m.rels.length)),(3,fnP),(1,.ptr 0 0)],a.H,a.nx,97⟩) (λa=>PrS X [] (CR m m.rels.length) (ER m m.cons.length) a.H a.nx a.ba a.br a.bc) (λ_=>rfl) ?_ ?_
 .refine Ao C ?_;simp -implicitDefEqProofs [z.l4,lc];refine AY ?_;refine Bj (SPq m tc m.cons.length) (λa=>m.cons.length-a.i) (λa=>PrS X [] (CR m m.rels.length) (ER m a.i) a.H a.nx a.ba a.br a.bc/\a.i<=m.cons.length) ⟨H,nx,ba,br,bc,0⟩ (λ_=>rfl) ⟨hN,Xm _⟩ ?_ rfl ?_
  .exact Aw (by simp -implicitDefEqProofs [SPq,ER,Ax])
  clear hN z;rintro⟨H,nx,ba,br,bc,i⟩ ⟨hN,hi⟩;simp only at hN hi;by_cases hlt:i<m.cons.length
  .obtain⟨c,hc1⟩:∃c,m.cons[i]?=some c:=⟨_,Xj (by omega)⟩
   have hcm:=Xp hc1;have i1:=hc.iaddr hc1 .i64;have hz:eQq.z=2:=rfl;rw[hz,show eQq.enc c=[iv c.high,iv c.low]from rfl]at i1;have w1:Xi.wrap ((i:Int)+1)=((i+1:Nat):Int):=Bb (by omega) (by omega);have t1:∀a b,AO 2 ((nx,.cells tyQ [a,b])::H) (.ptr nx 0) (.t (.ag [iv c.high,iv c.low]))=some ((nx,.cells tyQ [.t (iv c.high),.t (iv c.low)])::H):=λa b=>st2 nx a b _ _ tyQ H
   obtain⟨H1,hH1⟩:∃H1,H1=(nx,Row.cells tyQ [.t (iv c.high),.t (iv c.low)])::H:=⟨_,rfl⟩
   rw[<-hH1]at t1
   have M1:=hN.more (nx':=nx+1) (H':=H1) (by omega) λc h=>by rw[hH1,A9,zw (by omega)]
   have l1:=Eg (H:=H1) (b:=nx) (ty:=tyQ) (p0:=.t (iv c.high)) (p1:=.t (iv c.low)) (by rw[hH1,A9,zu rfl]);have in1:=ho.con hcm (v:=c.high) (by simp[BE]);have in2:=ho.con hcm (v:=c.low) (by simp[BE]);have eN1:=λnx'=>K0 (nx:=nx') M1.x in1;have eN2:=λnx'=>K0 (nx:=nx') M1.x in2;have hw1:=Z.w _ in1;have hw2:=Z.w _ in2;have hq:=Z.q c hcm;obtain⟨S1,q1,l1',p1⟩:=C8 (wM m c.high) [32,113,101,113,32] (b:=⟨#[32,113,101,113,32]⟩) rfl (by simp only[Xg,Xk];omega);simp only[Xg,Xk]at l1';obtain⟨S2,q2,l2,p2⟩:=C8 S1 (wM m c.low) (b:=ob (wM m c.low)) rfl (by omega)
   have e2:S2=Eh (wM m) c:=by unfold Eh;rw[q2,q1];simp
   rw[e2]at p2
   have clen:(ER m i).length<=1000:=by unfold ER;rw[Xh,Xz];omega
   obtain⟨Hd,ad,bd,cdd,fd⟩:=EM (by':=16) (nx:=nx+1) (ob (Eh (wM m) c)) 1 rfl [sv (ob (Eh (wM m) c))] rfl M1.rc M1.cl (by omega) (by omega);have Md:=M1.setC cdd bd;have eC:=tW (m:=m) hc1;rw[<-eC]at Md ad;refine A8 C ?_;simp -implicitDefEqProofs [SPq,hlt,i1,D2,t1,l1.1,l1.2,eN1,eN2,p1,p2,Mg,ad,w1];exact A4.mk ⟨Hd,nx+1+1,ba,br,nx+1,i+1⟩ ⟨⟨Md,by show i+1<=_;omega⟩,by show m.cons.length-(i+1)<m.cons.length-i;omega⟩ (Aw (by simp -implicitDefEqProofs [SPq]))
  .have ei:i=m.cons.length:=by omega
   subst ei;refine A8 C ?_;simp -implicitDefEqProofs [SPq,hlt];exact A4.mk ⟨H,nx,ba,br,bc,0⟩ hN (Aw (by simp -implicitDefEqProofs))
 clear hN z;rintro⟨H,nx,ba,br,bc,_⟩ hN;simp only at hN;have z:=ld hN.x;have eN1:=λnx'=>K0 (nx:=nx') hN.x ho.top;have eN2:=λnx'=>K0 (nx:=nx') hN.x ho.index;have hw1:=Z.w _ ho.top;have hw2:=Z.w _ ho.index;have hes:=Z.es;have hqs:=Z.qs;have eT1:=Oz hN.rr ⟨#[59,32]⟩;have eT2:=Oz hN.rc ⟨#[59,32]⟩;have eJ1:=Oy (t:=Ba Ar (CR m m.rels.length)) (Of Ar _) ⟨#[59,32]⟩ (by unfold CR;rw[Xh,Xz];omega) (by rw[YS];exact Xy hes (by omega));have eJ2:=Oy (t:=Ba Ar (ER m m.cons.length)) (Of Ar _) ⟨#[59,32]⟩ (by unfold ER;rw[Xh,Xz];omega) (by rw[YT];exact Xy hqs (by omega));rw[YS,show wb (⟨#[59,32]⟩:ByteArray)=[59,32]from rfl]at eJ1;rw[YT,show wb (⟨#[59,32]⟩:ByteArray)=[59,32]from rfl]at eJ2
 obtain⟨J1,hJ1⟩:∃J,J=Cb [59,32] (m.rels.map (Dc (wM m))):=⟨_,rfl⟩
 obtain⟨J2,hJ2⟩:∃J,J=Cb [59,32] (m.cons.map (Eh (wM m))):=⟨_,rfl⟩
 rw[<-hJ1]at eJ1 hes;rw[<-hJ2]at eJ2 hqs
 have hE:R=wM m m.top++32::(wM m m.index++32::123::(J1++125::32::123::(J2++[125]))):=by rw[hR,hJ1,hJ2];rfl
 obtain⟨W1,hW1⟩:∃W,W=wM m m.top:=⟨_,rfl⟩
 obtain⟨W2,hW2⟩:∃W,W=wM m m.index:=⟨_,rfl⟩
 rw[<-hW1]at eN1 hw1 hE;rw[<-hW2]at eN2 hw2 hE;obtain⟨S1,q1,l1,p1⟩:=C8 W1 [32] (b:=⟨#[32]⟩) rfl (by simp only[Xl];omega);simp only[Xg,Xk]at l1;obtain⟨S2,q2,l2,p2⟩:=C8 S1 W2 (b:=ob W2) rfl (by omega);obtain⟨S3,q3,l3,p3⟩:=C8 S2 [32,123] (b:=⟨#[32,123]⟩) rfl (by simp only[Xg,Xk];omega);simp only[Xg,Xk]at l3;obtain⟨S4,q4,l4,p4⟩:=C8 S3 J1 (b:=ob J1) rfl (by omega);obtain⟨S5,q5,l5,p5⟩:=C8 S4 [125,32,123] (b:=⟨#[125,32,123]⟩) rfl (by simp only[Xg,Xk];omega);simp only[Xg,Xk]at l5;obtain⟨S6,q6,l6,p6⟩:=C8 S5 J2 (b:=ob J2) rfl (by omega);obtain⟨S7,q7,l7,p7⟩:=C8 S6 [125] (b:=⟨#[125]⟩) rfl (by simp only[Xg,Xk];omega)
 have e7:S7=R:=by rw[hE,q7,q6,q5,q4,q3,q2,q1];simp
 rw[e7]at p7;refine A8 C ?_;simp -implicitDefEqProofs [z.l0,z.l1,eN1,eN2,eT1,eT2,eJ1,eJ2,p1,p2,p3,p4,p5,p6,p7,-Bn]
structure MB (a b:Mr) (ca cb:List T):Prop where
 ha:BJ a ca
 hb:BJ b cb
 sa:SmM a
 sb:SmM b
 oa:okV a
 ob:okV b
 len:b.vars.length=a.vars.length
section
variable {a b : Mr} {ca cb : List T}
theorem YU {α:Type} {e:Enc α} {ty b:Nat} {H:Ak} {l:List α} (h:Aj H b=some (A5 e ty l)) (x:T):toT H (.tu [.row b 0 l.length e.z,.t x])=some (.tu [slT e l,x],[b]++([]++[])):=by
 rw[toT,Bn,DN h];rfl
end
def DO (l:List Nat):List Int:=l.map λk:Nat=>(k:Int)
theorem YV (l:List Nat):(DO l).length=l.length:=by simp[DO]
section
variable {a b : Mr} {ca cb : List T}
theorem tZ (H:Ak) (x:T):toT H (.t x)=some (x,[]):=by simp
theorem QS (n:Nat) (x:Int):BB tyI 1 [.int .i64 0] 1 [(0,.t (.v (.int .i64 x)))] n=some (.row n 0 1 1,.cells tyI [.t (iv x)]):=rfl
end
section
variable {a b : Mr} {ca cb : List T}
theorem u6 {α:Type} {f:Nat->Option α} {n k:Nat} (h:k<n):((Xo n).drop k).findSome? f=(match f k with | some r=>some r | none=>((Xo n).drop (k+1)).findSome? f):=by
 rw[X0 (by simpa using h),List.findSome?_cons];simp only[Y0];cases f k<;>rfl
end
end Go.Proofs.YtmgjopafgboljaaGreatDoor
namespace Go.Abs
open Go
abbrev dgS:ByteArray:=⟨#[48,49,50,51,52,53,54,55,56,57,97,98,99,100,101,102,103,104,105,106,107,108,109,110,111,112,113,114,115,116,117,118,119,120,121,122]⟩
def dgt (n:Nat):UInt8:=dgS.data.toList.getD n 0
theorem u7:∀n,n<36->dgS.data.toList[n]?=some (dgt n):=by decide
def GK (u:Nat) (acc:List UInt8):List UInt8:=if h:u<36 then dgt u::acc else GK (u / 36) (dgt (u%36)::acc)
termination_by u
decreasing_by exact Nat.div_lt_self (by omega) (by omega)
def f36 (u:Nat):ByteArray:=ob (GK u [])
end Go.Abs
namespace Go.Proofs.YtmgjopafgboljaaGreatDoor
open Go Go.Abs
variable {q : Gl}
abbrev uN (n:Nat):T:=.v (.int .u64 (n:Int))
abbrev u8c (c:UInt8):PV:=.t (.v (.int .u8 (c.toNat:Int)))
theorem YW {n:Nat} (h:n<36):HR (.t (.v (.string dgS))) (.t (uN n))=some (u8c (dgt n)):=by
 have h1:(dgS[((n:Int)).toNat]?)=some (dgt n):=by
  have:=u7 n h;rw[X3]
  have hl:n<dgS.size:=by show n<36;exact h
  rw[getElem?_pos dgS n hl]
  have h2:dgS.data.toList[n]?=some dgS.data[n]:=by simp
  rw[h2]at this;exact this
 show(if 0<=(n:Int)then(dgS[((n:Int)).toNat]?).map _ else none)=_;rw[zu (by omega),h1];rfl
def gP2:List T->Option T
 | [.v (.int .i64 36)]=>some (bv false)
 | _=>none
structure FbC where
 u:Nat
 i:Nat
 D:List UInt8
 pre:List PV
def SFb (c:FbC):Am:=⟨[(13,.t (iv (c.i:Int))),(17,.t (uN 36)),(12,.ptr 0 0),(10,.t Au),(4,.t (bv false)),(3,.t (bv false)),(1,.t (uN c.u))],[(0,.cells 201 (c.pre++c.D.map u8c))],1,102⟩
structure YX (F:List UInt8) (c:FbC):Prop where
 eq:GK c.u c.D=F
 pl:c.pre.length=c.i
 il:c.i+c.D.length=65
 lt:c.u<36^(c.i-52)
 i0:53<=c.i
 w:c.u<18446744073709551616
theorem YY:∀D:List UInt8,Gs (D.map λc=>T.v (.int .u8 (c.toNat:Int)))=some D
 | []=>rfl
 | c::D=>by
  rw[List.map_cons,Gs,YY D];simp
theorem uA {k:Nat} {pre:List PV} (h:pre.length=k+1) (c:PV) (m:List PV):(pre++m).set k c=pre.take k++(c::m):=by
 rw[List.set_append_left _ _ (by omega),List.set_eq_take_append_cons_drop,zu (by omega),Yh (by omega)];simp
theorem YZ {i k:Nat} {pre:List PV} {D:List UInt8} (hk:i=k+1) (hpl:pre.length=i) (ty:Nat) (d:UInt8) :
  AO 1 [(0,.cells ty (pre++D.map u8c))] (.ptr 0 k) (u8c d)=some [(0,.cells ty (pre.take k++(d::D).map u8c))]:=by
 subst hk;have h:=BF (H:=[(0,.cells ty (pre++D.map u8c))]) (b:=0) (o:=k) (n:=1) (t:=u8c d) (ns:=[u8c d]) rfl rfl rfl (by rw[Xf];omega);rw[h];show some [(0,Row.cells ty ((pre++D.map u8c).set k (u8c d)))]=_;rw[uA hpl];rfl
theorem uB (u:Nat) (h:u<18446744073709551616):Bc Xc (G q) 157 [Au,uN u,iv 36,bv false,bv false] (· = .tu [Au,sv (f36 u)]):=by
 have hp:Bc Xc (G q) 171 [iv 36] (· = bv false):=by
  refine rP.runs An rfl ?_;(conv in WI=>cbv);simp -implicitDefEqProofs;decide
 have C:Ctx Xc (G q) _:=(AB.cons (f:=171) (g:=gP2) (λargs r hr=>by
  unfold gP2 at hr;split at hr
  .injection hr with hr;subst hr;exact hp
  .cases hr) .nil).ctx mixed
 have eP2:gP2 [.v (.int .i64 36)]=some (bv false):=rfl
 obtain⟨F,hF⟩:∃F,F=GK u []:=⟨_,rfl⟩
 have hf:f36 u=ob F:=by rw[hF];rfl
 rw[hf];have w36:Xr.wrap 36=36:=FT (by omega) (by omega);refine rO.call rfl ?_;(conv in WH=>cbv);refine Ao C ?_;simp -implicitDefEqProofs;refine Ao C ?_;simp -implicitDefEqProofs;refine Ao C ?_;simp -implicitDefEqProofs;refine Ao C ?_;simp -implicitDefEqProofs;refine Ao C ?_;simp -implicitDefEqProofs
 obtain⟨Z,hZ⟩:∃Z:List PV,Z=Xd 65 (.t (.v (.int .u8 0))):=⟨_,rfl⟩
 have lZ:Z.length=65:=by rw[hZ];rfl
 have rz:∀ps,[(0,Row.cells 201 ps)]=[(0,Row.cells 201 ps)]:=λ_=>rfl;refine MC.sub (s':=⟨[(13,.t (iv 65)),(12,.ptr 0 0),(10,.t Au),(4,.t (bv false)),(3,.t (bv false)),(2,.t (iv 36)),(1,.t (uN u)),(0,.t Au)],[(0,.cells 201 Z)],1,102⟩) (by rw[hZ];exact Aw (by simp -implicitDefEqProofs)) rfl ?_
 refine AZ (λc:FbC=>⟨[(13,.t (iv (c.i:Int))),(12,.ptr 0 0),(10,.t Au),(4,.t (bv false)),(3,.t (bv false))],[(0,.cells 201 (c.pre++c.D.map u8c))],1,102⟩)
  (λc=>c.D=F/\c.pre.length=c.i/\c.i+c.D.length=65/\0<c.D.length) (λ_=>rfl) ?_ ?_
 .refine Ao C ?_;simp -implicitDefEqProofs [eP2];refine Tu (t:=false) rfl ?_;refine Ao C ?_;simp -implicitDefEqProofs [w36]
  refine AZ (λc:FbC=>⟨[(13,.t (iv (c.i:Int))),(17,.t (uN 36)),(12,.ptr 0 0),(10,.t Au),(4,.t (bv false)),(3,.t (bv false)),(1,.t (uN c.u))],[(0,.cells 201 (c.pre++c.D.map u8c))],1,102⟩)
   (λc=>YX F c/\c.u<36) (λ_=>rfl) ?_ ?_
  .refine AY ?_;refine Bj SFb (λc=>c.i) (YX F) ⟨u,65,[],Z⟩ (λ_=>rfl) ⟨hF.symm,lZ,rfl,by show u<36^13;exact Ys h (by decide),by show 53<=65;omega,h⟩ ?_ rfl ?_
   .unfold SFb;simp only[List.map_nil,Y2];exact Aw (by simp -implicitDefEqProofs)
   rintro⟨u,i,D,pre⟩ ⟨heq,hpl,hil,hlt,hi0,hw⟩;simp only at heq hpl hil hlt hi0 hw
   have w1:∀k:Nat,i=k+1->Xi.wrap ((i:Int)-1)=(k:Int):=λk hk=>by rw[Nj (by omega) (by omega)];omega
   by_cases hge:36<=u
   .have hi1:54<=i:=by
     refine Decidable.byContradiction λhn=>?_
     have:i=53:=by omega
     rw[this]at hlt;simp at hlt;omega
    obtain⟨k,hk⟩:∃k,i=k+1:=⟨i-1,by omega⟩
    have w1:=w1 k hk
    obtain⟨d,hd⟩:∃d,d=u / 36:=⟨_,rfl⟩
    obtain⟨p,hp'⟩:∃p,p=d*36:=⟨_,rfl⟩
    obtain⟨r,hr⟩:∃r,r=u%36:=⟨_,rfl⟩
    have wd:Xr.wrap ((u:Int) / 36)=(d:Int):=by rw[FT (by omega) (by omega)];omega
    have wp:Xr.wrap ((d:Int)*36)=(p:Int):=by rw[FT (by omega) (by omega)];omega
    have wr:Xr.wrap ((u:Int)-(p:Int))=(r:Int):=by rw[FT (by omega) (by omega)];omega
    have ix:=YW (n:=r) (by omega)
    have aa:Gt 65 1 (.ptr 0 0) (.t (iv (k:Int)))=some (.ptr 0 k):=by
     simp only[Gt];rw[zu ⟨by omega,by omega⟩];simp
    have st:=YZ (D:=D) hk hpl 201 (dgt r)
    have hgi:(36:Int)<=(u:Int):=by omega
    refine A8 C ?_;simp -implicitDefEqProofs [SFb,hgi,hge,w1,wd,wp,wr,ix,aa,st];refine A4.mk ⟨d,k,dgt r::D,pre.take k⟩ ⟨⟨?_,by show(pre.take k).length=k;rw[Xz];omega,by show k+(dgt r::D).length=65;rw[Xg];omega,?_,by show 53<=k;omega,by show d<_;omega⟩,by show k<i;omega⟩ (Aw (by simp -implicitDefEqProofs [SFb]))
    .show GK d (dgt r::D)=F;rw[<-heq,hd,hr]
     conv=>rhs;rw[GK]
     rw[dif_neg (by omega)]
    .show d<36^(k-52);rw[hd];refine(Y3 (by omega)).2 ?_
     have:36^(k-52)*36=36^(i-52):=by rw[<-Nat.pow_succ];congr 1;omega
     rw[this];exact hlt
   .have hgi:¬(36:Int)<=(u:Int):=by omega
    refine A8 C ?_;simp -implicitDefEqProofs [SFb,hgi,hge];exact A4.mk ⟨u,i,D,pre⟩ ⟨⟨heq,hpl,hil,hlt,hi0,hw⟩,by show u<36;omega⟩ (Aw (by simp -implicitDefEqProofs))
  .rintro⟨u,i,D,pre⟩ ⟨⟨heq,hpl,hil,hlt,hi0,hw⟩,hu⟩;simp only at heq hpl hil hlt hi0 hw hu
   obtain⟨k,hk⟩:∃k,i=k+1:=⟨i-1,by omega⟩
   have w1:Xi.wrap ((i:Int)-1)=(k:Int):=by rw[Nj (by omega) (by omega)];omega
   have ix:=YW hu
   have aa:Gt 65 1 (.ptr 0 0) (.t (iv (k:Int)))=some (.ptr 0 k):=by
    simp only[Gt];rw[zu ⟨by omega,by omega⟩];simp
   have st:=YZ (D:=D) hk hpl 201 (dgt u);refine A8 C ?_;simp -implicitDefEqProofs [w1,ix,aa,st];refine A4.mk ⟨0,k,dgt u::D,pre.take k⟩ ⟨?_,by show(pre.take k).length=k;rw[Xz];omega,by show k+(dgt u::D).length=65;rw[Xg];omega,by simp⟩ (Aw (by simp -implicitDefEqProofs));show dgt u::D=F;rw[<-heq,GK,dif_pos hu]
 .rintro⟨_,i,D,pre⟩ ⟨hD,hpl,hil,hD0⟩;simp only at hD hpl hil hD0;subst hD
  have e1:∀nx,hxM (.slarr 65 1) [(0,.cells 201 (pre++D.map u8c))] nx [.ptr 0 0,.t (iv (i:Int))]=some (.row 0 i (65-i) 1,[(0,.cells 201 (pre++D.map u8c))],nx):=λnx=>by
   have hl:(pre++D.map u8c).length=65:=by rw[Xf,Xh];omega
   show(if(pre++D.map u8c).length=65*1/\0<=(i:Int)/\(i:Int)<((65:Nat):Int)then _ else none)=_;rw[zu ⟨by omega,by omega,by omega⟩,X3,Yi]
  have e2:∀nx,hxM .b2s [(0,.cells 201 (pre++D.map u8c))] nx [.row 0 i (65-i) 1]=some (.t (.v (.string (ob D))),[(0,.cells 201 (pre++D.map u8c))],nx):=λnx=>by
   have hl:(pre++D.map u8c).length=65:=by rw[Xf,Xh];omega
   have ht:hxM.toTS [(0,.cells 201 (pre++D.map u8c))] (.row 0 i (65-i) 1)=some (D.map λc=>T.v (.int .u8 (c.toNat:Int))):=by
    show(if 1=1/\i+(65-i)<=(pre++D.map u8c).length then DW (((pre++D.map u8c).drop i).take (65-i))else none)=_;rw[zu ⟨rfl,by omega⟩,<-hpl,List.drop_left,X4 (by rw[Xh];omega)]
    have:D.map u8c=(D.map λc=>T.v (.int .u8 (c.toNat:Int))).map PV.t:=by rw[Yg];rfl
    rw[this,Lv]
   simp only[hxM,ht,YY,Y5]
  refine A8 C ?_;simp -implicitDefEqProofs [e1,e2]
abbrev QT:PV:=.t (.v (.pointer none))
theorem wsX {H:Ak} {nx b g:Nat} {p:PV} {l s:List UInt8} (h:Aj H b=some (Gd p g l)) (hp:p=QT\/p = .ptr b 0) (hg:AK eB tyU H g l) (hs:s≠[]) (hlen:l.length+s.length<=140737488355328) (hb:b<nx) (hgb:l=[]\/b≠g) :
  ∃(H':Ak) (r:T) (t:List PV->Ak->Nat->Option (PV×Ak×Nat)),t [.ptr b 0,.t (.v (.string (ob s)))] H nx=some (.t r,H',nx+1)/\HOK Xc (G q) 84 t /\
   Aj H' b=some (Gd (.ptr b 0) nx (l++s))/\AK eB tyU H' nx (l++s)/\∀c,c<nx->c≠b->(l=[]\/c≠g)->Aj H' c=Aj H c:=by
 have look':∀c,c≠nx->Aj (wsH H b g nx l (l++s)) c=if c=b then(Aj (if l.isEmpty then H else rem H g) b).map λ_=>Gd (.ptr b 0) nx (l++s)else Aj (if l.isEmpty then H else rem H g) c:=λc hc=>by
  unfold wsH;rw[A9,zw (λe=>hc e.symm),A7]
 have rem':∀c,(l=[]\/c≠g)->Aj (if l.isEmpty then H else rem H g) c=Aj H c:=λc hc=>by
  rcases hc with rfl | hc
  .rfl
  .split
   .rfl
   .rw[BZ,zw hc]
 refine⟨wsH H b g nx l (l++s),_,_,L8 _ _ _ _,L9 (sY h hp hg hs hlen) (λhf k x hk=>?_),?_,.inr (by unfold wsH;rw[A9,zu rfl]),λc h1 h2 h3=>?_⟩
 .by_cases hkn:k=nx
  .omega
  .rw[look' k hkn]at hk;split at hk
   .omega
   .have:∃y,Aj H k=some y:=by
     split at hk
     .exact⟨_,hk⟩
     .rw[BZ]at hk;split at hk
      .cases hk
      .exact⟨_,hk⟩
    obtain⟨y,hy⟩:=this;have:=hf k y hy;omega
 .rw[look' b (by omega),zu rfl,rem' b hgb,h];rfl
 .rw[look' c (by omega),zw h2,rem' c h3]
def Ev (out:List ByteArray) (x:Ep) (j:Nat):List UInt8:=wb x.pred++40::(wb (vS out x.label)++(x.args.take j).flatMap (EI out))
theorem uD {out:List ByteArray} {x:Ep} {j:Nat} {a:Ag} (h:x.args[j]?=some a):Ev out x (j+1)=Ev out x j++EI out a:=by
 unfold Ev;rw[Xq,h];simp
theorem uE (out:List ByteArray) (x:Ep):Ev out x x.args.length++[41]=Du out x:=by
 unfold Ev Du;rw[Xt];simp
theorem uF {α:Type} {f:α->List UInt8} (l:List α) (j:Nat):((l.take j).flatMap f).length<=(l.flatMap f).length:=by
 conv=>rhs;rw[<-List.take_append_drop j l,List.flatMap_append,Xf]
 omega
theorem QU (out:List ByteArray) (x:Ep) (j:Nat):(Ev out x j).length<=(Du out x).length:=by
 have:=uF (f:=EI out) x.args j;unfold Ev Du;simp only[Xf,Xg,Xk];omega
structure PdC where
 H:Ak
 nx:Nat
 g:Nat
 j:Nat
def SPd (tv ta:T) (n:Nat) (c:PdC):Am:=⟨[(21,.t (iv (c.j:Int))),(20,.t (iv (n:Int))),(19,.t ta),(5,.ptr 1 0),(2,.ptr 0 0),(1,.t tv)],c.H,c.nx,39⟩
structure uG (out:List ByteArray) (x:Ep) (ta:T) (c:PdC):Prop where
 h0:Aj c.H 0=some (Ca x.pred x.label ta)
 h1:Aj c.H 1=some (Gd (.ptr 1 0) c.g (Ev out x c.j))
 hg:AK eB tyU c.H c.g (Ev out x c.j)
 g1:1<c.g
 gl:c.g<c.nx
 le:c.j<=x.args.length
theorem uH {x:Ep} {cs:List T} (hx:IP x cs) {tv:T} {out:List ByteArray} (ht:IsS Ar tv out) (hin:inE out.length x) (hal:x.args.length<=1000) (hsz:(Du out x).length<=1000000000):Bc Xc (G q) 73 [.ag cs,tv] (· = sv (ob (Du out x))):=by
 obtain⟨ta,rfl,hta⟩:=hx;have la:=hta.len;have c3:=cd3 (sv x.pred) (iv x.label) ta
 obtain⟨R,hR⟩:∃R,R=Du out x:=⟨_,rfl⟩
 rw[<-hR];have hz:Ar.z=1:=rfl
 have ivar:∀v:Int,inR out.length v->BN 1 (.t tv) (.t (iv v))=some (.t (.pt ([sv (vS out v)]++rest Ar out v.toNat))):=λv hv=>by
  obtain⟨k,rfl⟩:∃k:Nat,v=(k:Int):=⟨v.toNat,by have:=hv.1;omega⟩
  have hk:k<out.length:=by have:=hv.2;omega
  have:=ht.iaddr (GE hk) .i64;rw[hz]at this;exact this
 refine oK.call rfl ?_;(conv in UN=>cbv);refine Ao An ?_;simp -implicitDefEqProofs [c3];refine Ao An ?_;simp -implicitDefEqProofs
 obtain⟨H0,hH0⟩:∃H0:Ak,H0=[(1,.cells tyB [QT,.t Au]),(0,Ca x.pred x.label ta)]:=⟨_,rfl⟩
 have z0:=ldE (H:=H0) (k:=0) (p:=x.pred) (l:=x.label) (ta:=ta) (by rw[hH0];rfl)
 have hb0:Aj H0 1=some (Gd QT 2 []):=by rw[hH0];rfl
 have i0:=ivar x.label (hin _ (by simp[B7]));have hl0:=QU out x 0
 have e0:Ev out x 0=wb x.pred++40::wb (vS out x.label):=by simp[Ev]
 rw[e0]at hl0;simp only[Xf,Xg]at hl0;obtain⟨S1,q1,l1,p1⟩:=C8 (wb x.pred) [40] (b:=⟨#[40]⟩) rfl (by simp only[Xl];omega);have p1:∀(Φ:AP) (H:Ak) (nx:Nat),A0 Φ H nx (.bin false .add none) [.t (.v (.string x.pred)),.t (.v (.string ⟨#[40]⟩))]=some (.t (.v (.string (ob S1))),H,nx):=p1;simp only[Xg,Xk]at l1;obtain⟨S2,q2,l2,p2⟩:=C8 S1 (wb (vS out x.label)) (b:=vS out x.label) rfl (by omega)
 have eS2:S2=Ev out x 0:=by rw[e0,q2,q1];simp
 obtain⟨H1,r1,t1,et1,ok1,b1,g1,k1⟩:=wsX (q:=q) (s:=S2) hb0 (.inl rfl) (.inl rfl) (by rw[eS2,e0];simp) (by simp only[Xk];omega) (nx:=2) (by omega) (.inl rfl);rw[Yj,eS2]at b1 g1;have k10:=k1 0 (by omega) (by omega) (.inl rfl)
 have x1:Aj H1 0=some (Ca x.pred x.label ta):=by rw[k10,hH0];rfl
 have z1:=ldE x1;refine Ao (AB.nil.ctxH (AG.cons ok1 .nil) mixed) ?_;rw[show([(1,Row.cells 114 [.t (.v (.pointer none)),.t (.v (.slice none 0 0))]),(0,Row.cells tyE [.t (sv x.pred),.t (iv x.label),.t ta])]:Ak)=H0 from hH0.symm];simp -implicitDefEqProofs [z0.l0,z0.l1,p1,i0,lp,p2,et1];refine AZ (λc:PdC=>⟨[(5,.ptr 1 0)],c.H,c.nx,39⟩) (λc=>Aj c.H 1=some (Gd (.ptr 1 0) c.g (Ev out x x.args.length))/\AK eB tyU c.H c.g (Ev out x x.args.length)) (λ_=>rfl) ?_ ?_
 .refine Ao An ?_;simp -implicitDefEqProofs [z1.l2,la];refine AY ?_;refine Bj (SPd tv ta x.args.length) (λc=>x.args.length-c.j) (uG out x ta) ⟨H1,3,2,0⟩ (λ_=>rfl) ⟨x1,b1,g1,by show 1<2;omega,by show 2<3;omega,Xm _⟩ ?_ rfl ?_
  .exact Aw (by simp -implicitDefEqProofs [SPd])
  rintro⟨H,nx,g,j⟩ ⟨h0,h1,hg,hg1,hgl,hj⟩;simp only at h0 h1 hg hg1 hgl hj;by_cases hjl:j<x.args.length
  .obtain⟨a,ha⟩:∃a,x.args[j]?=some a:=⟨_,Xj hjl⟩
   have i1:=hta.iaddr ha .i64;have hz2:eAg.z=2:=rfl;rw[hz2,show eAg.enc a=[sv a.role,iv a.var]from rfl]at i1;have w1:Xi.wrap ((j:Int)+1)=((j+1:Nat):Int):=Bb (by omega) (by omega);have s1:∀u v,AO 2 ((nx,.cells tyA [u,v])::H) (.ptr nx 0) (.t (.ag [sv a.role,iv a.var]))=some ((nx,.cells tyA [.t (sv a.role),.t (iv a.var)])::H):=λu v=>st2 nx u v _ _ tyA H
   obtain⟨Hb,hHb⟩:∃Hb,Hb=(nx,Row.cells tyA [.t (sv a.role),.t (iv a.var)])::H:=⟨_,rfl⟩
   rw[<-hHb]at s1
   have kb:∀c,c<nx->Aj Hb c=Aj H c:=λc h=>by rw[hHb,A9,zw (by omega)]
   have lb:=Eg (H:=Hb) (b:=nx) (ty:=tyA) (p0:=.t (sv a.role)) (p1:=.t (iv a.var)) (by rw[hHb,A9,zu rfl]);have i2:=ivar a.var (hin _ (by simp only[B7,Xn,Xs];exact .inr ⟨a,Xp ha,rfl⟩));have eP:=uD (out:=out) ha;have hl1:=QU out x (j+1);rw[eP,Xf]at hl1
   have hla:(EI out a).length=1+(wb a.role).length+1+(wb (vS out a.var)).length:=by unfold EI;simp only[Xg,Xf];omega
   obtain⟨V1,y1,n1,v1⟩:=C8 [32] (wb a.role) (b:=a.role) rfl (by simp only[Xl];omega);have v1:∀(Φ:AP) (H:Ak) (nx:Nat),A0 Φ H nx (.bin false .add none) [.t (.v (.string ⟨#[32]⟩)),.t (.v (.string a.role))]=some (.t (.v (.string (ob V1))),H,nx):=v1;simp only[Xg,Xk]at n1;obtain⟨V2,y2,n2,v2⟩:=C8 V1 [32] (b:=⟨#[32]⟩) rfl (by simp only[Xl];omega);simp only[Xg,Xk]at n2;obtain⟨V3,y3,n3,v3⟩:=C8 V2 (wb (vS out a.var)) (b:=vS out a.var) rfl (by omega)
   have eV:V3=EI out a:=by rw[y3,y2,y1];unfold EI;simp
   obtain⟨H3,r3,t3,et3,ok3,b3,g3,k3⟩:=wsX (q:=q) (s:=V3) (nx:=nx+1) (by rw[kb 1 (by omega)];exact h1) (.inr rfl) (hg.imp id λe=>by rw[kb g hgl];exact e) (by rw[eV];unfold EI;simp) (by rw[eV];omega) (by omega) (.inr (by omega));rw[eV,<-eP]at b3 g3;refine A8 (AB.nil.ctxH (AG.cons ok3 .nil) mixed) ?_;simp -implicitDefEqProofs [SPd,hjl,i1,D2,s1,lb.1,lb.2,v1,v2,i2,lp,v3,et3,w1];exact A4.mk ⟨H3,nx+1+1,nx+1,j+1⟩ ⟨⟨by show Aj H3 0=_;rw[k3 0 (by omega) (by omega) (.inr (by omega)),kb 0 (by omega)];exact h0,b3,g3,by show 1<nx+1;omega,by show nx+1<nx+1+1;omega,hjl⟩,by show x.args.length-(j+1)<x.args.length-j;omega⟩ (Aw (by simp -implicitDefEqProofs [SPd]))
  .have ej:j=x.args.length:=by omega
   subst ej;refine A8 An ?_;simp -implicitDefEqProofs [SPd];exact A4.mk ⟨H,nx,g,0⟩ ⟨h1,hg⟩ (Aw (by simp -implicitDefEqProofs))
 rintro⟨H,nx,g,_⟩ ⟨h1,hg⟩;simp only at h1 hg;have hl2:=QU out x x.args.length;have eE:=uE out x
 obtain⟨L,hL⟩:∃L,L=Ev out x x.args.length:=⟨_,rfl⟩
 rw[<-hL]at h1 hg hl2 eE
 have hne:L≠[]:=by rw[hL];unfold Ev;simp
 have ok2:=L9 (tB (q:=q) (nx:=nx) h1 hg hne (by omega)) (λhf k x hk=>by
  rw[BZ]at hk;split at hk
  .cases hk
  .exact hf k x hk)
 have et2:=L8 [.ptr 1 0] H nx (.t (sv (bs L)),rem H g,nx)
 obtain⟨t2,ht2⟩:∃t2,t2=IM [.ptr 1 0] H nx (.t (sv (bs L)),rem H g,nx):=⟨_,rfl⟩
 rw[<-ht2]at ok2 et2;have et2:t2 [.ptr 1 0] H nx=some (.t (.v (.string (ob L))),rem H g,nx):=et2;obtain⟨S,qs,ls,ps⟩:=C8 L [41] (b:=⟨#[41]⟩) rfl (by simp only[Xl];omega);rw[eE,<-hR]at qs;subst qs;refine A8 (AB.nil.ctxH (AG.cons ok2 .nil) mixed) ?_;simp -implicitDefEqProofs [et2,ps]
end Go.Proofs.YtmgjopafgboljaaGreatDoor
namespace Go.Abs
open Go
section
variable {P : Program} {G : AM} {B N : Nat} {Φ : AP} {s : Am}
def MCX (P:Program) (G:AM) (B N:Nat) (M:AE) (R:(Exit->Am->Prop)->Prop) (s:Am):Prop:=∃Q,R Q/\MC P G B N M Q s
def PX (R:(Exit->Am->Prop)->Prop) (e:Exit) (s:Am):Prop:=∃Q,R Q/\Q e s
def ZA (P:Program) (G:AM) (B:Nat) (S:Am):Exit->Am->Prop
 | .normal,s=>Sub P G B s S
 | _,_=>False
def RWh (P:Program) (G:AM) (B:Nat) {α:Type} (S:α->Am) (Ok:α->Prop) (R:(Exit->Am->Prop)->Prop) (Q':Exit->Am->Prop):Prop:=
 (∃a,Ok a/\Q'=ZA P G B (S a))\/∃Q,R Q/\Q'=Ia Q
def RBl (id:Nat) (R:(Exit->Am->Prop)->Prop) (Q':Exit->Am->Prop):Prop:=∃Q,R Q/\Q'=EV id Q
structure Fin where
 r:PV
 H:Ak
 nx:Nat
def QV (P:Program) (G:AM) (B:Nat) (vs:List RV) (B8:Fin->Prop) (Q:Exit->Am->Prop):Prop:=∃f,B8 f/\Q=II P G B vs λr0 H0 nx0=>r0=f.r/\H0=f.H/\nx0=f.nx
section
variable {α : Type} {S : α -> Am} {Ok : α -> Prop} {R : (Exit -> Am -> Prop) -> Prop} {i j : Nat} {vs : List RV} {B8 : Fin -> Prop}
@[simp] theorem B3l:PX (RWh P G B S Ok R) .normal s=A4 P G B S Ok s:=by
 apply propext;constructor
 .rintro⟨Q,⟨a,ha,rfl⟩ | ⟨Q1,_,rfl⟩,h⟩
  .exact⟨a,ha,h⟩
  .exact h.elim
 .rintro⟨a,ha,h⟩;exact⟨_,.inl ⟨a,ha,rfl⟩,h⟩
theorem ZB {e:Exit} (he:e ≠ .normal):PX (RWh P G B S Ok R) e s=PX R e s:=by
 apply propext;constructor
 .rintro⟨Q,⟨a,ha,rfl⟩ | ⟨Q1,h1,rfl⟩,h⟩
  .cases e<;>first | exact absurd rfl he | exact h.elim
  .cases e<;>first | exact absurd rfl he | exact⟨Q1,h1,h⟩
 .rintro⟨Q,h1,h⟩;refine⟨Ia Q,.inr ⟨Q,h1,rfl⟩,?_⟩
  cases e<;>first | exact absurd rfl he | exact h
@[simp] theorem B3m:PX (RWh P G B S Ok R) .ret s=PX R .ret s:=ZB (by simp)
@[simp] theorem B3n:PX (RWh P G B S Ok R) (.exit i) s=PX R (.exit i) s:=ZB (by simp)
@[simp] theorem B3o:PX (RBl j R) .normal s=PX R .normal s:=by
 apply propext;constructor
 .rintro⟨_,⟨Q,h1,rfl⟩,h⟩;exact⟨Q,h1,h⟩
 .rintro⟨Q,h1,h⟩;exact⟨_,⟨Q,h1,rfl⟩,h⟩
@[simp] theorem B3p:PX (RBl j R) .ret s=PX R .ret s:=by
 apply propext;constructor
 .rintro⟨_,⟨Q,h1,rfl⟩,h⟩;exact⟨Q,h1,h⟩
 .rintro⟨Q,h1,h⟩;exact⟨_,⟨Q,h1,rfl⟩,h⟩
@[simp] theorem B3q:PX (RBl j R) (.exit i) s=if i=j then PX R .normal s else PX R (.exit i) s:=by
 apply propext;by_cases hij:i=j
 .rw[zu hij];constructor
  .rintro⟨_,⟨Q,h1,rfl⟩,h⟩;simp only[Lt,zu hij]at h;exact⟨Q,h1,h⟩
  .rintro⟨Q,h1,h⟩;exact⟨_,⟨Q,h1,rfl⟩,by simp only[Lt,zu hij];exact h⟩
 .rw[zw hij];constructor
  .rintro⟨_,⟨Q,h1,rfl⟩,h⟩;simp only[Lt,zw hij]at h;exact⟨Q,h1,h⟩
  .rintro⟨Q,h1,h⟩;exact⟨_,⟨Q,h1,rfl⟩,by simp only[Lt,zw hij];exact h⟩
theorem Bp (f:Fin) (hp:B8 f) (h:B6 (EG s vs) λps=>Df ps=f.r/\s.H=f.H/\s.nx=f.nx):PX (QV P G B vs B8) .ret s:=⟨_,⟨f,hp,rfl⟩,Ob h⟩
theorem Jl (f:Fin) (hp:B8 f) (h:B6 (EG s vs) λps=>Df ps=f.r/\s.H=f.H/\s.nx=f.nx):PX (QV P G B vs B8) .normal s:=⟨_,⟨f,hp,rfl⟩,sJ h⟩
theorem AV (hΦ:Ctx P G Φ) {M:AE} (h:BT Φ M s (PX R)):MCX P G B N M R s:=by
 obtain⟨e,s',h1,Q,h2,h3⟩:=Gz M h;exact⟨Q,h2,Fa hΦ M h1 h3⟩
theorem A3 (hΦ:Ctx P G Φ) {a b:AE} (h:BT Φ a s (Gy (λs1=>MCX P G B N b R s1) (PX R))):MCX P G B N (.seq a b) R s:=by
 obtain⟨e,s',h1,h2⟩:=Gz a h;cases e
 case normal=>
  obtain⟨Q,h3,h4⟩:=h2;refine⟨Q,h3,λc hc hn=>JG ?_ c hc hn⟩;refine Fa hΦ a h1 ?_;exact⟨(Fs a h1).trans hn,h4⟩
 all_goals
  obtain⟨Q,h3,h4⟩:=h2;refine⟨Q,h3,λc hc hn=>JG ?_ c hc hn⟩;exact Fa hΦ a h1 h4
theorem BA {id:Nat} {x:AE} (h:MCX P G B N x (RBl id R) s):MCX P G B N (.block id x) R s:=by
 obtain⟨_,⟨Q,h1,rfl⟩,h2⟩:=h;exact⟨Q,h1,AY h2⟩
theorem B4 {s':Am} {M:AE} (hs:Sub P G B s s') (hn:s'.n=s.n) (h:MCX P G B N M R s'):MCX P G B N M R s:=by
 obtain⟨Q,h1,h2⟩:=h;exact⟨Q,h1,MC.sub hs hn h2⟩
theorem Cp {x y:AE} (S:α->Am) (Ok:α->Prop) (hN:∀a,(S a).n=N) (h1:MCX P G B N x (RWh P G B S Ok R) s) (h2:∀a,Ok a->MCX P G B N y R (S a)):MCX P G B N (.seq x y) R s:=by
 obtain⟨_,⟨a,ha,rfl⟩ | ⟨Q,hQ,rfl⟩,hx⟩:=h1
 .obtain⟨Q,hQ,hy⟩:=h2 a ha;refine⟨Q,hQ,AZ (α:=Unit) (λ_=>S a) (λ_=>True) (λ_=>hN a) (hx.mono λe s1 q=>?_) λ_ _=>hy⟩;cases e
  case normal=>exact⟨(),trivial,q⟩
  all_goals exact q.elim
 .refine⟨Q,hQ,AZ (α:=α) S (λ_=>False) hN (hx.mono λe s1 q=>?_) λ_ h=>h.elim⟩;cases e
  case normal=>exact q.elim
  all_goals exact q
def K5 (P:Program) (G:AM) (B N:Nat) (x:AE) (Q:Exit->Am->Prop):Nat->Am->Prop
 | 0,s=>s.n=N/\MC P G B N x (Ia Q) s
 | n+1,s=>s.n=N/\∃s',MC P G B N x (ZA P G B s') s/\K5 P G B N x Q n s'
theorem K5.n {x:AE} {Q:Exit->Am->Prop}:∀{n:Nat} {s:Am},K5 P G B N x Q n s->s.n=N
 | 0,_,h=>h.1
 | _+1,_,h=>h.1
theorem uI {x:AE} {Q:Exit->Am->Prop} {n:Nat} (h:K5 P G B N x Q n s):MC P G B N (.loop x) Q s:=by
 refine Pu (λn s=>K5 P G B N x Q n s) n h (λn s h=>h.n) λn s h=>?_
 cases n with
 | zero=>
  refine h.2.mono λe s1 q=>?_;cases e
  case normal=>exact q.elim
  all_goals exact q
 | succ n=>
  obtain⟨_,s',h1,h2⟩:=h;refine h1.mono λe s1 q=>?_;cases e
  case normal=>exact⟨n,by omega,s',q,h2⟩
  all_goals exact q.elim
theorem DH {x:AE} (S:α->Am) (μ:α->Nat) (Ok:α->Prop) (a0:α) (hN:∀a,(S a).n=N) (hok:Ok a0) (h0:Sub P G B s (S a0)) (hs:s.n=N)
  (round:∀a,Ok a->MCX P G B N x (RWh P G B S (λa'=>Ok a'/\μ a'<μ a) R) (S a)):MCX P G B N (.loop x) R s:=by
 have key:∀(k:Nat) (a:α),μ a<=k->Ok a->∃Q,R Q/\∃n,K5 P G B N x Q n (S a):=by
  intro k
  induction k with
  | zero=>
   intro a hk ha;obtain⟨_,⟨a',⟨_,h2⟩,rfl⟩ | ⟨Q,hQ,rfl⟩,hx⟩:=round a ha
   .omega
   .exact⟨Q,hQ,0,hN a,hx⟩
  | succ k ih=>
   intro a hk ha;obtain⟨_,⟨a',⟨h1,h2⟩,rfl⟩ | ⟨Q,hQ,rfl⟩,hx⟩:=round a ha
   .obtain⟨Q,hQ,n,hn⟩:=ih a' (by omega) h1;exact⟨Q,hQ,n+1,hN a,S a',hx,hn⟩
   .exact⟨Q,hQ,0,hN a,hx⟩
 obtain⟨Q,hQ,n,hn⟩:=key (μ a0) a0 (X1 _) hok;exact⟨Q,hQ,MC.sub h0 ((hN a0).trans hs.symm) (uI hn)⟩
theorem AQ.callX {f:FuncId} {k:Nat} {M:AE} {vs:List RV} (h:AQ P G f k N M vs) {ps:List PV} {H:Ak} {nx:Nat} {B8:Fin->Prop} (hk:ps.length=k)
  (hm:MCX P G nx N M (QV P G nx vs B8) ⟨IJ 0 ps,H,nx,N⟩):∃f':Fin,B8 f'/\B3 P G f ps H nx f'.r f'.H f'.nx:=by
 obtain⟨_,⟨f',hp,rfl⟩,h2⟩:=hm;exact⟨f',hp,h.callP hk h2⟩
end
end
section
variable {α : Type} {e : Enc α} {ty b : Nat} {H : Ak} {l : List α}
theorem ZC (hz:e.z=1) {x:α} {c:T} (hc:e.enc x=[c]):∀(l:List α) (i:Nat),(l.set i x).flatMap e.enc=(l.flatMap e.enc).set i c
 | [],i=>by simp
 | a::l,0=>by
  obtain⟨d,hd⟩:∃d,e.enc a=[d]:=by
   have:=e.len a;rw[hz]at this;exact Y6.1 this
  simp[hc,hd]
 | a::l,i+1=>by
  obtain⟨d,hd⟩:∃d,e.enc a=[d]:=by
   have:=e.len a;rw[hz]at this;exact Y6.1 this
  rw[List.set_cons_succ,Ya,Ya,hd,ZC hz hc l i];simp
theorem FB (hz:e.z=1) {i:Nat} {x:α} {c:T} (h:Aj H b=some (A5 e ty l)) (hi:i<l.length) (hc:e.enc x=[c]) (hp:Bq (.t c)=some [.t c]):AO 1 H (.ptr b i) (.t c)=some (Xe H b (A5 e ty (l.set i x))):=by
 have hl:((l.flatMap e.enc).map PV.t).length=l.length:=by rw[Xh,G4,hz,Yi]
 have:=BF (H:=H) (b:=b) (o:=i) (n:=1) h hp rfl (by rw[hl];omega);rw[this];congr 3;rw[ZC hz hc,List.map_set];rfl
end
theorem Iv {ty by' n nx:Nat} (z:Value) (hn:n<=1000000) (hb:by'<=100):IF ty 1 by' [z] (.t (iv (n:Int))) (.t (iv (n:Int))) nx=some (.row nx 0 n 1,.cells ty (Xd n (.t (.v z)))):=by
 have h:(0:Int)<=(n:Int)/\(n:Int)<=(n:Int)/\(n:Int)<=9223372036854775807/\(by':Int)*(n:Int)<=281474976710656:=by
  refine⟨by omega,by omega,by omega,?_⟩
  have:by'*n<=100*1000000:=Nat.mul_le_mul hb hn
  have h2:(by':Int)*(n:Int)=((by'*n:Nat):Int):=by simp
  omega
 show(if _ then _ else _)=_;rw[zu h,X3];rfl
theorem uJ {α:Type} (e:Enc α) (ty n:Nat) (x:α) (c:T) (hc:e.enc x=[c]):Row.cells ty (Xd n (.t c))=A5 e ty (Xd n x):=by
 unfold A5;congr 1
 induction n with
 | zero=>rfl
 | succ n ih=>rw[X5,X5,Ya,Ym,hc,<-ih];rfl
def C9 (s:Nat) (c:UInt8):Nat:=(s ^^^ c.toNat)*1099511628211%18446744073709551616
def Mi (l:List UInt8):Nat:=l.foldl C9 14695981039346656037
theorem uK {α:Type} {f:Nat->α->Nat} {L:List α} {j:Nat} {c:α} (hc:L[j]?=some c) (s0:Nat):(L.take (j+1)).foldl f s0=f ((L.take j).foldl f s0) c:=by
 rw[Xq,hc,List.foldl_append];rfl
theorem uL {L:List UInt8} {j:Nat} {c:UInt8} (hc:L[j]?=some c) (s0:Nat):(L.take (j+1)).foldl C9 s0=C9 ((L.take j).foldl C9 s0) c:=uK hc s0
theorem uM (c:UInt8):Xr.wrap ((c.toNat:Int))=(c.toNat:Int):=by
 have:=c.toNat_lt;exact FT (by omega) (by omega)
theorem uO {s:Nat} (h:s<18446744073709551616) (c:UInt8):Xr.wrap (((X6 64 s ^^^ X6 64 c.toNat).toNat:Nat):Int)=((s ^^^ c.toNat:Nat):Int):=by
 have hc:=c.toNat_lt
 have e:(X6 64 s ^^^ X6 64 c.toNat).toNat=s ^^^ c.toNat:=by
  rw[BitVec.toNat_xor,Yn,Yn,Y7 (by omega),Y7 (by omega)]
 have hlt:=(X6 64 s ^^^ X6 64 c.toNat).isLt;rw[FT (by omega) (by omega),e]
theorem uQ (s:Nat) (c:UInt8):Xr.wrap (((s ^^^ c.toNat:Nat):Int)*1099511628211)=(C9 s c:Int):=by
 unfold C9;generalize s ^^^ c.toNat=x;unfold Y8 Y9 Za;simp only[Zb,Yb,if_false];omega
theorem uR (s:Nat) (c:UInt8):C9 s c<18446744073709551616:=by
 unfold C9;omega
end Go.Abs
namespace Go.Proofs.YtmgjopafgboljaaGreatDoor
open Go Go.Abs
variable {q : Gl}
def Hsh (old:ByteArray) (l:List ByteArray):ByteArray:=f36 (Mi (wb old++10::Cb [10] (l.map wb)))
theorem ZD (L:List UInt8):∀{s0:Nat},s0<18446744073709551616->L.foldl C9 s0<18446744073709551616:=by
 induction L with
 | nil=>intro s0 h;exact h
 | cons c L ih=>intro s0 _;exact ih (uR s0 c)
def gFB:List T->Option T
 | [.v (.slice none 0 0),.v (.int .u64 n),.v (.int .i64 36),.v (.bool false),.v (.bool false)]=>if 0<=n/\n<18446744073709551616 then some (.tu [Au,sv (f36 n.toNat)])else none
 | _=>none
theorem hFB:GOK Xc (G q) 157 gFB:=λargs r hr=>by
 unfold gFB at hr;split at hr
 .rename_i n;split at hr
  .rename_i h;injection hr with hr;subst hr;have:=uB (q:=q) n.toNat (by omega);rw[show uN n.toNat = .v (.int .u64 n)by show T.v (.int .u64 ((n.toNat:Nat):Int))=_;rw[Int.toNat_of_nonneg h.1]]at this;exact this
  .cases hr
 .cases hr
def gFU:List T->Option T
 | [.v (.int .u64 n),.v (.int .i64 36)]=>if 0<=n/\n<18446744073709551616 then some (sv (f36 n.toNat))else none
 | _=>none
theorem uS:GOK Xc (G q) 136 gFU:=λargs r hr=>by
 unfold gFU at hr;split at hr
 .rename_i n;split at hr
  .rename_i h;injection hr with hr;subst hr;have e:gFB [.v (.slice none 0 0),.v (.int .u64 n),.v (.int .i64 36),.v (.bool false),.v (.bool false)]=some (.tu [Au,sv (f36 n.toNat)]):=zu h;refine rN.runs ((AB.cons (hFB (q:=q)) .nil).ctx mixed) rfl ?_;(conv in WG=>cbv);simp -implicitDefEqProofs [e]
  .cases hr
 .cases hr
theorem hFU:GOK Xc (G q) 116 gFU:=λargs r hr=>by
 unfold gFU at hr;split at hr
 .rename_i n;split at hr
  .rename_i h;injection hr with hr;subst hr;have e:gFU [.v (.int .u64 n),.v (.int .i64 36)]=some (sv (f36 n.toNat)):=zu h;refine rM.runs ((AB.cons (uS (q:=q)) .nil).ctx mixed) rfl ?_;(conv in WE=>cbv);simp -implicitDefEqProofs [e]
  .cases hr
 .cases hr
theorem uT {n:Nat} (h:n<18446744073709551616):gFU [.v (.int .u64 (n:Int)),.v (.int .i64 36)]=some (sv (f36 n)):=by
 simp only[gFU];rw[zu ⟨by omega,by omega⟩,X3]
def nxC (n:Nat) (b:Nat->Nat) (l:Nat->List ByteArray):List PV:=(Xo n).map λv=>Ax Ar (b v) (l v)
theorem Mj {n v:Nat} (b:Nat->Nat) (l:Nat->List ByteArray) (h:v<n):(nxC n b l)[v]?=some (Ax Ar (b v) (l v)):=by
 unfold nxC;rw[Xu,Yo h];rfl
theorem Mk (n:Nat) (b:Nat->Nat) (l:Nat->List ByteArray):(nxC n b l).length=n:=by simp[nxC]
theorem ZE {n v:Nat} {b:Nat->Nat} {l:Nat->List ByteArray} (h:v<n) (k:Nat) (m:List ByteArray):(nxC n b l).set v (Ax Ar k m)=nxC n (λw=>if w=v then k else b w) (λw=>if w=v then m else l w):=by
 refine Yc λi=>?_;rw[Zc];by_cases hi:i<n
 .rw[Mj _ _ hi,Mj _ _ hi];by_cases e:v=i
  .subst e;rw[zu rfl,zu (by rw[Mk];exact h),zu rfl,zu rfl]
  .rw[zw e,zw (λe'=>e e'.symm),zw (λe'=>e e'.symm)]
 .rw[Xv (by rw[Mk];omega),Xv (by rw[Mk];omega),zw (by omega)]
structure NxS (Sp:List Nat) (H:Ak) (nx kn n:Nat) (b:Nat->Nat) (l:Nat->List ByteArray):Prop where
 row:∃ty,Aj H kn=some (.cells ty (nxC n b l))
 at_:∀v,v<n->AK Ar tyS H (b v) (l v)
 fr:∀v,v<n->l v≠[]->b v∉Sp/\b v<nx
 inj:∀v w,v<n->w<n->l v≠[]->l w≠[]->b v=b w->v=w
 sp:∀c∈Sp,c<nx
 kn:kn∈Sp
def dnL (n:Nat) (nw:Nat->ByteArray) (v:Nat):List ByteArray:=(Xo n).map λw=>if w<v then nw w else⟨#[]⟩
theorem uU (n:Nat) (nw:Nat->ByteArray) (v:Nat):(dnL n nw v).length=n:=by simp[dnL]
theorem uV (n:Nat) (nw:Nat->ByteArray):dnL n nw 0=Xd n ⟨#[]⟩:=by
 unfold dnL;refine Yc λi=>?_;rw[Xu];by_cases hi:i<n
 .rw[Yo hi,Yd,zu hi];simp
 .rw[Xv (by simp;omega),Xv (by simp;omega)];rfl
theorem uW {n v:Nat} (nw:Nat->ByteArray) (h:v<n):(dnL n nw v).set v (nw v)=dnL n nw (v+1):=by
 refine Yc λi=>?_;rw[Zc];unfold dnL;by_cases hi:i<n
 .rw[Xu,Xu,Yo hi];simp only[Y5,Xh,List.length_range];by_cases e:v=i
  .subst e;simp[h]
  .rw[zw e];congr 1;by_cases h2:i<v
   .rw[zu h2,zu (by omega)]
   .rw[zw h2,zw (by omega)]
 .rw[Xv (by simp;omega),Xv (by simp;omega),zw (by omega)]
theorem uX (n:Nat) (nw:Nat->ByteArray):dnL n nw n=(Xo n).map nw:=by
 unfold dnL;refine Yl λw hw=>?_;rw[zu (List.mem_range.1 hw)]
structure ShC where
 H:Ak
 v:Nat
def SSh (ko kn kr n nx:Nat) (c:ShC):Am:=⟨[(15,.t (iv (c.v:Int))),(14,.t (iv (n:Int))),(5,.row kr 0 n 1),(1,.row kn 0 n 1),(0,.row ko 0 n 1)],c.H,nx,53⟩
def SSi (ko kn kr n v nx:Nat) (H:Ak) (t:T) (L:List UInt8) (j:Nat):Am:=⟨[(36,.t (iv (j:Int))),(35,.t (iv (L.length:Int))),(34,.t t),(7,.t (uN ((L.take j).foldl C9 14695981039346656037))),(6,.t (iv (v:Int))),(15,.t (iv (v:Int))),(14,.t (iv (n:Int))),(5,.row kr 0 n 1),(1,.row kn 0 n 1),(0,.row ko 0 n 1)],H,nx,53⟩
theorem uY (s:ByteArray):IsS eB (.sl s.size (HQ s)) (wb s):=by
 right;unfold slT HQ;rw[Og];rfl
theorem uZ {Sp:List Nat} {H:Ak} {nx ko kn n:Nat} {old:List ByteArray} {b:Nat->Nat} {l:Nat->List ByteArray} (hS:NxS Sp H nx kn n b l) (ho:Aj H ko=some (A5 Ar tyS old)) (hon:old.length=n) (hko:ko∈Sp) (hn:n<=100000)
  (hl:∀v,v<n->(l v).length<=1000) (hsz:∀v,v<n->(wb (vS old (v:Int))).length+1+(Cb [10] ((Bg (l v)).map wb)).length<=1000000000) :
  ∃f:Fin,(f.r = .row nx 0 n 1/\f.nx=nx+1/\Aj f.H nx=some (A5 Ar tyS ((Xo n).map λv:Nat=>Hsh (vS old (v:Int)) (Bg (l v))))/\(∀c∈Sp,Aj f.H c=Aj H c)/\(Frs H nx->Frs f.H (nx+1))) /\
   B3 Xc (G q) 74 [.row ko 0 n 1,.row kn 0 n 1] H nx f.r f.H f.nx:=by
 obtain⟨nw,hnw⟩:∃nw:Nat->ByteArray,nw=λv:Nat=>Hsh (vS old (v:Int)) (Bg (l v)):=⟨_,rfl⟩
 rw[<-hnw];obtain⟨tyN,hrow⟩:=hS.row;have hknl:=hS.sp kn hS.kn;have hkol:=hS.sp ko hko;have mk:=Iv (ty:=tyS) (by':=16) (n:=n) (nx:=nx) (.string ⟨#[]⟩) (by omega) (by omega);refine oM.callX rfl ?_;(conv in UO=>cbv);refine A3 An ?_;simp -implicitDefEqProofs;refine A3 An ?_;simp -implicitDefEqProofs [PQ,mk]
 obtain⟨H0,hH0⟩:∃H0:Ak,H0=(nx,A5 Ar tyS (dnL n nw 0))::H:=⟨_,rfl⟩
 have hrr:(nx,Row.cells tyS (Xd n (.t (.v (.string ⟨#[]⟩)))))=(nx,A5 Ar tyS (dnL n nw 0)):=by
  rw[uV,<-uJ Ar tyS n ⟨#[]⟩ (sv ⟨#[]⟩) rfl]
 rw[hrr,<-hH0];refine Cp (λc:ShC=>⟨[(5,.row nx 0 n 1)],c.H,nx+1,53⟩) (λc=>Aj c.H nx=some (A5 Ar tyS (dnL n nw n))/\(∀c'∈Sp,Aj c.H c'=Aj H c')/\(Frs H nx->Frs c.H (nx+1))) (λ_=>rfl) ?_ ?_
 .refine A3 An ?_;simp -implicitDefEqProofs [PQ];refine BA ?_
  refine DH (SSh ko kn nx n (nx+1)) (λc=>n-c.v) (λc=>Aj c.H nx=some (A5 Ar tyS (dnL n nw c.v))/\(∀c'∈Sp,Aj c.H c'=Aj H c')/\(∀w,c.v<=w->w<n->AK Ar tyS c.H (b w) (l w))/\(Frs H nx->Frs c.H (nx+1))/\c.v<=n) ⟨H0,0⟩ (λ_=>rfl)
   ⟨by rw[hH0,A9,zu rfl],λc hc=>by have:=hS.sp c hc;rw[hH0,A9,zw (by omega)],λw _ hw=>(by
    by_cases hne:l w=[]
    .exact .inl hne
    .have:=(hS.fr w hw hne).2
     exact(hS.at_ w hw).imp id λe=>by rw[hH0,A9,zw (by omega)];exact e),λhf=>by rw[hH0];exact hf.cons (Xw _) (Xx _),Xm _⟩ ?_ rfl ?_
  .exact Aw (by simp -implicitDefEqProofs [SSh])
  rintro⟨H1,v⟩ ⟨hd,hsp,hat,hfr,hv⟩;simp only at hd hsp hat hfr hv;by_cases hlt:v<n
  .have w1:Xi.wrap ((v:Int)+1)=((v+1:Nat):Int):=Bb (by omega) (by omega)
   have hrn:Aj H1 kn=some (.cells tyN (nxC n b l)):=by rw[hsp kn hS.kn];exact hrow
   have hro:Aj H1 ko=some (A5 Ar tyS old):=by rw[hsp ko hko];exact ho
   have i1:∀k:Nat,BN 1 (.row k 0 n 1) (.t (iv (v:Int)))=some (.ptr k v):=λk=>by
    have:=WY (e:=A6) (b:=k) (l:=Xd n 0) (i:=v) (x:=0) (by rw[Yd,zu hlt]) rfl;rw[Yf]at this;exact this
   have l1:AD false 1 H1 (.ptr kn v)=some (Ax Ar (b v) (l v)):=by simp only[AD,hrn,Yb,if_false,Mj b l hlt]
   have rv:=hat v (X1 _) hlt;have sc:=Oa (q:=q) (nx:=nx+1) rv (Xy (hl v hlt) (by omega))
   obtain⟨H2,hH2⟩:∃H2,H2=if(l v).isEmpty then H1 else Xe H1 (b v) (EL (Bg (l v))):=⟨_,rfl⟩
   rw[<-hH2]at sc
   have k2:∀c,(l v≠[]->c≠b v)->Aj H2 c=Aj H1 c:=λc hc=>by
    rw[hH2]
    by_cases he:l v=[]
    .rw[he];rfl
    .rw[zw (by simpa using he),A7,zw (hc he)]
   have f2:Frs H1 (nx+1)->Frs H2 (nx+1):=λh=>by
    rw[hH2];split
    .exact h
    .exact h.upd
   have r2:AK Ar tyS H2 (b v) (Bg (l v)):=by
    by_cases he:l v=[]
    .left;rw[he];exact Q3
    .right;rw[hH2,zw (by simpa using he),A7,zu rfl,rv.resolve_left he];exact congrArg some (Kl _).symm
   have hsp2:∀c∈Sp,Aj H2 c=Aj H c:=λc hc=>by rw[k2 c (λhe e=>(hS.fr v hlt he).1 (e▸hc)),hsp c hc]
   have hrn2:Aj H2 kn=some (.cells tyN (nxC n b l)):=by rw[hsp2 kn hS.kn];exact hrow
   have hro2:Aj H2 ko=some (A5 Ar tyS old):=by rw[hsp2 ko hko];exact ho
   have hd2:Aj H2 nx=some (A5 Ar tyS (dnL n nw v)):=by rw[k2 nx (λhe e=>by have:=(hS.fr v hlt he).2;omega)];exact hd
   have l2:AD false 1 H2 (.ptr kn v)=some (Ax Ar (b v) (Bg (l v))):=by
    simp only[AD,hrn2,Yb,if_false,Mj b l hlt];rw[WT (b v) (GC (l v))]
   have l3:=GD (e:=Ar) (c:=sv (vS old (v:Int))) hro2 (GE (by omega)) rfl rfl;obtain⟨t1,o1,ok1⟩:=hAt sc f2;have eT:=Oz r2 ⟨#[10]⟩;have hs2:=hsz v hlt;have eJ:=Oy (t:=Ba Ar (Bg (l v))) (Of Ar _) ⟨#[10]⟩ (by rw[GC];exact hl v hlt) (by rw[show wb (⟨#[10]⟩:ByteArray)=[10]from rfl];omega);rw[show wb (⟨#[10]⟩:ByteArray)=[10]from rfl]at eJ
   obtain⟨J,hJ⟩:∃J,J=Cb [10] ((Bg (l v)).map wb):=⟨_,rfl⟩
   rw[<-hJ]at eJ hs2;obtain⟨S1,q1,n1,p1⟩:=C8 (wb (vS old (v:Int))) [10] (b:=⟨#[10]⟩) rfl (by simp only[Xl];omega);have p1:∀(Φ:AP) (H:Ak) (nx:Nat),A0 Φ H nx (.bin false .add none) [.t (.v (.string (vS old (v:Int)))),.t (.v (.string ⟨#[10]⟩))]=some (.t (.v (.string (ob S1))),H,nx):=p1;simp only[Xl]at n1;obtain⟨L,q2,n2,p2⟩:=C8 S1 J (b:=ob J) rfl (by omega)
   have eL:nw v=f36 (Mi L):=by
    rw[hnw];show Hsh _ _=_;unfold Hsh;rw[q2,q1,hJ];simp
   have hbt:=uY (ob L);rw[show wb (ob L)=L from Co L]at hbt
   obtain⟨tb,htb⟩:∃tb,tb=T.sl (ob L).size (HQ (ob L)):=⟨_,rfl⟩
   rw[<-htb]at hbt;have lb:=hbt.len
   have s2b:∀(H:Ak) (nx:Nat),hxM .s2b H nx [.t (.v (.string (ob L)))]=some (.t tb,H,nx):=λH nx=>by rw[htb];rfl
   have C:Ctx Xc (G q) _:=(AB.cons (hJo (q:=q)) (.cons (hFU (q:=q)) .nil)).ctxH (AG.cons ok1 .nil) mixed;have hLlt:∀j,((L.take j).foldl C9 14695981039346656037)<18446744073709551616:=λj=>ZD _ (by omega);refine A3 C ?_;simp -implicitDefEqProofs [SSh,hlt];refine A3 C ?_;simp -implicitDefEqProofs
   refine Cp (λc:ShC=>⟨[(15,.t (iv (v:Int))),(14,.t (iv (n:Int))),(5,.row nx 0 n 1),(1,.row kn 0 n 1),(0,.row ko 0 n 1)],c.H,nx+1,53⟩)
    (λc=>Aj c.H nx=some (A5 Ar tyS (dnL n nw (v+1)))/\(∀c'∈Sp,Aj c.H c'=Aj H c')/\(∀w,v+1<=w->w<n->AK Ar tyS c.H (b w) (l w))/\(Frs H nx->Frs c.H (nx+1))) (λ_=>rfl) ?_ ?_
   .refine BA ?_;refine A3 C ?_;simp -implicitDefEqProofs;refine A3 C ?_;simp -implicitDefEqProofs [i1,l1,o1];refine A3 C ?_;simp -implicitDefEqProofs;refine Cp (α:=Unit) (λ_=>⟨[(7,.t (uN (Mi L))),(6,.t (iv (v:Int))),(15,.t (iv (v:Int))),(14,.t (iv (n:Int))),(5,.row nx 0 n 1),(1,.row kn 0 n 1),(0,.row ko 0 n 1)],H2,nx+1,53⟩) (λ_=>True) (λ_=>rfl) ?_ ?_
    .refine A3 C ?_;simp -implicitDefEqProofs [i1,l2,l3,p1,eT,eJ,p2,s2b,lb,-Bn];refine BA ?_;refine DH (SSi ko kn nx n v (nx+1) H2 tb L) (λj=>L.length-j) (λj=>j<=L.length) 0 (λ_=>rfl) (Xm _) ?_ rfl ?_
     .exact Aw (by simp -implicitDefEqProofs [SSi])
     intro j hj;by_cases hjl:j<L.length
     .obtain⟨c,hc⟩:∃c,L[j]?=some c:=⟨_,Xj hjl⟩
      have i4:=hbt.iaddr hc .i64;have hzb:eB.z=1:=rfl;rw[hzb,show eB.enc c=[.v (.int .u8 (c.toNat:Int))]from rfl]at i4;have w2:Xi.wrap ((j:Int)+1)=((j+1:Nat):Int):=Bb (by omega) (by omega);have hst:=uL hc 14695981039346656037
      obtain⟨s,hs⟩:∃s,s=(L.take j).foldl C9 14695981039346656037:=⟨_,rfl⟩
      have hslt:s<18446744073709551616:=by rw[hs];exact hLlt j
      obtain⟨s',hs'⟩:∃s',s'=(L.take (j+1)).foldl C9 14695981039346656037:=⟨_,rfl⟩
      rw[<-hs,<-hs']at hst;have wc:=uM c;have wx:=uO hslt c;have wm:=uQ s c;rw[<-hst]at wm
      obtain⟨x,hx⟩:∃x,x=s ^^^ c.toNat:=⟨_,rfl⟩
      rw[<-hx]at wx wm;refine AV C ?_;simp -implicitDefEqProofs [SSi,<-hs,hjl,i4,lp,wc,wx,wm,w2];refine A4.mk (j+1) ⟨hjl,by omega⟩ (Aw ?_);rw[<-hs'];simp -implicitDefEqProofs;exact(congrArg (λz:Int=>Xr.wrap (z*1099511628211)) wx).trans wm
     .have ej:j=L.length:=by omega
      subst ej;refine AV C ?_;simp -implicitDefEqProofs [SSi];exact A4.mk () trivial (Aw (by simp -implicitDefEqProofs [Mi]))
    rintro _ _;have eF:=uT (n:=Mi L) (by have:=hLlt L.length;rw[Xt]at this;exact this);rw[<-eL]at eF;have st:=FB (e:=Ar) (ty:=tyS) (c:=sv (nw v)) (x:=nw v) rfl hd2 (i:=v) (by rw[uU];exact hlt) rfl rfl;rw[uW nw hlt]at st;refine AV C ?_;simp -implicitDefEqProofs [eF,i1,st];refine A4.mk ⟨Xe H2 nx (A5 Ar tyS (dnL n nw (v+1))),0⟩ ⟨by show Aj (Xe H2 nx _) nx=_;rw[A7,zu rfl,hd2];rfl,λc hc=>?_,λw hw hwn=>?_,λhf=>(f2 (hfr hf)).upd⟩ (Aw (by simp -implicitDefEqProofs))
    .have:=hS.sp c hc;show Aj (Xe H2 nx _) c=_;rw[A7,zw (by omega)];exact hsp2 c hc
    .by_cases hne:l w=[]
     .exact .inl hne
     .have h1:=(hS.fr w hwn hne).2;refine(hat w (by omega) hwn).imp id λe=>?_;show Aj (Xe H2 nx _) (b w)=_;rw[A7,zw (by omega),k2 (b w) (λhe e'=>by have:=hS.inj w v hwn hlt hne he e';omega)];exact e
   .rintro⟨H3,_⟩ ⟨g1,g2,g3,g4⟩;refine AV C ?_;simp -implicitDefEqProofs [w1];exact A4.mk ⟨H3,v+1⟩ ⟨⟨g1,g2,g3,g4,hlt⟩,by show n-(v+1)<n-v;omega⟩ (Aw (by simp -implicitDefEqProofs [SSh]))
  .have ev:v=n:=by omega
   subst ev;refine AV An ?_;simp -implicitDefEqProofs [SSh];exact A4.mk ⟨H1,0⟩ ⟨hd,hsp,hfr⟩ (Aw (by simp -implicitDefEqProofs))
 rintro⟨H1,_⟩ ⟨g1,g2,g3⟩;rw[uX]at g1;refine AV An ?_;simp -implicitDefEqProofs;exact Bp ⟨.row nx 0 n 1,H1,nx+1⟩ ⟨rfl,rfl,g1,g2,g3⟩ (by simp -implicitDefEqProofs)
theorem ZF:∀(k u:Nat) (acc:List UInt8),u<36^(k+1)->(GK u acc).length<=acc.length+(k+1)
 | 0,u,acc,h=>by
  rw[GK,dif_pos (by simpa using h)];simp
 | k+1,u,acc,h=>by
  rw[GK];split
  .simp
  .have:=ZF k (u / 36) (dgt (u%36)::acc) ((Y3 (by omega)).2 (by rw[Nat.pow_succ]at h;exact h));rw[Xg]at this;omega
theorem v7 {u:Nat} (h:u<18446744073709551616):(wb (f36 u)).length<=13:=by
 have:=ZF 12 u [] (Ys h (by decide));unfold f36;rw[Co];simpa using this
theorem v8 (old:ByteArray) (l:List ByteArray):(wb (Hsh old l)).length<=13:=v7 (ZD _ (by omega))
theorem vA {l:List ByteArray} {x:ByteArray} (h:x∈Bg l):x∈l:=by
 unfold Bg at h;obtain⟨y,hy,rfl⟩:=Xs.1 h;rw[List.mem_mergeSort]at hy;obtain⟨z,hz,rfl⟩:=Xs.1 hy;exact hz
theorem vB (A:List (Int×ByteArray)) (v:Int) (s:ByteArray) (w:Int):nxt (A++[(v,s)]) w=if w=v then nxt A w++[s]else nxt A w:=by
 unfold nxt;rw[List.filter_append,Ym];by_cases h:w=v
 .subst h;simp
 .rw[zw h,List.filter_cons_of_neg (by simp;exact λe=>h e.symm)];simp
theorem ZG (A:List (Int×ByteArray)) (v:Int):(nxt A v).length<=A.length:=by
 unfold nxt;rw[Xh];exact List.length_filter_le _ _
theorem vC {A:List (Int×ByteArray)} {v:Int} {s:ByteArray} (h:s∈nxt A v):(v,s)∈A:=by
 unfold nxt at h;obtain⟨p,hp,rfl⟩:=Xs.1 h;obtain⟨h1,h2⟩:=List.mem_filter.1 hp;rw[show v=p.1 from(of_decide_eq_true h2).symm];exact h1
theorem ZH:AQ Xc (G q) 72 3 15 NQ []:=by
 obtain⟨fn,h1,h2,h3,h4,h5⟩:=oJ (q:=q);exact⟨fn,h1,h2,h3,h4,by omega⟩
theorem FC (k n v:Nat) (h:v<n):BN 1 (.row k 0 n 1) (.t (iv (v:Int)))=some (.ptr k v):=by
 have:=WY (e:=A6) (b:=k) (l:=Xd n 0) (i:=v) (x:=0) (by rw[Yd,zu h]) rfl;rw[Yf]at this;exact this
theorem vD {Sp:List Nat} {H:Ak} {nx kn k5 n:Nat} {b:Nat->Nat} {l:Nat->List ByteArray} (hS:NxS Sp H nx kn n b l) (h5:∃ty,Aj H k5=some (.cells ty [.row kn 0 n 1])) (hk5:k5∈Sp) (h5n:k5≠kn) {v:Nat} (hv:v<n) (s:ByteArray) (hl:(l v).length<=1000000000) :
  ∃f:Fin,(f.r = .t (.tu [])/\f.nx=nx+1/\NxS Sp f.H (nx+1) kn n (λw=>if w=v then nx else b w) (λw=>if w=v then l v++[s]else l w)/\(∀c∈Sp,c≠kn->Aj f.H c=Aj H c)/\(Frs H nx->Frs f.H (nx+1))) /\
   B3 Xc (G q) 72 [.t (iv (v:Int)),.t (sv s),.ptr k5 0] H nx f.r f.H f.nx:=by
 obtain⟨ty5,hb5⟩:=h5;obtain⟨tyN,hrow⟩:=hS.row;have hknl:=hS.sp kn hS.kn;have hk5l:=hS.sp k5 hk5
 have l5:AD false 1 H (.ptr k5 0)=some (.row kn 0 n 1):=by simp[AD,hb5]
 have l1:AD false 1 H (.ptr kn v)=some (Ax Ar (b v) (l v)):=by simp only[AD,hrow,Yb,if_false,Mj b l hv]
 have i1:=FC kn n v hv;by_cases hbv:l v=[]\/b v<nx
 .obtain⟨b0,hb0,hb0l,hb0s⟩:∃b0,Ax Ar (b v) (l v)=Ax Ar b0 (l v)/\b0<nx/\(AK Ar tyS H b0 (l v)/\∀c∈Sp,l v≠[]->c≠b0):=by
   by_cases he:l v=[]
   .refine⟨kn,by rw[he];rfl,hknl,.inl he,λ_ _ h=>absurd he h⟩
   .exact⟨b v,rfl,hbv.resolve_left he,hS.at_ v hv,λc hc h e=>(hS.fr v hv h).1 (e▸hc)⟩
  by_cases he:l v=[]
  .
   have ap:Dp tyS 1 16 H nx (.t Au) (.t (.sl 1 [sv s]))=some (Ax Ar nx ([]++[s]),(nx,A5 Ar tyS ([]++[s]))::H,nx+1):=by
    have hs:CM H Ar.z (.t (.sl 1 [sv s]))=some ([s].length,([s].flatMap Ar.enc).map .t):=by
     have:T.sl 1 [sv s]=slT Ar [s]:=by simp[slT,Ar]
     rw[this];exact JL (.inr rfl)
    exact Nm (e:=Ar) (ty:=tyS) (by':=16) (nx:=nx) (b:=0) (l:=[]) (m:=[s]) (.inl rfl) hs (by simp) (by simp)
   obtain⟨H2,hH2⟩:∃H2:Ak,H2=(nx,A5 Ar tyS [s])::H:=⟨_,rfl⟩
   rw[Yj,<-hH2]at ap
   have k2:∀c,c<nx->Aj H2 c=Aj H c:=λc h=>by rw[hH2,A9,zw (by omega)]
   have st:=BF (H:=H2) (b:=kn) (o:=v) (n:=1) (by rw[k2 kn hknl];exact hrow) (Gc Ar nx [s]) rfl (by rw[Mk];omega);rw[show Cj (nxC n b l) v [Ax Ar nx [s]]=(nxC n b l).set v (Ax Ar nx [s])from rfl,ZE hv]at st
   obtain⟨H3,hH3⟩:∃H3,H3=Xe H2 kn (.cells tyN (nxC n (λw=>if w=v then nx else b w) (λw=>if w=v then [s]else l w))):=⟨_,rfl⟩
   rw[<-hH3]at st
   have l5':AD false 1 H2 (.ptr k5 0)=some (.row kn 0 n 1):=by simp[AD,k2 k5 hk5l,hb5]
   have k3:∀c,c≠kn->Aj H3 c=Aj H2 c:=λc h=>by rw[hH3,A7,zw h]
   refine ZH.callX rfl ?_;(conv in NQ=>cbv);refine AV An ?_;rw[he]at l1;have l1:AD false 1 H (.ptr kn v)=some (.t Au):=l1;simp -implicitDefEqProofs [l5,i1,l1,Mg,ap,l5',st];refine Jl ⟨.t (.tu []),H3,nx+1⟩ ⟨rfl,rfl,⟨⟨tyN,?_⟩,?_,?_,?_,λc hc=>Yt (hS.sp c hc),hS.kn⟩,λc hc hne=>?_,λhf=>?_⟩ (by simp -implicitDefEqProofs)
   .show Aj H3 kn=_;rw[he,Yj,hH3,A7,zu rfl,k2 kn hknl,hrow];rfl
   .intro w hw;show AK Ar tyS H3 (if w=v then nx else b w) (if w=v then l v++[s]else l w);by_cases e:w=v
    .rw[zu e,zu e,he];right;rw[k3 nx (by omega),hH2,A9,zu rfl];rfl
    .rw[zw e,zw e]
     by_cases hne:l w=[]
     .exact .inl hne
     .have:=hS.fr w hw hne
      exact(hS.at_ w hw).imp id λe2=>by rw[k3 (b w) (λe3=>this.1 (e3▸hS.kn)),k2 (b w) this.2];exact e2
   .intro w hw hne;show(if w=v then nx else b w)∉Sp/\(if w=v then nx else b w)<nx+1;by_cases e:w=v
    .rw[zu e];exact⟨λhm=>by have:=hS.sp nx hm;omega,by omega⟩
    .rw[zw e]at hne ⊢;have:=hS.fr w hw hne;exact⟨this.1,by omega⟩
   .intro w w' hw hw' hne hne' heq;have heq:(if w=v then nx else b w)=(if w'=v then nx else b w'):=heq;by_cases e:w=v
    .by_cases e':w'=v
     .rw[e,e']
     .rw[zu e,zw e']at heq;rw[zw e']at hne';have:=(hS.fr w' hw' hne').2;omega
    .rw[zw e]at hne;have h1:=(hS.fr w hw hne).2;by_cases e':w'=v
     .rw[zw e,zu e']at heq;omega
     .rw[zw e']at hne';rw[zw e,zw e']at heq;exact hS.inj w w' hw hw' hne hne' heq
   .have:=hS.sp c hc;show Aj H3 c=_;rw[k3 c hne,k2 c this]
   .show Frs H3 (nx+1);rw[hH3,hH2];exact(hf.cons (Xw _) (Xx _)).upd
  .
   have hb0':=(hS.fr v hv he).2;obtain⟨H2,a2,b2,c2,f2⟩:=EM (by':=16) (nx:=nx) s 1 rfl [sv s] rfl (hS.at_ v hv) hb0' (by omega) (by omega);have hbsp:=(hS.fr v hv he).1;have ks:∀c∈Sp,Aj H2 c=Aj H c:=λc hc=>c2 c (hS.sp c hc) (λe=>hbsp (e▸hc));have st:=BF (H:=H2) (b:=kn) (o:=v) (n:=1) (by rw[ks kn hS.kn];exact hrow) (Gc Ar nx (l v++[s])) rfl (by rw[Mk];omega);rw[show Cj (nxC n b l) v [Ax Ar nx (l v++[s])]=(nxC n b l).set v (Ax Ar nx (l v++[s]))from rfl,ZE hv]at st
   obtain⟨H3,hH3⟩:∃H3,H3=Xe H2 kn (.cells tyN (nxC n (λw=>if w=v then nx else b w) (λw=>if w=v then l v++[s]else l w))):=⟨_,rfl⟩
   rw[<-hH3]at st
   have l5':AD false 1 H2 (.ptr k5 0)=some (.row kn 0 n 1):=by simp[AD,ks k5 hk5,hb5]
   have k3:∀c,c≠kn->Aj H3 c=Aj H2 c:=λc h=>by rw[hH3,A7,zw h]
   refine ZH.callX rfl ?_;(conv in NQ=>cbv);refine AV An ?_;simp -implicitDefEqProofs [l5,i1,l1,Mg,a2,l5',st];refine Jl ⟨.t (.tu []),H3,nx+1⟩ ⟨rfl,rfl,⟨⟨tyN,?_⟩,?_,?_,?_,λc hc=>Yt (hS.sp c hc),hS.kn⟩,λc hc hne=>?_,λhf=>?_⟩ (by simp -implicitDefEqProofs)
   .show Aj H3 kn=_;rw[hH3,A7,zu rfl,ks kn hS.kn,hrow];rfl
   .intro w hw;show AK Ar tyS H3 (if w=v then nx else b w) (if w=v then l v++[s]else l w);by_cases e:w=v
    .rw[zu e,zu e]
     exact b2.imp id λe2=>by rw[k3 nx (by omega)];exact e2
    .rw[zw e,zw e]
     by_cases hne:l w=[]
     .exact .inl hne
     .have h1:=hS.fr w hw hne
      exact(hS.at_ w hw).imp id λe2=>by rw[k3 (b w) (λe3=>h1.1 (e3▸hS.kn)),c2 (b w) h1.2 (λe3=>e (hS.inj w v hw hv hne he e3))];exact e2
   .intro w hw hne;show(if w=v then nx else b w)∉Sp/\(if w=v then nx else b w)<nx+1;by_cases e:w=v
    .rw[zu e];exact⟨λhm=>by have:=hS.sp nx hm;omega,by omega⟩
    .rw[zw e]at hne ⊢;have:=hS.fr w hw hne;exact⟨this.1,by omega⟩
   .intro w w' hw hw' hne hne' heq;have heq:(if w=v then nx else b w)=(if w'=v then nx else b w'):=heq;by_cases e:w=v
    .by_cases e':w'=v
     .rw[e,e']
     .rw[zu e,zw e']at heq;rw[zw e']at hne';have:=(hS.fr w' hw' hne').2;omega
    .rw[zw e]at hne;have h1:=(hS.fr w hw hne).2;by_cases e':w'=v
     .rw[zw e,zu e']at heq;omega
     .rw[zw e']at hne';rw[zw e,zw e']at heq;exact hS.inj w w' hw hw' hne hne' heq
   .show Aj H3 c=_;rw[k3 c hne,ks c hc]
   .show Frs H3 (nx+1);rw[hH3];exact(f2 hf).upd
 .exact absurd (by
   by_cases he:l v=[]
   .exact .inl he
   .exact .inr (hS.fr v hv he).2) hbv
theorem NxS.cons {Sp:List Nat} {H:Ak} {nx kn n:Nat} {b:Nat->Nat} {l:Nat->List ByteArray} (h:NxS Sp H nx kn n b l) (r:Row):NxS (nx::Sp) ((nx,r)::H) (nx+1) kn n b l:=by
 have hk:=h.sp kn h.kn;obtain⟨ty,hr⟩:=h.row;refine⟨⟨ty,by rw[A9,zw (by omega)];exact hr⟩,λv hv=>?_,λv hv hne=>?_,h.inj,λc hc=>?_,X7 _ h.kn⟩
 .by_cases he:l v=[]
  .exact .inl he
  .have:=(h.fr v hv he).2
   exact(h.at_ v hv).imp id λe=>by rw[A9,zw (by omega)];exact e
 .have:=h.fr v hv hne;refine⟨λhm=>?_,by omega⟩;rcases Xn.1 hm with e | e
  .omega
  .exact this.1 e
 .rcases Xn.1 hc with e | e
  .omega
  .exact Yt (h.sp c e)
theorem NxS.less {Sp Sp':List Nat} {H:Ak} {nx kn n:Nat} {b:Nat->Nat} {l:Nat->List ByteArray} (h:NxS Sp H nx kn n b l) (hs:∀c∈Sp',c∈Sp) (hk:kn∈Sp'):NxS Sp' H nx kn n b l:=
 ⟨h.row,h.at_,λv hv hne=>⟨λhm=>(h.fr v hv hne).1 (hs _ hm),(h.fr v hv hne).2⟩,h.inj,λc hc=>h.sp c (hs c hc),hk⟩
theorem NxS.zero {Sp:List Nat} {H:Ak} {nx kn n ty:Nat} (hr:Aj H kn=some (.cells ty (Xd n (.t Au)))) (hs:∀c∈Sp,c<nx) (hk:kn∈Sp):NxS Sp H nx kn n (λ_=>0) (λ_=>[]):=by
 refine⟨⟨ty,?_⟩,λv _=>.inl rfl,λv _ h=>absurd rfl h,λv w _ _ h=>absurd rfl h,hs,hk⟩;rw[hr];congr 2;unfold nxC;refine Yc λi=>?_;rw[Yd,Xu];by_cases hi:i<n
 .rw[zu hi,Yo hi];rfl
 .rw[zw hi,Xv (by simp;omega)];rfl
noncomputable def gPd:List T->Option T
 | [t1,t2]=>open Classical in match tEp.dec t1,(tSl Ar).dec t2 with
  | some x,some out=>if inE out.length x.x/\x.x.args.length<=1000/\(Du out x.x).length<=1000000000 then some (sv (ob (Du out x.x)))else none
  | _,_=>none
 | _=>none
theorem hPd:GOK Xc (G q) 73 gPd:=λargs r hr=>by
 unfold gPd at hr;split at hr
 .rename_i t1 t2;split at hr
  .rename_i x out h1 h2;split at hr
   .rename_i h;injection hr with hr;subst hr;have e1:t1 = .ag x.cs:=tEp.is_dec h1;subst e1;exact uH x.ok ((tSl Ar).is_dec h2) h.1 h.2.1 h.2.2
   .cases hr
  .cases hr
 .cases hr
theorem vE {x:EC} {t:T} {out:List ByteArray} (ht:IsS Ar t out) (hin:inE out.length x.x) (hal:x.x.args.length<=1000) (hsz:(Du out x.x).length<=1000000000):gPd [.ag x.cs,t]=some (sv (ob (Du out x.x))):=by
 simp only[gPd];rw[tEp.dec_is (a:=x) rfl,(tSl Ar).dec_is ht];exact zu ⟨hin,hal,hsz⟩
theorem QW {H:Ak} {nx:Nat} {t:T} {l:List ByteArray} (ht:t=slT Ar l) (hne:l≠[]) (hl:l.length<=1000000) :
  ∃f:Fin,(f.r = .row (nx+1) 0 l.length 1/\f.nx=nx+2/\Aj f.H (nx+1)=some (A5 Ar tyS l)/\(∀c,c<nx->Aj f.H c=Aj H c)/\(Frs H nx->Frs f.H (nx+2))) /\
   B3 Xc (G q) 46 [.t t] H nx f.r f.H f.nx:=by
 subst ht;have hs:CM ((nx,.cells tyS [])::H) Ar.z (.t (slT Ar l))=some (l.length,(l.flatMap Ar.enc).map .t):=JL (.inr rfl);have ap:=JU (e:=Ar) (ty:=tyS) (b:=nx) (l:=[]) (H:=(nx,.cells tyS [])::H) (by':=16) (nx:=nx+1) (m:=l) (by rw[A9,zu rfl];rfl) hs (by simp;omega) (by simp;omega);rw[Yj]at ap;have hz:Ar.z=1:=rfl;rw[hz]at ap
 obtain⟨H2,hH2⟩:∃H2:Ak,H2=(nx+1,A5 Ar tyS l)::rem ((nx,.cells tyS [])::H) nx:=⟨_,rfl⟩
 have ap:Dp tyS 1 16 ((nx,.cells tyS [])::H) (nx+1) (.row nx 0 0 1) (.t (slT Ar l))=some (.row (nx+1) 0 l.length 1,H2,nx+2):=by rw[hH2];exact ap
 refine rI.callX rfl ?_;(conv in WA=>cbv);refine A3 An ?_;simp -implicitDefEqProofs;refine A3 An ?_;have ev:∀(Φ:AP) (H:Ak) (nx:Nat),A0 Φ H nx (.bin false .eql (some .sl)) [.t (slT Ar l),.t (.v (.slice none 0 0))]=some (.t (.v (.bool false)),H,nx):=λ_ _ _=>rfl;simp -implicitDefEqProofs [ev];refine AV An ?_;simp -implicitDefEqProofs [sK,ap]
 exact Bp ⟨.row (nx+1) 0 l.length 1,H2,nx+2⟩ ⟨rfl,rfl,by show Aj H2 (nx+1)=_;rw[hH2,A9,zu rfl],λc hc=>by
  show Aj H2 c=_
  rw[hH2,A9,zw (by omega),BZ,zw (by omega),A9,zw (by omega)],λhf=>by
  show Frs H2 (nx+2);rw[hH2]
  exact((hf.cons (Xw _) (Xx _)).rem).cons (by omega) (by omega)⟩ (by simp -implicitDefEqProofs)
def adJ (out:List ByteArray) (m:Mr) (i:Nat):List (Int×ByteArray):=(m.top,N7)::(m.index,N8)::(m.rels.take i).flatMap (Ff out)
def adI (out:List ByteArray) (m:Mr) (i:Nat) (x:Ep) (j:Nat):List (Int×ByteArray):=adJ out m i++(x.label,ob (N9++Du out x))::(x.args.take j).map λa=>(a.var,ob (wb a.role++32::Du out x))
def adK (out:List ByteArray) (m:Mr) (i:Nat):List (Int×ByteArray):=adJ out m m.rels.length++(m.cons.take i).flatMap (FV out)
section
variable {out : List ByteArray} {m : Mr} {i j : Nat} {x : Ep}
theorem vF:adI out m i x 0=adJ out m i++[(x.label,ob (N9++Du out x))]:=by simp[adI]
theorem vG {a:Ag} (h:x.args[j]?=some a):adI out m i x (j+1)=adI out m i x j++[(a.var,ob (wb a.role++32::Du out x))]:=by
 unfold adI;rw[Xq,h];simp
theorem vH (h:m.rels[i]?=some x):adJ out m (i+1)=adI out m i x x.args.length:=by
 unfold adJ adI;rw[Xq,h,Xt];simp[Ff,adJ]
theorem vI {c:Qq} (h:m.cons[i]?=some c):adK out m (i+1)=adK out m i++[(c.high,ob (PC++wb (vS out c.low)))]++[(c.low,ob (PD++wb (vS out c.high)))]:=by
 unfold adK;rw[Xq,h];simp[FV]
theorem ZI:adK out m m.cons.length=D7 out m:=by
 unfold adK adJ D7;rw[Xt,Xt];rfl
theorem vJ (x:Ep):(Ff out x).length=(B7 x).length:=by simp[Ff,B7]
theorem QX:(adJ out m i).length=(BC m i).length:=by
 unfold adJ BC;simp only[Xg,Zd,vJ]
theorem vK:(adI out m i x j).length=(Cs m i x j).length:=by
 unfold adI Cs;rw[Xf,Xf,QX];simp
theorem QY:(adK out m i).length=(BL m i).length:=by
 unfold adK BL;rw[Xf,Xf,QX];simp only[Zd];rfl
end
theorem Jm {out:List ByteArray} (h:∀s∈out,(wb s).length<=32) (x:Int):(wb (vS out x)).length<=32:=by
 unfold vS;rw[Yu]
 cases hx:out[x.toNat]? with
 | none=>simp
 | some s=>exact h s (Xp hx)
structure SzN (m:Mr):Prop where
 p:∀x∈m.rels,(wb x.pred).length<=32
 a:∀x∈m.rels,∀a∈x.args,(wb a.role).length<=32
 v:∀s∈m.vars,(wb s).length<=32
theorem szN {m:Mr} (h:E8 AN m):SzN m:=⟨λx hx=>O0 (QQ (h.preds x hx)).1,λx hx a ha=>O0 ((QQ (h.preds x hx)).2 a ha),λs hs=>by
 obtain⟨c,rfl,_⟩:=QR (h.sorts s hs)
 show 1<=32;omega⟩
theorem ZJ {m:Mr} (hz:SzN m) (hs:SmM m) {out:List ByteArray} (ho:∀s∈out,(wb s).length<=32) {x:Ep} (hx:x∈m.rels):(Du out x).length<=70000:=by
 have h1:=hz.p x hx;have h2:=Jm ho x.label
 have h3:(x.args.flatMap (EI out)).length<=x.args.length*66:=by
  have:∀l:List Ag,(∀a∈l,(wb a.role).length<=32)->(l.flatMap (EI out)).length<=l.length*66:=λl=>by
   induction l with
   | nil=>intro _;simp
   | cons a l ih=>
    intro h;have ha:=h a (by simp);have hv:=Jm ho a.var;have:=ih λb hb=>h b (by simp[hb])
    have hA:(EI out a).length=1+((wb a.role).length+(1+(wb (vS out a.var)).length)):=by
     unfold EI;simp only[Xg,Xf];omega
    rw[Ya,Xf,Xg,Nat.succ_mul];omega
  exact this _ (hz.a x hx)
 have h4:=hs.args x hx;have h5:x.args.length*66<=1000*66:=X9 _ h4;unfold Du;simp only[Xf,Xg,Xk];omega
theorem vL {m:Mr} (hz:SzN m) (hs:SmM m) {out:List ByteArray} (ho:∀s∈out,(wb s).length<=32):∀p∈D7 out m,(wb p.2).length<=80000:=λp hp=>by
 simp only[D7,Xn,Ze,List.mem_flatMap]at hp;rcases hp with rfl | rfl | ⟨x,hx,hp⟩ | ⟨c,hc,hp⟩
 .show 3<=80000;omega
 .show 5<=80000;omega
 .have h1:=ZJ hz hs ho hx;unfold Ff at hp;rcases Xn.1 hp with rfl | hp
  .rw[Co,Xf];show 6+_<=80000;omega
  .obtain⟨g,hg,rfl⟩:=Xs.1 hp;have:=hz.a x hx g hg;rw[Co,Xf,Xg];omega
 .have h1:=Jm ho c.low;have h2:=Jm ho c.high;unfold FV at hp;simp only[Xn,Yk,or_false]at hp;rcases hp with rfl | rfl
  .rw[Co,Xf];show 5+_<=80000;omega
  .rw[Co,Xf];show 4+_<=80000;omega
structure PfS (X:Row) (out:List ByteArray) (Sp:List Nat) (A:List (Int×ByteArray)) (H:Ak) (nx ko kn k5 n:Nat):Prop where
 x:Aj H 0=some X
 o:Aj H ko=some (A5 Ar tyS out)
 b5:∃ty,Aj H k5=some (.cells ty [.row kn 0 n 1])
 nxs:∃b,NxS Sp H nx kn n b λv:Nat=>nxt A (v:Int)
 m0:0∈Sp
 mo:ko∈Sp
 m5:k5∈Sp
 n0:0≠kn
 no:ko≠kn
 n5:k5≠kn
theorem PfS.add {X:Row} {out:List ByteArray} {Sp:List Nat} {A:List (Int×ByteArray)} {H:Ak} {nx ko kn k5 n:Nat} (h:PfS X out Sp A H nx ko kn k5 n) {v:Int} (hv:inR n v) (s:ByteArray) (hl:A.length<=1000000000) :
  ∃(H':Ak) (nx':Nat) (t:List PV->Ak->Nat->Option (PV×Ak×Nat)),t [.t (.v (.int .i64 v)),.t (.v (.string s)),.ptr k5 0] H nx=some (.t (.tu []),H',nx')/\HOK Xc (G q) 72 t /\
   PfS X out Sp (A++[(v,s)]) H' nx' ko kn k5 n/\∀c∈Sp,c≠kn->Aj H' c=Aj H c:=by
 obtain⟨b,hb⟩:=h.nxs
 obtain⟨w,rfl⟩:∃w:Nat,v=(w:Int):=⟨v.toNat,by have:=hv.1;omega⟩
 have hw:w<n:=by have:=hv.2;omega
 obtain⟨⟨r,H',nx'⟩,⟨h1,h2,h3,h4,h5⟩,hc⟩:=vD (q:=q) hb h.b5 h.m5 h.n5 hw s (Xy (ZG A _) hl);simp only at h1 h2 h3 h4 h5 hc;subst h1;subst h2;obtain⟨t,t1,t2⟩:=hAt hc h5;refine⟨H',nx+1,t,t1,t2,⟨by rw[h4 0 h.m0 h.n0];exact h.x,by rw[h4 ko h.mo h.no];exact h.o,by rw[h4 k5 h.m5 h.n5];exact h.b5,⟨λu=>if u=w then nx else b u,?_⟩,h.m0,h.mo,h.m5,h.n0,h.no,h.n5⟩,h4⟩
 .have e:(λu:Nat=>nxt (A++[((w:Int),s)]) (u:Int))=λu:Nat=>if u=w then nxt A (w:Int)++[s]else nxt A (u:Int):=by
   funext u;rw[vB];by_cases e:u=w
   .subst e;rw[zu rfl,zu rfl]
   .rw[zw e,zw (by omega)]
  rw[e];exact h3
theorem PfS.push {X:Row} {out:List ByteArray} {Sp:List Nat} {A:List (Int×ByteArray)} {H:Ak} {nx ko kn k5 n:Nat} (h:PfS X out Sp A H nx ko kn k5 n) (r:Row):PfS X out (nx::Sp) A ((nx,r)::H) (nx+1) ko kn k5 n:=by
 obtain⟨b,hb⟩:=h.nxs;have h0:=hb.sp 0 h.m0;have ho:=hb.sp ko h.mo;have h5:=hb.sp k5 h.m5;exact⟨by rw[A9,zw (by omega)];exact h.x,by rw[A9,zw (by omega)];exact h.o,by rw[A9,zw (by omega)];exact h.b5,⟨b,hb.cons r⟩,X7 _ h.m0,X7 _ h.mo,X7 _ h.m5,h.n0,h.no,h.n5⟩
theorem PfS.less {X:Row} {out:List ByteArray} {Sp Sp':List Nat} {A:List (Int×ByteArray)} {H:Ak} {nx ko kn k5 n:Nat} (h:PfS X out Sp A H nx ko kn k5 n) (hs:∀c∈Sp',c∈Sp) (m0:0∈Sp') (mo:ko∈Sp') (m5:k5∈Sp') (mk:kn∈Sp'):PfS X out Sp' A H nx ko kn k5 n:=by
 obtain⟨b,hb⟩:=h.nxs;exact⟨h.x,h.o,h.b5,⟨b,hb.less hs mk⟩,m0,mo,m5,h.n0,h.no,h.n5⟩
theorem PfS.nx0 {X:Row} {out:List ByteArray} {Sp:List Nat} {A:List (Int×ByteArray)} {H:Ak} {nx ko kn k5 n:Nat} (h:PfS X out Sp A H nx ko kn k5 n):0<nx/\ko<nx/\k5<nx/\kn<nx:=by
 obtain⟨b,hb⟩:=h.nxs;exact⟨hb.sp 0 h.m0,hb.sp ko h.mo,hb.sp k5 h.m5,hb.sp kn hb.kn⟩
def FD (m:Mr):Nat->List ByteArray
 | 0=>m.vars
 | i+1=>rnd Hsh Bg m (FD m i)
theorem ZK (m:Mr):∀i,(FD m i).length=m.vars.length
 | 0=>rfl
 | i+1=>by
  show(rnd Hsh Bg m (FD m i)).length=_;unfold rnd;rw[Xh,Cv]
theorem vM {m:Mr} (hz:SzN m):∀i,∀s∈FD m i,(wb s).length<=32
 | 0=>hz.v
 | i+1=>λs hs=>by
  have hs:s∈rnd Hsh Bg m (FD m i):=hs;unfold rnd at hs;obtain⟨v,_,rfl⟩:=Xs.1 hs;exact Xy (v8 _ _) (by omega)
theorem vN (f:Fn) (k:Nat):exM (.mkf f 0) [.ptr k 0]=some (.fn f [] [.ptr k 0]):=rfl
structure PfC where
 H:Ak
 nx:Nat
 ko:Nat
 i:Nat
structure PfD where
 H:Ak
 nx:Nat
 i:Nat
def SPf (n:Nat) (c:PfC):Am:=⟨[(4,.t (iv (c.i:Int))),(3,.row c.ko 0 n 1),(1,.ptr 0 0)],c.H,c.nx,99⟩
abbrev fnA (k:Nat):PV:=.fn (.func 72) [] [.ptr k 0]
def SPg (tr:T) (r n ko k5 N:Nat) (c:PfD):Am:=⟨[(36,.t (iv (c.i:Int))),(35,.t (iv (N:Int))),(34,.t tr),(6,fnA k5),(5,.ptr k5 0),(4,.t (iv (r:Int))),(3,.row ko 0 n 1),(1,.ptr 0 0)],c.H,c.nx,99⟩
def SPh (tc:T) (r n ko k5 N:Nat) (c:PfD):Am:=⟨[(70,.t (iv (c.i:Int))),(69,.t (iv (N:Int))),(68,.t tc),(6,fnA k5),(5,.ptr k5 0),(4,.t (iv (r:Int))),(3,.row ko 0 n 1),(1,.ptr 0 0)],c.H,c.nx,99⟩
def SPk (tr ta:T) (s9:ByteArray) (i r n ko k5 N M:Nat) (c:PfD):Am:=⟨[(52,.t (iv (c.i:Int))),(51,.t (iv (M:Int))),(50,.t ta),(9,.t (sv s9)),(36,.t (iv (i:Int))),(35,.t (iv (N:Int))),(34,.t tr),(6,fnA k5),(5,.ptr k5 0),(4,.t (iv (r:Int))),(3,.row ko 0 n 1),(1,.ptr 0 0)],c.H,c.nx,99⟩
theorem ZL {m:Mr} {cs:List T} (hm:BJ m cs) (hs:SmM m) (hL:E8 AN m) (hoc:(occ m).length<=900):Bc Xc (G q) 44 [.ag cs] (· = slT Ar (Cd Hsh Bg m)):=by
 have hz:=szN hL;have ho:=hL.ok;obtain⟨tv,tr,tc,rl,rfl,hv,hr,hrm,hc⟩:=hm
 obtain⟨X,hX⟩:∃X,X=Br [iv m.top,iv m.index,tv,tr,tc]:=⟨_,rfl⟩
 have ld:∀{H:Ak},Aj H 0=some X->LdM (iv m.top) (iv m.index) tv tr tc H 0:=λh=>ldM (by rw[h,hX]);have lr:=hr.len;have lc:=hc.len
 have hrl:rl.length=m.rels.length:=by rw[<-hrm,Xh]
 have hsr:=hs.rels;have hsc:=hs.cons;have hsv:=hs.vars;have cd:=cd5 (iv m.top) (iv m.index) tv tr tc
 have hn0:0<m.vars.length:=by have:=ho.top.1;have:=ho.top.2;omega
 have hne:m.vars≠[]:=λe=>by rw[e]at hn0;simp at hn0
 have hvt:tv=slT Ar m.vars:=hv.resolve_left λh=>hne h.2
 obtain⟨n,hn⟩:∃n,n=m.vars.length:=⟨_,rfl⟩
 obtain⟨R,hR⟩:∃R,R=slT Ar (Cd Hsh Bg m):=⟨_,rfl⟩
 have hR3:R=slT Ar (FD m 3):=hR;rw[<-hR];refine oI.call rfl ?_;(conv in UM=>cbv);refine Ao An ?_;simp -implicitDefEqProofs [cd];rw[show Row.cells 26 [.t (iv m.top),.t (iv m.index),.t tv,.t tr,.t tc]=X from hX.symm];have z0:=ld (H:=[(0,X)]) rfl;obtain⟨⟨r1,H1,n1⟩,⟨a1,a2,a3,a4,a5⟩,hcl⟩:=QW (q:=q) (H:=[(0,X)]) (nx:=1) hvt hne (by omega);simp only at a1 a2 a3 a4 a5 hcl;subst a1;subst a2;obtain⟨t1,o1,ok1⟩:=hAt hcl a5;refine Ao (AB.nil.ctxH (AG.cons ok1 .nil) mixed) ?_;simp -implicitDefEqProofs [z0.l2,o1];refine AZ (λc:PfC=>⟨[(3,.row c.ko 0 n 1)],c.H,c.nx,99⟩) (λc=>Aj c.H c.ko=some (A5 Ar tyS (FD m 3))) (λ_=>rfl) ?_ ?_
 .refine Ao An ?_;simp -implicitDefEqProofs;refine AY ?_;refine Bj (SPf n) (λc=>3-c.i) (λc=>Aj c.H 0=some X/\Aj c.H c.ko=some (A5 Ar tyS (FD m c.i))/\0<c.ko/\c.ko<c.nx/\c.i<=3) ⟨H1,3,2,0⟩ (λ_=>rfl) ⟨by rw[a4 0 (by omega)];rfl,a3,by show 0<2;omega,by show 2<3;omega,by show 0<=3;omega⟩ ?_ rfl ?_
  .exact Aw (by simp -implicitDefEqProofs [SPf,hn])
  rintro⟨H,nx,ko,r⟩ ⟨h0,hko,k0,kl,hr3⟩;simp only at h0 hko k0 kl hr3;by_cases hlt:r<3
  .have hlti:(r:Int)<3:=by omega
   obtain⟨out,hout⟩:∃out,out=FD m r:=⟨_,rfl⟩
   have hol:out.length=n:=by rw[hout,ZK,hn]
   have hosz:∀s∈out,(wb s).length<=32:=by rw[hout];exact vM hz r
   have hnext:FD m (r+1)=rnd Hsh Bg m out:=by rw[hout];rfl
   rw[<-hout]at hko;have w1:Xi.wrap ((r:Int)+1)=((r+1:Nat):Int):=Bb (by omega) (by omega);have hTo:IsS Ar (slT Ar out) out:=.inr rfl;have mk:=Iv (ty:=22) (by':=24) (n:=n) (nx:=nx) (.slice none 0 0) (by omega) (by omega)
   have lko:∀{H:Ak},Aj H ko=some (A5 Ar tyS out)->toT H (.row ko 0 n 1)=some (slT Ar out,[ko]):=λh=>by
    have:=DN (e:=Ar) h;rw[hol]at this;exact this
   have tPd:∀{H:Ak} (x:T),Aj H ko=some (A5 Ar tyS out)->Bn H [.t x,.row ko 0 n 1]=some ([x,slT Ar out],[ko]):=λx h=>by
    simp only[Bn,tZ,lko h];rfl
   have iv1:∀v:Int,inR m.vars.length v->BN 1 (.row ko 0 n 1) (.t (iv v))=some (.ptr ko v.toNat):=λv hv=>by
    obtain⟨k,rfl⟩:∃k:Nat,v=(k:Int):=⟨v.toNat,by have:=hv.1;omega⟩
    exact FC ko n k (by have:=hv.2;omega)
   have lv1:∀{H:Ak} (v:Int),inR m.vars.length v->Aj H ko=some (A5 Ar tyS out)->AD false 1 H (.ptr ko v.toNat)=some (.t (sv (vS out v))):=λv hv h=>by
    obtain⟨k,rfl⟩:∃k:Nat,v=(k:Int):=⟨v.toNat,by have:=hv.1;omega⟩
    exact GD (e:=Ar) (c:=sv (vS out (k:Int))) h (GE (by have:=hv.2;omega)) rfl rfl
   obtain⟨kn,hkn⟩:∃kn,kn=nx:=⟨_,rfl⟩
   obtain⟨k5,hk5⟩:∃k5,k5=nx+1:=⟨_,rfl⟩
   obtain⟨n2,hn2⟩:∃n2,n2=nx+2:=⟨_,rfl⟩
   obtain⟨Hm,hHm⟩:∃Hm:Ak,Hm=(nx,.cells 22 (Xd n (.t Au)))::H:=⟨_,rfl⟩
   obtain⟨Hb,hHb⟩:∃Hb:Ak,Hb=(nx+1,.cells 99 [.row nx 0 n 1])::Hm:=⟨_,rfl⟩
   have stb:∀p,AO 1 ((nx+1,.cells 99 [p])::Hm) (.ptr (nx+1) 0) (.row nx 0 n 1)=some Hb:=λp=>by
    have:Bq (.row nx 0 n 1)=some [.row nx 0 n 1]:=rfl;rw[hHb];simp[AO,this,upd,Cj]
   have kb:∀c,c<nx->Aj Hb c=Aj H c:=λc h=>by rw[hHb,A9,zw (by omega),hHm,A9,zw (by omega)]
   have P0:PfS X out [0,ko,k5,kn] [] Hb n2 ko kn k5 n:=by
    rw[hk5,hkn,hn2];refine⟨by rw[kb 0 (by omega)];exact h0,by rw[kb ko kl];exact hko,⟨_,by rw[hHb,A9,zu rfl]⟩,⟨λ_=>0,?_⟩,by simp,by simp,by simp,by omega,by omega,by omega⟩;refine NxS.zero (ty:=22) (by rw[hHb,A9,zw (by omega),hHm,A9,zu rfl]) (λc hc=>?_) (by simp);simp only[Xn,Yk,or_false]at hc;omega
   obtain⟨H2,n3,t2,o2,ok2,P2,K2⟩:=P0.add (q:=q) (v:=m.top) (by rw[hn];exact ho.top) N7 (by simp);obtain⟨H3,n4,t3,o3,ok3,P3,K3⟩:=P2.add (q:=q) (v:=m.index) (by rw[hn];exact ho.index) N8 (by simp);have o2:t2 [.t (.v (.int .i64 m.top)),.t (.v (.string ⟨#[116,111,112]⟩)),.ptr k5 0] Hb n2=some (.t (.tu []),H2,n3):=o2;have o3:t3 [.t (.v (.int .i64 m.index)),.t (.v (.string ⟨#[105,110,100,101,120]⟩)),.ptr k5 0] H2 n3=some (.t (.tu []),H3,n4):=o3
   have P3:PfS X out [0,ko,k5,kn] (adJ out m 0) H3 n4 ko kn k5 n:=by
    have e:[]++[(m.top,N7)]++[(m.index,N8)]=adJ out m 0:=by simp[adJ]
    rw[<-e];exact P3
   have zb:=ld P0.x;have z2:=ld P2.x;have z3:=ld P3.x;refine Ao An ?_;simp -implicitDefEqProofs [SPf,hlti,hlt];refine AZ (λc:PfC=>⟨[(4,.t (iv (r:Int))),(3,.row c.ko 0 n 1),(1,.ptr 0 0)],c.H,c.nx,99⟩) (λc=>Aj c.H 0=some X/\Aj c.H c.ko=some (A5 Ar tyS (FD m (r+1)))/\0<c.ko/\c.ko<c.nx) (λ_=>rfl) ?_ ?_
   .refine AY ?_;refine Ao An ?_;simp -implicitDefEqProofs [PQ,mk];rw[<-hHm];simp -implicitDefEqProofs [stb];refine Ao An ?_;simp -implicitDefEqProofs [vN];refine MC.sub (s':=⟨[(6,fnA k5),(5,.ptr k5 0),(4,.t (iv (r:Int))),(3,.row ko 0 n 1),(1,.ptr 0 0)],Hb,n2,99⟩) (by rw[hn2,hk5];exact Aw (by simp -implicitDefEqProofs)) rfl ?_;refine Ao (AB.nil.ctxH (AG.cons ok2 .nil) mixed) ?_;simp -implicitDefEqProofs [zb.l0,o2];refine Ao (AB.nil.ctxH (AG.cons ok3 .nil) mixed) ?_;simp -implicitDefEqProofs [z2.l1,o3];refine AZ (λc:PfD=>⟨[(6,fnA k5),(5,.ptr k5 0),(4,.t (iv (r:Int))),(3,.row ko 0 n 1),(1,.ptr 0 0)],c.H,c.nx,99⟩) (λc=>PfS X out [0,ko,k5,kn] (adJ out m m.rels.length) c.H c.nx ko kn k5 n) (λ_=>rfl) ?_ ?_
    .refine Ao An ?_;simp -implicitDefEqProofs [z3.l3,lr];refine AY ?_;refine Bj (SPg tr r n ko k5 rl.length) (λc=>m.rels.length-c.i) (λc=>PfS X out [0,ko,k5,kn] (adJ out m c.i) c.H c.nx ko kn k5 n/\c.i<=m.rels.length) ⟨H3,n4,0⟩ (λ_=>rfl) ⟨P3,Xm _⟩ ?_ rfl ?_
     .exact Aw (by simp -implicitDefEqProofs [SPg])
     rintro⟨Ha,na,i⟩ ⟨hP,hi⟩;simp only at hP hi;by_cases hil:i<rl.length
     .obtain⟨c,hc1⟩:∃c,rl[i]?=some c:=⟨_,Xj (by omega)⟩
      have hx:m.rels[i]?=some c.x:=by rw[<-hrm,Xu,hc1];rfl
      have hxm:=Xp hx
      have hin:inE out.length c.x:=λv hv=>by rw[hol,hn];exact ho.rel hxm hv
      have hal:=hs.args c.x hxm;have hps:=ZJ hz hs hosz hxm;have ePd:=vE (x:=c) hTo hin hal (Xy hps (by omega));obtain⟨ta,hcs,hta⟩:=c.ok;rw[hcs]at ePd;have la:=hta.len;have i1:=hr.iaddr hc1 .i64;have hze:eEC.z=3:=rfl;rw[hze,show eEC.enc c=c.cs from rfl,hcs]at i1
      obtain⟨x,hxe⟩:∃x,x=c.x:=⟨_,rfl⟩
      rw[<-hxe]at hx hxm hta la hal i1 ePd hps hin;have w2:Xi.wrap ((i:Int)+1)=((i+1:Nat):Int):=Bb (by omega) (by omega);have s3:∀a b d,AO 3 ((na,.cells tyE [a,b,d])::Ha) (.ptr na 0) (.t (.ag [sv x.pred,iv x.label,ta]))=some ((na,Ca x.pred x.label ta)::Ha):=λa b d=>st3 na a b d (sv x.pred) (iv x.label) ta tyE Ha (cd3 _ _ _);have P4:=hP.push (Ca x.pred x.label ta)
      obtain⟨Hc,hHc⟩:∃Hc,Hc=(na,Ca x.pred x.label ta)::Ha:=⟨_,rfl⟩
      obtain⟨nc,hnc⟩:∃nc,nc=na+1:=⟨_,rfl⟩
      rw[<-hHc]at s3 P4;rw[<-hnc]at P4
      have xc:Aj Hc na=some (Ca x.pred x.label ta):=by rw[hHc,A9,zu rfl]
      have ze:=ldE xc
      have lall:AD true 3 Hc (.ptr na 0)=some (.t (.ag [sv x.pred,iv x.label,ta])):=by simp only[AD,xc];rfl
      have hAl:(adJ out m i).length<=1000000000:=by rw[QX];have:=JX hs i (by omega);have:i*100001<=1000*100001:=X9 _ (by omega);omega
      obtain⟨S9,hS9⟩:∃S,S=Du out x:=⟨_,rfl⟩
      rw[<-hS9]at ePd hps;obtain⟨SL,qL,nL,pL⟩:=C8 N9 S9 (b:=ob S9) rfl (by show 6+_<=_;omega);have pL:∀(Φ:AP) (H:Ak) (nx:Nat),A0 Φ H nx (.bin false .add none) [.t (.v (.string ⟨#[108,97,98,101,108,32]⟩)),.t (.v (.string (ob S9)))]=some (.t (.v (.string (ob SL))),H,nx):=pL;obtain⟨Hd,nd,td,od,okd,Pd,Kd⟩:=P4.add (q:=q) (v:=x.label) (by rw[<-hol];exact hin _ (by simp[B7])) (ob SL) hAl
      have eL:adJ out m i++[(x.label,ob SL)]=adI out m i x 0:=by rw[vF,qL,hS9]
      rw[eL]at Pd
      have nakn:na≠kn:=by have:=hP.nx0;omega
      have zd:=ldE (H:=Hd) (k:=na) (p:=x.pred) (l:=x.label) (ta:=ta) (by rw[Kd na (by simp) nakn];exact xc);have Pd':PfS X out [0,ko,k5,kn] (adI out m i x 0) Hd nd ko kn k5 n:=Pd.less (λc hc=>X7 _ hc) (by simp) (by simp) (by simp) (by simp);refine Ao An ?_;simp -implicitDefEqProofs [SPg,hil];refine Ao An ?_;simp -implicitDefEqProofs;refine AZ (λc:PfD=>⟨[(36,.t (iv (i:Int))),(35,.t (iv (rl.length:Int))),(34,.t tr),(6,fnA k5),(5,.ptr k5 0),(4,.t (iv (r:Int))),(3,.row ko 0 n 1),(1,.ptr 0 0)],c.H,c.nx,99⟩) (λc=>PfS X out [0,ko,k5,kn] (adJ out m (i+1)) c.H c.nx ko kn k5 n) (λ_=>rfl) ?_ ?_
      .refine AY ?_;refine Ao An ?_;simp -implicitDefEqProofs [i1,Fz,s3];refine Ao ((AB.cons (hPd (q:=q)) .nil).ctx mixed) ?_;simp -implicitDefEqProofs [lall,tPd _ P4.o,ePd,-Bn];refine MC.sub (s':=⟨[(9,.t (.v (.string (ob S9)))),(8,.ptr na 0),(36,.t (iv (i:Int))),(35,.t (iv (rl.length:Int))),(34,.t tr),(6,fnA k5),(5,.ptr k5 0),(4,.t (iv (r:Int))),(3,.row ko 0 n 1),(1,.ptr 0 0)],Hc,nc,99⟩) (by rw[hnc];exact Aw (by simp -implicitDefEqProofs)) rfl ?_;refine Ao (AB.nil.ctxH (AG.cons okd .nil) mixed) ?_;simp -implicitDefEqProofs [ze.l1,pL,od];refine Ao An ?_;simp -implicitDefEqProofs [zd.l2,la];refine AY ?_;refine Bj (SPk tr ta (ob S9) i r n ko k5 rl.length x.args.length) (λc=>x.args.length-c.i) (λc=>PfS X out [0,ko,k5,kn] (adI out m i x c.i) c.H c.nx ko kn k5 n/\c.i<=x.args.length) ⟨Hd,nd,0⟩ (λ_=>rfl) ⟨Pd',Xm _⟩ ?_ rfl ?_
       .exact Aw (by simp -implicitDefEqProofs [SPk])
       rintro⟨He,ne,j⟩ ⟨hQ,hj⟩;simp only at hQ hj;by_cases hjl:j<x.args.length
       .obtain⟨g,hg⟩:∃g,x.args[j]?=some g:=⟨_,Xj hjl⟩
        have hgm:=Xp hg;have i2:=hta.iaddr hg .i64;have hz2:eAg.z=2:=rfl;rw[hz2,show eAg.enc g=[sv g.role,iv g.var]from rfl]at i2;have w3:Xi.wrap ((j:Int)+1)=((j+1:Nat):Int):=Bb (by omega) (by omega);have u1:∀a b,AO 2 ((ne,.cells tyA [a,b])::He) (.ptr ne 0) (.t (.ag [sv g.role,iv g.var]))=some ((ne,.cells tyA [.t (sv g.role),.t (iv g.var)])::He):=λa b=>st2 ne a b _ _ tyA He;have P5:=hQ.push (Row.cells tyA [.t (sv g.role),.t (iv g.var)])
        obtain⟨Hf,hHf⟩:∃Hf,Hf=(ne,Row.cells tyA [.t (sv g.role),.t (iv g.var)])::He:=⟨_,rfl⟩
        rw[<-hHf]at u1 P5;have lf:=Eg (H:=Hf) (b:=ne) (ty:=tyA) (p0:=.t (sv g.role)) (p1:=.t (iv g.var)) (by rw[hHf,A9,zu rfl]);have hro:=hz.a x hxm g hgm;obtain⟨V1,y1,m1,v1⟩:=C8 (wb g.role) [32] (b:=⟨#[32]⟩) rfl (by simp only[Xl];omega);have v1:∀(Φ:AP) (H:Ak) (nx:Nat),A0 Φ H nx (.bin false .add none) [.t (.v (.string g.role)),.t (.v (.string ⟨#[32]⟩))]=some (.t (.v (.string (ob V1))),H,nx):=v1;simp only[Xl]at m1;obtain⟨V2,y2,m2,v2⟩:=C8 V1 S9 (b:=ob S9) rfl (by omega)
        have hBl:(adI out m i x j).length<=1000000000:=by rw[vK];have:=PY hs (i:=i) (j:=j) hxm (by omega);omega
        obtain⟨Hg,ng,tg,og,okg,Pg,Kg⟩:=P5.add (q:=q) (v:=g.var) (by rw[<-hol];exact hin _ (by simp only[B7,Xn,Xs];exact .inr ⟨g,hgm,rfl⟩)) (ob V2) hBl
        have eV:adI out m i x j++[(g.var,ob V2)]=adI out m i x (j+1):=by rw[vG hg,y2,y1,hS9];simp
        rw[eV]at Pg;refine A8 (AB.nil.ctxH (AG.cons okg .nil) mixed) ?_;simp -implicitDefEqProofs [SPk,hjl,i2,D2,u1,lf.1,lf.2,v1,v2,og,w3];exact A4.mk ⟨Hg,ng,j+1⟩ ⟨⟨Pg.less (λc hc=>X7 _ hc) (by simp) (by simp) (by simp) (by simp),hjl⟩,by show x.args.length-(j+1)<x.args.length-j;omega⟩ (Aw (by simp -implicitDefEqProofs [SPk]))
       .have ej:j=x.args.length:=by omega
        subst ej;refine A8 An ?_;simp -implicitDefEqProofs [SPk];exact A4.mk ⟨He,ne,0⟩ (by show PfS X out _ (adJ out m (i+1)) He ne ko kn k5 n;rw[vH hx];exact hQ) (Aw (by simp -implicitDefEqProofs))
      .rintro⟨He,ne,_⟩ hQ;refine A8 An ?_;simp -implicitDefEqProofs [w2];exact A4.mk ⟨He,ne,i+1⟩ ⟨⟨hQ,by show i+1<=_;omega⟩,by show m.rels.length-(i+1)<m.rels.length-i;omega⟩ (Aw (by simp -implicitDefEqProofs [SPg]))
     .have ei:i=m.rels.length:=by omega
      subst ei;refine A8 An ?_;simp -implicitDefEqProofs [SPg,hil];exact A4.mk ⟨Ha,na,0⟩ hP (Aw (by simp -implicitDefEqProofs))
    clear P0 P2 P3 zb z2 z3 o2 o3 K2 K3;rintro⟨Ha,na,_⟩ hP;simp only at hP
    have hP:PfS X out [0,ko,k5,kn] (adK out m 0) Ha na ko kn k5 n:=by
     have e:adK out m 0=adJ out m m.rels.length:=by simp[adK]
     rw[e];exact hP
    have za:=ld hP.x;refine AZ (λc:PfD=>⟨[(6,fnA k5),(5,.ptr k5 0),(4,.t (iv (r:Int))),(3,.row ko 0 n 1),(1,.ptr 0 0)],c.H,c.nx,99⟩) (λc=>PfS X out [0,ko,k5,kn] (D7 out m) c.H c.nx ko kn k5 n) (λ_=>rfl) ?_ ?_
    .refine Ao An ?_;simp -implicitDefEqProofs [za.l4,lc];refine AY ?_;refine Bj (SPh tc r n ko k5 m.cons.length) (λc=>m.cons.length-c.i) (λc=>PfS X out [0,ko,k5,kn] (adK out m c.i) c.H c.nx ko kn k5 n/\c.i<=m.cons.length) ⟨Ha,na,0⟩ (λ_=>rfl) ⟨hP,Xm _⟩ ?_ rfl ?_
     .exact Aw (by simp -implicitDefEqProofs [SPh])
     clear hP za;rintro⟨Ha,na,i⟩ ⟨hP,hi⟩;simp only at hP hi;by_cases hil:i<m.cons.length
     .obtain⟨c,hc1⟩:∃c,m.cons[i]?=some c:=⟨_,Xj (by omega)⟩
      have hcm:=Xp hc1;have i1:=hc.iaddr hc1 .i64;have hzq:eQq.z=2:=rfl;rw[hzq,show eQq.enc c=[iv c.high,iv c.low]from rfl]at i1;have w2:Xi.wrap ((i:Int)+1)=((i+1:Nat):Int):=Bb (by omega) (by omega);have u1:∀a b,AO 2 ((na,.cells tyQ [a,b])::Ha) (.ptr na 0) (.t (.ag [iv c.high,iv c.low]))=some ((na,.cells tyQ [.t (iv c.high),.t (iv c.low)])::Ha):=λa b=>st2 na a b _ _ tyQ Ha;have P4:=hP.push (Row.cells tyQ [.t (iv c.high),.t (iv c.low)])
      obtain⟨Hc,hHc⟩:∃Hc,Hc=(na,Row.cells tyQ [.t (iv c.high),.t (iv c.low)])::Ha:=⟨_,rfl⟩
      obtain⟨nc,hnc⟩:∃nc,nc=na+1:=⟨_,rfl⟩
      rw[<-hHc]at u1 P4;rw[<-hnc]at P4
      have xc:Aj Hc na=some (Row.cells tyQ [.t (iv c.high),.t (iv c.low)]):=by rw[hHc,A9,zu rfl]
      have lc1:=Eg xc;have inh:=ho.con hcm (v:=c.high) (by simp[BE]);have inl:=ho.con hcm (v:=c.low) (by simp[BE]);have hh:=Jm hosz c.high;have hl:=Jm hosz c.low;obtain⟨SH,qH,nH,pH⟩:=C8 PC (wb (vS out c.low)) (b:=vS out c.low) rfl (by show 5+_<=_;omega);have pH:∀(Φ:AP) (H:Ak) (nx:Nat),A0 Φ H nx (.bin false .add none) [.t (.v (.string ⟨#[104,105,103,104,32]⟩)),.t (.v (.string (vS out c.low)))]=some (.t (.v (.string (ob SH))),H,nx):=pH;obtain⟨SL,qL,nL,pL⟩:=C8 PD (wb (vS out c.high)) (b:=vS out c.high) rfl (by show 4+_<=_;omega);have pL:∀(Φ:AP) (H:Ak) (nx:Nat),A0 Φ H nx (.bin false .add none) [.t (.v (.string ⟨#[108,111,119,32]⟩)),.t (.v (.string (vS out c.high)))]=some (.t (.v (.string (ob SL))),H,nx):=pL
      have hAl:(adK out m i).length<=1000000000:=by rw[QY];have:=JY hs i (by omega);omega
      obtain⟨Hd,nd,td,od,okd,Pd,Kd⟩:=P4.add (q:=q) (v:=c.high) (by rw[hn];exact inh) (ob SH) hAl
      have nakn:na≠kn:=by have:=hP.nx0;omega
      have ld1:=Eg (H:=Hd) (b:=na) (ty:=tyQ) (p0:=.t (iv c.high)) (p1:=.t (iv c.low)) (by rw[Kd na (by simp) nakn];exact xc);obtain⟨He,ne,te,oe,oke,Pe,Ke⟩:=Pd.add (q:=q) (v:=c.low) (by rw[hn];exact inl) (ob SL) (by rw[Xf,Xl];rw[QY]at hAl ⊢;have:=JY hs i (by omega);omega)
      have eV:adK out m i++[(c.high,ob SH)]++[(c.low,ob SL)]=adK out m (i+1):=by rw[vI hc1,qH,qL]
      rw[eV]at Pe;refine Ao An ?_;simp -implicitDefEqProofs [SPh,hil];refine Ao An ?_;simp -implicitDefEqProofs;refine AZ (λc:PfD=>⟨[(70,.t (iv (i:Int))),(69,.t (iv (m.cons.length:Int))),(68,.t tc),(6,fnA k5),(5,.ptr k5 0),(4,.t (iv (r:Int))),(3,.row ko 0 n 1),(1,.ptr 0 0)],c.H,c.nx,99⟩) (λc=>PfS X out [0,ko,k5,kn] (adK out m (i+1)) c.H c.nx ko kn k5 n) (λ_=>rfl) ?_ ?_
      .refine AY ?_;refine Ao An ?_;simp -implicitDefEqProofs [i1,D2,u1];refine MC.sub (s':=⟨[(13,.ptr na 0),(70,.t (iv (i:Int))),(69,.t (iv (m.cons.length:Int))),(68,.t tc),(6,fnA k5),(5,.ptr k5 0),(4,.t (iv (r:Int))),(3,.row ko 0 n 1),(1,.ptr 0 0)],Hc,nc,99⟩) (by rw[hnc];exact Aw (by simp -implicitDefEqProofs)) rfl ?_;refine Ao (AB.nil.ctxH (AG.cons okd .nil) mixed) ?_;simp -implicitDefEqProofs [lc1.1,lc1.2,iv1 _ inl,lv1 _ inl P4.o,pH,od];refine A8 (AB.nil.ctxH (AG.cons oke .nil) mixed) ?_;simp -implicitDefEqProofs [ld1.1,ld1.2,iv1 _ inh,lv1 _ inh Pd.o,pL,oe];exact A4.mk ⟨He,ne,0⟩ (Pe.less (λc hc=>X7 _ hc) (by simp) (by simp) (by simp) (by simp)) (Aw (by simp -implicitDefEqProofs))
      .rintro⟨Hx,nx',_⟩ hQ;refine A8 An ?_;simp -implicitDefEqProofs [w2];exact A4.mk ⟨Hx,nx',i+1⟩ ⟨⟨hQ,by show i+1<=_;omega⟩,by show m.cons.length-(i+1)<m.cons.length-i;omega⟩ (Aw (by simp -implicitDefEqProofs [SPh]))
     .have ei:i=m.cons.length:=by omega
      subst ei;refine A8 An ?_;simp -implicitDefEqProofs [SPh,hil];exact A4.mk ⟨Ha,na,0⟩ (by show PfS X out _ (D7 out m) Ha na ko kn k5 n;rw[<-ZI];exact hP) (Aw (by simp -implicitDefEqProofs))
    clear hP za;rintro⟨Ha,na,_⟩ hP;simp only at hP;obtain⟨b,hb⟩:=hP.nxs;obtain⟨ty5,hb5⟩:=hP.b5
    have lad:(D7 out m).length=(occ m).length:=by rw[<-ZI,QY,JW]
    have hlv:∀v:Nat,v<n->(nxt (D7 out m) (v:Int)).length<=900:=λv _=>Xy (ZG _ _) (by omega)
    obtain⟨⟨rs,Hs,ns⟩,⟨b1,b2,b3,b4,b5⟩,hsc'⟩:=uZ (q:=q) hb hP.o hol hP.mo (by omega) (λv hv=>Xy (hlv v hv) (by omega)) (λv hv=>by
     have h1:=Jm hosz (v:Int)
     have h2:=Ma (sep:=[10]) (k:=80000) (l:=(Bg (nxt (D7 out m) (v:Int))).map wb) (λy hy=>by
      obtain⟨s,hs',rfl⟩:=Xs.1 hy
      exact vL hz hs hosz _ (vC (vA hs')))
     have h3:=hlv v hv;rw[Xh,GC,Xl]at h2;have h4:(nxt (D7 out m) (v:Int)).length*(80000+1)<=900*(80000+1):=X9 _ h3
     omega)
    simp only at b1 b2 b3 b4 b5 hsc';subst b1;subst b2;obtain⟨t6,o6,ok6⟩:=hAt hsc' b5
    have l5:AD false 1 Ha (.ptr k5 0)=some (.row kn 0 n 1):=by simp[AD,hb5]
    have eo:((Xo n).map λv:Nat=>Hsh (vS out (v:Int)) (Bg (nxt (D7 out m) (v:Int))))=FD m (r+1):=by
     rw[hnext];unfold rnd upN;rw[Yg,<-hn];rfl
    rw[eo]at b3;refine A8 (AB.nil.ctxH (AG.cons ok6 .nil) mixed) ?_;simp -implicitDefEqProofs [l5,o6];exact A4.mk ⟨Hs,na+1,na,0⟩ ⟨by show Aj Hs 0=_;rw[b4 0 hP.m0];exact hP.x,b3,hP.nx0.1,Xw _⟩ (Aw (by simp -implicitDefEqProofs))
   .rintro⟨Ha,na,ka,_⟩ ⟨g0,g1,g2,g3⟩;refine A8 An ?_;simp -implicitDefEqProofs [w1];exact A4.mk ⟨Ha,na,ka,r+1⟩ ⟨⟨g0,g1,g2,g3,hlt⟩,by show 3-(r+1)<3-r;omega⟩ (Aw (by simp -implicitDefEqProofs [SPf]))
  .have er:r=3:=by omega
   subst er;refine A8 An ?_;simp -implicitDefEqProofs [SPf];exact A4.mk ⟨H,nx,ko,0⟩ hko (Aw (by simp -implicitDefEqProofs))
 rintro⟨H,nx,ko,_⟩ ho3;have hne2:=DN (e:=Ar) ho3;rw[ZK,<-hn]at hne2;have hzs:Ar.z=1:=rfl;rw[hzs]at hne2;refine A8 An ?_;simp -implicitDefEqProofs [hne2,hR3,-toT]
structure Kx where
 k0:Nat
 kp:Nat
 kt:Nat
 kf:Nat
 ku:Nat
 kc:Nat
def Kx.l (K:Kx):List Nat:=[K.k0,K.kp,K.kt,K.kf,K.ku,K.kc]
abbrev tyX:Nat:=64
abbrev tyO:Nat:=4
def ZM (ca cb:List T) (ia ib:T) (K:Kx) (na n nb nc:Nat):Row:=.cells tyX ((ca++cb++[ia,ib]).map PV.t++[.row K.kp 0 na 1,.row K.kt 0 n 1,.row K.kf 0 n 1,.row K.ku 0 nb 1,.row K.kc 0 nc 1])
structure Mx where
 a:Mr
 b:Mr
 ca:List T
 cb:List T
 pa:List ByteArray
 pb:List ByteArray
 ia:T
 ib:T
 K:Kx
structure FE (M:Mx):Prop where
 mb:MB M.a M.b M.ca M.cb
 ha:IsS Ar M.ia M.pa
 hb:IsS Ar M.ib M.pb
 la:M.pa.length=M.a.vars.length
 lb:M.pb.length=M.a.vars.length
 nd:M.K.l.Nodup
 lr:M.b.rels.length=M.a.rels.length
 lc:M.b.cons.length=M.a.cons.length
def Mx.row (M:Mx):Row:=ZM M.ca M.cb M.ia M.ib M.K M.a.rels.length M.a.vars.length M.b.rels.length M.b.cons.length
def Mx.ok (M:Mx):Int->Int->Bool:=Ii M.pa M.pb M.a M.b
structure MtS (M:Mx) (pl v:List Int) (uP uC:List Bool) (H:Ak) (nx:Nat):Prop where
 o:Aj H M.K.k0=some M.row
 p:Aj H M.K.kp=some (A5 A6 tyI pl)
 t:Aj H M.K.kt=some (A5 A6 tyI v)
 f:Aj H M.K.kf=some (A5 A6 tyI (frm M.a.vars.length v))
 u:Aj H M.K.ku=some (A5 Er tyO uP)
 c:Aj H M.K.kc=some (A5 Er tyO uC)
 lp:pl.length=M.a.rels.length
 lv:v.length=M.a.vars.length
 lu:uP.length=M.b.rels.length
 lc:uC.length=M.b.cons.length
 lt:∀c∈M.K.l,c<nx
section
variable {M : Mx} {pl v : List Int} {uP uC : List Bool} {H H' : Ak} {nx nx' : Nat}
theorem Kx.m0 (K:Kx):K.k0∈K.l:=by simp[Kx.l]
theorem Kx.mp (K:Kx):K.kp∈K.l:=by simp[Kx.l]
theorem Kx.mt (K:Kx):K.kt∈K.l:=by simp[Kx.l]
theorem Kx.mf (K:Kx):K.kf∈K.l:=by simp[Kx.l]
theorem Kx.mu (K:Kx):K.ku∈K.l:=by simp[Kx.l]
theorem Kx.mc (K:Kx):K.kc∈K.l:=by simp[Kx.l]
structure KNe (K:Kx):Prop where
 a0p:K.k0≠K.kp
 a0t:K.k0≠K.kt
 a0f:K.k0≠K.kf
 a0u:K.k0≠K.ku
 a0c:K.k0≠K.kc
 apt:K.kp≠K.kt
 apf:K.kp≠K.kf
 apu:K.kp≠K.ku
 apc:K.kp≠K.kc
 atf:K.kt≠K.kf
 atu:K.kt≠K.ku
 atc:K.kt≠K.kc
 afu:K.kf≠K.ku
 afc:K.kf≠K.kc
 auc:K.ku≠K.kc
theorem Kx.ne {K:Kx} (h:K.l.Nodup):KNe K:=by
 simp only[Kx.l,Zf,Xn,Yk,or_false,not_or]at h;obtain⟨⟨h1,h2,h3,h4,h5⟩,⟨h6,h7,h8,h9⟩,⟨h10,h11,h12⟩,⟨h13,h14⟩,h15,_⟩:=h;exact⟨h1,h2,h3,h4,h5,h6,h7,h8,h9,h10,h11,h12,h13,h14,h15⟩
structure LdX (M:Mx) (H:Ak):Prop where
 p:AD false 1 H (.ptr M.K.k0 12)=some (.row M.K.kp 0 M.a.rels.length 1)
 t:AD false 1 H (.ptr M.K.k0 13)=some (.row M.K.kt 0 M.a.vars.length 1)
 f:AD false 1 H (.ptr M.K.k0 14)=some (.row M.K.kf 0 M.a.vars.length 1)
 u:AD false 1 H (.ptr M.K.k0 15)=some (.row M.K.ku 0 M.b.rels.length 1)
 c:AD false 1 H (.ptr M.K.k0 16)=some (.row M.K.kc 0 M.b.cons.length 1)
 ia:AD false 1 H (.ptr M.K.k0 10)=some (.t M.ia)
 ib:AD false 1 H (.ptr M.K.k0 11)=some (.t M.ib)
 va:∃t,AD false 1 H (.ptr M.K.k0 2)=some (.t t)/\IsS Ar t M.a.vars
 vb:∃t,AD false 1 H (.ptr M.K.k0 7)=some (.t t)/\IsS Ar t M.b.vars
 ra:∃t rl,AD false 1 H (.ptr M.K.k0 3)=some (.t t)/\IsS eEC t rl/\rl.map EC.x=M.a.rels
 rb:∃t rl,AD false 1 H (.ptr M.K.k0 8)=some (.t t)/\IsS eEC t rl/\rl.map EC.x=M.b.rels
 ca:∃t,AD false 1 H (.ptr M.K.k0 4)=some (.t t)/\IsS eQq t M.a.cons
 cb:∃t,AD false 1 H (.ptr M.K.k0 9)=some (.t t)/\IsS eQq t M.b.cons
theorem ldX (hM:FE M) (h:Aj H M.K.k0=some M.row):LdX M H:=by
 obtain⟨tva,tra,tca,rla,eca,hva,hra,hrma,hca⟩:=hM.mb.ha;obtain⟨tvb,trb,tcb,rlb,ecb,hvb,hrb,hrmb,hcb⟩:=hM.mb.hb
 have e:M.row = .cells tyX [.t (iv M.a.top),.t (iv M.a.index),.t tva,.t tra,.t tca,.t (iv M.b.top),.t (iv M.b.index),.t tvb,.t trb,.t tcb,.t M.ia,.t M.ib,.row M.K.kp 0 M.a.rels.length 1,.row M.K.kt 0 M.a.vars.length 1,.row M.K.kf 0 M.a.vars.length 1,.row M.K.ku 0 M.b.rels.length 1,.row M.K.kc 0 M.b.cons.length 1]:=by
  unfold Mx.row ZM;rw[eca,ecb];rfl
 rw[e]at h
 have l:∀i,AD false 1 H (.ptr M.K.k0 i)=([.t (iv M.a.top),.t (iv M.a.index),.t tva,.t tra,.t tca,.t (iv M.b.top),.t (iv M.b.index),.t tvb,.t trb,.t tcb,.t M.ia,.t M.ib,.row M.K.kp 0 M.a.rels.length 1,.row M.K.kt 0 M.a.vars.length 1,.row M.K.kf 0 M.a.vars.length 1,.row M.K.ku 0 M.b.rels.length 1,.row M.K.kc 0 M.b.cons.length 1]:List PV)[i]?:=λi=>by
  simp only[AD,h,Yb,if_false]
 exact⟨l 12,l 13,l 14,l 15,l 16,l 10,l 11,⟨_,l 2,hva⟩,⟨_,l 7,hvb⟩,⟨_,_,l 3,hra,hrma⟩,⟨_,_,l 8,hrb,hrmb⟩,⟨_,l 4,hca⟩,⟨_,l 9,hcb⟩⟩
theorem MtS.more (h:MtS M pl v uP uC H nx) (hk:∀c∈M.K.l,Aj H' c=Aj H c) (hn:nx<=nx'):MtS M pl v uP uC H' nx':=
 ⟨by rw[hk _ M.K.m0];exact h.o,by rw[hk _ M.K.mp];exact h.p,by rw[hk _ M.K.mt];exact h.t,by rw[hk _ M.K.mf];exact h.f,by rw[hk _ M.K.mu];exact h.u,by rw[hk _ M.K.mc];exact h.c,h.lp,h.lv,h.lu,h.lc,λc hc=>Ys (h.lt c hc) hn⟩
theorem MtS.setV (hM:FE M) (h:MtS M pl v uP uC H nx) {w:List Int} (hl:w.length=M.a.vars.length):MtS M pl w uP uC (Xe (Xe H M.K.kt (A5 A6 tyI w)) M.K.kf (A5 A6 tyI (frm M.a.vars.length w))) nx:=by
 have n:=Kx.ne hM.nd;refine⟨?_,?_,?_,?_,?_,?_,h.lp,hl,h.lu,h.lc,h.lt⟩
 .rw[A7,zw n.a0f,A7,zw n.a0t];exact h.o
 .rw[A7,zw n.apf,A7,zw n.apt];exact h.p
 .rw[A7,zw n.atf,A7,zu rfl,h.t];rfl
 .rw[A7,zu rfl,A7,zw n.atf.symm,h.f];rfl
 .rw[A7,zw n.afu.symm,A7,zw n.atu.symm];exact h.u
 .rw[A7,zw n.afc.symm,A7,zw n.atc.symm];exact h.c
end
theorem O1 {α:Type} (e:Enc α) (b:Nat) (l:List α) (x:T):B5 (Df [Ax e b l,.t x]) 0=some (Ax e b l)/\B5 (Df [Ax e b l,.t x]) 1=some (.t x):=by
 cases l<;>exact⟨rfl,rfl⟩
structure ZN (M:Mx) (pl v:List Int) (uP uC:List Bool) (H:Ak) (nx bb:Nat) (bd:List Int) (o:(List Int×List Int)×Bool) (f:Fin):Prop where
 b':∃b',f.r=Df [Ax A6 b' o.1.2,.t (bv o.2)]/\AK A6 tyI f.H b' o.1.2/\b'∉M.K.l/\b'<f.nx/\(b'=bb\/nx<=b')
 s:MtS M pl o.1.1 uP uC f.H f.nx
 k:∀c,c<nx->c∉M.K.l->c≠bb->Aj f.H c=Aj H c
 n:nx<=f.nx
 fr:Frs H nx->Frs f.H f.nx
theorem MtS.k {M:Mx} {pl v:List Int} {uP uC:List Bool} {H:Ak} {nx:Nat} (h:MtS M pl v uP uC H nx) {w:Nat} (hw:w<M.a.vars.length) :
  BN 1 (.row M.K.kt 0 M.a.vars.length 1) (.t (iv (w:Int)))=some (.ptr M.K.kt w)/\AD false 1 H (.ptr M.K.kt w)=some (.t (iv (bnd v (w:Int)))) /\
  BN 1 (.row M.K.kf 0 M.a.vars.length 1) (.t (iv (w:Int)))=some (.ptr M.K.kf w)/\AD false 1 H (.ptr M.K.kf w)=some (.t (iv (plc (w:Int) 0 v))):=
 ⟨FC _ _ _ hw,GD (e:=A6) h.t (NA (by rw[h.lv];exact hw)) rfl rfl,FC _ _ _ hw,GD (e:=A6) h.f (JP hw) rfl rfl⟩
theorem vO {M:Mx} (hM:FE M) {pl v:List Int} {uP uC:List Bool} {H:Ak} {nx bb:Nat} {bd:List Int} (h:MtS M pl v uP uC H nx) (hpm:PMv (λ_ _=>true) M.a.vars.length v) (hb:AK A6 tyI H bb bd) (hbK:bb∉M.K.l) (hbl:bb<nx) (hbn:bd.length<=100000)
  {x y:Int} (hx:inR M.a.vars.length x) (hy:inR M.a.vars.length y) :
  ∃f,ZN M pl v uP uC H nx bb bd (Ec M.ok (v,bd) x y) f/\B3 Xc (G q) 76 [.ptr M.K.k0 0,.t (iv x),.t (iv y),Ax A6 bb bd] H nx f.r f.H f.nx:=by
 have L:=ldX hM h.o;obtain⟨tva,lva,hva⟩:=L.va;obtain⟨tvb,lvb,hvb⟩:=L.vb
 obtain⟨k,rfl⟩:∃k:Nat,x=(k:Int):=⟨x.toNat,by have:=hx.1;omega⟩
 obtain⟨l,rfl⟩:∃l:Nat,y=(l:Int):=⟨y.toNat,by have:=hy.1;omega⟩
 have hk:k<M.a.vars.length:=by have:=hx.2;omega
 have hl:l<M.a.vars.length:=by have:=hy.2;omega
 obtain⟨i1,l1,_,_⟩:=h.k hk;obtain⟨_,_,i2,l2⟩:=h.k hl;have hz:Ar.z=1:=rfl;have j1:=hva.iaddr (GE hk) .i64;rw[hz,show Ar.enc (vS M.a.vars (k:Int))=[sv (vS M.a.vars (k:Int))]from rfl]at j1;have j2:=hvb.iaddr (GE (l:=M.b.vars) (k:=l) (by rw[hM.mb.len];exact hl)) .i64;rw[hz,show Ar.enc (vS M.b.vars (l:Int))=[sv (vS M.b.vars (l:Int))]from rfl]at j2;have j3:=hM.ha.iaddr (GE (l:=M.pa) (k:=k) (by rw[hM.la];exact hk)) .i64;rw[hz,show Ar.enc (vS M.pa (k:Int))=[sv (vS M.pa (k:Int))]from rfl]at j3;have j4:=hM.hb.iaddr (GE (l:=M.pb) (k:=l) (by rw[hM.lb];exact hl)) .i64;rw[hz,show Ar.enc (vS M.pb (l:Int))=[sv (vS M.pb (l:Int))]from rfl]at j4;have ne:=Kx.ne hM.nd
 obtain⟨o,ho⟩:∃o,o=Ec M.ok (v,bd) (k:Int) (l:Int):=⟨_,rfl⟩
 rw[<-ho];unfold Ec at ho;simp only at ho
 have same:∀bl:Bool,o=((v,bd),bl)->ZN M pl v uP uC H nx bb bd o ⟨Df [Ax A6 bb bd,.t (bv bl)],H,nx⟩:=λbl e=>by
  subst e;exact⟨⟨bb,rfl,hb,hbK,hbl,.inl rfl⟩,h,λ_ _ _ _=>rfl,X1 _,λh=>h⟩
 refine oN.callX rfl ?_;(conv in UP=>cbv);refine A3 An ?_;simp -implicitDefEqProofs
 by_cases c1:bnd v (k:Int)=(l:Int)
 .rw[zu c1]at ho
  have d1:0<=bnd v (k:Int):=by omega
  have d2:(bnd v (k:Int)==(l:Int))=true:=by rw[c1];simp
  refine A3 An ?_;simp -implicitDefEqProofs [L.t,i1,l1,d1,d2,-beq_iff_eq];exact Bp _ (same true ho) (by simp -implicitDefEqProofs)
 .rw[zw c1]at ho
  have d2:(bnd v (k:Int)==(l:Int))=false:=by simp[c1]
  by_cases c2:0<=bnd v (k:Int)
  .rw[zu (.inl c2)]at ho;refine A3 An ?_;simp -implicitDefEqProofs [L.t,i1,l1,c2,d2,c1];exact Bp _ (same false ho) (by simp -implicitDefEqProofs)
  by_cases c3:(l:Int)∈v
  .rw[zu (.inr (.inl c3))]at ho
   have c3':0<=plc (l:Int) 0 v:=by
    have:=(not_congr (Nr (x:=(l:Int)) (l:=v) (i:=0))).2 (λe=>e c3);omega
   refine A3 An ?_;simp -implicitDefEqProofs [L.t,L.f,i1,l1,i2,l2,c2,c3',d2,c1];exact Bp _ (same false ho) (by simp -implicitDefEqProofs)
  have c3':¬0<=plc (l:Int) 0 v:=by
   have:=(Nr (x:=(l:Int)) (l:=v) (i:=0)).2 c3;omega
  refine A3 An ?_;simp -implicitDefEqProofs [L.t,L.f,i1,l1,i2,l2,c2,c3'];have eok:M.ok (k:Int) (l:Int)=(decide (vS M.a.vars (k:Int)=vS M.b.vars (l:Int))&&decide (vS M.pa (k:Int)=vS M.pb (l:Int))):=rfl;by_cases c4:vS M.a.vars (k:Int)=vS M.b.vars (l:Int)
  .by_cases c5:vS M.pa (k:Int)=vS M.pb (l:Int)
   .have e1:M.ok (k:Int) (l:Int)=true:=by rw[eok,zq c4,zq c5];rfl
    rw[zw (by rintro(e | e | e);exact c2 e;exact c3 e;rw[e1]at e;cases e)]at ho;rw[X3]at ho;refine A3 An ?_;simp -implicitDefEqProofs [lva,lvb,L.ia,L.ib,j1,j2,j3,j4,lp,Eb,c4,c5]
    obtain⟨w,hw⟩:∃w,w=v.set k (l:Int):=⟨_,rfl⟩
    have hlw:w.length=M.a.vars.length:=by rw[hw,Yp,h.lv]
    have hfr:frm M.a.vars.length w=(frm M.a.vars.length v).set l (k:Int):=by
     rw[hw];exact kX h.lv hk hl (by omega) c3
    have s1:=FB (e:=A6) (ty:=tyI) (c:=iv (l:Int)) (x:=(l:Int)) rfl h.t (i:=k) (by rw[h.lv];exact hk) rfl rfl;rw[<-hw]at s1
    have hf2:Aj (Xe H M.K.kt (A5 A6 tyI w)) M.K.kf=some (A5 A6 tyI (frm M.a.vars.length v)):=by rw[A7,zw ne.atf.symm];exact h.f
    have s2:=FB (e:=A6) (ty:=tyI) (c:=iv (k:Int)) (x:=(k:Int)) rfl hf2 (i:=l) (by rw[Hu];exact hl) rfl rfl;rw[<-hfr]at s2;have hS:=h.setV hM hlw
    obtain⟨H1,hH1⟩:∃H1,H1=Xe H M.K.kt (A5 A6 tyI w):=⟨_,rfl⟩
    obtain⟨H2,hH2⟩:∃H2,H2=Xe H1 M.K.kf (A5 A6 tyI (frm M.a.vars.length w)):=⟨_,rfl⟩
    rw[<-hH1]at s1 s2 hS;rw[<-hH2]at s2 hS
    have k2:∀c,c∉M.K.l->Aj H2 c=Aj H c:=λc hc=>by
     rw[hH2,A7,zw (λe=>hc (by rw[e];exact M.K.mf)),hH1,A7,zw (λe=>hc (by rw[e];exact M.K.mt))]
    have fr2:Frs H nx->Frs H2 nx:=λhf=>by rw[hH2,hH1];exact hf.upd.upd
    refine A3 An ?_;simp -implicitDefEqProofs [L.t,L.f,i1,i2,s1,s2];obtain⟨H3,a3,b3,c3'',f3⟩:=LU (e:=A6) (by':=8) (nx:=nx) (ty:=tyI) (H:=H2) (b:=bb) (l:=bd) (k:Int) 1 rfl [.t (iv (k:Int))] rfl (hb.imp id λe=>by rw[k2 bb hbK];exact e) hbl (by omega) (by omega);refine AV An ?_;simp -implicitDefEqProofs [QS,a3];refine Bp ⟨Df [Ax A6 (nx+1) (bd++[(k:Int)]),.t (bv true)],H3,nx+2⟩ ?_ (by simp -implicitDefEqProofs);rw[ho];refine⟨⟨nx+1,rfl,b3,λhm=>by have:=h.lt _ hm;omega,by show nx+1<nx+2;omega,.inr (by omega)⟩,?_,λc h1 h2 h3=>?_,by show nx<=nx+2;omega,λhf=>f3 (fr2 hf)⟩
    .rw[<-hw];exact hS.more (λc hc=>c3'' c (h.lt c hc) (λe=>hbK (e▸hc))) (by show nx<=nx+2;omega)
    .show Aj H3 c=_;rw[c3'' c h1 h3,k2 c h2]
   .have e1:M.ok (k:Int) (l:Int)=false:=by rw[eok,zt c5,Bool.and_false]
    rw[zu (.inr (.inr e1))]at ho;refine A3 An ?_;simp -implicitDefEqProofs [lva,lvb,L.ia,L.ib,j1,j2,j3,j4,lp,Eb,c4,c5];exact Bp _ (same false ho) (by simp -implicitDefEqProofs)
  .have e1:M.ok (k:Int) (l:Int)=false:=by rw[eok,zt c4,Zb]
   rw[zu (.inr (.inr e1))]at ho;refine A3 An ?_;simp -implicitDefEqProofs [lva,lvb,j1,j2,lp,Eb,c4];exact Bp _ (same false ho) (by simp -implicitDefEqProofs)
theorem MtS.mk2 {M:Mx} (hM:FE M) {pl v w:List Int} {uP uC:List Bool} {H H':Ak} {nx:Nat} (h:MtS M pl v uP uC H nx) (hl:w.length=M.a.vars.length) (ht:Aj H' M.K.kt=some (A5 A6 tyI w)) (hf:Aj H' M.K.kf=some (A5 A6 tyI (frm M.a.vars.length w)))
  (hk:∀c,c≠M.K.kt->c≠M.K.kf->Aj H' c=Aj H c):MtS M pl w uP uC H' nx:=by
 have n:=Kx.ne hM.nd;exact⟨by rw[hk _ n.a0t n.a0f];exact h.o,by rw[hk _ n.apt n.apf];exact h.p,ht,hf,by rw[hk _ n.atu.symm n.afu.symm];exact h.u,by rw[hk _ n.atc.symm n.afc.symm];exact h.c,h.lp,hl,h.lu,h.lc,h.lt⟩
structure vP (M:Mx) (pl v0:List Int) (uP uC:List Bool) (H:Ak) (nx:Nat) (f:Fin):Prop where
 r:f.r = .t (.tu [])
 n:f.nx=nx
 s:MtS M pl v0 uP uC f.H nx
 k:∀c,c∉M.K.l->Aj f.H c=Aj H c
 fr:Frs H nx->Frs f.H nx
structure RlC where
 H:Ak
 v:List Int
 j:Nat
def SRl (M:Mx) (B:PV) (n nx:Nat) (c:RlC):Am:=⟨[(8,.t (iv (c.j:Int))),(7,.t (iv (n:Int))),(6,B),(0,.ptr M.K.k0 0)],c.H,nx,31⟩
theorem O2 {M:Mx} (hM:FE M) {pl v v0:List Int} {uP uC:List Bool} {H:Ak} {nx bb:Nat} {bd:List Int} (h:MtS M pl v uP uC H nx) (hB:Es M.a.vars.length v0 (v,bd)) (hb:AK A6 tyI H bb bd) (hbK:bb∉M.K.l) (hbn:bd.length<=100000) :
  ∃f,vP M pl v0 uP uC H nx f/\B3 Xc (G q) 79 [.ptr M.K.k0 0,Ax A6 bb bd] H nx f.r f.H f.nx:=by
 have lB:=Nn A6 bb bd;refine oO.callX rfl ?_;(conv in UQ=>cbv);refine A3 An ?_;simp -implicitDefEqProofs [lB];refine BA ?_;refine DH (SRl M (Ax A6 bb bd) bd.length nx) (λc=>bd.length-c.j) (λc=>MtS M pl c.v uP uC c.H nx/\Es M.a.vars.length v0 (c.v,bd.drop c.j)/\(∀c',c'∉M.K.l->Aj c.H c'=Aj H c')/\(Frs H nx->Frs c.H nx)/\c.j<=bd.length) ⟨H,v,0⟩ (λ_=>rfl) ⟨h,hB,λ_ _=>rfl,λh=>h,Xm _⟩ ?_ rfl ?_
 .exact Aw (by simp -implicitDefEqProofs [SRl])
 rintro⟨Ha,w,j⟩ ⟨hS,hBn,hk,hf,hj⟩;simp only at hS hBn hk hf hj;by_cases hjl:j<bd.length
 .obtain⟨x,hx⟩:∃x,bd[j]?=some x:=⟨_,Xj hjl⟩
  rw[X0 hjl,(X8.1 hx).2]at hBn;obtain⟨hB2,y,hy,hyn,hfr⟩:=hBn.step;have hxr:=(hBn.inr x (by simp)).1
  obtain⟨k,rfl⟩:∃k:Nat,x=(k:Int):=⟨x.toNat,by have:=hxr.1;omega⟩
  have hkn:k<M.a.vars.length:=by have:=hxr.2;omega
  rw[X3]at hB2 hfr
  have hne:bd≠[]:=λe=>by rw[e]at hjl;simp at hjl
  have rb:Aj Ha bb=some (A5 A6 tyI bd):=by rw[hk bb hbK];exact hb.resolve_left hne
  have i1:BN 1 (Ax A6 bb bd) (.t (iv (j:Int)))=some (.ptr bb j):=by
   have:=Pz (e:=A6) (b:=bb) hx .i64;rw[show A6.z=1 from rfl,Yi]at this;exact this
  have l1:=GD (e:=A6) (c:=iv (k:Int)) rb hx rfl rfl;have L:=ldX hM hS.o;obtain⟨i2,l2,_,_⟩:=hS.k hkn;rw[hy]at l2;obtain⟨_,_,i3,_⟩:=hS.k hyn;have ne:=Kx.ne hM.nd;have w1:Xi.wrap ((j:Int)+1)=((j+1:Nat):Int):=Bb (by omega) (by omega);have s1:=FB (e:=A6) (ty:=tyI) (c:=iv (-1)) (x:=(-1:Int)) rfl hS.f (i:=y) (by rw[Hu];exact hyn) rfl rfl;rw[<-hfr]at s1
  obtain⟨w',hw'⟩:∃w',w'=w.set k (-1:Int):=⟨_,rfl⟩
  rw[<-hw']at s1 hB2
  obtain⟨H1,hH1⟩:∃H1,H1=Xe Ha M.K.kf (A5 A6 tyI (frm M.a.vars.length w')):=⟨_,rfl⟩
  rw[<-hH1]at s1
  have hL1:Aj H1 M.K.k0=some M.row:=by rw[hH1,A7,zw ne.a0f];exact hS.o
  have L1:=ldX hM hL1
  have t1:Aj H1 M.K.kt=some (A5 A6 tyI w):=by rw[hH1,A7,zw ne.atf];exact hS.t
  have s2:=FB (e:=A6) (ty:=tyI) (c:=iv (-1)) (x:=(-1:Int)) rfl t1 (i:=k) (by rw[hS.lv];exact hkn) rfl rfl;rw[<-hw']at s2
  obtain⟨H2,hH2⟩:∃H2,H2=Xe H1 M.K.kt (A5 A6 tyI w'):=⟨_,rfl⟩
  rw[<-hH2]at s2
  have hlw:w'.length=M.a.vars.length:=by rw[hw',Yp,hS.lv]
  have S2:MtS M pl w' uP uC H2 nx:=hS.mk2 hM hlw (by rw[hH2,A7,zu rfl,t1];rfl) (by rw[hH2,A7,zw ne.atf.symm,hH1,A7,zu rfl,hS.f];rfl)
   (λc h1 h2=>by rw[hH2,A7,zw h1,hH1,A7,zw h2])
  refine AV An ?_;simp -implicitDefEqProofs [SRl,hjl,i1,l1,L.f,L.t,i2,l2,i3,s1,L1.t,s2,w1]
  exact A4.mk ⟨H2,w',j+1⟩ ⟨⟨S2,hB2,λc hc=>by
   show Aj H2 c=_;rw[hH2,A7,zw (λe=>hc (by rw[e];exact M.K.mt)),hH1,A7,zw (λe=>hc (by rw[e];exact M.K.mf))]
   exact hk c hc,λh=>by
   show Frs H2 nx
   rw[hH2,hH1];exact(hf h).upd.upd,hjl⟩,by show bd.length-(j+1)<bd.length-j;omega⟩ (Aw (by simp -implicitDefEqProofs [SRl]))
 .have ej:j=bd.length:=by omega
  subst ej;rw[Yq]at hBn;have ev:w=v0:=hBn.back;subst ev;refine AV An ?_;simp -implicitDefEqProofs [SRl];exact Jl ⟨.t (.tu []),Ha,nx⟩ ⟨rfl,rfl,hS,hk,hf⟩ (by simp -implicitDefEqProofs)
structure PrL (L:PV) (prs:List (Int×Int)) (Kr:List Nat) (H:Ak):Prop where
 len:CV L=some (.t (iv (prs.length:Int)))
 at_:∀(i:Nat) (p:Int×Int),prs[i]?=some p->∃A,BN 2 L (.t (iv (i:Int)))=some A/\∀H',(∀c∈Kr,Aj H' c=Aj H c)->AD true 2 H' A=some (.t (.ag [iv p.1,iv p.2]))
structure vQ (M:Mx) (pl:List Int) (uP uC:List Bool) (H:Ak) (nx:Nat) (o:(List Int×List Int)×Bool) (f:Fin):Prop where
 b':∃b',f.r=Df [Ax A6 b' o.1.2,.t (bv o.2)]/\AK A6 tyI f.H b' o.1.2/\b'∉M.K.l/\b'<f.nx/\nx<=b'
 s:MtS M pl o.1.1 uP uC f.H f.nx
 k:∀c,c<nx->c∉M.K.l->Aj f.H c=Aj H c
 n:nx<=f.nx
 fr:Frs H nx->Frs f.H f.nx
structure BaC where
 H:Ak
 nx:Nat
 bb:Nat
 bd:List Int
 v:List Int
 j:Nat
def SBa (M:Mx) (L:PV) (n:Nat) (c:BaC):Am:=⟨[(13,.t (iv (c.j:Int))),(12,.t (iv (n:Int))),(11,L),(6,Ax A6 c.bb c.bd),(0,.ptr M.K.k0 0)],c.H,c.nx,33⟩
theorem ZO {ok:Int->Int->Bool} (st:List Int×List Int) (x y:Int):(Ec ok st x y).1.2.length<=st.2.length+1:=by
 unfold Ec;split
 .simp
 .split
  .simp
  .simp
theorem QZ {M:Mx} (hM:FE M) {pl v:List Int} {uP uC:List Bool} {H:Ak} {nx:Nat} (h:MtS M pl v uP uC H nx) (hpm:PMv (λ_ _=>true) M.a.vars.length v) {L:PV} {prs:List (Int×Int)} {Kr:List Nat} (hL:PrL L prs Kr H) (hKr:∀c∈Kr,c<nx/\c∉M.K.l)
  (hin:∀p∈prs,inR M.a.vars.length p.1/\inR M.a.vars.length p.2) (hlen:prs.length<=10000) :
  ∃f,vQ M pl uP uC H nx (Ed M.ok (v,[]) prs) f/\B3 Xc (G q) 48 [.ptr M.K.k0 0,L] H nx f.r f.H f.nx:=by
 obtain⟨O,hO⟩:∃O,O=Ed M.ok (v,[]) prs:=⟨_,rfl⟩
 rw[<-hO];refine oP.callX rfl ?_;(conv in UR=>cbv);refine A3 An ?_;simp -implicitDefEqProofs;refine A3 An ?_;simp -implicitDefEqProofs;refine B4 (EN (nx':=nx+1) (by omega)) rfl ?_;refine Cp (λc:BaC=>⟨[(6,Ax A6 c.bb c.bd)],c.H,c.nx,33⟩) (λc=>O=((c.v,c.bd),true)/\MtS M pl c.v uP uC c.H c.nx/\AK A6 tyI c.H c.bb c.bd/\c.bb∉M.K.l/\c.bb<c.nx/\nx<=c.bb/\(∀c',c'<nx->c'∉M.K.l->Aj c.H c'=Aj H c')/\(Frs H nx->Frs c.H c.nx)) (λ_=>rfl) ?_ ?_
 .refine A3 An ?_;simp -implicitDefEqProofs [hL.len];refine BA ?_
  refine DH (SBa M L prs.length) (λc=>prs.length-c.j) (λc=>(O=Ed M.ok (c.v,c.bd) (prs.drop c.j)/\Es M.a.vars.length v (c.v,c.bd)/\c.bd.length<=c.j)/\(MtS M pl c.v uP uC c.H c.nx/\AK A6 tyI c.H c.bb c.bd/\c.bb∉M.K.l/\c.bb<c.nx/\nx<=c.bb/\nx<=c.nx)/\(∀c',c'<nx->c'∉M.K.l->Aj c.H c'=Aj H c')/\(Frs H nx->Frs c.H c.nx)/\c.j<=prs.length)
   ⟨H,nx+1,nx,[],v,0⟩ (λ_=>rfl) ⟨⟨hO,Es.nil hpm,Xm _⟩,⟨h.more (λ_ _=>rfl) (Xx _),.inl rfl,λhm=>Nat.lt_irrefl nx (h.lt nx hm),Xw _,X1 _,Xx _⟩,λ_ _ _=>rfl,λhf=>hf.mono (Xx _),Xm _⟩ ?_ rfl ?_
  .exact Aw (by simp -implicitDefEqProofs [SBa,Ax])
  rintro⟨Ha,na,bb,bd,w,j⟩ ⟨⟨hOj,hBn,hbj⟩,⟨hS,hb,hbK,hbl,hbn,hnn⟩,hk,hf,hj⟩;simp only at hOj hBn hbj hS hb hbK hbl hbn hnn hk hf hj;by_cases hjl:j<prs.length
  .obtain⟨p,hp⟩:∃p,prs[j]?=some p:=⟨_,Xj hjl⟩
   have hpm':=Xp hp;obtain⟨hp1,hp2⟩:=hin p hpm';rw[X0 hjl,(X8.1 hp).2,Ed]at hOj;obtain⟨A,iA,lA⟩:=hL.at_ j p hp;have lA':=lA Ha (λc hc=>hk c (hKr c hc).1 (hKr c hc).2);have w1:Xi.wrap ((j:Int)+1)=((j+1:Nat):Int):=Bb (by omega) (by omega);have u1:∀a b,AO 2 ((na,.cells 68 [a,b])::Ha) (.ptr na 0) (.t (.ag [iv p.1,iv p.2]))=some ((na,.cells 68 [.t (iv p.1),.t (iv p.2)])::Ha):=λa b=>st2 na a b _ _ 68 Ha
   obtain⟨Hb,hHb⟩:∃Hb,Hb=(na,Row.cells 68 [.t (iv p.1),.t (iv p.2)])::Ha:=⟨_,rfl⟩
   obtain⟨nb,hnb⟩:∃nb,nb=na+1:=⟨_,rfl⟩
   rw[<-hHb]at u1
   have kb:∀c,c<na->Aj Hb c=Aj Ha c:=λc h=>by rw[hHb,A9,zw (by omega)]
   have lb:=Eg (H:=Hb) (b:=na) (ty:=68) (p0:=.t (iv p.1)) (p1:=.t (iv p.2)) (by rw[hHb,A9,zu rfl]);have a0:Gt 2 1 (.ptr na 0) (.t (.v (.int .i64 0)))=some (.ptr na 0):=rfl;have a1:Gt 2 1 (.ptr na 0) (.t (.v (.int .i64 1)))=some (.ptr na 1):=rfl;have Sb:MtS M pl w uP uC Hb nb:=hS.more (λc hc=>kb c (hS.lt c hc)) (by omega);obtain⟨⟨fr,fH,fn⟩,⟨⟨b',hr,hb',hbK',hbl',hbo⟩,hS',hk',hn',hf'⟩,hc⟩:=vO (q:=q) hM Sb hBn.pm (hb.imp id λe=>by rw[kb bb hbl];exact e) hbK (by omega) (by omega) hp1 hp2;simp only at hr hb' hbK' hbl' hbo hS' hk' hn' hf' hc;have hBn':=Uk (ok:=M.ok) hBn hp1 hp2;have hbl2:=ZO (ok:=M.ok) (w,bd) p.1 p.2
   obtain⟨⟨⟨w2,bd2⟩,ok2⟩,ho2⟩:∃o2,o2=Ec M.ok (w,bd) p.1 p.2:=⟨_,rfl⟩
   rw[<-ho2]at hOj hr hb' hS' hBn' hbl2;simp only at hOj hr hb' hS' hBn' hbl2;obtain⟨x0,x1⟩:=O1 A6 b' bd2 (bv ok2);obtain⟨t,t1,t2⟩:=hAt hc hf';rw[hr]at t1
   obtain⟨rr,hrr⟩:∃rr,rr=Df [Ax A6 b' bd2,.t (bv ok2)]:=⟨_,rfl⟩
   rw[<-hrr]at t1 x0 x1
   have kf:∀c',c'<nx->c'∉M.K.l->Aj fH c'=Aj H c':=λc h1 h2=>by rw[hk' c (by omega) h2 (by omega),kb c (by omega)];exact hk c h1 h2
   have ff:Frs H nx->Frs fH fn:=λh=>hf' (by rw[hHb,hnb];exact(hf h).cons (Xw _) (Xx _));have CC:Ctx Xc (G q) _:=AB.nil.ctxH (AG.cons t2 .nil) mixed;refine A3 CC ?_;simp -implicitDefEqProofs [SBa,hjl];refine A3 CC ?_;simp -implicitDefEqProofs;refine Cp (λc:BaC=>⟨[(13,.t (iv (j:Int))),(12,.t (iv (prs.length:Int))),(11,L),(6,Ax A6 c.bb c.bd),(0,.ptr M.K.k0 0)],c.H,c.nx,33⟩) (λc=>ok2=true/\fH=c.H/\fn=c.nx/\b'=c.bb/\bd2=c.bd) (λ_=>rfl) ?_ ?_
   .refine BA ?_;refine A3 CC ?_;simp -implicitDefEqProofs [iA,lA',u1];refine B4 (s':=⟨[(8,.ptr na 0),(13,.t (iv (j:Int))),(12,.t (iv (prs.length:Int))),(11,L),(6,Ax A6 bb bd),(0,.ptr M.K.k0 0)],Hb,nb,33⟩) (by rw[hnb];exact Aw (by simp -implicitDefEqProofs)) rfl ?_;refine A3 CC ?_;simp -implicitDefEqProofs [a0,a1,lb.1,lb.2,t1,x0,x1,-B5];refine A3 CC ?_;simp -implicitDefEqProofs
    cases ok2 with
    | true=>
     refine AV CC ?_;simp -implicitDefEqProofs;exact A4.mk ⟨fH,fn,b',bd2,[],0⟩ ⟨rfl,rfl,rfl,rfl⟩ (Aw (by simp -implicitDefEqProofs))
    | false=>
     rw[zw (by simp)]at hOj;subst hOj;refine AV CC ?_;simp -implicitDefEqProofs;refine Bp ⟨Df [Ax A6 b' bd2,.t (bv false)],fH,fn⟩ ⟨⟨b',rfl,hb',hbK',hbl',?_⟩,hS',kf,by show nx<=fn;omega,ff⟩ (by simp -implicitDefEqProofs);rcases hbo with e | e<;>omega
   .rintro⟨_,_,_,_,_,_⟩ ⟨e0,e1,e2,e3,e4⟩;simp only at e1 e2 e3 e4;subst e0 e1 e2 e3 e4;rw[zu rfl]at hOj;refine AV CC ?_;simp -implicitDefEqProofs [w1];refine A4.mk ⟨fH,fn,b',bd2,w2,j+1⟩ ⟨⟨⟨hOj,hBn',by show bd2.length<=j+1;omega⟩,⟨hS',hb',hbK',hbl',?_,by show nx<=fn;omega⟩,kf,ff,hjl⟩,by show prs.length-(j+1)<prs.length-j;omega⟩ (Aw (by simp -implicitDefEqProofs [SBa]));show nx<=b';rcases hbo with e | e<;>omega
  .have ej:j=prs.length:=by omega
   subst ej;rw[Yq,Ed]at hOj;refine AV An ?_;simp -implicitDefEqProofs [SBa];exact A4.mk ⟨Ha,na,bb,bd,w,0⟩ ⟨hOj,hS,hb,hbK,hbl,hbn,hk,hf⟩ (Aw (by simp -implicitDefEqProofs))
 rintro⟨Ha,na,bb,bd,w,_⟩ ⟨hOj,hS,hb,hbK,hbl,hbn,hk,hf⟩;simp only at hOj hS hb hbK hbl hbn hk hf;subst hOj;refine AV An ?_;simp -implicitDefEqProofs;exact Bp ⟨Df [Ax A6 bb bd,.t (bv true)],Ha,na⟩ ⟨⟨bb,rfl,hb,hbK,hbl,hbn⟩,hS,hk,by show nx<=na;omega,hf⟩ (by simp -implicitDefEqProofs)
def ePr:Enc (Int×Int):=⟨2,λp=>[iv p.1,iv p.2],λ_=>rfl,by omega,λa b h=>by
 obtain⟨_,_⟩:=a;obtain⟨_,_⟩:=b;injection h with h1 h;injection h with h2 _;injection h1 with h1;injection h1 with _ h1;injection h2 with h2;injection h2 with _ h2;simp only at h1 h2
 subst h1;subst h2;rfl⟩
def HI:Option (List (Int×Int))->T
 | some l=>.tu [slT ePr l,bv true]
 | none=>.tu [Au,bv false]
def pqI (x y:Ep) (i:Nat):List (Int×Int):=(x.label,y.label)::((x.args.map (·.var)).zip (y.args.map (·.var))).take i
theorem vR {x y:Ep} {i:Nat} {g h:Ag} (hg:x.args[i]?=some g) (hh:y.args[i]?=some h):pqI x y (i+1)=pqI x y i++[(g.var,h.var)]:=by
 unfold pqI;have e:((x.args.map (·.var)).zip (y.args.map (·.var)))[i]?=some (g.var,h.var):=List.getElem?_zip_eq_some.2 ⟨by simp[hg],by simp[hh]⟩;rw[Xq,e];simp
structure PqC where
 H:Ak
 nx:Nat
 ko:Nat
 i:Nat
abbrev ty2:Nat:=68
def K6 (x y:Ep) (ta:T) (n:Nat) (c:PqC):Am:=⟨[(32,.t (iv (c.i:Int))),(31,.t (iv (n:Int))),(30,.t ta),(6,Ax ePr c.ko (pqI x y c.i)),(3,.ptr 1 0),(2,.ptr 0 0)],c.H,c.nx,60⟩
theorem Ml (Φ:AP) (H:Ak) (nx:Nat) (x y:Int):A0 Φ H nx (.barr 1 [.int .i64 0,.int .i64 0] [0,1]) [.t (iv x),.t (iv y)]=some (.t (.ag [iv x,iv y]),H,nx):=rfl
theorem vT (a b:T):EZ ty2 2 [.int .i64 0,.int .i64 0] 1 [(0,.t (.ag [a,b]))]=some (.t (.sl 1 [a,b])):=rfl
theorem vU (X Y:EC) (hx:X.x.args.length<=1000) (hy:Y.x.args.length<=1000):Bc Xc (G q) 78 [.ag X.cs,.ag Y.cs] (· = HI (Dr X.x Y.x)):=by
 obtain⟨x,hxx⟩:∃x,x=X.x:=⟨_,rfl⟩
 obtain⟨y,hyy⟩:∃y,y=Y.x:=⟨_,rfl⟩
 obtain⟨ta,hxc,hta⟩:=X.ok;obtain⟨tb,hyc,htb⟩:=Y.ok;rw[hxc,hyc];rw[<-hxx]at hx hta ⊢;rw[<-hyy]at hy htb ⊢;have la:=hta.len;have lb:=htb.len;have c3x:=cd3 (sv x.pred) (iv x.label) ta;have c3y:=cd3 (sv y.pred) (iv y.label) tb
 obtain⟨R,hR⟩:∃R,R=HI (Dr x y):=⟨_,rfl⟩
 rw[<-hR]
 have no:¬(x.pred=y.pred/\x.args.map (·.role)=y.args.map (·.role))->R = .tu [Au,bv false]:=λh=>by rw[hR];unfold Dr;rw[zw h];rfl
 obtain⟨H0,hH0⟩:∃H0:Ak,H0=[(1,Ca y.pred y.label tb),(0,Ca x.pred x.label ta)]:=⟨_,rfl⟩
 have zx:=ldE (H:=H0) (k:=0) (p:=x.pred) (l:=x.label) (ta:=ta) (by rw[hH0];rfl);have zy:=ldE (H:=H0) (k:=1) (p:=y.pred) (l:=y.label) (ta:=tb) (by rw[hH0];rfl);refine oQ.call rfl ?_;(conv in UU=>cbv);refine Ao An ?_;simp -implicitDefEqProofs [c3x,c3y];rw[show([(1,Row.cells 47 [.t (sv y.pred),.t (iv y.label),.t tb]),(0,Row.cells 47 [.t (sv x.pred),.t (iv x.label),.t ta])]:Ak)=H0 from hH0.symm];by_cases h1:x.pred=y.pred
 .have b1:(x.pred.toList==y.pred.toList)=true:=by rw[Eb];exact zq h1
  by_cases h2:x.args.length=y.args.length
  .have b2:((x.args.length:Int) !=(y.args.length:Int))=false:=by rw[h2];exact bne_self_eq_false _
   refine Ao An ?_;simp -implicitDefEqProofs [zx.l0,zy.l0,zx.l2,zy.l2,la,lb,b1,b2];have bsl:∀k,BB ty2 2 [.int .i64 0,.int .i64 0] 1 [(0,.t (.ag [iv x.label,iv y.label]))] k=some (Ax ePr k (pqI x y 0),A5 ePr ty2 (pqI x y 0)):=λk=>rfl;refine Ao An ?_;simp -implicitDefEqProofs [zx.l1,zy.l1,Ml,bsl,-HZ];refine AZ (λc:PqC=>⟨[(6,Ax ePr c.ko (pqI x y x.args.length))],c.H,c.nx,60⟩) (λc=>AK ePr ty2 c.H c.ko (pqI x y x.args.length)/\x.args.map (·.role)=y.args.map (·.role)) (λ_=>rfl) ?_ ?_
   .refine Ao An ?_;have zx':=ldE (H:=(2,A5 ePr ty2 (pqI x y 0))::H0) (k:=0) (p:=x.pred) (l:=x.label) (ta:=ta) (by rw[hH0];rfl);simp -implicitDefEqProofs [zx'.l2,la];refine AY ?_
    refine Bj (K6 x y ta x.args.length) (λc=>x.args.length-c.i) (λc=>Aj c.H 1=some (Ca y.pred y.label tb)/\AK ePr ty2 c.H c.ko (pqI x y c.i)/\1<c.ko/\c.ko<c.nx/\(x.args.map (·.role)).take c.i=(y.args.map (·.role)).take c.i/\c.i<=x.args.length)
     ⟨(2,A5 ePr ty2 (pqI x y 0))::H0,3,2,0⟩ (λ_=>rfl) ⟨by rw[hH0];rfl,.inr rfl,by show 1<2;omega,by show 2<3;omega,rfl,Xm _⟩ ?_ rfl ?_
    .exact Aw (by simp -implicitDefEqProofs [K6])
    rintro⟨H,nx,ko,i⟩ ⟨g1,go,gk,gl,gr,gi⟩;simp only at g1 go gk gl gr gi;by_cases hlt:i<x.args.length
    .obtain⟨g,hg⟩:∃g,x.args[i]?=some g:=⟨_,Xj hlt⟩
     obtain⟨k,hk⟩:∃k,y.args[i]?=some k:=⟨_,Xj (by omega)⟩
     have i1:=hta.iaddr hg .i64;have i2:=htb.iaddr hk .i64;have hz2:eAg.z=2:=rfl;rw[hz2,show eAg.enc g=[sv g.role,iv g.var]from rfl]at i1;rw[hz2,show eAg.enc k=[sv k.role,iv k.var]from rfl]at i2;have w1:Xi.wrap ((i:Int)+1)=((i+1:Nat):Int):=Bb (by omega) (by omega);have u1:∀a b,AO 2 ((nx,.cells tyA [a,b])::H) (.ptr nx 0) (.t (.ag [sv g.role,iv g.var]))=some ((nx,.cells tyA [.t (sv g.role),.t (iv g.var)])::H):=λa b=>st2 nx a b _ _ tyA H
     obtain⟨Hb,hHb⟩:∃Hb,Hb=(nx,Row.cells tyA [.t (sv g.role),.t (iv g.var)])::H:=⟨_,rfl⟩
     rw[<-hHb]at u1
     have kb:∀c,c<nx->Aj Hb c=Aj H c:=λc h=>by rw[hHb,A9,zw (by omega)]
     have lb':=Eg (H:=Hb) (b:=nx) (ty:=tyA) (p0:=.t (sv g.role)) (p1:=.t (iv g.var)) (by rw[hHb,A9,zu rfl]);have zy':=ldE (H:=Hb) (k:=1) (p:=y.pred) (l:=y.label) (ta:=tb) (by rw[kb 1 (by omega)];exact g1);by_cases hro:g.role=k.role
     .have b3:(g.role.toList==k.role.toList)=true:=by rw[Eb];exact zq hro
      have pl:(pqI x y i).length<=2000:=by unfold pqI;rw[Xg,Xz];simp only[Yv,Xh];omega
      obtain⟨Hd,ad,bd,cdd,_⟩:=EM (by':=16) (nx:=nx+1) ((g.var,k.var):Int×Int) 2 rfl [iv g.var,iv k.var] rfl (go.imp id λe=>by rw[kb ko gl];exact e) (by omega) (by omega) (by omega);rw[<-vR hg hk]at ad bd;refine A8 An ?_;simp -implicitDefEqProofs [K6,hlt,i1,D2,u1,lb'.1,lb'.2,zy'.l2,i2,lp,b3,Ml,vT,ad,w1,-HZ];refine A4.mk ⟨Hd,nx+1+1,nx+1,i+1⟩ ⟨⟨by show Aj Hd 1=_;rw[cdd 1 (by omega) (by omega),kb 1 (by omega)];exact g1,bd,by show 1<nx+1;omega,by show nx+1<nx+1+1;omega,?_,hlt⟩,by show x.args.length-(i+1)<x.args.length-i;omega⟩ (Aw (by simp -implicitDefEqProofs [K6]));show(x.args.map (·.role)).take (i+1)=(y.args.map (·.role)).take (i+1);rw[Xq,Xq,gr];simp[hg,hk,hro]
     .have b3:(g.role.toList==k.role.toList)=false:=by rw[Eb];exact zt hro
      have hRn:=no λh=>hro (by
       have:=congrArg (λl=>l[i]?) h.2
       simpa[hg,hk]using this)
      refine A8 An ?_;simp -implicitDefEqProofs [K6,hlt,i1,D2,u1,lb'.1,zy'.l2,i2,lp,b3,hRn]
    .have ei:i=x.args.length:=by omega
     subst ei;refine A8 An ?_;simp -implicitDefEqProofs [K6];refine A4.mk ⟨H,nx,ko,0⟩ ⟨go,?_⟩ (Aw (by simp -implicitDefEqProofs));rw[X4 (by simp),X4 (by simp;omega)]at gr;exact gr
   rintro⟨H,nx,ko,_⟩ ⟨go,hro⟩;simp only at go
   have hRs:R = .tu [slT ePr (pqI x y x.args.length),bv true]:=by
    rw[hR];have e:Dr x y=some ((x.label,y.label)::(x.args.map (·.var)).zip (y.args.map (·.var))):=zu ⟨h1,hro⟩;rw[e];unfold pqI;rw[X4 (by simp only[Yv,Xh];exact Zh _ _)];rfl
   obtain⟨L,hL⟩:∃L,L=pqI x y x.args.length:=⟨_,rfl⟩
   rw[<-hL]at go hRs ⊢
   have hne:L≠[]:=by rw[hL];unfold pqI;simp
   have e:Ax ePr ko L = .row ko 0 L.length 2:=F3 ePr ko L hne;have ht:=YU (e:=ePr) (go.resolve_left hne) (bv true);rw[show ePr.z=2 from rfl]at ht;rw[e];refine A8 An ?_;simp -implicitDefEqProofs [ht,hRs,-toT]
  .have b2:((x.args.length:Int) !=(y.args.length:Int))=true:=by rw[bne_iff_ne];omega
   have hRn:=no λh=>h2 (by have:=congrArg List.length h.2;simpa using this);refine Ao An ?_;simp -implicitDefEqProofs [zx.l0,zy.l0,zx.l2,zy.l2,la,lb,b1,b2,hRn]
 .have b1:(x.pred.toList==y.pred.toList)=false:=by rw[Eb];exact zt h1
  have hRn:=no λh=>h1 h.1;refine Ao An ?_;simp -implicitDefEqProofs [zx.l0,zy.l0,b1,hRn]
noncomputable def gPs:List T->Option T
 | [t1,t2]=>open Classical in match tEp.dec t1,tEp.dec t2 with
  | some x,some y=>if x.x.args.length<=1000/\y.x.args.length<=1000 then some (HI (Dr x.x y.x))else none
  | _,_=>none
 | _=>none
theorem hPs:GOK Xc (G q) 78 gPs:=λargs r hr=>by
 unfold gPs at hr;split at hr
 .rename_i t1 t2;split at hr
  .rename_i x y h1 h2;split at hr
   .rename_i h;injection hr with hr;subst hr;have e1:t1 = .ag x.cs:=tEp.is_dec h1;have e2:t2 = .ag y.cs:=tEp.is_dec h2;subst e1 e2;exact vU x y h.1 h.2
   .cases hr
  .cases hr
 .cases hr
theorem vV (x y:EC) (hx:x.x.args.length<=1000) (hy:y.x.args.length<=1000):gPs [.ag x.cs,.ag y.cs]=some (HI (Dr x.x y.x)):=by
 simp only[gPs];rw[tEp.dec_is (a:=x) rfl,tEp.dec_is (a:=y) rfl];exact zu ⟨hx,hy⟩
theorem ZP {t:T} {prs:List (Int×Int)} (h:IsS ePr t prs) (H:Ak):PrL (.t t) prs [] H:=⟨h.len,λi p hp=>by
 have i1:=h.iaddr hp .i64
 exact⟨_,i1,λH' _=>D2 _ _ _ _⟩⟩
theorem vX {n k:Nat} (F:Nat->Bool) (h:k<n):((Xo n).drop k).any F=(F k||((Xo n).drop (k+1)).any F):=by
 rw[X0 (by simpa using h),Y0,List.any_cons]
theorem Ra {ok:Int->Int->Bool}:∀(l:List (Int×Int)) (st:List Int×List Int),(Ed ok st l).1.2.length<=st.2.length+l.length
 | [],st=>by rw[Ed];exact Nat.le_add_right _ _
 | p::r,st=>by
  rw[Ed];have h:=ZO (ok:=ok) st p.1 p.2;split
  .have:=Ra (ok:=ok) r (Ec ok st p.1 p.2).1;rw[Xg];omega
  .show(Ec ok st p.1 p.2).1.2.length<=_;rw[Xg];omega
theorem MtS.setC {M:Mx} (hM:FE M) {pl v:List Int} {uP uC w:List Bool} {H:Ak} {nx:Nat} (h:MtS M pl v uP uC H nx) (hl:w.length=M.b.cons.length):MtS M pl v uP w (Xe H M.K.kc (A5 Er tyO w)) nx:=by
 have n:=Kx.ne hM.nd;refine⟨?_,?_,?_,?_,?_,?_,h.lp,h.lv,h.lu,hl,h.lt⟩
 .rw[A7,zw n.a0c];exact h.o
 .rw[A7,zw n.apc];exact h.p
 .rw[A7,zw n.atc];exact h.t
 .rw[A7,zw n.afc];exact h.f
 .rw[A7,zw n.auc];exact h.u
 .rw[A7,zu rfl,h.c];rfl
structure vY (M:Mx) (pl v:List Int) (uP:List Bool) (us:List Nat) (H:Ak) (nx:Nat) (ok:Bool) (f:Fin):Prop where
 r:f.r = .t (bv ok)
 s:∃v' uC',MtS M pl v' uP uC' f.H f.nx/\(ok=false->v'=v/\uC'=BK M.b.cons.length us)
 k:∀c,c<nx->c∉M.K.l->Aj f.H c=Aj H c
 n:nx<=f.nx
 fr:Frs H nx->Frs f.H f.nx
structure CmC where
 H:Ak
 nx:Nat
 k:Nat
def SCm (M:Mx) (tb:T) (n i:Nat) (c:CmC):Am:=⟨[(23,.t (iv (c.k:Int))),(22,.t (iv (n:Int))),(21,.t tb),(1,.t (iv (i:Int))),(0,.ptr M.K.k0 0)],c.H,c.nx,86⟩
abbrev Mm:Nat:=52
theorem vZ {M:Mx} (hM:FE M) {pl:List Int} {uP:List Bool}:∀(m:Nat) {i:Nat} {v:List Int} {us:List Nat} {H:Ak} {nx:Nat},i+m=M.a.cons.length->MtS M pl v uP (BK M.b.cons.length us) H nx->PMv (λ_ _=>true) M.a.vars.length v ->
  ∃f,vY M pl v uP us H nx (DQ M.ok M.b.cons (M.a.cons.drop i) v us) f/\B3 Xc (G q) 77 [.ptr M.K.k0 0,.t (iv (i:Int))] H nx f.r f.H f.nx:=by
 intro m
 induction m with
 | zero=>
  intro i v us H nx him h hpm
  have ei:i=M.a.cons.length:=by omega
  subst ei;rw[Yq,DQ];have L:=ldX hM h.o;obtain⟨ta,lca,hca⟩:=L.ca;have la:=hca.len;refine UT.callX rfl ?_;(conv in PT=>cbv);refine A3 An ?_;simp -implicitDefEqProofs;refine A3 An ?_;simp -implicitDefEqProofs [lca,la];exact Bp ⟨.t (bv true),H,nx⟩ ⟨rfl,⟨v,_,h,λe=>by cases e⟩,λ_ _ _=>rfl,X1 _,λh=>h⟩ (by simp -implicitDefEqProofs)
 | succ m ih=>
  intro i v us H nx him h hpm
  have hil:i<M.a.cons.length:=by omega
  obtain⟨c,hc⟩:∃c,M.a.cons[i]?=some c:=⟨_,Xj hil⟩
  have ed:M.a.cons.drop i=c::M.a.cons.drop (i+1):=by rw[X0 hil,(X8.1 hc).2]
  rw[ed]
  obtain⟨F,hF⟩:∃F:Nat->Bool,F=λk=>if k∈us then false else match Cw M.ok v (Dh c (M.b.cons.getD k ⟨0,0⟩))with
   | some w=>DQ M.ok M.b.cons (M.a.cons.drop (i+1)) w (k::us)
   | none=>false:=⟨_,rfl⟩
  obtain⟨O,hO⟩:∃O,O=DQ M.ok M.b.cons (c::M.a.cons.drop (i+1)) v us:=⟨_,rfl⟩
  rw[<-hO]
  replace hO:O=(Xo M.b.cons.length).any F:=by rw[hO,hF];rfl
  have L:=ldX hM h.o;obtain⟨ta,lca,hca⟩:=L.ca;obtain⟨tb,lcb,hcb⟩:=L.cb;have la:=hca.len;have lb:=hcb.len;have ia:=hca.iaddr hc .i64;have hz:eQq.z=2:=rfl;rw[hz,show eQq.enc c=[iv c.high,iv c.low]from rfl]at ia
  have bne0:((i:Int)==(M.a.cons.length:Int))=false:=by rw[zp];omega
  have hcin:=hM.mb.oa.inQ c (Xp hc);have sca:=hM.mb.sa.cons;have elc:=hM.lc
  have wi:Xi.wrap ((i:Int)+1)=(i:Int)+1:=by
   have:Xi.wrap ((i:Int)+1)=((i+1:Nat):Int):=Bb (by omega) (by omega);rw[this];rfl
  refine UT.callX rfl ?_;(conv in PT=>cbv);refine A3 An ?_;simp -implicitDefEqProofs;refine A3 An ?_;simp -implicitDefEqProofs [lca,la,bne0];refine Cp (λc:CmC=>⟨[],c.H,c.nx,86⟩) (λc=>O=false/\MtS M pl v uP (BK M.b.cons.length us) c.H c.nx/\(∀c',c'<nx->c'∉M.K.l->Aj c.H c'=Aj H c')/\nx<=c.nx/\(Frs H nx->Frs c.H c.nx)) (λ_=>rfl) ?_ ?_
  .refine A3 An ?_;simp -implicitDefEqProofs [lcb,lb];refine BA ?_
   refine DH (SCm M tb M.b.cons.length i) (λc=>M.b.cons.length-c.k) (λc=>O=((Xo M.b.cons.length).drop c.k).any F/\MtS M pl v uP (BK M.b.cons.length us) c.H c.nx/\(∀c',c'<nx->c'∉M.K.l->Aj c.H c'=Aj H c')/\nx<=c.nx/\(Frs H nx->Frs c.H c.nx)/\c.k<=M.b.cons.length)
    ⟨H,nx,0⟩ (λ_=>rfl) ⟨hO,h,λ_ _ _=>rfl,X1 _,λh=>h,Xm _⟩ ?_ rfl ?_
   .exact Aw (by simp -implicitDefEqProofs [SCm])
   rintro⟨Ha,na,k⟩ ⟨hOk,hS,hk,hn,hf,hkl⟩;simp only at hOk hS hk hn hf hkl;by_cases hlt:k<M.b.cons.length
   .rw[vX F hlt]at hOk
    obtain⟨d,hd⟩:∃d,M.b.cons[k]?=some d:=⟨_,Xj hlt⟩
    have hFk:F k=if k∈us then false else match Cw M.ok v (Dh c d)with
     | some w=>DQ M.ok M.b.cons (M.a.cons.drop (i+1)) w (k::us)
     | none=>false:=by
     rw[hF];simp only;rw[Yu,hd,Zi]
    have hdin:inQ M.a.vars.length d:=by rw[<-hM.mb.len];exact hM.mb.ob.inQ d (Xp hd)
    have hpin:=Nx hcin hdin;have i1:=hcb.iaddr hd .i64;rw[hz,show eQq.enc d=[iv d.high,iv d.low]from rfl]at i1;have w1:Xi.wrap ((k:Int)+1)=((k+1:Nat):Int):=Bb (by omega) (by omega);have u1:∀a b,AO 2 ((na,.cells Mm [a,b])::Ha) (.ptr na 0) (.t (.ag [iv d.high,iv d.low]))=some ((na,.cells Mm [.t (iv d.high),.t (iv d.low)])::Ha):=λa b=>st2 na a b _ _ Mm Ha
    obtain⟨Hb,hHb⟩:∃Hb,Hb=(na,Row.cells Mm [.t (iv d.high),.t (iv d.low)])::Ha:=⟨_,rfl⟩
    obtain⟨nb,hnb⟩:∃nb,nb=na+1:=⟨_,rfl⟩
    rw[<-hHb]at u1
    have kb:∀c,c<na->Aj Hb c=Aj Ha c:=λc h=>by rw[hHb,A9,zw (by omega)]
    have lbb:=Eg (H:=Hb) (b:=na) (ty:=Mm) (p0:=.t (iv d.high)) (p1:=.t (iv d.low)) (by rw[hHb,A9,zu rfl]);have Sb:MtS M pl v uP (BK M.b.cons.length us) Hb nb:=hS.more (λc hc=>kb c (hS.lt c hc)) (by omega)
    have hkb:∀c',c'<nx->c'∉M.K.l->Aj Hb c'=Aj H c':=λc h1 h2=>by rw[kb c (by omega)];exact hk c h1 h2
    have hfb:Frs H nx->Frs Hb nb:=λh=>by rw[hHb,hnb];exact(hf h).cons (Xw _) (Xx _)
    have Lb:=ldX hM Sb.o;obtain⟨ta',lca',hca'⟩:=Lb.ca;have ia':=hca'.iaddr hc .i64;rw[hz,show eQq.enc c=[iv c.high,iv c.low]from rfl]at ia';have iu:BN 1 (.row M.K.kc 0 M.b.cons.length 1) (.t (iv (k:Int)))=some (.ptr M.K.kc k):=FC _ _ _ hlt;have lu:=GD (e:=Er) Sb.c (HA us hlt) rfl rfl;have bd2:∀x y:Int,∀Φ H nx,A0 Φ H nx (.barr 1 [.int .i64 0,.int .i64 0] [0,1]) [.t (iv x),.t (iv y)]=some (.t (.ag [iv x,iv y]),H,nx):=λ_ _ _ _ _=>rfl;have htsl:EZ ty2 2 [.int .i64 0,.int .i64 0] 2 [(0,.t (.ag [iv c.high,iv d.high])),(1,.t (.ag [iv c.low,iv d.low]))]=some (.t (slT ePr (Dh c d))):=rfl;obtain⟨⟨fr,fH,fn⟩,⟨⟨b',hr,hb',hbK',hbl',hbo⟩,hS',hk',hn',hf'⟩,hcl⟩:=QZ (q:=q) hM Sb hpm (ZP (IsS.mk (Dh c d)) Hb) (Kr:=[]) (by simp) hpin (by simp[Dh]);simp only at hr hb' hbK' hbl' hbo hS' hk' hn' hf' hcl;have hbn':=Ra (ok:=M.ok) (Dh c d) (v,[]);have hBn':=NC (ok:=M.ok) (Es.nil hpm) hpin;have hbA:=NB (ok:=M.ok) (Dh c d) (v,[]);rw[show(v,([]:List Int)).1=v from rfl]at hbA;rw[hbA]at hFk
    obtain⟨⟨⟨w2,bd⟩,ok2⟩,ho2⟩:∃o2,o2=Ed M.ok (v,[]) (Dh c d):=⟨_,rfl⟩
    rw[<-ho2]at hr hb' hS' hBn' hbn' hFk;simp only at hr hb' hS' hBn' hbn' hFk;rw[show(Dh c d).length=2 from rfl,Xk]at hbn';obtain⟨x0,x1⟩:=O1 A6 b' bd (bv ok2);obtain⟨t,t1,t2⟩:=hAt hcl hf';rw[hr]at t1
    obtain⟨rr,hrr⟩:∃rr,rr=Df [Ax A6 b' bd,.t (bv ok2)]:=⟨_,rfl⟩
    rw[<-hrr]at t1 x0 x1
    have kf:∀c',c'<nx->c'∉M.K.l->Aj fH c'=Aj H c':=λc h1 h2=>by rw[hk' c (by omega) h2];exact hkb c h1 h2
    refine A3 An ?_;simp -implicitDefEqProofs [SCm,hlt];refine A3 An ?_;simp -implicitDefEqProofs;refine Cp (λc:CmC=>⟨[(23,.t (iv (k:Int))),(22,.t (iv (M.b.cons.length:Int))),(21,.t tb),(1,.t (iv (i:Int))),(0,.ptr M.K.k0 0)],c.H,c.nx,86⟩) (λc=>O=((Xo M.b.cons.length).drop (k+1)).any F/\MtS M pl v uP (BK M.b.cons.length us) c.H c.nx/\(∀c',c'<nx->c'∉M.K.l->Aj c.H c'=Aj H c')/\nx<=c.nx/\(Frs H nx->Frs c.H c.nx)) (λ_=>rfl) ?_ ?_
    .refine BA ?_;refine A3 An ?_;simp -implicitDefEqProofs [i1,D2,u1];refine B4 (s':=⟨[(5,.t (iv (k:Int))),(6,.ptr na 0),(23,.t (iv (k:Int))),(22,.t (iv (M.b.cons.length:Int))),(21,.t tb),(1,.t (iv (i:Int))),(0,.ptr M.K.k0 0)],Hb,nb,86⟩) (by rw[hnb];exact Aw (by simp -implicitDefEqProofs)) rfl ?_;by_cases hu:k∈us
     .rw[zq hu]at lu;rw[zu hu]at hFk;rw[hFk,Yw]at hOk;refine A3 An ?_;simp -implicitDefEqProofs [Lb.c,iu,lu];exact A4.mk ⟨Hb,nb,0⟩ ⟨hOk,Sb,hkb,by show nx<=nb;omega,hfb⟩ (Aw (by simp -implicitDefEqProofs))
     rw[zt hu]at lu;rw[zw hu]at hFk;refine A3 An ?_;simp -implicitDefEqProofs [Lb.c,iu,lu]
     cases ok2 with
     | false=>
      rw[zw (by simp)]at hFk;simp only at hFk;rw[hFk,Yw]at hOk;obtain⟨⟨gr,gH,gn⟩,⟨hgr,hgn,hgS,hgk,hgf⟩,hcg⟩:=O2 (q:=q) hM hS' hBn' hb' hbK' (by omega);simp only at hgr hgn hgS hgk hgf hcg;subst hgr hgn;obtain⟨tr,tr1,tr2⟩:=hAt hcg hgf;have CC:Ctx Xc (G q) _:=AB.nil.ctxH (AG.cons t2 (AG.cons tr2 .nil)) mixed;refine A3 CC ?_;simp -implicitDefEqProofs [Lb.c,lca',ia',lp,lbb.1,lbb.2,bd2,htsl,t1,x0,x1,-B5,-HZ];refine A3 CC ?_;simp -implicitDefEqProofs;refine AV CC ?_;simp -implicitDefEqProofs [tr1];exact A4.mk ⟨gH,gn,0⟩ ⟨hOk,hgS,λc h1 h2=>by show Aj gH c=_;rw[hgk c h2];exact kf c h1 h2,by show nx<=gn;omega,λh=>hgf (hf' (hfb h))⟩ (Aw (by simp -implicitDefEqProofs))
     | true=>
      rw[zu rfl]at hFk;simp only at hFk;have s1:=FB (e:=Er) (ty:=tyO) (c:=bv true) (x:=true) rfl hS'.c (i:=k) (by rw[Ee];exact hlt) rfl rfl;have hq1:∀j,j∈k::us ↔ j=k\/j∈us:=λj=>Xn;rw[Ul hlt hq1]at s1;have S2:=hS'.setC hM (w:=BK M.b.cons.length (k::us)) (Ee _ _)
      obtain⟨H2,hH2⟩:∃H2,H2=Xe fH M.K.kc (A5 Er tyO (BK M.b.cons.length (k::us))):=⟨_,rfl⟩
      rw[<-hH2]at s1 S2
      have k2:∀c,c∉M.K.l->Aj H2 c=Aj fH c:=λc hc=>by rw[hH2,A7,zw (λe=>hc (by rw[e];exact M.K.mc))]
      have f2:Frs H nx->Frs H2 fn:=λh=>by rw[hH2];exact(hf' (hfb h)).upd
      have L1:=ldX hM hS'.o;obtain⟨⟨cr,cH,cn⟩,⟨hcr,⟨v',uC',hcS,hcE⟩,hck,hcn,hcf⟩,hcc⟩:=ih (i:=i+1) (by omega) S2 hBn'.pm;simp only at hcr hcS hck hcn hcf hcc
      obtain⟨ok3,ho3⟩:∃ok3,ok3=DQ M.ok M.b.cons (M.a.cons.drop (i+1)) w2 (k::us):=⟨_,rfl⟩
      rw[<-ho3]at hFk hcr hcE;subst hcr;obtain⟨tc,tc1,tc2⟩:=hAt hcc hcf;rw[show((i+1:Nat):Int)=(i:Int)+1 from rfl]at tc1
      have kc:∀c',c'<nx->c'∉M.K.l->Aj cH c'=Aj H c':=λc h1 h2=>by rw[hck c (by omega) h2,k2 c h2];exact kf c h1 h2
      cases ok3 with
      | true=>
       rw[hFk,Bool.true_or]at hOk;subst hOk;have CC:Ctx Xc (G q) _:=AB.nil.ctxH (AG.cons t2 (AG.cons tc2 .nil)) mixed;refine A3 CC ?_;simp -implicitDefEqProofs [Lb.c,lca',ia',lp,lbb.1,lbb.2,bd2,htsl,t1,x0,x1,-B5,-HZ];refine A3 CC ?_;simp -implicitDefEqProofs [L1.c,iu,s1,wi,tc1];exact Bp ⟨.t (bv true),cH,cn⟩ ⟨rfl,⟨v',uC',hcS,λe=>by cases e⟩,kc,by show nx<=cn;omega,λh=>hcf (f2 h)⟩ (by simp -implicitDefEqProofs)
      | false=>
       rw[hFk,Yw]at hOk;obtain⟨e1,e2⟩:=hcE rfl;subst e1 e2;have L3:=ldX hM hcS.o;have s3:=FB (e:=Er) (ty:=tyO) (c:=bv false) (x:=false) rfl hcS.c (i:=k) (by rw[Ee];exact hlt) rfl rfl;rw[Um hlt hu hq1]at s3;have S3:=hcS.setC hM (w:=BK M.b.cons.length us) (Ee _ _)
       obtain⟨H3,hH3⟩:∃H3,H3=Xe cH M.K.kc (A5 Er tyO (BK M.b.cons.length us)):=⟨_,rfl⟩
       rw[<-hH3]at s3 S3
       have k3:∀c,c∉M.K.l->Aj H3 c=Aj cH c:=λc hc=>by rw[hH3,A7,zw (λe=>hc (by rw[e];exact M.K.mc))]
       have f3:Frs H nx->Frs H3 cn:=λh=>by rw[hH3];exact(hcf (f2 h)).upd
       obtain⟨⟨gr,gH,gn⟩,⟨hgr,hgn,hgS,hgk,hgf⟩,hcg⟩:=O2 (q:=q) hM S3 hBn' (hb'.imp id λe=>by rw[k3 b' hbK',hck b' hbl' hbK',k2 b' hbK'];exact e) hbK' (by omega);simp only at hgr hgn hgS hgk hgf hcg;subst hgr hgn;obtain⟨tr,tr1,tr2⟩:=hAt hcg hgf;have CC:Ctx Xc (G q) _:=AB.nil.ctxH (AG.cons t2 (AG.cons tc2 (AG.cons tr2 .nil))) mixed;refine A3 CC ?_;simp -implicitDefEqProofs [Lb.c,lca',ia',lp,lbb.1,lbb.2,bd2,htsl,t1,x0,x1,-B5,-HZ];refine A3 CC ?_;simp -implicitDefEqProofs [L1.c,iu,s1,wi,tc1,L3.c,s3];refine AV CC ?_;simp -implicitDefEqProofs [tr1];exact A4.mk ⟨gH,gn,0⟩ ⟨hOk,hgS,λc h1 h2=>by show Aj gH c=_;rw[hgk c h2,k3 c h2];exact kc c h1 h2,by show nx<=gn;omega,λh=>hgf (f3 h)⟩ (Aw (by simp -implicitDefEqProofs))
    .rintro⟨Hz,nz,_⟩ ⟨g1,g2,g3,g4,g5⟩;simp only at g1 g2 g3 g4 g5;refine AV An ?_;simp -implicitDefEqProofs [w1];exact A4.mk ⟨Hz,nz,k+1⟩ ⟨⟨g1,g2,g3,g4,g5,hlt⟩,by show M.b.cons.length-(k+1)<M.b.cons.length-k;omega⟩ (Aw (by simp -implicitDefEqProofs [SCm]))
   .have ek:k=M.b.cons.length:=by omega
    subst ek;rw[Yh (by simp),List.any_nil]at hOk;refine AV An ?_;simp -implicitDefEqProofs [SCm];exact A4.mk ⟨Ha,na,0⟩ ⟨hOk,hS,hk,hn,hf⟩ (Aw (by simp -implicitDefEqProofs))
  rintro⟨Hz,nz,_⟩ ⟨g1,g2,g3,g4,g5⟩;simp only at g1 g2 g3 g4 g5;subst g1;refine AV An ?_;simp -implicitDefEqProofs;exact Bp ⟨.t (bv false),Hz,nz⟩ ⟨rfl,⟨v,_,g2,λ_=>⟨rfl,rfl⟩⟩,g3,g4,g5⟩ (by simp -implicitDefEqProofs)
theorem ZQ (a b:List Nat):DO (a++b)=DO a++DO b:=by simp[DO]
theorem w4 {α:Type} {l:List α} {i:Nat} {x:α}:(l.set i x).take i=l.take i:=by
 rw[List.take_set,List.set_eq_of_length_le (by rw[Xz];omega)]
theorem w7 {α:Type} {l:List α} {i:Nat} {x:α} (h:i<l.length):(l.set i x).take (i+1)=l.take i++[x]:=by
 rw[Xq,w4,List.getElem?_set_self h];rfl
theorem MtS.setU {M:Mx} (hM:FE M) {pl v:List Int} {uP uC w:List Bool} {H:Ak} {nx:Nat} (h:MtS M pl v uP uC H nx) (hl:w.length=M.b.rels.length):MtS M pl v w uC (Xe H M.K.ku (A5 Er tyO w)) nx:=by
 have n:=Kx.ne hM.nd;refine⟨?_,?_,?_,?_,?_,?_,h.lp,h.lv,hl,h.lc,h.lt⟩
 .rw[A7,zw n.a0u];exact h.o
 .rw[A7,zw n.apu];exact h.p
 .rw[A7,zw n.atu];exact h.t
 .rw[A7,zw n.afu];exact h.f
 .rw[A7,zu rfl,h.u];rfl
 .rw[A7,zw n.auc.symm];exact h.c
theorem MtS.setP {M:Mx} (hM:FE M) {pl v w:List Int} {uP uC:List Bool} {H:Ak} {nx:Nat} (h:MtS M pl v uP uC H nx) (hl:w.length=M.a.rels.length):MtS M w v uP uC (Xe H M.K.kp (A5 A6 tyI w)) nx:=by
 have n:=Kx.ne hM.nd;refine⟨?_,?_,?_,?_,?_,?_,hl,h.lv,h.lu,h.lc,h.lt⟩
 .rw[A7,zw n.a0p];exact h.o
 .rw[A7,zu rfl,h.p];rfl
 .rw[A7,zw n.apt.symm];exact h.t
 .rw[A7,zw n.apf.symm];exact h.f
 .rw[A7,zw n.apu.symm];exact h.u
 .rw[A7,zw n.apc.symm];exact h.c
structure w8 (M:Mx) (v:List Int) (ps:List Nat) (H:Ak) (nx:Nat) (O:Option (List Nat)) (f:Fin):Prop where
 r:f.r = .t (bv O.isSome)
 s:∃pl' v' uP' uC',MtS M pl' v' uP' uC' f.H f.nx/\(∀r,O=some r->pl'=DO r)/\(O=none->v'=v/\uP'=BK M.b.rels.length ps/\uC'=BK M.b.cons.length []/\pl'.take ps.length=DO ps)
 k:∀c,c<nx->c∉M.K.l->Aj f.H c=Aj H c
 n:nx<=f.nx
 fr:Frs H nx->Frs f.H f.nx
structure RsC where
 H:Ak
 nx:Nat
 k:Nat
 pl:List Int
def SRs (M:Mx) (tb:T) (n i:Nat) (c:RsC):Am:=⟨[(25,.t (iv (c.k:Int))),(24,.t (iv (n:Int))),(23,.t tb),(1,.t (iv (i:Int))),(0,.ptr M.K.k0 0)],c.H,c.nx,93⟩
def Rb (ok:Int->Int->Bool) (bc ac:List Qq) (br:List Ep) (x:Ep) (r:List Ep) (v:List Int) (p:List Nat) (k:Nat):Option (List Nat):=if k∈p then none else match Dr x (br.getD k ⟨⟨#[]⟩,0,[]⟩)with
 | none=>none
 | some l=>match Cw ok v l with
  | none=>none
  | some w=>Ds ok bc ac br r w (p++[k])
theorem w9 (ok:Int->Int->Bool) (bc ac:List Qq) (br:List Ep) (x:Ep) (r:List Ep) (v:List Int) (p:List Nat):Ds ok bc ac br (x::r) v p=(Xo br.length).findSome? (Rb ok bc ac br x r v p):=rfl
theorem wA {x y:Ep} {l:List (Int×Int)} (h:Dr x y=some l):l.length<=x.args.length+1:=by
 unfold Dr at h;split at h
 .injection h with h;subst h;rw[Xg,Yv,Xh,Xh];omega
 .cases h
theorem wB {M:Mx} (hM:FE M):∀(m:Nat) {ps:List Nat} {pl v:List Int} {H:Ak} {nx:Nat},ps.length+m=M.a.rels.length->pl.take ps.length=DO ps->MtS M pl v (BK M.b.rels.length ps) (BK M.b.cons.length []) H nx->PMv (λ_ _=>true) M.a.vars.length v ->
  ∃f,w8 M v ps H nx (Ds M.ok M.b.cons M.a.cons M.b.rels (M.a.rels.drop ps.length) v ps) f/\B3 Xc (G q) 49 [.ptr M.K.k0 0,.t (iv (ps.length:Int))] H nx f.r f.H f.nx:=by
 intro m
 induction m with
 | zero=>
  intro ps pl v H nx him hpl h hpm
  have ei:ps.length=M.a.rels.length:=by omega
  obtain⟨i,hi⟩:∃i,i=ps.length:=⟨_,rfl⟩
  rw[<-hi]at ei hpl ⊢
  have edr:M.a.rels.drop i=[]:=by rw[ei,Yq]
  have hfull:pl=DO ps:=by rw[<-hpl,ei,<-h.lp,Xt]
  rw[edr,Ds];have L:=ldX hM h.o;obtain⟨ta,rl,lra,hra,hrm⟩:=L.ra;have la:=hra.len;rw[show rl.length=i by rw[ei,<-hrm,Xh]]at la;obtain⟨⟨cr,cH,cn⟩,⟨hcr,⟨v',uC',hcS,hcE⟩,hck,hcn,hcf⟩,hcc⟩:=vZ (q:=q) hM M.a.cons.length (i:=0) (Nat.zero_add _) h hpm;simp only at hcr hcS hck hcn hcf hcc;rw[Zj]at hcr hcE
  obtain⟨ok,hok⟩:∃ok,ok=DQ M.ok M.b.cons M.a.cons v []:=⟨_,rfl⟩
  rw[<-hok]at hcr hcE ⊢;subst hcr;obtain⟨tc,tc1,tc2⟩:=hAt hcc hcf;rw[show(iv ((0:Nat):Int)) = .v (.int .i64 0)from rfl]at tc1;have CC:Ctx Xc (G q) _:=AB.nil.ctxH (AG.cons tc2 .nil) mixed;refine US.callX rfl ?_;(conv in PS=>cbv);refine A3 CC ?_;simp -implicitDefEqProofs;refine A3 CC ?_;simp -implicitDefEqProofs [lra,la,tc1];refine Bp ⟨.t (bv ok),cH,cn⟩ ⟨by cases ok<;>rfl,⟨pl,v',_,uC',hcS,λr hr=>?_,λhn=>?_⟩,hck,hcn,hcf⟩ (by simp -implicitDefEqProofs)
  .cases ok with
   | true=>rw[zu rfl]at hr;injection hr with hr;rw[<-hr];exact hfull
   | false=>rw[zw (by simp)]at hr;cases hr
  .cases ok with
   | true=>rw[zu rfl]at hn;cases hn
   | false=>obtain⟨e1,e2⟩:=hcE rfl;exact⟨e1,rfl,e2,by rw[<-hi];exact hpl⟩
 | succ m ih=>
  intro ps pl0 v H nx him hpl0 h hpm
  obtain⟨i,hi⟩:∃i,i=ps.length:=⟨_,rfl⟩
  have hil:i<M.a.rels.length:=by omega
  rw[<-hi]at hpl0 ⊢;have L:=ldX hM h.o;obtain⟨ta,rla,lra,hra,hrma⟩:=L.ra;obtain⟨tb,rlb,lrb,hrb,hrmb⟩:=L.rb
  have lla:rla.length=M.a.rels.length:=by rw[<-hrma,Xh]
  have llb:rlb.length=M.b.rels.length:=by rw[<-hrmb,Xh]
  have la:=hra.len;have lb:=hrb.len;rw[lla]at la;rw[llb]at lb
  obtain⟨X,hX⟩:∃X,rla[i]?=some X:=⟨_,Xj (by omega)⟩
  have hXr:M.a.rels[i]?=some X.x:=by rw[<-hrma,Xu,hX];rfl
  have hXm:=Xp hXr
  have edr:M.a.rels.drop i=X.x::M.a.rels.drop (i+1):=by rw[X0 hil,(X8.1 hXr).2]
  rw[edr,w9]
  obtain⟨F,hF⟩:∃F,F=Rb M.ok M.b.cons M.a.cons M.b.rels X.x (M.a.rels.drop (i+1)) v ps:=⟨_,rfl⟩
  rw[<-hF]
  obtain⟨O,hO⟩:∃O,O=(Xo M.b.rels.length).findSome? F:=⟨_,rfl⟩
  rw[<-hO];have i1:=hra.iaddr hX .i64;have hz:eEC.z=3:=rfl;rw[hz,show eEC.enc X=X.cs from rfl]at i1
  have bne0:((i:Int)==(M.a.rels.length:Int))=false:=by rw[zp];omega
  have hXin:=hM.mb.oa.inE X.x hXm;have sra:=hM.mb.sa.rels;have sXa:=hM.mb.sa.args X.x hXm;have elr:=hM.lr
  have wi:Xi.wrap ((i:Int)+1)=(i:Int)+1:=by
   have:Xi.wrap ((i:Int)+1)=((i+1:Nat):Int):=Bb (by omega) (by omega);rw[this];rfl
  refine US.callX rfl ?_;(conv in PS=>cbv);refine A3 An ?_;simp -implicitDefEqProofs;refine A3 An ?_;simp -implicitDefEqProofs [lra,la,bne0];refine Cp (λc:RsC=>⟨[],c.H,c.nx,93⟩) (λc=>O=none/\MtS M c.pl v (BK M.b.rels.length ps) (BK M.b.cons.length []) c.H c.nx/\c.pl.take i=DO ps/\(∀c',c'<nx->c'∉M.K.l->Aj c.H c'=Aj H c')/\nx<=c.nx/\(Frs H nx->Frs c.H c.nx)) (λ_=>rfl) ?_ ?_
  .refine A3 An ?_;simp -implicitDefEqProofs [lrb,lb];refine BA ?_
   refine DH (SRs M tb M.b.rels.length i) (λc=>M.b.rels.length-c.k) (λc=>O=((Xo M.b.rels.length).drop c.k).findSome? F/\MtS M c.pl v (BK M.b.rels.length ps) (BK M.b.cons.length []) c.H c.nx/\c.pl.take i=DO ps/\(∀c',c'<nx->c'∉M.K.l->Aj c.H c'=Aj H c')/\nx<=c.nx/\(Frs H nx->Frs c.H c.nx)/\c.k<=M.b.rels.length)
    ⟨H,nx,0,pl0⟩ (λ_=>rfl) ⟨hO,h,hpl0,λ_ _ _=>rfl,X1 _,λh=>h,Xm _⟩ ?_ rfl ?_
   .exact Aw (by simp -implicitDefEqProofs [SRs])
   rintro⟨Ha,na,k,pl⟩ ⟨hOk,hS,hpl,hk,hn,hf,hkl⟩;simp only at hOk hS hpl hk hn hf hkl;by_cases hlt:k<M.b.rels.length
   .rw[u6 hlt]at hOk
    obtain⟨Y,hY⟩:∃Y,rlb[k]?=some Y:=⟨_,Xj (by omega)⟩
    have hYr:M.b.rels[k]?=some Y.x:=by rw[<-hrmb,Xu,hY];rfl
    have hYm:=Xp hYr
    have hFk:F k=if k∈ps then none else match Dr X.x Y.x with
     | none=>none
     | some l=>match Cw M.ok v l with
      | none=>none
      | some w=>Ds M.ok M.b.cons M.a.cons M.b.rels (M.a.rels.drop (i+1)) w (ps++[k]):=by
     rw[hF,Rb,Yu,hYr,Zi]
    have hYin:inE M.a.vars.length Y.x:=by rw[<-hM.mb.len];exact hM.mb.ob.inE Y.x hYm
    have sYa:=hM.mb.sb.args Y.x hYm;have i2:=hrb.iaddr hY .i64;rw[hz,show eEC.enc Y=Y.cs from rfl]at i2;have w1:Xi.wrap ((k:Int)+1)=((k+1:Nat):Int):=Bb (by omega) (by omega);have La:=ldX hM hS.o;obtain⟨ta',rla',lra',hra',hrma'⟩:=La.ra;obtain⟨tb',rlb',lrb',hrb',hrmb'⟩:=La.rb
    obtain⟨X',hX'⟩:∃X',rla'[i]?=some X':=⟨_,Xj (by rw[show rla'.length=M.a.rels.length by rw[<-hrma',Xh]];exact hil)⟩
    obtain⟨Y',hY'⟩:∃Y',rlb'[k]?=some Y':=⟨_,Xj (by rw[show rlb'.length=M.b.rels.length by rw[<-hrmb',Xh]];exact hlt)⟩
    have eX:X'.x=X.x:=by
     have:M.a.rels[i]?=some X'.x:=by rw[<-hrma',Xu,hX'];rfl
     rw[hXr]at this;injection this with this;exact this.symm
    have eY:Y'.x=Y.x:=by
     have:M.b.rels[k]?=some Y'.x:=by rw[<-hrmb',Xu,hY'];rfl
     rw[hYr]at this;injection this with this;exact this.symm
    have j1:=hra'.iaddr hX' .i64;rw[hz,show eEC.enc X'=X'.cs from rfl]at j1;have j2:=hrb'.iaddr hY' .i64;rw[hz,show eEC.enc Y'=Y'.cs from rfl]at j2;have eP:=vV X' Y' (by rw[eX];exact sXa) (by rw[eY];exact sYa);rw[eX,eY]at eP;have iu:BN 1 (.row M.K.ku 0 M.b.rels.length 1) (.t (iv (k:Int)))=some (.ptr M.K.ku k):=FC _ _ _ hlt;have ip:BN 1 (.row M.K.kp 0 M.a.rels.length 1) (.t (iv (i:Int)))=some (.ptr M.K.kp i):=FC _ _ _ hil;have lu:=GD (e:=Er) hS.u (HA ps hlt) rfl rfl;refine A3 An ?_;simp -implicitDefEqProofs [SRs,hlt];refine A3 An ?_;simp -implicitDefEqProofs;refine Cp (λc:RsC=>⟨[(25,.t (iv (k:Int))),(24,.t (iv (M.b.rels.length:Int))),(23,.t tb),(1,.t (iv (i:Int))),(0,.ptr M.K.k0 0)],c.H,c.nx,93⟩) (λc=>O=((Xo M.b.rels.length).drop (k+1)).findSome? F/\MtS M c.pl v (BK M.b.rels.length ps) (BK M.b.cons.length []) c.H c.nx/\c.pl.take i=DO ps/\(∀c',c'<nx->c'∉M.K.l->Aj c.H c'=Aj H c')/\nx<=c.nx/\(Frs H nx->Frs c.H c.nx)) (λ_=>rfl) ?_ ?_
    .refine BA ?_;refine A3 An ?_;simp -implicitDefEqProofs;have C0:Ctx Xc (G q) _:=(AB.cons (hPs (q:=q)) .nil).ctxH AG.nil mixed
     cases hpe:Dr X.x Y.x with
     | none=>
      rw[hpe]at hFk eP
      have hFk:F k=none:=by rw[hFk];split<;>rfl
      rw[hFk]at hOk;refine A3 C0 ?_;simp -implicitDefEqProofs [La.p,lra',lrb',j1,j2,LP,eP,HI];refine A3 C0 ?_;simp -implicitDefEqProofs;exact A4.mk ⟨Ha,na,0,pl⟩ ⟨hOk,hS,hpl,hk,hn,hf⟩ (Aw (by simp -implicitDefEqProofs))
     | some l=>
     rw[hpe]at hFk eP;simp only at hFk;by_cases hu:k∈ps
     .rw[zq hu]at lu;rw[zu hu]at hFk;rw[hFk]at hOk;refine A3 C0 ?_;simp -implicitDefEqProofs [La.p,lra',lrb',j1,j2,LP,eP,HI];refine A3 C0 ?_;simp -implicitDefEqProofs [La.u,iu,lu];exact A4.mk ⟨Ha,na,0,pl⟩ ⟨hOk,hS,hpl,hk,hn,hf⟩ (Aw (by simp -implicitDefEqProofs))
     rw[zt hu]at lu;rw[zw hu]at hFk;have hpin:=Nz hXin hYin hpe;have hll:=wA hpe;obtain⟨⟨fr,fH,fn⟩,⟨⟨b',hr,hb',hbK',hbl',hbo⟩,hS',hk',hn',hf'⟩,hcl⟩:=QZ (q:=q) hM hS hpm (ZP (IsS.mk l) Ha) (Kr:=[]) (by simp) hpin (by omega);simp only at hr hb' hbK' hbl' hbo hS' hk' hn' hf' hcl;have hbn':=Ra (ok:=M.ok) l (v,[]);have hBn':=NC (ok:=M.ok) (Es.nil hpm) hpin;have hbA:=NB (ok:=M.ok) l (v,[]);rw[show(v,([]:List Int)).1=v from rfl]at hbA;rw[hbA]at hFk
     obtain⟨⟨⟨w2,bd⟩,ok2⟩,ho2⟩:∃o2,o2=Ed M.ok (v,[]) l:=⟨_,rfl⟩
     rw[<-ho2]at hr hb' hS' hBn' hbn' hFk;simp only at hr hb' hS' hBn' hbn' hFk;rw[Xk]at hbn';obtain⟨x0,x1⟩:=O1 A6 b' bd (bv ok2);obtain⟨t,t1,t2⟩:=hAt hcl hf';rw[hr]at t1
     obtain⟨rr,hrr⟩:∃rr,rr=Df [Ax A6 b' bd,.t (bv ok2)]:=⟨_,rfl⟩
     rw[<-hrr]at t1 x0 x1
     have kf:∀c',c'<nx->c'∉M.K.l->Aj fH c'=Aj H c':=λc h1 h2=>by rw[hk' c (by omega) h2];exact hk c h1 h2
     cases ok2 with
     | false=>
      rw[zw (by simp)]at hFk;simp only at hFk;rw[hFk]at hOk;obtain⟨⟨gr,gH,gn⟩,⟨hgr,hgn,hgS,hgk,hgf⟩,hcg⟩:=O2 (q:=q) hM hS' hBn' hb' hbK' (by omega);simp only at hgr hgn hgS hgk hgf hcg;subst hgr hgn;obtain⟨tr,tr1,tr2⟩:=hAt hcg hgf;have CC:Ctx Xc (G q) _:=(AB.cons (hPs (q:=q)) .nil).ctxH (AG.cons t2 (AG.cons tr2 .nil)) mixed;refine A3 CC ?_;simp -implicitDefEqProofs [La.p,lra',lrb',j1,j2,LP,eP,HI];refine A3 CC ?_;simp -implicitDefEqProofs [La.u,iu,lu];refine A3 CC ?_;simp -implicitDefEqProofs [t1,x0,x1,-B5];refine A3 CC ?_;simp -implicitDefEqProofs;refine AV CC ?_;simp -implicitDefEqProofs [tr1];exact A4.mk ⟨gH,gn,0,pl⟩ ⟨hOk,hgS,hpl,λc h1 h2=>by show Aj gH c=_;rw[hgk c h2];exact kf c h1 h2,by show nx<=gn;omega,λh=>hgf (hf' (hf h))⟩ (Aw (by simp -implicitDefEqProofs))
     | true=>
      rw[zu rfl]at hFk;simp only at hFk
      have hq1:∀j,j∈ps++[k] ↔ j=k\/j∈ps:=λj=>by rw[Ze,Yr];exact or_comm
      have s1:=FB (e:=Er) (ty:=tyO) (c:=bv true) (x:=true) rfl hS'.u (i:=k) (by rw[Ee];exact hlt) rfl rfl;rw[Ul hlt hq1]at s1;have S1:=hS'.setU hM (w:=BK M.b.rels.length (ps++[k])) (Ee _ _)
      obtain⟨H1,hH1⟩:∃H1,H1=Xe fH M.K.ku (A5 Er tyO (BK M.b.rels.length (ps++[k]))):=⟨_,rfl⟩
      rw[<-hH1]at s1 S1;have s2:=FB (e:=A6) (ty:=tyI) (c:=iv (k:Int)) (x:=(k:Int)) rfl S1.p (i:=i) (by rw[S1.lp];exact hil) rfl rfl
      obtain⟨pl2,hpl2⟩:∃pl2,pl2=pl.set i (k:Int):=⟨_,rfl⟩
      rw[<-hpl2]at s2;have S2:=S1.setP hM (w:=pl2) (by rw[hpl2,Yp];exact S1.lp)
      obtain⟨H2,hH2⟩:∃H2,H2=Xe H1 M.K.kp (A5 A6 tyI pl2):=⟨_,rfl⟩
      rw[<-hH2]at s2 S2
      have k2:∀c,c∉M.K.l->Aj H2 c=Aj fH c:=λc hc=>by rw[hH2,A7,zw (λe=>hc (by rw[e];exact M.K.mp)),hH1,A7,zw (λe=>hc (by rw[e];exact M.K.mu))]
      have f2:Frs H nx->Frs H2 fn:=λh=>by rw[hH2,hH1];exact(hf' (hf h)).upd.upd
      have L1:=ldX hM hS'.o;have L2:=ldX hM S1.o
      have elen:(ps++[k]).length=i+1:=by rw[Xf,Xl,hi]
      obtain⟨⟨cr,cH,cn⟩,⟨hcr,⟨pl3,v',uP',uC',hcS,hcO,hcE⟩,hck,hcn,hcf⟩,hcc⟩:=ih (ps:=ps++[k]) (by rw[elen];omega) (by rw[elen,hpl2,w7 (by rw[S1.lp];exact hil),hpl,ZQ];rfl) S2 hBn'.pm;simp only at hcr hcS hck hcn hcf hcc;rw[elen]at hcr hcO hcE hcc
      obtain⟨O3,hO3⟩:∃O3,O3=Ds M.ok M.b.cons M.a.cons M.b.rels (M.a.rels.drop (i+1)) w2 (ps++[k]):=⟨_,rfl⟩
      rw[<-hO3]at hFk hcr hcO hcE;subst hcr;obtain⟨tc,tc1,tc2⟩:=hAt hcc hcf;rw[show((i+1:Nat):Int)=(i:Int)+1 from rfl]at tc1
      have kc:∀c',c'<nx->c'∉M.K.l->Aj cH c'=Aj H c':=λc h1 h2=>by rw[hck c (by omega) h2,k2 c h2];exact kf c h1 h2
      rw[hFk]at hOk
      cases O3 with
      | some r3=>
       simp only at hOk;subst hOk;rw[show(some r3:Option (List Nat)).isSome=true from rfl]at tc1;have CC:Ctx Xc (G q) _:=(AB.cons (hPs (q:=q)) .nil).ctxH (AG.cons t2 (AG.cons tc2 .nil)) mixed;refine A3 CC ?_;simp -implicitDefEqProofs [La.p,lra',lrb',j1,j2,LP,eP,HI];refine A3 CC ?_;simp -implicitDefEqProofs [La.u,iu,lu];refine A3 CC ?_;simp -implicitDefEqProofs [t1,x0,x1,-B5];refine A3 CC ?_;simp -implicitDefEqProofs [L1.u,iu,s1,L2.p,ip,s2,wi,tc1];exact Bp ⟨.t (bv true),cH,cn⟩ ⟨rfl,⟨pl3,v',uP',uC',hcS,hcO,λe=>by cases e⟩,kc,by show nx<=cn;omega,λh=>hcf (f2 h)⟩ (by simp -implicitDefEqProofs)
      | none=>
       simp only at hOk;obtain⟨e1,e2,e3,e4⟩:=hcE rfl;subst e1 e2 e3;rw[show(none:Option (List Nat)).isSome=false from rfl]at tc1
       have e4':pl3.take i=DO ps:=by
        have:=congrArg (λl=>l.take i) e4;simp only[List.take_take,Yx (Xx i)]at this;rw[this,ZQ,Yy (by rw[YV];omega),X4 (by rw[YV];omega)]
       have L3:=ldX hM hcS.o;have s3:=FB (e:=Er) (ty:=tyO) (c:=bv false) (x:=false) rfl hcS.u (i:=k) (by rw[Ee];exact hlt) rfl rfl;rw[Um hlt hu hq1]at s3;have S3:=hcS.setU hM (w:=BK M.b.rels.length ps) (Ee _ _)
       obtain⟨H3,hH3⟩:∃H3,H3=Xe cH M.K.ku (A5 Er tyO (BK M.b.rels.length ps)):=⟨_,rfl⟩
       rw[<-hH3]at s3 S3
       have k3:∀c,c∉M.K.l->Aj H3 c=Aj cH c:=λc hc=>by rw[hH3,A7,zw (λe=>hc (by rw[e];exact M.K.mu))]
       have f3:Frs H nx->Frs H3 cn:=λh=>by rw[hH3];exact(hcf (f2 h)).upd
       obtain⟨⟨gr,gH,gn⟩,⟨hgr,hgn,hgS,hgk,hgf⟩,hcg⟩:=O2 (q:=q) hM S3 hBn' (hb'.imp id λe=>by rw[k3 b' hbK',hck b' hbl' hbK',k2 b' hbK'];exact e) hbK' (by omega);simp only at hgr hgn hgS hgk hgf hcg;subst hgr hgn;obtain⟨tr,tr1,tr2⟩:=hAt hcg hgf;have CC:Ctx Xc (G q) _:=(AB.cons (hPs (q:=q)) .nil).ctxH (AG.cons t2 (AG.cons tc2 (AG.cons tr2 .nil))) mixed;refine A3 CC ?_;simp -implicitDefEqProofs [La.p,lra',lrb',j1,j2,LP,eP,HI];refine A3 CC ?_;simp -implicitDefEqProofs [La.u,iu,lu];refine A3 CC ?_;simp -implicitDefEqProofs [t1,x0,x1,-B5];refine A3 CC ?_;simp -implicitDefEqProofs [L1.u,iu,s1,L2.p,ip,s2,wi,tc1,L3.u,s3];refine AV CC ?_;simp -implicitDefEqProofs [tr1];exact A4.mk ⟨gH,gn,0,pl3⟩ ⟨hOk,hgS,e4',λc h1 h2=>by show Aj gH c=_;rw[hgk c h2,k3 c h2];exact kc c h1 h2,by show nx<=gn;omega,λh=>hgf (f3 h)⟩ (Aw (by simp -implicitDefEqProofs))
    .rintro⟨Hz,nz,_,plz⟩ ⟨g1,g2,gp,g3,g4,g5⟩;simp only at g1 g2 gp g3 g4 g5;refine AV An ?_;simp -implicitDefEqProofs [w1];exact A4.mk ⟨Hz,nz,k+1,plz⟩ ⟨⟨g1,g2,gp,g3,g4,g5,hlt⟩,by show M.b.rels.length-(k+1)<M.b.rels.length-k;omega⟩ (Aw (by simp -implicitDefEqProofs [SRs]))
   .have ek:k=M.b.rels.length:=by omega
    subst ek;rw[Yh (by simp),List.findSome?_nil]at hOk;refine AV An ?_;simp -implicitDefEqProofs [SRs];exact A4.mk ⟨Ha,na,0,pl⟩ ⟨hOk,hS,hpl,hk,hn,hf⟩ (Aw (by simp -implicitDefEqProofs))
  rintro⟨Hz,nz,_,plz⟩ ⟨g1,g2,gp,g3,g4,g5⟩;simp only at g1 g2 gp g3 g4 g5;subst g1;refine AV An ?_;simp -implicitDefEqProofs;exact Bp ⟨.t (bv false),Hz,nz⟩ ⟨rfl,⟨plz,v,_,_,g2,(λr hr=>by cases hr),λ_=>⟨rfl,rfl,rfl,by rw[<-hi];exact gp⟩⟩,g3,g4,g5⟩ (by simp -implicitDefEqProofs)
abbrev Jn (n:Nat):T:=.v (.int .u64 (n:Int))
theorem Rc {n:Nat} (hn:n<=100000):Xr.wrap (n:Int)=(n:Int):=by
 simp only[Y8,Y9,Za];simp;omega
theorem wC:Xr.wrap 1=1:=rfl
theorem Re:Xr.wrap 0=0:=rfl
theorem wD {n:Nat} (hn:n<=100000):(X6 64 n&&&4294967295#64).toNat=n:=by
 rw[BitVec.toNat_and,Yn,Yn,show(4294967295:Nat)%2^64=2^32-1 from rfl,Nat.and_two_pow_sub_one_eq_mod,Nat.mod_mod_of_dvd _ (by decide)];omega
theorem Rf {n:Nat} (hn:n<=100000) (Φ:AP) (H:Ak) (nx:Nat):A0 Φ H nx (.bin false .and none) [.t (.v (.int .u64 (n:Int))),.t (.v (.int .u64 4294967295))]=some (.t (Jn n),H,nx):=by
 rw[Ni];have e:BitVec.toNat (w:=Xr.bits) (Zk Xr.bits (n:Int)&&&Zk Xr.bits 4294967295)=n:=wD hn;rw[e,Rc hn]
theorem wE (Φ:AP) (H:Ak) (nx:Nat):A0 Φ H nx (.bin false .and none) [.t (.v (.int .u64 1)),.t (.v (.int .u64 4294967295))]=some (.t (.v (.int .u64 1)),H,nx):=Rf (n:=1) (by omega) Φ H nx
theorem wF (Φ:AP) (H:Ak) (nx:Nat):A0 Φ H nx (.bin false .and none) [.t (.v (.int .u64 0)),.t (.v (.int .u64 4294967295))]=some (.t (.v (.int .u64 0)),H,nx):=Rf (n:=0) (by omega) Φ H nx
theorem wG {n:Nat} (hn:n<=100000):Bc Xc (G q) 118 [.v (.int .u64 1),Jn n] (· = .tu [Jn 0,Jn n]):=by
 have w:=Rc hn;have a:=Rf hn
 have f:(n:Int).fdiv 4294967296=0:=by
  rw[Int.fdiv_eq_ediv_of_nonneg _ (by omega)];omega
 refine rR.call rfl ?_;(conv in WK=>cbv);refine Ao An ?_;simp -implicitDefEqProofs;refine Ao An ?_;simp -implicitDefEqProofs [wE,-Ni];refine Ao An ?_;simp -implicitDefEqProofs;refine Ao An ?_;simp -implicitDefEqProofs [a,-Ni];refine Ao An ?_;simp -implicitDefEqProofs [f];refine Ao An ?_;simp -implicitDefEqProofs [w];refine Ao An ?_;simp -implicitDefEqProofs [Re,f];refine Ao An ?_;simp -implicitDefEqProofs [wF,-Ni];refine Ao An ?_;simp -implicitDefEqProofs;refine Ao An ?_;simp -implicitDefEqProofs [Re];refine Ao An ?_;simp -implicitDefEqProofs [Re];refine A8 An ?_;simp -implicitDefEqProofs [w]
noncomputable def gMl:List T->Option T
 | [.v (.int .u64 a),.v (.int .u64 b)]=>if a=1/\0<=b/\b<=100000 then some (.tu [Jn 0,.v (.int .u64 b)])else none
 | _=>none
theorem wI:GOK Xc (G q) 118 gMl:=λargs r hr=>by
 unfold gMl at hr;split at hr
 .rename_i a b;split at hr
  .rename_i h;obtain⟨rfl,h0,h1⟩:=h;injection hr with hr;subst hr
   obtain⟨n,rfl⟩:∃n:Nat,b=(n:Int):=⟨b.toNat,by omega⟩
   exact wG (by omega)
  .cases hr
 .cases hr
theorem ZR {n:Nat} (h:n<=100000):gMl [.v (.int .u64 1),.v (.int .u64 (n:Int))]=some (.tu [Jn 0,Jn n]):=by
 simp only[gMl];rw[zu ⟨trivial,by omega,by omega⟩]
theorem hMl:GOK Xc (G q) 75 gMl:=λargs r hr=>by
 unfold gMl at hr;split at hr
 .rename_i a b;split at hr
  .rename_i h;obtain⟨rfl,h0,h1⟩:=h;injection hr with hr;subst hr
   obtain⟨n,rfl⟩:∃n:Nat,b=(n:Int):=⟨b.toNat,by omega⟩
   have e:=ZR (n:=n) (by omega);have C:Ctx Xc (G q) _:=(AB.cons (wI (q:=q)) .nil).ctx mixed;refine rQ.call rfl ?_;(conv in WJ=>cbv);refine Ao C ?_;simp -implicitDefEqProofs;refine Ao C ?_;show MC _ _ _ _ _ _ _;refine Ao C ?_;simp -implicitDefEqProofs [e];refine A8 C ?_;simp -implicitDefEqProofs
  .cases hr
 .cases hr
def DT (m n:Nat):Row:=.cells tyI (Xd m (.t (iv (-1)))++Xd (n-m) (.t (iv 0)))
theorem wJ {H:Ak} {nx b m n:Nat} (h:Aj H b=some (DT m n)) (h0:0<m) (hm:m<n) :
  hxM (.cpy 1) H nx [.row b m (n-m) 1,.row b 0 m 1]=some (.t (iv ((X2 m (n-m):Nat):Int)),Xe H b (DT (m+X2 m (n-m)) n),nx):=by
 have hj1:X2 m (n-m)<=m:=Zh _ _;have hj2:X2 m (n-m)<=n-m:=Zl _ _;have hj0:0<X2 m (n-m):=Nat.lt_min.2 ⟨h0,by omega⟩
 obtain⟨j,hj⟩:∃j,j=X2 m (n-m):=⟨_,rfl⟩
 unfold DT at h
 have e1:((Xd m (PV.t (iv (-1)))++Xd (n-m) (PV.t (iv 0))).drop 0).take (m*1)=Xd m (PV.t (iv (-1))):=by
  rw[Zj,Yi,Yy (by simp),X4 (by simp)]
 simp only[hxM,CM,h,Xf,Yf,true_and];rw[zu (by omega)];simp only;rw[e1,zu ⟨hj0,by simp;try omega,by simp⟩,<-hj];rw[<-hj]at hj0 hj1 hj2;congr 3;unfold DT;congr 2;rw[Yi,List.take_replicate,Yx hj1,MA (by simp;omega)];rw[Yy (by simp),X4 (by simp),Yf,List.drop_append,Yf,Yh (by simp),Nat.add_sub_cancel_left,List.drop_replicate,Yj,List.replicate_append_replicate];congr 2;omega
theorem wK {H:Ak} {nx b k n ty:Nat} (h:Aj H b=some (DT 0 n)) (hk:Aj H k=some (.cells ty [.t (iv (-1))])) (hn:0<n) :
  hxM (.cpy 1) H nx [.row b 0 n 1,.row k 0 1 1]=some (.t (.v (.int .i64 1)),Xe H b (DT 1 n),nx):=by
 have hj:X2 1 n=1:=Yx hn;unfold DT at h;simp only[hxM,CM,h,hk,Xf,Yf,true_and];rw[zu (by simp)];simp only;rw[hj,zu ⟨by omega,by simp,rfl⟩];congr 3;unfold DT;congr 2
 obtain⟨m,rfl⟩:∃m,n=m+1:=⟨n-1,by omega⟩
 rfl
theorem wL (n:Nat):DT n n=A5 A6 tyI (Xd n (-1)):=by
 unfold DT A5;rw[Nat.sub_self,List.replicate_zero,Y2];congr 1
 induction n with
 | zero=>rfl
 | succ n ih=>rw[X5,X5,Ya,Ym,<-ih];rfl
structure wN (n:Nat) (H:Ak) (nx:Nat) (f:Fin):Prop where
 b':∃b',f.r = .row b' 0 n 1/\Aj f.H b'=some (A5 A6 tyI (Xd n (-1)))/\nx<=b'/\b'<f.nx
 k:∀c,c<nx->Aj f.H c=Aj H c
 n:nx<=f.nx
 fr:Frs H nx->Frs f.H f.nx
structure RpC where
 H:Ak
 m:Nat
def Mn (n nx:Nat) (c:RpC):Am:=⟨[(8,.t (iv (c.m:Int))),(7,.row nx 0 n 1)],c.H,nx+1,48⟩
theorem ZS {n:Nat} (h0:0<n) (hn:n<=100000) {H:Ak} {nx kx ty:Nat} (hx:Aj H kx=some (.cells ty [.t (iv (-1))])) (hk:kx<nx) :
  ∃f,wN n H nx f/\B3 Xc (G q) 45 [.row kx 0 1 1,.t (iv (n:Int))] H nx f.r f.H f.nx:=by
 have w:=Rc hn;have e:=ZR hn;have C:Ctx Xc (G q) _:=(AB.cons (hMl (q:=q)) .nil).ctx mixed;have b1:decide ((n:Int)<0)=false:=zt (by omega);have b2:decide ((9223372036854775807:Int)<(n:Int))=false:=zt (by omega);have wi:Xi.wrap (n:Int)=(n:Int):=Bb (by omega) (by omega);have lx:CV (.row kx 0 1 1)=some (.t (.v (.int .i64 1))):=rfl;have mk:=Iv (ty:=tyI) (by':=8) (nx:=nx) (.int .i64 0) (n:=n) (by omega) (by omega);refine rG.callX rfl ?_;(conv in VZ=>cbv);refine A3 C ?_;simp -implicitDefEqProofs;refine A3 C ?_;simp -implicitDefEqProofs [b1];refine A3 C ?_;simp -implicitDefEqProofs [lx,wC,w,e];refine A3 C ?_;simp -implicitDefEqProofs [b2];refine A3 C ?_;simp -implicitDefEqProofs [wi,mk]
 obtain⟨H1,hH1⟩:∃H1,H1=(nx,Row.cells tyI (Xd n (PV.t (.v (.int .i64 0)))))::H:=⟨_,rfl⟩
 rw[<-hH1]
 have r1:Aj H1 nx=some (DT 0 n):=by rw[hH1,A9,zu rfl];rfl
 have k1:∀c,c<nx->Aj H1 c=Aj H c:=λc h=>by rw[hH1,A9,zw (by omega)]
 have f1:Frs H nx->Frs H1 (nx+1):=λh=>by rw[hH1];exact h.cons (Xw _) (Xx _)
 have c1:=wK (nx:=nx+1) r1 (k:=kx) (ty:=ty) (by rw[k1 kx hk];exact hx) h0
 obtain⟨H2,hH2⟩:∃H2,H2=Xe H1 nx (DT 1 n):=⟨_,rfl⟩
 rw[<-hH2]at c1
 have r2:Aj H2 nx=some (DT 1 n):=by rw[hH2,A7,zu rfl,r1];rfl
 have k2:∀c,c<nx->Aj H2 c=Aj H c:=λc h=>by rw[hH2,A7,zw (by omega)];exact k1 c h
 have f2:Frs H nx->Frs H2 (nx+1):=λh=>by rw[hH2];exact(f1 h).upd
 refine A3 C ?_;simp -implicitDefEqProofs [c1];have ln:CV (.row nx 0 n 1)=some (.t (iv (n:Int))):=rfl;refine Cp (λc:RpC=>⟨[(7,.row nx 0 n 1)],c.H,nx+1,48⟩) (λc=>Aj c.H nx=some (DT n n)/\(∀c',c'<nx->Aj c.H c'=Aj H c')/\(Frs H nx->Frs c.H (nx+1))) (λ_=>rfl) ?_ ?_
 .refine BA ?_;refine DH (Mn n nx) (λc=>n-c.m) (λc=>Aj c.H nx=some (DT c.m n)/\(∀c',c'<nx->Aj c.H c'=Aj H c')/\(Frs H nx->Frs c.H (nx+1))/\0<c.m/\c.m<=n) ⟨H2,1⟩ (λ_=>rfl) ⟨r2,k2,f2,Xw _,h0⟩ ?_ rfl ?_
  .exact Aw (by simp -implicitDefEqProofs [Mn])
  rintro⟨Ha,m⟩ ⟨hr,hk,hf,hm0,hm⟩;simp only at hr hk hf hm0 hm;by_cases hlt:m<n
  .have cs:=wJ (nx:=nx+1) hr hm0 hlt
   obtain⟨j,hj⟩:∃j,j=X2 m (n-m):=⟨_,rfl⟩
   have hj1:j<=n-m:=by rw[hj];exact Zl _ _
   have hj0:0<j:=by rw[hj];exact Nat.lt_min.2 ⟨hm0,by omega⟩
   rw[<-hj]at cs
   have w1:Xi.wrap ((m:Int)+(j:Int))=((m+j:Nat):Int):=by
    have h:m+j<=100000:=by omega
    exact Bb (by omega) (by omega)
   have s1:EE 1 (.row nx 0 n 1) (some (.t (iv (m:Int)))) none=some (.row nx m (n-m) 1):=by
    simp[EE,Cu,hlt]
   have s2:EE 1 (.row nx 0 n 1) none (some (.t (iv (m:Int))))=some (.row nx 0 m 1):=by
    simp[EE,Cu,hm0,hm]
   refine A3 C ?_;simp -implicitDefEqProofs [Mn,ln,hlt];refine AV C ?_;simp -implicitDefEqProofs [s1,s2,cs,w1];exact A4.mk ⟨Xe Ha nx (DT (m+j) n),m+j⟩ ⟨⟨by show Aj (Xe Ha nx (DT (m+j) n)) nx=_;rw[A7,zu rfl,hr];rfl,λc h=>by show Aj (Xe Ha nx (DT (m+j) n)) c=_;rw[A7,zw (by omega)];exact hk c h,λh=>(hf h).upd,by show 0<m+j;omega,by show m+j<=n;omega⟩,by show n-(m+j)<n-m;omega⟩ (Aw (by simp -implicitDefEqProofs [Mn]))
  .have em:m=n:=by omega
   subst em;refine A3 C ?_;simp -implicitDefEqProofs [Mn,ln];exact A4.mk ⟨Ha,0⟩ ⟨hr,hk,hf⟩ (Aw (by simp -implicitDefEqProofs))
 rintro⟨Ha,_⟩ ⟨hr,hk,hf⟩;simp only at hr hk hf;rw[wL]at hr;refine A3 C ?_;simp -implicitDefEqProofs;refine AV C ?_;simp -implicitDefEqProofs;exact Bp ⟨.row nx 0 n 1,Ha,nx+1⟩ ⟨⟨nx,rfl,hr,X1 _,Xw _⟩,hk,Xx _,hf⟩ (by simp -implicitDefEqProofs)
theorem ZT (l:List (List UInt8)):(l.mergeSort λx y=>decide (x<=y)).Pairwise λx y=>x<=y:=by
 have h:=List.pairwise_mergeSort (le:=λx y:List UInt8=>decide (x<=y)) (λa b c h1 h2=>zq (List.le_trans (of_decide_eq_true h1) (of_decide_eq_true h2))) (λa b=>by
  rw[Bool.or_eq_true,decide_eq_true_eq,decide_eq_true_eq];exact List.le_total a b) l
 exact h.imp λh=>of_decide_eq_true h
theorem wO (l m:List ByteArray) (h:l.Perm m):Bg l=Bg m:=by
 have hp:((l.map lb).mergeSort λx y=>decide (x<=y)).Perm ((m.map lb).mergeSort λx y=>decide (x<=y)):=((Zm _ _).trans (h.map lb)).trans (Zm _ _).symm;unfold Bg;congr 1;exact List.Perm.eq_of_pairwise (le:=λx y:List UInt8=>x<=y) (λa b _ _ h1 h2=>List.le_antisymm h1 h2) (ZT _) (ZT _) hp
structure EqC where
 i:Nat
def SEq (ta tb:T) (n:Nat) (c:EqC):Am:=⟨[(13,.t (iv (c.i:Int))),(12,.t (iv (n:Int))),(1,.t tb),(0,.t ta)],[],0,26⟩
theorem wP {ta tb:T} {l m:List ByteArray} (ha:IsS Ar ta l) (hb:IsS Ar tb m) (hl:l.length<=1000000):Bc Xc (G q) 47 [ta,tb] (· = bv (decide (l=m))):=by
 have la:=ha.len;have lb:=hb.len
 obtain⟨R,hR⟩:∃R,R=decide (l=m):=⟨_,rfl⟩
 rw[<-hR];refine rF.call rfl ?_;(conv in VY=>cbv);refine Ao An ?_;simp -implicitDefEqProofs;by_cases hlen:l.length=m.length
 .have b2:((l.length:Int) !=(m.length:Int))=false:=by rw[hlen];exact bne_self_eq_false _
  refine Ao An ?_;simp -implicitDefEqProofs [la,lb,b2];refine AZ (λ_:EqC=>⟨[],[],0,26⟩) (λ_=>R=true) (λ_=>rfl) ?_ ?_
  .refine Ao An ?_;simp -implicitDefEqProofs [la];refine AY ?_;refine Bj (SEq ta tb l.length) (λc=>l.length-c.i) (λc=>l.take c.i=m.take c.i/\c.i<=l.length) ⟨0⟩ (λ_=>rfl) ⟨rfl,Xm _⟩ ?_ rfl ?_
   .exact Aw (by simp -implicitDefEqProofs [SEq])
   rintro⟨i⟩ ⟨ht,hi⟩;simp only at ht hi;by_cases hlt:i<l.length
   .obtain⟨x,hx⟩:∃x,l[i]?=some x:=⟨_,Xj hlt⟩
    obtain⟨y,hy⟩:∃y,m[i]?=some y:=⟨_,Xj (by omega)⟩
    have i1:=ha.iaddr hx .i64;have i2:=hb.iaddr hy .i64;have hz:Ar.z=1:=rfl;rw[hz,show Ar.enc x=[sv x]from rfl]at i1;rw[hz,show Ar.enc y=[sv y]from rfl]at i2;have w1:Xi.wrap ((i:Int)+1)=((i+1:Nat):Int):=Bb (by omega) (by omega);refine Ao An ?_;simp -implicitDefEqProofs [SEq,hlt];refine Ao An ?_;simp -implicitDefEqProofs;refine AZ (λ_:EqC=>SEq ta tb l.length ⟨i⟩) (λ_=>x=y) (λ_=>rfl) ?_ ?_
    .refine AY ?_;refine Ao An ?_;simp -implicitDefEqProofs;by_cases hxy:x=y
     .have b3:(x.toList==y.toList)=true:=by rw[hxy];exact beq_self_eq_true _
      refine A8 An ?_;simp -implicitDefEqProofs [i1,i2,lp,b3];exact A4.mk ⟨0⟩ hxy (Aw (by simp -implicitDefEqProofs [SEq]))
     .have b3:(x.toList==y.toList)=false:=by rw[Eb];exact zt hxy
      have hRf:R=false:=by
       rw[hR];refine zt λe=>hxy ?_;rw[e,hy]at hx;injection hx with hx;exact hx.symm
      refine A8 An ?_;simp -implicitDefEqProofs [i1,i2,lp,b3,hRf]
    .rintro _ hxy;refine A8 An ?_;simp -implicitDefEqProofs [SEq,w1];refine A4.mk ⟨i+1⟩ ⟨⟨?_,hlt⟩,by show l.length-(i+1)<l.length-i;omega⟩ (Aw (by simp -implicitDefEqProofs [SEq]));show l.take (i+1)=m.take (i+1);rw[Xq,Xq,ht,hx,hy,hxy]
   .have ei:i=l.length:=by omega
    subst ei;refine A8 An ?_;simp -implicitDefEqProofs [SEq];refine A4.mk ⟨0⟩ ?_ (Aw (by simp -implicitDefEqProofs));rw[Xt,hlen,Xt]at ht;rw[hR];exact zq ht
  rintro _ hRt;refine A8 An ?_;simp -implicitDefEqProofs [hRt]
 .have b2:((l.length:Int) !=(m.length:Int))=true:=by rw[bne_iff_ne];omega
  have hRf:R=false:=by rw[hR];exact zt λe=>hlen (by rw[e])
  refine Ao An ?_;simp -implicitDefEqProofs [la,lb,b2,hRf]
noncomputable def gEq:List T->Option T
 | [t1,t2]=>open Classical in match (tSl Ar).dec t1,(tSl Ar).dec t2 with
  | some l,some m=>if l.length<=1000000 then some (bv (decide (l=m)))else none
  | _,_=>none
 | _=>none
theorem hEq:GOK Xc (G q) 47 gEq:=λargs r hr=>by
 unfold gEq at hr;split at hr
 .split at hr
  .rename_i l m h1 h2;split at hr
   .rename_i h;injection hr with hr;subst hr;exact wP ((tSl Ar).is_dec h1) ((tSl Ar).is_dec h2) h
   .cases hr
  .cases hr
 .cases hr
theorem wQ {ta tb:T} {l m:List ByteArray} (ha:IsS Ar ta l) (hb:IsS Ar tb m) (h:l.length<=1000000):gEq [ta,tb]=some (bv (decide (l=m))):=by
 simp only[gEq];rw[(tSl Ar).dec_is ha,(tSl Ar).dec_is hb];exact zu h
theorem Mo {α:Type} {e:Enc α} {ty:Nat} {x:α} {c:T} (hc:e.enc x=[c]) (n:Nat):A5 e ty (Xd n x) = .cells ty (Xd n (.t c)):=by
 unfold A5;congr 1
 induction n with
 | zero=>rfl
 | succ n ih=>rw[X5,X5,Ya,Ym,ih,hc];rfl
theorem ZU (m:Nat):BK m []=Xd m false:=by
 refine Yc λi=>?_;by_cases h:i<m
 .rw[HA [] h,Yd,zu h];rfl
 .rw[Xv (by rw[Ee];omega),Xv (by simp;omega)]
theorem ZV (w:Nat):∀(n i:Nat),plc (w:Int) i (Xd n (-1)) = -1
 | 0,_=>rfl
 | n+1,i=>by
  rw[X5,plc,zw (by omega)];exact ZV w n (i+1)
theorem wR (n:Nat):frm n (Xd n (-1))=Xd n (-1):=by
 refine Yc λi=>?_;by_cases h:i<n
 .rw[JP h,Yd,zu h,ZV]
 .rw[Xv (by rw[Hu];omega),Xv (by simp;omega)]
theorem wS {P:Program} {G:AM} {f:FuncId} {t u:List PV->Ak->Nat->Option (PV×Ak×Nat)} (ht:HOK P G f t) (hu:HOK P G f u) {ps1 ps2:List PV} {H1 H2:Ak} {n1 n2:Nat} {o1 o2:PV×Ak×Nat} (h1:t ps1 H1 n1=some o1) (h2:u ps2 H2 n2=some o2) (hne:n1≠n2) :
  ∃v:List PV->Ak->Nat->Option (PV×Ak×Nat),v ps1 H1 n1=some o1/\v ps2 H2 n2=some o2/\HOK P G f v:=by
 refine⟨λps H nx=>if nx=n1 then t ps H nx else u ps H nx,?_,?_,?_⟩
 .simp only[if_true];exact h1
 .simp only[zw (Ne.symm hne)];exact h2
 .refine⟨λps H nx r H' nx' h=>?_,λps H nx r H' nx' h=>?_⟩
  .split at h
   .exact ht.call _ _ _ _ _ _ h
   .exact hu.call _ _ _ _ _ _ h
  .split at h
   .exact ht.fresh _ _ _ _ _ _ h
   .exact hu.fresh _ _ _ _ _ _ h
def mmT:Option (List Nat)->T
 | some r=>.tu [slT A6 (DO r),bv true]
 | none=>.tu [Au,bv false]
noncomputable def gPf (a b:Mr) (ca cb:List T):List T->Option T
 | [t]=>open Classical in if t = .ag ca then some (slT Ar (Cd Hsh Bg a))else if t = .ag cb then some (slT Ar (Cd Hsh Bg b))else none
 | _=>none
section
variable {a b : Mr} {ca cb : List T}
theorem wT:gPf a b ca cb [.ag ca]=some (slT Ar (Cd Hsh Bg a)):=by simp[gPf]
theorem wU (ha:BJ a ca) (hb:BJ b cb):gPf a b ca cb [.ag cb]=some (slT Ar (Cd Hsh Bg b)):=by
 by_cases h:cb=ca
 .subst h;have e:a=b:=BJ.uniq ha hb;subst e;simp[gPf]
 .simp[gPf,h]
theorem hPf (ha:BJ a ca) (hb:BJ b cb) (sa:SmM a) (sb:SmM b) (La:E8 AN a) (Lb:E8 AN b) (oa:(occ a).length<=900) (ob:(occ b).length<=900):GOK Xc (G q) 44 (gPf a b ca cb):=λargs r hr=>by
 unfold gPf at hr;split at hr
 .split at hr
  .rename_i h;subst h;injection hr with hr;subst hr;exact ZL ha sa La oa
  .split at hr
   .rename_i h;subst h;injection hr with hr;subst hr;exact ZL hb sb Lb ob
   .cases hr
 .cases hr
theorem wV (m:Mr) (out:List ByteArray):(rnd Hsh Bg m out).length=m.vars.length:=by
 unfold rnd;rw[Xh,Cv]
theorem ZW (m:Mr):(Cd Hsh Bg m).length=m.vars.length:=wV _ _
theorem wW {r ty:Nat} {prs:List (Int×Int)} {H:Ak} (h:Aj H r=some (A5 ePr ty prs)) (hne:prs≠[]):PrL (.row r 0 prs.length 2) prs [r] H:=⟨rfl,λi p hp=>by
 have i1:=Pz (e:=ePr) (b:=r) hp .i64;rw[F3 ePr r prs hne,show ePr.z=2 from rfl]at i1;refine⟨_,i1,λH' hk=>?_⟩
 exact Oc (e:=ePr) (n:=2) ((hk r (by simp)).trans h) hp rfl⟩
def mcs (a0 a1 a2 a3 a4 b0 b1 b2 b3 b4 x y:T) (na nb nc:Nat):List PV:=[.t a0,.t a1,.t a2,.t a3,.t a4,.t b0,.t b1,.t b2,.t b3,.t b4,.t x,.t y,.row 5 0 na 1,.t Au,.t Au,.row 6 0 nb 1,.row 7 0 nc 1]
theorem wX (Φ:AP) (H:Ak) (nx:Nat) (a0 a1 a2 a3 a4 b0 b1 b2 b3 b4:T) (x y:List ByteArray) (na nb nc:Nat):A0 Φ H nx (.build [(0,5),(5,5),(10,1),(11,1),(12,1),(13,1),(14,1),(15,1),(16,1)]
 [.int .i64 0,.int .i64 0,.slice none 0 0,.slice none 0 0,.slice none 0 0,.int .i64 0,.int .i64 0,.slice none 0 0,.slice none 0 0,.slice none 0 0,.slice none 0 0,.slice none 0 0,.slice none 0 0,.slice none 0 0,.slice none 0 0,.slice none 0 0,.slice none 0 0]
 [0,1,2,3,4,7,8]) [.t (.ag [a0,a1,a2,a3,a4]),.t (.ag [b0,b1,b2,b3,b4]),.t (slT Ar x),.t (slT Ar y),.row 5 0 na 1,.row 6 0 nb 1,.row 7 0 nc 1]=some (BI (mcs a0 a1 a2 a3 a4 b0 b1 b2 b3 b4 (slT Ar x) (slT Ar y) na nb nc),H,nx):=rfl
theorem wY (a0 a1 a2 a3 a4 b0 b1 b2 b3 b4 x y:T) (na nb nc:Nat):Bq (BI (mcs a0 a1 a2 a3 a4 b0 b1 b2 b3 b4 x y na nb nc))=some (mcs a0 a1 a2 a3 a4 b0 b1 b2 b3 b4 x y na nb nc):=rfl
theorem ZX (ha:BJ a ca) (hb:BJ b cb) (sa:SmM a) (sb:SmM b) (La:E8 AN a) (Lb:E8 AN b) (oa':(occ a).length<=900) (ob':(occ b).length<=900) (hfull:full a) :
  Bc Xc (G q) 23 [.ag ca,.ag cb] (· = mmT (Dt (Fe a b) a b)):=by
 have oa:=La.ok;have ob:=Lb.ok
 obtain⟨R,hR⟩:∃R,R=mmT (JO Hsh Bg a b):=⟨_,rfl⟩
 rw[<-kV wO oa ob hfull,<-hR];obtain⟨tva,tra,tca,rla,eca,hva,hra,hrma,hca⟩:=id ha;obtain⟨tvb,trb,tcb,rlb,ecb,hvb,hrb,hrmb,hcb⟩:=id hb
 obtain⟨Xa,hXa⟩:∃X,X=Br [iv a.top,iv a.index,tva,tra,tca]:=⟨_,rfl⟩
 obtain⟨Xb,hXb⟩:∃X,X=Br [iv b.top,iv b.index,tvb,trb,tcb]:=⟨_,rfl⟩
 have cda:=cd5 (iv a.top) (iv a.index) tva tra tca;have cdb:=cd5 (iv b.top) (iv b.index) tvb trb tcb;have lva:=hva.len;have lvb:=hvb.len;have lra:=hra.len;have lrb:=hrb.len;have lca:=hca.len;have lcb:=hcb.len
 have rla':rla.length=a.rels.length:=by rw[<-hrma,Xh]
 have rlb':rlb.length=b.rels.length:=by rw[<-hrmb,Xh]
 rw[rla']at lra;rw[rlb']at lrb;have ld:∀{H:Ak},Aj H 0=some Xa->LdM (iv a.top) (iv a.index) tva tra tca H 0:=λh=>ldM (by rw[h,hXa]);have ldb:∀{H:Ak},Aj H 1=some Xb->LdM (iv b.top) (iv b.index) tvb trb tcb H 1:=λh=>ldM (by rw[h,hXb])
 obtain⟨H0,hH0⟩:∃H0:Ak,H0=[(1,Xb),(0,Xa)]:=⟨_,rfl⟩
 have z0:=ld (H:=H0) (by rw[hH0];rfl);have z1:=ldb (H:=H0) (by rw[hH0];rfl);refine oR.call rfl ?_;(conv in UV=>cbv);by_cases hL:a.vars.length≠b.vars.length\/a.rels.length≠b.rels.length\/a.cons.length≠b.cons.length
 .have hR0:R = .tu [Au,bv false]:=by rw[hR];unfold JO;rw[zu hL];rfl
  subst eca ecb;refine Ao An ?_;simp -implicitDefEqProofs [cda,cdb];rw[show Row.cells 26 [.t (iv a.top),.t (iv a.index),.t tva,.t tra,.t tca]=Xa from hXa.symm,show Row.cells 26 [.t (iv b.top),.t (iv b.index),.t tvb,.t trb,.t tcb]=Xb from hXb.symm,show([(1,Xb),(0,Xa)]:Ak)=H0 from hH0.symm];by_cases c1:a.vars.length=b.vars.length
  .have b1:((a.vars.length:Int) !=(b.vars.length:Int))=false:=by rw[c1];exact bne_self_eq_false _
   by_cases c2:a.rels.length=b.rels.length
   .have b2:((a.rels.length:Int) !=(b.rels.length:Int))=false:=by rw[c2];exact bne_self_eq_false _
    have c3:a.cons.length≠b.cons.length:=by rcases hL with h | h | h<;>first | exact absurd c1 h | exact absurd c2 h | exact h
    have b3:((a.cons.length:Int) !=(b.cons.length:Int))=true:=by rw[bne_iff_ne];omega
    refine Ao An ?_;simp -implicitDefEqProofs [z0.l2,z1.l2,z0.l3,z1.l3,z0.l4,z1.l4,lva,lvb,lra,lrb,lca,lcb,b1,b2,b3,hR0]
   .have b2:((a.rels.length:Int) !=(b.rels.length:Int))=true:=by rw[bne_iff_ne];omega
    refine Ao An ?_;simp -implicitDefEqProofs [z0.l2,z1.l2,z0.l3,z1.l3,z0.l4,z1.l4,lva,lvb,lra,lrb,lca,lcb,b1,b2,hR0]
  .have b1:((a.vars.length:Int) !=(b.vars.length:Int))=true:=by rw[bne_iff_ne];omega
   refine Ao An ?_;simp -implicitDefEqProofs [z0.l2,z1.l2,z0.l3,z1.l3,z0.l4,z1.l4,lva,lvb,lra,lrb,lca,lcb,b1,hR0]
 have c1:a.vars.length=b.vars.length:=Classical.not_not.1 λh=>hL (.inl h);have c2:a.rels.length=b.rels.length:=Classical.not_not.1 λh=>hL (.inr (.inl h));have c3:a.cons.length=b.cons.length:=Classical.not_not.1 λh=>hL (.inr (.inr h))
 have b1:((a.vars.length:Int) !=(b.vars.length:Int))=false:=by rw[c1];exact bne_self_eq_false _
 have b2:((a.rels.length:Int) !=(b.rels.length:Int))=false:=by rw[c2];exact bne_self_eq_false _
 have b3:((a.cons.length:Int) !=(b.cons.length:Int))=false:=by rw[c3];exact bne_self_eq_false _
 have hn0:0<a.vars.length:=by have:=oa.top;have h1:=this.1;have h2:=this.2;omega
 have sav:=sa.vars;have sar:=sa.rels;have sac:=sa.cons
 obtain⟨pa,hpa⟩:∃pa,pa=Cd Hsh Bg a:=⟨_,rfl⟩
 obtain⟨pb,hpb⟩:∃pb,pb=Cd Hsh Bg b:=⟨_,rfl⟩
 have lpa:pa.length=a.vars.length:=by rw[hpa];exact ZW a
 have lpb:pb.length=a.vars.length:=by rw[hpb,c1];exact ZW b
 have hP:=hPf (q:=q) ha hb sa sb La Lb oa' ob';have eA:=wT (a:=a) (b:=b) (ca:=ca) (cb:=cb);have eB:=wU ha hb;rw[<-hpa]at eA;rw[<-hpb]at eB;have mk1:=Iv (ty:=tyI) (by':=8) (nx:=5) (.int .i64 0) (n:=a.rels.length) (by omega) (by omega);have mk2:=Iv (ty:=tyO) (by':=1) (nx:=6) (.bool false) (n:=b.rels.length) (by omega) (by omega);have mk3:=Iv (ty:=tyO) (by':=1) (nx:=7) (.bool false) (n:=b.cons.length) (by omega) (by omega);have C0:Ctx Xc (G q) _:=(AB.cons hP (.cons (hEq (q:=q)) .nil)).ctxH AG.nil mixed;subst eca ecb;refine Ao C0 ?_;simp -implicitDefEqProofs [cda,cdb];rw[show Row.cells 26 [.t (iv a.top),.t (iv a.index),.t tva,.t tra,.t tca]=Xa from hXa.symm,show Row.cells 26 [.t (iv b.top),.t (iv b.index),.t tvb,.t trb,.t tcb]=Xb from hXb.symm,show([(1,Xb),(0,Xa)]:Ak)=H0 from hH0.symm];refine Ao C0 ?_;simp -implicitDefEqProofs [z0.l2,z1.l2,z0.l3,z1.l3,z0.l4,z1.l4,lva,lvb,lra,lrb,lca,lcb,b1,b2,b3];have z0':∀r,LdM (iv a.top) (iv a.index) tva tra tca r 0\/True:=λ_=>.inr trivial;refine Ao C0 ?_;simp -implicitDefEqProofs [z0.all,z1.all,eA,eB,z0.l3,z1.l3,z1.l4,lra,lrb,lcb,mk1,mk2,mk3,wX,wY,-BU]
 obtain⟨cm,hcm⟩:∃cm,cm=mcs (iv a.top) (iv a.index) tva tra tca (iv b.top) (iv b.index) tvb trb tcb (slT Ar pa) (slT Ar pb) a.rels.length b.rels.length b.cons.length:=⟨_,rfl⟩
 rw[<-hcm]
 obtain⟨H1,hH1⟩:∃H1:Ak,H1=(8,Row.cells tyX cm)::(7,Row.cells tyO (Xd b.cons.length (PV.t (.v (.bool false)))))::(6,Row.cells tyO (Xd b.rels.length (PV.t (.v (.bool false)))))::(5,Row.cells tyI (Xd a.rels.length (PV.t (.v (.int .i64 0)))))::H0:=⟨_,rfl⟩
 rw[<-hH1]
 have q0:Aj H1 0=some Xa:=by rw[hH1,hH0];rfl
 have q1:Aj H1 1=some Xb:=by rw[hH1,hH0];rfl
 have q5:Aj H1 5=some (A5 A6 tyI (Xd a.rels.length 0)):=by rw[Mo (c:=iv 0) rfl,hH1];rfl
 have q6:Aj H1 6=some (A5 Er tyO (Xd b.rels.length false)):=by rw[Mo (c:=bv false) rfl,hH1];rfl
 have q7:Aj H1 7=some (A5 Er tyO (Xd b.cons.length false)):=by rw[Mo (c:=bv false) rfl,hH1];rfl
 have q8:Aj H1 8=some (.cells tyX cm):=by rw[hH1];rfl
 obtain⟨G1,hG1⟩:∃G1:Ak,G1=(9,Row.cells tyI [.t (iv (-1))])::H1:=⟨_,rfl⟩
 obtain⟨⟨fr1,F1,n1⟩,⟨⟨b1',hr1,hb1,hb1g,hb1l⟩,hk1,hn1,hf1⟩,hc1⟩:=ZS (q:=q) (n:=a.vars.length) hn0 sav (H:=G1) (nx:=10) (kx:=9) (ty:=tyI) (by rw[hG1];rfl) (by omega);simp only at hr1 hb1 hb1g hb1l hk1 hn1 hf1 hc1;subst hr1;obtain⟨t1,t1e,t1o⟩:=hAt hc1 hf1
 have kG1:∀c,c<9->Aj F1 c=Aj H1 c:=λc h=>by rw[hk1 c (by omega),hG1,A9,zw (by omega)]
 obtain⟨cm1,hcm1⟩:∃cm1,cm1=cm.set 13 (.row b1' 0 a.vars.length 1):=⟨_,rfl⟩
 have s1:=BF (H:=F1) (b:=8) (o:=13) (n:=1) (t:=.row b1' 0 a.vars.length 1) (ns:=[.row b1' 0 a.vars.length 1]) (by rw[kG1 8 (by omega)];exact q8) rfl rfl (by rw[hcm];show 13+1<=17;omega);rw[show Cj cm 13 [PV.row b1' 0 a.vars.length 1]=cm1 from hcm1.symm]at s1
 obtain⟨H2,hH2⟩:∃H2,H2=Xe F1 8 (.cells tyX cm1):=⟨_,rfl⟩
 rw[<-hH2]at s1
 have k2:∀c,c≠8->Aj H2 c=Aj F1 c:=λc h=>by rw[hH2,A7,zw h]
 have e2:Aj H2 8=some (.cells tyX cm1):=by rw[hH2,A7,zu rfl,kG1 8 (by omega),q8];rfl
 obtain⟨G2,hG2⟩:∃G2:Ak,G2=(n1,Row.cells tyI [.t (iv (-1))])::H2:=⟨_,rfl⟩
 obtain⟨⟨fr2,F2,n2⟩,⟨⟨b2',hr2,hb2,hb2g,hb2l⟩,hk2,hn2,hf2⟩,hc2⟩:=ZS (q:=q) (n:=a.vars.length) hn0 sav (H:=G2) (nx:=n1+1) (kx:=n1) (ty:=tyI) (by rw[hG2,A9,zu rfl]) (by omega);simp only at hr2 hb2 hb2g hb2l hk2 hn2 hf2 hc2;subst hr2;obtain⟨t2,t2e,t2o⟩:=hAt hc2 hf2
 have kG2:∀c,c<n1->Aj F2 c=Aj H2 c:=λc h=>by rw[hk2 c (by omega),hG2,A9,zw (by omega)]
 obtain⟨cm2,hcm2⟩:∃cm2,cm2=cm1.set 14 (.row b2' 0 a.vars.length 1):=⟨_,rfl⟩
 have s2:=BF (H:=F2) (b:=8) (o:=14) (n:=1) (t:=.row b2' 0 a.vars.length 1) (ns:=[.row b2' 0 a.vars.length 1]) (by rw[kG2 8 (by omega)];exact e2) rfl rfl (by rw[hcm1,Yp,hcm];show 14+1<=17;omega);rw[show Cj cm1 14 [PV.row b2' 0 a.vars.length 1]=cm2 from hcm2.symm]at s2
 obtain⟨H3,hH3⟩:∃H3,H3=Xe F2 8 (.cells tyX cm2):=⟨_,rfl⟩
 rw[<-hH3]at s2
 have k3:∀c,c≠8->Aj H3 c=Aj F2 c:=λc h=>by rw[hH3,A7,zw h]
 have e3:Aj H3 8=some (.cells tyX cm2):=by rw[hH3,A7,zu rfl,kG2 8 (by omega),e2];rfl
 obtain⟨M,hM⟩:∃M:Mx,M=⟨a,b,[iv a.top,iv a.index,tva,tra,tca],[iv b.top,iv b.index,tvb,trb,tcb],pa,pb,slT Ar pa,slT Ar pb,⟨8,5,b1',b2',6,7⟩⟩:=⟨_,rfl⟩
 have mok:FE M:=by
  subst hM;refine⟨⟨ha,hb,sa,sb,oa,ob,c1.symm⟩,.inr rfl,.inr rfl,lpa,lpb,?_,c2.symm,c3.symm⟩;show [8,5,b1',b2',6,7].Nodup;simp only[Zf,Xn,Yk,or_false,not_or,List.nodup_nil,and_true,not_false_eq_true];omega
 have kk:∀c,c<8->Aj H3 c=Aj H1 c:=λc h=>by rw[k3 c (by omega),kG2 c (by omega),k2 c (by omega),kG1 c (by omega)]
 have r0:Aj H3 0=some Xa:=(kk 0 (by omega)).trans q0;have r1:Aj H3 1=some Xb:=(kk 1 (by omega)).trans q1
 have S3:MtS M (Xd a.rels.length 0) (Xd a.vars.length (-1)) (BK b.rels.length []) (BK b.cons.length []) H3 n2:=by
  subst hM;refine⟨?_,(kk 5 (by omega)).trans q5,?_,?_,?_,?_,by simp,by simp,Ee _ _,Ee _ _,?_⟩
  .rw[e3,hcm2,hcm1,hcm];rfl
  .show Aj H3 b1'=_;rw[k3 b1' (by omega),kG2 b1' (by omega),k2 b1' (by omega)];exact hb1
  .show Aj H3 b2'=_;rw[k3 b2' (by omega)];show Aj F2 b2'=some (A5 A6 tyI (frm a.vars.length (Xd a.vars.length (-1))));rw[wR];exact hb2
  .rw[ZU];exact(kk 6 (by omega)).trans q6
  .rw[ZU];exact(kk 7 (by omega)).trans q7
  .intro c hc;simp only[Kx.l,Xn,Yk,or_false]at hc;omega
 have hpm:PMv (λ_ _=>true) M.a.vars.length (Xd a.vars.length (-1)):=by subst hM;exact Ih _ _
 have npa:pa≠[]:=λe=>by rw[e]at lpa;simp at lpa;omega
 have npb:pb≠[]:=λe=>by rw[e]at lpb;simp at lpb;omega
 obtain⟨⟨fr4,F4,n4⟩,⟨hr4,hn4,hb4,hk4,hf4⟩,hc4⟩:=QW (q:=q) (H:=H3) (nx:=n2) rfl npa (by omega);simp only at hr4 hn4 hb4 hk4 hf4 hc4;subst hr4 hn4;obtain⟨t4,t4e,t4o⟩:=hAt hc4 hf4;obtain⟨⟨fr5,F5,n5⟩,⟨hr5,hn5,hb5,hk5,hf5⟩,hc5⟩:=QW (q:=q) (H:=F4) (nx:=n2+2) rfl npb (by omega);simp only at hr5 hn5 hb5 hk5 hf5 hc5;subst hr5 hn5;obtain⟨t5,t5e,t5o⟩:=hAt hc5 hf5
 have g4:Aj F5 (n2+1)=some (A5 Ar tyS pa):=by rw[hk5 _ (by omega)];exact hb4
 have hc6:=Oa (q:=q) (nx:=n2+2+2) (g:=n2+1) (H:=F5) (l:=pa) (.inr g4) (by omega);rw[zw (by simpa using npa),F3 Ar _ _ npa,<-Kl,show Ar.z=1 from rfl]at hc6
 obtain⟨F6,hF6⟩:∃F6,F6=Xe F5 (n2+1) (A5 Ar tyS (Bg pa)):=⟨_,rfl⟩
 rw[<-hF6]at hc6;obtain⟨t6,t6e,t6o⟩:=hAt hc6 (λh=>by rw[hF6];exact h.upd)
 have g5:Aj F6 (n2+3)=some (A5 Ar tyS pb):=by rw[hF6,A7,zw (by omega)];exact hb5
 have hc7:=Oa (q:=q) (nx:=n2+2+2) (g:=n2+3) (H:=F6) (l:=pb) (.inr g5) (by omega);rw[zw (by simpa using npb),F3 Ar _ _ npb,<-Kl,show Ar.z=1 from rfl]at hc7
 obtain⟨F7,hF7⟩:∃F7,F7=Xe F6 (n2+3) (A5 Ar tyS (Bg pb)):=⟨_,rfl⟩
 rw[<-hF7]at hc7;obtain⟨t7,t7e,t7o⟩:=hAt hc7 (λh=>by rw[hF7];exact h.upd)
 have y1:Aj F7 (n2+1)=some (A5 Ar tyS (Bg pa)):=by rw[hF7,A7,zw (by omega),hF6,A7,zu rfl,g4];rfl
 have y2:Aj F7 (n2+3)=some (A5 Ar tyS (Bg pb)):=by rw[hF7,A7,zu rfl,g5];rfl
 have k7:∀c,c<n2->Aj F7 c=Aj H3 c:=λc h=>by rw[hF7,A7,zw (by omega),hF6,A7,zw (by omega),hk5 c (by omega),hk4 c h]
 have CA:Ctx Xc (G q) _:=(AB.cons hP (.cons (hEq (q:=q)) .nil)).ctxH (AG.cons t1o .nil) mixed;have z2:=ld q0;have zG1:LdM (iv a.top) (iv a.index) tva tra tca G1 0:=ld (by rw[hG1];exact q0);rw[hG1]at t1e zG1;refine Ao CA ?_;simp -implicitDefEqProofs [zG1.l2,lva,QS,t1e,s1];have CB:Ctx Xc (G q) _:=(AB.cons hP (.cons (hEq (q:=q)) .nil)).ctxH (AG.cons t2o .nil) mixed;have zG2:LdM (iv a.top) (iv a.index) tva tra tca G2 0:=ld (by rw[hG2,A9,zw (by omega),k2 0 (by omega),kG1 0 (by omega)];exact q0);rw[hG2]at t2e zG2;refine Ao CB ?_;simp -implicitDefEqProofs [zG2.l2,lva,QS,t2e,s2];obtain⟨v,v4,v5,vo⟩:=wS t4o t5o t4e t5e (by omega);have CC:Ctx Xc (G q) _:=(AB.cons hP (.cons (hEq (q:=q)) .nil)).ctxH (AG.cons vo .nil) mixed;have L3:=ldX mok S3.o;have L4:LdX M F4:=ldX mok (by subst hM;show Aj F4 8=_;rw[hk4 8 (by omega)];exact S3.o)
 have x1:AD false 1 H3 (.ptr 8 10)=some (.t (slT Ar pa)):=by have:=L3.ia;subst hM;exact this
 have x2:AD false 1 H3 (.ptr 8 11)=some (.t (slT Ar pb)):=by have:=L3.ib;subst hM;exact this
 have x3:AD false 1 F4 (.ptr 8 11)=some (.t (slT Ar pb)):=by have:=L4.ib;subst hM;exact this
 refine Ao CC ?_;simp -implicitDefEqProofs [x1,x2,x3,v4,v5];have CD:Ctx Xc (G q) _:=(AB.cons hP (.cons (hEq (q:=q)) .nil)).ctxH (AG.cons t6o .nil) mixed;refine Ao CD ?_;simp -implicitDefEqProofs [t6e];have CE:Ctx Xc (G q) _:=(AB.cons hP (.cons (hEq (q:=q)) .nil)).ctxH (AG.cons t7o .nil) mixed;refine Ao CE ?_;simp -implicitDefEqProofs [t7e];have ls1:=GC pa;have ls2:=GC pb;have ht1:=DN (e:=Ar) y1;have ht2:=DN (e:=Ar) y2;rw[show Ar.z=1 from rfl]at ht1 ht2;rw[ls1]at ht1;rw[ls2]at ht2
 have hts:Bn F7 [.row (n2+1) 0 pa.length 1,.row (n2+3) 0 pb.length 1]=some ([slT Ar (Bg pa),slT Ar (Bg pb)],[n2+1]++([n2+3]++[])):=by
  simp only[Bn,ht1,ht2]
 have eq1:=wQ (l:=Bg pa) (m:=Bg pb) (.inr rfl) (.inr rfl) (by rw[ls1];omega);refine Ao C0 ?_;simp -implicitDefEqProofs [hts,eq1,-Bn,-toT];have hRp:R=mmT (JO Hsh Bg a b):=hR;unfold JO at hRp;rw[zw hL,<-hpa,<-hpb]at hRp;by_cases hse:Bg pa=Bg pb
 case neg=>
  have hR0:R = .tu [Au,bv false]:=by rw[hRp,zu hse];rfl
  simp -implicitDefEqProofs [hse,hR0]
 rw[zw (λh=>h hse)]at hRp;simp -implicitDefEqProofs [hse]
 obtain⟨n8,hn8⟩:∃n8,n8=n2+2+2:=⟨_,rfl⟩
 rw[<-hn8];refine MC.sub (s':=⟨[(6,.ptr 8 0),(3,.ptr 1 0),(2,.ptr 0 0)],F7,n8,117⟩) (Aw (by simp -implicitDefEqProofs)) rfl ?_
 obtain⟨prs,hprs⟩:∃prs,prs=[(a.top,b.top),(a.index,b.index)]:=⟨_,rfl⟩
 obtain⟨G8,hG8⟩:∃G8:Ak,G8=(n8,A5 ePr ty2 prs)::F7:=⟨_,rfl⟩
 have kG8:∀c,c<n8->Aj G8 c=Aj F7 c:=λc h=>by rw[hG8,A9,zw (by omega)]
 have S8:MtS M (Xd a.rels.length 0) (Xd a.vars.length (-1)) (BK b.rels.length []) (BK b.cons.length []) G8 (n8+1):=S3.more (λc hc=>by have:=S3.lt c hc;rw[kG8 c (by omega),k7 c this]) (by omega)
 have hpl:prs.length=2:=by rw[hprs];rfl
 have hL8:PrL (.row n8 0 2 2) prs [n8] G8:=by
  have:=wW (H:=G8) (r:=n8) (ty:=ty2) (prs:=prs) (by rw[hG8,A9,zu rfl]) (by rw[hprs];simp);rw[hpl]at this;exact this
 have hMa:M.a=a:=by rw[hM]
 have hMb:M.b=b:=by rw[hM]
 have hMk:M.K=⟨8,5,b1',b2',6,7⟩:=by rw[hM]
 have hok:M.ok=Ii pa pb a b:=by rw[hM];rfl
 obtain⟨⟨fr9,F9,n9⟩,⟨⟨b9,hr9,hb9,hbK9,hbl9,hbo9⟩,hS9,hk9,hn9,hf9⟩,hc9⟩:=QZ (q:=q) mok S8 hpm hL8 (by
  intro c hc;rw[Yr]at hc;subst hc;refine⟨Xw _,λh=>?_⟩;have:=S3.lt _ h
  omega) (by
  intro p hp;rw[hprs]at hp;rw[hMa];rcases Xn.1 hp with rfl | hp
  .exact⟨oa.top,by have:=ob.top;rwa[<-c1]at this⟩
  .rw[Yr]at hp;subst hp
   exact⟨oa.index,by have:=ob.index;rwa[<-c1]at this⟩) (by omega)
 simp only at hr9 hb9 hbK9 hbl9 hbo9 hS9 hk9 hn9 hf9 hc9
 have hBn:=NC (ok:=M.ok) (l:=prs) (Es.nil hpm) (by
  intro p hp;rw[hprs]at hp;rw[hMa];rcases Xn.1 hp with rfl | hp
  .exact⟨oa.top,by have:=ob.top;rwa[<-c1]at this⟩
  .rw[Yr]at hp;subst hp
   exact⟨oa.index,by have:=ob.index;rwa[<-c1]at this⟩)
 have hbA:=NB (ok:=M.ok) prs (Xd a.vars.length (-1),[]);rw[show(Xd a.vars.length (-1:Int),([]:List Int)).1=Xd a.vars.length (-1)from rfl]at hbA;rw[<-hprs,<-hok,hbA]at hRp
 obtain⟨⟨⟨w2,bd⟩,ok2⟩,ho2⟩:∃o2,o2=Ed M.ok (Xd a.vars.length (-1),[]) prs:=⟨_,rfl⟩
 rw[<-ho2]at hr9 hb9 hS9 hBn hRp;simp only at hr9 hb9 hS9 hBn hRp;obtain⟨x90,x91⟩:=O1 A6 b9 bd (bv ok2);obtain⟨t9,t9e,t9o⟩:=hAt hc9 hf9;rw[hr9]at t9e
 obtain⟨rr,hrr⟩:∃rr,rr=Df [Ax A6 b9 bd,.t (bv ok2)]:=⟨_,rfl⟩
 rw[<-hrr]at t9e x90 x91;rw[hMk,show(Kx.k0 ⟨8,5,b1',b2',6,7⟩)=8 from rfl]at t9e
 have kF9:∀c,c<2->Aj F9 c=Aj H1 c:=λc h=>by
  rw[hk9 c (by omega) (by rw[hMk];simp[Kx.l];omega),kG8 c (by omega),k7 c (by omega)];exact kk c (by omega)
 have r70:Aj F7 0=some Xa:=by rw[k7 0 (by omega)];exact r0
 have r71:Aj F7 1=some Xb:=by rw[k7 1 (by omega)];exact r1
 have z7:=ld r70;have z7b:=ldb r71
 have bsl2:∀k,BB ty2 2 [.int .i64 0,.int .i64 0] 2 [(0,.t (.ag [iv a.top,iv b.top])),(1,.t (.ag [iv a.index,iv b.index]))] k=some (.row k 0 2 2,A5 ePr ty2 prs):=λk=>by rw[hprs];rfl
 rw[hG8]at t9e
 cases ok2 with
 | false=>
  have hR0:R = .tu [Au,bv false]:=by rw[hRp];rfl
  have CF:Ctx Xc (G q) _:=(AB.cons hP (.cons (hEq (q:=q)) .nil)).ctxH (AG.cons t9o .nil) mixed;refine Ao CF ?_;simp -implicitDefEqProofs [z7.l0,z7.l1,z7b.l0,z7b.l1,Ml,bsl2,t9e,x90,x91,hR0,-B5,-HZ]
 | true=>
  obtain⟨⟨cr,F10,n10⟩,⟨hcr,⟨pl3,v',uP',uC',hcS,hcO,hcE⟩,hck,hcn,hcf⟩,hcc⟩:=wB (q:=q) mok a.rels.length (ps:=[]) (by rw[hMa];simp) (by simp[DO]) (by rw[hMb];exact hS9) hBn.pm;simp only at hcr hcS hcO hcE hck hcn hcf hcc;rw[hMa,hMb,show a.rels.drop ([]:List Nat).length=a.rels from rfl]at hcr hcO hcE
  obtain⟨O,hO⟩:∃O,O=Ds M.ok b.cons a.cons b.rels a.rels w2 []:=⟨_,rfl⟩
  have hRo:R=mmT O:=by rw[hRp,hO];rfl
  rw[<-hO]at hcr hcO hcE;subst hcr;obtain⟨tc,tce,tco⟩:=hAt hcc hcf;rw[hMk,show(Kx.k0 ⟨8,5,b1',b2',6,7⟩)=8 from rfl,show(iv ((([]:List Nat).length:Nat):Int)) = .v (.int .i64 0)from rfl]at tce;have CF:Ctx Xc (G q) _:=(AB.cons hP (.cons (hEq (q:=q)) .nil)).ctxH (AG.cons t9o (AG.cons tco .nil)) mixed
  cases O with
  | none=>
   have hR0:R = .tu [Au,bv false]:=hRo;rw[show(none:Option (List Nat)).isSome=false from rfl]at tce;refine Ao CF ?_;simp -implicitDefEqProofs [z7.l0,z7.l1,z7b.l0,z7b.l1,Ml,bsl2,t9e,x90,x91,tce,hR0,-B5,-HZ]
  | some r=>
   have hR0:R = .tu [slT A6 (DO r),bv true]:=hRo;rw[show(some r:Option (List Nat)).isSome=true from rfl]at tce;have hpr:=hcO r rfl;subst hpr;have lp3:=(ldX mok hcS.o).p;have lk3:=hcS.p;have ll3:=hcS.lp;rw[hMk,hMa]at lp3;rw[hMk]at lk3;rw[hMa]at ll3;rw[<-ll3]at lp3;have htt:=YU (e:=A6) lk3 (bv true);rw[show A6.z=1 from rfl]at htt;refine Ao CF ?_;simp -implicitDefEqProofs [z7.l0,z7.l1,z7b.l0,z7b.l1,Ml,bsl2,t9e,x90,x91,tce,-B5,-HZ];refine A8 CF ?_;simp -implicitDefEqProofs [lp3,htt,hR0,-toT]
end
structure K7 (a:Mr) (ca:List T):Prop where
 is:BJ a ca
 sm:SmM a
 lo:E8 AN a
 oc:(occ a).length<=900
noncomputable def gMm (a b:Mr) (ca cb:List T):List T->Option T
 | [t1,t2]=>open Classical in if t1 = .ag ca/\t2 = .ag cb then some (mmT (Dt (Fe a b) a b))else none
 | _=>none
section
variable {a b : Mr} {ca cb : List T}
theorem wZ:gMm a b ca cb [.ag ca,.ag cb]=some (mmT (Dt (Fe a b) a b)):=by
 simp[gMm]
theorem hMm (ha:K7 a ca) (hb:K7 b cb) (hf:full a):GOK Xc (G q) 23 (gMm a b ca cb):=λargs r hr=>by
 unfold gMm at hr;split at hr
 .split at hr
  .rename_i h;obtain⟨rfl,rfl⟩:=h;injection hr with hr;subst hr;exact ZX ha.is hb.is ha.sm hb.sm ha.lo hb.lo ha.oc hb.oc hf
  .cases hr
 .cases hr
theorem x4 (ha:K7 a ca) (hb:K7 b cb) (hf:full a):Bc Xc (G q) 25 [.ag ca,.ag cb] (· = bv (Dt (Fe a b) a b).isSome):=by
 obtain⟨tva,tra,tca,rla,eca,_⟩:=id ha.is;obtain⟨tvb,trb,tcb,rlb,ecb,_⟩:=id hb.is
 obtain⟨Xa,hXa⟩:∃X,X=Br [iv a.top,iv a.index,tva,tra,tca]:=⟨_,rfl⟩
 obtain⟨Xb,hXb⟩:∃X,X=Br [iv b.top,iv b.index,tvb,trb,tcb]:=⟨_,rfl⟩
 have cda:=cd5 (iv a.top) (iv a.index) tva tra tca;have cdb:=cd5 (iv b.top) (iv b.index) tvb trb tcb
 obtain⟨H0,hH0⟩:∃H0:Ak,H0=[(1,Xb),(0,Xa)]:=⟨_,rfl⟩
 have z0:LdM (iv a.top) (iv a.index) tva tra tca H0 0:=ldM (by rw[hH0,<-hXa];rfl);have z1:LdM (iv b.top) (iv b.index) tvb trb tcb H0 1:=ldM (by rw[hH0,<-hXb];rfl);have e:=wZ (a:=a) (b:=b) (ca:=ca) (cb:=cb);have C:Ctx Xc (G q) _:=(AB.cons (hMm (q:=q) ha hb hf) .nil).ctx mixed
 obtain⟨O,hO⟩:∃O,O=Dt (Fe a b) a b:=⟨_,rfl⟩
 rw[<-hO]at e ⊢;subst eca ecb;refine oS.call rfl ?_;(conv in UW=>cbv);refine Ao C ?_;simp -implicitDefEqProofs [cda,cdb];rw[show Row.cells 26 [.t (iv a.top),.t (iv a.index),.t tva,.t tra,.t tca]=Xa from hXa.symm,show Row.cells 26 [.t (iv b.top),.t (iv b.index),.t tvb,.t trb,.t tcb]=Xb from hXb.symm,show([(1,Xb),(0,Xa)]:Ak)=H0 from hH0.symm]
 cases O with
 | none=>
  have e:gMm a b [iv a.top,iv a.index,tva,tra,tca] [iv b.top,iv b.index,tvb,trb,tcb] [.ag [iv a.top,iv a.index,tva,tra,tca],.ag [iv b.top,iv b.index,tvb,trb,tcb]]=some (.tu [Au,bv false]):=e;refine Ao C ?_;simp -implicitDefEqProofs [z0.all,z1.all,e];refine A8 C ?_;simp -implicitDefEqProofs
 | some r=>
  have e:gMm a b [iv a.top,iv a.index,tva,tra,tca] [iv b.top,iv b.index,tvb,trb,tcb] [.ag [iv a.top,iv a.index,tva,tra,tca],.ag [iv b.top,iv b.index,tvb,trb,tcb]]=some (.tu [slT A6 (DO r),bv true]):=e
  obtain⟨tr,htr⟩:∃t,t=slT A6 (DO r):=⟨_,rfl⟩
  rw[<-htr]at e;refine Ao C ?_;simp -implicitDefEqProofs [z0.all,z1.all,e];refine A8 C ?_;simp -implicitDefEqProofs
end
def eVr:Enc Vr:=⟨2,λv=>[sv v.sort,sv v.digits],λ_=>rfl,by omega,λa b h=>by
 obtain⟨_,_⟩:=a;obtain⟨_,_⟩:=b;injection h with h1 h;injection h with h2 _;injection h1 with h1;injection h1 with h1;injection h2 with h2;injection h2 with h2;simp only at h1 h2
 subst h1;subst h2;rfl⟩
abbrev ZY:Nat:=78
abbrev Iw:Nat:=126
def Dy (s:ByteArray) (i:Nat) (e:Int) (v:PV):Row:=.cells ZY [.t (sv s),.t (iv (i:Int)),.t (iv e),v]
structure RdS (s:ByteArray) (k0 kv i:Nat) (r:Rs) (H:Ak) (nx:Nat):Prop where
 o:Aj H k0=some (Dy s i r.e (Ax eVr kv r.seen))
 v:AK eVr Iw H kv r.seen
 rest:r.rest=(wb s).drop i
 hi:i<=s.size
 l0:k0<nx
 lv:kv<nx
 ne:kv≠k0
structure RdP (s:ByteArray) (k0 kv:Nat) (r':Rs) (H:Ak) (nx:Nat) (f:Fin):Prop where
 ex:∃kv' i',RdS s k0 kv' i' r' f.H f.nx/\(kv'=kv\/nx<=kv')
 k:∀c,c<nx->c≠k0->c≠kv->Aj f.H c=Aj H c
 n:nx<=f.nx
 fr:Frs H nx->Frs f.H f.nx
structure LdR (s:ByteArray) (i:Nat) (e:Int) (v:PV) (H:Ak) (k:Nat):Prop where
 l0:AD false 1 H (.ptr k 0)=some (.t (sv s))
 l1:AD false 1 H (.ptr k 1)=some (.t (iv (i:Int)))
 l2:AD false 1 H (.ptr k 2)=some (.t (iv e))
 l3:AD false 1 H (.ptr k 3)=some v
section
variable {s : ByteArray} {k0 kv i : Nat} {r : Rs} {H : Ak} {nx : Nat}
theorem ldR {e:Int} {v:PV} (h:Aj H k0=some (Dy s i e v)):LdR s i e v H k0:=by
 have l:∀j,AD false 1 H (.ptr k0 j)=([.t (sv s),.t (iv (i:Int)),.t (iv e),v]:List PV)[j]?:=λj=>by
  simp only[AD,h,Dy,Yb,if_false]
 exact⟨l 0,l 1,l 2,l 3⟩
theorem Mp {e:Int} {v:PV} (h:Aj H k0=some (Dy s i e v)) (j:Nat):AO 1 H (.ptr k0 1) (.t (iv (j:Int)))=some (Xe H k0 (Dy s j e v)):=
 BF (ns:=[.t (iv (j:Int))]) h rfl rfl (by show 1+1<=4;omega)
theorem ZZ {e:Int} {v:PV} (h:Aj H k0=some (Dy s i e v)) (e':Int):AO 1 H (.ptr k0 2) (.t (iv e'))=some (Xe H k0 (Dy s i e' v)):=
 BF (ns:=[.t (iv e')]) h rfl rfl (by show 2+1<=4;omega)
theorem RdS.step (h:RdS s k0 kv i r H nx) {j:Nat} {e':Int} (hj:j<=s.size):RdS s k0 kv j ⟨(wb s).drop j,e',r.seen⟩ (Xe H k0 (Dy s j e' (Ax eVr kv r.seen))) nx:=
 ⟨by rw[A7,zu rfl,h.o];rfl,h.v.imp id λe=>by rw[A7,zw h.ne];exact e,rfl,hj,h.l0,h.lv,h.ne⟩
theorem Bz (s:ByteArray):(wb s).length=s.size:=Array.length_toList
theorem RdS.nil (h:RdS s k0 kv i r H nx):r.rest=[] ↔ s.size<=i:=by
 rw[h.rest,List.drop_eq_nil_iff,Bz]
theorem ixS {c:UInt8} (h:(wb s)[i]?=some c):HR (.t (sv s)) (.t (iv (i:Int)))=some (u8c c):=by
 have h1:(s[((i:Int)).toNat]?)=some c:=by
  rw[X3]
  have hl:i<s.size:=by rw[<-Bz];exact(X8.1 h).1
  rw[getElem?_pos s i hl]
  have h2:(wb s)[i]?=some s.data[i]:=by simp[wb]
  rw[h2]at h;exact h
 show(if 0<=(i:Int)then(s[((i:Int)).toNat]?).map _ else none)=_;rw[zu (by omega),h1];rfl
theorem K8 (h:RdS s k0 kv i r H nx):∃f:Fin,(f.r = .t (.tu [])/\f.nx=nx/\RdS s k0 kv i (Be r) f.H nx/\(∀c,c≠k0->Aj f.H c=Aj H c)/\(Frs H nx->Frs f.H nx))/\B3 Xc (G q) 90 [.ptr k0 0] H nx f.r f.H f.nx:=by
 have L:=ldR h.o;refine oT.callX rfl ?_;(conv in UX=>cbv);by_cases he:r.e=0
 .have e1:Be r=⟨r.rest,eos r.rest,r.seen⟩:=by unfold Be;rw[zu he]
  rw[e1]
  have hb:(r.e != 0)=false:=by rw[he];rfl
  have s1:=ZZ h.o 8;have S1:=h.step (j:=i) (e':=8) h.hi
  obtain⟨H1,hH1⟩:∃H1,H1=Xe H k0 (Dy s i 8 (Ax eVr kv r.seen)):=⟨_,rfl⟩
  rw[<-hH1]at s1 S1;have L1:=ldR S1.o
  have k1:∀c,c≠k0->Aj H1 c=Aj H c:=λc hc=>by rw[hH1,A7,zw hc]
  have f1:Frs H nx->Frs H1 nx:=λh=>by rw[hH1];exact h.upd
  refine A3 An ?_;simp -implicitDefEqProofs [L.l2,hb];refine A3 An ?_;simp -implicitDefEqProofs [s1];by_cases hn:s.size<=i
  .have e2:eos r.rest=9:=by unfold eos;rw[zu (h.nil.2 hn)]
   rw[e2];have hd:decide ((s.size:Int)<=(i:Int))=true:=zq (by omega);have s2:=ZZ S1.o 9;have S2:=S1.step (j:=i) (e':=9) h.hi;refine AV An ?_;simp -implicitDefEqProofs [L1.l1,L1.l0,hd,hn,s2];refine Jl ⟨.t (.tu []),Xe H1 k0 (Dy s i 9 (Ax eVr kv r.seen)),nx⟩ ⟨rfl,rfl,by rw[h.rest];exact S2,λc hc=>by show Aj (Xe H1 k0 _) c=_;rw[A7,zw hc];exact k1 c hc,λh=>(f1 h).upd⟩ (by simp -implicitDefEqProofs)
  .have e2:eos r.rest=8:=by unfold eos;rw[zw (λe=>hn (h.nil.1 e))]
   rw[e2];have hd:decide ((s.size:Int)<=(i:Int))=false:=zt (by omega);refine AV An ?_;simp -implicitDefEqProofs [L1.l1,L1.l0,hd,hn];exact Jl ⟨.t (.tu []),H1,nx⟩ ⟨rfl,rfl,by rw[h.rest];exact S1,k1,f1⟩ (by simp -implicitDefEqProofs)
 .have e1:=QD he
  have hb:(r.e != 0)=true:=by rw[bne_iff_ne];exact he
  rw[e1];refine A3 An ?_;simp -implicitDefEqProofs [L.l2,hb];exact Bp ⟨.t (.tu []),H,nx⟩ ⟨rfl,rfl,h,λ_ _=>rfl,λh=>h⟩ (by simp -implicitDefEqProofs)
theorem x5 (h:RdS s k0 kv i r H nx) (c:UInt8):B3 Xc (G q) 88 [.ptr k0 0,u8c c] H nx (.t (bv (AR c r))) H nx:=by
 have L:=ldR h.o
 suffices ∃f:Fin,f=⟨.t (bv (AR c r)),H,nx⟩/\B3 Xc (G q) 88 [.ptr k0 0,u8c c] H nx f.r f.H f.nx by
  obtain⟨f,rfl,hc⟩:=this;exact hc
 refine oV.callX rfl ?_;(conv in UZ=>cbv);refine A3 An ?_;simp -implicitDefEqProofs;by_cases he:r.e=0
 .have hb:(r.e==0)=true:=by rw[he];rfl
  by_cases hn:i<s.size
  .have hd:decide ((i:Int)<(s.size:Int))=true:=zq (by omega)
   obtain⟨x,hx⟩:∃x,(wb s)[i]?=some x:=⟨_,Xj (by rw[Bz];exact hn)⟩
   have ix:=ixS hx
   have e1:AR c r=((x.toNat:Int)==(c.toNat:Int)):=by
    unfold AR;rw[h.rest,zq he,Bool.true_and,List.head?_drop,hx];by_cases hxc:x=c
    .subst hxc;simp
    .rw[zt (by simpa using hxc)];symm;rw[zp];intro h2;exact hxc (Zn.1 (by omega))
   refine AV An ?_;simp -implicitDefEqProofs [L.l2,hb,L.l1,L.l0,hd,hn,ix];exact Bp ⟨.t (bv (AR c r)),H,nx⟩ rfl (by simp -implicitDefEqProofs [e1])
  .have hd:decide ((i:Int)<(s.size:Int))=false:=zt (by omega)
   have e1:AR c r=false:=by
    unfold AR;rw[h.nil.2 (by omega)];simp
   refine AV An ?_;simp -implicitDefEqProofs [L.l2,hb,L.l1,L.l0,hd,hn];exact Bp ⟨.t (bv (AR c r)),H,nx⟩ rfl (by simp -implicitDefEqProofs [e1])
 .have hb:(r.e==0)=false:=by rw[zp];exact he
  have e1:=Kv he c;refine AV An ?_;simp -implicitDefEqProofs [L.l2,hb];exact Bp ⟨.t (bv (AR c r)),H,nx⟩ rfl (by simp -implicitDefEqProofs [e1])
structure MuC where
 H:Ak
 i:Nat
 k:Nat
 r:Rs
def SMu (k0:Nat) (t:ByteArray) (nx:Nat) (c:MuC):Am:=⟨[(4,.t (iv (c.k:Int))),(1,.t (sv t)),(0,.ptr k0 0)],c.H,nx,52⟩
theorem x6 (h:RdS s k0 kv i r H nx) {t:ByteArray} (ht:t.size<=1000) (hs:s.size<=1000000000):∃f:Fin,(f.r = .t (.tu [])/\f.nx=nx/\(∃i',RdS s k0 kv i' (AC (wb t) r) f.H nx)/\(∀c,c≠k0->Aj f.H c=Aj H c)/\(Frs H nx->Frs f.H nx))/\B3 Xc (G q) 87 [.ptr k0 0,.t (sv t)] H nx f.r f.H f.nx:=by
 obtain⟨R,hR⟩:∃R,R=AC (wb t) r:=⟨_,rfl⟩
 rw[<-hR];refine oU.callX rfl ?_;(conv in UY=>cbv);refine A3 An ?_;simp -implicitDefEqProofs;refine BA ?_;refine DH (SMu k0 t nx) (λc=>t.size-c.k) (λc=>RdS s k0 kv c.i c.r c.H nx/\R=AC ((wb t).drop c.k) c.r/\(∀c',c'≠k0->Aj c.H c'=Aj H c')/\(Frs H nx->Frs c.H nx)/\c.k<=t.size) ⟨H,i,0,r⟩ (λ_=>rfl) ⟨h,hR,λ_ _=>rfl,λh=>h,Xm _⟩ ?_ rfl ?_
 .exact Aw (by simp -implicitDefEqProofs [SMu])
 rintro⟨Ha,j,k,ra⟩ ⟨hS,hRk,hk,hf,hkl⟩;simp only at hS hRk hk hf hkl;have L:=ldR hS.o;by_cases hlt:k<t.size
 rotate_left
 .have hd:decide ((k:Int)<(t.size:Int))=false:=zt (by omega);rw[Yh (by rw[Bz];omega),AC]at hRk;subst hRk;refine A3 An ?_;simp -implicitDefEqProofs [SMu,hd,hlt];exact Jl ⟨.t (.tu []),Ha,nx⟩ ⟨rfl,rfl,⟨j,hS⟩,hk,hf⟩ (by simp -implicitDefEqProofs)
 have hd:decide ((k:Int)<(t.size:Int))=true:=zq (by omega)
 obtain⟨c,hc⟩:∃c,(wb t)[k]?=some c:=⟨_,Xj (by rw[Bz];exact hlt)⟩
 have ixt:=ixS hc
 have ed:(wb t).drop k=c::(wb t).drop (k+1):=by
  rw[X0 (by rw[Bz];exact hlt),(X8.1 hc).2]
 rw[ed]at hRk;by_cases he:ra.e=0
 rotate_left
 .have hb:(ra.e==0)=false:=by rw[zp];exact he
  rw[Ge he]at hRk;subst hRk;refine A3 An ?_;simp -implicitDefEqProofs [SMu,hd,hlt,L.l2,hb];exact Jl ⟨.t (.tu []),Ha,nx⟩ ⟨rfl,rfl,⟨j,hS⟩,hk,hf⟩ (by simp -implicitDefEqProofs)
 have hb:(ra.e==0)=true:=by rw[he];rfl
 rw[AC,zu he]at hRk;refine A3 An ?_;simp -implicitDefEqProofs [SMu,hd,hlt,L.l2,hb];obtain⟨⟨fr,fH,fn⟩,⟨hr,hn,hfS,hfk,hff⟩,hfc⟩:=K8 (q:=q) hS;simp only at hr hn hfS hfk hff hfc;subst hr hn;obtain⟨tf,tf1,tf2⟩:=hAt hfc hff;have CC:Ctx Xc (G q) _:=AB.nil.ctxH (AG.cons tf2 .nil) mixed;have w1:Xi.wrap ((k:Int)+1)=((k+1:Nat):Int):=Bb (by omega) (by omega);have hji:=hS.hi;have w2:Xi.wrap ((j:Int)+1)=((j+1:Nat):Int):=Bb (by omega) (by omega);refine Cp (λc:MuC=>⟨[(4,.t (iv (k:Int))),(1,.t (sv t)),(0,.ptr k0 0)],c.H,fn,52⟩) (λc'=>RdS s k0 kv c'.i c'.r c'.H fn/\R=AC ((wb t).drop (k+1)) c'.r/\(∀c'',c''≠k0->Aj c'.H c''=Aj H c'')/\(Frs H fn->Frs c'.H fn)) (λ_=>rfl) ?_ ?_
 .refine BA ?_;by_cases hnl:s.size<=j
  .have hd2:decide ((s.size:Int)<=(j:Int))=true:=zq (by omega);rw[hS.nil.2 hnl]at hRk;simp only at hRk;subst hRk;refine A3 CC ?_;simp -implicitDefEqProofs [L.l1,L.l0,hd2,hnl,tf1];exact Bp ⟨.t (.tu []),fH,fn⟩ ⟨rfl,rfl,⟨j,hfS⟩,λc hc=>(hfk c hc).trans (hk c hc),λh=>hff (hf h)⟩ (by simp -implicitDefEqProofs)
  .have hd2:decide ((s.size:Int)<=(j:Int))=false:=zt (by omega)
   obtain⟨x,hx⟩:∃x,(wb s)[j]?=some x:=⟨_,Xj (by rw[Bz];omega)⟩
   have ixs:=ixS hx
   have er:ra.rest=x::(wb s).drop (j+1):=by
    rw[hS.rest,X0 (by rw[Bz];omega),(X8.1 hx).2]
   rw[er]at hRk;simp only at hRk;by_cases hxc:x=c
   .subst hxc;rw[zu rfl]at hRk;have S2:=hS.step (j:=j+1) (e':=ra.e) (by omega);have s2:=Mp hS.o (j+1)
    obtain⟨H2,hH2⟩:∃H2,H2=Xe Ha k0 (Dy s (j+1) ra.e (Ax eVr kv ra.seen)):=⟨_,rfl⟩
    rw[<-hH2]at s2 S2;rw[show((j+1:Nat):Int)=(j:Int)+1 from rfl]at s2 w2;refine A3 CC ?_;simp -implicitDefEqProofs [L.l1,L.l0,hd2,hnl,ixs,ixt];refine AV CC ?_;simp -implicitDefEqProofs [L.l1,w2,s2];exact A4.mk ⟨H2,j+1,0,⟨(wb s).drop (j+1),ra.e,ra.seen⟩⟩ ⟨S2,hRk,λc hc=>by show Aj H2 c=_;rw[hH2,A7,zw hc];exact hk c hc,λh=>by show Frs H2 fn;rw[hH2];exact(hf h).upd⟩ (Aw (by simp -implicitDefEqProofs))
   .rw[zw hxc]at hRk;subst hRk
    have hne:((x.toNat:Int)==(c.toNat:Int))=false:=by
     rw[zp];intro h2;exact hxc (Zn.1 (by omega))
    have hne2:((x.toNat:Int) !=(c.toNat:Int))=true:=by rw[bne,hne];rfl
    refine A3 CC ?_;simp -implicitDefEqProofs [L.l1,L.l0,hd2,hnl,ixs,ixt,hne,hne2,tf1];exact Bp ⟨.t (.tu []),fH,fn⟩ ⟨rfl,rfl,⟨j,hfS⟩,λc hc=>(hfk c hc).trans (hk c hc),λh=>hff (hf h)⟩ (by simp -implicitDefEqProofs)
 .rintro⟨Hz,jz,_,rz⟩ ⟨g1,g2,g3,g4⟩;simp only at g1 g2 g3 g4;refine AV An ?_;simp -implicitDefEqProofs [w1];exact A4.mk ⟨Hz,jz,k+1,rz⟩ ⟨⟨g1,g2,g3,g4,hlt⟩,by show t.size-(k+1)<t.size-k;omega⟩ (Aw (by simp -implicitDefEqProofs [SMu]))
end
end Go.Proofs.YtmgjopafgboljaaGreatDoor
