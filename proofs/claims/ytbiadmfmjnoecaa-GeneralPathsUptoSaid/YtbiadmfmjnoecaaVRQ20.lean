/-
 Auxiliary facts. No statement of the program stands here.
-/
import Derived.Test.YtbiadmfmjnoecaaVRQ18
import Derived.Test.YtbiadmfmjnoecaaVRQ19
namespace Go.Proofs.Ytbiadmfmjnoecaa
set_option linter.unusedSimpArgs false
set_option linter.unusedVariables false
open Go Go.Abs
def eqc (x:W) (n:Int):Bool:=(x.toNat:Int)==n
def nec (x:W) (n:Int):Bool:=(x.toNat:Int) != n
section
variable {Φ : A1c} {H : Heap} {nx : Nat}
@[simp] theorem uv_eqlc (isB:Bool) (nk:Option NK) (x:W) (n:Int):A0m Φ H nx (.bin isB .eql nk) [.t (uv x),.t (.v (.int .u64 n))]=some (.t (.v (.bool (eqc x n))),H,nx):=by
 simp only[uv,evalK_eql];rfl
@[simp] theorem uv_neqc (isB:Bool) (nk:Option NK) (x:W) (n:Int):A0m Φ H nx (.bin isB .neq nk) [.t (uv x),.t (.v (.int .u64 n))]=some (.t (.v (.bool (nec x n))),H,nx):=by
 simp only[uv,evalK_neq];rfl
@[simp] theorem uv_andc (isB:Bool) (nk:Option NK) (x:W) (n:Int):A0m Φ H nx (.bin isB .and nk) [.t (uv x),.t (.v (.int .u64 n))]=some (.t (uv (x&&&BitVec.ofInt 64 n)),H,nx):=by
 simp only[uv,evalK_and,kbits_u64,A5f,B0u];rfl
theorem C7l (isB:Bool) (nk:Option NK) (x:W) (k:IntKind) (r:Nat) (hr:r<=64):A0m Φ H nx (.bin isB .shr nk) [.t (uv x),.t (.v (.int k (r:Int)))]=some (.t (uv (x>>>r)),H,nx):=by
 have:((x.toNat:Int)).fdiv (2^min (r:Int).toNat 64)=(((x>>>r:W)).toNat:Int):=by
  rw[Int.toNat_natCast,Nat.min_eq_left hr,BitVec.toNat_ushiftRight,Nat.shiftRight_eq_div_pow]
  rw[Int.fdiv_eq_ediv_of_nonneg _ (by exact Int.pow_nonneg (by omega))]
  simp
 have hn:¬(r:Int)<0:=by omega
 simp[uv,A0m,hn]
 rw[show((x.toNat:Int)).fdiv (2^min r 64)=(((x>>>r:W)).toNat:Int)by simpa using this]
 simp
end
theorem G7k (w:W) (r:Nat):eqc (w>>>r&&&1#64) 1=w.getLsbD r:=by
 have h:(w>>>r&&&1#64).toNat=(w.getLsbD r).toNat:=by
  rw[BitVec.toNat_and,BitVec.toNat_ushiftRight]
  have e:(1#64).toNat=1:=rfl
  rw[e,Nat.and_one_is_mod]
  simp only[BitVec.getLsbD,Nat.testBit,Nat.one_and_eq_mod_two]
  rcases Nat.mod_two_eq_zero_or_one (w.toNat>>>r)with h | h<;>rw[h]<;>rfl
 unfold eqc
 rw[h]
 cases w.getLsbD r<;>rfl
def hasL (l:List W) (n:Nat):Bool:=(wd l (n / 64)).getLsbD (n%64)
theorem C7m {b:T} {l:List W} (hb:decB b=some l) (n:Nat) (hn:n<=9223372036854775807):A0y Try.prog G 131 [b,.v (.int .i64 (n:Int))] (· = .v (.bool (hasL l n))):=by
 obtain⟨q,hq⟩:∃q,q=n / 64:=⟨_,rfl⟩
 obtain⟨r,hr⟩:∃r,r=n%64:=⟨_,rfl⟩
 have q1:IntKind.i64.wrap ((n:Int) / 64)=(q:Int):=by rw[A8h (by omega) (by omega)];omega
 have r1:(n:Int).tmod 64=(r:Int):=by rw[Int.tmod_eq_emod_of_nonneg (by omega)];omega
 have r2:IntKind.u64.wrap (r:Int)=(r:Int):=C5n (by omega) (by omega)
 have n0:¬(n:Int)<0:=by omega
 refine C6n.runs ctx0 rfl ?_
 unfold hasL
 rw[<-hq,<-hr]
 by_cases h:q<l.length
 ·have h':¬l.length<=q:=by omega
  have x1:l[q]?=some (wd l q):=by simp[wd,h]
  simp -implicitDefEqProofs [B3p,q1,r1,r2,n0,A1v hb,h,h',A2g hb,A2k _ x1,C7l _ _ _ _ r (by omega),G7k]
 ·have h':l.length<=q:=by omega
  have hw:wd l q=0#64:=D0p h'
  simp -implicitDefEqProofs [B3p,q1,r1,r2,n0,A1v hb,h,h',hw]
theorem D4y {b:T} {i:Int} (hi:i<0):A0y Try.prog G 131 [b,.v (.int .i64 i)] (· = .v (.bool false)):=by
 refine C6n.runs ctx0 rfl ?_
 simp -implicitDefEqProofs [B3p,hi]
def gHas:List T->Option T
 | [t,.v (.int .i64 i)]=>match decB t with
  | some l=>if i<0 then some (.v (.bool false))else if i<=9223372036854775807 then some (.v (.bool (hasL l i.toNat)))else none
  | none=>none
 | _=>none
theorem E6v {t:T} {l:List W} (h:decB t=some l) (n:Nat) (hn:n<=9223372036854775807):gHas [t,.v (.int .i64 (n:Int))]=some (.v (.bool (hasL l n))):=by
 have h0:¬(n:Int)<0:=by omega
 have h1:(n:Int)<=9223372036854775807:=by omega
 simp[gHas,h,h0,h1]
theorem E2w {F:Nat} (h1:∀{b:T} {l:List W},decB b=some l->∀(n:Nat),n<=9223372036854775807->A0y Try.prog G F [b,.v (.int .i64 (n:Int))] (· = .v (.bool (hasL l n))))
  (h2:∀{b:T} {i:Int},i<0->A0y Try.prog G F [b,.v (.int .i64 i)] (· = .v (.bool false))):GOK Try.prog G F gHas:=by
 intro args r h
 unfold gHas at h
 split at h
 ·split at h
  ·rename_i t i _ l hl
   split at h
   ·rename_i h0
    injection h with h;subst h
    exact h2 h0
   ·split at h
    ·rename_i h0 h3
     injection h with h;subst h
     obtain⟨n,rfl⟩:=Int.eq_ofNat_of_zero_le (show 0<=i by omega)
     exact h1 hl n (by omega)
    ·cases h
  ·cases h
 ·cases h
def subL (l m:List W):Bool:=(A1x (D8o l m)).length==0
theorem F5w (l:List W):(A1x l).length=0 ↔ ∀i,wd l i=0:=by
 constructor
 ·intro h i
  have:A1x l=[]:=List.eq_nil_of_length_eq_zero h
  rw[<-B2d,this];rfl
 ·intro h
  have:A1x l=A1x []:=D8w fun i=>(h i).trans rfl
  rw[this];rfl
theorem A8j (l m:List W):subL l m=true ↔ ∀i,wd l i &&& ~~~ wd m i=0:=by
 unfold subL
 rw[beq_iff_eq,F5w]
 constructor
 ·intro h i;rw[<-D8x];exact h i
 ·intro h i;rw[D8x];exact h i
def S23 (a b:T) (n j:Nat):A0b:=⟨[(9,.t (.v (.int .i64 (j:Int)))),(8,.t (.v (.int .i64 (n:Int)))),(7,.t a),(1,.t b),(0,.t a)],[],0,21⟩
theorem D4z (x:W):nec x 0 = !(x==0):=by
 unfold nec
 by_cases h:x=0
 ·subst h;rfl
 ·have h1:(x==0)=false:=by simpa using h
  rw[h1]
  simp only[Bool.not_false,bne_iff_ne]
  exact fun e=>h (BitVec.eq_of_toNat_eq (by simpa using e))
theorem first_bad (p:Nat->Bool):∀n,(∀i,i<n->p i=true)\/∃k,k<n/\(∀i,i<k->p i=true)/\p k=false
 | 0=>.inl fun i hi=>by omega
 | n+1=>by
  rcases first_bad p n with h | ⟨k,h1,h2⟩
  ·cases hn:p n with
   | true=>
    refine .inl fun i hi=>?_
    by_cases e:i=n
    ·subst e;exact hn
    ·exact h i (by omega)
   | false=>exact .inr ⟨n,by omega,h,hn⟩
  ·exact .inr ⟨k,by omega,h2⟩
theorem G2k {a b:T} {l m:List W} (ha:decB a=some l) (hb:decB b=some m) (hl:l.length<=1000) (hm:m.length<=1000):A0y Try.prog G 71 [a,b] (· = .v (.bool (subL l m))):=by
 refine B9v.call rfl ?_
 unfold B1v
 refine A0a ctx1 ?_
 simp -implicitDefEqProofs
 rcases first_bad (fun i=>wd l i &&& ~~~ wd m i==0) l.length with h | ⟨k,hk,hsame,hdiff⟩
 ·have hs:subL l m=true:=(A8j l m).2 fun i=>by
   by_cases hi:i<l.length
   ·simpa using h i hi
   ·rw[D0p (l:=l) (by omega)];simp
  rw[hs]
  refine A0s (fun _:Unit=>S23 a b l.length l.length) (fun _=>True) (fun _=>rfl) ?_ ?_
  ·refine A0a ctx1 ?_
   simp -implicitDefEqProofs [A1v ha]
   refine A0h ?_
   refine A1b (S23 a b l.length) l.length (fun _=>rfl) ?_ rfl ?_ ?_
   ·refine A0c rfl rfl ?_ ?_<;>simp -implicitDefEqProofs [S23]
   ·intro j hj
    refine A0d ctx1 ?_
    have x1:l[j]?=some (wd l j):=by simp[wd,hj]
    have w2:=A8i hb j
    have hz:wd l j &&& ~~~ wd m j=0#64:=by simpa using h j hj
    have e1:IntKind.i64.wrap ((j:Int)+1)=((j+1:Nat):Int):=A0l (by omega) (by omega)
    simp -implicitDefEqProofs [S23,hj,A2g ha,A2k _ x1,w2,tb1,hz,D4z,e1]
    refine A0c rfl rfl ?_ ?_<;>simp -implicitDefEqProofs
   ·refine A0d ctx1 ?_
    simp -implicitDefEqProofs [S23]
    exact Next.mk () trivial (A0c rfl rfl (by simp -implicitDefEqProofs) (by simp -implicitDefEqProofs))
  ·rintro _ -
   refine A0d ctx1 ?_
   simp -implicitDefEqProofs [S23]
 ·have hs:subL l m=false:=by
   cases hh:subL l m with
   | false=>rfl
   | true=>exact absurd ((A8j l m).1 hh k) (by simpa using hdiff)
  rw[hs]
  refine A0s (fun _:Unit=>S23 a b l.length l.length) (fun _=>False) (fun _=>rfl) ?_ ?_
  ·refine A0a ctx1 ?_
   simp -implicitDefEqProofs [A1v ha]
   refine A0h ?_
   refine A1b (S23 a b l.length) k (fun _=>rfl) ?_ rfl ?_ ?_
   ·refine A0c rfl rfl ?_ ?_<;>simp -implicitDefEqProofs [S23]
   ·intro j hj
    refine A0d ctx1 ?_
    have hjl:j<l.length:=by omega
    have x1:l[j]?=some (wd l j):=by simp[wd,hjl]
    have w2:=A8i hb j
    have hz:wd l j &&& ~~~ wd m j=0#64:=by simpa using hsame j hj
    have e1:IntKind.i64.wrap ((j:Int)+1)=((j+1:Nat):Int):=A0l (by omega) (by omega)
    simp -implicitDefEqProofs [S23,hjl,A2g ha,A2k _ x1,w2,tb1,hz,D4z,e1]
    refine A0c rfl rfl ?_ ?_<;>simp -implicitDefEqProofs
   ·refine A0d ctx1 ?_
    have x1:l[k]?=some (wd l k):=by simp[wd,hk]
    have w2:=A8i hb k
    have hz:(wd l k &&& ~~~ wd m k==0#64)=false:=hdiff
    simp -implicitDefEqProofs [S23,hk,A2g ha,A2k _ x1,w2,tb1,D4z,hz]
  ·rintro _ h
   exact h.elim
def fSub (l m:List W):T:=.v (.bool (subL l m))
def fEq (l m:List W):T:=.v (.bool (subL l m&&subL m l))
section
variable {Φ : A1c} {H : Heap} {nx : Nat}
theorem D0q (x y:W):IntKind.u64.wrap ((x.toNat:Int)+(y.toNat:Int))=((x+y:W).toNat:Int):=by
 unfold IntKind.wrap IntKind.bits IntKind.signed
 simp only[Bool.false_and,Bool.false_eq_true,if_false,BitVec.toNat_add]
 have e1:(2:Int)^64=18446744073709551616:=by decide
 have e2:(2:Nat)^64=18446744073709551616:=by decide
 rw[e1,e2]
 omega
@[simp] theorem uv_add (isB:Bool) (nk:Option NK) (x y:W):A0m Φ H nx (.bin isB .add nk) [.t (uv x),.t (uv y)]=some (.t (uv (x+y)),H,nx):=by
 simp only[uv,evalK_add,D0q]
@[simp] theorem uv_conv (x:W) (h:x.toNat<2^62):convM (some .i64) (.t (uv x))=some (.t (.v (.int .i64 (x.toNat:Int)))):=by
 have:IntKind.i64.wrap (x.toNat:Int)=(x.toNat:Int):=A8h (by omega) (by omega)
 simp only[uv,convM,this]
end
theorem F5x (x:W):A0y Try.prog G 96 [uv x] (· = .v (.int .i64 (popc x.toNat:Int))):=by
 refine A9m.runs ctx0 rfl ?_
 have s1:∀x:W,A0m (orc []) [] 0 (.bin false .shr none) [.t (uv x),.t (.v (.int .u64 1))]=some (.t (uv (x>>>1)),[],0):=fun x=>C7l false none x .u64 1 (by omega)
 have s2:∀x:W,A0m (orc []) [] 0 (.bin false .shr none) [.t (uv x),.t (.v (.int .u64 2))]=some (.t (uv (x>>>2)),[],0):=fun x=>C7l false none x .u64 2 (by omega)
 have s4:∀x:W,A0m (orc []) [] 0 (.bin false .shr none) [.t (uv x),.t (.v (.int .u64 4))]=some (.t (uv (x>>>4)),[],0):=fun x=>C7l false none x .u64 4 (by omega)
 have s8:∀x:W,A0m (orc []) [] 0 (.bin false .shr none) [.t (uv x),.t (.v (.int .u64 8))]=some (.t (uv (x>>>8)),[],0):=fun x=>C7l false none x .u64 8 (by omega)
 have s16:∀x:W,A0m (orc []) [] 0 (.bin false .shr none) [.t (uv x),.t (.v (.int .u64 16))]=some (.t (uv (x>>>16)),[],0):=fun x=>C7l false none x .u64 16 (by omega)
 have s32:∀x:W,A0m (orc []) [] 0 (.bin false .shr none) [.t (uv x),.t (.v (.int .u64 32))]=some (.t (uv (x>>>32)),[],0):=fun x=>C7l false none x .u64 32 (by omega)
 obtain⟨y1,h1⟩:∃y:W,(x>>>1&&&6148914691236517205#64)+(x&&&6148914691236517205#64)=y:=⟨_,rfl⟩
 obtain⟨y2,h2⟩:∃y:W,(y1>>>2&&&3689348814741910323#64)+(y1&&&3689348814741910323#64)=y:=⟨_,rfl⟩
 obtain⟨y3,h3⟩:∃y:W,(y2>>>4+y2)&&&1085102592571150095#64=y:=⟨_,rfl⟩
 obtain⟨y4,h4⟩:∃y:W,y3+y3>>>8=y:=⟨_,rfl⟩
 obtain⟨y5,h5⟩:∃y:W,y4+y4>>>16=y:=⟨_,rfl⟩
 obtain⟨y6,h6⟩:∃y:W,y5+y5>>>32=y:=⟨_,rfl⟩
 have t1:∀a b:W,a.toNat+b.toNat<2^64->(a+b).toNat=a.toNat+b.toNat:=fun a b h=>by rw[BitVec.toNat_add,Nat.mod_eq_of_lt h]
 have t2:∀(a:W) (k:Nat),(a>>>k).toNat=a.toNat / 2^k:=fun a k=>by rw[BitVec.toNat_ushiftRight,Nat.shiftRight_eq_div_pow]
 have sw:=swar x.toNat _ _ _ _ _ _ x.isLt rfl rfl rfl rfl rfl rfl
 obtain⟨w1,w2,w3,w4,w5,w6,w7,w8⟩:=sw
 have n1:y1.toNat=(x.toNat / 2&&&6148914691236517205)+(x.toNat&&&6148914691236517205):=by
  rw[<-h1,t1 _ _ (by rw[BitVec.toNat_and,BitVec.toNat_and,t2];exact w1),BitVec.toNat_and,BitVec.toNat_and,t2];rfl
 rw[<-n1]at w1 w2 w3 w4 w5 w6 w7
 have n2:y2.toNat=(y1.toNat / 4&&&3689348814741910323)+(y1.toNat&&&3689348814741910323):=by
  rw[<-h2,t1 _ _ (by rw[BitVec.toNat_and,BitVec.toNat_and,t2];exact w2),BitVec.toNat_and,BitVec.toNat_and,t2];rfl
 rw[<-n2]at w2 w3 w4 w5 w6 w7
 have n3:y3.toNat=(y2.toNat / 16+y2.toNat)&&&1085102592571150095:=by
  rw[<-h3,BitVec.toNat_and,t1 _ _ (by rw[t2];exact w3),t2];rfl
 rw[<-n3]at w4 w5 w6 w7
 have n4:y4.toNat=y3.toNat+y3.toNat / 256:=by
  rw[<-h4,t1 _ _ (by rw[t2];omega),t2]
 rw[<-n4]at w4 w5 w6 w7
 have n5:y5.toNat=y4.toNat+y4.toNat / 65536:=by
  rw[<-h5,t1 _ _ (by rw[t2];omega),t2]
 rw[<-n5]at w5 w6 w7
 have n6:y6.toNat=y5.toNat+y5.toNat / 4294967296:=by
  rw[<-h6,t1 _ _ (by rw[t2];omega),t2]
 rw[<-n6]at w6 w7
 have c1:IntKind.i64.wrap ((BitVec.ofInt 64 (y6.toNat:Int)&&&BitVec.ofInt 64 127).toNat:Int)=(popc x.toNat:Int):=by
  have e:(BitVec.ofInt 64 (y6.toNat:Int)&&&BitVec.ofInt 64 127).toNat=popc x.toNat:=by
   rw[BitVec.toNat_and,A5f,show(BitVec.ofInt 64 127).toNat=2^7-1 from rfl,Nat.and_two_pow_sub_one_eq_mod]
   exact w7
  rw[e,A8h (by omega) (by omega)]
 rw[A5f,show BitVec.ofInt 64 127=127#64 from rfl]at c1
 simp -implicitDefEqProofs [A5x,-convM,s1,s2,s4,s8,s16,s32,h1,h2,h3,h4,h5,h6,uv_conv y6 w6]
 exact c1
section
variable {α : Type}
def rowL:List α->PV
 | []=>.t (.v (.slice none 0 0))
 | _::r=>.row (2*r.length+1) 0 (r.length+1) 1
def B8e (ty:Nat) (e:α->T):List α->Heap
 | []=>[]
 | x::r=>[(2*r.length+1,.cells ty ((x::r).map fun y=>.t (e y)))]
def F5y (e:α->T):List α->T
 | []=>.v (.slice none 0 0)
 | x::r=>.sl (r.length+1) ((x::r).map e)
def H0y:List α->List Nat
 | []=>[]
 | _::r=>[2*r.length+1]
theorem app_L (ty:Nat) (e:α->T) (l:List α) (x:α) (h:l.length<=1000000) :
  appM ty 1 8 ((2*l.length,.cells ty [.t (e x)])::B8e ty e l) (2*l.length+1) (rowL l) (.row (2*l.length) 0 1 1)
   = some (rowL (l++[x]),B8e ty e (l++[x])++[(2*l.length,.cells ty [.t (e x)])],2*(l++[x]).length):=by
 cases l with
 | nil=>simp[appM,srcP,B8e,rowL]
 | cons y r=>
  simp only[List.length_cons]at h
  have b1:(r.length+1+1)*8<=140737488355328:=by omega
  have b2:r.length+1+1<=9223372036854775807:=by omega
  have e1:2*(r.length+1)=2*r.length+2:=by omega
  simp[appM,srcP,B8e,rowL,b1,b2,e1]
  omega
theorem toT_L (ty:Nat) (e:α->T) (l:List α):toT (B8e ty e l) (rowL l)=some (F5y e l,H0y l):=by
 cases l with
 | nil=>rfl
 | cons x r=>
  have h1:allT (List.map (fun y=>PV.t (e y)) r)=some (r.map e):=by rw[<-allT_map_t,List.map_map];rfl
  have tk:List.take (r.length+1) ((x::r).map fun y=>PV.t (e y))=(x::r).map fun y=>.t (e y):=List.take_of_length_le (by simp)
  simp only[B8e,rowL,toT,look_cons,if_true,List.drop_zero,Nat.mul_one,tk,Nat.zero_add]
  simp[F5y,H0y,h1]
theorem D2q (ty:Nat) (e:α->T) (l:List α) (H:Heap):∀q∈B8e ty e l,Abs.look (B8e ty e l++H) q.1=some q.2:=by
 cases l with
 | nil=>intro q h;simp[B8e]at h
 | cons x r=>
  intro q h
  simp only[B8e,List.mem_singleton]at h
  subst h
  simp[B8e]
theorem C7n (ty:Nat) (e:α->T) (l:List α):∀q∈B8e ty e l,Abs.look (B8e ty e l) q.1=some q.2:=by
 have:=D2q ty e l []
 simpa using this
end
theorem G5w (c:Nat):∀l:List Nat,(∀d∈l,d<=c)->l.sum<=c*l.length
 | [],_=>by simp
 | x::l,h=>by
  have h1:=G5w c l fun d hd=>h d (by simp[hd])
  have h2:=h x (by simp)
  rw[List.sum_cons,List.length_cons,Nat.mul_add]
  omega
theorem G7l (x:Nat):popc x<=64:=by
 unfold popc
 have h:=G5w 1 (digs 2 64 x) (E2v 2 (by omega) 64 x)
 rw[B8d]at h
 omega
def A6b (l:List W) (n:Nat):Nat:=((l.take n).map fun x=>popc x.toNat).sum
def cnt (l:List W):Nat:=(l.map fun x=>popc x.toNat).sum
theorem B4c {l:List W} {n:Nat} {x:W} (h:l[n]?=some x):A6b l (n+1)=A6b l n+popc x.toNat:=by
 unfold A6b
 rw[List.take_add_one,h]
 simp
theorem D2r (l:List W):∀n,A6b l n<=64*n
 | 0=>by simp[A6b]
 | n+1=>by
  have ih:=D2r l n
  cases h:l[n]? with
  | none=>
   unfold A6b at *
   rw[List.take_add_one,h]
   simp at ih ⊢
   omega
  | some x=>
   rw[B4c h]
   have:=G7l x.toNat
   omega
theorem C7o (l:List W):A6b l l.length=cnt l:=by simp[A6b,cnt]
def G2l (x:W):T:=iv (popc x.toNat)
def G2m:List T->Option T
 | [t]=>(decU t).map G2l
 | _=>none
theorem G7m:GOK Try.prog G 96 G2m:=by
 intro args r h
 unfold G2m at h
 split at h
 ·obtain⟨x,hx,rfl⟩:=Option.map_eq_some_iff.1 h
  rw[D8l hx]
  exact F5x x
 ·cases h
theorem G2n (x:W):G2m [uv x]=some (G2l x):=by
 show(decU (uv x)).map G2l=_
 rw[D4l];rfl
theorem G2o (x:W):G2l x = .v (.int .i64 (popc x.toNat:Int)):=rfl
def tb6:Tbl:=[(96,G2m)]
theorem ctx6:Ctx Try.prog G (orc tb6):=(A1t.cons G7m A1t.nil).ctx A1u
def S27 (t:T) (n:Nat) (l:List W) (j:Nat):A0b:=⟨[(8,.t (iv j)),(7,.t (iv n)),(6,.t t),(3,.t (iv (A6b l j)))],[],0,18⟩
theorem F0z {t:T} {l:List W} (ht:decB t=some l) (hl:l.length<=1000):A0y Try.prog G 72 [t] (· = iv (cnt l)):=by
 refine C3y.call rfl ?_
 unfold B3r
 refine A0a ctx6 ?_
 simp -implicitDefEqProofs
 refine A0a ctx6 ?_
 simp -implicitDefEqProofs
 refine A0s (fun _:Unit=>S27 t l.length l l.length) (fun _=>True) (fun _=>rfl) ?_ ?_
 ·refine A0a ctx6 ?_
  simp -implicitDefEqProofs [A1v ht]
  refine A0h ?_
  refine A1b (S27 t l.length l) l.length (fun _=>rfl) ?_ rfl ?_ ?_
  ·refine A0c rfl rfl ?_ ?_<;>simp -implicitDefEqProofs [S27,iv,A6b]
  ·intro j hj
   refine A0d ctx6 ?_
   obtain⟨x,hx⟩:∃x,l[j]?=some x:=⟨_,List.getElem?_eq_getElem hj⟩
   have e1:IntKind.i64.wrap ((j:Int)+1)=((j+1:Nat):Int):=A0l (by omega) (by omega)
   have c1:=B4c hx
   have c2:=D2r l (j+1)
   have e2:IntKind.i64.wrap ((A6b l j:Int)+(popc x.toNat:Int))=(A6b l (j+1):Int):=A0l (by omega) (by omega)
   have h1:=A2g ht .i64 j (by omega) (by omega)
   simp only[Int.toNat_natCast]at h1
   simp -implicitDefEqProofs [S27,iv,hj,h1,A2k _ hx,tb6,G2n,G2o,e1,e2]
   refine A0c rfl rfl ?_ ?_<;>simp -implicitDefEqProofs
  ·refine A0d ctx6 ?_
   simp -implicitDefEqProofs [S27,iv]
   exact Next.mk () trivial (A0c rfl rfl (by simp -implicitDefEqProofs) (by simp -implicitDefEqProofs))
 ·rintro _ -
  refine A0d ctx6 ?_
  simp -implicitDefEqProofs [S27,iv,C7o]
def els (l:List W) (n:Nat):List Int:=((List.range n).filter (hasL l)).map Int.ofNat
theorem E6w (l:List W) (n:Nat):els l (n+1)=els l n++(if hasL l n then [(n:Int)]else []):=by
 unfold els
 rw[List.range_succ,List.filter_append,List.map_append]
 cases h:hasL l n<;>simp[h]
theorem G7n (l:List W) (n:Nat):(els l n).length<=n:=by
 unfold els
 rw[List.length_map]
 exact Nat.le_trans (List.length_filter_le _ _) (by simp)
def tb7:Tbl:=[(131,gHas)]
theorem ctx7:Ctx Try.prog G (orc tb7):=(A1t.cons (E2w C7m D4y) A1t.nil).ctx A1u
def S14 (t:T) (l:List W) (j:Nat):A0b:=⟨[(4,.t (iv j)),(3,rowL (els l j)),(0,.t t)],B8e 3 iv (els l j),2*(els l j).length,20⟩
theorem F1a {t:T} {l:List W} (ht:decB t=some l) (hl:l.length<=1000):A0y Try.prog G 141 [t] (· = F5y iv (els l (64*l.length))):=by
 refine D2a.call rfl ?_
 unfold C2c
 refine A0a ctx7 ?_
 simp -implicitDefEqProofs
 refine A0a ctx7 ?_
 simp -implicitDefEqProofs
 have em:IntKind.i64.wrap (64*(l.length:Int))=((64*l.length:Nat):Int):=A0l (by omega) (by omega)
 obtain⟨n,hn⟩:∃n,n=64*l.length:=⟨_,rfl⟩
 rw[<-hn]at em ⊢
 refine A0s (fun _:Unit=>S14 t l n) (fun _=>True) (fun _=>rfl) ?_ ?_
 ·refine A0a ctx7 ?_
  simp -implicitDefEqProofs
  refine A0h ?_
  refine A1b (S14 t l) n (fun _=>rfl) ?_ rfl ?_ ?_
  ·refine A0c rfl (by simp -implicitDefEqProofs [S14,els]) ?_ ?_<;>simp -implicitDefEqProofs [S14,iv,els,rowL,B8e]
  ·intro j hj
   refine A0d ctx7 ?_
   have e1:IntKind.i64.wrap ((j:Int)+1)=((j+1:Nat):Int):=A0l (by omega) (by omega)
   have h1:=E6v ht j (by omega)
   have hlen:=G7n l j
   have hs:=E6w l j
   by_cases hh:hasL l j=true
   ·rw[if_pos hh]at hs
    have ap:=app_L 3 iv (els l j) (j:Int) (by omega)
    rw[<-hs]at ap
    have fj:A5q (fun i=>some (i,1)) [.t (.v (.int .i64 0))] [(0,.t (.v (.int .i64 (j:Int))))]=some [.t (iv j)]:=rfl
    simp -implicitDefEqProofs [S14,iv,hj,A1v ht,em,h1,tb7,hh,A1p,A9j,fj,e1]
    simp -implicitDefEqProofs [iv]at ap
    simp -implicitDefEqProofs [ap]
    exact A0c rfl rfl (by simp -implicitDefEqProofs [e1]) (D2q _ _ _ _)
   ·have hh':hasL l j=false:=by simpa using hh
    rw[if_neg hh,List.append_nil]at hs
    simp -implicitDefEqProofs [S14,iv,hj,A1v ht,em,h1,tb7,hh',e1,hs]
    exact A0c rfl rfl (by simp -implicitDefEqProofs [e1]) (C7n _ _ _)
  ·refine A0d ctx7 ?_
   simp -implicitDefEqProofs [S14,iv,A1v ht,em]
   exact Next.mk () trivial (A0c rfl rfl (by simp -implicitDefEqProofs) (C7n _ _ _))
 ·rintro _ -
  refine A0d ctx7 ?_
  have tt:=toT_L 3 iv (els l n)
  simp -implicitDefEqProofs [S14,tt]
theorem D8z:∀(n x:Nat),(digs 2 n x).sum=((List.range n).filter fun i=>x.testBit i).length
 | 0,x=>rfl
 | n+1,x=>by
  rw[digs,List.sum_cons,D8z n (x / 2),List.range_succ_eq_map,List.filter_cons,List.filter_map]
  have e:((fun i=>x.testBit i)∘Nat.succ)=fun i=>(x / 2).testBit i:=by funext i;simp[Nat.testBit_succ]
  rw[e,Nat.testBit_zero]
  rcases Nat.mod_two_eq_zero_or_one x with h | h<;>simp[h]<;>omega
theorem F5z (x:W):popc x.toNat=((List.range 64).filter fun i=>x.getLsbD i).length:=D8z 64 x.toNat
theorem D5a (l:List W) (k:Nat):∀r,r<=64->(els l (64*k+r)).length=(els l (64*k)).length+((List.range r).filter fun i=>(wd l k).getLsbD i).length
 | 0,_=>by simp
 | r+1,h=>by
  have ih:=D5a l k r (by omega)
  have hh:hasL l (64*k+r)=(wd l k).getLsbD r:=by
   unfold hasL
   rw[show(64*k+r) / 64=k by omega,show(64*k+r)%64=r by omega]
  rw[<-Nat.add_assoc,E6w,List.length_append,ih,hh,List.range_succ,List.filter_append,List.length_append]
  cases h:(wd l k).getLsbD r<;>simp[h,Nat.add_assoc]
theorem F6a (l:List W):∀k,k<=l.length->(els l (64*k)).length=A6b l k
 | 0,_=>by simp[els,A6b]
 | k+1,h=>by
  have hx:l[k]?=some (wd l k):=by simp[wd,show k<l.length by omega]
  rw[B4c hx,<-F6a l k (by omega),F5z,show 64*(k+1)=64*k+64 by omega,D5a l k 64 (by omega)]
theorem F6b (l:List W):(els l (64*l.length)).length=cnt l:=by rw[F6a l l.length (Nat.le_refl _),C7o]
def gB1 (f:List W->T):List T->Option T
 | [a]=>match decB a with
  | some l=>if l.length<=1000 then some (f l)else none
  | none=>none
 | _=>none
theorem F6c {F:Nat} {f:List W->T} (h:∀{a:T} {l:List W},decB a=some l->l.length<=1000->A0y Try.prog G F [a] (· = f l)):GOK Try.prog G F (gB1 f):=by
 intro args r e
 unfold gB1 at e
 split at e
 ·split at e
  ·rename_i l ha
   split at e
   ·rename_i hl
    injection e with e;subst e
    exact h ha hl
   ·cases e
  ·cases e
 ·cases e
theorem D9a {f:List W->T} {a:T} {l:List W} (ha:decB a=some l) (hl:l.length<=1000):gB1 f [a]=some (f l):=by
 simp[gB1,ha,hl]
def fCnt (l:List W):T:=.v (.int .i64 (cnt l:Int))
def fEls (l:List W):T:=F5y iv (els l (64*l.length))
theorem F6d {α:Type} (e:α->T) (l:List α):B0r (.t (F5y e l))=some (.t (.v (.int .i64 (l.length:Int)))):=by
 cases l<;>rfl
theorem E2x {t:T} {l:List W} (ht:decB t=some l) (hl:l.length<=1000):A0y Try.prog G 133 [t] (· = fCnt l):=by
 have ok:A1t Try.prog G [(141,gB1 fEls)]:=.cons (F6c F1a) .nil
 refine C6p.runs (ok.ctx A1u) rfl ?_
 have e1:=D9a (f:=fEls) ht hl
 have e2:=F6d iv (els l (64*l.length))
 rw[F6b]at e2
 simp -implicitDefEqProofs [B7x,e1,fEls,e2,fCnt]
def decN:T->Option Int
 | .v (.int .i64 n)=>some n
 | _=>none
def E2y:List T->Option (List Int)
 | []=>some []
 | t::ts=>match decN t,E2y ts with
  | some x,some xs=>some (x::xs)
  | _,_=>none
def decI:T->Option (List Int)
 | .v (.slice none 0 0)=>some []
 | .sl n cs=>if n=cs.length then E2y cs else none
 | _=>none
theorem F6e {t:T} {x:Int} (h:decN t=some x):t=iv x:=by
 unfold decN at h
 split at h
 ·injection h with h;subst h;rfl
 ·cases h
theorem D2s:∀{ts:List T} {xs:List Int},E2y ts=some xs->ts=xs.map iv
 | [],xs,h=>by simp only[E2y,Option.some.injEq]at h;simp[<-h]
 | t::ts,xs,h=>by
  simp only[E2y]at h
  split at h
  ·rename_i x xs' hx hxs
   injection h with h;subst h
   simp[F6e hx,D2s hxs]
  ·cases h
theorem D9b:∀(xs:List Int),E2y (xs.map iv)=some xs
 | []=>rfl
 | x::xs=>by
  have:decN (iv x)=some x:=rfl
  simp only[List.map_cons,E2y,this,D9b xs]
theorem D2t {t:T} {l:List Int} (h:decI t=some l):(t = .v (.slice none 0 0)/\l=[])\/t = .sl l.length (l.map iv):=by
 unfold decI at h
 split at h
 ·injection h with h;exact .inl ⟨rfl,h.symm⟩
 ·rename_i n cs
  split at h
  ·rename_i hn
   have:=D2s h
   subst this
   right
   simp at hn
   rw[hn]
  ·cases h
 ·cases h
theorem G7o (l:List Int):decI (.sl l.length (l.map iv))=some l:=by simp[decI,D9b]
theorem C5q {t:T} {l:List Int} (h:decI t=some l):B0r (.t t)=some (.t (.v (.int .i64 (l.length:Int)))):=by
 rcases D2t h with⟨rfl,rfl⟩ | rfl<;>rfl
theorem C2q {t:T} {l:List Int} (h:decI t=some l) (k:IntKind) (i:Nat) (h1:i<l.length):A1q 1 (.t t) (.t (.v (.int k (i:Int))))=some (.t (.pt ((l.map iv).drop i))):=by
 rcases D2t h with⟨rfl,rfl⟩ | rfl
 ·simp at h1
 ·simp only[A1q]
  rw[if_pos ⟨by omega,by omega⟩]
  simp
theorem C2r {l:List Int} {i:Nat} {x:Int} (H:Heap) (h:l[i]?=some x):A0f false 1 H (.t (.pt ((l.map iv).drop i)))=some (.t (.v (.int .i64 x))):=by
 simp[A0f,h,iv]
def inR (n:Int):Bool:=decide (0<=n)&&decide (n<=4095)
def setB (ws:List W) (n:Nat):List W:=ws.set (n / 64) (wd ws (n / 64)|||BitVec.twoPow 64 (n%64))
def fill (N:Nat) (l:List Int) (j:Nat):List W:=(l.take j).foldl (fun ws n=>setB ws n.toNat) (List.replicate N 0)
theorem C7p {N:Nat} {l:List Int} {j:Nat} {x:Int} (h:l[j]?=some x):fill N l (j+1)=setB (fill N l j) x.toNat:=by
 unfold fill
 rw[List.take_add_one,h]
 simp[List.foldl_append]
theorem E2z (ws:List W) (n:Nat):(setB ws n).length=ws.length:=by simp[setB]
theorem A8x (N:Nat) (l:List Int):∀j,(fill N l j).length=N
 | 0=>by simp[fill]
 | j+1=>by
  have ih:=A8x N l j
  cases hj:l[j]? with
  | none=>
   have:fill N l (j+1)=fill N l j:=by unfold fill;rw[List.take_add_one,hj];simp
   rw[this];exact ih
  | some x=>rw[C7p hj,E2z,ih]
theorem G2p (ws:List W) (n i:Nat) (h:n / 64<ws.length):hasL (setB ws n) i=(hasL ws i||decide (i=n)):=by
 unfold hasL setB
 have e:wd (ws.set (n / 64) (wd ws (n / 64)|||BitVec.twoPow 64 (n%64))) (i / 64)=if n / 64=i / 64 then wd ws (n / 64)|||BitVec.twoPow 64 (n%64)else wd ws (i / 64):=by
  by_cases hi:n / 64=i / 64
  ·rw[if_pos hi,<-hi];simp[wd,h]
  ·rw[if_neg hi];simp[wd,List.getElem?_set_ne hi]
 rw[e]
 by_cases hi:n / 64=i / 64
 ·rw[if_pos hi,BitVec.getLsbD_or,BitVec.getLsbD_twoPow,hi]
  congr 1
  have h1:i%64<64:=Nat.mod_lt _ (by omega)
  by_cases hn:n%64=i%64
  ·have:i=n:=by omega
   subst this;simp[h1]
  ·have:¬i=n:=fun e=>hn (by rw[e])
   simp[hn,this]
 ·rw[if_neg hi]
  have:¬i=n:=fun e=>hi (by rw[e])
  simp[this]
theorem E6x (N:Nat) (l:List Int) (hl:∀n∈l,0<=n/\n.toNat / 64<N):∀j i,hasL (fill N l j) i=(l.take j).any (fun n=>decide (n=(i:Int)))
 | 0,i=>by simp[fill,hasL,wd,List.getElem?_replicate];split<;>simp
 | j+1,i=>by
  have ih:=E6x N l hl j i
  cases hj:l[j]? with
  | none=>
   have:fill N l (j+1)=fill N l j:=by unfold fill;rw[List.take_add_one,hj];simp
   rw[this,ih,List.take_add_one,hj];simp
  | some x=>
   obtain⟨h0,h1⟩:=hl x (List.mem_of_getElem? hj)
   rw[C7p hj,G2p _ _ _ (by rw[A8x];exact h1),ih,List.take_add_one,hj,List.any_append]
   congr 1
   simp only[Option.toList_some,List.any_cons,List.any_nil,Bool.or_false]
   congr 1
   apply propext
   omega
theorem G2q (l:List W) (i:Nat) (h:i<l.length) (ty b:Nat):A0f false 1 [(b,.cells ty (l.map tw))] (.ptr b i)=some (.t (uv (wd l i))):=by
 have hx:l[i]?=some (wd l i):=by simp[wd,h]
 simp[A0f,hx,tw]
theorem G7p {Φ:A1c} {H:Heap} {nx:Nat} (isB:Bool) (nk:Option NK) (k:IntKind) (r:Nat) (hr:r<64):A0m Φ H nx (.bin isB .shl nk) [.t (.v (.int .u64 1)),.t (.v (.int k (r:Int)))]=some (.t (uv (BitVec.twoPow 64 r)),H,nx):=by
 have hn:¬(r:Int)<0:=by omega
 rw[evalK_shl _ _ _ _ _ _ hn]
 have e:IntKind.u64.wrap (1*2^min (r:Int).toNat IntKind.u64.bits)=((BitVec.twoPow 64 r:W).toNat:Int):=by
  rw[Int.toNat_natCast,kbits_u64,Nat.min_eq_left (by omega),BitVec.toNat_twoPow]
  have h1:2^r<2^64:=Nat.pow_lt_pow_right (by omega) hr
  rw[Nat.mod_eq_of_lt h1,Int.one_mul,C5n (by exact Int.pow_nonneg (by omega))]
  ·simp
  ·have:((2^r:Nat):Int)<((2^64:Nat):Int):=by exact_mod_cast h1
   simpa using this
 rw[e];rfl
theorem ofBad:∀(l:List Int),(∀n∈l,inR n=true)\/∃(k:Nat) (x:Int),l[k]?=some x/\inR x=false/\∀(j:Nat),j<k->∀y,l[j]?=some y->inR y=true:=fun l=>by
 rcases first_bad (fun i=>(l[i]?).all inR) l.length with h | ⟨k,hk,h1,h2⟩
 ·left
  intro n hn
  obtain⟨i,hi,e⟩:=List.getElem_of_mem hn
  have:=h i hi
  rw[List.getElem?_eq_getElem hi,e]at this
  simpa using this
 ·right
  refine⟨k,l[k],List.getElem?_eq_getElem hk,?_,fun j hj y hy=>?_⟩
  ·rw[List.getElem?_eq_getElem hk]at h2
   simpa using h2
  ·have:=h1 j hj
   rw[hy]at this
   simpa using this
def S10 (t:T) (l:List Int) (j:Nat):A0b:=⟨[(5,.t (iv j)),(4,.row 0 0 64 1),(0,.t t)],[(0,.cells 142 ((fill 64 l j).map tw))],1,50⟩
theorem D9c {t:T} {l:List Int} (ht:decI t=some l) (hl:l.length<=1000000) {j:Nat} {y:Int} (hy:l[j]?=some y) (hr:inR y=true) {Q:Exit->A0b->Prop} :
  MC Try.prog G 0 50 (.seq (.seq (.ops [⟨(some 7),.mv,[(.tmp 5)],none⟩,⟨(some 8),.mv,[(.tmp 0)],none⟩,⟨(some 9),.lensl,[(.tmp 8)],none⟩,⟨(some 10),(.bin false .lss none),[(.tmp 7),(.tmp 9)],none⟩]) (.cond (.tmp 10) .skip (.exit 0))) (.seq (.block 1 (.seq (.seq (.ops [⟨(some 13),.mv,[(.tmp 0)],none⟩,⟨(some 14),.mv,[(.tmp 5)],none⟩,⟨(some 15),(.iaddr 1),[(.tmp 13),(.tmp 14)],none⟩,⟨(some 16),(.load false 1),[(.tmp 15)],none⟩,⟨(some 17),(.bin false .lss none),[(.tmp 16),(.k (.t (.v (.int .i64 0))))],none⟩,⟨(some 18),.mv,[(.tmp 17)],none⟩,⟨(some 19),.mv,[(.tmp 0)],(some (18,false))⟩,⟨(some 20),.mv,[(.tmp 5)],(some (18,false))⟩,⟨(some 21),(.iaddr 1),[(.tmp 19),(.tmp 20)],(some (18,false))⟩,⟨(some 22),(.load false 1),[(.tmp 21)],(some (18,false))⟩,⟨(some 23),(.bin false .gtr none),[(.tmp 22),(.k (.t (.v (.int .i64 4095))))],(some (18,false))⟩,⟨(some 24),.pick,[(.tmp 18),(.k (.t (.v (.bool true)))),(.tmp 23)],none⟩]) (.cond (.tmp 24) (.seq (.ops [⟨(some 2),.mv,[(.k (.t (.v (.slice none 0 0))))],none⟩,⟨(some 3),.mv,[(.k (.t (.v (.int .i64 2))))],none⟩]) .ret) .skip)) (.draw [⟨(some 25),.mv,[(.tmp 4)],none⟩,⟨(some 26),.mv,[(.tmp 0)],none⟩,⟨(some 27),.mv,[(.tmp 5)],none⟩,⟨(some 28),(.iaddr 1),[(.tmp 26),(.tmp 27)],none⟩,⟨(some 29),(.load false 1),[(.tmp 28)],none⟩,⟨(some 30),(.bin false .quo none),[(.tmp 29),(.k (.t (.v (.int .i64 64))))],none⟩,⟨(some 31),.mv,[(.tmp 4)],none⟩,⟨(some 32),.mv,[(.tmp 0)],none⟩,⟨(some 33),.mv,[(.tmp 5)],none⟩,⟨(some 34),(.iaddr 1),[(.tmp 32),(.tmp 33)],none⟩,⟨(some 35),(.load false 1),[(.tmp 34)],none⟩,⟨(some 36),(.bin false .quo none),[(.tmp 35),(.k (.t (.v (.int .i64 64))))],none⟩,⟨(some 37),(.iaddr 1),[(.tmp 31),(.tmp 36)],none⟩,⟨(some 38),(.load false 1),[(.tmp 37)],none⟩,⟨(some 39),.mv,[(.tmp 0)],none⟩,⟨(some 40),.mv,[(.tmp 5)],none⟩,⟨(some 41),(.iaddr 1),[(.tmp 39),(.tmp 40)],none⟩,⟨(some 42),(.load false 1),[(.tmp 41)],none⟩,⟨(some 43),(.bin false .rem none),[(.tmp 42),(.k (.t (.v (.int .i64 64))))],none⟩,⟨(some 44),(.conv (some .u64)),[(.tmp 43)],none⟩,⟨(some 45),(.bin false .shl none),[(.k (.t (.v (.int .u64 1)))),(.tmp 44)],none⟩,⟨(some 46),(.bin false .or none),[(.tmp 38),(.tmp 45)],none⟩,⟨(some 47),(.iaddr 1),[(.tmp 25),(.tmp 30)],none⟩,⟨none,(.store 1),[(.tmp 47),(.tmp 46)],none⟩]))) (.ops [⟨(some 11),.mv,[(.tmp 5)],none⟩,⟨(some 12),(.bin false .add none),[(.tmp 11),(.k (.t (.v (.int .i64 1))))],none⟩,⟨(some 5),.mv,[(.tmp 12)],none⟩])))
   (C6j Try.prog G 0 (S10 t l (j+1)) Q) (S10 t l j):=by
 have hjl:j<l.length:=(List.getElem?_eq_some_iff.1 hy).1
 refine A0d ctx2 ?_
 simp only[inR,Bool.and_eq_true,decide_eq_true_eq]at hr
 obtain⟨m,rfl⟩:=Int.eq_ofNat_of_zero_le hr.1
 have r2:¬4095<(m:Int):=by omega
 have r0:¬(m:Int)<0:=by omega
 obtain⟨q,hq⟩:∃q,q=m / 64:=⟨_,rfl⟩
 obtain⟨r,hr⟩:∃r,r=m%64:=⟨_,rfl⟩
 have q1:IntKind.i64.wrap ((m:Int) / 64)=(q:Int):=by rw[A8h (by omega) (by omega)];omega
 have r1:(m:Int).tmod 64=(r:Int):=by rw[Int.tmod_eq_emod_of_nonneg (by omega)];omega
 have r3:IntKind.u64.wrap (r:Int)=(r:Int):=C5n (by omega) (by omega)
 have qN:q<64:=by omega
 have qN':(q:Int)<64:=by omega
 have e1:IntKind.i64.wrap ((j:Int)+1)=((j+1:Nat):Int):=A0l (by omega) (by omega)
 have fs:=C7p (N:=64) hy
 simp only[Int.toNat_natCast,setB,<-hq,<-hr]at fs
 have lf:=A8x 64 l j
 have ld:=G2q (fill 64 l j) q (by rw[lf];exact qN) 142 0
 have st:=fun x=>E6m (fill 64 l j) q x (by rw[lf];exact qN) 142 0
 have sh:A0m (orc tb2) [(0,Row.cells 142 ((fill 64 l j).map tw))] 1 (.bin false .shl none) [.t (.v (.int .u64 1)),.t (.v (.int .u64 (r:Int)))]=some (.t (uv (BitVec.twoPow 64 r)),[(0,Row.cells 142 ((fill 64 l j).map tw))],1):=G7p _ _ _ r (by omega)
 have ir:A1q 1 (.row 0 0 64 1) (.t (.v (.int .i64 (q:Int))))=some (.ptr 0 q):=by simp[A1q,qN']
 simp -implicitDefEqProofs [-evalK_shl,S10,iv,hjl,C5q ht,C2q ht _ j hjl,C2r _ hy,r0,r2,q1,r1,r3,qN,qN',ld,st,sh,ir,e1]
 refine A0c rfl rfl ?_ ?_<;>simp -implicitDefEqProofs [fs]
theorem G7q {t:T} {l:List Int} (ht:decI t=some l) (hl:l.length<=1000000) {k:Nat} {x:Int} (hk:l[k]?=some x) (hb:inR x=false) (hg:∀(j:Nat),j<k->∀y,l[j]?=some y->inR y=true) :
  A0y Try.prog G 128 [t] (· = .tu [.v (.slice none 0 0),.v (.int .i64 2)]):=by
 have hkl:k<l.length:=(List.getElem?_eq_some_iff.1 hk).1
 refine D4j.call rfl ?_
 unfold C5o
 refine A0a ctx2 ?_
 simp -implicitDefEqProofs
 refine A0a ctx2 ?_
 simp -implicitDefEqProofs [B9p,D4m]
 refine A0s (fun _:Unit=>S10 t l l.length) (fun _=>False) (fun _=>rfl) ?_ ?_
 ·refine A0a ctx2 ?_
  simp -implicitDefEqProofs
  refine A0h ?_
  refine A1b (S10 t l) k (fun _=>rfl) ?_ rfl ?_ ?_
  ·refine A0c rfl rfl ?_ ?_<;>simp -implicitDefEqProofs [S10,iv,fill,tw]
  ·intro j hj
   obtain⟨y,hy⟩:∃y,l[j]?=some y:=⟨_,List.getElem?_eq_getElem (by omega)⟩
   exact D9c ht hl hy (hg j hj y hy)
  ·refine A0d ctx2 ?_
   by_cases r1:x<0
   ·simp -implicitDefEqProofs [S10,iv,hkl,C5q ht,C2q ht _ k hkl,C2r _ hk,r1]
   ·have r2:4095<x:=by
     simp only[inR,Bool.and_eq_false_iff,decide_eq_false_iff_not]at hb
     omega
    simp -implicitDefEqProofs [S10,iv,hkl,C5q ht,C2q ht _ k hkl,C2r _ hk,r1,r2]
 ·rintro _ h
  exact h.elim
theorem G2r {t:T} {l:List Int} (ht:decI t=some l) (hl:l.length<=1000000) (hg:∀n∈l,inR n=true) :
  A0y Try.prog G 128 [t] (· = .tu [encB (A1x (fill 64 l l.length)),.v (.int .i64 0)]):=by
 refine D4j.call rfl ?_
 unfold C5o
 refine A0a ctx2 ?_
 simp -implicitDefEqProofs
 refine A0a ctx2 ?_
 simp -implicitDefEqProofs [B9p,D4m]
 refine A0s (fun _:Unit=>S10 t l l.length) (fun _=>True) (fun _=>rfl) ?_ ?_
 ·refine A0a ctx2 ?_
  simp -implicitDefEqProofs
  refine A0h ?_
  refine A1b (S10 t l) l.length (fun _=>rfl) ?_ rfl ?_ ?_
  ·refine A0c rfl rfl ?_ ?_<;>simp -implicitDefEqProofs [S10,iv,fill,tw]
  ·intro j hj
   obtain⟨y,hy⟩:∃y,l[j]?=some y:=⟨_,List.getElem?_eq_getElem (by omega)⟩
   exact D9c ht hl hy (hg y (List.mem_of_getElem? hy))
  ·refine A0d ctx2 ?_
   simp -implicitDefEqProofs [S10,iv,C5q ht]
   exact Next.mk () trivial (A0c rfl rfl (by simp -implicitDefEqProofs) (by simp -implicitDefEqProofs))
 ·rintro _ -
  refine A0d ctx2 ?_
  have lf:=A8x 64 l l.length
  have gn:=F5p (fill 64 l l.length) 64 lf.symm (by omega)
  have tk:List.take 64 ((fill 64 l l.length).map tw)=(fill 64 l l.length).map tw:=List.take_of_length_le (by simp[lf])
  simp -implicitDefEqProofs [S10,lf,E2n,gn,tb2,tk]
def ofT (l:List Int):T:=if l.all inR then .tu [encB (A1x (fill 64 l l.length)),.v (.int .i64 0)]else .tu [.v (.slice none 0 0),.v (.int .i64 2)]
theorem G2s {t:T} {l:List Int} (ht:decI t=some l) (hl:l.length<=1000000):A0y Try.prog G 128 [t] (· = ofT l):=by
 unfold ofT
 rcases ofBad l with h | ⟨k,x,hk,hx,hg⟩
 ·rw[if_pos (List.all_eq_true.2 h)]
  exact G2r ht hl h
 ·have:¬l.all inR=true:=fun h=>by
   rw[List.all_eq_true.1 h x (List.mem_of_getElem? hk)]at hx;cases hx
  rw[if_neg this]
  exact G7q ht hl hk hx hg
def gI (f:List Int->T):List T->Option T
 | [a]=>match decI a with
  | some l=>if l.length<=1000000 then some (f l)else none
  | none=>none
 | _=>none
theorem gI_ok {F:Nat} {f:List Int->T} (h:∀{a:T} {l:List Int},decI a=some l->l.length<=1000000->A0y Try.prog G F [a] (· = f l)):GOK Try.prog G F (gI f):=by
 intro args r e
 unfold gI at e
 split at e
 ·split at e
  ·rename_i l ha
   split at e
   ·rename_i hl
    injection e with e;subst e
    exact h ha hl
   ·cases e
  ·cases e
 ·cases e
theorem gI_eq {f:List Int->T} {a:T} {l:List Int} (ha:decI a=some l) (hl:l.length<=1000000):gI f [a]=some (f l):=by
 simp[gI,ha,hl]
end Go.Proofs.Ytbiadmfmjnoecaa
