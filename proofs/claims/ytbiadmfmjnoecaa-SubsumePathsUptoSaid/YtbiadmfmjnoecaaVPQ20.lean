/-
 Auxiliary facts. No statement of the program stands here.
-/
import Derived.Test.YtbiadmfmjnoecaaVPQ18
import Derived.Test.YtbiadmfmjnoecaaVPQ19
namespace Go.Proofs.Ytbiadmfmjnoecaa
set_option linter.unusedSimpArgs false
set_option linter.unusedVariables false
open Go Go.Abs
def eqc (x:W) (n:Int):Bool:=(x.toNat:Int)==n
def nec (x:W) (n:Int):Bool:=(x.toNat:Int) != n
section
variable {Φ : A1f} {H : Heap} {nx : Nat}
@[simp] theorem uv_eqlc (isB:Bool) (nk:Option NK) (x:W) (n:Int):A0m Φ H nx (.bin isB .eql nk) [.t (uv x),.t (.v (.int .u64 n))]=some (.t (.v (.bool (eqc x n))),H,nx):=by
 simp only[uv,evalK_eql];rfl
@[simp] theorem uv_neqc (isB:Bool) (nk:Option NK) (x:W) (n:Int):A0m Φ H nx (.bin isB .neq nk) [.t (uv x),.t (.v (.int .u64 n))]=some (.t (.v (.bool (nec x n))),H,nx):=by
 simp only[uv,evalK_neq];rfl
@[simp] theorem uv_andc (isB:Bool) (nk:Option NK) (x:W) (n:Int):A0m Φ H nx (.bin isB .and nk) [.t (uv x),.t (.v (.int .u64 n))]=some (.t (uv (x&&&BitVec.ofInt 64 n)),H,nx):=by
 simp only[uv,evalK_and,kbits_u64,A7q,A9k];rfl
theorem G1l (isB:Bool) (nk:Option NK) (x:W) (k:IntKind) (r:Nat) (hr:r<=64):A0m Φ H nx (.bin isB .shr nk) [.t (uv x),.t (.v (.int k (r:Int)))]=some (.t (uv (x>>>r)),H,nx):=by
 have:((x.toNat:Int)).fdiv (2^min (r:Int).toNat 64)=(((x>>>r:W)).toNat:Int):=by
  rw[Int.toNat_natCast,Nat.min_eq_left hr,BitVec.toNat_ushiftRight,Nat.shiftRight_eq_div_pow]
  rw[Int.fdiv_eq_ediv_of_nonneg _ (by exact Int.pow_nonneg (by omega))]
  simp
 have hn:¬(r:Int)<0:=by omega
 simp[uv,A0m,hn]
 rw[show((x.toNat:Int)).fdiv (2^min r 64)=(((x>>>r:W)).toNat:Int)by simpa using this]
 simp
end
theorem F8v (w:W) (r:Nat):eqc (w>>>r&&&1#64) 1=w.getLsbD r:=by
 have h:(w>>>r&&&1#64).toNat=(w.getLsbD r).toNat:=by
  rw[BitVec.toNat_and,BitVec.toNat_ushiftRight]
  have e:(1#64).toNat=1:=rfl
  rw[e,Nat.and_one_is_mod]
  simp only[BitVec.getLsbD,Nat.testBit,Nat.one_and_eq_mod_two]
  rcases Nat.mod_two_eq_zero_or_one (w.toNat>>>r)with h | h<;>rw[h]<;>rfl
 unfold eqc
 rw[h]
 cases w.getLsbD r<;>rfl
def hasL (l:List W) (n:Nat):Bool:=(wd l (n / 64)).getLsbD (n%64)
theorem C4s {b:T} {l:List W} (hb:decB b=some l) (n:Nat) (hn:n<=9223372036854775807):A0y Try.prog G 131 [b,.v (.int .i64 (n:Int))] (· = .v (.bool (hasL l n))):=by
 obtain⟨q,hq⟩:∃q,q=n / 64:=⟨_,rfl⟩
 obtain⟨r,hr⟩:∃r,r=n%64:=⟨_,rfl⟩
 have q1:IntKind.i64.wrap ((n:Int) / 64)=(q:Int):=by rw[A8f (by omega) (by omega)];omega
 have r1:(n:Int).tmod 64=(r:Int):=by rw[Int.tmod_eq_emod_of_nonneg (by omega)];omega
 have r2:IntKind.u64.wrap (r:Int)=(r:Int):=C2y (by omega) (by omega)
 have n0:¬(n:Int)<0:=by omega
 refine C3x.runs ctx0 rfl ?_
 unfold hasL
 rw[<-hq,<-hr]
 by_cases h:q<l.length
 ·have h':¬l.length<=q:=by omega
  have x1:l[q]?=some (wd l q):=by simp[wd,h]
  simp -implicitDefEqProofs [B2d,q1,r1,r2,n0,A1y hb,h,h',A2c hb,A2h _ x1,G1l _ _ _ _ r (by omega),F8v]
 ·have h':l.length<=q:=by omega
  have hw:wd l q=0#64:=D4p h'
  simp -implicitDefEqProofs [B2d,q1,r1,r2,n0,A1y hb,h,h',hw]
theorem D1j {b:T} {i:Int} (hi:i<0):A0y Try.prog G 131 [b,.v (.int .i64 i)] (· = .v (.bool false)):=by
 refine C3x.runs ctx0 rfl ?_
 simp -implicitDefEqProofs [B2d,hi]
def gHas:List T->Option T
 | [t,.v (.int .i64 i)]=>match decB t with
  | some l=>if i<0 then some (.v (.bool false))else if i<=9223372036854775807 then some (.v (.bool (hasL l i.toNat)))else none
  | none=>none
 | _=>none
theorem E1s {t:T} {l:List W} (h:decB t=some l) (n:Nat) (hn:n<=9223372036854775807):gHas [t,.v (.int .i64 (n:Int))]=some (.v (.bool (hasL l n))):=by
 have h0:¬(n:Int)<0:=by omega
 have h1:(n:Int)<=9223372036854775807:=by omega
 simp[gHas,h,h0,h1]
theorem D8h {F:Nat} (h1:∀{b:T} {l:List W},decB b=some l->∀(n:Nat),n<=9223372036854775807->A0y Try.prog G F [b,.v (.int .i64 (n:Int))] (· = .v (.bool (hasL l n))))
  (h2:∀{b:T} {i:Int},i<0->A0y Try.prog G F [b,.v (.int .i64 i)] (· = .v (.bool false))):GOK Try.prog G F gHas:=by
 intro args r h
 unfold gHas at h
 split at h
 ·split at h
  ·rename_i t i _ l hl
   split at h
   ·rename_i h0
    injection h with h;subst h
    exact h2 h0
   ·split at h
    ·rename_i h0 h3
     injection h with h;subst h
     obtain⟨n,rfl⟩:=Int.eq_ofNat_of_zero_le (show 0<=i by omega)
     exact h1 hl n (by omega)
    ·cases h
  ·cases h
 ·cases h
def subL (l m:List W):Bool:=(A1z (D4h l m)).length==0
theorem E9p (l:List W):(A1z l).length=0 ↔ ∀i,wd l i=0:=by
 constructor
 ·intro h i
  have:A1z l=[]:=List.eq_nil_of_length_eq_zero h
  rw[<-C3a,this];rfl
 ·intro h
  have:A1z l=A1z []:=D4q fun i=>(h i).trans rfl
  rw[this];rfl
theorem C3b (l m:List W):subL l m=true ↔ ∀i,wd l i &&& ~~~ wd m i=0:=by
 unfold subL
 rw[beq_iff_eq,E9p]
 constructor
 ·intro h i;rw[<-D4r];exact h i
 ·intro h i;rw[D4r];exact h i
def S23 (a b:T) (n j:Nat):A0b:=⟨[(9,.t (.v (.int .i64 (j:Int)))),(8,.t (.v (.int .i64 (n:Int)))),(7,.t a),(1,.t b),(0,.t a)],[],0,21⟩
theorem D1k (x:W):nec x 0 = !(x==0):=by
 unfold nec
 by_cases h:x=0
 ·subst h;rfl
 ·have h1:(x==0)=false:=by simpa using h
  rw[h1]
  simp only[Bool.not_false,bne_iff_ne]
  exact fun e=>h (BitVec.eq_of_toNat_eq (by simpa using e))
theorem first_bad (p:Nat->Bool):∀n,(∀i,i<n->p i=true)\/∃k,k<n/\(∀i,i<k->p i=true)/\p k=false
 | 0=>.inl fun i hi=>by omega
 | n+1=>by
  rcases first_bad p n with h | ⟨k,h1,h2⟩
  ·cases hn:p n with
   | true=>
    refine .inl fun i hi=>?_
    by_cases e:i=n
    ·subst e;exact hn
    ·exact h i (by omega)
   | false=>exact .inr ⟨n,by omega,h,hn⟩
  ·exact .inr ⟨k,by omega,h2⟩
theorem F4u {a b:T} {l m:List W} (ha:decB a=some l) (hb:decB b=some m) (hl:l.length<=1000) (hm:m.length<=1000):A0y Try.prog G 71 [a,b] (· = .v (.bool (subL l m))):=by
 refine B8c.call rfl ?_
 unfold B0j
 refine A0a ctx1 ?_
 simp -implicitDefEqProofs
 rcases first_bad (fun i=>wd l i &&& ~~~ wd m i==0) l.length with h | ⟨k,hk,hsame,hdiff⟩
 ·have hs:subL l m=true:=(C3b l m).2 fun i=>by
   by_cases hi:i<l.length
   ·simpa using h i hi
   ·rw[D4p (l:=l) (by omega)];simp
  rw[hs]
  refine A0q (fun _:Unit=>S23 a b l.length l.length) (fun _=>True) (fun _=>rfl) ?_ ?_
  ·refine A0a ctx1 ?_
   simp -implicitDefEqProofs [A1y ha]
   refine A0g ?_
   refine A1a (S23 a b l.length) l.length (fun _=>rfl) ?_ rfl ?_ ?_
   ·refine A0d rfl rfl ?_ ?_<;>simp -implicitDefEqProofs [S23]
   ·intro j hj
    refine A0c ctx1 ?_
    have x1:l[j]?=some (wd l j):=by simp[wd,hj]
    have w2:=B0o hb j
    have hz:wd l j &&& ~~~ wd m j=0#64:=by simpa using h j hj
    have e1:IntKind.i64.wrap ((j:Int)+1)=((j+1:Nat):Int):=A0k (by omega) (by omega)
    simp -implicitDefEqProofs [S23,hj,A2c ha,A2h _ x1,w2,tb1,hz,D1k,e1]
    refine A0d rfl rfl ?_ ?_<;>simp -implicitDefEqProofs
   ·refine A0c ctx1 ?_
    simp -implicitDefEqProofs [S23]
    exact Next.mk () trivial (A0d rfl rfl (by simp -implicitDefEqProofs) (by simp -implicitDefEqProofs))
  ·rintro _ -
   refine A0c ctx1 ?_
   simp -implicitDefEqProofs [S23]
 ·have hs:subL l m=false:=by
   cases hh:subL l m with
   | false=>rfl
   | true=>exact absurd ((C3b l m).1 hh k) (by simpa using hdiff)
  rw[hs]
  refine A0q (fun _:Unit=>S23 a b l.length l.length) (fun _=>False) (fun _=>rfl) ?_ ?_
  ·refine A0a ctx1 ?_
   simp -implicitDefEqProofs [A1y ha]
   refine A0g ?_
   refine A1a (S23 a b l.length) k (fun _=>rfl) ?_ rfl ?_ ?_
   ·refine A0d rfl rfl ?_ ?_<;>simp -implicitDefEqProofs [S23]
   ·intro j hj
    refine A0c ctx1 ?_
    have hjl:j<l.length:=by omega
    have x1:l[j]?=some (wd l j):=by simp[wd,hjl]
    have w2:=B0o hb j
    have hz:wd l j &&& ~~~ wd m j=0#64:=by simpa using hsame j hj
    have e1:IntKind.i64.wrap ((j:Int)+1)=((j+1:Nat):Int):=A0k (by omega) (by omega)
    simp -implicitDefEqProofs [S23,hjl,A2c ha,A2h _ x1,w2,tb1,hz,D1k,e1]
    refine A0d rfl rfl ?_ ?_<;>simp -implicitDefEqProofs
   ·refine A0c ctx1 ?_
    have x1:l[k]?=some (wd l k):=by simp[wd,hk]
    have w2:=B0o hb k
    have hz:(wd l k &&& ~~~ wd m k==0#64)=false:=hdiff
    simp -implicitDefEqProofs [S23,hk,A2c ha,A2h _ x1,w2,tb1,D1k,hz]
  ·rintro _ h
   exact h.elim
def fSub (l m:List W):T:=.v (.bool (subL l m))
def fEq (l m:List W):T:=.v (.bool (subL l m&&subL m l))
section
variable {Φ : A1f} {H : Heap} {nx : Nat}
theorem C7n (x y:W):IntKind.u64.wrap ((x.toNat:Int)+(y.toNat:Int))=((x+y:W).toNat:Int):=by
 unfold IntKind.wrap IntKind.bits IntKind.signed
 simp only[Bool.false_and,Bool.false_eq_true,if_false,BitVec.toNat_add]
 have e1:(2:Int)^64=18446744073709551616:=by decide
 have e2:(2:Nat)^64=18446744073709551616:=by decide
 rw[e1,e2]
 omega
@[simp] theorem uv_add (isB:Bool) (nk:Option NK) (x y:W):A0m Φ H nx (.bin isB .add nk) [.t (uv x),.t (uv y)]=some (.t (uv (x+y)),H,nx):=by
 simp only[uv,evalK_add,C7n]
@[simp] theorem uv_conv (x:W) (h:x.toNat<2^62):convM (some .i64) (.t (uv x))=some (.t (.v (.int .i64 (x.toNat:Int)))):=by
 have:IntKind.i64.wrap (x.toNat:Int)=(x.toNat:Int):=A8f (by omega) (by omega)
 simp only[uv,convM,this]
end
section
variable {α : Type}
def rowL:List α->PV
 | []=>.t (.v (.slice none 0 0))
 | _::r=>.row (2*r.length+1) 0 (r.length+1) 1
def B6m (ty:Nat) (e:α->T):List α->Heap
 | []=>[]
 | x::r=>[(2*r.length+1,.cells ty ((x::r).map fun y=>.t (e y)))]
def E9q (e:α->T):List α->T
 | []=>.v (.slice none 0 0)
 | x::r=>.sl (r.length+1) ((x::r).map e)
def G1m:List α->List Nat
 | []=>[]
 | _::r=>[2*r.length+1]
theorem app_L (ty:Nat) (e:α->T) (l:List α) (x:α) (h:l.length<=1000000) :
  appM ty 1 8 ((2*l.length,.cells ty [.t (e x)])::B6m ty e l) (2*l.length+1) (rowL l) (.row (2*l.length) 0 1 1)
   = some (rowL (l++[x]),B6m ty e (l++[x])++[(2*l.length,.cells ty [.t (e x)])],2*(l++[x]).length):=by
 cases l with
 | nil=>simp[appM,srcP,B6m,rowL]
 | cons y r=>
  simp only[List.length_cons]at h
  have b1:(r.length+1+1)*8<=140737488355328:=by omega
  have b2:r.length+1+1<=9223372036854775807:=by omega
  have e1:2*(r.length+1)=2*r.length+2:=by omega
  simp[appM,srcP,B6m,rowL,b1,b2,e1]
  omega
theorem toT_L (ty:Nat) (e:α->T) (l:List α):toT (B6m ty e l) (rowL l)=some (E9q e l,G1m l):=by
 cases l with
 | nil=>rfl
 | cons x r=>
  have h1:allT (List.map (fun y=>PV.t (e y)) r)=some (r.map e):=by rw[<-allT_map_t,List.map_map];rfl
  have tk:List.take (r.length+1) ((x::r).map fun y=>PV.t (e y))=(x::r).map fun y=>.t (e y):=List.take_of_length_le (by simp)
  simp only[B6m,rowL,toT,look_cons,if_true,List.drop_zero,Nat.mul_one,tk,Nat.zero_add]
  simp[E9q,G1m,h1]
theorem C9n (ty:Nat) (e:α->T) (l:List α) (H:Heap):∀q∈B6m ty e l,Abs.look (B6m ty e l++H) q.1=some q.2:=by
 cases l with
 | nil=>intro q h;simp[B6m]at h
 | cons x r=>
  intro q h
  simp only[B6m,List.mem_singleton]at h
  subst h
  simp[B6m]
theorem C4t (ty:Nat) (e:α->T) (l:List α):∀q∈B6m ty e l,Abs.look (B6m ty e l) q.1=some q.2:=by
 have:=C9n ty e l []
 simpa using this
end
def B6n (l:List W) (n:Nat):Nat:=((l.take n).map fun x=>popc x.toNat).sum
def cnt (l:List W):Nat:=(l.map fun x=>popc x.toNat).sum
theorem D4s {l:List W} {n:Nat} {x:W} (h:l[n]?=some x):B6n l (n+1)=B6n l n+popc x.toNat:=by
 unfold B6n
 rw[List.take_add_one,h]
 simp
theorem D8i (l:List W):B6n l l.length=cnt l:=by simp[B6n,cnt]
def onesT (x:W):T:=iv (popc x.toNat)
def gOnes:List T->Option T
 | [t]=>(decU t).map onesT
 | _=>none
def els (l:List W) (n:Nat):List Int:=((List.range n).filter (hasL l)).map Int.ofNat
theorem E1t (l:List W) (n:Nat):els l (n+1)=els l n++(if hasL l n then [(n:Int)]else []):=by
 unfold els
 rw[List.range_succ,List.filter_append,List.map_append]
 cases h:hasL l n<;>simp[h]
theorem F8w (l:List W) (n:Nat):(els l n).length<=n:=by
 unfold els
 rw[List.length_map]
 exact Nat.le_trans (List.length_filter_le _ _) (by simp)
def tb7:Tbl:=[(131,gHas)]
theorem ctx7:Ctx Try.prog G (orc tb7):=(A1q.cons (D8h C4s D1j) A1q.nil).ctx A1w
def S14 (t:T) (l:List W) (j:Nat):A0b:=⟨[(4,.t (iv j)),(3,rowL (els l j)),(0,.t t)],B6m 3 iv (els l j),2*(els l j).length,20⟩
theorem E4v {t:T} {l:List W} (ht:decB t=some l) (hl:l.length<=1000):A0y Try.prog G 141 [t] (· = E9q iv (els l (64*l.length))):=by
 refine C8w.call rfl ?_
 unfold B9y
 refine A0a ctx7 ?_
 simp -implicitDefEqProofs
 refine A0a ctx7 ?_
 simp -implicitDefEqProofs
 have em:IntKind.i64.wrap (64*(l.length:Int))=((64*l.length:Nat):Int):=A0k (by omega) (by omega)
 obtain⟨n,hn⟩:∃n,n=64*l.length:=⟨_,rfl⟩
 rw[<-hn]at em ⊢
 refine A0q (fun _:Unit=>S14 t l n) (fun _=>True) (fun _=>rfl) ?_ ?_
 ·refine A0a ctx7 ?_
  simp -implicitDefEqProofs
  refine A0g ?_
  refine A1a (S14 t l) n (fun _=>rfl) ?_ rfl ?_ ?_
  ·refine A0d rfl (by simp -implicitDefEqProofs [S14,els]) ?_ ?_<;>simp -implicitDefEqProofs [S14,iv,els,rowL,B6m]
  ·intro j hj
   refine A0c ctx7 ?_
   have e1:IntKind.i64.wrap ((j:Int)+1)=((j+1:Nat):Int):=A0k (by omega) (by omega)
   have h1:=E1s ht j (by omega)
   have hlen:=F8w l j
   have hs:=E1t l j
   by_cases hh:hasL l j=true
   ·rw[if_pos hh]at hs
    have ap:=app_L 3 iv (els l j) (j:Int) (by omega)
    rw[<-hs]at ap
    have fj:A4w (fun i=>some (i,1)) [.t (.v (.int .i64 0))] [(0,.t (.v (.int .i64 (j:Int))))]=some [.t (iv j)]:=rfl
    simp -implicitDefEqProofs [S14,iv,hj,A1y ht,em,h1,tb7,hh,A1l,A6s,fj,e1]
    simp -implicitDefEqProofs [iv]at ap
    simp -implicitDefEqProofs [ap]
    exact A0d rfl rfl (by simp -implicitDefEqProofs [e1]) (C9n _ _ _ _)
   ·have hh':hasL l j=false:=by simpa using hh
    rw[if_neg hh,List.append_nil]at hs
    simp -implicitDefEqProofs [S14,iv,hj,A1y ht,em,h1,tb7,hh',e1,hs]
    exact A0d rfl rfl (by simp -implicitDefEqProofs [e1]) (C4t _ _ _)
  ·refine A0c ctx7 ?_
   simp -implicitDefEqProofs [S14,iv,A1y ht,em]
   exact Next.mk () trivial (A0d rfl rfl (by simp -implicitDefEqProofs) (C4t _ _ _))
 ·rintro _ -
  refine A0c ctx7 ?_
  have tt:=toT_L 3 iv (els l n)
  simp -implicitDefEqProofs [S14,tt]
theorem D4t:∀(n x:Nat),(digs 2 n x).sum=((List.range n).filter fun i=>x.testBit i).length
 | 0,x=>rfl
 | n+1,x=>by
  rw[digs,List.sum_cons,D4t n (x / 2),List.range_succ_eq_map,List.filter_cons,List.filter_map]
  have e:((fun i=>x.testBit i)∘Nat.succ)=fun i=>(x / 2).testBit i:=by funext i;simp[Nat.testBit_succ]
  rw[e,Nat.testBit_zero]
  rcases Nat.mod_two_eq_zero_or_one x with h | h<;>simp[h]<;>omega
theorem E9r (x:W):popc x.toNat=((List.range 64).filter fun i=>x.getLsbD i).length:=D4t 64 x.toNat
theorem E1u (l:List W) (k:Nat):∀r,r<=64->(els l (64*k+r)).length=(els l (64*k)).length+((List.range r).filter fun i=>(wd l k).getLsbD i).length
 | 0,_=>by simp
 | r+1,h=>by
  have ih:=E1u l k r (by omega)
  have hh:hasL l (64*k+r)=(wd l k).getLsbD r:=by
   unfold hasL
   rw[show(64*k+r) / 64=k by omega,show(64*k+r)%64=r by omega]
  rw[<-Nat.add_assoc,E1t,List.length_append,ih,hh,List.range_succ,List.filter_append,List.length_append]
  cases h:(wd l k).getLsbD r<;>simp[h,Nat.add_assoc]
theorem E9s (l:List W):∀k,k<=l.length->(els l (64*k)).length=B6n l k
 | 0,_=>by simp[els,B6n]
 | k+1,h=>by
  have hx:l[k]?=some (wd l k):=by simp[wd,show k<l.length by omega]
  rw[D4s hx,<-E9s l k (by omega),E9r,show 64*(k+1)=64*k+64 by omega,E1u l k 64 (by omega)]
theorem F8x (l:List W):(els l (64*l.length)).length=cnt l:=by rw[E9s l l.length (Nat.le_refl _),D8i]
def gB1 (f:List W->T):List T->Option T
 | [a]=>match decB a with
  | some l=>if l.length<=1000 then some (f l)else none
  | none=>none
 | _=>none
theorem F7j {F:Nat} {f:List W->T} (h:∀{a:T} {l:List W},decB a=some l->l.length<=1000->A0y Try.prog G F [a] (· = f l)):GOK Try.prog G F (gB1 f):=by
 intro args r e
 unfold gB1 at e
 split at e
 ·split at e
  ·rename_i l ha
   split at e
   ·rename_i hl
    injection e with e;subst e
    exact h ha hl
   ·cases e
  ·cases e
 ·cases e
theorem E9t {f:List W->T} {a:T} {l:List W} (ha:decB a=some l) (hl:l.length<=1000):gB1 f [a]=some (f l):=by
 simp[gB1,ha,hl]
def fCnt (l:List W):T:=.v (.int .i64 (cnt l:Int))
def fEls (l:List W):T:=E9q iv (els l (64*l.length))
theorem E9u {α:Type} (e:α->T) (l:List α):B1y (.t (E9q e l))=some (.t (.v (.int .i64 (l.length:Int)))):=by
 cases l<;>rfl
theorem D8j {t:T} {l:List W} (ht:decB t=some l) (hl:l.length<=1000):A0y Try.prog G 133 [t] (· = fCnt l):=by
 have ok:A1q Try.prog G [(141,gB1 fEls)]:=.cons (F7j E4v) .nil
 refine C3z.runs (ok.ctx A1w) rfl ?_
 have e1:=E9t (f:=fEls) ht hl
 have e2:=E9u iv (els l (64*l.length))
 rw[F8x]at e2
 simp -implicitDefEqProofs [B6g,e1,fEls,e2,fCnt]
def decN:T->Option Int
 | .v (.int .i64 n)=>some n
 | _=>none
def D8k:List T->Option (List Int)
 | []=>some []
 | t::ts=>match decN t,D8k ts with
  | some x,some xs=>some (x::xs)
  | _,_=>none
def decI:T->Option (List Int)
 | .v (.slice none 0 0)=>some []
 | .sl n cs=>if n=cs.length then D8k cs else none
 | _=>none
theorem E9v {t:T} {x:Int} (h:decN t=some x):t=iv x:=by
 unfold decN at h
 split at h
 ·injection h with h;subst h;rfl
 ·cases h
theorem C9o:∀{ts:List T} {xs:List Int},D8k ts=some xs->ts=xs.map iv
 | [],xs,h=>by simp only[D8k,Option.some.injEq]at h;simp[<-h]
 | t::ts,xs,h=>by
  simp only[D8k]at h
  split at h
  ·rename_i x xs' hx hxs
   injection h with h;subst h
   simp[E9v hx,C9o hxs]
  ·cases h
theorem D4u:∀(xs:List Int),D8k (xs.map iv)=some xs
 | []=>rfl
 | x::xs=>by
  have:decN (iv x)=some x:=rfl
  simp only[List.map_cons,D8k,this,D4u xs]
theorem C9p {t:T} {l:List Int} (h:decI t=some l):(t = .v (.slice none 0 0)/\l=[])\/t = .sl l.length (l.map iv):=by
 unfold decI at h
 split at h
 ·injection h with h;exact .inl ⟨rfl,h.symm⟩
 ·rename_i n cs
  split at h
  ·rename_i hn
   have:=C9o h
   subst this
   right
   simp at hn
   rw[hn]
  ·cases h
 ·cases h
theorem F8y (l:List Int):decI (.sl l.length (l.map iv))=some l:=by simp[decI,D4u]
theorem C3c {t:T} {l:List Int} (h:decI t=some l):B1y (.t t)=some (.t (.v (.int .i64 (l.length:Int)))):=by
 rcases C9p h with⟨rfl,rfl⟩ | rfl<;>rfl
theorem C0l {t:T} {l:List Int} (h:decI t=some l) (k:IntKind) (i:Nat) (h1:i<l.length):A1k 1 (.t t) (.t (.v (.int k (i:Int))))=some (.t (.pt ((l.map iv).drop i))):=by
 rcases C9p h with⟨rfl,rfl⟩ | rfl
 ·simp at h1
 ·simp only[A1k]
  rw[if_pos ⟨by omega,by omega⟩]
  simp
theorem C0m {l:List Int} {i:Nat} {x:Int} (H:Heap) (h:l[i]?=some x):A0h false 1 H (.t (.pt ((l.map iv).drop i)))=some (.t (.v (.int .i64 x))):=by
 simp[A0h,h,iv]
def inR (n:Int):Bool:=decide (0<=n)&&decide (n<=4095)
def setB (ws:List W) (n:Nat):List W:=ws.set (n / 64) (wd ws (n / 64)|||BitVec.twoPow 64 (n%64))
def fill (N:Nat) (l:List Int) (j:Nat):List W:=(l.take j).foldl (fun ws n=>setB ws n.toNat) (List.replicate N 0)
theorem C4u {N:Nat} {l:List Int} {j:Nat} {x:Int} (h:l[j]?=some x):fill N l (j+1)=setB (fill N l j) x.toNat:=by
 unfold fill
 rw[List.take_add_one,h]
 simp[List.foldl_append]
theorem D8l (ws:List W) (n:Nat):(setB ws n).length=ws.length:=by simp[setB]
theorem A7t (N:Nat) (l:List Int):∀j,(fill N l j).length=N
 | 0=>by simp[fill]
 | j+1=>by
  have ih:=A7t N l j
  cases hj:l[j]? with
  | none=>
   have:fill N l (j+1)=fill N l j:=by unfold fill;rw[List.take_add_one,hj];simp
   rw[this];exact ih
  | some x=>rw[C4u hj,D8l,ih]
theorem F4v (ws:List W) (n i:Nat) (h:n / 64<ws.length):hasL (setB ws n) i=(hasL ws i||decide (i=n)):=by
 unfold hasL setB
 have e:wd (ws.set (n / 64) (wd ws (n / 64)|||BitVec.twoPow 64 (n%64))) (i / 64)=if n / 64=i / 64 then wd ws (n / 64)|||BitVec.twoPow 64 (n%64)else wd ws (i / 64):=by
  by_cases hi:n / 64=i / 64
  ·rw[if_pos hi,<-hi];simp[wd,h]
  ·rw[if_neg hi];simp[wd,List.getElem?_set_ne hi]
 rw[e]
 by_cases hi:n / 64=i / 64
 ·rw[if_pos hi,BitVec.getLsbD_or,BitVec.getLsbD_twoPow,hi]
  congr 1
  have h1:i%64<64:=Nat.mod_lt _ (by omega)
  by_cases hn:n%64=i%64
  ·have:i=n:=by omega
   subst this;simp[h1]
  ·have:¬i=n:=fun e=>hn (by rw[e])
   simp[hn,this]
 ·rw[if_neg hi]
  have:¬i=n:=fun e=>hi (by rw[e])
  simp[this]
theorem E1v (N:Nat) (l:List Int) (hl:∀n∈l,0<=n/\n.toNat / 64<N):∀j i,hasL (fill N l j) i=(l.take j).any (fun n=>decide (n=(i:Int)))
 | 0,i=>by simp[fill,hasL,wd,List.getElem?_replicate];split<;>simp
 | j+1,i=>by
  have ih:=E1v N l hl j i
  cases hj:l[j]? with
  | none=>
   have:fill N l (j+1)=fill N l j:=by unfold fill;rw[List.take_add_one,hj];simp
   rw[this,ih,List.take_add_one,hj];simp
  | some x=>
   obtain⟨h0,h1⟩:=hl x (List.mem_of_getElem? hj)
   rw[C4u hj,F4v _ _ _ (by rw[A7t];exact h1),ih,List.take_add_one,hj,List.any_append]
   congr 1
   simp only[Option.toList_some,List.any_cons,List.any_nil,Bool.or_false]
   congr 1
   apply propext
   omega
theorem F4w (l:List W) (i:Nat) (h:i<l.length) (ty b:Nat):A0h false 1 [(b,.cells ty (l.map tw))] (.ptr b i)=some (.t (uv (wd l i))):=by
 have hx:l[i]?=some (wd l i):=by simp[wd,h]
 simp[A0h,hx,tw]
theorem F8z {Φ:A1f} {H:Heap} {nx:Nat} (isB:Bool) (nk:Option NK) (k:IntKind) (r:Nat) (hr:r<64):A0m Φ H nx (.bin isB .shl nk) [.t (.v (.int .u64 1)),.t (.v (.int k (r:Int)))]=some (.t (uv (BitVec.twoPow 64 r)),H,nx):=by
 have hn:¬(r:Int)<0:=by omega
 rw[evalK_shl _ _ _ _ _ _ hn]
 have e:IntKind.u64.wrap (1*2^min (r:Int).toNat IntKind.u64.bits)=((BitVec.twoPow 64 r:W).toNat:Int):=by
  rw[Int.toNat_natCast,kbits_u64,Nat.min_eq_left (by omega),BitVec.toNat_twoPow]
  have h1:2^r<2^64:=Nat.pow_lt_pow_right (by omega) hr
  rw[Nat.mod_eq_of_lt h1,Int.one_mul,C2y (by exact Int.pow_nonneg (by omega))]
  ·simp
  ·have:((2^r:Nat):Int)<((2^64:Nat):Int):=by exact_mod_cast h1
   simpa using this
 rw[e];rfl
theorem ofBad:∀(l:List Int),(∀n∈l,inR n=true)\/∃(k:Nat) (x:Int),l[k]?=some x/\inR x=false/\∀(j:Nat),j<k->∀y,l[j]?=some y->inR y=true:=fun l=>by
 rcases first_bad (fun i=>(l[i]?).all inR) l.length with h | ⟨k,hk,h1,h2⟩
 ·left
  intro n hn
  obtain⟨i,hi,e⟩:=List.getElem_of_mem hn
  have:=h i hi
  rw[List.getElem?_eq_getElem hi,e]at this
  simpa using this
 ·right
  refine⟨k,l[k],List.getElem?_eq_getElem hk,?_,fun j hj y hy=>?_⟩
  ·rw[List.getElem?_eq_getElem hk]at h2
   simpa using h2
  ·have:=h1 j hj
   rw[hy]at this
   simpa using this
def S10 (t:T) (l:List Int) (j:Nat):A0b:=⟨[(5,.t (iv j)),(4,.row 0 0 64 1),(0,.t t)],[(0,.cells 142 ((fill 64 l j).map tw))],1,50⟩
theorem D4v {t:T} {l:List Int} (ht:decI t=some l) (hl:l.length<=1000000) {j:Nat} {y:Int} (hy:l[j]?=some y) (hr:inR y=true) {Q:Exit->A0b->Prop} :
  MC Try.prog G 0 50 (.seq (.seq (.ops [⟨(some 7),.mv,[(.tmp 5)],none⟩,⟨(some 8),.mv,[(.tmp 0)],none⟩,⟨(some 9),.lensl,[(.tmp 8)],none⟩,⟨(some 10),(.bin false .lss none),[(.tmp 7),(.tmp 9)],none⟩]) (.cond (.tmp 10) .skip (.exit 0))) (.seq (.block 1 (.seq (.seq (.ops [⟨(some 13),.mv,[(.tmp 0)],none⟩,⟨(some 14),.mv,[(.tmp 5)],none⟩,⟨(some 15),(.iaddr 1),[(.tmp 13),(.tmp 14)],none⟩,⟨(some 16),(.load false 1),[(.tmp 15)],none⟩,⟨(some 17),(.bin false .lss none),[(.tmp 16),(.k (.t (.v (.int .i64 0))))],none⟩,⟨(some 18),.mv,[(.tmp 17)],none⟩,⟨(some 19),.mv,[(.tmp 0)],(some (18,false))⟩,⟨(some 20),.mv,[(.tmp 5)],(some (18,false))⟩,⟨(some 21),(.iaddr 1),[(.tmp 19),(.tmp 20)],(some (18,false))⟩,⟨(some 22),(.load false 1),[(.tmp 21)],(some (18,false))⟩,⟨(some 23),(.bin false .gtr none),[(.tmp 22),(.k (.t (.v (.int .i64 4095))))],(some (18,false))⟩,⟨(some 24),.pick,[(.tmp 18),(.k (.t (.v (.bool true)))),(.tmp 23)],none⟩]) (.cond (.tmp 24) (.seq (.ops [⟨(some 2),.mv,[(.k (.t (.v (.slice none 0 0))))],none⟩,⟨(some 3),.mv,[(.k (.t (.v (.int .i64 2))))],none⟩]) .ret) .skip)) (.draw [⟨(some 25),.mv,[(.tmp 4)],none⟩,⟨(some 26),.mv,[(.tmp 0)],none⟩,⟨(some 27),.mv,[(.tmp 5)],none⟩,⟨(some 28),(.iaddr 1),[(.tmp 26),(.tmp 27)],none⟩,⟨(some 29),(.load false 1),[(.tmp 28)],none⟩,⟨(some 30),(.bin false .quo none),[(.tmp 29),(.k (.t (.v (.int .i64 64))))],none⟩,⟨(some 31),.mv,[(.tmp 4)],none⟩,⟨(some 32),.mv,[(.tmp 0)],none⟩,⟨(some 33),.mv,[(.tmp 5)],none⟩,⟨(some 34),(.iaddr 1),[(.tmp 32),(.tmp 33)],none⟩,⟨(some 35),(.load false 1),[(.tmp 34)],none⟩,⟨(some 36),(.bin false .quo none),[(.tmp 35),(.k (.t (.v (.int .i64 64))))],none⟩,⟨(some 37),(.iaddr 1),[(.tmp 31),(.tmp 36)],none⟩,⟨(some 38),(.load false 1),[(.tmp 37)],none⟩,⟨(some 39),.mv,[(.tmp 0)],none⟩,⟨(some 40),.mv,[(.tmp 5)],none⟩,⟨(some 41),(.iaddr 1),[(.tmp 39),(.tmp 40)],none⟩,⟨(some 42),(.load false 1),[(.tmp 41)],none⟩,⟨(some 43),(.bin false .rem none),[(.tmp 42),(.k (.t (.v (.int .i64 64))))],none⟩,⟨(some 44),(.conv (some .u64)),[(.tmp 43)],none⟩,⟨(some 45),(.bin false .shl none),[(.k (.t (.v (.int .u64 1)))),(.tmp 44)],none⟩,⟨(some 46),(.bin false .or none),[(.tmp 38),(.tmp 45)],none⟩,⟨(some 47),(.iaddr 1),[(.tmp 25),(.tmp 30)],none⟩,⟨none,(.store 1),[(.tmp 47),(.tmp 46)],none⟩]))) (.ops [⟨(some 11),.mv,[(.tmp 5)],none⟩,⟨(some 12),(.bin false .add none),[(.tmp 11),(.k (.t (.v (.int .i64 1))))],none⟩,⟨(some 5),.mv,[(.tmp 12)],none⟩])))
   (C3u Try.prog G 0 (S10 t l (j+1)) Q) (S10 t l j):=by
 have hjl:j<l.length:=(List.getElem?_eq_some_iff.1 hy).1
 refine A0c ctx2 ?_
 simp only[inR,Bool.and_eq_true,decide_eq_true_eq]at hr
 obtain⟨m,rfl⟩:=Int.eq_ofNat_of_zero_le hr.1
 have r2:¬4095<(m:Int):=by omega
 have r0:¬(m:Int)<0:=by omega
 obtain⟨q,hq⟩:∃q,q=m / 64:=⟨_,rfl⟩
 obtain⟨r,hr⟩:∃r,r=m%64:=⟨_,rfl⟩
 have q1:IntKind.i64.wrap ((m:Int) / 64)=(q:Int):=by rw[A8f (by omega) (by omega)];omega
 have r1:(m:Int).tmod 64=(r:Int):=by rw[Int.tmod_eq_emod_of_nonneg (by omega)];omega
 have r3:IntKind.u64.wrap (r:Int)=(r:Int):=C2y (by omega) (by omega)
 have qN:q<64:=by omega
 have qN':(q:Int)<64:=by omega
 have e1:IntKind.i64.wrap ((j:Int)+1)=((j+1:Nat):Int):=A0k (by omega) (by omega)
 have fs:=C4u (N:=64) hy
 simp only[Int.toNat_natCast,setB,<-hq,<-hr]at fs
 have lf:=A7t 64 l j
 have ld:=F4w (fill 64 l j) q (by rw[lf];exact qN) 142 0
 have st:=fun x=>F4l (fill 64 l j) q x (by rw[lf];exact qN) 142 0
 have sh:A0m (orc tb2) [(0,Row.cells 142 ((fill 64 l j).map tw))] 1 (.bin false .shl none) [.t (.v (.int .u64 1)),.t (.v (.int .u64 (r:Int)))]=some (.t (uv (BitVec.twoPow 64 r)),[(0,Row.cells 142 ((fill 64 l j).map tw))],1):=F8z _ _ _ r (by omega)
 have ir:A1k 1 (.row 0 0 64 1) (.t (.v (.int .i64 (q:Int))))=some (.ptr 0 q):=by simp[A1k,qN']
 simp -implicitDefEqProofs [-evalK_shl,S10,iv,hjl,C3c ht,C0l ht _ j hjl,C0m _ hy,r0,r2,q1,r1,r3,qN,qN',ld,st,sh,ir,e1]
 refine A0d rfl rfl ?_ ?_<;>simp -implicitDefEqProofs [fs]
theorem F9a {t:T} {l:List Int} (ht:decI t=some l) (hl:l.length<=1000000) {k:Nat} {x:Int} (hk:l[k]?=some x) (hb:inR x=false) (hg:∀(j:Nat),j<k->∀y,l[j]?=some y->inR y=true) :
  A0y Try.prog G 128 [t] (· = .tu [.v (.slice none 0 0),.v (.int .i64 2)]):=by
 have hkl:k<l.length:=(List.getElem?_eq_some_iff.1 hk).1
 refine D1a.call rfl ?_
 unfold C2z
 refine A0a ctx2 ?_
 simp -implicitDefEqProofs
 refine A0a ctx2 ?_
 simp -implicitDefEqProofs [B7v,E1m]
 refine A0q (fun _:Unit=>S10 t l l.length) (fun _=>False) (fun _=>rfl) ?_ ?_
 ·refine A0a ctx2 ?_
  simp -implicitDefEqProofs
  refine A0g ?_
  refine A1a (S10 t l) k (fun _=>rfl) ?_ rfl ?_ ?_
  ·refine A0d rfl rfl ?_ ?_<;>simp -implicitDefEqProofs [S10,iv,fill,tw]
  ·intro j hj
   obtain⟨y,hy⟩:∃y,l[j]?=some y:=⟨_,List.getElem?_eq_getElem (by omega)⟩
   exact D4v ht hl hy (hg j hj y hy)
  ·refine A0c ctx2 ?_
   by_cases r1:x<0
   ·simp -implicitDefEqProofs [S10,iv,hkl,C3c ht,C0l ht _ k hkl,C0m _ hk,r1]
   ·have r2:4095<x:=by
     simp only[inR,Bool.and_eq_false_iff,decide_eq_false_iff_not]at hb
     omega
    simp -implicitDefEqProofs [S10,iv,hkl,C3c ht,C0l ht _ k hkl,C0m _ hk,r1,r2]
 ·rintro _ h
  exact h.elim
theorem F4x {t:T} {l:List Int} (ht:decI t=some l) (hl:l.length<=1000000) (hg:∀n∈l,inR n=true) :
  A0y Try.prog G 128 [t] (· = .tu [encB (A1z (fill 64 l l.length)),.v (.int .i64 0)]):=by
 refine D1a.call rfl ?_
 unfold C2z
 refine A0a ctx2 ?_
 simp -implicitDefEqProofs
 refine A0a ctx2 ?_
 simp -implicitDefEqProofs [B7v,E1m]
 refine A0q (fun _:Unit=>S10 t l l.length) (fun _=>True) (fun _=>rfl) ?_ ?_
 ·refine A0a ctx2 ?_
  simp -implicitDefEqProofs
  refine A0g ?_
  refine A1a (S10 t l) l.length (fun _=>rfl) ?_ rfl ?_ ?_
  ·refine A0d rfl rfl ?_ ?_<;>simp -implicitDefEqProofs [S10,iv,fill,tw]
  ·intro j hj
   obtain⟨y,hy⟩:∃y,l[j]?=some y:=⟨_,List.getElem?_eq_getElem (by omega)⟩
   exact D4v ht hl hy (hg y (List.mem_of_getElem? hy))
  ·refine A0c ctx2 ?_
   simp -implicitDefEqProofs [S10,iv,C3c ht]
   exact Next.mk () trivial (A0d rfl rfl (by simp -implicitDefEqProofs) (by simp -implicitDefEqProofs))
 ·rintro _ -
  refine A0c ctx2 ?_
  have lf:=A7t 64 l l.length
  have gn:=E9k (fill 64 l l.length) 64 lf.symm (by omega)
  have tk:List.take 64 ((fill 64 l l.length).map tw)=(fill 64 l l.length).map tw:=List.take_of_length_le (by simp[lf])
  simp -implicitDefEqProofs [S10,lf,E9e,gn,tb2,tk]
def ofT (l:List Int):T:=if l.all inR then .tu [encB (A1z (fill 64 l l.length)),.v (.int .i64 0)]else .tu [.v (.slice none 0 0),.v (.int .i64 2)]
theorem F4y {t:T} {l:List Int} (ht:decI t=some l) (hl:l.length<=1000000):A0y Try.prog G 128 [t] (· = ofT l):=by
 unfold ofT
 rcases ofBad l with h | ⟨k,x,hk,hx,hg⟩
 ·rw[if_pos (List.all_eq_true.2 h)]
  exact F4x ht hl h
 ·have:¬l.all inR=true:=fun h=>by
   rw[List.all_eq_true.1 h x (List.mem_of_getElem? hk)]at hx;cases hx
  rw[if_neg this]
  exact F9a ht hl hk hx hg
def gI (f:List Int->T):List T->Option T
 | [a]=>match decI a with
  | some l=>if l.length<=1000000 then some (f l)else none
  | none=>none
 | _=>none
theorem gI_ok {F:Nat} {f:List Int->T} (h:∀{a:T} {l:List Int},decI a=some l->l.length<=1000000->A0y Try.prog G F [a] (· = f l)):GOK Try.prog G F (gI f):=by
 intro args r e
 unfold gI at e
 split at e
 ·split at e
  ·rename_i l ha
   split at e
   ·rename_i hl
    injection e with e;subst e
    exact h ha hl
   ·cases e
  ·cases e
 ·cases e
theorem gI_eq {f:List Int->T} {a:T} {l:List Int} (ha:decI a=some l) (hl:l.length<=1000000):gI f [a]=some (f l):=by
 simp[gI,ha,hl]
end Go.Proofs.Ytbiadmfmjnoecaa
