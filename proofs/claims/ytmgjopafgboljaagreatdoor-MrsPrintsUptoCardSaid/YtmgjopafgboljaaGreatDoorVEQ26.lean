/- Auxiliary facts. -/
import Derived.Test.YtmgjopafgboljaaGreatDoorVEQ11
import Derived.Test.YtmgjopafgboljaaGreatDoorVEQ07
import Derived.Test.YtmgjopafgboljaaGreatDoorVEQ25
import Derived.Test.YtmgjopafgboljaaGreatDoorVEQ22
import Derived.Test.YtmgjopafgboljaaGreatDoorVEQ28
import Derived.Test.YtmgjopafgboljaaGreatDoorVEQ29
import Derived.Test.YtmgjopafgboljaaGreatDoorVEQ30
import Derived.Test.YtmgjopafgboljaaGreatDoorVEQ31
import Derived.Test.YtmgjopafgboljaaGreatDoorVEQ36
set_option linter.unusedSimpArgs false
set_option maxRecDepth 100000
set_option maxHeartbeats 0
set_option linter.unusedVariables false
namespace Go.Proofs.YtmgjopafgboljaaGreatDoor
open Go Go.Abs
variable {q : Gl}
theorem G0v (u:Nat):(dd u).length<=u / 10+1:=by
 induction u using Nat.strongRecOn with
 | _ u ih=>
  by_cases h:0<u
  ·rw[C7z u h,List.length_append];by_cases h1:u<10
   ·have:u / 10=0:=by omega
    rw[this];simp[dd]
   ·have:=ih (u / 10) (by omega);simp only[List.length_singleton];omega
  ·have:u=0:=by omega
   subst this;simp[dd]
def SDc (n:Int) (a:Nat×List UInt8):A0c:=⟨[(4,.t (sv (bs a.2))),(3,.t (.v (.int .u64 (a.1:Int)))),(0,.t (iv n))],[],0,30⟩
def OkDc (u:Nat) (a:Nat×List UInt8):Prop:=a.1<=u/\dd a.1++a.2=dd u
theorem F7i (b ty nx:Nat) (n:Int) (H:Heap):hxM .b2s ((b,.cells ty [.t (.v (.int .u8 n))])::H) nx [.row b 0 1 1]=some (.t (sv (bs [UInt8.ofNat n.toNat])),(b,.cells ty [.t (.v (.int .u8 n))])::H,nx):=by
 simp[hxM,hxM.toTS,A7n]
theorem F5g (a b:List UInt8):bs a++bs b=bs (a++b):=by
 show(⟨a.toArray⟩:ByteArray)++⟨b.toArray⟩=_;apply ByteArray.ext;simp[bs,ByteArray.data_append]
theorem cat {Φ:A0u} {a b:List UInt8} (h:a.length+b.length<=9223372036854775807):∀(isB:Bool) (nk:Option NK) (H:Heap) (nx:Nat),A0i Φ H nx (.bin isB .add nk) [.t (.v (.string ⟨a.toArray⟩)),.t (.v (.string ⟨b.toArray⟩))]=some (.t (sv (bs (a++b))),H,nx):=by
 intro isB nk H nx;rw[C4v isB nk _ _ (by show a.toArray.size+b.toArray.size<=_;simpa using h)];rw[show(⟨a.toArray⟩:ByteArray)++⟨b.toArray⟩=bs (a++b)from F5g a b]
theorem C8a (n:Int) (h:-9223372036854775808<=n/\n<=9223372036854775807):A1d Tryz.prog (G q) 95 [iv n] (· = sv (bs (Lib.itoa n))):=by
 refine C7j.call rfl ?_;(conv in B5n=>cbv);by_cases h0:n=0
 ·subst h0;refine A0e ctx0 ?_
  have e:Lib.itoa 0=[48]:=by unfold Lib.itoa;rw[if_neg (by omega)];rw[show(0:Int).toNat=0 from rfl,Lib.decDigits_one (by omega)];rfl
  simp -implicitDefEqProofs [e]
 have h0':(n==0)=false:=by rw[beq_eq_false_iff_ne];exact h0
 obtain⟨u,hu⟩:∃u,u=n.natAbs:=⟨_,rfl⟩
 have hit:Lib.itoa n=if n<0 then 45::dd u else dd u:=by
  unfold Lib.itoa dd;rw[if_neg (by omega:¬u=0),hu];split
  ·rfl
  ·congr 1;omega
 have hlen:=G0v u;refine A0a ctx0 ?_;simp -implicitDefEqProofs;refine A0a ctx0 ?_;simp -implicitDefEqProofs [h0',h0];refine A0a ctx0 ?_;simp -implicitDefEqProofs;refine A0q (α:=Unit) (fun _=>(⟨[(3,.t (.v (.int .u64 (u:Int)))),(0,.t (iv n))],[],0,30⟩:A0c)) (fun _=>True) (fun _=>rfl) ?_ ?_
 ·refine A0e ctx0 ?_;by_cases hneg:n<0
  ·have e:IntKind.u64.wrap (-(IntKind.u64.wrap n))=(u:Int):=by
    unfold IntKind.wrap IntKind.bits IntKind.signed;simp only[Bool.false_and,Bool.false_eq_true,if_false]
    have e1:(2:Int)^64=18446744073709551616:=by decide
    rw[e1];omega
   simp -implicitDefEqProofs [hneg,e];exact Abs.Next.mk () trivial (A1q rfl rfl (by simp -implicitDefEqProofs) (by simp -implicitDefEqProofs))
  ·have e:IntKind.u64.wrap n=(u:Int):=by rw[A7e (by omega) (by omega)];omega
   simp -implicitDefEqProofs [hneg,e];exact Abs.Next.mk () trivial (A1q rfl rfl (by simp -implicitDefEqProofs) (by simp -implicitDefEqProofs))
 rintro _ -;refine A0a ctx0 ?_;simp -implicitDefEqProofs;refine A0q (α:=Unit) (fun _=>SDc n (0,dd u)) (fun _=>True) (fun _=>rfl) ?_ ?_
 ·refine A0j ?_;refine A0n (SDc n) (fun a=>a.1) (OkDc u) (u,[]) (fun _=>rfl) ⟨Nat.le_refl _,List.append_nil _⟩ ?_ rfl ?_
  ·refine A1q rfl rfl ?_ ?_<;>simp -implicitDefEqProofs [SDc]
  ·rintro⟨v,t⟩ ⟨hv,ht⟩;simp only at hv ht;refine A0e ctx0 ?_;by_cases hz:0<v
   ·have A4k:=C7z v hz
    obtain⟨c,hc⟩:∃c:Nat,c=48+v%10:=⟨_,rfl⟩
    obtain⟨k,hk⟩:∃k:Nat,k=v%10:=⟨_,rfl⟩
    obtain⟨w,hw⟩:∃w:Nat,w=v / 10:=⟨_,rfl⟩
    rw[<-hc,<-hw]at A4k
    have hm:(v:Int).tmod 10=(k:Int):=by rw[Int.tmod_eq_emod_of_nonneg (by omega)];omega
    have hq:(v:Int).tdiv 10=(w:Int):=by rw[Int.tdiv_eq_ediv_of_nonneg (by omega)];omega
    have e1:IntKind.u64.wrap (48+(k:Int))=(c:Int):=by rw[A7e (by omega) (by omega)];omega
    have e2:IntKind.u8.wrap (c:Int)=(c:Int):=by
     unfold IntKind.wrap IntKind.bits IntKind.signed;simp only[Bool.false_and,Bool.false_eq_true,if_false]
     have e1:(2:Int)^8=256:=by decide
     rw[e1];omega
    have e3:IntKind.u64.wrap (w:Int)=(w:Int):=A7e (by omega) (by omega)
    have tl:t.length<=u / 10+1:=by
     have:=congrArg List.length ht;rw[List.length_append]at this;omega
    have sa:=cat (Φ:=orc []) (a:=[UInt8.ofNat c]) (b:=t) (by simp;omega);have hnew:=fun H=>F7i 0 5 1 (c:Int) H;simp only[Int.toNat_natCast]at hnew;have hbs:A1v 5 1 [.int .u8 0] 1 [(0,.t (.v (.int .u8 (c:Int))))] 0=some (.row 0 0 1 1,.cells 5 [.t (.v (.int .u8 (c:Int)))]):=rfl;simp -implicitDefEqProofs [SDc,hz,hm,hq,e1,e2,e3,hbs,hnew,sa];refine Abs.Next.mk (w,UInt8.ofNat c::t) ⟨⟨by show w<=u;omega,?_⟩,by show w<v;omega⟩ (A8d (Nat.le_refl _) (by simp -implicitDefEqProofs [under]));show dd w++(UInt8.ofNat c::t)=dd u;rw[<-ht,A4k,List.append_assoc];rfl
   ·have:v=0:=by omega
    subst this
    have:t=dd u:=by simpa[dd]using ht
    subst this;simp -implicitDefEqProofs [SDc];exact Abs.Next.mk () trivial (A1q rfl rfl (by simp -implicitDefEqProofs [SDc]) (by simp -implicitDefEqProofs [SDc]))
 rintro _ -;refine A0e ctx0 ?_;by_cases hneg:n<0
 ·rw[if_pos hneg]at hit;have ec:(⟨#[45]⟩:ByteArray)++bs (dd u)=bs (45::dd u):=F5g [45] (dd u);have sa:=cat (Φ:=orc []) (a:=[45]) (b:=dd u) (by simp;omega);simp -implicitDefEqProofs [SDc,hneg,hit,sa]
 ·rw[if_neg hneg]at hit;simp -implicitDefEqProofs [SDc,hneg,hit]
theorem F3i (u:Nat):A1j (UInt8.ofNat (48+u%10))=true/\(UInt8.ofNat (48+u%10)).toNat-48=u%10:=by
 have h:(UInt8.ofNat (48+u%10)).toNat=48+u%10:=by
  rw[UInt8.toNat_ofNat'];omega
 refine⟨?_,by omega⟩;simp only[A1j,h,Bool.and_eq_true,decide_eq_true_eq];omega
theorem E8h (u:Nat):(∀c∈dd u,A1j c=true)/\decV 0 (dd u)=u/\(dd u).head?≠some 48/\(0<u->dd u≠[]):=by
 induction u using Nat.strongRecOn with
 | _ u ih=>
  by_cases h:0<u
  ·rw[C7z u h];obtain⟨i1,i2,i3,i4⟩:=ih (u / 10) (by omega);obtain⟨g1,g2⟩:=F3i u;refine⟨?_,?_,?_,fun _=>by simp⟩
   ·intro c hc;rcases List.mem_append.1 hc with hc | hc
    ·exact i1 c hc
    ·rw[List.mem_singleton.1 hc];exact g1
   ·rw[D1t,i2,g2];omega
   ·by_cases h0:u / 10=0
    ·have:dd (u / 10)=[]:=by rw[h0];rfl
     rw[this];intro he
     have he':UInt8.ofNat (48+u%10)=48:=by simpa using he
     rw[he']at g2
     have:(48:UInt8).toNat-48=0:=by decide
     omega
    ·have hne:=i4 (by omega)
     cases hd:dd (u / 10)with
     | nil=>exact absurd hd hne
     | cons x r=>rw[hd]at i3;simpa using i3
  ·have:u=0:=by omega
   subst this;exact⟨fun c hc=>by simp[dd]at hc,by simp[dd,decV],by simp[dd],fun h=>by omega⟩
theorem D5t (n:Int) (h:-9223372036854775808<=n/\n<=9223372036854775807):numS (Lib.itoa n)=(n,0):=by
 rw[C2d];by_cases h0:n=0
 ·subst h0;rfl
 rw[if_neg h0]
 obtain⟨u,hu⟩:∃u,u=n.natAbs:=⟨_,rfl⟩
 rw[<-hu];obtain⟨d1,d2,d3,d4⟩:=E8h u;have hne:=d4 (by omega)
 cases hd:dd u with
 | nil=>exact absurd hd hne
 | cons c r=>
  rw[hd]at d1 d2 d3;have hall:(c::r).all A1j=true:=List.all_eq_true.2 d1
  have h48:((c::r).head?==some 48)=false:=by rw[beq_eq_false_iff_ne];exact d3
  by_cases hneg:n<0
  ·rw[if_pos hneg,C1k];have e1:dOf (45::c::r)=c::r:=rfl;have e2:((45::c::r).head?==some (45:UInt8))=true:=rfl;rw[e1,e2,hall,h48];simp only[List.isEmpty_cons,Bool.not_true,Bool.or_self,Bool.false_and,Bool.false_eq_true,if_false,if_true,d2];rw[if_pos (by omega)];congr 1;omega
  ·rw[if_neg hneg,C1k]
   have e2:((c::r).head?==some (45:UInt8))=false:=by
    have:=D8r (d1 c (by simp));simpa using this
   have e1:dOf (c::r)=c::r:=by unfold dOf;rw[e2];rfl
   rw[e1,e2,hall,h48];simp only[List.isEmpty_cons,Bool.not_true,Bool.or_self,Bool.false_and,Bool.false_eq_true,if_false,d2];rw[if_pos (by omega)];congr 1;omega
noncomputable def B3x:A0p:=cm Tryz.f58 13
theorem C3y {q:Gl}:FnOK Tryz.prog (G q) 58 2 13 B3x [(.tmp 4)]:=fk Tryz.func58 (by kernel_rfl) (by kernel_rfl)
noncomputable def C2e:A0p:=cm Tryz.f28 112
theorem D5u {q:Gl}:FnOK Tryz.prog (G q) 28 1 112 C2e [(.tmp 2)]:=fk Tryz.func28 (by kernel_rfl) (by kernel_rfl)
theorem E8i (l:List Int):∀(ags:List Ag) (k:Nat),(∀(i:Nat) (a:Ag),ags[i]?=some a->l[k+i]?=some a.var)->(plA k ags).map (fun a=>(⟨a.role,l.getD a.var.toNat 0⟩:Ag))=ags
 | [],k,_=>rfl
 | a::r,k,h=>by
  rw[plA,List.map_cons,E8i l r (k+1) fun i b hb=>by rw[show k+1+i=k+(i+1)by omega];exact h (i+1) b (by simpa using hb)];have:=h 0 a rfl;simp only[Int.toNat_natCast];rw[List.getD_eq_getElem?_getD,show l[k]?=some a.var by simpa using this];rfl
theorem F3j {x:Ep} {i:Nat} {a:Ag} (h:x.args[i]?=some a):(occE x)[i+1]?=some a.var:=by
 unfold occE;rw[List.getElem?_cons_succ,List.getElem?_map,h];rfl
theorem F7j (l:List Int) (x:Ep) (k:Nat) (h:∀i v,(occE x)[i]?=some v->l[k+i]?=some v):mapE (fun p=>l.getD p.toNat 0) (plE k x)=x:=by
 unfold mapE plE;obtain⟨p,lb,ags⟩:=x;simp only;rw[E8i l ags (k+1) fun i a ha=>by rw[show k+1+i=k+(i+1)by omega];exact h (i+1) a.var (F3j ha)];have:=h 0 lb rfl;rw[Int.toNat_natCast,List.getD_eq_getElem?_getD,show l[k]?=some lb by simpa using this];rfl
theorem D9d (l:List Int):∀(xs:List Ep) (k:Nat),(∀(i:Nat) (v:Int),(xs.flatMap occE)[i]?=some v->l[k+i]?=some v)->(plEs k xs).map (mapE fun p=>l.getD p.toNat 0)=xs
 | [],k,_=>rfl
 | x::r,k,h=>by
  rw[plEs,List.map_cons,F7j l x k fun i v hv=>h i v (by rw[List.flatMap_cons,List.getElem?_append_left (List.getElem?_eq_some_iff.1 hv).1];exact hv)]
  rw[D9d l r _ fun i v hv=>by
   have:=h (1+x.args.length+i) v (by rw[List.flatMap_cons,List.getElem?_append_right (by rw[B9v];omega),B9v];rw[show 1+x.args.length+i-(1+x.args.length)=i by omega];exact hv)
   rwa[show k+(1+x.args.length)+i=k+(1+x.args.length+i)by omega]]
theorem D9e (l:List Int):∀(cs:List Qq) (k:Nat),(∀(i:Nat) (v:Int),(cs.flatMap occC)[i]?=some v->l[k+i]?=some v)->(plQs k cs).map (mapQ fun p=>l.getD p.toNat 0)=cs
 | [],k,_=>rfl
 | c::r,k,h=>by
  have h0:=h 0 c.high rfl;have h1:=h 1 c.low rfl
  rw[plQs,List.map_cons,D9e l r (k+2) fun i v hv=>by
   have:=h (2+i) v (by rw[List.flatMap_cons,List.getElem?_append_right (by simp[occC])];simpa[occC]using hv)
   rwa[show k+2+i=k+(2+i)by omega]]
  unfold mapQ;simp only[Int.toNat_natCast];rw[List.getD_eq_getElem?_getD,List.getD_eq_getElem?_getD,show l[k]?=some c.high by simpa using h0,h1];rfl
theorem F7k (m:Mr):mapE (fun p=>(occ m).getD p.toNat 0)=mapE (fun p=>(occ m).getD p.toNat 0)/\(plEs 2 m.rels).map (mapE fun p=>(occ m).getD p.toNat 0)=m.rels/\(plQs (2+nE m.rels) m.cons).map (mapQ fun p=>(occ m).getD p.toNat 0)=m.cons:=by
 refine⟨rfl,D9d _ _ _ fun i v hv=>?_,D9e _ _ _ fun i v hv=>?_⟩
 ·unfold occ;rw[show 2+i=i+1+1 by omega,List.getElem?_cons_succ,List.getElem?_cons_succ,List.getElem?_append_left (List.getElem?_eq_some_iff.1 hv).1];exact hv
 ·unfold occ;rw[show 2+nE m.rels+i=nE m.rels+i+1+1 by omega,List.getElem?_cons_succ,List.getElem?_cons_succ,List.getElem?_append_right (by rw[E3v];omega),E3v,Nat.add_sub_cancel_left];exact hv
theorem A4o:∀(t q:List UInt8) (s:List Vr),A1f t ⟨t++q,0,s⟩=⟨q,0,s⟩
 | [],q,s=>rfl
 | c::t,q,s=>by
  rw[A1f,if_pos rfl];show(if c=c then A1f t ⟨t++q,0,s⟩else _)=_;rw[if_pos rfl];exact A4o t q s
theorem B2s (c:UInt8) (q:List UInt8) (s:List Vr):A1x c ⟨c::q,0,s⟩=true:=by simp[A1x]
theorem A7g {c x:UInt8} (h:x≠c) (q:List UInt8) (s:List Vr):A1x c ⟨x::q,0,s⟩=false:=by
 unfold A1x;simp only[decide_true,Bool.true_and,List.head?_cons,Option.some.injEq];exact decide_eq_false h
def F3k (q:List UInt8):Prop:=∀c r,q=c::r->isUp c=false/\A7w c=false/\A1j c=false/\c≠45
theorem D9f (big:Bool) {q:List UInt8} (hq:F3k q):∀(w:List UInt8) (first:Bool),runW big first w=w->runW big first (w++q)=w
 | [],first,_=>by
  cases q with
  | nil=>rfl
  | cons c r=>
   obtain⟨h1,h2,h3,h4⟩:=hq c r rfl;rw[List.nil_append,runW,if_neg];unfold okC;rw[h3,decide_eq_false h4];cases big<;>simp[h1,h2]
 | c::w,first,h=>by
  rw[runW]at h;rw[List.cons_append,runW];split at h
  ·rename_i hc;rw[if_pos hc];injection h with _ h;rw[D9f big hq w false h]
  ·cases h
theorem B5u {p:UInt8->Bool} {q:List UInt8} (hq:∀c r,q=c::r->p c=false):∀{d:List UInt8},d.takeWhile p=d->(d++q).takeWhile p=d
 | [],_=>by
  cases q with
  | nil=>rfl
  | cons c r=>rw[List.nil_append,List.takeWhile_cons,hq c r rfl];rfl
 | c::d,h=>by
  rw[List.takeWhile_cons]at h;rw[List.cons_append,List.takeWhile_cons];split at h
  ·rename_i hc;rw[if_pos hc];injection h with _ h;rw[B5u hq h]
  ·cases h
theorem F3l {q:List UInt8} (hq:∀c r,q=c::r->A1j c=false) {d:List UInt8} (h:digW d=d) (hne:d≠[]):digW (d++q)=d:=by
 cases d with
 | nil=>exact absurd rfl hne
 | cons c r=>
  rw[digW]at h;rw[List.cons_append,digW];split at h
  ·rename_i hc;rw[if_pos hc];injection h with _ h;split at h
   ·rename_i h0;rw[if_pos h0,h]
   ·rename_i h0;rw[if_neg h0,B5u hq h]
  ·cases h
theorem B7d {v:Vr} (hv:A7t v) {q:List UInt8} (hq:∀c r,q=c::r->A1j c=false) (s:List Vr):varR ⟨vW v++q,0,s⟩=(⟨q,0,s++[v]⟩,(s.length:Int)):=by
 obtain⟨c,h1,h2⟩:=hv.sort
 have e:vW v++q=c::(wb v.digits++q):=by unfold vW;rw[h1,A3o];rfl
 rw[e];unfold varR;rw[if_pos rfl];simp only;rw[if_pos h2,F3l hq hv.digits hv.ne,if_neg hv.ne,List.drop_left' rfl,F7h,<-h1]
theorem D9g {big:Bool} {n:ByteArray} (hn:runW big true (wb n)=wb n) (hne:wb n≠[]) {q:List UInt8} (hq:F3k q) (s:List Vr):A3u big ⟨wb n++q,0,s⟩=(⟨q,0,s⟩,n):=by
 unfold A3u;rw[if_pos rfl];simp only;rw[D9f big hq _ _ hn,if_neg hne,List.drop_left' rfl,F7h]
structure F7l (w:Int->List UInt8) (tv:Int->Vr) (a:Ag):Prop where
 role:runW true true (wb a.role)=wb a.role
 rne:wb a.role≠[]
 var:w a.var=vW (tv a.var)/\A7t (tv a.var)
structure E3m (w:Int->List UInt8) (tv:Int->Vr) (x:Ep):Prop where
 pred:runW false true (wb x.pred)=wb x.pred
 pne:wb x.pred≠[]
 label:w x.label=vW (tv x.label)/\A7t (tv x.label)
 args:∀a∈x.args,F7l w tv a
theorem G0w {c:UInt8} (h1:isUp c=false) (h2:A7w c=false) (h3:A1j c=false) (h4:c≠45) (q:List UInt8):F3k (c::q):=fun x r h=>by
 injection h with h _;subst h;exact⟨h1,h2,h3,h4⟩
theorem F5h {c:UInt8} (h1:isUp c=false) (h2:A7w c=false) (h3:A1j c=false) (h4:c≠45) (q:List UInt8):F3k ([c]++q):=G0w h1 h2 h3 h4 q
theorem nd_a {c:UInt8} (h3:A1j c=false) (q:List UInt8):∀x r,[c]++q=x::r->A1j x=false:=fun x r h=>by
 injection h with h _;subst h;exact h3
theorem nd_c {c:UInt8} (h3:A1j c=false) (q:List UInt8):∀x r,c::q=x::r->A1j x=false:=fun x r h=>by
 injection h with h _;subst h;exact h3
section
variable {w : Int -> List UInt8} {tv : Int -> Vr}
theorem E8j {a:Ag} (ha:F7l w tv a) {q:List UInt8} (hq:∀c r,q=c::r->A1j c=false) (s:List Vr):argR ⟨prtA w a++q,0,s⟩=(⟨q,0,s++[tv a.var]⟩,⟨a.role,(s.length:Int)⟩):=by
 have e:prtA w a++q=wb a.role++([32]++(vW (tv a.var)++q)):=by unfold prtA;rw[ha.var.1];simp
 rw[e];unfold argR;rw[D9g ha.role ha.rne (F5h (by decide) (by decide) (by decide) (by decide) _)];simp only;rw[A4o,B7d ha.var.2 hq]
theorem D9h:∀{l:List Ag} {n:Nat} {q:List UInt8} {s:List Vr} {out:List Ag},l≠[]->(∀a∈l,F7l w tv a)->l.length<=n ->
  A7z n ⟨sepL [44,32] (l.map (prtA w))++41::q,0,s⟩ out=(⟨41::q,0,s++l.map fun a=>tv a.var⟩,out++plA s.length l)
 | [],n,q,s,out,h,_,_=>absurd rfl h
 | [a],n,q,s,out,_,h,hn=>by
  obtain⟨n,rfl⟩:∃k,n=k+1:=⟨n-1,by simp at hn;omega⟩
  have e:sepL [44,32] ([a].map (prtA w))++41::q=prtA w a++41::q:=rfl;rw[e,A7z,if_pos rfl,E8j (h a (by simp)) (nd_c (by decide) q),A7g (by decide),if_neg (by decide)];rfl
 | a::b::r,n,q,s,out,_,h,hn=>by
  obtain⟨n,rfl⟩:∃k,n=k+1:=⟨n-1,by simp at hn;omega⟩
  have e:sepL [44,32] ((a::b::r).map (prtA w))++41::q=prtA w a++(44::([32]++(sepL [44,32] ((b::r).map (prtA w))++41::q))):=by
   simp[sepL]
  rw[e,A7z,if_pos rfl,E8j (h a (by simp)) (nd_c (by decide) _),B2s,if_pos rfl];simp only;have e2:=A4o [44,32] (sepL [44,32] ((b::r).map (prtA w))++41::q) (s++[tv a.var]);have e3:44::([32]++(sepL [44,32] ((b::r).map (prtA w))++41::q))=[44,32]++(sepL [44,32] ((b::r).map (prtA w))++41::q):=rfl;rw[e3,e2,D9h (l:=b::r) (by simp) (fun x hx=>h x (by simp at hx ⊢;exact .inr hx)) (by simp at hn ⊢;omega)];simp[plA]
theorem D9i {x:Ep} (hx:E3m w tv x) {n:Nat} (hn:x.args.length<=n) (q:List UInt8) (s:List Vr):A3a n ⟨prtE w x++q,0,s⟩=(⟨q,0,s++(occE x).map tv⟩,plE s.length x):=by
 have e:prtE w x++q=vW (tv x.label)++([58]++(wb x.pred++([40]++(sepL [44,32] (x.args.map (prtA w))++41::q)))):=by
  unfold prtE;rw[hx.label.1];simp
 have hh:A6k ⟨prtE w x++q,0,s⟩=(⟨sepL [44,32] (x.args.map (prtA w))++41::q,0,s++[tv x.label]⟩,(s.length:Int),x.pred):=by
  rw[e];unfold A6k;rw[B7d hx.label.2 (nd_a (by decide) _)];simp only;rw[A4o,D9g hx.pred hx.pne (F5h (by decide) (by decide) (by decide) (by decide) _)];simp only;rw[A4o]
 unfold A3a;rw[hh];simp only
 cases ha:x.args with
 | nil=>
  have e1:sepL [44,32] (([]:List Ag).map (prtA w))++41::q=41::q:=rfl;rw[e1,B2s,if_pos rfl];simp[B7k,plE,plA,occE,ha]
 | cons a r=>
  have hne:x.args≠[]:=by rw[ha];simp
  have hc:∃c q',sepL [44,32] (x.args.map (prtA w))++41::q=c::q'/\isUp c=true:=by
   have hg:=hx.args a (by rw[ha];simp);have h1:=hg.role;have h2:=hg.rne
   cases hr:wb a.role with
   | nil=>exact absurd hr h2
   | cons c t=>
    rw[hr]at h1;rw[runW]at h1;split at h1
    ·rename_i h3;refine⟨c,?_⟩
     have h4:isUp c=true:=by simpa[okC]using h3
     rw[ha]
     cases r with
     | nil=>exact⟨_,by simp only[List.map_cons,List.map_nil,sepL,prtA,hr];rfl,h4⟩
     | cons b r=>exact⟨_,by simp only[List.map_cons,sepL,prtA,hr];rfl,h4⟩
    ·cases h1
  obtain⟨c,q',hc1,hc2⟩:=hc
  have hnx:A1x 41 ⟨sepL [44,32] (x.args.map (prtA w))++41::q,0,s++[tv x.label]⟩=false:=by
   rw[hc1];exact A7g (by rintro rfl;revert hc2;decide) _ _
  rw[<-ha,hnx,if_neg (by decide),D9h hne hx.args hn];simp only;have e4:(41:UInt8)::q=[41]++q:=rfl;rw[e4,A4o];simp[plE,occE]
end
section
variable {w : Int -> List UInt8} {tv : Int -> Vr}
theorem E8k {v:Vr} (hv:A7t v) (q:List UInt8):∃c q',vW v++q=c::q'/\isSc c=true:=by
 obtain⟨c,h1,h2⟩:=hv.sort;refine⟨c,wb v.digits++q,?_,h2⟩;unfold vW;rw[h1,A3o];rfl
theorem G0x {c:UInt8} (h:isSc c=true):c≠125:=by rintro rfl;revert h;decide
theorem D9j {q:List UInt8} {c:UInt8} {q':List UInt8} (h:q=c::q') (hc:c≠125) (s:List Vr):B3e ⟨59::32::q,0,s⟩=⟨q,0,s⟩:=by
 have e:A1f [59,32] ⟨59::32::q,0,s⟩=⟨q,0,s⟩:=A4o [59,32] q s;unfold B3e;rw[e,h,A7g hc,if_neg (by decide)]
theorem C2f {x:Ep} (hx:E3m w tv x) (q:List UInt8):∃c q',prtE w x++q=c::q'/\c≠125:=by
 obtain⟨c,q',h1,h2⟩:=E8k hx.label.2 (58::(wb x.pred++40::(sepL [44,32] (x.args.map (prtA w))++[41]))++q);refine⟨c,q',?_,G0x h2⟩;rw[<-h1];unfold prtE;rw[hx.label.1];simp
structure E3n (w:Int->List UInt8) (tv:Int->Vr) (c:Qq):Prop where
 high:w c.high=vW (tv c.high)/\A7t (tv c.high)
 low:w c.low=vW (tv c.low)/\A7t (tv c.low)
theorem C2g {x:Qq} (hx:E3n w tv x) (q:List UInt8):∃c q',prtQ w x++q=c::q'/\c≠125:=by
 obtain⟨c,q',h1,h2⟩:=E8k hx.high.2 (([32,113,101,113,32]++w x.low)++q);refine⟨c,q',?_,G0x h2⟩;rw[<-h1];unfold prtQ;rw[hx.high.1];simp
theorem D1v {α:Type} {f:α->List UInt8} {sep:List UInt8} {P:α->Prop} (hf:∀x,P x->∀q,∃c q',f x++q=c::q'/\c≠125) {l:List α} (h:l≠[]) (hp:∀x∈l,P x) (q:List UInt8):∃c q',sepL sep (l.map f)++q=c::q'/\c≠125:=by
 cases l with
 | nil=>exact absurd rfl h
 | cons x r=>
  cases r with
  | nil=>exact hf x (hp x (by simp)) q
  | cons y r=>
   obtain⟨c,q',h1,h2⟩:=hf x (hp x (by simp)) ((sep++sepL sep ((y::r).map f))++q);refine⟨c,q',?_,h2⟩;rw[<-h1];simp[sepL]
theorem D9k (k:Nat):∀{l:List Ep} {n:Nat} {q:List UInt8} {s:List Vr} {out:List Ep},(∀x∈l,E3m w tv x/\x.args.length<=k)->l.length<n ->
  A5j k n ⟨sepL [59,32] (l.map (prtE w))++125::q,0,s⟩ out=(⟨125::q,0,s++(l.flatMap occE).map tv⟩,out++plEs s.length l)
 | [],n,q,s,out,_,hn=>by
  obtain⟨n,rfl⟩:∃k,n=k+1:=⟨n-1,by simp at hn;omega⟩
  show A5j k (n+1) ⟨125::q,0,s⟩ out=_;rw[B7l (B2s 125 q s)];simp[plEs]
 | [x],n,q,s,out,h,hn=>by
  obtain⟨n,rfl⟩:∃k,n=k+1:=⟨n-1,by simp at hn;omega⟩
  obtain⟨hx,hk⟩:=h x (by simp);have e:sepL [59,32] ([x].map (prtE w))++125::q=prtE w x++125::q:=rfl;obtain⟨c,q',h1,h2⟩:=C2f hx (125::q);rw[e,B2v rfl (by rw[h1];exact A7g h2 _ _),D9i hx hk,A7g (by decide),if_neg (by decide)];simp[plEs]
 | x::y::r,n,q,s,out,h,hn=>by
  obtain⟨n,rfl⟩:∃k,n=k+1:=⟨n-1,by simp at hn;omega⟩
  obtain⟨hx,hk⟩:=h x (by simp)
  have e:sepL [59,32] ((x::y::r).map (prtE w))++125::q=prtE w x++(59::32::(sepL [59,32] ((y::r).map (prtE w))++125::q)):=by
   simp[sepL]
  obtain⟨c,q',h1,h2⟩:=C2f hx (59::32::(sepL [59,32] ((y::r).map (prtE w))++125::q));have hyr:∀z∈y::r,E3m w tv z/\z.args.length<=k:=fun z hz=>h z (by simp at hz ⊢;exact .inr hz);obtain⟨c2,q2,h3,h4⟩:=D1v (f:=prtE w) (sep:=[59,32]) (P:=E3m w tv) (fun x hx q=>C2f hx q) (l:=y::r) (by simp) (fun z hz=>(hyr z hz).1) (125::q);rw[e,B2v rfl (by rw[h1];exact A7g h2 _ _),D9i hx hk,B2s,if_pos rfl];simp only;rw[D9j h3 h4,D9k k (l:=y::r) hyr (by simp at hn ⊢;omega)];simp[plEs,B9v,Nat.add_assoc]
theorem E8l {x:Qq} (hx:E3n w tv x) {q:List UInt8} (hq:∀c r,q=c::r->A1j c=false) (s:List Vr):conR ⟨prtQ w x++q,0,s⟩=(⟨q,0,s++(occC x).map tv⟩,⟨(s.length:Int),((s.length+1:Nat):Int)⟩):=by
 have e:prtQ w x++q=vW (tv x.high)++([32]++([113,101,113,32]++(vW (tv x.low)++q))):=by
  unfold prtQ;rw[hx.high.1,hx.low.1];simp
 rw[e];unfold conR;rw[B7d hx.high.2 (nd_a (by decide) _)];simp only;have e2:[32]++([113,101,113,32]++(vW (tv x.low)++q))=[32,113,101,113,32]++(vW (tv x.low)++q):=rfl;rw[e2,A4o,B7d hx.low.2 hq];simp[occC]
theorem D9l:∀{l:List Qq} {n:Nat} {q:List UInt8} {s:List Vr} {out:List Qq},(∀x∈l,E3n w tv x)->l.length<n ->
  A7i n ⟨sepL [59,32] (l.map (prtQ w))++125::q,0,s⟩ out=(⟨125::q,0,s++(l.flatMap occC).map tv⟩,out++plQs s.length l)
 | [],n,q,s,out,_,hn=>by
  obtain⟨n,rfl⟩:∃k,n=k+1:=⟨n-1,by simp at hn;omega⟩
  show A7i (n+1) ⟨125::q,0,s⟩ out=_;rw[B7m (B2s 125 q s)];simp[plQs]
 | [x],n,q,s,out,h,hn=>by
  obtain⟨n,rfl⟩:∃k,n=k+1:=⟨n-1,by simp at hn;omega⟩
  have hx:=h x (by simp);have e:sepL [59,32] ([x].map (prtQ w))++125::q=prtQ w x++125::q:=rfl;obtain⟨c,q',h1,h2⟩:=C2g hx (125::q);rw[e,B2w rfl (by rw[h1];exact A7g h2 _ _),E8l hx (nd_c (by decide) q),A7g (by decide),if_neg (by decide)];simp[plQs]
 | x::y::r,n,q,s,out,h,hn=>by
  obtain⟨n,rfl⟩:∃k,n=k+1:=⟨n-1,by simp at hn;omega⟩
  have hx:=h x (by simp)
  have e:sepL [59,32] ((x::y::r).map (prtQ w))++125::q=prtQ w x++(59::32::(sepL [59,32] ((y::r).map (prtQ w))++125::q)):=by
   simp[sepL]
  obtain⟨c,q',h1,h2⟩:=C2g hx (59::32::(sepL [59,32] ((y::r).map (prtQ w))++125::q));have hyr:∀z∈y::r,E3n w tv z:=fun z hz=>h z (by simp at hz ⊢;exact .inr hz);obtain⟨c2,q2,h3,h4⟩:=D1v (f:=prtQ w) (sep:=[59,32]) (P:=E3n w tv) (fun x hx q=>C2g hx q) (l:=y::r) (by simp) hyr (125::q);rw[e,B2w rfl (by rw[h1];exact A7g h2 _ _),E8l hx (nd_c (by decide) _),B2s,if_pos rfl];simp only;rw[D9j h3 h4,D9l (l:=y::r) hyr (by simp at hn ⊢;omega)];simp[plQs,occC]
structure G0y (w:Int->List UInt8) (tv:Int->Vr) (m:Mr):Prop where
 top:w m.top=vW (tv m.top)/\A7t (tv m.top)
 index:w m.index=vW (tv m.index)/\A7t (tv m.index)
 rels:∀x∈m.rels,E3m w tv x
 cons:∀c∈m.cons,E3n w tv c
theorem F3m {m:Mr} (hm:G0y w tv m) {n:Nat} (h1:m.rels.length<n) (h2:m.cons.length<n) (h3:∀x∈m.rels,x.args.length<=n):A7r n ⟨prtW w m,0,[]⟩=(⟨[],0,(occ m).map tv⟩,plM m):=by
 have e:prtW w m=vW (tv m.top)++([32]++(vW (tv m.index)++([32]++([123]++(sepL [59,32] (m.rels.map (prtE w))++125::(32::123::(sepL [59,32] (m.cons.map (prtQ w))++125::[]))))))):=by
  unfold prtW;rw[hm.top.1,hm.index.1];simp
 have ht:topR ⟨prtW w m,0,[]⟩=(⟨sepL [59,32] (m.rels.map (prtE w))++125::(32::123::(sepL [59,32] (m.cons.map (prtQ w))++125::[])),0,[tv m.top,tv m.index]⟩,0,1):=by
  rw[e];unfold topR;rw[B7d hm.top.2 (nd_a (by decide) _)];simp only;rw[A4o,B7d hm.index.2 (nd_a (by decide) _)];simp only;have e2:∀q:List UInt8,[32]++([123]++q)=[32,123]++q:=fun _=>rfl;rw[e2,A4o];rfl
 unfold A7r;rw[ht];simp only;rw[D9k n (fun x hx=>⟨hm.rels x hx,h3 x hx⟩) h1];simp only;have e3:∀(q:List UInt8) (s:List Vr),A1f [125,32,123] ⟨125::(32::123::q),0,s⟩=⟨q,0,s⟩:=fun q s=>A4o [125,32,123] q s;rw[e3,D9l hm.cons h2];simp only;have e4:∀s:List Vr,A1f [125] ⟨125::[],0,s⟩=⟨[],0,s⟩:=fun s=>A4o [125] [] s;rw[e4];unfold B4l;rw[if_neg (by simp)];unfold plM
 have hlen:([tv m.top,tv m.index]++(m.rels.flatMap occE).map tv).length=2+nE m.rels:=by
  rw[List.length_append,List.length_map,E3v];rfl
 rw[hlen];simp[occ]
end
theorem C5o {big:Bool}:∀{l:List UInt8} {first:Bool},(∀(i:Nat) c,l[i]?=some c->okAt big (i+(if first then 0 else 1)) c=true)->runW big first l=l
 | [],first,_=>by cases first<;>rfl
 | c::q,first,h=>by
  have h0:=h 0 c rfl;rw[runW,if_pos]
  ·congr 1;refine C5o fun i x hx=>?_;have:=h (i+1) x (by simpa using hx);unfold okAt at this ⊢
   have e1:decide (i+1+(if first then 0 else 1)≠0)=true:=by simp
   have e2:decide (i+(if false=true then 0 else 1)≠0)=true:=by simp
   rw[e1]at this;rw[e2];exact this
  ·unfold okAt at h0;unfold okC
   have e3:decide (c.toNat=45)=decide (c=45):=by
    rw[Bool.eq_iff_iff,decide_eq_true_iff,decide_eq_true_iff];constructor
    ·intro e;exact UInt8.toNat_inj.1 e
    ·rintro rfl;rfl
   rw[e3]at h0
   cases first with
   | true=>simpa using h0
   | false=>simpa using h0
theorem D1w {big:Bool} {s:ByteArray} (h:A0h big s=true):RunN big s:=by
 obtain⟨h1,_,h3⟩:=(A7p big s).1 h;refine⟨C5o fun i c hc=>by simpa using h3 i c hc,fun e=>?_⟩;have:(wb s).length=s.size:=rfl;rw[e]at this;simp at this;omega
theorem E8m {x:Int} (h0:0<=x):digW (Lib.itoa x)=Lib.itoa x/\Lib.itoa x≠[]:=by
 rw[C2d];by_cases h:x=0
 ·rw[if_pos h];exact⟨rfl,by simp⟩
 ·rw[if_neg h,if_neg (by omega)];obtain⟨d1,d2,d3,d4⟩:=E8h x.natAbs;have hne:=d4 (by omega);refine⟨?_,hne⟩
  cases hd:dd x.natAbs with
  | nil=>rfl
  | cons c q=>
   rw[hd]at d1 d3;rw[digW,if_pos (d1 c (by simp)),if_neg (by simpa using d3)];congr 1
   have:∀l:List UInt8,(∀c∈l,A1j c=true)->l.takeWhile A1j=l:=fun l hl=>by
    induction l with
    | nil=>rfl
    | cons a l ih=>rw[List.takeWhile_cons,if_pos (hl a (by simp)),ih fun c hc=>hl c (by simp[hc])]
   exact this q fun c hc=>d1 c (by simp[hc])
def tvM (m:Mr) (x:Int):Vr:=⟨vS m.vars x,ob (Lib.itoa x)⟩
theorem B7e {m:Mr} (h:A7q A0h m) {x:Int} (hx:inR m.vars.length x):wM m x=vW (tvM m x)/\A7t (tvM m x):=by
 have h1:=hx.1;have h2:=hx.2;obtain⟨d1,d2⟩:=E8m h1;refine⟨by unfold wM vW tvM;simp,B1v (h.sorts _ (by show vS m.vars x∈m.vars;unfold vS;exact A7f _ (by omega))),?_,?_⟩
 ·show digW (wb (ob (Lib.itoa x)))=wb (ob (Lib.itoa x));rw[A3o];exact d1
 ·show wb (ob (Lib.itoa x))≠[];rw[A3o];exact d2
theorem F7m {m:Mr} (h:A7q A0h m):G0y (wM m) (tvM m) m:=
 ⟨B7e h h.ok.top,B7e h h.ok.index,fun x hx=>by
  obtain⟨n1,n2⟩:=A9k (h.preds x hx);obtain⟨r1,r2⟩:=D1w n1;refine⟨r1,r2,B7e h (h.ok.rel hx (by simp[occE])),fun a ha=>?_⟩;obtain⟨a1,a2⟩:=D1w (n2 a ha)
  exact⟨a1,a2,B7e h (h.ok.rel hx (by simp only[occE,List.mem_cons,List.mem_map];exact .inr ⟨a,ha,rfl⟩))⟩,
 fun c hc=>⟨B7e h (h.ok.con hc (by simp[occC])),B7e h (h.ok.con hc (by simp[occC]))⟩⟩
theorem D9m {m:Mr} (h:A7q A0h m) {x:Int} (hx:inR m.vars.length x):numS (wb (tvM m x).digits)=(x,0):=by
 have h1:=hx.1;have h2:=hx.2;have h3:=h.vars;show numS (wb (ob (Lib.itoa x)))=_;rw[A3o];exact D5t x ⟨by omega,by omega⟩
theorem F3n {m:Mr} (h:A3c A0h m=0) (hl:(prtM m).length<=65536) (ha:∀x∈m.rels,x.args.length<=(prtM m).length) (hr:m.rels.length<=(prtM m).length) (hc:m.cons.length<=(prtM m).length):parM (prtM m) = .ok m:=by
 obtain⟨hL,hN⟩:=A5t.1 h
 have hf:=F3m (F7m hL) (n:=(prtM m).length+1) (by omega) (by omega) fun x hx=>by have:=ha x hx;omega
 have hf:A7r ((prtM m).length+1) ⟨prtM m,0,[]⟩=(⟨[],0,(occ m).map (tvM m)⟩,plM m):=hf;unfold parM;rw[if_neg (by omega),hf];simp only;rw[if_neg (by simp)]
 have hns:((occ m).map (tvM m)).map nmV=occ m:=by
  rw[List.map_map]
  conv=>rhs;rw[<-List.map_id (occ m)]
  refine List.map_congr_left fun x hx=>?_;show(numS (wb (tvM m x).digits)).1=x;rw[D9m hL (hL.ok x hx)]
 have hcnt:cntV (occ m)=m.vars.length:=by
  have:=of_decide_eq_true hN;show(fsts m).length=_;rw[this,A2u]
 have hnums:B7n ((occ m).map (tvM m))=some (occ m):=by
  unfold B7n;rw[if_pos,hns];rw[List.all_eq_true];intro v hv;obtain⟨x,hx,rfl⟩:=List.mem_map.1 hv;rw[D9m hL (hL.ok x hx)];rfl
 have hsort:∀v∈(occ m).map (tvM m),v.sort=vS m.vars (nmV v):=fun v hv=>by
  obtain⟨x,hx,rfl⟩:=List.mem_map.1 hv;show vS m.vars x=vS m.vars (numS (wb (tvM m x).digits)).1;rw[D9m hL (hL.ok x hx)]
 have hmis:∀(l acc:List Vr),(∀v∈acc++l,v.sort=vS m.vars (nmV v))->misA acc l=false:=by
  intro l
  induction l with
  | nil=>intro acc _;rfl
  | cons x r ih=>
   intro acc hh;rw[misA,Bool.or_eq_false_iff];refine⟨?_,ih _ fun v hv=>hh v (by simpa using hv)⟩;rw[List.any_eq_false];intro y hy;rw[hh y (by simp[hy]),hh x (by simp)];by_cases e:nmV y=nmV x
   ·rw[e];simp
   ·rw[decide_eq_false e];simp
 have hord:ordV (occ m)=true:=by
  unfold ordV;rw[hcnt,List.all_eq_true];exact fun x hx=>decide_eq_true (hL.ok x hx).2
 have hout:outM (plM m) ((occ m).map (tvM m))=m:=by
  unfold outM;rw[hns,hcnt];obtain⟨_,p2,p3⟩:=F7k m;have q1:toV (occ m)=fun p=>(occ m).getD p.toNat 0:=rfl;rw[q1];show Mr.mk ((occ m).getD 0 0) ((occ m).getD 1 0) _ ((plEs 2 m.rels).map _) ((plQs (2+nE m.rels) m.cons).map _)=m;rw[p2,p3]
  have hv:(upN m.vars.length).map (A3p ((occ m).map (tvM m)))=m.vars:=by
   conv=>rhs;rw[<-E8r m.vars]
   refine List.map_congr_left fun x hx=>?_;have ho:=D5q hN x (A2h.1 hx);have hm:tvM m x∈(occ m).map (tvM m):=List.mem_map_of_mem ho;have:=D9c (hmis _ [] (by simpa using hsort)) hm
   have e:nmV (tvM m x)=x:=by
    show(numS (wb (tvM m x).digits)).1=x;rw[D9m hL (hL.ok x ho)]
   rw[e]at this;exact this
  rw[hv];rfl
 unfold finM;rw[hnums];simp only;rw[hmis _ [] (by simpa using hsort),if_neg (by decide),hord,if_neg (by decide),hout,if_neg (fun e=>e h)]
end Go.Proofs.YtmgjopafgboljaaGreatDoor
