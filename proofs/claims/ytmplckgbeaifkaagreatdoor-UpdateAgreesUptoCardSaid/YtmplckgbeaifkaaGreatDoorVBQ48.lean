/-
 Auxiliary facts. No statement of the program stands here.
-/
import Derived.Test.YtmplckgbeaifkaaGreatDoorVBQ37
namespace Go.Proofs.YtmplckgbeaifkaaGreatDoor
set_option linter.unusedSimpArgs false
set_option linter.unusedVariables false
open Go Go.Abs
variable {q : Gl}
def B2l (ps:List Pr) (x:Dc):Bool:=decide (x.p∈ps) != x.yes
theorem E7n (ds:List Dc) (d:Dv):(!ds.any (B2l (prp d)))=agr ds d:=by
 unfold agr
 induction ds with
 | nil=>rfl
 | cons x r ih=>
  rw[List.any_cons,List.all_cons,Bool.not_or,ih];congr 1;unfold B2l holds;cases decide (x.p∈prp d)<;>cases x.yes<;>rfl
theorem B3h:FnOK Tryz.prog (G q) 111 2 11 A7n [(.tmp 3)]:=⟨Tryz.f111,Tryz.func111,by kernel_rfl,by kernel_rfl,by kernel_rfl,by kernel_rfl⟩
def Hrm (tp:T) (out:List Nat):Heap:=[(1,.cells 88 [.t tp])]++rowH eInt 3 0 (natI out)
theorem E1a {tp:T} {ps:List Pr} {out:List Nat} (x:Dc) (hp:IsS ePr tp ps) (hA:AscP ps) (hl:ps.length<=1000000) :
  A2g Tryz.prog (G q) 111 ([]++[PV.t (.ag (eDc.enc x))]++[.ptr 1 0]) (Hrm tp out) 2 (.t (bv (B2l ps x))) (Hrm tp out) 2:=by
 have C:Ctx Tryz.prog (G q) _:=(A0y.cons (hHas (q:=q)) .nil).ctx mixed;obtain⟨⟨k,n,f,t⟩,y⟩:=x;have cd:A1m (.t (.ag (eDc.enc ⟨⟨k,n,f,t⟩,y⟩)))=some [.t (iv k),.t (sv n),.t (iv f),.t (iv t),.t (bv y)]:=rfl;have eH:=E6k ⟨k,n,f,t⟩ hp hA hl
 obtain⟨H0,hH0⟩:∃H0,H0=Hrm tp out:=⟨_,rfl⟩
 have l1:Abs.look H0 1=some (.cells 88 [.t tp]):=by rw[hH0];rfl
 obtain⟨H1,hH1⟩:∃H1:Heap,H1=(2,.cells 61 [.t (iv k),.t (sv n),.t (iv f),.t (iv t),.t (bv y)])::H0:=⟨_,rfl⟩
 have ld1:A0g false 1 H1 (.ptr 1 0)=some (.t tp):=by rw[hH1];simp[A0g,l1]
 have ld2:A0g true 4 H1 (.ptr 2 0)=some (.t (.ag (ePr.enc ⟨k,n,f,t⟩))):=by rw[hH1];rfl
 have ld3:A0g false 1 H1 (.ptr 2 4)=some (.t (bv y)):=by rw[hH1];rfl
 rw[<-hH0];refine B3h.callP rfl ?_;unfold A7n;simp only[List.nil_append,List.singleton_append];refine A0c C ?_;simp -implicitDefEqProofs [cd,<-hH1,ld1,ld2,ld3,eH];refine⟨.inr rfl,⟨[(3,.t (bv (B2l ps ⟨⟨k,n,f,t⟩,y⟩)))],H0,2,11⟩,[.t (bv (B2l ps ⟨⟨k,n,f,t⟩,y⟩))],B0z (by omega) (fun z hz=>?_) (by simp -implicitDefEqProofs [under,B2l];cases decide ((⟨k,n,f,t⟩:Pr)∈ps)<;>cases y<;>rfl),rfl,rfl,rfl,rfl⟩;rw[hH0]at hz;rcases List.mem_append.1 hz with hz | hz
 ·simp only[List.mem_singleton]at hz;subst hz;exact⟨by rw[hH1,look_cons,if_neg (by show 2≠1;omega)];exact l1,by show 1<2;omega,rfl⟩
 ·obtain⟨hn,rfl⟩:=A2e hz;refine⟨?_,by show 0<2;omega,A1k _ _ _ _⟩;rw[hH1,hH0,look_cons,if_neg (by show 2≠0;omega)];show Abs.look (rowH eInt 3 0 (natI out)) 0=_;exact(A0p.head' eInt 3 0 (natI out)).resolve_left hn
def SRmn (t td:T) (n:Nat) (a:Nat×List Nat):A0b:=⟨[(11,.t (iv (a.1:Int))),(10,.t (iv (n:Int))),(9,.t t),(5,rowP eInt 0 (natI a.2)),(1,.t td)],rowH eInt 3 0 (natI a.2),1,27⟩
theorem C2e {td:T} {l:List Dv} {ds:List Dc} (hd:IsS eDc td ds) (hs:SmK l) (hds:ds.length<=1000000) :
  A0w Tryz.prog (G q) 63 [B1e l,td] (· = A1g eInt (natI (remD l ds))):=by
 have ht:IsS eRaw (B1e l) (l.map prpT):=.inr rfl;have l1:=ht.len;rw[List.length_map]at l1;have hl:=hs.len
 obtain⟨t,htt⟩:∃t,t=B1e l:=⟨_,rfl⟩
 rw[<-htt]at ht l1 ⊢;refine B7r.call rfl ?_;unfold A9o
 obtain⟨R,hR⟩:∃R,R=remD l ds:=⟨_,rfl⟩
 have hRl:R.length<=10000:=by rw[hR];have:=B8s ds l 0;show(remF 0 l ds).length<=_;omega
 rw[<-hR];refine A0a A0x ?_;simp -implicitDefEqProofs;refine A0a A0x ?_;simp -implicitDefEqProofs;refine A0o (α:=Unit) (fun _=>⟨[(5,rowP eInt 0 (natI R))],rowH eInt 3 0 (natI R),1,27⟩) (fun _=>True) (fun _=>rfl) ?_ ?_
 ·refine A0a A0x ?_;simp -implicitDefEqProofs [l1];refine A0f ?_;refine A0k (SRmn t td l.length) (fun a=>l.length-a.1) (fun a=>a.1<=l.length/\a.2++remF a.1 (l.drop a.1) ds=R) (0,[]) (fun _=>rfl) ⟨Nat.zero_le _,by simp[hR,remD]⟩ ?_ rfl ?_
  ·exact A9e (e:=eInt) (l:=natI []) (k:=0) (A0p.nil _ _ _ _) (by omega) (by omega) (by simp -implicitDefEqProofs [rowP,ren,under])
  rintro⟨i,out⟩ ⟨hi,heq⟩;simp only at hi heq
  have hol:out.length<=10000:=by
   have:=congrArg List.length heq;simp only[List.length_append]at this;omega
  by_cases hlt:i<l.length
  ·obtain⟨x,hx⟩:∃x,l[i]?=some x:=⟨_,List.getElem?_eq_getElem hlt⟩
   have hxm:(l.map prpT)[i]?=some (prpT x):=by rw[List.getElem?_map,hx];rfl
   have i1:A1o 1 (.t t) (.t (iv (i:Int)))=some (.t (.pt (prpT x::rest eRaw (l.map prpT) i))):=ht.iaddr hxm .i64;have ld:∀H,A0g false 1 H (.t (.pt (prpT x::rest eRaw (l.map prpT) i)))=some (.t (prpT x)):=fun _=>rfl;have hxn:=hs.kid (List.mem_of_getElem? hx);have hpl:=C6i x;have e1:IntKind.i64.wrap ((i:Int)+1)=((i+1:Nat):Int):=A0h (by omega) (by omega);rw[List.drop_eq_getElem_cons hlt,(List.getElem?_eq_some_iff.1 hx).2,remF]at heq;have hc:=B4u (q:=q) (F:=111) (first:=[]) (cap:=[.ptr 1 0]) (p:=B2l (prp x)) (H:=Hrm (prpT x) out) (nx:=2) hd hds (fun y _=>E1a y (C0z x) (C8o _) (by omega))
   obtain⟨t1,o1,ok1⟩:∃t1,t1 [.t td,.fn (.func 111) [] [.ptr 1 0]] (Hrm (prpT x) out) 2=some (.t (bv (ds.any (B2l (prp x)))),Hrm (prpT x) out,2)/\HOK Tryz.prog (G q) 112 t1:=⟨_,A3b _ _ _ _,A3h hc (fun hf=>hf)⟩
   have C:Ctx Tryz.prog (G q) _:=A0y.nil.ctxH (A2s.cons ok1 .nil) mixed;have ha:=E7n ds x
   obtain⟨H0,hH0⟩:∃H0,H0=rowH eInt 3 0 (natI out):=⟨_,rfl⟩
   have r0:A0p eInt 3 H0 0 (natI out):=by rw[hH0];exact A0p.head' _ _ _ _
   obtain⟨H1,hH1⟩:∃H1,H1=Hrm (prpT x) out:=⟨_,rfl⟩
   have st:A0t 1 ((1,.cells 88 [.t (.v (.slice none 0 0))])::H0) (.ptr 1 0) (.t (prpT x))=some H1:=by
    have hc:=C4e ePr (prp x);rw[hH1,Hrm,<-hH0];simp only[A0t,prpT,hc,look_cons];rfl
   have r1:A0p eInt 3 H1 0 (natI out):=by rw[hH1,Hrm,<-hH0];exact r0.cons (k:=1) (by omega)
   rw[<-hH1]at o1;have mk:exM (.mkf (.func 111) 0) [.ptr 1 0]=some (.fn (.func 111) [] [.ptr 1 0]):=rfl;unfold SRmn;rw[<-hH0]
   cases hg:agr ds x with
   | true=>
    rw[hg]at ha
    have hw:ds.any (B2l (prp x))=false:=by simpa using ha
    rw[hg,if_pos rfl]at heq;obtain⟨b',H',nx',ap,ra,hne,hle,hold,hge⟩:=A9g (e:=eInt) (ty:=3) (by':=8) (nx:=3) (H:=(2,.cells 3 ((eInt.enc (i:Int)).map .t))::H1) (b:=0) (l:=natI out) (m:=[(i:Int)]) (r1.cons (by omega)) (A9d (e:=eInt) (ty:=3) (b:=2) (i:Int) rfl) (by simp;omega) (by simp;omega);have ap:appM 3 1 8 ((2,.cells 3 [.t (iv (i:Int))])::H1) 3 (rowP eInt 0 (natI out)) (.row 2 0 1 1)=some (rowP eInt b' (natI out++[(i:Int)]),H',nx'):=ap;have bs1:A3l 3 1 [.int .i64 0] 1 [(0,.t (iv (i:Int)))] 2=some (.row 2 0 1 1,.cells 3 [.t (iv (i:Int))]):=rfl
    have hr:natI out++[(i:Int)]=natI (out++[i]):=by simp[natI]
    rw[hr]at ap ra;rw[hw]at o1;refine A0c C ?_;simp -implicitDefEqProofs [hlt,i1,ld,st,mk,o1,bs1,ap,e1];refine Abs.Next.mk (i+1,out++[i]) ⟨⟨by show i+1<=_;omega,by simpa using heq⟩,by show l.length-(i+1)<l.length-i;omega⟩ ?_;refine A9e (k:=b') ra (by omega) (by omega) ?_;simp -implicitDefEqProofs [A2b,A1j,ren,under]
   | false=>
    rw[hg]at ha
    have hw:ds.any (B2l (prp x))=true:=by simpa using ha
    rw[hg,if_neg (by simp)]at heq;rw[hw]at o1;refine A0c C ?_;simp -implicitDefEqProofs [hlt,i1,ld,st,mk,o1,e1];refine Abs.Next.mk (i+1,out) ⟨⟨by show i+1<=_;omega,heq⟩,by show l.length-(i+1)<l.length-i;omega⟩ ?_;refine A9e (k:=0) r1 (by omega) (by omega) ?_;simp -implicitDefEqProofs [A2b,A1j,ren,under]
  ·have e:out=R:=by
    rw[<-heq,List.drop_of_length_le (by omega)];simp[remF]
   subst e;unfold SRmn;refine A0c A0x ?_;simp -implicitDefEqProofs [hlt];exact Abs.Next.mk () trivial (A0d (by simp -implicitDefEqProofs))
 ·rintro _ -;have tt:=(A0p.head' eInt 3 0 (natI R)).toT;refine A0c A0x ?_;simp -implicitDefEqProofs [tt,-toT]
noncomputable def gRem:List T->Option T:=g2 tK (tSl eDc) fun l ds=>open Classical in if SmK l/\ds.length<=1000000 then some (A1g eInt (natI (remD l ds)))else none
theorem hRem:GOK Tryz.prog (G q) 30 gRem:=A4e fun a b l ds r ha hb hr=>by
 split at hr
 ·rename_i hc;injection hr with hr;subst hr
  obtain⟨t1,o1,ok1⟩:∃t1:List T->Option T,t1 [B1e l,b]=some (A1g eInt (natI (remD l ds)))/\GOK Tryz.prog (G q) 63 t1:=by
   refine⟨fun ts=>open Classical in if ts=[B1e l,b]then some (A1g eInt (natI (remD l ds)))else none,if_pos rfl,fun args r h=>?_⟩;simp only at h;split at h
   ·rename_i e;injection h with h;subst h;subst e;exact C2e hb hc.1 hc.2
   ·cases h
  have eA:=E6n ha hc.1;refine B7q.runs ((A0y.cons (hAll (q:=q)) (.cons ok1 .nil)).ctx mixed) rfl ?_;simp -implicitDefEqProofs [A9n,eA,o1]
 ·cases hr
theorem C6w {t td:T} {l:List Dv} {ds:List Dc} (ht:IsK t l) (hd:IsS eDc td ds) (hs:SmK l) (hds:ds.length<=1000000):gRem [t,td]=some (A1g eInt (natI (remD l ds))):=by
 show g2 _ _ _ _=_;rw[A4u (τ:=tK) (σ:=tSl eDc) ht hd,if_pos ⟨hs,hds⟩]
def catP (l:List Dv) (i:Nat):List Pr:=(l.take i).flatMap prp
theorem C1l {l:List Dv} {i:Nat} {x:Dv} (h:l[i]?=some x):catP l (i+1)=catP l i++prp x:=by
 unfold catP;rw[List.take_add_one,h,List.flatMap_append];simp
theorem D7c {l:List Dv} (hs:SmK l) (i:Nat):(catP l i).length<=20000:=by
 have:∀l:List Dv,(l.flatMap prp).length<=2*nodK l:=by
  intro l
  induction l with
  | nil=>simp[nodK]
  | cons d r ih=>
   have:=C6i d;rw[List.flatMap_cons,List.length_append,nodK];omega
 have h1:=this (l.take i)
 have h2:nodK (l.take i)<=nodK l:=by
  have:=B3d (l.take i) (l.drop i);rw[List.take_append_drop]at this;omega
 unfold SmK at hs;show((l.take i).flatMap prp).length<=_;omega
theorem E7o {l:List Dv} {i j:Nat} (h:i<=j):(catP l i).length<=(catP l j).length:=by
 obtain⟨k,rfl⟩:∃k,j=i+k:=⟨j-i,by omega⟩
 unfold catP;rw[List.take_add,List.flatMap_append,List.length_append];omega
theorem D7d (l:List Dv):catP l l.length=l.flatMap prp:=by unfold catP;rw[List.take_length]
def SCc (t:T) (l:List Dv) (i:Nat):A0b:=⟨[(11,.t (iv (i:Int))),(10,.t (iv (l.length:Int))),(9,.t t),(3,.t (iv ((catP l i).length:Int))),(0,.t t)],[],0,36⟩
def SCd (t:T) (l:List Dv) (i:Nat):A0b:=⟨[(27,.t (iv (i:Int))),(26,.t (iv (l.length:Int))),(25,.t t),(6,.t nilS)],[],0,36⟩
def SCe (t:T) (l:List Dv) (i:Nat):A0b:=⟨[(27,.t (iv (i:Int))),(26,.t (iv (l.length:Int))),(25,.t t),(6,.row 0 0 (catP l i).length 4)],[]++[(0,A1b ePr 59 (catP l i))],1,36⟩
theorem D3y {l:List Dv} (hs:SmK l):A2g Tryz.prog (G q) 161 [.t (B1e l)] [] 0 (rowP ePr 0 (l.flatMap prp)) (rowH ePr 59 0 (l.flatMap prp)) 1:=by
 have ht:IsS eRaw (B1e l) (l.map prpT):=.inr rfl;have l1:=ht.len;rw[List.length_map]at l1;have hl:=hs.len
 obtain⟨t,htt⟩:∃t,t=B1e l:=⟨_,rfl⟩
 rw[<-htt]at ht l1 ⊢;have hcl:=D7c hs
 have hel:∀(i:Nat) x,l[i]?=some x->A1o 1 (.t t) (.t (iv (i:Int)))=some (.t (.pt (prpT x::rest eRaw (l.map prpT) i))):=fun i x hx=>
  ht.iaddr (show(l.map prpT)[i]?=some (prpT x)by rw[List.getElem?_map,hx];rfl) .i64
 have ld:∀x i H,A0g false 1 H (.t (.pt (prpT x::rest eRaw (l.map prpT) i)))=some (.t (prpT x)):=fun _ _ _=>rfl;rw[<-D7d]
 obtain⟨N,hN⟩:∃N,N=(catP l l.length).length:=⟨_,rfl⟩
 have hg:=E0i (q:=q) (H:=[]) (nx:=0) (n:=N) (by rw[hN];have:=hcl l.length;omega);refine B5w.callP rfl ?_;unfold A8m;refine A0a A0x ?_;simp -implicitDefEqProofs;refine A0a A0x ?_;simp -implicitDefEqProofs;refine A0o (α:=Unit) (fun _=>⟨[(3,.t (iv (N:Int))),(0,.t t)],[],0,36⟩) (fun _=>True) (fun _=>rfl) ?_ ?_
 ·refine A0a A0x ?_;simp -implicitDefEqProofs [l1];refine A0f ?_;refine C8i (SCc t l) l.length (fun _=>rfl) ?_ rfl ?_ ?_
  ·refine A0d ?_;simp -implicitDefEqProofs [SCc,catP]
  ·intro i hi
   obtain⟨x,hx⟩:∃x,l[i]?=some x:=⟨_,List.getElem?_eq_getElem hi⟩
   have i1:=hel i x hx;have lx:=(C0z x).len;have e1:IntKind.i64.wrap ((i:Int)+1)=((i+1:Nat):Int):=A0h (by omega) (by omega);have hst:=C1l hx;have hlen:=hcl (i+1)
   have e2:IntKind.i64.wrap (((catP l i).length:Int)+((prp x).length:Int))=((catP l (i+1)).length:Int):=by
    rw[hst,List.length_append]at *;exact A0h (by omega) (by omega)
   have hnn:¬((catP l (i+1)).length:Int)<0:=by omega
   refine A0c A0x ?_;simp -implicitDefEqProofs [SCc,hi,i1,ld,lx,e1,e2,hnn];exact A0d (by simp -implicitDefEqProofs [SCc])
  ·refine A0c A0x ?_;simp -implicitDefEqProofs [SCc];exact Abs.Next.mk () trivial (A0d (by simp -implicitDefEqProofs [SCc,hN]))
 rintro _ -;by_cases h0:N=0
 ·have hnil:∀i,i<=l.length->catP l i=[]:=fun i hi=>by
   have:=E7o (l:=l) hi;exact List.eq_nil_of_length_eq_zero (by omega)
  rw[h0]at hg;simp only[if_true]at hg
  obtain⟨t1,o1,ok1⟩:∃t1,t1 [.t nilS,.t (iv (0:Nat))] ([]:Heap) 0=some (.t nilS,[],0)/\HOK Tryz.prog (G q) 186 t1:=⟨_,A3b _ _ _ _,A3h hg (fun hf=>hf)⟩
  have o1:t1 [.t (.v (.slice none 0 0)),.t (.v (.int .i64 0))] [] 0=some (.t nilS,[],0):=o1;have C:Ctx Tryz.prog (G q) _:=A0y.nil.ctxH (A2s.cons ok1 .nil) mixed;rw[hnil l.length (Nat.le_refl _)];subst h0;refine A0a C ?_;simp -implicitDefEqProofs [o1];refine A0o (α:=Unit) (fun _=>⟨[(6,.t nilS)],[],0,36⟩) (fun _=>True) (fun _=>rfl) ?_ ?_
  ·refine A0a A0x ?_;simp -implicitDefEqProofs [l1];refine A0f ?_;refine C8i (SCd t l) l.length (fun _=>rfl) ?_ rfl ?_ ?_
   ·refine A0d ?_;simp -implicitDefEqProofs [SCd]
   ·intro i hi
    obtain⟨x,hx⟩:∃x,l[i]?=some x:=⟨_,List.getElem?_eq_getElem hi⟩
    have i1:=hel i x hx;have e1:IntKind.i64.wrap ((i:Int)+1)=((i+1:Nat):Int):=A0h (by omega) (by omega)
    have hpx:prp x=[]:=by
     have:=C1l hx;rw[hnil i (by omega),hnil (i+1) (by omega)]at this;simpa using this.symm
    have hpt:prpT x=nilS:=by rw[prpT,hpx];rfl
    have ap:∀H nx,appM 59 4 40 H nx (.t nilS) (.t nilS)=some (.t nilS,H,nx):=fun _ _=>rfl;have ldx:=ld x i;rw[hpt]at i1 ldx;refine A0c A0x ?_;simp -implicitDefEqProofs [SCd,hi,i1,ldx,ap,e1];exact A0d (by simp -implicitDefEqProofs [SCd])
   ·refine A0c A0x ?_;simp -implicitDefEqProofs [SCd];exact Abs.Next.mk () trivial (A0d (by simp -implicitDefEqProofs [SCd]))
  ·rintro _ -;refine A0c A0x ?_;simp -implicitDefEqProofs;exact⟨.inr rfl,⟨[(2,.t nilS)],[],1,36⟩,[.t nilS],A2x (by omega) (by simp -implicitDefEqProofs [under]),rfl,rfl,rfl,rfl⟩
 ·rw[if_neg h0,if_neg h0,if_neg h0]at hg
  obtain⟨t1,o1,ok1⟩:∃t1,t1 [.t nilS,.t (iv (N:Int))] ([]:Heap) 0=some (.row 0 0 0 4,[(0,.cells 59 [])],1)/\HOK Tryz.prog (G q) 186 t1:=⟨_,A3b _ _ _ _,A3h hg (fun _ b x hb=>by
   simp only[look_cons,look_nil]at hb;split at hb
   ·omega
   ·cases hb)⟩
  have o1:t1 [.t (.v (.slice none 0 0)),.t (iv (N:Int))] [] 0=some (.row 0 0 0 4,[(0,.cells 59 [])],1):=o1;have C:Ctx Tryz.prog (G q) _:=A0y.nil.ctxH (A2s.cons ok1 .nil) mixed;refine A0a C ?_;simp -implicitDefEqProofs [o1];refine A0o (α:=Unit) (fun _=>⟨[(6,.row 0 0 (catP l l.length).length 4)],[]++[(0,A1b ePr 59 (catP l l.length))],1,36⟩) (fun _=>True) (fun _=>rfl) ?_ ?_
  ·refine A0a A0x ?_;simp -implicitDefEqProofs [l1];refine A0f ?_;refine C8i (SCe t l) l.length (fun _=>rfl) ?_ rfl ?_ ?_
   ·have:catP l 0=[]:=by simp[catP]
    unfold SCe;rw[this];refine A9k (e:=ePr) (l:=[]) (k:=0) rfl (by omega) (by omega) (fun q hq=>by cases hq) ?_;simp -implicitDefEqProofs [ren,under]
   ·intro i hi
    obtain⟨x,hx⟩:∃x,l[i]?=some x:=⟨_,List.getElem?_eq_getElem hi⟩
    have i1:=hel i x hx;have e1:IntKind.i64.wrap ((i:Int)+1)=((i+1:Nat):Int):=A0h (by omega) (by omega);have hst:=C1l hx;have hlen:=hcl (i+1)
    have hlen2:(catP l i).length+(prp x).length<=20000:=by rw[hst,List.length_append]at hlen;exact hlen
    have ap:=B4s (e:=ePr) (ty:=59) (b:=0) (l:=catP l i) (by':=40) (nx:=1) (H:=[(0,A1b ePr 59 (catP l i))]) (src:=.t (prpT x)) rfl (A7m (C0z x)) (by omega) (by omega);rw[<-hst]at ap;have ap:appM 59 4 40 [(0,A1b ePr 59 (catP l i))] 1 (.row 0 0 (catP l i).length 4) (.t (prpT x))=some (.row 1 0 (catP l (i+1)).length 4,[(1,A1b ePr 59 (catP l (i+1)))],2):=ap;refine A0c A0x ?_;simp -implicitDefEqProofs [SCe,hi,i1,ld,ap,e1];refine A9k (e:=ePr) (l:=catP l (i+1)) (R:=[]) (k:=1) rfl (by omega) (by omega) (fun q hq=>by cases hq) ?_;simp -implicitDefEqProofs [ren,under]
   ·refine A0c A0x ?_;simp -implicitDefEqProofs [SCe];exact Abs.Next.mk () trivial (A0d (by simp -implicitDefEqProofs))
  ·rintro _ -;refine A0c A0x ?_;simp -implicitDefEqProofs;have hne:catP l l.length≠[]:=fun e=>h0 (by rw[hN,e];rfl)
   have er:rowP ePr 0 (catP l l.length) = .row 0 0 (catP l l.length).length 4:=by
    cases h:catP l l.length with
    | nil=>exact absurd h hne
    | cons x r=>rfl
   have eh:rowH ePr 59 0 (catP l l.length)=[(0,A1b ePr 59 (catP l l.length))]:=by
    cases h:catP l l.length with
    | nil=>exact absurd h hne
    | cons x r=>rfl
   rw[er,eh];exact⟨.inr rfl,_,_,Sub.refl _,rfl,rfl,rfl,rfl⟩
theorem E7p {l:List Dv} (hs:SmK l):(l.flatMap prp).length<=20000:=by rw[<-D7d];exact D7c hs _
theorem B6g (n:Nat):∀(f:Nat) (m:List Pr),(A5i n f m).length<=m.length
 | 0,m=>by cases m<;>simp[A5i]
 | f+1,[]=>by simp[A5i]
 | f+1,x::r=>by
  have h1:=B6g n f (r.drop (runP x r));rw[List.length_drop]at h1;rw[A5i];split<;>simp only[List.length_cons]<;>omega
def Hdf (m out:List Pr):Heap:=rowH ePr 59 0 m++rowH ePr 59 1 out
def SDf (t:T) (m:List Pr) (a:Nat×List Pr):A0b:=⟨[(5,.t (iv (a.1:Int))),(4,rowP ePr 1 a.2),(3,rowP ePr 0 m),(0,.t t)],Hdf m a.2,2,49⟩
theorem F5v {t:T} {m out:List Pr} {b nx n:Nat} {env env':List (Nat×PV)} {H:Heap} (hm:A0p ePr 59 H 0 m) (ho:A0p ePr 59 H b out) (hb:b≠0)
  (he:∀q∈env',Abs.look env q.1=some (ren (fun x=>if x=1 then b else x) q.2)/\under 2 q.2=true) :
  Sub Tryz.prog (G q) 0 ⟨env,H,nx,n⟩ ⟨env',Hdf m out,2,n⟩:=
 B8g ho (by omega) (by omega) (fun x hx=>by
  obtain⟨hn,rfl⟩:=A2e hx
  exact⟨by rw[A2a];exact hm.resolve_left hn,by show 0<2;omega,by show 0≠1;omega,Ne.symm hb,A1k _ _ _ _⟩) he
theorem Hdf_0 (m out:List Pr):A0p ePr 59 (Hdf m out) 0 m:=A0p.head _ _ _ _ _
theorem F9c (m out:List Pr):A0p ePr 59 (Hdf m out) 1 out:=(A0p.head' ePr 59 1 out).right (fun x hx=>by obtain⟨_,rfl⟩:=A2e hx;show 0≠1;omega)
theorem F9d {a b:Nat} (h:b<=a) (ha:a<=1000000000):IntKind.i64.wrap ((a:Int)-(b:Int))=((a-b:Nat):Int):=A0h (by omega) (by omega)
set_option maxHeartbeats 1000000 in
theorem D3z {l:List Dv} (hs:SmK l):A0w Tryz.prog (G q) 113 [B1e l] (· = A1g ePr (disc l)):=by
 have ht:IsS eRaw (B1e l) (l.map prpT):=.inr rfl;have l1:=ht.len;rw[List.length_map]at l1;have hl:=hs.len;have hcat:=E7p hs
 obtain⟨J,hJ⟩:∃J,J=l.flatMap prp:=⟨_,rfl⟩
 have hconc:=D3y (q:=q) hs;have hD:=E5n l;rw[<-hJ]at hconc hD hcat
 obtain⟨t,htt⟩:∃t,t=B1e l:=⟨_,rfl⟩
 rw[<-htt]at l1 hconc ⊢;have rJ:A0p ePr 59 (rowH ePr 59 0 J) 0 J:=A0p.head' _ _ _ _;have hsort:=B4t (q:=q) (nx:=1) rJ (by omega)
 obtain⟨m,hm⟩:∃m,m=srtP J:=⟨_,rfl⟩
 have hml:m.length=J.length:=by rw[hm];exact B8o J
 have hH:(if J.isEmpty then rowH ePr 59 0 J else upd (rowH ePr 59 0 J) 0 (A1b ePr 59 (srtP J)))=rowH ePr 59 0 m:=by
  cases J with
  | nil=>rw[List.eq_nil_of_length_eq_zero hml];rfl
  | cons x r=>
   cases hmm:m with
   | nil=>rw[hmm]at hml;simp at hml
   | cons y s=>rw[<-hm,hmm];rfl
 rw[hH,<-C6p ePr 0 hml]at hsort;rw[<-C6p ePr 0 hml]at hconc
 have ff:∀(J:List Pr) b x,Abs.look (rowH ePr 59 0 J) b=some x->b<1:=fun J b x hb=>by
  cases J with
  | nil=>cases hb
  | cons y s=>
   simp only[rowH,look_cons,look_nil]at hb;split at hb
   ·omega
   ·cases hb
 obtain⟨t1,o1,ok1⟩:∃t1,t1 [.t t] ([]:Heap) 0=some (rowP ePr 0 m,rowH ePr 59 0 J,1)/\HOK Tryz.prog (G q) 161 t1:=⟨_,A3b _ _ _ _,A3h hconc (fun _=>ff J)⟩
 obtain⟨t2,o2,ok2⟩:∃t2,t2 [rowP ePr 0 m,.t (fv 115)] (rowH ePr 59 0 J) 1=some (.t (.tu []),rowH ePr 59 0 m,1)/\HOK Tryz.prog (G q) 117 t2:=⟨_,A3b _ _ _ _,A3h hsort (fun _=>ff m)⟩
 have C:Ctx Tryz.prog (G q) _:=A0y.nil.ctxH (A2s.cons ok1 (.cons ok2 .nil)) mixed;rw[<-hm]at hD
 obtain⟨D,hDD⟩:∃D,D=disc l:=⟨_,rfl⟩
 rw[<-hDD]at hD ⊢
 obtain⟨HJ,hHJ⟩:∃HJ,HJ=rowH ePr 59 0 J:=⟨_,rfl⟩
 rw[<-hHJ]at o1 o2;have o2:t2 [rowP ePr 0 m,.t (.v (.func (.func 115) #[] #[]))] HJ 1=some (.t (.tu []),rowH ePr 59 0 m,1):=o2;clear hsort hconc hH rJ hm hHJ
 have hDl:D.length<=20000:=by
  have:=B6g l.length m.length m;rw[hD]at this;omega
 refine C5r.call rfl ?_;unfold B4l;refine A0a C ?_;simp -implicitDefEqProofs;refine A0a C ?_;simp -implicitDefEqProofs [o1];refine A0a C ?_;simp -implicitDefEqProofs [o2];refine A0a C ?_;simp -implicitDefEqProofs;refine A0o (α:=Unit) (fun _=>⟨[(4,rowP ePr 1 D)],Hdf m D,2,49⟩) (fun _=>True) (fun _=>rfl) ?_ ?_
 ·refine A0a C ?_;simp -implicitDefEqProofs;refine A0f ?_;refine A0k (SDf t m) (fun a=>m.length-a.1) (fun a=>a.1<=m.length/\∃f,m.length-a.1<=f/\a.2++A5i l.length f (m.drop a.1)=D) (0,[]) (fun _=>rfl) ⟨Nat.zero_le _,m.length,by show _-0<=_;omega,by simpa using hD⟩ ?_ rfl ?_
  ·refine F5v (t:=t) (out:=[]) (b:=1) (A0p.head' _ _ _ _) (.inl rfl) (by omega) ?_;simp -implicitDefEqProofs [A2b,A1j,show rowP ePr 1 ([]:List Pr) = .t nilS from rfl,ren,under]
  rintro⟨i,out⟩ ⟨hi,f,hf,heq⟩;simp only at hi hf heq
  have hol:out.length<=20000:=by
   have:=congrArg List.length heq;rw[List.length_append]at this;omega
  have lm:=B4c ePr 0 m
  obtain⟨H0,hH0⟩:∃H0,H0=Hdf m out:=⟨_,rfl⟩
  have r0:A0p ePr 59 H0 0 m:=by rw[hH0];exact Hdf_0 m out
  have r1:A0p ePr 59 H0 1 out:=by rw[hH0];exact F9c m out
  unfold SDf;rw[<-hH0];by_cases hlt:i<m.length
  ·obtain⟨x,hx⟩:∃x,m[i]?=some x:=⟨_,List.getElem?_eq_getElem hlt⟩
   have hdx:m.drop i=x::m.drop (i+1):=by rw[List.drop_eq_getElem_cons hlt,(List.getElem?_eq_some_iff.1 hx).2]
   obtain⟨g,rfl⟩:∃g,f=g+1:=⟨f-1,by omega⟩
   obtain⟨r,hr⟩:∃r,r=runP x (m.drop (i+1)):=⟨_,rfl⟩
   have hrl:r<=m.length-(i+1):=by rw[hr];have:=D6s x (m.drop (i+1));rw[List.length_drop]at this;exact this
   rw[hdx,A5i,<-hr,List.drop_drop]at heq;have i1:A1o 4 (rowP ePr 0 m) (.t (iv (i:Int)))=some (.ptr 0 (i*4)):=B5r (e:=ePr) hx .i64;have ldi:A0g true 4 H0 (.ptr 0 (i*4))=some (.t (.ag (ePr.enc x))):=r0.loadAg hx;have e1:IntKind.i64.wrap ((i:Int)+1)=((i+1:Nat):Int):=A0h (by omega) (by omega)
   obtain⟨K,hK⟩:∃K,K=i+1+r:=⟨_,rfl⟩
   rw[<-hK]at heq;refine A0a C ?_;simp -implicitDefEqProofs [lm,hlt];refine A0f ?_;refine A0a C ?_;simp -implicitDefEqProofs [e1];refine A0o (α:=Unit) (fun _=>⟨[(6,.t (iv (K:Int))),(5,.t (iv (i:Int))),(4,rowP ePr 1 out),(3,rowP ePr 0 m),(0,.t t)],H0,2,49⟩) (fun _=>True) (fun _=>rfl) ?_ ?_
   ·refine A0f ?_;refine A0k (fun k:Nat=>(⟨[(6,.t (iv (k:Int))),(5,.t (iv (i:Int))),(4,rowP ePr 1 out),(3,rowP ePr 0 m),(0,.t t)],H0,2,49⟩:A0b)) (fun k=>m.length-k) (fun k=>i+1<=k/\k<=m.length/\k-(i+1)+runP x (m.drop k)=r) (i+1) (fun _=>rfl) ⟨Nat.le_refl _,hlt,by rw[hr];omega⟩ ?_ rfl ?_
    ·refine A0d ?_;simp -implicitDefEqProofs
    rintro k ⟨hk1,hk2,hkr⟩;by_cases hkl:k<m.length
    ·obtain⟨y,hy⟩:∃y,m[k]?=some y:=⟨_,List.getElem?_eq_getElem hkl⟩
     have i2:A1o 4 (rowP ePr 0 m) (.t (iv (k:Int)))=some (.ptr 0 (k*4)):=B5r (e:=ePr) hy .i64;have ldk:A0g true 4 H0 (.ptr 0 (k*4))=some (.t (.ag (ePr.enc y))):=r0.loadAg hy;have e2:IntKind.i64.wrap ((k:Int)+1)=((k+1:Nat):Int):=A0h (by omega) (by omega);have eq:=C2b y x;rw[List.drop_eq_getElem_cons hkl,(List.getElem?_eq_some_iff.1 hy).2,runP]at hkr;refine A0c C ?_;by_cases hxy:y=x
     ·rw[if_pos hxy]at hkr
      have hb:decide (y=x)=true:=by simpa using hxy
      simp -implicitDefEqProofs [lm,hkl,i1,i2,ldi,ldk,eq,hb,e2];exact Abs.Next.mk (k+1) ⟨⟨by omega,by omega,by omega⟩,by omega⟩ (A0d (by simp -implicitDefEqProofs))
     ·rw[if_neg hxy]at hkr
      have hb:decide (y=x)=false:=by simpa using hxy
      simp -implicitDefEqProofs [lm,hkl,i1,i2,ldi,ldk,eq,hb]
      have:K=k:=by omega
      subst this;exact Abs.Next.mk () trivial (A0d (by simp -implicitDefEqProofs))
    ·rw[List.drop_of_length_le (by omega),runP]at hkr;refine A0c C ?_;simp -implicitDefEqProofs [lm,hkl]
     have:K=k:=by omega
     subst this;exact Abs.Next.mk () trivial (A0d (by simp -implicitDefEqProofs))
   rintro _ -;have e3:=F9d (a:=K) (b:=i) (by omega) (by omega)
   obtain⟨S,hS⟩:∃S,S=K-i:=⟨_,rfl⟩
   have hSr:S=r+1:=by omega
   rw[<-hS]at e3;rw[<-hSr]at heq;by_cases hshort:S<l.length
   ·rw[if_pos hshort]at heq;obtain⟨b',H',nx',ap,ra,hne,hle,hold,hge⟩:=A9g (e:=ePr) (ty:=59) (by':=40) (nx:=3) (H:=(2,.cells 59 ((ePr.enc x).map .t))::H0) (b:=1) (l:=out) (m:=[x]) (r1.cons (by omega)) (A9d (e:=ePr) (ty:=59) (b:=2) x rfl) (by simp;omega) (by simp;omega);have ap:appM 59 4 40 ((2,.cells 59 ((ePr.enc x).map .t))::H0) 3 (rowP ePr 1 out) (.row 2 0 1 4)=some (rowP ePr b' (out++[x]),H',nx'):=ap;have r0':A0p ePr 59 H' 0 m:=(r0.cons (k:=2) (r:=.cells 59 ((ePr.enc x).map .t)) (by omega)).imp id (fun h=>by rw[hold 0 (by omega) (by omega)];exact h);refine A0c C ?_;simp -implicitDefEqProofs [e3,l1,hshort,i1,ldi,C2a,ap];refine Abs.Next.mk (K,out++[x]) ⟨⟨by show K<=_;omega,g,by first | (show m.length-K<=g;omega) | (show m.length<=g+K;omega),by simpa using heq⟩,by show m.length-K<m.length-i;omega⟩ ?_;refine F5v (t:=t) (b:=b') r0' ra (by omega) ?_;simp -implicitDefEqProofs [A2b,A1j,ren,under]
   ·rw[if_neg hshort]at heq;refine A0c C ?_;simp -implicitDefEqProofs [e3,l1,hshort];refine Abs.Next.mk (K,out) ⟨⟨by show K<=_;omega,g,by first | (show m.length-K<=g;omega) | (show m.length<=g+K;omega),heq⟩,by show m.length-K<m.length-i;omega⟩ ?_;refine F5v (t:=t) (b:=1) r0 r1 (by omega) ?_;simp -implicitDefEqProofs [A2b,A1j,ren,under]
  ·have e:out=D:=by
    rw[<-heq,List.drop_of_length_le (by omega)];cases f<;>simp[A5i]
   subst e;refine A0c C ?_;simp -implicitDefEqProofs [lm,hlt,hH0];exact Abs.Next.mk () trivial (A0d (by simp -implicitDefEqProofs))
 ·rintro _ -;have tt:=(F9c m D).toT;refine A0c C ?_;simp -implicitDefEqProofs [tt,-toT]
noncomputable def gDsc:List T->Option T:=g1 tK fun l=>open Classical in if SmK l then some (A1g ePr (disc l))else none
theorem hDsc:GOK Tryz.prog (G q) 66 gDsc:=A4c fun a l r ha hr=>by
 split at hr
 ·rename_i hc;injection hr with hr;subst hr
  obtain⟨t1,o1,ok1⟩:∃t1:List T->Option T,t1 [B1e l]=some (A1g ePr (disc l))/\GOK Tryz.prog (G q) 113 t1:=by
   refine⟨fun ts=>open Classical in if ts=[B1e l]then some (A1g ePr (disc l))else none,if_pos rfl,fun args r h=>?_⟩;simp only at h;split at h
   ·rename_i e;injection h with h;subst h;subst e;exact D3z hc
   ·cases h
  have eA:=E6n ha hc;refine B2a.runs ((A0y.cons (hAll (q:=q)) (.cons ok1 .nil)).ctx mixed) rfl ?_;simp -implicitDefEqProofs [A6i,eA,o1]
 ·cases hr
theorem E7q {t:T} {l:List Dv} (ht:IsK t l) (hs:SmK l):gDsc [t]=some (A1g ePr (disc l)):=by
 show g1 _ _ _=_;rw[A5b (τ:=tK) ht,if_pos hs]
end Go.Proofs.YtmplckgbeaifkaaGreatDoor
