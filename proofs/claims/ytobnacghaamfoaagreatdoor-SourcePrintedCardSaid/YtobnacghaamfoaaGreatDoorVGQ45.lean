/- Auxiliary facts. -/
import Derived.Test.YtobnacghaamfoaaGreatDoorVGQ44
import Derived.Test.YtobnacghaamfoaaGreatDoorVGQ26
import Derived.Test.YtobnacghaamfoaaGreatDoorVGQ53
import Derived.Test.YtobnacghaamfoaaGreatDoorVGQ46
import Derived.Test.YtobnacghaamfoaaGreatDoorVGQ48
set_option linter.unusedSimpArgs false
set_option maxRecDepth 100000
set_option maxHeartbeats 0
set_option linter.unusedVariables false
open List renaming append_assoc->Xa,cons_append->Xb,length_append->Xc,mem_map->Xd,length_cons->Xe,mem_cons_self->Xf,nil_append->Xg,mem_cons_of_mem->Xh,flatMap_cons->Xi,all_eq_true->Xk,length_singleton->Xl,append_nil->Xm,map_map->Xn,head?_cons->Xo,length_map->Xq,mem_cons->Xr,not_mem_nil->Xs,any_eq_false->Xt,all_append->Xu,exists_cons_of_ne_nil->Xv,map_id''->Xw,filterMap_map->Xx
open Bool renaming and_eq_true->Xj
open Option renaming some->Xp
open Go.IntKind renaming i64->Xy
namespace Go.Proofs.YtobnacghaamfoaaGreatDoor
open Go Go.Abs
section
variable {m : Md} {B : Nat} (G : CY B m)
include G
theorem CY.err:FS m.ml=0:=by
 obtain⟨n0,n1,n2,n3,n4,n5,n6,n7,n8⟩:=G.lens;unfold FS;rw[zz (show ¬AD false m.ml.name=false by have:AD false m.ml.name=true:=G.n;rw[this];decide),zz]
 .refine Im λk hk=>?_
  have e:∀{α:Type} (g:El->Option α) (f:α->El) (one:α->Int),(∀x y,g x=some y->x=f y)->(∀y,elE (f y)=one y)->AV one (m.els.filterMap g)=0:=λg f one h1 h2=>Im λy hy=>by
   rw[<-h2];exact(G.e _ (Ip h1 hy)).e
  have q:∀{α:Type} {a b:α},some a=some b->a=b:=λh=>by injection h
  have hk:k=2\/k=3\/k=4\/k=5\/k=6\/k=7\/k=8\/k=9\/k=10:=by
   simp only[kinds,Xr,Xs,or_false]at hk;omega
  rcases hk with rfl | rfl | rfl | rfl | rfl | rfl | rfl | rfl | rfl
  .exact e El.i? El.imp Eb (λx y e=>by cases x<;>first | (injection e with e;subst e;rfl) | cases e) λ_=>rfl
  .exact e El.t? El.typ G9 (λx y e=>by cases x<;>first | (injection e with e;subst e;rfl) | cases e) λ_=>rfl
  .exact e El.m? El.tmp DF (λx y e=>by cases x<;>first | (injection e with e;subst e;rfl) | cases e) λ_=>rfl
  .exact e El.e? (λx:List ByteArray×Dfn=>El.ent x.1 x.2) GC (λx y e=>by cases x<;>first | (injection e with e;subst e;rfl) | cases e) λ_=>rfl
  .exact e El.l? (λx:Afx×Dfn=>El.lex x.1 x.2) FR (λx y e=>by cases x<;>first | (injection e with e;subst e;rfl) | cases e) λ_=>rfl
  .exact e El.r? El.rul DF (λx y e=>by cases x<;>first | (injection e with e;subst e;rfl) | cases e) λ_=>rfl
  .exact e El.o? El.roo DF (λx y e=>by cases x<;>first | (injection e with e;subst e;rfl) | cases e) λ_=>rfl
  .exact e El.c? El.chk G8 (λx y e=>by cases x<;>first | (injection e with e;subst e;rfl) | cases e) λ_=>rfl
  .exact e El.d? El.drp E8 (λx y e=>by cases x<;>first | (injection e with e;subst e;rfl) | cases e) λ_=>rfl
 .have:K9 m.ml=false:=by
   unfold K9;rw[Xt];intro k hk;rw[decide_eq_true_eq]
   have hk:k=2\/k=3\/k=4\/k=5\/k=6\/k=7\/k=8\/k=9\/k=10:=by
    simp only[kinds,Xr,Xs,or_false]at hk;omega
   rcases hk with rfl | rfl | rfl | rfl | rfl | rfl | rfl | rfl | rfl
   .show ¬256<m.ml.imps.length;omega
   .show ¬256<m.ml.typs.length;omega
   .show ¬256<m.ml.tmps.length;omega
   .show ¬256<m.ml.ents.length;omega
   .show ¬256<m.ml.lexs.length;omega
   .show ¬256<m.ml.ruls.length;omega
   .show ¬256<m.ml.roos.length;omega
   .show ¬256<m.ml.chks.length;omega
   .show ¬256<m.ml.drps.length;omega
  rw[this];decide
end
def tkG {α:Type} (hd sep:List KT) (f:α->List KT):List α->List KT
 | []=>[]
 | x::r=>hd++(f x++tkG sep sep f r)
def Hq (x:TyD):List KT:=(1,x.name.data.toList)::((if x.supers=[]then []else(5,[60])::tkG [] [(5,[44])] (λs:ByteArray=>[(1,s.data.toList)]) x.supers)++tkG [(5,[58])] [(5,[44])] (λp:ByteArray×ByteArray=>[(2,p.1.data.toList),(1,p.2.data.toList)]) x.feats)
def CH (d:Dfn):List KT:=(5,[61])::(tkD d.strict++tkG [(5,[47])] [(5,[47])] tkD d.defaults)
def Hr (a:Afx):List KT:=if a.kind=0 then [(1,[110,111,110,101])]else(1,if a.kind=1 then [115,117,102,102,105,120]else [112,114,101,102,105,120])::tkG [] [(5,[44])] (λp:ByteArray×ByteArray=>[(3,p.1.data.toList),(3,p.2.data.toList)]) a.pairs
def kwI:List UInt8:=[105,109,112,111,114,116]
def kwT:List UInt8:=[116,121,112,101]
def kwM:List UInt8:=[116,101,109,112,108,97,116,101]
def kwE:List UInt8:=[101,110,116,114,121]
def kwL:List UInt8:=[108,101,120,114,117,108,101]
def kwR:List UInt8:=[114,117,108,101]
def kwO:List UInt8:=[114,111,111,116]
def kwC:List UInt8:=[99,104,101,99,107]
def kwD:List UInt8:=[100,114,111,112]
def LZ:List UInt8:=[109,111,100,117,108,101]
def elW:El->List UInt8
 | .imp s=>GD s
 | .typ x=>GE x
 | .tmp d=>dnW Jt d
 | .ent w d=>GF (w,d)
 | .lex a d=>GG (a,d)
 | .rul d=>dnW Ju d
 | .roo d=>dnW Jv d
 | .chk p=>GH p
 | .drp s=>GJ s
def Dm:El->List KT
 | .imp s=>[(1,kwI),(1,s.data.toList)]
 | .typ x=>(1,kwT)::Hq x
 | .tmp d=>(1,kwM)::(1,d.name.data.toList)::CH d
 | .ent w d=>(1,kwE)::(1,d.name.data.toList)::(3,Cp [32] w)::CH d
 | .lex a d=>(1,kwL)::(1,d.name.data.toList)::(Hr a++CH d)
 | .rul d=>(1,kwR)::(1,d.name.data.toList)::CH d
 | .roo d=>(1,kwO)::(1,d.name.data.toList)::CH d
 | .chk p=>(1,kwC)::tkG [] [(5,[46])] (λs:ByteArray=>[(2,s.data.toList)]) p
 | .drp s=>[(1,kwD),(2,s.data.toList)]
theorem Ma {α:Type} {f:α->List UInt8} {g:α->List KT} {Q:List UInt8->Prop} {sep:List UInt8} {ksep:List KT} (hsep:∀X kx,Scn X kx->Scn (sep++X) (ksep++kx)) (hq:∀X,Q (sep++X)) :
  ∀{L:List α} {hd:List UInt8} {khd:List KT},(∀x∈L,∀X ks,Q X->Scn X ks->Scn (f x++X) (g x++ks))->(∀X kx,Scn X kx->Scn (hd++X) (khd++kx))->∀{X:List UInt8} {ks:List KT},Q X->Scn X ks->Scn (gl hd sep f L++X) (tkG khd ksep g L++ks)
 | [],_,_,_,_,_,_,_,hs=>hs
 | x::r,hd,khd,hf,hhd,X,ks,hx,hs=>by
  have ih:=Ma hsep hq (L:=r) (hd:=sep) (khd:=ksep) (λy hy=>hf y (Xh _ hy)) hsep hx hs;rw[gl,tkG];simp only[Xa];refine hhd _ _ (hf x Xf _ _ ?_ ih)
  cases r with
  | nil=>exact hx
  | cons y r=>rw[gl,Xa];exact hq _
theorem Hs {t:List UInt8} {X:List UInt8} {ks:List KT} (ht:AD false (bs t)=true) (h:Scn X ks):Scn (t++32::X) ((1,t)::ks):=by
 have hx:HX (32::X):=λc r e=>by injection e with e _;exact .inl e.symm
 have:=Gg ht hx (CV h);exact this
theorem Vl {X:List UInt8} {ks:List KT} (h:Scn X ks):Scn ([44,32]++X) ([(5,[44])]++ks):=
 Dh (t:=[44]) (CV h) (by simp) (E5 (by decide) (by decide) (by decide) (by decide) (by decide) (by decide) (λh=>absurd h (by decide)))
theorem mB (X:List UInt8):HX ([44,32]++X):=λc r e=>by injection e with e _;exact .inr (.inl e.symm)
theorem mC {X:List UInt8} {ks:List KT} (h:Scn X ks):Scn (59::10::X) ((5,[59])::ks):=
 Dh (t:=[59]) (gE h) (by simp) (E5 (by decide) (by decide) (by decide) (by decide) (by decide) (by decide) (λh=>absurd h (by decide)))
theorem mD (X:List UInt8):HX (59::X):=λc r e=>by injection e with e _;exact .inr (.inr (.inr (.inr e.symm)))
theorem J0 (X:List UInt8):HX (32::X):=λc r e=>by injection e with e _;exact .inl e.symm
theorem RP {X:List UInt8} {ks:List KT} (h:Scn X ks):Scn ([32,47,32]++X) ([(5,[47])]++ks):=
 CV (Dh (t:=[47]) (CV h) (by simp) (E5 (by decide) (by decide) (by decide) (by decide) (by decide) (by decide) (λh=>absurd h (by decide))))
theorem B3i {X:List UInt8} {ks:List KT} (h:Scn X ks):Scn ([32,58,32]++X) ([(5,[58])]++ks):=
 CV (Dh (t:=[58]) (CV h) (by simp) (E5 (by decide) (by decide) (by decide) (by decide) (by decide) (by decide) (λh=>absurd h (by decide))))
theorem B3j {X:List UInt8} {ks:List KT} (h:Scn X ks):Scn ([32,61,32]++X) ((5,[61])::ks):=
 CV (Dh (t:=[61]) (CV h) (by simp) (E5 (by decide) (by decide) (by decide) (by decide) (by decide) (by decide) (λh=>absurd h (by decide))))
theorem B3k {X:List UInt8} {ks:List KT} (h:Scn X ks):Scn ([32,60,32]++X) ((5,[60])::ks):=
 CV (Dh (t:=[60]) (CV h) (by simp) (E5 (by decide) (by decide) (by decide) (by decide) (by decide) (by decide) (λ_ r e=>by injection e with e _;exact absurd e (by decide))))
theorem B3l {X:List UInt8} {ks:List KT} (h:Scn X ks):Scn ([46]++X) ([(5,[46])]++ks):=
 Dh (t:=[46]) h (by simp) (E5 (by decide) (by decide) (by decide) (by decide) (by decide) (by decide) (λh=>absurd h (by decide)))
theorem Vm {s:ByteArray} (h:AD true s=true) {X:List UInt8} {ks:List KT} (hx:∀c r,X=c::r->BL true c=false) (hs:Scn X ks):Scn (s.data.toList++X) ((2,s.data.toList)::ks):=by
 obtain⟨c,r,e,_⟩:=Ko h;exact Dh hs (by rw[e];simp) (TT h hx)
structure KJ (d:Dfn):Prop where
 o:EU d
 s:(wrD d.strict).length<=65536
 d:∀k∈d.defaults,(wrD k).length<=65536
theorem Vn {d:Ds} (h:Bb d 1=0) (hl:(wrD d).length<=65536):Eu d=wrD d:=by
 unfold Eu;rw[zz (λhn=>hn h),zz (by omega)]
theorem Vo {d:Dfn} (h:KJ d) {X:List UInt8} {ks:List KT} (hx:HX X) (hs:Scn X ks):Scn (Cs d++X) (CH d++ks):=by
 have pr:∀k,Bb k 1=0->(wrD k).length<=65536->∀X ks,HX X->Scn X ks->Scn (Eu k++X) (tkD k++ks):=λk hk hl X ks hx hs=>by
  rw[Vn hk hl];exact MQ k 1 hk hx hs
 have e1:Cs d++X=[32,61,32]++(Eu d.strict++(gl [32,47,32] [32,47,32] Eu d.defaults++X)):=by unfold Cs LS;simp only[Xa]
 have e2:CH d++ks=(5,[61])::(tkD d.strict++(tkG [(5,[47])] [(5,[47])] tkD d.defaults++ks)):=by unfold CH;simp only[Xb,Xa]
 rw[e1,e2];have h2:=Ma (L:=d.defaults) (f:=Eu) (g:=tkD) (Q:=HX) (sep:=[32,47,32]) (ksep:=[(5,[47])]) (λX kx=>RP) (λX=>J0 _) (λk hk=>pr k (h.o.d k hk) (h.d k hk)) (λX kx=>RP) hx hs;refine B3j (pr _ h.o.s h.s _ _ ?_ h2)
 cases d.defaults with
 | nil=>exact hx
 | cons y r=>rw[gl,Xa];exact J0 _
theorem B3m {x:TyD} (h:P0 x) {X:List UInt8} {ks:List KT} (hx:HX X) (hs:Scn X ks):Scn (tyW x++X) (Hq x++ks):=by
 have h2:=Ma (L:=x.feats) (f:=ftW) (g:=λp:ByteArray×ByteArray=>[((2:Int),p.1.data.toList),(1,p.2.data.toList)]) (Q:=HX) (sep:=[44,32]) (ksep:=[(5,[44])]) (hd:=[32,58,32]) (khd:=[(5,[58])]) (λX kx=>Vl) mB (λp hp X ks hx hs=>by
  unfold ftW;rw[Xa,Xb]
  exact Vm (h.f p hp).1 (λc r e=>by injection e with e _;subst e;decide) (CV (Gg (h.f p hp).2 hx hs))) (λX kx=>B3i) hx hs
 have hf:HX (gl [32,58,32] [44,32] ftW x.feats++X):=by
  cases x.feats with
  | nil=>exact hx
  | cons y r=>rw[gl,Xa];exact J0 _
 have e1:tyW x++X=x.name.data.toList++((if x.supers=[]then []else [32,60,32]++Cp [44,32] x.supers)++(gl [32,58,32] [44,32] ftW x.feats++X)):=by unfold tyW;rw[Xa,Xa]
 have e2:Hq x++ks=(1,x.name.data.toList)::((if x.supers=[]then []else(5,[60])::tkG [] [(5,[44])] (λs:ByteArray=>[(1,s.data.toList)]) x.supers)++(tkG [(5,[58])] [(5,[44])] (λp:ByteArray×ByteArray=>[(2,p.1.data.toList),(1,p.2.data.toList)]) x.feats++ks)):=by unfold Hq;rw[Xb,Xa]
 rw[e1,e2]
 by_cases h0:x.supers=[]
 .rw[zy h0,zy h0];exact Gg h.n hf h2
 .rw[zz h0,zz h0];rw[Xa];have h3:=Ma (L:=x.supers) (f:=λs:ByteArray=>s.data.toList) (g:=λs:ByteArray=>[((1:Int),s.data.toList)]) (Q:=HX) (sep:=[44,32]) (ksep:=[(5,[44])]) (hd:=[]) (khd:=[]) (λX kx=>Vl) mB (λs hsm X ks hx hs=>Gg (h.s s hsm) hx hs) (λX kx h=>h) hf h2;exact Gg h.n (J0 _) (B3k h3)
theorem B3n {a:Afx} (hk:(a.kind=0/\a.pairs=[])\/((a.kind=1\/a.kind=2)/\a.pairs≠[])) (hq:∀x∈a.pairs,F0 x.1=true/\F0 x.2=true) {X:List UInt8} {ks:List KT} (hs:Scn X ks):Scn (afW a++32::X) (Hr a++ks):=by
 unfold afW Hr;by_cases k0:a.kind=0
 .rw[zy k0,zy k0];exact Hs (t:=[110,111,110,101]) (by decide) hs
 .rw[zz k0,zz k0]
  have h2:=Ma (L:=a.pairs) (f:=chW) (g:=λp:ByteArray×ByteArray=>[((3:Int),p.1.data.toList),(3,p.2.data.toList)]) (Q:=λ_=>True) (sep:=[44,32]) (ksep:=[(5,[44])]) (hd:=[]) (khd:=[]) (λX kx=>Vl) (λ_=>trivial) (λp hp X ks _ hs=>by
   have e:chW p++X=34::(p.1.data.toList++34::32::34::(p.2.data.toList++34::X)):=by unfold chW;simp
   rw[e]
   exact Ru (CV (Ru hs (RY (hq p hp).2 _))) (RY (hq p hp).1 _)) (λX kx h=>h) trivial (CV hs)
  rw[Xa,Xb];by_cases k1:a.kind=1
  .rw[zy k1,zy k1];exact Hs (t:=[115,117,102,102,105,120]) (by decide) h2
  .rw[zz k1,zz k1];exact Hs (t:=[112,114,101,102,105,120]) (by decide) h2
def N3:El->Prop
 | .imp s=>AD false s=true
 | .typ x=>P0 x
 | .tmp d=>KJ d
 | .ent w d=>(w≠[]/\∀s∈w,Cx s=true)/\KJ d
 | .lex a d=>Vi (a,d)/\KJ d
 | .rul d=>KJ d
 | .roo d=>KJ d
 | .chk p=>p≠[]/\p.length<=64/\∀s∈p,AD true s=true
 | .drp s=>AD true s=true
theorem mE {w:List ByteArray} (h:∀s∈w,Cx s=true):(Cp [32] w).all Ec=true:=by
 have hw:∀s∈w,s.data.toList.all Ec=true:=λs hs=>by
  have:=h s hs;unfold Cx at this;simp only[Xj]at this;rw[Xk]at this ⊢;intro c hc;have:=this.2 c hc;unfold okW at this;simp only[Xj,decide_eq_true_eq,Bool.not_eq_true',decide_eq_false_iff_not]at this;unfold Ec;rw[decide_eq_true_eq];omega
 unfold Cp
 have key:∀(L:List ByteArray) (hd:List UInt8),(∀s∈L,s∈w)->hd.all Ec=true->(gl hd [32] (λs:ByteArray=>s.data.toList) L).all Ec=true:=by
  intro L
  induction L with
  | nil=>intro hd _ _;rfl
  | cons s r ih=>
   intro hd hm hh;rw[gl,Xu,Xu,hh,hw s (hm s Xf),ih [32] (λy hy=>hm y (Xh _ hy)) (by decide)];rfl
 exact key w [] (λ_ h=>h) rfl
theorem B3o {x:El} (h:N3 x) {X:List UInt8} {ks:List KT} (hs:Scn X ks):Scn (elW x++59::10::X) (Dm x++(5,[59])::ks):=by
 have hs2:=mC hs;have hx:=mD (10::X)
 have dn:∀(kw:List UInt8) (d:Dfn),AD false (bs kw)=true->KJ d->Scn (dnW (kw++[32]) d++59::10::X) (((1,kw)::(1,d.name.data.toList)::CH d)++(5,[59])::ks):=λkw d hk hd=>by
  have e:dnW (kw++[32]) d++59::10::X=kw++32::(d.name.data.toList++(Cs d++59::10::X)):=by unfold dnW;simp
  rw[e];refine Hs hk (Gg hd.o.n ?_ (Vo hd hx hs2));unfold Cs;rw[Xa];exact J0 _
 cases x with
 | imp s=>
  have e:elW (.imp s)++59::10::X=kwI++32::(s.data.toList++59::10::X):=by show GD s++_=_;unfold GD kwI;simp
  rw[e];exact Hs (t:=kwI) (by decide) (Gg h hx hs2)
 | typ x=>
  have e:elW (.typ x)++59::10::X=kwT++32::(tyW x++59::10::X):=by show GE x++_=_;unfold GE kwT;simp
  rw[e];exact Hs (t:=kwT) (by decide) (B3m h hx hs2)
 | tmp d=>exact dn kwM d (by decide) h
 | rul d=>exact dn kwR d (by decide) h
 | roo d=>exact dn kwO d (by decide) h
 | ent w d=>
  have e:elW (.ent w d)++59::10::X=kwE++32::(d.name.data.toList++32::34::(Cp [32] w++34::(Cs d++59::10::X))):=by show GF (w,d)++_=_;unfold GF kwE;simp
  rw[e];exact Hs (t:=kwE) (by decide) (Gg h.2.o.n (J0 _) (CV (Ru (Vo h.2 hx hs2) (RY (mE h.1.2) _))))
 | lex a d=>
  have hd:=Vo h.2 hx hs2
  have e2:Cs d++59::10::X=32::((Cs d).tail++59::10::X):=by unfold Cs;rfl
  have e:elW (.lex a d)++59::10::X=kwL++32::(d.name.data.toList++32::(afW a++(Cs d++59::10::X))):=by show GG (a,d)++_=_;unfold GG kwL;simp
  have hd2:Scn ((Cs d).tail++59::10::X) (CH d++(5,[59])::ks):=by
   unfold Cs CH at hd ⊢
   have h2:=Ma (L:=d.defaults) (f:=Eu) (g:=tkD) (Q:=HX) (sep:=[32,47,32]) (ksep:=[(5,[47])]) (hd:=[32,47,32]) (khd:=[(5,[47])]) (λX kx=>RP) (λX=>J0 _) (λk hk X ks hx hs=>by
    rw[Vn (h.2.o.d k hk) (h.2.d k hk)]
    exact MQ k 1 (h.2.o.d k hk) hx hs) (λX kx=>RP) hx hs2
   have h3:Scn (Eu d.strict++(LS d.defaults++59::10::X)) (tkD d.strict++(tkG [(5,[47])] [(5,[47])] tkD d.defaults++(5,[59])::ks)):=by
    rw[Vn h.2.o.s h.2.s];refine MQ _ 1 h.2.o.s ?_ h2;unfold LS
    cases d.defaults with
    | nil=>exact hx
    | cons y r=>rw[gl,Xa];exact J0 _
   show Scn (61::32::(Eu d.strict++LS d.defaults)++59::10::X) _;rw[Xb,Xb,Xa,Xb,Xa];exact Dh (t:=[61]) (CV h3) (by simp) (E5 (by decide) (by decide) (by decide) (by decide) (by decide) (by decide) (λh=>absurd h (by decide)))
  rw[e,e2];show Scn _ (((1,kwL)::(1,d.name.data.toList)::(Hr a++CH d))++(5,[59])::ks);rw[Xb,Xb,Xa];exact Hs (t:=kwL) (by decide) (Gg h.2.o.n (J0 _) (CV (B3n h.1.k h.1.q hd2)))
 | chk p=>
  have h2:=Ma (L:=p) (f:=λs:ByteArray=>s.data.toList) (g:=λs:ByteArray=>[((2:Int),s.data.toList)]) (Q:=λX=>∀c r,X=c::r->BL true c=false) (sep:=[46]) (ksep:=[(5,[46])]) (hd:=[]) (khd:=[]) (λX kx=>B3l) (λX c r e=>by injection e with e _;subst e;decide) (λs hsm X ks hx hs=>Vm (h.2.2 s hsm) hx hs) (λX kx h=>h) (hx.part true) hs2
  have e:elW (.chk p)++59::10::X=kwC++32::(Cp [46] p++59::10::X):=by show GH p++_=_;unfold GH kwC;simp
  rw[e];exact Hs (t:=kwC) (by decide) h2
 | drp s=>
  have e:elW (.drp s)++59::10::X=kwD++32::(s.data.toList++59::10::X):=by show GJ s++_=_;unfold GJ kwD;simp
  rw[e];exact Hs (t:=kwD) (by decide) (Vm h (hx.part true) hs2)
theorem RQ {s:ByteArray} (h:Cx s=true):(32:UInt8)∉s.data.toList/\s.data.toList≠[]/\s.data.toList.all prt=true:=by
 unfold Cx at h;simp only[Xj,decide_eq_true_eq]at h;have ha:=Xk.1 h.2;refine⟨λhm=>?_,λe=>?_,?_⟩
 .have:=ha _ hm;exact absurd this (by decide)
 .have h1:=h.1.1;have:s.data.toList.length=s.size:=rfl;rw[e]at this;simp at this;omega
 .rw[Xk];intro c hc;have:=ha c hc;unfold okW at this;simp only[Xj,decide_eq_true_eq]at this;unfold prt;simp only[Xj,decide_eq_true_eq];omega
theorem mF:∀(w:List ByteArray) (s:ByteArray),(∀x∈s::w,Cx x=true)->C6 [] (Cp [32] (s::w))=(s::w).map λx=>x.data.toList
 | [],s,h=>by
  have h1:=(RQ (h s Xf)).1;show C6 [] ([]++(s.data.toList++[]))=_;rw[Xg,Xm,Tf _ _ h1];rfl
 | y::w,s,h=>by
  have h1:=(RQ (h s Xf)).1;have ih:=mF w y λx hx=>h x (Xh _ hx);show C6 [] ([]++(s.data.toList++([32]++(y.data.toList++gl [32] [32] _ w))))=_;rw[Xg];show C6 [] (s.data.toList++32::(y.data.toList++gl [32] [32] _ w))=_;rw[Tg _ _ _ h1,Xg,List.map_cons];congr 1
theorem B3p {w:List ByteArray} (hne:w≠[]) (h:∀s∈w,Cx s=true):FA (bs (Cp [32] w)) = .ok w:=by
 obtain⟨s,r,rfl⟩:=Xv hne;have hs:=mF r s h
 have hp:(Cp [32] (s::r)).all prt=true:=by
  have hq:=mE h;rw[Xk]at hq ⊢;intro c hc;have:=hq c hc;unfold Ec at this;rw[decide_eq_true_eq]at this;unfold prt;simp only[Xj,decide_eq_true_eq];omega
 have hn:(Cp [32] (s::r)).isEmpty=false:=by
  have h1:=(RQ (h s Xf)).2.1;show([]++(s.data.toList++_)).isEmpty=false;rw[Xg]
  cases hsd:s.data.toList with
  | nil=>exact absurd hsd h1
  | cons c t=>rfl
 have ha:(C6 [] (Cp [32] (s::r))).any List.isEmpty=false:=by
  rw[hs,Xt];intro x hx;obtain⟨y,hy,rfl⟩:=Xd.1 hx;have h1:=(RQ (h y hy)).2.1;intro he;exact h1 (List.isEmpty_iff.1 he)
 have hw:Fu (bs (Cp [32] (s::r))).data.toList=some ((s::r).map λx=>x.data.toList):=by
  show Fu (Cp [32] (s::r))=_;unfold Fu;rw[zy hp,zz (by rw[hn];decide),zz (by rw[ha];decide),hs]
 have hm:((s::r).map λx=>x.data.toList).map bs=s::r:=by
  rw[Xn];exact Xw (λx=>En x) _
 unfold FA;rw[hw];simp only;rw[zz (by simp),hm,zy];rw[Xk];intro x hx;obtain⟨y,hy,rfl⟩:=Xd.1 hx;rw[En];exact h y hy
section
variable {l : List KT} {α : Type}
def Bhd (sep:List UInt8) (ks:List KT):Prop:=ks.head?≠some (5,sep)/\ks.head?≠some (5,[38])
theorem mG {step:Nat->Res α} {tk:α->List KT} {sep:List UInt8} {mx:Nat} (h38:sep≠[38]):∀(r:List α) (x:α) (f p:Nat) (out:List α) (ks:List KT),
  (∀y∈x::r,∀p ks,Tks l p (tk y++ks)->ks.head?≠some (5,[38])->step p = .ok (y,p+(tk y).length))->Tks l p (tk x++(tkG [(5,sep)] [(5,sep)] tk r++ks))->Bhd sep ks->out.length+(r.length+1)<=mx->r.length<f ->
  Ch l step sep mx f p out = .ok (out++x::r,p+(tk x).length+(tkG [(5,sep)] [(5,sep)] tk r).length)
 | [],x,f,p,out,ks,hs,ht,hb,hm,hf=>by
  obtain⟨f,rfl⟩:∃g,f=g+1:=⟨f-1,by omega⟩
  have e:tkG [(5,sep)] [(5,sep)] tk ([]:List α)=[]:=rfl;rw[e,Xg]at ht;rw[Ch,hs x Xf p ks ht hb.2];simp only;rw[zz (by rw[ht.app.noSy hb.1];decide)];rfl
 | y::r,x,f,p,out,ks,hs,ht,hb,hm,hf=>by
  obtain⟨f,rfl⟩:∃g,f=g+1:=⟨f-1,by omega⟩
  have e:tkG [(5,sep)] [(5,sep)] tk (y::r)=(5,sep)::(tk y++tkG [(5,sep)] [(5,sep)] tk r):=rfl;rw[e]at ht ⊢;rw[Xe]at hm hf;have ht2:=ht.app;rw[Xb]at ht ht2;rw[Ch,hs x Xf p _ ht (by simp only[Xo,ne_eq,Xp.injEq,Prod.mk.injEq,true_and];exact h38)];simp only;rw[zy ht2.isS,zz (by omega)]
  have ht3:=ht2.next
  rw[Xa]at ht3;rw[mG h38 r y f _ (out++[x]) ks (λz hz=>hs z (Xh _ hz)) ht3 hb (by rw[Xc,Xl];omega) (by omega)];simp only[Xa,Xb,Xg,Xe,Xc];congr 2;omega
theorem mH (s:KT) (tk:α->List KT):∀r:List α,r.length<=(tkG [s] [s] tk r).length
 | []=>Nat.le_refl _
 | y::r=>by
  have:=mH s tk r;rw[tkG,Xc,Xc,Xe,Xl];omega
theorem P8 {step:Nat->Res α} {tk:α->List KT} {sep:List UInt8} {mx p:Nat} (h38:sep≠[38]) {L:List α} (hne:L≠[]) {ks:List KT}
  (hs:∀y∈L,∀p ks,Tks l p (tk y++ks)->ks.head?≠some (5,[38])->step p = .ok (y,p+(tk y).length)) (ht:Tks l p (tkG [] [(5,sep)] tk L++ks)) (hb:Bhd sep ks) (hm:L.length<=mx) :
  Ch l step sep mx (l.length+1) p [] = .ok (L,p+(tkG [] [(5,sep)] tk L).length):=by
 obtain⟨x,r,rfl⟩:=Xv hne;have e:tkG [] [(5,sep)] tk (x::r)=tk x++tkG [(5,sep)] [(5,sep)] tk r:=rfl;rw[e,Xa]at ht;have hl:=ht.len;rw[Xc,Xc]at hl;have h1:=mH (5,sep) tk r;have:=mG h38 r x (l.length+1) p [] ks hs ht hb (by simpa using hm) (by omega);rw[this,e,Xg,Xc];congr 2;omega
end
section
variable {l : List KT} {p : Nat} {ks : List KT}
theorem Gm {k:Int} {s:ByteArray} (h:Tks l p ((k,s.data.toList)::ks)):AJ l p k = .ok (s,p+1):=by
 have:=h.tak;rwa[En]at this
theorem Mb (sep:List UInt8) (h:sep≠[59]) (ks:List KT):Bhd sep ((5,[59])::ks):=⟨by simp only[Xo,ne_eq,Xp.injEq,Prod.mk.injEq,true_and];exact λe=>h e.symm,by simp⟩
theorem mI {d:Ds} (h:Bb d 1=0) (ht:Tks l p (tkD d++ks)) (hb:ks.head?≠some (5,[38])):AA l 64 p = .ok (d,p+(tkD d).length):=dD (l:=l) 64 d (by omega) h p ks ht hb
theorem B3q {y:ByteArray×ByteArray} (ht:Tks l p ([(2,y.1.data.toList),(1,y.2.data.toList)]++ks)):ftS l p = .ok (y,p+2):=by
 unfold ftS;rw[Gm ht];simp only;rw[Gm ht.next]
theorem B3r {y:ByteArray×ByteArray} (ht:Tks l p ([(3,y.1.data.toList),(3,y.2.data.toList)]++ks)):DB l p = .ok (y,p+2):=by
 unfold DB;rw[Gm ht];simp only;rw[Gm ht.next]
theorem Vp {d:Dfn} (h:EU d) (ht:Tks l p (CH d++(5,[59])::ks)):Db l d.name p = .ok (d,p+(CH d).length):=by
 have e:CH d++(5,[59])::ks=(5,[61])::(tkD d.strict++(tkG [(5,[47])] [(5,[47])] tkD d.defaults++(5,[59])::ks)):=by unfold CH;simp only[Xb,Xa]
 have el:(CH d).length=1+(tkD d.strict).length+(tkG [(5,[47])] [(5,[47])] tkD d.defaults).length:=by unfold CH;rw[Xe,Xc];omega
 rw[e]at ht
 have h1:=ht.next
 have h38:(tkG [(5,[47])] [(5,[47])] tkD d.defaults++(5,[59])::ks).head?≠some (5,[38]):=by
  cases d.defaults with
  | nil=>exact(Mb [47] (by decide) ks).2
  | cons y r=>simp[tkG]
 unfold Db;rw[ht.skip];simp only;rw[mI h.s h1 h38];simp only;have h2:=h1.app;unfold C8;obtain⟨nm,st,df⟩:=d;simp only at *
 cases df with
 | nil=>
  have h2:Tks l (p+1+(tkD st).length) ((5,[59])::ks):=h2;rw[zz (by rw[h2.noSy (Mb [47] (by decide) ks).1];decide)];simp only;rw[el];show _=Except.ok (_,p+(1+(tkD st).length+0));congr 2;omega
 | cons y r=>
  have h2:Tks l (p+1+(tkD st).length) ((5,[47])::(tkG [] [(5,[47])] tkD (y::r)++(5,[59])::ks)):=h2;rw[zy h2.isS]
  have h3:=P8 (mx:=256) (step:=AA l 64) (tk:=tkD) (sep:=[47]) (by decide) (L:=y::r) (by simp) (λz hz p ks ht hb=>mI (h.d z hz) ht hb) h2.next (Mb _ (by decide) ks) h.l
  unfold JV;rw[h3];simp only;rw[el]
  have e3:(tkG [(5,[47])] [(5,[47])] tkD (y::r)).length=1+(tkG [] [(5,[47])] tkD (y::r)).length:=by
   show(tkG [] [(5,[47])] tkD (y::r)).length+1=_;omega
  rw[e3];congr 2;omega
theorem B3s {x:TyD} (h:P0 x) (ht:Tks l (p+1) ((Hq x).tail++(5,[59])::ks)):Fi l x.name (p+1) = .ok (x,p+(Hq x).length):=by
 obtain⟨nm,su,fe⟩:=x;have hsl:=h.ls;have hfl:=h.lf;simp only at hsl hfl
 obtain⟨A,hA⟩:∃A,A=(if su=[]then []else(5,[60])::tkG [] [(5,[44])] (λs:ByteArray=>[((1:Int),s.data.toList)]) su:List KT):=⟨_,rfl⟩
 obtain⟨B,hB⟩:∃B,B=tkG [((5:Int),[58])] [(5,[44])] (λp:ByteArray×ByteArray=>[((2:Int),p.1.data.toList),(1,p.2.data.toList)]) fe:=⟨_,rfl⟩
 have e:(Hq ⟨nm,su,fe⟩).tail=A++B:=by rw[hA,hB];rfl
 have el:(Hq ⟨nm,su,fe⟩).length=1+A.length+B.length:=by rw[hA,hB];unfold Hq;simp only[Xe,Xc];omega
 rw[e,Xa]at ht
 have hBh:∀s:List UInt8,s≠[58]->s≠[59]->(B++(5,[59])::ks).head?≠some (5,s):=λs h1 h2=>by
  rw[hB]
  cases fe with
  | nil=>exact(Mb s h2 ks).1
  | cons y r=>simp only[tkG,Xb,Xo,ne_eq,Xp.injEq,Prod.mk.injEq,true_and];exact λe=>h1 e.symm
 have s1:C8 l [60] (HO l) (p+1) = .ok (su,p+1+A.length):=by
  unfold C8
  by_cases h0:su=[]
  .rw[zy h0]at hA;rw[hA,Xg]at ht;rw[zz (by rw[ht.noSy (hBh [60] (by decide) (by decide))];decide),hA,h0];rfl
  .rw[zz h0]at hA;rw[hA,Xb]at ht;rw[zy ht.isS]
   have h3:=P8 (mx:=256) (step:=λp=>AJ l p 1) (tk:=λs:ByteArray=>[((1:Int),s.data.toList)]) (sep:=[44]) (by decide) h0 (λz hz p ks ht hb=>Gm ht) ht.next ⟨hBh _ (by decide) (by decide),hBh _ (by decide) (by decide)⟩ hsl
   unfold HO;rw[h3,hA,Xe];congr 2;omega
 have ht2:=ht.app
 have s2:C8 l [58] (HP l) (p+1+A.length) = .ok (fe,p+1+A.length+B.length):=by
  unfold C8
  cases fe with
  | nil=>
   have hB:B=[]:=hB;rw[hB,Xg]at ht2;rw[zz (by rw[ht2.noSy (Mb [58] (by decide) ks).1];decide),hB];rfl
  | cons y r=>
   have hB:B=(5,[58])::tkG [] [(5,[44])] (λp:ByteArray×ByteArray=>[((2:Int),p.1.data.toList),(1,p.2.data.toList)]) (y::r):=hB;rw[hB,Xb]at ht2;rw[zy ht2.isS]
   have h3:=P8 (mx:=256) (step:=ftS l) (tk:=λp:ByteArray×ByteArray=>[((2:Int),p.1.data.toList),(1,p.2.data.toList)]) (sep:=[44]) (by decide) (L:=y::r) (by simp) (λz hz p ks ht hb=>B3q ht) ht2.next (Mb _ (by decide) ks) hfl
   unfold HP;rw[h3,hB,Xe];congr 2;omega
 unfold Fi;rw[s1];simp only;rw[s2];simp only;rw[el];congr 2;omega
theorem B3t {a:Afx} (hk:(a.kind=0/\a.pairs=[])\/((a.kind=1\/a.kind=2)/\a.pairs≠[])) (hl:a.pairs.length<=1000000000) (ht:Tks l p (Hr a++(5,[61])::ks)):C9 l p = .ok (a,p+(Hr a).length):=by
 obtain⟨k,pr⟩:=a;simp only at hk hl;have tk:∀(kw:List UInt8) (X:List KT),Tks l p ((1,kw)::X)->AJ l p 1 = .ok (bs kw,p+1):=λkw X h=>h.tak
 have b61:Bhd [44] ((5,[61])::ks):=⟨by simp,by simp⟩
 rcases hk with⟨rfl,rfl⟩ | ⟨hk,hne⟩
 .have e:Hr ⟨0,[]⟩=[(1,[110,111,110,101])]:=rfl;rw[e]at ht ⊢;unfold C9;rw[tk _ _ ht];simp only;rw[zy trivial];rfl
 .have k0:k≠0:=by omega
  have h3:∀X:List KT,Tks l (p+1) (tkG [] [(5,[44])] (λp:ByteArray×ByteArray=>[((3:Int),p.1.data.toList),(3,p.2.data.toList)]) pr++(5,[61])::ks)->Hh l (p+1) = .ok (pr,p+1+(tkG [] [(5,[44])] (λp:ByteArray×ByteArray=>[((3:Int),p.1.data.toList),(3,p.2.data.toList)]) pr).length):=λX h=>P8 (mx:=1000000000) (step:=DB l) (tk:=λp:ByteArray×ByteArray=>[((3:Int),p.1.data.toList),(3,p.2.data.toList)]) (sep:=[44]) (by decide) hne (λz hz p ks ht hb=>B3r ht) h b61 hl;rcases hk with rfl | rfl
  .have e:Hr ⟨1,pr⟩=(1,[115,117,102,102,105,120])::tkG [] [(5,[44])] (λp:ByteArray×ByteArray=>[((3:Int),p.1.data.toList),(3,p.2.data.toList)]) pr:=rfl;rw[e]at ht ⊢;unfold C9;rw[tk _ _ ht];simp only;rw[zz (by decide),zy trivial];unfold Er;rw[h3 [] ht.next];simp only[Xe];congr 2;omega
  .have e:Hr ⟨2,pr⟩=(1,[112,114,101,102,105,120])::tkG [] [(5,[44])] (λp:ByteArray×ByteArray=>[((3:Int),p.1.data.toList),(3,p.2.data.toList)]) pr:=rfl;rw[e]at ht ⊢;unfold C9;rw[tk _ _ ht];simp only;rw[zz (by decide),zz (by decide),zy trivial];unfold Er;rw[h3 [] ht.next];simp only[Xe];congr 2;omega
end
section
variable {l : List KT} {p : Nat} {ks : List KT}
theorem Vq {k:Nat} {f:Dfn->El} {d:Dfn} (h:EU d) (hk:∀p,Dr l k d.name p=elD f (Db l d.name p)) (hk1:k≠1) (hk9:k≠9) (hk10:k≠10) (ht:Tks l p ((1,d.name.data.toList)::(CH d++(5,[59])::ks))):Bs l k p = .ok (.el (f d),p+1+(CH d).length):=by
 unfold Bs elS;rw[zz hk1,zz hk9,zz hk10,Gm ht];simp only;rw[hk,Vp h ht.next];rfl
theorem B3u (x:El):∃(t:KT) (r:List KT),Dm x=t::r/\D1 t=x.j+2:=by
 cases x
 .exact⟨_,_,rfl,rfl⟩
 .exact⟨_,_,rfl,rfl⟩
 .exact⟨_,_,rfl,rfl⟩
 .exact⟨_,_,rfl,rfl⟩
 .exact⟨_,_,rfl,rfl⟩
 .exact⟨_,_,rfl,rfl⟩
 .exact⟨_,_,rfl,rfl⟩
 .exact⟨_,_,rfl,rfl⟩
 .exact⟨_,_,rfl,rfl⟩
def RR:El->Prop
 | .lex a _=>a.pairs.length<=1000000000
 | _=>True
theorem B3v {x:El} (h:N3 x) (hf:RR x) (ht:Tks l (p+1) ((Dm x).tail++(5,[59])::ks)):Bs l (x.j+2) (p+1) = .ok (.el x,p+(Dm x).length):=by
 cases x with
 | imp s=>
  have ht:Tks l (p+1) ((1,s.data.toList)::(5,[59])::ks):=ht;show Bs l 2 (p+1) = .ok (.el (.imp s),p+2);unfold Bs elS;rw[zz (by decide),zz (by decide),zz (by decide),Gm ht];rfl
 | typ x=>
  have ht:Tks l (p+1) ((1,x.name.data.toList)::((Hq x).tail++(5,[59])::ks)):=ht;show Bs l 3 (p+1) = .ok (.el (.typ x),p+((Hq x).length+1));unfold Bs elS;rw[zz (by decide),zz (by decide),zz (by decide),Gm ht];simp only;unfold Dr;rw[zz (by decide),zy rfl,B3s (p:=p+1) h ht.next];simp only;congr 2;omega
 | tmp d=>
  have e:=Vq (p:=p+1) (k:=4) (f:=El.tmp) h.o (λp=>by unfold Dr;rw[zz (by decide),zz (by decide),zz (by decide),zz (by decide),zy rfl]) (by decide) (by decide) (by decide) ht;show Bs l 4 (p+1) = .ok (.el (.tmp d),p+((CH d).length+1+1));rw[e];congr 2;omega
 | rul d=>
  have e:=Vq (p:=p+1) (k:=7) (f:=El.rul) h.o (λp=>by unfold Dr;rw[zz (by decide),zz (by decide),zz (by decide),zz (by decide),zz (by decide),zy rfl]) (by decide) (by decide) (by decide) ht;show Bs l 7 (p+1) = .ok (.el (.rul d),p+((CH d).length+1+1));rw[e];congr 2;omega
 | roo d=>
  have e:=Vq (p:=p+1) (k:=8) (f:=El.roo) h.o (λp=>by unfold Dr;rw[zz (by decide),zz (by decide),zz (by decide),zz (by decide),zz (by decide),zz (by decide)]) (by decide) (by decide) (by decide) ht;show Bs l 8 (p+1) = .ok (.el (.roo d),p+((CH d).length+1+1));rw[e];congr 2;omega
 | ent w d=>
  have ht:Tks l (p+1) ((1,d.name.data.toList)::(3,Cp [32] w)::(CH d++(5,[59])::ks)):=ht;show Bs l 5 (p+1) = .ok (.el (.ent w d),p+((CH d).length+1+1+1));unfold Bs elS;rw[zz (by decide),zz (by decide),zz (by decide),Gm ht];simp only;unfold Dr;rw[zz (by decide),zz (by decide),zy rfl];unfold DZ;rw[ht.next.tak];simp only;rw[B3p h.1.1 h.1.2];simp only;rw[Vp h.2.o ht.next.next];simp only;congr 2;omega
 | lex a d=>
  have ht:Tks l (p+1) ((1,d.name.data.toList)::((Hr a++CH d)++(5,[59])::ks)):=ht;show Bs l 6 (p+1) = .ok (.el (.lex a d),p+((Hr a++CH d).length+1+1));unfold Bs elS;rw[zz (by decide),zz (by decide),zz (by decide),Gm ht];simp only;unfold Dr;rw[zz (by decide),zz (by decide),zz (by decide),zy rfl]
  have h1:=ht.next
  rw[Xa]at h1;have e:CH d++(5,[59])::ks=(5,[61])::((CH d).tail++(5,[59])::ks):=rfl;unfold EJ;rw[B3t h.1.k hf (ks:=(CH d).tail++(5,[59])::ks) (by rw[<-e];exact h1)];simp only;rw[Vp h.2.o h1.app];simp only;rw[Xc];congr 2;omega
 | chk q=>
  have ht:Tks l (p+1) (tkG [] [(5,[46])] (λs:ByteArray=>[((2:Int),s.data.toList)]) q++(5,[59])::ks):=ht;have h3:=P8 (mx:=64) (step:=λp=>AJ l p 2) (tk:=λs:ByteArray=>[((2:Int),s.data.toList)]) (sep:=[46]) (by decide) h.1 (λz hz p ks ht hb=>Gm ht) ht (Mb _ (by decide) ks) h.2.1;show Bs l 9 (p+1) = .ok (.el (.chk q),p+((tkG [] [(5,[46])] (λs:ByteArray=>[((2:Int),s.data.toList)]) q).length+1));unfold Bs elS;rw[zz (by decide),zy rfl];unfold Gx;rw[h3];simp only;congr 2;omega
 | drp s=>
  have ht:Tks l (p+1) ((2,s.data.toList)::(5,[59])::ks):=ht;show Bs l 10 (p+1) = .ok (.el (.drp s),p+2);unfold Bs elS;rw[zz (by decide),zz (by decide),zy rfl,Gm ht]
theorem B3w {x:El} (h:N3 x) (hf:RR x) (ht:Tks l p (Dm x++(5,[59])::ks)):∃t,l[p]?=some t/\D1 t=x.j+2/\clA l t p = .ok (.el x,p+(Dm x).length+1)/\Tks l (p+(Dm x).length+1) ks:=by
 obtain⟨t,r,e,hk⟩:=B3u x;have ht0:=ht;rw[e,Xb]at ht0;have h1:=B3v h hf (by rw[e];exact ht0.next);refine⟨t,ht0.tok,hk,?_,ht.app.next⟩;unfold clA;rw[hk,h1];simp only;rw[ht.app.skip]
theorem mJ:∀(els done:List El) (f p:Nat) (F:List Md) (n:ByteArray) (ks:List KT),(∀x∈els,N3 x/\RR x)->(∀j,Cz j (done++els)<=256)->Tks l p (els.flatMap (λx=>Dm x++[(5,[59])])++ks)->els.length<f ->
  CR l f p ⟨F,some ⟨n,done⟩⟩=CR l (f-els.length) (p+(els.flatMap (λx=>Dm x++[(5,[59])])).length) ⟨F,some ⟨n,done++els⟩⟩/\Tks l (p+(els.flatMap (λx=>Dm x++[((5:Int),([59]:List UInt8))])).length) ks
 | [],done,f,p,F,n,ks,_,_,ht,_=>by
  rw[Xm];exact⟨rfl,ht⟩
 | x::r,done,f,p,F,n,ks,hx,hc,ht,hf=>by
  obtain⟨f,rfl⟩:∃g,f=g+1:=⟨f-1,by omega⟩
  rw[Xe]at hf;rw[Xi,Xa,Xa]at ht;obtain⟨h1,h2⟩:=hx x Xf;obtain⟨t,a1,a2,a3,a4⟩:=B3w h1 h2 ht;have hj:=x.jlt;have hcx:=hc x.j
  have hcnt:Cz x.j done<256:=by
   rw[Tu]at hcx
   have:1<=Cz x.j (x::r):=by
    have e:x::r=[x]++r:=rfl;rw[e,Tu,kK,zy rfl];omega
   omega
  have hm:CQ ⟨F,some ⟨n,done⟩⟩ (D1 t)=0:=by
   rw[a2];unfold CQ;rw[zz (by omega),zz (by omega)];simp only[Nat.add_sub_cancel];rw[zz (by omega)]
  have ih:=mJ r (done++[x]) f (p+(Dm x).length+1) F n ks (λy hy=>hx y (Xh _ hy)) (λj=>by rw[Xa];exact hc j) a4 (by omega)
  have el:((x::r).flatMap (λx=>Dm x++[((5:Int),([59]:List UInt8))])).length=(Dm x).length+1+(r.flatMap (λx=>Dm x++[((5:Int),([59]:List UInt8))])).length:=by
   rw[Xi,Xc,Xc,Xl]
  rw[el,CR,a1];simp only;rw[GB,zz (by rw[hm];decide),a3];simp only;rw[Xa]at ih;refine⟨?_,?_⟩
  .rw[show f+1-(x::r).length=f-r.length by rw[Xe];omega,show p+((Dm x).length+1+(r.flatMap (λx=>Dm x++[((5:Int),([59]:List UInt8))])).length)=p+(Dm x).length+1+(r.flatMap (λx=>Dm x++[((5:Int),([59]:List UInt8))])).length by omega];exact ih.1
  .rw[show p+((Dm x).length+1+(r.flatMap (λx=>Dm x++[((5:Int),([59]:List UInt8))])).length)=p+(Dm x).length+1+(r.flatMap (λx=>Dm x++[((5:Int),([59]:List UInt8))])).length by omega];exact ih.2
end
def RS (m:ML) (k:Nat):List El:=
 if k=2 then m.imps.map .imp else if k=3 then m.typs.map .typ else if k=4 then m.tmps.map .tmp else if k=5 then m.ents.map (λp=>.ent p.1 p.2)else if k=6 then m.lexs.map (λp=>.lex p.1 p.2)
 else if k=7 then m.ruls.map .rul else if k=8 then m.roos.map .roo else if k=9 then m.chks.map .chk else m.drps.map .drp
def ML.els (m:ML):List El:=kinds.flatMap (RS m)
def ML.md (m:ML):Md:=⟨m.name,m.els⟩
theorem B3x (m:ML) (k:Nat):BX m k=(RS m k).map elW:=by
 unfold BX RS
 repeat' split
 all_goals rw[Xn];rfl
theorem B3y (m:ML):Jx m=LV m++m.els.flatMap λx=>elW x++[59,10]:=by
 unfold Jx ML.els;congr 1;rw[List.flatMap_assoc];congr 1;funext k;unfold N1;rw[B3x,List.flatMap_map];rfl
theorem Bc {α β:Type} {g:El->Option α} {f:β->El} (h:∀y,g (f y)=none) (L:List β):(L.map f).filterMap g=[]:=by
 rw[Xx,List.filterMap_eq_nil_iff];exact λy _=>h y
theorem J1 {α:Type} {g:El->Option α} {f:α->El} (h:∀y,g (f y)=some y) (L:List α):(L.map f).filterMap g=L:=by
 rw[Xx];have:g∘f=some:=funext h;rw[this];exact List.filterMap_some
theorem ML.md_ml (m:ML):m.md.ml=m:=by
 obtain⟨n,a0,a1,a2,a3,a4,a5,a6,a7,a8⟩:=m
 have e:(ML.mk n a0 a1 a2 a3 a4 a5 a6 a7 a8).els=a0.map El.imp++(a1.map El.typ++(a2.map El.tmp++(a3.map (λp=>El.ent p.1 p.2)++(a4.map (λp=>El.lex p.1 p.2)++(a5.map El.rul++(a6.map El.roo++(a7.map El.chk++a8.map El.drp))))))):=by
  unfold ML.els;simp only[kinds,Xi,List.flatMap_nil,Xm];rfl
 unfold ML.md Md.ml;rw[e];simp only[List.filterMap_append];congr 1
 .rw[J1 (g:=El.i?) (f:=El.imp) (λ_=>rfl),Bc (g:=El.i?) (f:=El.typ) (λ_=>rfl),Bc (g:=El.i?) (f:=El.tmp) (λ_=>rfl),Bc (g:=El.i?) (f:=(λp:List ByteArray×Dfn=>El.ent p.1 p.2)) (λ_=>rfl),Bc (g:=El.i?) (f:=(λp:Afx×Dfn=>El.lex p.1 p.2)) (λ_=>rfl),Bc (g:=El.i?) (f:=El.rul) (λ_=>rfl),Bc (g:=El.i?) (f:=El.roo) (λ_=>rfl),Bc (g:=El.i?) (f:=El.chk) (λ_=>rfl),Bc (g:=El.i?) (f:=El.drp) (λ_=>rfl)];simp
 .rw[Bc (g:=El.t?) (f:=El.imp) (λ_=>rfl),J1 (g:=El.t?) (f:=El.typ) (λ_=>rfl),Bc (g:=El.t?) (f:=El.tmp) (λ_=>rfl),Bc (g:=El.t?) (f:=(λp:List ByteArray×Dfn=>El.ent p.1 p.2)) (λ_=>rfl),Bc (g:=El.t?) (f:=(λp:Afx×Dfn=>El.lex p.1 p.2)) (λ_=>rfl),Bc (g:=El.t?) (f:=El.rul) (λ_=>rfl),Bc (g:=El.t?) (f:=El.roo) (λ_=>rfl),Bc (g:=El.t?) (f:=El.chk) (λ_=>rfl),Bc (g:=El.t?) (f:=El.drp) (λ_=>rfl)];simp
 .rw[Bc (g:=El.m?) (f:=El.imp) (λ_=>rfl),Bc (g:=El.m?) (f:=El.typ) (λ_=>rfl),J1 (g:=El.m?) (f:=El.tmp) (λ_=>rfl),Bc (g:=El.m?) (f:=(λp:List ByteArray×Dfn=>El.ent p.1 p.2)) (λ_=>rfl),Bc (g:=El.m?) (f:=(λp:Afx×Dfn=>El.lex p.1 p.2)) (λ_=>rfl),Bc (g:=El.m?) (f:=El.rul) (λ_=>rfl),Bc (g:=El.m?) (f:=El.roo) (λ_=>rfl),Bc (g:=El.m?) (f:=El.chk) (λ_=>rfl),Bc (g:=El.m?) (f:=El.drp) (λ_=>rfl)];simp
 .rw[Bc (g:=El.e?) (f:=El.imp) (λ_=>rfl),Bc (g:=El.e?) (f:=El.typ) (λ_=>rfl),Bc (g:=El.e?) (f:=El.tmp) (λ_=>rfl),J1 (g:=El.e?) (f:=(λp:List ByteArray×Dfn=>El.ent p.1 p.2)) (λ_=>rfl),Bc (g:=El.e?) (f:=(λp:Afx×Dfn=>El.lex p.1 p.2)) (λ_=>rfl),Bc (g:=El.e?) (f:=El.rul) (λ_=>rfl),Bc (g:=El.e?) (f:=El.roo) (λ_=>rfl),Bc (g:=El.e?) (f:=El.chk) (λ_=>rfl),Bc (g:=El.e?) (f:=El.drp) (λ_=>rfl)];simp
 .rw[Bc (g:=El.l?) (f:=El.imp) (λ_=>rfl),Bc (g:=El.l?) (f:=El.typ) (λ_=>rfl),Bc (g:=El.l?) (f:=El.tmp) (λ_=>rfl),Bc (g:=El.l?) (f:=(λp:List ByteArray×Dfn=>El.ent p.1 p.2)) (λ_=>rfl),J1 (g:=El.l?) (f:=(λp:Afx×Dfn=>El.lex p.1 p.2)) (λ_=>rfl),Bc (g:=El.l?) (f:=El.rul) (λ_=>rfl),Bc (g:=El.l?) (f:=El.roo) (λ_=>rfl),Bc (g:=El.l?) (f:=El.chk) (λ_=>rfl),Bc (g:=El.l?) (f:=El.drp) (λ_=>rfl)];simp
 .rw[Bc (g:=El.r?) (f:=El.imp) (λ_=>rfl),Bc (g:=El.r?) (f:=El.typ) (λ_=>rfl),Bc (g:=El.r?) (f:=El.tmp) (λ_=>rfl),Bc (g:=El.r?) (f:=(λp:List ByteArray×Dfn=>El.ent p.1 p.2)) (λ_=>rfl),Bc (g:=El.r?) (f:=(λp:Afx×Dfn=>El.lex p.1 p.2)) (λ_=>rfl),J1 (g:=El.r?) (f:=El.rul) (λ_=>rfl),Bc (g:=El.r?) (f:=El.roo) (λ_=>rfl),Bc (g:=El.r?) (f:=El.chk) (λ_=>rfl),Bc (g:=El.r?) (f:=El.drp) (λ_=>rfl)];simp
 .rw[Bc (g:=El.o?) (f:=El.imp) (λ_=>rfl),Bc (g:=El.o?) (f:=El.typ) (λ_=>rfl),Bc (g:=El.o?) (f:=El.tmp) (λ_=>rfl),Bc (g:=El.o?) (f:=(λp:List ByteArray×Dfn=>El.ent p.1 p.2)) (λ_=>rfl),Bc (g:=El.o?) (f:=(λp:Afx×Dfn=>El.lex p.1 p.2)) (λ_=>rfl),Bc (g:=El.o?) (f:=El.rul) (λ_=>rfl),J1 (g:=El.o?) (f:=El.roo) (λ_=>rfl),Bc (g:=El.o?) (f:=El.chk) (λ_=>rfl),Bc (g:=El.o?) (f:=El.drp) (λ_=>rfl)];simp
 .rw[Bc (g:=El.c?) (f:=El.imp) (λ_=>rfl),Bc (g:=El.c?) (f:=El.typ) (λ_=>rfl),Bc (g:=El.c?) (f:=El.tmp) (λ_=>rfl),Bc (g:=El.c?) (f:=(λp:List ByteArray×Dfn=>El.ent p.1 p.2)) (λ_=>rfl),Bc (g:=El.c?) (f:=(λp:Afx×Dfn=>El.lex p.1 p.2)) (λ_=>rfl),Bc (g:=El.c?) (f:=El.rul) (λ_=>rfl),Bc (g:=El.c?) (f:=El.roo) (λ_=>rfl),J1 (g:=El.c?) (f:=El.chk) (λ_=>rfl),Bc (g:=El.c?) (f:=El.drp) (λ_=>rfl)];simp
 .rw[Bc (g:=El.d?) (f:=El.imp) (λ_=>rfl),Bc (g:=El.d?) (f:=El.typ) (λ_=>rfl),Bc (g:=El.d?) (f:=El.tmp) (λ_=>rfl),Bc (g:=El.d?) (f:=(λp:List ByteArray×Dfn=>El.ent p.1 p.2)) (λ_=>rfl),Bc (g:=El.d?) (f:=(λp:Afx×Dfn=>El.lex p.1 p.2)) (λ_=>rfl),Bc (g:=El.d?) (f:=El.rul) (λ_=>rfl),Bc (g:=El.d?) (f:=El.roo) (λ_=>rfl),Bc (g:=El.d?) (f:=El.chk) (λ_=>rfl),J1 (g:=El.d?) (f:=El.drp) (λ_=>rfl)];simp
variable {q : Gl}
def Mc (m:ML):List KT:=(1,LZ)::(1,m.name.data.toList)::(5,[59])::m.els.flatMap λx=>Dm x++[(5,[59])]
structure N4 (m:ML):Prop where
 n:AD false m.name=true
 e:∀x∈m.els,N3 x/\RR x
 c:∀j,Cz j m.els<=256
theorem mK:∀(els:List El),(∀x∈els,N3 x)->∀{X:List UInt8} {ks:List KT},Scn X ks->Scn (els.flatMap (λx=>elW x++[59,10])++X) (els.flatMap (λx=>Dm x++[(5,[59])])++ks)
 | [],_,X,ks,hs=>hs
 | x::r,h,X,ks,hs=>by
  have ih:=mK r (λy hy=>h y (Xh _ hy)) hs;have h1:=B3o (h x Xf) ih;rw[Xi,Xi];simp only[Xa,Xb,Xg];exact h1
theorem B3z {m:ML} (h:N4 m) {X:List UInt8} {ks:List KT} (hs:Scn X ks):Scn (Jx m++X) (Mc m++ks):=by
 have h1:=mK m.els (λx hx=>(h.e x hx).1) hs
 have e:Jx m++X=LZ++32::(m.name.data.toList++59::10::(m.els.flatMap (λx=>elW x++[59,10])++X)):=by
  rw[B3y];unfold LV LZ;simp
 rw[e];exact Hs (t:=LZ) (by decide) (Gg h.n (mD _) (mC h1))
theorem mL:∀(L:List ML),(∀m∈L,N4 m)->Scn (Ev L) (L.flatMap Mc)
 | [],_=>gD
 | m::r,h=>by
  have ih:=mL r λy hy=>h y (Xh _ hy);exact B3z (h m Xf) ih
theorem B4a (els:List El):els.length<=(els.flatMap λx=>Dm x++[((5:Int),([59]:List UInt8))]).length:=by
 induction els with
 | nil=>exact Nat.le_refl _
 | cons x r ih=>
  rw[Xi,Xc,Xc,Xe,Xl];omega
theorem mM {l:List KT}:∀(L:List ML) (A:List Md) (f p:Nat) (s:Sta),s.all=A->(∀m∈L,N4 m)->A.length+L.length<=256->Tks l p (L.flatMap Mc)->l.length<f+p->∃s',CR l f p s = .ok s'/\s'.all=A++L.map ML.md
 | [],A,f,p,s,hA,_,_,ht,hf=>by
  have hl:=ht.len
  obtain⟨f,rfl⟩:∃g,f=g+1:=⟨f-1,by simp at hl;omega⟩
  have hn:l[p]?=none:=List.getElem?_eq_none (by simp at hl;omega);refine⟨s,?_,by rw[hA];simp⟩;rw[CR,hn]
 | m::r,A,f,p,s,hA,hm,hc,ht,hf=>by
  rw[Xe]at hc;have hM:=hm m Xf;rw[Xi]at ht;have ht0:Tks l p ((1,LZ)::(1,m.name.data.toList)::(5,[59])::(m.els.flatMap (λx=>Dm x++[(5,[59])])++r.flatMap Mc)):=ht;have hl:=ht0.len;simp only[Xe,Xc]at hl
  obtain⟨f,rfl⟩:∃g,f=g+1:=⟨f-1,by omega⟩
  have hk:D1 (1,LZ)=1:=rfl;have hA2:=congrArg List.length hA
  have hmay:CQ s 1=0:=by
   unfold CQ;rw[zz (by decide),zy rfl,zz (by omega)]
  have hcl:clA l (1,LZ) p = .ok (.md m.name,p+1+1+1):=by
   unfold clA Bs;rw[hk,zy rfl,Gm ht0.next];simp only;rw[ht0.next.next.skip]
  have hlen:=B4a m.els
  have h2:=mJ m.els [] f (p+1+1+1) s.all m.name (r.flatMap Mc) hM.e hM.c ht0.next.next.next (by omega)
  obtain⟨h2,h3⟩:=h2;obtain⟨s',h4,h5⟩:=mM r (A++[m.md]) (f-m.els.length) _ ⟨s.all,some ⟨m.name,[]++m.els⟩⟩ (by show s.all++[_]=_;rw[hA];rfl) (λy hy=>hm y (Xh _ hy)) (by rw[Xc,Xl];omega) h3 (by omega);refine⟨s',?_,by rw[h5,Xa];rfl⟩;rw[CR,ht0.tok];simp only;rw[GB,hk,hmay,zz (by decide),hcl];simp only;rw[<-h4,<-h2];rfl
theorem B4b {L:List ML} (h:∀m∈L,N4 m) (hl:L.length<=256) (hn:(Ev L).length<=65536):Cd (Ev L) = .ok (L.map ML.md):=by
 have hsc:=mL L h;obtain⟨us,e1,e2⟩:=hsc 1 ((Ev L).length+1) (Nat.lt_succ_self _);have e1:CZ (Ev L) 1 = .ok us:=e1;have e2:us.map kt=L.flatMap Mc:=e2
 have hul:us.length=(L.flatMap Mc).length:=by rw[<-e2,Xq]
 obtain⟨s',h4,h5⟩:=mM (l:=us.map kt) L [] (us.length+1) 0 ⟨[],none⟩ rfl h (by simpa using hl) ⟨Nat.zero_le _,by rw[List.drop_zero];exact e2⟩ (by rw[Xq];omega);unfold Cd;rw[zz (by omega),e1];simp only;rw[h4];simp only;rw[h5];rfl
theorem B4c {j:Nat} (h:9<=j) (els:List El):Cz j els=0:=by
 unfold Cz;rw[List.length_eq_zero_iff,List.filter_eq_nil_iff];intro x _;have:=x.jlt;rw[decide_eq_true_eq];omega
theorem CY.mlpr {m:Md} {B:Nat} (G:CY B m) (hB:B<=4000):N4 m.ml:=by
 have dp:∀{d:Dfn},EU d->dfZ B d->KJ d:=λh hz=>⟨h,by have:=hz.1;omega,λk hk=>by have:=hz.2 k hk;omega⟩
 refine⟨G.n,λx hx=>?_,λj=>?_⟩
 .unfold ML.els at hx;obtain⟨k,hk,hx⟩:=List.mem_flatMap.1 hx;unfold RS at hx;split at hx
  .obtain⟨y,hy,rfl⟩:=Xd.1 hx;exact⟨G.i y hy,trivial⟩
  .split at hx
   .obtain⟨y,hy,rfl⟩:=Xd.1 hx;exact⟨G.t y hy,trivial⟩
   .split at hx
    .obtain⟨y,hy,rfl⟩:=Xd.1 hx;have:=G.tm y hy;exact⟨dp this.1 this.2,trivial⟩
    .split at hx
     .obtain⟨y,hy,rfl⟩:=Xd.1 hx;have:=G.en y hy;exact⟨⟨⟨this.1.1,this.1.2.1⟩,dp this.1.2.2 this.2.2⟩,trivial⟩
     .split at hx
      .obtain⟨y,hy,rfl⟩:=Xd.1 hx;have:=G.lx y hy;exact⟨⟨this.1,dp this.1.d this.2.2⟩,Nat.le_trans this.2.1.1 (by omega)⟩
      .split at hx
       .obtain⟨y,hy,rfl⟩:=Xd.1 hx;have:=G.ru y hy;exact⟨dp this.1 this.2,trivial⟩
       .split at hx
        .obtain⟨y,hy,rfl⟩:=Xd.1 hx;have:=G.ro y hy;exact⟨dp this.1 this.2,trivial⟩
        .split at hx
         .obtain⟨y,hy,rfl⟩:=Xd.1 hx;exact⟨G.ck y hy,trivial⟩
         .obtain⟨y,hy,rfl⟩:=Xd.1 hx;exact⟨G.dr y hy,trivial⟩
 .obtain⟨n0,n1,n2,n3,n4,n5,n6,n7,n8⟩:=G.lens
  have key:∀{α:Type} (g:El->Option α) (j:Nat) (L:List α),(∀x,(g x).isSome=decide (x.j=j))->m.ml.md.els.filterMap g=L->L.length<=256->Cz j m.ml.els<=256:=λg j L hg he hl=>by
   rw[<-he,Ho g j hg]at hl;exact hl
  have e:=ML.md_ml m.ml;by_cases h9:9<=j
  .rw[B4c h9];omega
  have hj:j=0\/j=1\/j=2\/j=3\/j=4\/j=5\/j=6\/j=7\/j=8:=by omega
  rcases hj with rfl | rfl | rfl | rfl | rfl | rfl | rfl | rfl | rfl
  .exact key El.i? 0 _ (λx=>by cases x<;>rfl) (congrArg ML.imps e) n0
  .exact key El.t? 1 _ (λx=>by cases x<;>rfl) (congrArg ML.typs e) n1
  .exact key El.m? 2 _ (λx=>by cases x<;>rfl) (congrArg ML.tmps e) n2
  .exact key El.e? 3 _ (λx=>by cases x<;>rfl) (congrArg ML.ents e) n3
  .exact key El.l? 4 _ (λx=>by cases x<;>rfl) (congrArg ML.lexs e) n4
  .exact key El.r? 5 _ (λx=>by cases x<;>rfl) (congrArg ML.ruls e) n5
  .exact key El.o? 6 _ (λx=>by cases x<;>rfl) (congrArg ML.roos e) n6
  .exact key El.c? 7 _ (λx=>by cases x<;>rfl) (congrArg ML.chks e) n7
  .exact key El.d? 8 _ (λx=>by cases x<;>rfl) (congrArg ML.drps e) n8
def lnC (L:List UInt8) (j:Nat):Nat:=1+nl (L.take j)
theorem B4d:AO (.t Ah)=some (.t (iv 0)):=rfl
def SPn (s:ByteArray) (x1:Nat) (L:List UInt8) (j:Nat):Ad:=⟨[(7,.t (iv (j:Int))),(6,.t (iv (lnC L j:Int))),(4,.t (iv (x1:Int))),(3,.t Ah),(0,.t (sv s))],[],0,88⟩
theorem B4e {L:List UInt8} {j:Nat} {c:UInt8} (h:L[j]?=some c):nl (L.take (j+1))=nl (L.take j)+(if c.toNat=10 then 1 else 0):=by
 rw[List.take_add_one,h,gF];congr 1;show nl [c]=_;rw[RW];show nl []+_=_;rw[show nl []=0 from rfl,Nat.zero_add]
theorem B4f (L:List UInt8):nl L<=L.length:=List.countP_le_length
theorem B4g (s:ByteArray):A1 Tryz.prog (G q) 5 [sv s] (· = bv true):=by
 have CE:Ctx Tryz.prog (G q) (orc [(9,gEx),(14,gPs),(17,LY),(16,G5)]):=(As.cons hEx (.cons hPs (.cons lW (.cons Ub .nil)))).ctx mixed;refine vJ.call rfl ?_;have hl:s.data.toList.length=s.size:=rfl
 obtain⟨L,hL⟩:∃L,L=s.data.toList:=⟨_,rfl⟩
 (conv in aT=>cbv);refine Av AL ?_;simp -implicitDefEqProofs;by_cases hs:4000<s.size
 .have hs':(4000:Int)<(s.size:Int):=by omega
  refine Av CE ?_;simp -implicitDefEqProofs [hs,hs',ge0]
 have hs':¬(4000:Int)<(s.size:Int):=by omega
 refine Av CE ?_;simp -implicitDefEqProofs [hs,hs'];have g1:=Hp (s:=s) (by omega)
 cases hA:Cd s.data.toList with
 | error x=>
  obtain⟨hx,x1,x2⟩:=mW hA (by omega)
  have hb:(x.2 != 0)=true:=by rw[bne_iff_ne];exact hx
  rw[hA]at g1;have g1:gPs [sv s]=some (.tu [Ah,iv (x.1:Int),iv x.2]):=g1;rw[<-hL]at x2 hl;obtain⟨n,e⟩:=x;simp only at hx x1 x2 hb g1;refine Av CE ?_;simp -implicitDefEqProofs [g1];refine BF (α:=Empty) (λa=>nomatch a) (λa=>nomatch a) (λa=>nomatch a) ?_ (λa=>nomatch a);refine Av AL ?_;simp -implicitDefEqProofs;refine Cr (t:=true) (by simp -implicitDefEqProofs [hb]) ?_;simp only[if_true];refine Av AL ?_;simp -implicitDefEqProofs;refine BF (α:=Unit) (λ_=>⟨[(6,.t (iv (lnC L s.size:Int))),(4,.t (iv (n:Int))),(3,.t Ah),(0,.t (sv s))],[],0,88⟩) (λ_=>True) (λ_=>rfl) ?_ ?_
  .refine Av AL ?_;simp -implicitDefEqProofs;refine BD ?_;refine Gv (SPn s n L) s.size (λ_=>rfl) ?_ rfl ?_ ?_
   .have h0:lnC L 0=1:=rfl;refine AQ rfl rfl ?_ ?_<;>simp -implicitDefEqProofs [SPn,h0]
   .intro j hj
    obtain⟨c,hc⟩:∃c,L[j]?=some c:=⟨_,List.getElem?_eq_getElem (by omega)⟩
    have ix:=DM s j c (by rw[<-hL];exact hc);have hn:=B4e hc;have hn2:=B4f (L.take j)
    have hn3:(L.take j).length<=j:=by rw[List.length_take];omega
    have e1:Xy.wrap ((j:Int)+1)=((j+1:Nat):Int):=AP (by omega) (by omega);by_cases h10:c.toNat=10
    .rw[zy h10]at hn
     have hk:((c.toNat:Int)==10)=true:=by rw[beq_iff_eq];omega
     obtain⟨u,hu⟩:∃u,u=lnC L j:=⟨_,rfl⟩
     have hu2:lnC L (j+1)=u+1:=by rw[hu];unfold lnC;omega
     have hu3:u<=5000:=by rw[hu];unfold lnC;omega
     have e2:Xy.wrap ((u:Int)+1)=((u+1:Nat):Int):=AP (by omega) (by omega);refine Ap AL ?_;simp -implicitDefEqProofs [SPn,<-hu,hj,ix,cv,hk,e1,e2];refine AQ rfl rfl ?_ ?_<;>simp -implicitDefEqProofs [hu2]
    .rw[zz h10,Nat.add_zero]at hn
     have hk:((c.toNat:Int)==10)=false:=by rw[zu];omega
     have hu2:lnC L (j+1)=lnC L j:=by unfold lnC;omega
     refine Ap AL ?_;simp -implicitDefEqProofs [SPn,hj,ix,cv,hk,e1];refine AQ rfl rfl ?_ ?_<;>simp -implicitDefEqProofs [hu2]
   .refine Ap AL ?_;simp -implicitDefEqProofs [SPn];exact Am.mk () trivial (AQ rfl rfl (by simp -implicitDefEqProofs) (by simp -implicitDefEqProofs))
  rintro _ _
  have d1:(1:Int)<=(n:Int):=by omega
  obtain⟨u,hu⟩:∃u,u=lnC L s.size:=⟨_,rfl⟩
  have hu1:u=1+nl L:=by rw[hu];unfold lnC;rw[List.take_of_length_le (by omega)]
  rw[<-hu1]at x2
  have d2:(n:Int)<=(u:Int):=by omega
  refine Ap CE ?_;simp -implicitDefEqProofs [<-hu,B4d,d1,d2,x1,x2,ge0]
 | ok A=>
 rw[hA]at g1;have g1:gPs [sv s]=some (.tu [Cb A,iv 0,iv 0]):=g1;have hg:=LR hA (B:=4000) (by omega);have hgd:∀m∈A,CY 4000 m:=λm hm=>(hg.1 m hm).1;have gp:=lV (DD.mds A) (mA hgd (by omega) hg.2)
 have hfe:AV FS (A.map Md.ml)=0:=Im λm hm=>by
  obtain⟨x,hx,rfl⟩:=Xd.1 hm;exact(hgd x hx).err
 have hpr:∀m∈A.map Md.ml,N4 m:=λm hm=>by
  obtain⟨x,hx,rfl⟩:=Xd.1 hm;exact(hgd x hx).mlpr (by omega)
 have hAl:(A.map Md.ml).length<=256:=by rw[Xq];exact hg.2
 unfold LW at gp;rw[zz (by omega),zz (λh=>h hfe)]at gp;refine Av CE ?_;simp -implicitDefEqProofs [g1];refine Av AL ?_;simp -implicitDefEqProofs;by_cases h6:65536<(Ev (A.map Md.ml)).length
 .rw[zy h6]at gp;generalize Cb A=ta at g1 gp;refine Av CE ?_;simp -implicitDefEqProofs [gp];refine Av CE ?_;simp -implicitDefEqProofs [ge0]
 rw[zz h6]at gp;have hC:=B4b hpr hAl (by omega);have g3:=Hp (s:=bs (Ev (A.map Md.ml))) (by show(Ev (A.map Md.ml)).toArray.size<=_;rw[List.size_toArray];omega);have e2:(bs (Ev (A.map Md.ml))).data.toList=Ev (A.map Md.ml):=rfl;rw[e2,hC]at g3;have g3:gPs [sv (bs (Ev (A.map Md.ml)))]=some (.tu [Cb ((A.map Md.ml).map ML.md),iv 0,iv 0]):=g3
 have hsm:G5 [Cb ((A.map Md.ml).map ML.md),Cb A]=some (bv true):=by
  have h1:=DD.mds ((A.map Md.ml).map ML.md)
  have h2:((A.map Md.ml).map ML.md).map Md.ml=A.map Md.ml:=by
   rw[Xn];exact Xw (λm=>ML.md_ml m) _
  rw[h2]at h1
  exact OS h1 (DD.mds A) (by omega) λm hm=>by
   obtain⟨x,hx,rfl⟩:=Xd.1 hm;exact(hgd x hx).ok (by omega)
 generalize Cb ((A.map Md.ml).map ML.md)=tc at g3 hsm;generalize bs (Ev (A.map Md.ml))=pt at g3 gp;generalize Cb A=ta at g1 gp hsm;refine Av CE ?_;simp -implicitDefEqProofs [gp];refine Av CE ?_;simp -implicitDefEqProofs;refine Av CE ?_;simp -implicitDefEqProofs [g3];refine Ap CE ?_;simp -implicitDefEqProofs [hsm,ge0]
end Go.Proofs.YtobnacghaamfoaaGreatDoor
