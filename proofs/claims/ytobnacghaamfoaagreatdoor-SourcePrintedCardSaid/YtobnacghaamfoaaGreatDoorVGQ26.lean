/- Auxiliary facts. -/
import Derived.Test.YtobnacghaamfoaaGreatDoorVGQ24
import Derived.Test.YtobnacghaamfoaaGreatDoorVGQ13
import Derived.Test.YtobnacghaamfoaaGreatDoorVGQ17
import Derived.Test.YtobnacghaamfoaaGreatDoorVGQ32
import Derived.Test.YtobnacghaamfoaaGreatDoorVGQ34
import Derived.Test.YtobnacghaamfoaaGreatDoorVGQ27
import Derived.Test.YtobnacghaamfoaaGreatDoorVGQ35
import Derived.Test.YtobnacghaamfoaaGreatDoorVGQ36
set_option linter.unusedSimpArgs false
set_option linter.unusedVariables false
open List renaming length_cons->Xa,append_assoc->Xb,length_append->Xc,cons_append->Xd,nil_append->Xe,flatMap_cons->Xf,singleton_append->Xg,all_cons->Xi,append_nil->Xj,length_nil->Xk,takeWhile_cons->Xl,take_left'->Xm,drop_drop->Xo
open Bool renaming and_eq_true->Xh,false_and->Xn
namespace Go.Proofs.YtobnacghaamfoaaGreatDoor
open Go Go.Abs
theorem El.jlt (x:El):x.j<9:=by cases x<;>simp[El.j]
def tkP:List ByteArray->List KT
 | []=>[]
 | s::r=>(2,s.data.toList)::(match r with | []=>[] | _::_=>(5,[46])::tkP r)
mutual
def tkD:Ds->List KT
 | .mk op name path kids=>
  if op=1 then [(1,name.data.toList)]
  else if op=2 then [(5,[64]),(1,name.data.toList)]
  else if op=3 then [(5,[35]),(1,name.data.toList)]
  else if op=4 then tkL [(5,[38])] [(5,[38])] kids
  else if op=5 then(5,[91])::(tkP path++(tkL [] [] kids++[(5,[93])]))
  else if op=6 then(5,[60])::(tkL [(5,[44])] [(5,[44])] kids++[(5,[62])])
  else if op=7 then(5,[60])::(tkL [(5,[44])] [(5,[124])] kids++[(5,[62])])
  else(5,[60,33])::(tkL [(5,[44])] [(5,[44])] kids++[(5,[33,62])])
def tkL (sep last:List KT):List Ds->List KT
 | []=>[]
 | d::r=>tkD d++(ER sep last r++tkL sep last r)
end
theorem TS {big:Bool}:∀{D X:List UInt8},D.all (BL big)=true->(∀c r,X=c::r->BL big c=false)->AB big (D++X)=D.length
 | [],X,_,hx=>by
  cases X with
  | nil=>rfl
  | cons c r=>unfold AB;rw[Xe,Xl,zz (by rw[hx c r rfl];simp)]
 | c::D,X,h,hx=>by
  rw[Xi,Xh]at h;have ih:=TS h.2 hx;unfold AB at ih ⊢;rw[Xd,Xl,zy h.1,Xa,ih,Xa]
theorem A0d {s:ByteArray} (h:AD false s=true) {X:List UInt8} (hx:∀c r,X=c::r->BL false c=false):Ax (s.data.toList++X)=⟨1,s.data.toList,0,s.data.toList.length⟩:=by
 obtain⟨c,r,hs,hl,hd,h45,hall⟩:=Ko h;have hlen:s.data.toList.length=s.size:=rfl;rw[hs]at hlen ⊢
 have hlow:B7 c=true:=by
  rw[Xi,Xh]at hall;have:=hall.1;simpa[BL,hd,h45]using this
 have hrun:=TS hall hx
 have e:Ax (c::r++X)=⟨1,(c::r++X).take (AB false (c::r++X)),if 32<AB false (c::r++X)then 7 else 0,AB false (c::r++X)⟩:=by
  rw[Xd,Ax,zy hlow]
 rw[e,hrun,Xm,zz (by omega)];rfl
theorem TT {s:ByteArray} (h:AD true s=true) {X:List UInt8} (hx:∀c r,X=c::r->BL true c=false):Ax (s.data.toList++X)=⟨2,s.data.toList,0,s.data.toList.length⟩:=by
 obtain⟨c,r,hs,hl,hd,h45,hall⟩:=Ko h;have hlen:s.data.toList.length=s.size:=rfl;rw[hs]at hlen ⊢
 have hup:Bq c=true:=by
  rw[Xi,Xh]at hall;have:=hall.1;simpa[BL,hd,h45]using this
 have hlow:B7 c=false:=by
  cases hl:B7 c with
  | false=>rfl
  | true=>rw[Rr hl]at hup;cases hup
 have hrun:=TS hall hx
 have e:Ax (c::r++X)=⟨2,(c::r++X).take (AB true (c::r++X)),if 32<AB true (c::r++X)then 7 else 0,AB true (c::r++X)⟩:=by
  rw[Xd,Ax,zz (by rw[hlow];simp),zy hup]
 rw[e,hrun,Xm,zz (by omega)];rfl
theorem E5 {c:UInt8} (h1:B7 c=false) (h2:Bq c=false) (h3:(AR c||decide (c.toNat=45))=false) (h4:¬c.toNat=34) (h5:E1.contains c=true) {X:List UInt8} (hx:c≠33) (hy:c=60->∀r,X≠33::r) :
  Ax (c::X)=⟨5,[c],0,1⟩:=by
 have hs:A8 (c::X)=(1,0):=by
  cases X with
  | nil=>rw[L3,zy h5]
  | cons d r=>
   rw[HY]
   have e1:(33==c)=false:=by rw[zu];exact λe=>hx e.symm
   have e2:((60==c)&&(33==d))=false:=by
    by_cases e:c=60
    .have:d≠33:=λe3=>hy e r (by rw[e3])
     have:(33==d)=false:=by rw[zu];exact λe=>this e.symm
     rw[this,Bool.and_false]
    .have:(60==c)=false:=by rw[zu];exact λe3=>e e3.symm
     rw[this,Xn]
   rw[e1,e2,Xn,Bool.or_false,zz (by simp),zy h5]
 rw[Ax,zz (by rw[h1];simp),zz (by rw[h2];simp),zz (by rw[h3];simp),zz h4,hs];rfl
theorem cS (X:List UInt8):Ax (60::33::X)=⟨5,[60,33],0,2⟩:=by
 have hs:A8 (60::33::X)=(2,0):=by rw[HY];rfl
 rw[Ax,zz (by decide),zz (by decide),zz (by decide),zz (by decide),hs];rfl
theorem A0e (X:List UInt8):Ax (33::62::X)=⟨5,[33,62],0,2⟩:=by
 have hs:A8 (33::62::X)=(2,0):=by rw[HY];rfl
 rw[Ax,zz (by decide),zz (by decide),zz (by decide),zz (by decide),hs];rfl
def HX (X:List UInt8):Prop:=∀c r,X=c::r->c=32\/c=44\/c=62\/c=93\/c=59
theorem HX.part {X:List UInt8} (h:HX X) (big:Bool):∀c r,X=c::r->BL big c=false:=λc r e=>by
 rcases h c r e with rfl | rfl | rfl | rfl | rfl<;>cases big<;>decide
theorem Gg {s:ByteArray} (h:AD false s=true) {X:List UInt8} {ks:List KT} (hx:HX X) (hs:Scn X ks):Scn (s.data.toList++X) ((1,s.data.toList)::ks):=by
 obtain⟨c,r,e,_⟩:=Ko h;exact Dh hs (by rw[e];simp) (A0d h (hx.part false))
theorem cT:∀(path:List ByteArray),path.all (AD true)=true->∀{X:List UInt8} {ks:List KT},Scn X ks->Scn (Dg path++32::X) (tkP path++ks)
 | [],_,X,ks,h=>CV h
 | s::r,hp,X,ks,h=>by
  rw[Xi,Xh]at hp;obtain⟨c,r',e,_⟩:=Ko hp.1
  cases r with
  | nil=>
   rw[Dg,tkP];simp only[Xj,Xd,Xe];exact Dh (CV h) (by rw[e];simp) (TT hp.1 λc r e=>by injection e with e _;subst e;decide)
  | cons s2 r2=>
   have ih:=cT (s2::r2) hp.2 h;rw[Dg,tkP];simp only[Xb,Xd];refine Dh ?_ (by rw[e];simp) (TT hp.1 λc r e=>by injection e with e _;subst e;decide);exact Dh (t:=[46]) ih (by simp) (E5 (by decide) (by decide) (by decide) (by decide) (by decide) (by decide) (λh=>absurd h (by decide)))
theorem cU:∀(d:Ds) (lv:Nat),Bb d lv=0->∃c r,wrD d=c::r/\c≠33
 | .mk op name path kids,lv,h=>by
  obtain⟨_,_,_,o1,o8,hf,hk⟩:=Ks h;obtain⟨f1,f2,f3,f4⟩:=LA hf;rw[wrD];split
  .rename_i e;subst e;have f1':AD false name=true:=f1;obtain⟨c,r,e,_,hd,h45,hall⟩:=Ko f1';refine⟨c,r,e,λe=>?_⟩;subst e;rw[Xi,Xh]at hall;exact absurd hall.1 (by decide)
  .split
   .exact⟨_,_,rfl,by decide⟩
   .split
    .exact⟨_,_,rfl,by decide⟩
    .split
     .rename_i e;subst e
      cases kids with
      | nil=>exact absurd f4 (by decide)
      | cons k r=>
       obtain⟨c,r',e,hc⟩:=cU k _ (L9 hk).1;rw[wrL,e];exact⟨c,_,rfl,hc⟩
     .split
      .exact⟨_,_,rfl,by decide⟩
      .split
       .exact⟨_,_,rfl,by decide⟩
       .split
        .exact⟨_,_,rfl,by decide⟩
        .split
         .exact⟨_,_,rfl,by decide⟩
         .exact⟨_,_,rfl,by decide⟩
def Gs (sep:List UInt8) (ks:List KT):Prop:=(∀X kx,Scn X kx->Scn (sep++X) (ks++kx))/\∀X,HX (sep++X)
theorem cV:Gs [32,38,32] [(5,[38])]:=
 ⟨λX kx h=>CV (Dh (t:=[38]) (CV h) (by simp) (E5 (by decide) (by decide) (by decide) (by decide) (by decide) (by decide) (λh=>absurd h (by decide)))),λX c r e=>by injection e with e _;exact .inl e.symm⟩
theorem A0f:Gs [32,124,32] [(5,[124])]:=
 ⟨λX kx h=>CV (Dh (t:=[124]) (CV h) (by simp) (E5 (by decide) (by decide) (by decide) (by decide) (by decide) (by decide) (λh=>absurd h (by decide)))),λX c r e=>by injection e with e _;exact .inl e.symm⟩
theorem OO:Gs [44,32] [(5,[44])]:=
 ⟨λX kx h=>Dh (t:=[44]) (CV h) (by simp) (E5 (by decide) (by decide) (by decide) (by decide) (by decide) (by decide) (λh=>absurd h (by decide))),λX c r e=>by injection e with e _;exact .inr (.inl e.symm)⟩
theorem cW (kids:List Ds) (sep last:List UInt8) (lv:Nat) (h:DS kids lv=0) (X:List UInt8):∀r,wrL sep last kids++62::X≠33::r:=by
 intro r e
 cases kids with
 | nil=>rw[wrL]at e;injection e with e _;exact absurd e (by decide)
 | cons k ks=>
  obtain⟨c,r',e1,hc⟩:=cU k lv (L9 h).1;rw[wrL,e1]at e;injection e with e _;exact hc e
mutual
theorem MQ:∀(d:Ds) (lv:Nat),Bb d lv=0->∀{X:List UInt8} {ks:List KT},HX X->Scn X ks->Scn (wrD d++X) (tkD d++ks)
 | .mk op name path kids,lv,h,X,ks,hx,hs=>by
  obtain⟨_,_,_,o1,o8,hf,hk⟩:=Ks h;obtain⟨f1,f2,f3,f4⟩:=LA hf;rw[wrD,tkD];by_cases e1:op=1
  .subst e1;rw[zy rfl,zy rfl];exact Gg f1 hx hs
  rw[zz e1,zz e1];by_cases e2:op=2
  .subst e2;rw[zy rfl,zy rfl];exact Dh (t:=[64]) (Gg f1 hx hs) (by simp) (E5 (by decide) (by decide) (by decide) (by decide) (by decide) (by decide) (λh=>absurd h (by decide)))
  rw[zz e2,zz e2];by_cases e3:op=3
  .subst e3;rw[zy rfl,zy rfl];exact Dh (t:=[35]) (Gg f1 hx hs) (by simp) (E5 (by decide) (by decide) (by decide) (by decide) (by decide) (by decide) (λh=>absurd h (by decide)))
  rw[zz e3,zz e3];by_cases e4:op=4
  .subst e4;rw[zy rfl,zy rfl];exact MR kids _ hk _ _ _ _ (.inr ⟨cV,cV⟩) hx hs
  rw[zz e4,zz e4];rw[zz e4]at hk;by_cases e5:op=5
  .subst e5;rw[zy rfl,zy rfl]
   have hl:kids.length<=1:=by
    have:Es 5 kids=decide (kids.length=1):=rfl;rw[this]at f4;have:=of_decide_eq_true f4;omega
   simp only[Xd,Xb,Xe];refine Dh (t:=[91]) ?_ (by simp) (E5 (by decide) (by decide) (by decide) (by decide) (by decide) (by decide) (λh=>absurd h (by decide)));refine cT path f3 ?_;refine MR kids _ hk _ _ _ _ (.inl hl) (λc r e=>by injection e with e _;exact .inr (.inr (.inr (.inl e.symm)))) ?_;exact Dh (t:=[93]) hs (by simp) (E5 (by decide) (by decide) (by decide) (by decide) (by decide) (by decide) (λh=>absurd h (by decide)))
  rw[zz e5,zz e5];have c62:Scn (62::X) ((5,[62])::ks):=Dh (t:=[62]) hs (by simp) (E5 (by decide) (by decide) (by decide) (by decide) (by decide) (by decide) (λh=>absurd h (by decide)))
  have h62:HX (62::X):=λc r e=>by injection e with e _;exact .inr (.inr (.inl e.symm))
  by_cases e6:op=6
  .subst e6;rw[zy rfl,zy rfl];simp only[Xd,Xb,Xe];refine Dh (t:=[60]) ?_ (by simp) (E5 (by decide) (by decide) (by decide) (by decide) (by decide) (by decide) (λ_=>cW kids _ _ _ hk X));exact MR kids _ hk _ _ _ _ (.inr ⟨OO,OO⟩) h62 c62
  rw[zz e6,zz e6];by_cases e7:op=7
  .subst e7;rw[zy rfl,zy rfl];simp only[Xd,Xb,Xe];refine Dh (t:=[60]) ?_ (by simp) (E5 (by decide) (by decide) (by decide) (by decide) (by decide) (by decide) (λ_=>cW kids _ _ _ hk X));exact MR kids _ hk _ _ _ _ (.inr ⟨OO,A0f⟩) h62 c62
  rw[zz e7,zz e7];have cl:Scn (33::62::X) ((5,[33,62])::ks):=Dh (t:=[33,62]) hs (by simp) (A0e X);split
  .rename_i h0;have:kids=[]:=List.eq_nil_of_length_eq_zero h0;subst this;rw[tkL];exact Dh (t:=[60,33]) (CV cl) (by simp) (cS _)
  .simp only[Xd,Xb,Xe];refine Dh (t:=[60,33]) (CV ?_) (by simp) (cS _);exact MR kids _ hk _ _ _ _ (.inr ⟨OO,OO⟩) (λc r e=>by injection e with e _;exact .inl e.symm) (CV cl)
theorem MR:∀(l:List Ds) (lv:Nat),DS l lv=0->∀(sep last:List UInt8) (ksep klast:List KT),(l.length<=1\/(Gs sep ksep/\Gs last klast))->∀{X:List UInt8} {ks:List KT},HX X->Scn X ks->Scn (wrL sep last l++X) (tkL ksep klast l++ks)
 | [],lv,_,_,_,_,_,_,X,ks,_,hs=>by rw[wrL,tkL];exact hs
 | d::r,lv,h,sep,last,ksep,klast,hg,X,ks,hx,hs=>by
  obtain⟨h1,h2⟩:=L9 h;rw[wrL,tkL,Xb,Xb,Xb,Xb]
  cases r with
  | nil=>
   rw[wrL,tkL];exact MQ d lv h1 hx hs
  | cons d2 r2=>
   have hg':Gs sep ksep/\Gs last klast:=by
    rcases hg with hg | hg
    .simp at hg
    .exact hg
   have ih:=MR (d2::r2) lv h2 sep last ksep klast (.inr hg') hx hs
   cases r2 with
   | nil=>exact MQ d lv h1 (hg'.2.2 _) (hg'.2.1 _ _ ih)
   | cons d3 r3=>exact MQ d lv h1 (hg'.1.2 _) (hg'.1.1 _ _ ih)
end
section
variable {l : List KT}
def Tks (l:List KT) (p:Nat) (ks:List KT):Prop:=p<=l.length/\l.drop p=ks
theorem Tks.len {p:Nat} {ks:List KT} (h:Tks l p ks):l.length=p+ks.length:=by
 have:=congrArg List.length h.2;rw[List.length_drop]at this;have:=h.1;omega
theorem Tks.tok {p:Nat} {t:KT} {ks:List KT} (h:Tks l p (t::ks)):l[p]?=some t:=by
 have:(l.drop p)[0]?=some t:=by rw[h.2];rfl
 rwa[List.getElem?_drop,Nat.add_zero]at this
theorem Tks.next {p:Nat} {t:KT} {ks:List KT} (h:Tks l p (t::ks)):Tks l (p+1) ks:=by
 have hl:=h.len;rw[Xa]at hl;refine⟨by omega,?_⟩;rw[<-Xo,h.2];rfl
theorem Tks.app {p:Nat} {ts ks:List KT} (h:Tks l p (ts++ks)):Tks l (p+ts.length) ks:=by
 have hl:=h.len;rw[Xc]at hl;refine⟨by omega,?_⟩;rw[<-Xo,h.2,List.drop_left' rfl]
theorem Tks.sy {p:Nat} {t:KT} {ks:List KT} (h:Tks l p (t::ks)) (s:List UInt8):Be l p s=(decide (t.1=5)&&decide (t.2=s)):=by
 unfold Be;rw[h.tok]
theorem Tks.noSy {p:Nat} {ks:List KT} (h:Tks l p ks) {s:List UInt8} (hn:ks.head?≠some (5,s)):Be l p s=false:=by
 cases ks with
 | nil=>
  have hl:=h.len;have:l[p]?=none:=List.getElem?_eq_none (by simp at hl;omega);unfold Be;rw[this]
 | cons t ks=>
  rw[h.sy]
  cases hd:(decide (t.1=5)&&decide (t.2=s))with
  | false=>rfl
  | true=>
   exfalso;rw[Xh]at hd;have e1:=of_decide_eq_true hd.1;have e2:=of_decide_eq_true hd.2;apply hn;obtain⟨a,b⟩:=t;simp only at e1 e2;rw[e1,e2];rfl
theorem Tks.isS {p:Nat} {s:List UInt8} {ks:List KT} (h:Tks l p ((5,s)::ks)):Be l p s=true:=by rw[h.sy];simp
theorem Tks.tak {p:Nat} {k:Int} {s:List UInt8} {ks:List KT} (h:Tks l p ((k,s)::ks)):AJ l p k = .ok (bs s,p+1):=by
 unfold AJ;rw[h.tok];simp
theorem Tks.skip {p:Nat} {s:List UInt8} {ks:List KT} (h:Tks l p ((5,s)::ks)):B6 l p s = .ok (p+1):=by
 have hl:=h.len;rw[Xa]at hl;unfold B6;rw[zz (by omega),h.isS];rfl
theorem Tks.close {p:Nat} {s:List UInt8} {ks:List KT} (h:Tks l p ((5,s)::ks)) (op:Int) (kids:List Ds):Da l s op kids p = .ok (.mk op ⟨#[]⟩ [] kids,p+1):=by
 unfold Da;rw[h.skip]
theorem cX {n:ByteArray} (h:n.size=0):n=⟨#[]⟩:=by
 obtain⟨a⟩:=n;have:a.size=0:=h;congr;exact Array.eq_empty_of_size_eq_zero this
def tkF (path:List ByteArray):List KT:=path.flatMap λs=>[(5,[46]),(2,s.data.toList)]
theorem cY (s:ByteArray):∀r:List ByteArray,tkP (s::r)=(2,s.data.toList)::tkF r
 | []=>rfl
 | s2::r=>by
  rw[tkP,cY s2 r];rfl
theorem cZ:∀(r:List ByteArray) (f p:Nat) (path:List ByteArray) (ks:List KT),Tks l p (tkF r++ks)->ks.head?≠some (5,[46])->path.length+r.length<=64->r.length<f->E2 l f p path = .ok (path++r,p+(tkF r).length)
 | [],f,p,path,ks,h,hk,hl,hf=>by
  obtain⟨f,rfl⟩:∃g,f=g+1:=⟨f-1,by omega⟩
  rw[E2,zz (by rw[Tks.noSy h hk];simp),Xj];rfl
 | s::r,f,p,path,ks,h,hk,hl,hf=>by
  obtain⟨f,rfl⟩:∃g,f=g+1:=⟨f-1,by omega⟩
  have h':Tks l p ((5,[46])::((2,s.data.toList)::(tkF r++ks))):=h;simp only[Xa]at hl hf;rw[E2,zy h'.isS,zz (by omega),h'.next.tak];simp only;rw[En,cZ r f _ _ ks h'.next.next hk (by simp;omega) (by omega)];have e:(tkF (s::r)).length=(tkF r).length+2:=rfl
  have e1:path++[s]++r=path++s::r:=by simp
  have e2:p+1+1+(tkF r).length=p+((tkF r).length+2):=by omega
  rw[e,e1,e2]
theorem dA:∀r:List ByteArray,(tkF r).length=2*r.length
 | []=>rfl
 | s::r=>by
  have e:(tkF (s::r)).length=(tkF r).length+2:=rfl;rw[e,dA r,Xa];omega
def tkS (sep:List KT) (r:List Ds):List KT:=r.flatMap λd=>sep++tkD d
theorem Kf (sep:List KT):∀(d:Ds) (r:List Ds),tkL sep sep (d::r)=tkD d++tkS sep r
 | d,[]=>by rw[tkL,tkL];rfl
 | d,d2::r=>by
  rw[tkL,Kf sep d2 r]
  have e:tkS sep (d2::r)=sep++tkD d2++tkS sep r:=by rw[tkS,Xf];rfl
  rw[e,Xb];cases r<;>rfl
theorem TU (sep last:List KT):∀(d:Ds) (r:List Ds) (z:Ds),tkL sep last (d::(r++[z]))=tkD d++(tkS sep r++(last++tkD z))
 | d,[],z=>by
  rw[Xe,tkL,tkL,tkL];simp[tkS,ER]
 | d,d2::r,z=>by
  rw[tkL,Xd,TU sep last d2 r z]
  have e:tkS sep (d2::r)=sep++tkD d2++tkS sep r:=by rw[tkS,Xf];rfl
  rw[e]
  have e2:ER sep last (d2::(r++[z]))=sep:=by cases r<;>rfl
  rw[e2];simp only[Xb]
def MS (l:List KT) (rec:Nat->Res Ds) (d:Ds):Prop:=∀p ks,Tks l p (tkD d++ks)->ks.head?≠some (5,[38])->rec p = .ok (d,p+(tkD d).length)
theorem QR {rec:Nat->Res Ds}:∀(r:List Ds) (f p:Nat) (acc:List Ds) (ks:List KT),(∀d∈r,MS l rec d)->Tks l p (tkS [(5,[44])] r++ks)->ks.head?≠some (5,[44])->ks.head?≠some (5,[38])->acc.length+r.length<=256->r.length<f ->
  itS l rec f p acc = .ok (acc++r,p+(tkS [(5,[44])] r).length)
 | [],f,p,acc,ks,_,h,hk,_,hl,hf=>by
  obtain⟨f,rfl⟩:∃g,f=g+1:=⟨f-1,by omega⟩
  rw[itS,zz (by rw[Tks.noSy h hk];simp),Xj];rfl
 | d::r,f,p,acc,ks,hr,h,hk,hk2,hl,hf=>by
  obtain⟨f,rfl⟩:∃g,f=g+1:=⟨f-1,by omega⟩
  have e:tkS [(5,[44])] (d::r)=(5,[44])::(tkD d++tkS [(5,[44])] r):=by rw[tkS,Xf];rfl
  rw[e]at h ⊢;rw[Xd,Xb]at h;simp only[Xa]at hl hf
  have hnx:(tkS [(5,[44])] r++ks).head?≠some (5,[38]):=by
   cases r with
   | nil=>exact hk2
   | cons d2 r2=>
    have:tkS [(5,[44])] (d2::r2)=(5,[44])::(tkD d2++tkS [(5,[44])] r2):=by rw[tkS,Xf];rfl
    rw[this];simp
  rw[itS,zy h.isS,zz (by omega),hr d (by simp) _ _ h.next hnx];simp only;rw[QR r f _ _ ks (λd hd=>hr d (by simp[hd])) h.next.app hk hk2 (by simp;omega) (by omega)];simp only[Xa,Xc,Xb,Xg];congr 2;omega
theorem MT:∀(d:Ds) (lv:Nat),Bb d lv=0->∃t q,tkD d=t::q/\t≠(5,[46])/\t≠(5,[62])/\t≠(5,[33,62])
 | .mk op name path kids,lv,h=>by
  obtain⟨_,_,_,o1,o8,hf,hk⟩:=Ks h;obtain⟨f1,f2,f3,f4⟩:=LA hf;rw[tkD];split
  .exact⟨_,_,rfl,by simp,by simp,by simp⟩
  .split
   .exact⟨_,_,rfl,by simp,by simp,by simp⟩
   .split
    .exact⟨_,_,rfl,by simp,by simp,by simp⟩
    .split
     .rename_i e;subst e
      cases kids with
      | nil=>exact absurd f4 (by decide)
      | cons k r=>
       obtain⟨t,q,e,h1,h2,h3⟩:=MT k _ (L9 hk).1;rw[tkL,e];exact⟨t,_,rfl,h1,h2,h3⟩
     .split
      .exact⟨_,_,rfl,by simp,by simp,by simp⟩
      .split
       .exact⟨_,_,rfl,by simp,by simp,by simp⟩
       .split
        .exact⟨_,_,rfl,by simp,by simp,by simp⟩
        .exact⟨_,_,rfl,by simp,by simp,by simp⟩
theorem OP (sep:List KT):∀r:List Ds,sep≠[]->r.length<=(tkS sep r).length
 | [],_=>Nat.zero_le _
 | d::r,h=>by
  have e:tkS sep (d::r)=sep++tkD d++tkS sep r:=by rw[tkS,Xf];rfl
  have ih:=OP sep r h
  have:1<=sep.length:=by cases sep with
   | nil=>exact absurd rfl h
   | cons _ _=>simp
  rw[e,Xc,Xc,Xa];omega
theorem TV:∀{r:List Ds} {lv:Nat},DS r lv=0->∀k∈r,Bb k lv=0
 | [],lv,_,k,hk=>by cases hk
 | d::r,lv,h,k,hk=>by
  obtain⟨h1,h2⟩:=L9 h;rcases List.mem_cons.1 hk with e | e
  .rw[e];exact h1
  .exact TV h2 k e
theorem dB {rec:Nat->Res Ds} {k:Ds} {lv:Nat} (hc:Bb k lv=0) (h4:k.op≠4) (hr:∀d,Bb d (lv+1)=0->MS l rec d) {p:Nat} {ks:List KT} (h:Tks l p (tkD k++ks)) (parts:List Ds) :
  Di l rec p parts = .ok (parts++[k],p+(tkD k).length):=by
 obtain⟨op,name,path,kids⟩:=k;obtain⟨_,p64,k256,o1,o8,hf,hk⟩:=Ks hc;obtain⟨f1,f2,f3,f4⟩:=LA hf;obtain⟨k5,k7,_,kl⟩:=Uv f4;have h4':op≠4:=h4;rw[zz h4']at hk;have hkid:∀d∈kids,Bb d (lv+1)=0:=TV hk;have hrk:∀d∈kids,MS l rec d:=λd hd=>hr d (hkid d hd)
 have path0:op≠5->path=[]:=λe=>by
  cases path with
  | nil=>rfl
  | cons s r=>exact absurd (f2.2 (by simp)) e
 rw[tkD]at h ⊢;by_cases e1:op=1
 .subst e1;have hk0:=kl rfl;have hp0:=path0 (by decide);subst hk0;subst hp0;rw[zy rfl]at h ⊢;unfold Di;rw[Tks.tok h];simp[En]
 rw[zz e1]at h ⊢;by_cases e2:op=2
 .subst e2;have hk0:=kl rfl;have hp0:=path0 (by decide);subst hk0;subst hp0;rw[zy rfl]at h ⊢;have h':Tks l p ((5,[64])::((1,name.data.toList)::ks)):=h;unfold Di;rw[h'.tok,h'.next.tak];simp[En,DX,Fv]
 rw[zz e2]at h ⊢;by_cases e3:op=3
 .subst e3;have hk0:=kl rfl;have hp0:=path0 (by decide);subst hk0;subst hp0;rw[zy rfl]at h ⊢;have h':Tks l p ((5,[35])::((1,name.data.toList)::ks)):=h;unfold Di;rw[h'.tok,h'.next.tak];simp[En,DX,Fv]
 rw[zz e3,zz h4']at h ⊢
 have name0:name=⟨#[]⟩:=by
  have:Fy op=false:=by simp[Fy,e1,e2,e3]
  rw[this]at f1;exact cX f1
 subst name0;by_cases e5:op=5
 .subst e5;rw[zy rfl]at h ⊢
  obtain⟨d,rfl⟩:∃d,kids=[d]:=by
   have:=k5 rfl
   cases kids with
   | nil=>simp at this
   | cons d r=>cases r with
    | nil=>exact⟨d,rfl⟩
    | cons _ _=>simp at this
  obtain⟨s,r,rfl⟩:∃s r,path=s::r:=by
   have:=f2.1 rfl
   cases path with
   | nil=>simp at this
   | cons s r=>exact⟨s,r,rfl⟩
  have etk:tkL [] [] [d]=tkD d:=by rw[tkL,tkL];simp[ER]
  rw[etk,cY]at h ⊢;simp only[Xd,Xb,Xe]at h;unfold Di;rw[h.tok];simp only[zz (show ¬(5:Int)=1 by decide),ne_eq,not_true_eq_false,if_false,zz (show ¬([91]:List UInt8)=[64]by decide),zz (show ¬([91]:List UInt8)=[35]by decide),if_true]
  have hb:=h.next
  have hlen:=h.len;rw[brS]
  have hp:Ff l rec (p+1) = .ok (.mk 5 ⟨#[]⟩ (s::r) [d],p+2+(tkF r).length+(tkD d).length):=by
   unfold Ff;rw[hb.tak];simp only;rw[En]
   have hp2:=cZ r (l.length+1) (p+1+1) [s] (tkD d++((5,[93])::ks)) hb.next (by
    cases hd:tkD d++(5,[93])::ks with
    | nil=>simp
    | cons t q=>
     have hne:=MT d (lv+1) (hkid d (by simp));obtain⟨t0,q0,e0,h46,_,_⟩:=hne;rw[e0]at hd;injection hd with hd _;rw[<-hd]
     simpa using h46) (by simp at p64 ⊢;omega) (by
    simp only[Xa,Xc,dA]at hlen
    omega)
   rw[hp2];simp only
   have h3:=hb.next.app
   rw[hrk d (by simp) _ _ h3 (by simp)];simp only[Xg]
  rw[hp];simp only
  have h4:Tks l (p+2+(tkF r).length+(tkD d).length) ((5,[93])::ks):=by
   have:=hb.next.app.app
   exact this
  rw[zz (by rw[h4.noSy (by simp)];simp),h4.skip];simp only[Xa,Xc,Xk];congr 2;omega
 rw[zz e5]at h ⊢;have hp0:=path0 e5;subst hp0;by_cases e6:op=6
 .subst e6;rw[zy rfl]at h ⊢;simp only[Xd,Xb,Xe]at h;unfold Di;rw[h.tok];simp only[zz (show ¬(5:Int)=1 by decide),ne_eq,not_true_eq_false,if_false,zz (show ¬([60]:List UInt8)=[64]by decide),zz (show ¬([60]:List UInt8)=[35]by decide),zz (show ¬([60]:List UInt8)=[91]by decide),if_true]
  have hb:=h.next
  have hlen:=h.len
  have hl:Dq l rec (p+1) = .ok (.mk 6 ⟨#[]⟩ [] kids,p+((5,[60])::(tkL [(5,[44])] [(5,[44])] kids++[(5,[62])])).length):=by
   unfold Dq;rw[zz (by rw[Xa,Xc,Xa]at hlen;omega)]
   cases kids with
   | nil=>
    rw[tkL,Xe]at hb;rw[zy hb.isS,hb.close];rfl
   | cons d r=>
    rw[Kf,Xb]at hb;rw[Kf];obtain⟨t0,q0,e0,_,h62,_⟩:=MT d (lv+1) (hkid d (by simp));rw[zz (by rw[hb.noSy (by rw[e0];simpa using h62)];simp)]
    have hnx:(tkS [(5,[44])] r++((5,[62])::ks)).head?≠some (5,[38]):=by
     cases r with
     | nil=>simp[tkS]
     | cons d2 r2=>
      have:tkS [(5,[44])] (d2::r2)=(5,[44])::(tkD d2++tkS [(5,[44])] r2):=by rw[tkS,Xf];rfl
      rw[this];simp
    rw[hrk d (by simp) _ _ hb hnx];simp only
    rw[QR r (l.length+1) _ [d] _ (λx hx=>hrk x (by simp[hx])) hb.app (by simp) (by simp) (by simp at k256 ⊢;omega) (by
     have h1:=OP [(5,[44])] r (by simp);rw[Xa,Kf,Xc,Xc]at hlen
     omega)]
    simp only;have h4:=hb.app.app;rw[zz (by rw[h4.noSy (by simp)];simp),h4.close];simp only[Xg,Xa,Xc,Xk];congr 2;omega
  rw[hl];simp[DX]
 rw[zz e6]at h ⊢;by_cases e7:op=7
 .subst e7;rw[zy rfl]at h ⊢;simp only[Xd,Xb,Xe]at h;unfold Di;rw[h.tok];simp only[zz (show ¬(5:Int)=1 by decide),ne_eq,not_true_eq_false,if_false,zz (show ¬([60]:List UInt8)=[64]by decide),zz (show ¬([60]:List UInt8)=[35]by decide),zz (show ¬([60]:List UInt8)=[91]by decide),if_true]
  have hb:=h.next
  have hlen:=h.len
  obtain⟨d,r,z,rfl⟩:∃d r z,kids=d::(r++[z]):=by
   have:=k7 rfl
   cases kids with
   | nil=>simp at this
   | cons d r=>
    rcases List.eq_nil_or_concat r with e | ⟨r',z,e⟩
    .subst e;simp at this
    .exact⟨d,r',z,by rw[e];simp⟩
  have hl:Dq l rec (p+1) = .ok (.mk 7 ⟨#[]⟩ [] (d::(r++[z])),p+((5,[60])::(tkL [(5,[44])] [(5,[124])] (d::(r++[z]))++[(5,[62])])).length):=by
   unfold Dq;rw[zz (by rw[Xa,Xc,Xa]at hlen;omega)];rw[TU]at hb hlen;rw[TU];simp only[Xb]at hb;obtain⟨t0,q0,e0,_,h62,_⟩:=MT d (lv+1) (hkid d (by simp));rw[zz (by rw[hb.noSy (by rw[e0];simpa using h62)];simp)]
   have hnx:(tkS [(5,[44])] r++([(5,[124])]++(tkD z++((5,[62])::ks)))).head?≠some (5,[38]):=by
    cases r with
    | nil=>simp[tkS]
    | cons d2 r2=>
     have:tkS [(5,[44])] (d2::r2)=(5,[44])::(tkD d2++tkS [(5,[44])] r2):=by rw[tkS,Xf];rfl
     rw[this];simp
   rw[hrk d (by simp) _ _ hb hnx];simp only
   rw[QR r (l.length+1) _ [d] _ (λx hx=>hrk x (by simp[hx])) hb.app (by simp) (by simp) (by simp at k256 ⊢;omega) (by
    have h1:=OP [(5,[44])] r (by simp);simp only[Xa,Xc]at hlen
    omega)]
   simp only;have h4:=hb.app.app;have h4':Tks l (p+1+(tkD d).length+(tkS [(5,[44])] r).length) ((5,[124])::(tkD z++((5,[62])::ks))):=h4;rw[zy h4'.isS,zz (by simp at k256 ⊢;omega),hrk z (by simp) _ _ h4'.next (by simp)];simp only;rw[h4'.next.app.close];simp only[Xg,Xd,Xe,Xa,Xc,Xk];congr 2;omega
  rw[hl];simp[DX]
 rw[zz e7]at h ⊢
 have e8:op=8:=by omega
 subst e8;simp only[Xd,Xb,Xe]at h;unfold Di;rw[h.tok];simp only[zz (show ¬(5:Int)=1 by decide),ne_eq,not_true_eq_false,if_false,zz (show ¬([60,33]:List UInt8)=[64]by decide),zz (show ¬([60,33]:List UInt8)=[35]by decide),zz (show ¬([60,33]:List UInt8)=[91]by decide),zz (show ¬([60,33]:List UInt8)=[60]by decide),if_true]
 have hb:=h.next
 have hlen:=h.len
 have hl:DA l rec (p+1) = .ok (.mk 8 ⟨#[]⟩ [] kids,p+((5,[60,33])::(tkL [(5,[44])] [(5,[44])] kids++[(5,[33,62])])).length):=by
  unfold DA;rw[zz (by rw[Xa,Xc,Xa]at hlen;omega)]
  cases kids with
  | nil=>
   rw[tkL,Xe]at hb;rw[zy hb.isS,hb.close];rfl
  | cons d r=>
   rw[Kf,Xb]at hb;rw[Kf];obtain⟨t0,q0,e0,_,_,h33⟩:=MT d (lv+1) (hkid d (by simp));rw[zz (by rw[hb.noSy (by rw[e0];simpa using h33)];simp)]
   have hnx:(tkS [(5,[44])] r++((5,[33,62])::ks)).head?≠some (5,[38]):=by
    cases r with
    | nil=>simp[tkS]
    | cons d2 r2=>
     have:tkS [(5,[44])] (d2::r2)=(5,[44])::(tkD d2++tkS [(5,[44])] r2):=by rw[tkS,Xf];rfl
     rw[this];simp
   rw[hrk d (by simp) _ _ hb hnx];simp only
   rw[QR r (l.length+1) _ [d] _ (λx hx=>hrk x (by simp[hx])) hb.app (by simp) (by simp) (by simp at k256 ⊢;omega) (by
    have h1:=OP [(5,[44])] r (by simp);rw[Xa,Kf,Xc,Xc]at hlen
    omega)]
   simp only;rw[hb.app.app.close];simp only[Xg,Xa,Xc,Xk];congr 2;omega
 rw[hl];simp[DX]
theorem dC {rec:Nat->Res Ds} {lv:Nat} (hr:∀d,Bb d (lv+1)=0->MS l rec d):∀(r:List Ds) (f p:Nat) (acc:List Ds) (ks:List KT),(∀k∈r,Bb k lv=0/\k.op≠4)->Tks l p (tkS [(5,[38])] r++ks)->ks.head?≠some (5,[38])->acc.length+r.length<=256->r.length<f ->
  Fg l rec f p acc = .ok (acc++r,p+(tkS [(5,[38])] r).length)
 | [],f,p,acc,ks,_,h,hk,hl,hf=>by
  obtain⟨f,rfl⟩:∃g,f=g+1:=⟨f-1,by omega⟩
  rw[Fg,zz (by rw[Tks.noSy h hk];simp),Xj];rfl
 | d::r,f,p,acc,ks,hd,h,hk,hl,hf=>by
  obtain⟨f,rfl⟩:∃g,f=g+1:=⟨f-1,by omega⟩
  have e:tkS [(5,[38])] (d::r)=(5,[38])::(tkD d++tkS [(5,[38])] r):=by rw[tkS,Xf];rfl
  rw[e]at h ⊢;rw[Xd,Xb]at h;simp only[Xa]at hl hf;obtain⟨d1,d2⟩:=hd d (by simp);rw[Fg,zy h.isS,zz (by omega),dB d1 d2 hr h.next];simp only;rw[dC hr r f _ _ ks (λd h=>hd d (by simp[h])) h.next.app hk (by simp;omega) (by omega)];simp only[Xa,Xc,Xb,Xg];congr 2;omega
def Jf (d:Ds):List Ds:=if d.op=4 then d.kids else [d]
theorem A0g {d:Ds} {lv:Nat} (h:Bb d lv=0):(∀k∈Jf d,Bb k lv=0/\k.op≠4)/\Jf d≠[]/\(Jf d).length<=256/\Oz (Jf d)=d/\tkD d=tkL [(5,[38])] [(5,[38])] (Jf d)/\wrD d=wrL [32,38,32] [32,38,32] (Jf d):=by
 obtain⟨op,name,path,kids⟩:=d;obtain⟨_,_,k256,_,_,hf,hk⟩:=Ks h;obtain⟨f1,f2,f3,f4⟩:=LA hf;by_cases e4:op=4
 .subst e4;have e:Jf (.mk 4 name path kids)=kids:=rfl;rw[e];obtain⟨_,_,k4,_⟩:=Uv f4;obtain⟨k2,kn⟩:=k4 rfl
  have hp:path=[]:=by
   cases path with
   | nil=>rfl
   | cons s r=>exact absurd (f2.2 (by simp)) (by decide)
  have hn:name=⟨#[]⟩:=cX f1;subst hp;subst hn;refine⟨λk hk'=>⟨TV hk k hk',kn k hk'⟩,λe=>by rw[e]at k2;simp at k2,k256,?_,?_,?_⟩
  .cases kids with
   | nil=>simp at k2
   | cons a r=>cases r with
    | nil=>simp at k2
    | cons b r=>rfl
  .rw[tkD];simp
  .rw[wrD];simp
 .have e:Jf (.mk op name path kids)=[.mk op name path kids]:=zz e4;rw[e];refine⟨λk hk'=>?_,by simp,by simp,rfl,?_,?_⟩
  .rw[List.mem_singleton.1 hk'];exact⟨h,e4⟩
  .rw[tkL,tkL];simp[ER]
  .rw[wrL,wrL];simp[ER]
theorem dD:∀(n:Nat) (d:Ds),n<=64->Bb d (65-n)=0->MS l (AA l n) d
 | 0,d,_,h=>by
  obtain⟨op,name,path,kids⟩:=d;have:=(Ks h).1;omega
 | n+1,d,hn,h=>λp ks ht hk=>by
  have hr:∀d,Bb d ((65-(n+1))+1)=0->MS l (AA l n) d:=λd hd=>dD n d (by omega) (by rw[show 65-n=(65-(n+1))+1 by omega];exact hd);obtain⟨p1,p2,p3,p4,p5,_⟩:=A0g h
  cases hp:Jf d with
  | nil=>exact absurd hp p2
  | cons a r=>
   rw[hp]at p1 p3 p4 p5;rw[Kf]at p5;rw[p5,Xb]at ht;obtain⟨a1,a2⟩:=p1 a (by simp);have hlen:=ht.len;obtain⟨t0,q0,e0,_⟩:=MT a _ a1
   have hpos:1<=(tkD a).length:=by rw[e0];simp
   rw[Xc,Xc]at hlen;have h1:=OP [(5,[38])] r (by simp);rw[AA,zz (by omega),dB a1 a2 hr ht];simp only[Xe];rw[dC hr r (l.length+1) _ [a] ks (λk hk=>p1 k (by simp[hk])) ht.app hk (by simp at p3 ⊢;omega) (by omega)];simp only[Xg];rw[p4,p5,Xc,Nat.add_assoc]
end
end Go.Proofs.YtobnacghaamfoaaGreatDoor
