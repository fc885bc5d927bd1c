/- Auxiliary facts. -/
import Derived.Test.YtobnacghaamfoaaGreatDoorVGQ28
import Derived.Test.YtobnacghaamfoaaGreatDoorVGQ36
import Derived.Test.YtobnacghaamfoaaGreatDoorVGQ16
set_option linter.unusedSimpArgs false
set_option linter.unusedVariables false
open Nat renaming le_refl->Xa
open List renaming length_drop->Xb,cons_append->Xc,take_succ_cons->Xd,isEmpty_cons->Xe,append_nil->Xg,length_cons->Xh,mem_cons->Xi,mem_append->Xj,length_append->Xl,drop_append_of_le_length->Xm,getElem?_eq_getElem->Xn,getElem?_eq_some_iff->Xo
open Bool renaming false_eq_true->Xf,and_eq_true->Xk
namespace Go.Proofs.YtobnacghaamfoaaGreatDoor
open Go Go.Abs
theorem gK:∀(D:List UInt8),(A9 D).2=0->∀c∈D.take (A9 D).1,prt c=true
 | [],h=>by cases h
 | c::D,h=>by
  rw[A9]at h;by_cases h1:c.toNat=34
  .rw[A9,zy h1];intro x hx;simp at hx
  .rw[zz h1]at h;by_cases h2:prt c=true
   .rw[zy h2]at h;rw[A9,zz h1,zy h2,Xd];intro x hx;rcases Xi.1 hx with e | e
    .rw[e];exact h2
    .exact gK D h x e
   .rw[zz h2]at h;cases h
theorem A5u {l:List UInt8} (h:∀c∈l,c.toNat≠10):nl l=0:=by
 rw[nl,List.countP_eq_zero];intro c hc e;exact h c hc (by simpa using e)
theorem gL {big:Bool} {c:UInt8} (h:BL big c=true):c.toNat≠10:=by
 intro e;rw[dN big c (.inr (.inl e))]at h;cases h
theorem A5v (c:UInt8) (r:List UInt8) (he:(Ax (c::r)).e=0):nl ((c::r).take (Ax (c::r)).n)=0:=by
 refine A5u λx hx=>?_;rw[Ax]at he hx;split at hx
 .rw[show(Tk.mk 1 ((c::r).take (AB false (c::r))) (if 32<AB false (c::r)then 7 else 0) (AB false (c::r))).n=((c::r).takeWhile (BL false)).length from rfl,OW]at hx;exact gL (OV hx)
 .rename_i t1;rw[zz t1]at he;split at hx
  .rw[show(Tk.mk 2 ((c::r).take (AB true (c::r))) (if 32<AB true (c::r)then 7 else 0) (AB true (c::r))).n=((c::r).takeWhile (BL true)).length from rfl,OW]at hx;exact gL (OV hx)
  .rename_i t2;rw[zz t2]at he;split at hx
   .rename_i t3;have hx':x∈(c::r).take (AX (c::r)):=hx;unfold AX at hx';rw[List.take_add]at hx';rcases Xj.1 hx' with h | h
    .unfold Cu at h;split at h
     .rename_i h45
      have h1:x=c:=by simpa using h
      have h2:c=45:=by simpa using h45
      rw[h1,h2];decide
     .simp at h
    .rw[OW]at h;have:=OV h;intro e;rw[dO x (.inr (.inl e))]at this;cases this
   .rename_i t3;rw[zz t3]at he;split at hx
    .rename_i t4;rw[zy t4]at he;have he':(A9 r).2=0:=he;have e1:(c::r).drop 1=r:=rfl;simp only[e1,he',if_true]at hx;rw[show 1+(A9 r).1+1=((A9 r).1+1)+1 by omega,Xd,Ul r he']at hx;rcases Xi.1 hx with h | h
     .rw[h];omega
     .rcases Xj.1 h with h | h
      .have:=gK r he' x h;unfold prt at this;simp only[Xk,decide_eq_true_eq]at this;omega
      .have:x=34:=by simpa using h
       rw[this];decide
    .rename_i t4;rw[zz t4]at he;have he':(A8 (c::r)).2=0:=he;have hx':x∈(c::r).take (A8 (c::r)).1:=hx
     have hsy:E1.contains c=true->c.toNat≠10:=by
      intro h e;have:c=10:=UInt8.toNat_inj.1 e;subst this;revert h;decide
     cases r with
     | nil=>
      rw[L3]at he' hx';split at he'
      .rename_i hc;rw[zy hc]at hx'
       have:x=c:=by simpa using hx'
       rw[this];exact hsy hc
      .cases he'
     | cons d r=>
      rw[HY]at he' hx';split at he'
      .rename_i hc;rw[zy hc]at hx'
       have h2:x=c\/x=d:=by simpa using hx'
       simp only[Bool.or_eq_true,Xk,beq_iff_eq]at hc
       rcases hc with⟨h3,h4⟩ | ⟨h3,h4⟩<;>rcases h2 with h | h<;>rw[h]<;>first | rw[<-h3] | rw[<-h4]
       all_goals decide
      .rename_i hc;rw[zz hc]at hx';split at he'
       .rename_i hd;rw[zy hd]at hx'
        have:x=c:=by simpa using hx'
        rw[this];exact hsy hd
       .cases he'
theorem gN:∀(f g:Nat) (D:List UInt8) (l:Nat),D.length<f->D.length<g->BM f D l=BM g D l
 | 0,_,D,l,h,_=>by omega
 | _,0,D,l,_,h=>by omega
 | f+1,g+1,D,l,hf,hg=>by
  rw[BM,BM]
  cases D with
  | nil=>rfl
  | cons c r=>
   simp only[Xe,Xf,if_false];by_cases he:(Ax (c::r)).e=0
   .obtain⟨n1,n2⟩:=IR (c::r) rfl he
    have hl:(((c::r).drop (Ax (c::r)).n).drop (Au false ((c::r).drop (Ax (c::r)).n)).1).length<=(c::r).length-1:=by
     rw[Xb,Xb];omega
    rw[gN f g _ _ (by omega) (by omega)]
   .rw[zy he,zy he]
theorem gO (k:Nat):∀(f:Nat) (D:List UInt8) (l:Nat),BM f D (l+k)=later k (BM f D l)
 | 0,D,l=>rfl
 | f+1,[],l=>rfl
 | f+1,c::r,l=>by
  by_cases he:(Ax (c::r)).e=0
  .rw[Jg f c r l he,Jg f c r (l+k) he];have ih:=gO k f (((c::r).drop (Ax (c::r)).n).drop (Au false ((c::r).drop (Ax (c::r)).n)).1) (l+(Au false ((c::r).drop (Ax (c::r)).n)).2);unfold Ci;rw[show l+k+(Au false ((c::r).drop (Ax (c::r)).n)).2=l+(Au false ((c::r).drop (Ax (c::r)).n)).2+k by omega,ih];cases BM f (((c::r).drop (Ax (c::r)).n).drop (Au false ((c::r).drop (Ax (c::r)).n)).1) (l+(Au false ((c::r).drop (Ax (c::r)).n)).2)<;>rfl
  .rw[BM,BM];simp only[Xe,Xf,if_false,ne_eq,he,not_false_eq_true,if_true,later]
theorem gP:∀(D:List UInt8) (cm:Bool),
  ((Au cm D).1=D.length/\(Au cm D).2=nl D/\∀E,Au cm (D++10::E)=(D.length+1+(Au false E).1,nl D+1+(Au false E).2)) \/
  ((Au cm D).1<D.length/\(Au cm D).2=nl (D.take (Au cm D).1)/\∀X,Au cm (D++X)=Au cm D)
 | [],cm=>by
  left;refine⟨rfl,rfl,λE=>?_⟩;rw[List.nil_append,Au,zy (by decide)];simp[nl];omega
 | c::D,cm=>by
  have go:∀(cm':Bool) (k:Nat),(∀X,Au cm (c::D++X)=((Au cm' (D++X)).1+1,(Au cm' (D++X)).2+k))->(∀l,nl (c::l)=nl l+k) ->
    ((Au cm (c::D)).1=(c::D).length/\(Au cm (c::D)).2=nl (c::D)/\∀E,Au cm (c::D++10::E)=((c::D).length+1+(Au false E).1,nl (c::D)+1+(Au false E).2)) \/
    ((Au cm (c::D)).1<(c::D).length/\(Au cm (c::D)).2=nl ((c::D).take (Au cm (c::D)).1)/\∀X,Au cm (c::D++X)=Au cm (c::D)):=by
   intro cm' k h hn;have h0:=h [];rw[Xg,Xg]at h0;rcases gP D cm' with⟨i1,i2,i3⟩ | ⟨i1,i2,i3⟩
   .left;refine⟨by rw[h0,i1];rfl,by rw[h0,i2,hn],λE=>?_⟩;rw[h,i3 E,hn];simp only[Xh,Prod.mk.injEq];omega
   .right;refine⟨by rw[h0];simp;exact i1,?_,λX=>by rw[h,i3 X,h0]⟩;rw[h0];simp only[Xd,hn];rw[<-i2]
  by_cases h10:c.toNat=10
  .refine go false 1 (λX=>?_) (λl=>?_)
   .rw[Xc,Au,zy h10]
   .simp[nl,h10]
  .have hn:∀l,nl (c::l)=nl l+0:=by intro l;simp[nl,h10]
   by_cases h37:(cm||decide (c.toNat=37))=true
   .refine go true 0 (λX=>?_) hn;rw[Xc,Au,zz h10,zy h37];rfl
   .by_cases h32:c.toNat=32\/c.toNat=9\/c.toNat=13
    .refine go false 0 (λX=>?_) hn;rw[Xc,Au,zz h10,zz h37,zy h32];rfl
    .right
     have e:∀X,Au cm (c::D++X)=(0,0):=by
      intro X;rw[Xc,Au,zz h10,zz h37,zz h32]
     have e0:=e [];rw[Xg]at e0;rw[e0];exact⟨by simp,by simp[nl],λX=>e X⟩
theorem A5w (E:List UInt8):Sep (10::E):=by
 intro c r h;injection h with h _;right;left;rw[<-h];decide
theorem gQ:∀(f:Nat) (D:List UInt8) (cm:Bool) (l g:Nat) (a:List Tok) (E:List UInt8),D.length<f->(D++10::E).length<g->Ci f cm D l = .ok a ->
  Ci g cm (D++10::E) l=He a (Ci (E.length+1) false E (l+nl D+1))
 | 0,D,cm,l,g,a,E,hf,_,_=>by omega
 | f+1,D,cm,l,g,a,E,hf,hg,h=>by
  obtain⟨g,rfl⟩:∃k,g=k+1:=⟨g-1,by omega⟩
  rw[Xl,Xh]at hg;rcases gP D cm with⟨i1,i2,i3⟩ | ⟨i1,i2,i3⟩
  .have ha:a=[]:=by
    rw[Ci,i1,List.drop_eq_nil_of_le (Xa _)]at h;rw[BM]at h;simp only[List.isEmpty_nil,if_true,Except.ok.injEq]at h;exact h.symm
   subst ha;rw[To,Ci,i3 E,Ci]
   have e1:(D++10::E).drop (D.length+1+(Au false E).1)=E.drop (Au false E).1:=by
    rw[show D.length+1+(Au false E).1=D.length+((Au false E).1+1)by omega,<-List.drop_drop,List.drop_left' rfl,List.drop_succ_cons]
   rw[e1,show l+(nl D+1+(Au false E).2)=l+nl D+1+(Au false E).2 by omega]
   have hl:(E.drop (Au false E).1).length<=E.length:=by rw[Xb];omega
   exact gN _ _ _ _ (by omega) (by omega)
  .obtain⟨p,hp⟩:∃p,p=(Au cm D).1:=⟨_,rfl⟩
   rw[<-hp]at i1 i2;have hsp:=Pg D p;rw[Ci,<-hp,i2]at h;rw[Ci,i3,<-hp,i2,Xm (by omega)]
   obtain⟨D',hD'⟩:∃D',D'=D.drop p:=⟨_,rfl⟩
   have hl':D'.length=D.length-p:=by rw[hD',Xb]
   rw[<-hD']at h hsp ⊢
   obtain⟨l',hl2⟩:∃l',l'=l+nl (D.take p):=⟨_,rfl⟩
   rw[<-hl2]at h ⊢
   cases hc:D' with
   | nil=>rw[hc]at hl';simp at hl';omega
   | cons c r=>
    rw[hc]at h hl' hsp;by_cases he:(Ax (c::r)).e=0
    .rw[Jg f c r l' he]at h;have hx:=dR c r (A5w E) he
     have hxe:(Ax (c::r++10::E)).e=0:=by rw[hx];exact he
     have st:=Jg g c (r++10::E) l' hxe;have hx':Ax (c::(r++10::E))=Ax (c::r):=hx;obtain⟨n1,n2⟩:=IR (c::r) rfl he;have hnl:=A5v c r he;have hsp2:=Pg (c::r) (Ax (c::r)).n
     have hd:(c::(r++10::E)).drop (Ax (c::(r++10::E))).n=(c::r).drop (Ax (c::r)).n++10::E:=by
      rw[hx'];exact Xm n2
     rw[hd,hx']at st;have st':BM (g+1) (c::r++10::E) l'=_:=st;rw[st'];split at h
     .cases h
     .rename_i a' ha';injection h with h
      have hlen:((c::r).drop (Ax (c::r)).n).length<f:=by rw[Xb];omega
      have ih:=gQ f _ false l' g a' E hlen (by rw[Xl,Xh,Xb];omega) ha';rw[ih]
      have:l'+nl ((c::r).drop (Ax (c::r)).n)+1=l+nl D+1:=by omega
      rw[this,<-h];cases Ci (E.length+1) false E (l+nl D+1)<;>rfl
    .rw[BM]at h;simp only[Xe,Xf,if_false,ne_eq,he,not_false_eq_true,if_true]at h;cases h
theorem A5x (D E:List UInt8) (a b:List Tok) (ha:CZ D 1 = .ok a) (hb:CZ E 1 = .ok b) :
  CZ (D++10::E) 1 = .ok (a++b.map λt=>⟨t.k,t.t,t.l+(nl D+1)⟩):=by
 have h:=gQ (D.length+1) D false 1 ((D++10::E).length+1) a E (by omega) (by omega) ha
 have h2:Ci (E.length+1) false E (1+nl D+1)=later (nl D+1) (CZ E 1):=by
  have:=gO (nl D+1) (E.length+1) (E.drop (Au false E).1) (1+(Au false E).2);rw[Ci,CZ,<-this];congr 1;omega
 rw[hb]at h2;rw[h2]at h;exact h
def Agr (l M:List KT) (d a b:Nat):Prop:=∀i,a<=i->i<=b->M[i+d]?=l[i]?
section
variable {l M : List KT} {d a b a' b' p p' : Nat} {rec rec' : Nat -> Res Ds}
theorem Agr.mono (h:Agr l M d a b) (h1:a<=a') (h2:b'<=b):Agr l M d a' b':=λi x y=>h i (Nat.le_trans h1 x) (Nat.le_trans y h2)
theorem Agr.len (h:Agr l M d a b) (h1:a<b) (h2:b<=l.length):b+d<=M.length:=by
 have h3:=h (b-1) (by omega) (by omega)
 have h4:∃x,l[b-1]?=some x:=⟨_,Xn (by omega)⟩
 obtain⟨x,hx⟩:=h4;rw[hx]at h3;have:=(Xo.1 h3).1;omega
theorem Fl (h:Agr l M d a b) (h1:a<=p) (h2:p<=b) (s:List UInt8):Be M (p+d) s=Be l p s:=by
 unfold Be;rw[h p h1 h2]
theorem Gj {k:Int} {s:ByteArray} (h:AJ l p k = .ok (s,p')) (ha:Agr l M d p p'):AJ M (p+d) k = .ok (s,p'+d):=by
 have hp:=Dc h;unfold AJ at h ⊢;rw[ha p (Xa _) (by omega)];split at h
 .cases h
 .rename_i t ht;split at h
  .rename_i hk;injection h with h;injection h with e1 e2;simp only[hk,if_true,e1];congr 2;omega
  .cases h
theorem UE {s:List UInt8} (h:B6 l p s = .ok p') (ha:Agr l M d p p'):B6 M (p+d) s = .ok (p'+d):=by
 have hp:=HR h;have hl:=ha.len (by omega) (by omega);unfold B6 at h ⊢;rw[zz (by omega)]at h;rw[zz (by omega),Fl ha (Xa _) (by omega)];split at h
 .rename_i hs;rw[zy hs];congr 1;omega
 .cases h
def Kt (l M:List KT) (d:Nat) (rec rec':Nat->Res Ds):Prop:=∀p x p',rec p = .ok (x,p')->Agr l M d p p'->rec' (p+d) = .ok (x,p'+d)
theorem gR:∀(f f' p:Nat) (path path':List ByteArray) (p':Nat),E2 l f p path = .ok (path',p')->path.length<=64->Agr l M d p p'->p'-p<f'->E2 M f' (p+d) path = .ok (path',p'+d)
 | 0,_,p,path,path',p',h,_,_,_=>by cases h
 | f+1,0,p,path,path',p',h,_,_,hf=>by omega
 | f+1,f'+1,p,path,path',p',h,h64,ha,hf=>by
  rw[E2]at h ⊢;split at h
  .rename_i hs;split at h
   .cases h
   .rename_i hl;split at h
    .cases h
    .rename_i s p1 h1;obtain⟨e1,h2⟩:=Dc h1;have h3:=O9 _ _ _ _ _ h (by simp;omega);rw[Fl ha (Xa _) (by omega),zy hs,zz hl,show p+d+1=p+1+d by omega,Gj h1 (ha.mono (by omega) (by omega))];exact gR f f' _ _ _ _ h (by simp;omega) (ha.mono (by omega) (Xa _)) (by omega)
  .rename_i hs;injection h with h;injection h with e1 e2;subst e1;subst e2;rw[Fl ha (Xa _) (Xa _),zz hs]
theorem gS (hr:Fwd l rec) (hu:Kt l M d rec rec') {x:Ds} (h:Ff l rec p = .ok (x,p')) (ha:Agr l M d p p'):Ff M rec' (p+d) = .ok (x,p'+d):=by
 have hp:=QE hr h;have hM:=ha.len hp.1 hp.2;unfold Ff at h ⊢;split at h
 .cases h
 .rename_i s p1 h1;obtain⟨e1,h2⟩:=Dc h1;split at h
  .cases h
  .rename_i path p2 h3;have h4:=O9 _ _ _ _ _ h3 (by simp);split at h
   .cases h
   .rename_i d' p3 h5;have h6:=hr _ _ _ h5;injection h with h;injection h with e e2;subst e;subst e2;rw[Gj h1 (ha.mono (Xa _) (by omega))];simp only;rw[gR (l.length+1) _ p1 [s] path p2 h3 (by simp) (ha.mono (by omega) (by omega)) (by omega)];simp only;rw[hu _ _ _ h5 (ha.mono (by omega) (Xa _))]
theorem gT (hr:Fwd l rec) (hu:Kt l M d rec rec'):∀(f f' p:Nat) (parts parts':List Ds) (p':Nat),brS l rec f p parts = .ok (parts',p')->Agr l M d p p'->p'-p<f'->brS M rec' f' (p+d) parts = .ok (parts',p'+d)
 | 0,_,p,parts,parts',p',h,_,_=>by cases h
 | f+1,0,p,parts,parts',p',h,_,hf=>by omega
 | f+1,f'+1,p,parts,parts',p',h,ha,hf=>by
  rw[brS]at h ⊢;split at h
  .cases h
  .rename_i x p1 h1;have h2:=QE hr h1;split at h
   .rename_i hs;split at h
    .cases h
    .rename_i hl;have h3:=OA hr _ _ _ _ _ h;rw[gS hr hu h1 (ha.mono (Xa _) (by omega))];simp only;rw[Fl ha (by omega) (by omega),zy hs,zz hl,show p1+d+1=p1+1+d by omega];exact gT hr hu f f' _ _ _ _ h (ha.mono (by omega) (Xa _)) (by omega)
   .rename_i hs;split at h
    .cases h
    .rename_i p2 h3;have h4:=HR h3;injection h with h;injection h with e e2;subst e;subst e2;rw[gS hr hu h1 (ha.mono (Xa _) (by omega))];simp only;rw[Fl ha (by omega) (by omega),zz hs,UE h3 (ha.mono (by omega) (Xa _))]
theorem Rv (hr:Fwd l rec) (hu:Kt l M d rec rec'):∀(f f' p:Nat) (kids kids':List Ds) (p':Nat),itS l rec f p kids = .ok (kids',p')->kids.length<=256->Agr l M d p p'->p'-p<f'->itS M rec' f' (p+d) kids = .ok (kids',p'+d)
 | 0,_,p,kids,kids',p',h,_,_,_=>by cases h
 | f+1,0,p,kids,kids',p',h,_,_,hf=>by omega
 | f+1,f'+1,p,kids,kids',p',h,h256,ha,hf=>by
  rw[itS]at h ⊢;split at h
  .rename_i hs;split at h
   .cases h
   .rename_i hl;split at h
    .cases h
    .rename_i x p1 h1;have h2:=hr _ _ _ h1;have h3:=Ls hr _ _ _ _ _ h (by simp;omega);rw[Fl ha (Xa _) (by omega),zy hs,zz hl,show p+d+1=p+1+d by omega,hu _ _ _ h1 (ha.mono (by omega) (by omega))];exact Rv hr hu f f' _ _ _ _ h (by simp;omega) (ha.mono (by omega) (Xa _)) (by omega)
  .rename_i hs;injection h with h;injection h with e1 e2;subst e1;subst e2;rw[Fl ha (Xa _) (Xa _),zz hs]
theorem Ph {s:List UInt8} {op:Int} {kids:List Ds} {x:Ds} (h:Da l s op kids p = .ok (x,p')) (ha:Agr l M d p p'):Da M s op kids (p+d) = .ok (x,p'+d):=by
 unfold Da at h ⊢;split at h
 .cases h
 .rename_i p1 h1;injection h with h;injection h with e e2;subst e;subst e2;rw[UE h1 ha]
theorem A5y (hr:Fwd l rec) (hu:Kt l M d rec rec') {x:Ds} (h:Dq l rec p = .ok (x,p')) (ha:Agr l M d p p'):Dq M rec' (p+d) = .ok (x,p'+d):=by
 have hp:=Tz hr h;have hM:=ha.len hp.1 hp.2;unfold Dq at h ⊢;rw[zz (by omega),Fl ha (Xa _) (by omega)];rw[zz (by omega)]at h;split at h
 .rename_i hs;rw[zy hs];exact Ph h ha
 .rename_i hs;rw[zz hs];split at h
  .cases h
  .rename_i d1 p1 h1;have h2:=hr _ _ _ h1;split at h
   .cases h
   .rename_i kids p2 h3;have h4:=Ls hr _ _ _ _ _ h3 (by simp);split at h
    .rename_i hb;split at h
     .cases h
     .rename_i hl;split at h
      .cases h
      .rename_i d3 p3 h5;have h6:=hr _ _ _ h5;have h7:=IY h;rw[hu _ _ _ h1 (ha.mono (Xa _) (by omega))];simp only;rw[Rv hr hu (l.length+1) _ p1 [d1] kids p2 h3 (by simp) (ha.mono (by omega) (by omega)) (by omega)];simp only;rw[Fl ha (by omega) (by omega),zy hb,zz hl,show p2+d+1=p2+1+d by omega,hu _ _ _ h5 (ha.mono (by omega) (by omega))];exact Ph h (ha.mono (by omega) (Xa _))
    .rename_i hb;have h7:=IY h;rw[hu _ _ _ h1 (ha.mono (Xa _) (by omega))];simp only;rw[Rv hr hu (l.length+1) _ p1 [d1] kids p2 h3 (by simp) (ha.mono (by omega) (by omega)) (by omega)];simp only;rw[Fl ha (by omega) (by omega),zz hb];exact Ph h (ha.mono (by omega) (Xa _))
theorem A5z (hr:Fwd l rec) (hu:Kt l M d rec rec') {x:Ds} (h:DA l rec p = .ok (x,p')) (ha:Agr l M d p p'):DA M rec' (p+d) = .ok (x,p'+d):=by
 have hp:=T9 hr h;have hM:=ha.len hp.1 hp.2;unfold DA at h ⊢;rw[zz (by omega),Fl ha (Xa _) (by omega)];rw[zz (by omega)]at h;split at h
 .rename_i hs;rw[zy hs];exact Ph h ha
 .rename_i hs;rw[zz hs];split at h
  .cases h
  .rename_i d1 p1 h1;have h2:=hr _ _ _ h1;split at h
   .cases h
   .rename_i kids p2 h3;have h4:=Ls hr _ _ _ _ _ h3 (by simp);have h7:=IY h;rw[hu _ _ _ h1 (ha.mono (Xa _) (by omega))];simp only;rw[Rv hr hu (l.length+1) _ p1 [d1] kids p2 h3 (by simp) (ha.mono (by omega) (by omega)) (by omega)];simp only;exact Ph h (ha.mono (by omega) (Xa _))
theorem gU {op j:Int} {x:Ds} (h:Fv op (AJ l p j) = .ok (x,p')) (ha:Agr l M d p p'):Fv op (AJ M (p+d) j) = .ok (x,p'+d):=by
 unfold Fv at h ⊢;split at h
 .cases h
 .rename_i s p1 h1;injection h with h;injection h with e e2;subst e;subst e2;have h2:=Gj h1 ha;rw[h2]
theorem gV (hr:Fwd l rec) (hu:Kt l M d rec rec') {parts parts':List Ds} (h:Di l rec p parts = .ok (parts',p')) (ha:Agr l M d p p'):Di M rec' (p+d) parts = .ok (parts',p'+d):=by
 have hp:=JW hr h;have hM:=ha.len hp.1 hp.2.1;unfold Di at h ⊢;rw[ha p (Xa _) (by omega),show p+d+1=p+1+d by omega];have ha1:Agr l M d (p+1) p':=ha.mono (by omega) (Xa _);split at h
 .cases h
 .rename_i t ht;split at h
  .rename_i c;simp only[zy c];injection h with h;injection h with e e2;subst e;subst e2;congr 2
  .rename_i c;simp only[zz c];split at h
   .cases h
   .rename_i c;simp only[zz c];split at h
    .rename_i c;simp only[zy c];obtain⟨d,h1,rfl⟩:=LH h;rw[gU h1 ha1];rfl
    .rename_i c;simp only[zz c];split at h
     .rename_i c;simp only[zy c];obtain⟨d,h1,rfl⟩:=LH h;rw[gU h1 ha1];rfl
     .rename_i c;simp only[zz c];split at h
      .rename_i c;simp only[zy c];exact gT hr hu _ _ _ _ _ _ h ha1 (by omega)
      .rename_i c;simp only[zz c];split at h
       .rename_i c;simp only[zy c];obtain⟨d,h1,rfl⟩:=LH h;rw[A5y hr hu h1 ha1];rfl
       .rename_i c;simp only[zz c];split at h
        .rename_i c;simp only[zy c];obtain⟨d,h1,rfl⟩:=LH h;rw[A5z hr hu h1 ha1];rfl
        .cases h
theorem gW (hr:Fwd l rec) (hu:Kt l M d rec rec'):∀(f f' p:Nat) (parts parts':List Ds) (p':Nat),Fg l rec f p parts = .ok (parts',p')->parts.length<=256->Agr l M d p p'->p'-p<f'->Fg M rec' f' (p+d) parts = .ok (parts',p'+d)
 | 0,_,p,parts,parts',p',h,_,_,_=>by cases h
 | f+1,0,p,parts,parts',p',h,_,_,hf=>by omega
 | f+1,f'+1,p,parts,parts',p',h,h256,ha,hf=>by
  rw[Fg]at h ⊢;split at h
  .rename_i hs;split at h
   .cases h
   .rename_i hl;split at h
    .cases h
    .rename_i parts1 p1 h1;have h2:=JW hr h1;have h3:=OB hr _ _ _ _ _ h (by omega);rw[Fl ha (Xa _) (by omega),zy hs,zz hl,show p+d+1=p+1+d by omega,gV hr hu h1 (ha.mono (by omega) (by omega))];exact gW hr hu f f' _ _ _ _ h (by omega) (ha.mono (by omega) (Xa _)) (by omega)
  .rename_i hs;injection h with h;injection h with e1 e2;subst e1;subst e2;rw[Fl ha (Xa _) (Xa _),zz hs]
theorem Rw:∀n,Kt l M d (AA l n) (AA M n)
 | 0=>λp x p' h _=>by
  rw[AA]at h;split at h<;>cases h
 | n+1=>λp x p' h ha=>by
  have hp:=DR (l:=l) (n+1) p x p' h;have hM:=ha.len hp.1 hp.2;rw[AA]at h ⊢;rw[zz (by omega)]at h;rw[zz (by omega)];split at h
  .cases h
  .rename_i parts p1 h1;have h2:=JW (DR n) h1;split at h
   .cases h
   .rename_i parts' p2 h3;have h4:=OB (DR n) _ _ _ _ _ h3 (h2.2.2.2 (by simp));injection h with h;injection h with e e2;subst e;subst e2;rw[gV (DR n) (Rw n) h1 (ha.mono (Xa _) (by omega))];simp only;rw[gW (DR n) (Rw n) (l.length+1) _ p1 parts parts' p2 h3 (h2.2.2.2 (by simp)) (ha.mono (by omega) (Xa _)) (by omega)]
end
def Ed {α:Type} (l M:List KT) (d:Nat) (f f':Nat->Res α):Prop:=∀p x p',f p = .ok (x,p')->Agr l M d p p'->f' (p+d) = .ok (x,p'+d)
section
variable {l M : List KT} {d p p' : Nat} {α : Type}
theorem Nh {step step':Nat->Res α} (hs:Dx l step) (hu:Ed l M d step step') (sep:List UInt8) (mx:Nat):∀(f f' p:Nat) (out out':List α) (p':Nat),Ch l step sep mx f p out = .ok (out',p')->Agr l M d p p'->p'-p<f'->Ch M step' sep mx f' (p+d) out = .ok (out',p'+d)
 | 0,_,p,out,out',p',h,_,_=>by cases h
 | f+1,0,p,out,out',p',h,_,hf=>by omega
 | f+1,f'+1,p,out,out',p',h,ha,hf=>by
  rw[Ch]at h ⊢;split at h
  .cases h
  .rename_i x p1 h1;have h2:=hs _ _ _ h1;split at h
   .rename_i hsy;split at h
    .cases h
    .rename_i hl;have ih:=GA hs sep mx f _ _ _ _ h;rw[hu _ _ _ h1 (ha.mono (Xa _) (by omega))];simp only;rw[Fl ha (by omega) (by omega),zy hsy,zz hl,show p1+d+1=p1+1+d by omega];exact Nh hs hu sep mx f f' _ _ _ _ h (ha.mono (by omega) (Xa _)) (by omega)
   .rename_i hsy;injection h with h;injection h with e1 e2;subst e1;subst e2;rw[hu _ _ _ h1 ha];simp only;rw[Fl ha (by omega) (Xa _),zz hsy]
theorem gX (k:Int):Ed l M d (λp=>AJ l p k) (λp=>AJ M p k):=λp x p' h ha=>Gj h ha
theorem gY {a b:Int} {f f':Nat->Res (ByteArray×ByteArray)} (hf:∀p,f p=match AJ l p a with
  | .error e=>.error e
  | .ok (s,p1)=>match AJ l p1 b with
   | .error e=>.error e
   | .ok (v,p2)=>.ok ((s,v),p2)) (hf':∀p,f' p=match AJ M p a with
  | .error e=>.error e
  | .ok (s,p1)=>match AJ M p1 b with
   | .error e=>.error e
   | .ok (v,p2)=>.ok ((s,v),p2)):Ed l M d f f':=λp x p' h ha=>by
 rw[hf]at h;rw[hf'];split at h
 .cases h
 .rename_i s p1 h1;split at h
  .cases h
  .rename_i v p2 h2;injection h with h;injection h with e h;subst h;subst e;have a1:=Dc h1;have a2:=Dc h2;rw[Gj h1 (ha.mono (Xa _) (by omega))];simp only;rw[Gj h2 (ha.mono (by omega) (Xa _))]
theorem A6a:Ed l M d (ftS l) (ftS M):=gY (λ_=>rfl) (λ_=>rfl)
theorem A6b:Ed l M d (DB l) (DB M):=gY (λ_=>rfl) (λ_=>rfl)
theorem A6c:Ed l M d (HO l) (HO M):=λp x p' h ha=>by
 have hp:=R1 _ _ _ h;have hM:=ha.len hp.1 hp.2;exact Nh (Ii 1) (gX 1) _ _ _ _ _ _ _ _ h ha (by omega)
theorem A6d:Ed l M d (HP l) (HP M):=λp x p' h ha=>by
 have hp:=R3 _ _ _ h;have hM:=ha.len hp.1 hp.2;exact Nh Rz A6a _ _ _ _ _ _ _ _ h ha (by omega)
theorem A6e:Ed l M d (Gx l) (Gx M):=λp x p' h ha=>by
 have hp:=iO _ _ _ h;have hM:=ha.len hp.1 hp.2;exact Nh (Ii 2) (gX 2) _ _ _ _ _ _ _ _ h ha (by omega)
theorem A6f:Ed l M d (JV l) (JV M):=λp x p' h ha=>by
 have hp:=R4 _ _ _ h;have hM:=ha.len hp.1 hp.2;exact Nh (DR 64) (Rw 64) _ _ _ _ _ _ _ _ h ha (by omega)
theorem A6g:Ed l M d (Hh l) (Hh M):=λp x p' h ha=>by
 have hp:=iP _ _ _ h;have hM:=ha.len hp.1 hp.2;exact Nh Ni A6b _ _ _ _ _ _ _ _ h ha (by omega)
theorem UF {s:List UInt8} {f f':Nat->Res (List α)} (hf:Dx l f) (hu:Ed l M d f f'):Ed l M d (C8 l s f) (C8 M s f'):=λp x p' h ha=>by
 have hp:=LI hf p x p' h;unfold C8 at h ⊢;rw[Fl ha (Xa _) hp.1];split at h
 .rename_i hs;have:=hf _ _ _ h;rw[zy hs,show p+d+1=p+1+d by omega];exact hu _ _ _ h (ha.mono (by omega) (Xa _))
 .rename_i hs;rw[zz hs];injection h with h;injection h with e h;subst h;subst e;rfl
theorem A6h (name:ByteArray):Ed l M d (Fi l name) (Fi M name):=λp x p' h ha=>by
 unfold Fi at h ⊢;split at h
 .cases h
 .rename_i su p1 h1;split at h
  .cases h
  .rename_i fe p2 h2;injection h with h;injection h with e h;subst h;subst e;have a1:=LI R1 _ _ _ h1;have a2:=LI R3 _ _ _ h2;rw[UF R1 A6c _ _ _ h1 (ha.mono (Xa _) (by omega))];simp only;rw[UF R3 A6d _ _ _ h2 (ha.mono (by omega) (Xa _))]
theorem Pi (name:ByteArray):Ed l M d (Db l name) (Db M name):=λp x p' h ha=>by
 unfold Db at h ⊢;split at h
 .cases h
 .rename_i p1 h1;split at h
  .cases h
  .rename_i x p2 h2;split at h
   .cases h
   .rename_i df p3 h3;injection h with h;injection h with e h;subst h;subst e;have a1:=HR h1;have a2:=DR 64 _ _ _ h2;have a3:=LI R4 _ _ _ h3;rw[UE h1 (ha.mono (Xa _) (by omega))];simp only;rw[Rw 64 _ _ _ h2 (ha.mono (by omega) (by omega))];simp only;rw[UF R4 A6f _ _ _ h3 (ha.mono (by omega) (Xa _))]
theorem gZ (k:Int):Ed l M d (Er l k) (Er M k):=λp x p' h ha=>by
 unfold Er at h ⊢;split at h
 .cases h
 .rename_i c p1 h1;injection h with h;injection h with e h;subst h;subst e;rw[A6g _ _ _ h1 ha]
theorem A6i:Ed l M d (C9 l) (C9 M):=λp x p' h ha=>by
 unfold C9 at h ⊢;split at h
 .cases h
 .rename_i s p1 h1;have a1:=Dc h1;split at h
  .rename_i c;injection h with h;injection h with e h;subst h;subst e;rw[Gj h1 ha];simp only[zy c]
  .rename_i c;split at h
   .rename_i c2;have a2:=R6 _ _ _ _ h;rw[Gj h1 (ha.mono (Xa _) (by omega))];simp only[zz c,zy c2];exact gZ _ _ _ _ h (ha.mono (by omega) (Xa _))
   .rename_i c2;split at h
    .rename_i c3;have a2:=R6 _ _ _ _ h;rw[Gj h1 (ha.mono (Xa _) (by omega))];simp only[zz c,zz c2,zy c3];exact gZ _ _ _ _ h (ha.mono (by omega) (Xa _))
    .cases h
theorem A6j (name:ByteArray):Ed l M d (DZ l name) (DZ M name):=λp x p' h ha=>by
 unfold DZ at h ⊢;split at h
 .cases h
 .rename_i s p1 h1;split at h
  .cases h
  .rename_i w hw;split at h
   .cases h
   .rename_i df p2 h2;injection h with h;injection h with e h;subst h;subst e;have a1:=Dc h1;have a2:=LJ _ _ _ _ h2;rw[Gj h1 (ha.mono (Xa _) (by omega))];simp only[hw];rw[Pi _ _ _ _ h2 (ha.mono (by omega) (Xa _))]
theorem A6k (name:ByteArray):Ed l M d (EJ l name) (EJ M name):=λp x p' h ha=>by
 unfold EJ at h ⊢;split at h
 .cases h
 .rename_i s p1 h1;split at h
  .cases h
  .rename_i df p2 h2;injection h with h;injection h with e h;subst h;subst e;have a1:=R7 _ _ _ h1;have a2:=LJ _ _ _ _ h2;rw[A6i _ _ _ h1 (ha.mono (Xa _) (by omega))];simp only;rw[Pi _ _ _ _ h2 (ha.mono (by omega) (Xa _))]
theorem A6l (k:Nat) (name:ByteArray):Ed l M d (Dr l k name) (Dr M k name):=λp x p' h ha=>by
 unfold Dr at h ⊢;split at h
 .rename_i c;simp only[zy c];injection h with h;injection h with e h;subst h;subst e;rfl
 .rename_i c;simp only[zz c];split at h
  .rename_i c;simp only[zy c];split at h
   .cases h
   .rename_i y p1 h1;injection h with h;injection h with e h;subst h;subst e;rw[A6h _ _ _ _ h1 ha]
  .rename_i c;simp only[zz c];split at h
   .rename_i c;simp only[zy c];exact A6j _ _ _ _ h ha
   .rename_i c;simp only[zz c];split at h
    .rename_i c;simp only[zy c];exact A6k _ _ _ _ h ha
    .rename_i c;simp only[zz c];split at h
     .rename_i c;simp only[zy c];obtain⟨y,h',rfl⟩:=Jn h;rw[Pi _ _ _ _ h' ha];rfl
     .rename_i c;simp only[zz c];split at h
      .rename_i c;simp only[zy c];obtain⟨y,h',rfl⟩:=Jn h;rw[Pi _ _ _ _ h' ha];rfl
      .rename_i c;simp only[zz c];obtain⟨y,h',rfl⟩:=Jn h;rw[Pi _ _ _ _ h' ha];rfl
theorem A6m (k:Nat):Ed l M d (elS l k) (elS M k):=λp x p' h ha=>by
 unfold elS at h ⊢;split at h
 .rename_i c;simp only[zy c];split at h
  .cases h
  .rename_i y p1 h1;injection h with h;injection h with e h;subst h;subst e;rw[A6e _ _ _ h1 ha]
 .rename_i c;simp only[zz c];split at h
  .rename_i c;simp only[zy c];split at h
   .cases h
   .rename_i y p1 h1;injection h with h;injection h with e h;subst h;subst e;rw[Gj h1 ha]
  .rename_i c;simp only[zz c];split at h
   .cases h
   .rename_i y p1 h1;have a1:=Dc h1;have a2:=iQ _ _ _ _ _ h;rw[Gj h1 (ha.mono (Xa _) (by omega))];simp only;exact A6l _ _ _ _ _ h (ha.mono (by omega) (Xa _))
theorem A6n (k:Nat):Ed l M d (Bs l k) (Bs M k):=λp x p' h ha=>by
 unfold Bs at h ⊢;split at h
 .rename_i c;simp only[zy c];split at h
  .cases h
  .rename_i y p1 h1;injection h with h;injection h with e h;subst h;subst e;rw[Gj h1 ha]
 .rename_i c;simp only[zz c];split at h
  .cases h
  .rename_i y p1 h1;injection h with h;injection h with e h;subst h;subst e;rw[A6m _ _ _ _ h1 ha]
theorem iA (t:KT) {x:Fx} (h:clA l t p = .ok (x,p')) (ha:∀i,p<=i->i<p'->M[i+d]?=l[i]?):clA M t (p+d) = .ok (x,p'+d):=by
 unfold clA at h ⊢;split at h
 .cases h
 .rename_i a p1 h1;split at h
  .cases h
  .rename_i p2 h2;injection h with h;injection h with e h;subst h;subst e;have a1:=UL _ _ _ _ h1;have a2:=HR h2;have hA:Agr l M d (p+1) p1:=λi h1 h2=>ha i (by omega) (by omega);rw[show p+d+1=p+1+d by omega,A6n _ _ _ _ h1 hA];simp only
   have e1:Be l p1 [59]=true:=by
    unfold B6 at h2;rw[zz (by omega)]at h2;split at h2
    .assumption
    .cases h2
   have e2:=hA p1 (by omega) (Xa _)
   obtain⟨y,hy⟩:∃y,l[p1]?=some y:=⟨_,Xn (by omega)⟩
   rw[hy]at e2;have e3:=(Xo.1 e2).1;unfold B6;rw[zz (by omega),Fl hA (by omega) (Xa _),zy e1];simp only[a2.1];congr 2;omega
end
end Go.Proofs.YtobnacghaamfoaaGreatDoor
