/- Auxiliary facts. -/
import Derived.Test.YtobnacghaamfoaaGreatDoorVGQ24
set_option linter.unusedSimpArgs false
set_option maxRecDepth 100000
set_option maxHeartbeats 0
set_option linter.unusedVariables false
open Go.Proofs.Tryz renaming prog->Xa
open List renaming map_cons->Xb,map_nil->Xc,length_map->Xd,getElem?_eq_some_iff->Xf,getElem?_cons_zero->Xh
open Bool renaming false_eq_true->Xe
open Go.IntKind renaming i64->Xg
open Option renaming some->Xi
namespace Go.Proofs.YtobnacghaamfoaaGreatDoor
open Go Go.Abs
variable {q : Gl} {t : T} {l : List Tok} {i : Nat}
noncomputable def ctB (l:List Tok) (t:T) (n:Nat):EF:=[(192,hP t (HT l)),(176,hP t (Cw l)),(206,hP t (FO l)),(156,hP t (Dt l n))]
noncomputable def ceB (l:List Tok) (t:T) (n:Nat):Hg:=[(192,eP t (HT l)),(176,eP t (Cw l)),(206,eP t (FO l)),(156,eP t (Dt l n))]
theorem A1j (ht:IsS Aw t l) {n:Nat} (hD:EL q t l n):Ctx Xa (G q) (orh [] (ctB l t n)):=
 As.nil.ctxH (.cons (BP (QG ht)).hok (.cons (BP (JY ht)).hok (.cons (BP (QH ht)).hok (.cons (BP hD).hok .nil)))) mixed
theorem A1k (ht:IsS Aw t l) {n:Nat} (hD:EL q t l n):POK Xa (G q) (orE (ceB l t n)):=
 Fh.ok (.cons (BP (QG ht)).eok (.cons (BP (JY ht)).eok (.cons (BP (QH ht)).eok (.cons (BP hD).eok .nil))))
def MW (rec:Nat->Res Ds):Res (List ByteArray)->Res Ds
 | .error e=>.error e
 | .ok (path,p2)=>match rec p2 with
  | .error e=>.error e
  | .ok (d,p3)=>.ok (.mk 5 ⟨#[]⟩ path [d],p3)
theorem A1l {L:List KT} {rec:Nat->Res Ds} {p p1:Nat} {s:ByteArray} (h:AJ L p 2 = .ok (s,p1)):Ff L rec p=MW rec (E2 L (L.length+1) p1 [s]):=by
 unfold Ff;rw[h];simp only;cases E2 L (L.length+1) p1 [s]<;>rfl
structure Br where
 f:Nat
 p:Nat
 parts:List Ds
def SBr (t:T) (v:Int) (a:Br):Ad:=⟨[(2,.t (iv v)),(1,rowP eD 2 a.parts),(0,.ptr 0 0)],[(0,pr t a.p)]++A4 eD 57 2 a.parts,3,38⟩
structure A1m (L:List KT) (n:Nat) (R:Res (List Ds)) (a:Br):Prop where
 le:a.p<=L.length
 fu:L.length-a.p<a.f
 pl:a.parts.length<=255
 eq:brS L (AA L n) a.f a.p a.parts=R
structure Pa where
 f:Nat
 p:Nat
 path:List ByteArray
def SPa (t:T) (v:Int) (parts:List Ds) (a:Pa):Ad:=
 ⟨[(7,rowP Ak 3 a.path),(2,.t (iv v)),(1,rowP eD 2 parts),(0,.ptr 0 0)],[(0,pr t a.p)]++(A4 eD 57 2 parts++A4 Ak 9 3 a.path),4,38⟩
structure A1n (L:List KT) (R:Res (List ByteArray)) (a:Pa):Prop where
 le:a.p<=L.length
 fu:L.length-a.p<a.f
 pl:a.path.length<=64
 ne:a.path≠[]
 eq:E2 L a.f a.p a.path=R
theorem A1o (ht:IsS Aw t l) (hlim:l.length<=1000000) {n:Nat} (hD:EL q t l n) (hF:Fwd (l.map kt) (AA (l.map kt) n)) (hn:n<=64) (hi:i<=l.length) {parts:List Ds} (hpl:parts.length<=255) :
  KM q t 193 i parts (64-(n:Int)) (brS (l.map kt) (AA (l.map kt) n) ((l.map kt).length+1) i parts):=by
 have C:=A1j ht hD;have E:=A1k ht hD
 obtain⟨L,hL⟩:∃L,L=l.map kt:=⟨_,rfl⟩
 have hLl:L.length=l.length:=by rw[hL,Xd]
 rw[<-hL]at hF ⊢
 obtain⟨R,hR⟩:∃R,R=brS L (AA L n) (L.length+1) i parts:=⟨_,rfl⟩
 rw[<-hR]
 have ev:Xg.wrap (64-(n:Int)+1)=65-(n:Int):=by
  rw[H9 (by omega) (by omega)];omega
 refine sQ.callO rfl ?_;(conv in YO=>cbv);refine Cy C E rfl ?_;simp -implicitDefEqProofs;refine BD ?_;refine D5 (SBr t (64-(n:Int))) (λa=>a.f) (A1m L n R) ⟨L.length+1,i,parts⟩ (λ_=>rfl) ⟨by show i<=_;omega,by show L.length-i<L.length+1;omega,hpl,hR.symm⟩ ?_ rfl ?_
 .exact FK (k:=1) ((Ay.head' eD 57 1 parts).cons (by omega)) (by omega) (by omega) (by simp -implicitDefEqProofs [BE,Bn,ren,Cm,B8,under]) (by simp -implicitDefEqProofs [Ek,Em,ren,under])
 rintro⟨f,p,parts⟩ ⟨hp,hfu,hpl,heq⟩;simp only at hp hfu hpl heq;rw[hLl]at hp hfu
 obtain⟨f',rfl⟩:∃f',f=f'+1:=⟨f-1,by omega⟩
 rw[brS]at heq;refine BD ?_
 cases htk:AJ L p 2 with
 | error e=>
  have e1:Ff L (AA L n) p = .error e:=by unfold Ff;rw[htk]
  rw[e1]at heq;simp only at heq;have m1:=QL (t:=t) (nx:=3) (H:=(0,pr t p)::A4 eD 57 2 parts) hL hlim rfl (by omega) hp htk;refine Cy C E rfl ?_;rw[<-heq];simp -implicitDefEqProofs [SBr,ctB,ceB,m1,EM]
 | ok x=>
  obtain⟨s,p1⟩:=x;have hf1:=Dc htk;rw[hLl]at hf1
  obtain⟨Rp,hRp⟩:∃Rp,Rp=E2 L (L.length+1) p1 [s]:=⟨_,rfl⟩
  have e1:Ff L (AA L n) p=MW (AA L n) Rp:=by rw[A1l htk,hRp]
  have hRe:∀e,Rp = .error e->R = .error e:=λe h=>by rw[e1,h]at heq;exact heq.symm
  have m1:=QJ (t:=t) (nx:=3) (H:=(0,pr t p)::A4 eD 57 2 parts) hL hlim rfl (by omega) hp htk;have m2:=QK (t:=t) (nx:=3) (H:=(0,pr t p)::A4 eD 57 2 parts) hL hlim rfl hp htk;refine Cy C E rfl ?_;simp -implicitDefEqProofs [SBr,ctB,ceB,m1,m2,bsS];refine BF (α:=Pa) (SPa t (64-(n:Int)) parts) (λa=>Rp = .ok (a.path,a.p)/\a.path≠[]/\a.p<=l.length) (λ_=>rfl) ?_ ?_
  .refine BD ?_;refine D5 (SPa t (64-(n:Int)) parts) (λa=>a.f) (A1n L Rp) ⟨L.length+1,p1,[s]⟩ (λ_=>rfl) ⟨by show p1<=_;omega,by show L.length-p1<L.length+1;omega,by simp,by simp,hRp.symm⟩ ?_ rfl ?_
   .exact sub_rowR2 (k:=3) (c:=2) (.inr rfl) (((Ay.head' eD 57 2 parts).cons (by omega)).cons (by omega)) (by omega) (by omega) (by omega) (by omega) (by omega) (by simp -implicitDefEqProofs [BE,Bn,ren,Cm,B8,under]) (by simp -implicitDefEqProofs [Ek,Em,ren,under,show rowP Ak 3 [s] = .row 3 0 1 1 from rfl])
   .rintro⟨f2,p2,path⟩ ⟨hp2,hfu2,hpl2,hne2,heq2⟩;simp only at hp2 hfu2 hpl2 hne2 heq2;rw[hLl]at hp2 hfu2
    obtain⟨f3,rfl⟩:∃f3,f2=f3+1:=⟨f2-1,by omega⟩
    rw[E2]at heq2;have hlen:AO (rowP Ak 3 path)=some (.t (iv (path.length:Int))):=HD Ak 3 path
    cases hs:Be L p2 [46]with
    | false=>
     rw[hs]at heq2;simp only[Xe,if_false]at heq2;have m3:=TI (t:=t) (nx:=4) (H:=(0,pr t p2)::(A4 eD 57 2 parts++A4 Ak 9 3 path)) (s:=⟨#[46]⟩) (n:=(path.length:Int)) (m:=64) hL hlim rfl (by omega) hp2 hs;have m4:=TJ (t:=t) (nx:=4) (H:=(0,pr t p2)::(A4 eD 57 2 parts++A4 Ak 9 3 path)) (s:=⟨#[46]⟩) (n:=(path.length:Int)) (m:=64) hL hlim rfl hp2 hs;refine B9 C E rfl ?_;simp -implicitDefEqProofs [SPa,ctB,ceB,hlen,m3,m4];refine Am.mk ⟨f3,p2,path⟩ ⟨heq2.symm,hne2,hp2⟩ ?_;exact sub_env (by simp -implicitDefEqProofs)
    | true=>
     rw[hs]at heq2;simp only[if_true]at heq2
     have hpl3:p2<l.length:=by have:=DQ hs;omega
     by_cases hbig:64<=path.length
     .rw[zy hbig]at heq2;rw[hRe _ heq2.symm];have m3:=TM (t:=t) (nx:=4) (H:=(0,pr t p2)::(A4 eD 57 2 parts++A4 Ak 9 3 path)) (s:=⟨#[46]⟩) (n:=(path.length:Int)) (m:=64) hL hlim rfl (by omega) hp2 hs (by omega);refine B9 C E rfl ?_;simp -implicitDefEqProofs [SPa,ctB,ceB,hlen,m3,EM]
     .rw[zz hbig]at heq2;have m3:=TK (t:=t) (nx:=4) (H:=(0,pr t p2)::(A4 eD 57 2 parts++A4 Ak 9 3 path)) (s:=⟨#[46]⟩) (n:=(path.length:Int)) (m:=64) hL hlim rfl (by omega) hp2 hs (by omega);have m4:=TL (t:=t) (nx:=4) (H:=(0,pr t p2)::(A4 eD 57 2 parts++A4 Ak 9 3 path)) (s:=⟨#[46]⟩) (n:=(path.length:Int)) (m:=64) hL hlim rfl hp2 hs (by omega)
      cases htk2:AJ L (p2+1) 2 with
      | error e=>
       rw[htk2]at heq2;simp only at heq2;rw[hRe _ heq2.symm];have m5:=QL (t:=t) (nx:=4) (H:=(0,pr t (p2+1))::(A4 eD 57 2 parts++A4 Ak 9 3 path)) hL hlim rfl (by omega) (by omega) htk2;refine B9 C E rfl ?_;simp -implicitDefEqProofs [SPa,ctB,ceB,hlen,m3,m4,m5,EM]
      | ok x=>
       obtain⟨s2,p3⟩:=x;rw[htk2]at heq2;simp only at heq2;have hf2:=Dc htk2;rw[hLl]at hf2;have m5:=QJ (t:=t) (nx:=4) (H:=(0,pr t (p2+1))::(A4 eD 57 2 parts++A4 Ak 9 3 path)) hL hlim rfl (by omega) (by omega) htk2;have m6:=QK (t:=t) (nx:=4) (H:=(0,pr t (p2+1))::(A4 eD 57 2 parts++A4 Ak 9 3 path)) hL hlim rfl (by omega) htk2
       have r0:Ay Ak 9 ((4,.cells 9 [.t (sv s2)])::(0,pr t p3)::(A4 eD 57 2 parts++A4 Ak 9 3 path)) 3 path:=
        ((Ay.right (Ay.head' Ak 9 3 path) (rowH_ne (by omega))).cons (k:=0) (by omega)).cons (k:=4) (by omega)
       have r1:Ay eD 57 ((4,.cells 9 [.t (sv s2)])::(0,pr t p3)::(A4 eD 57 2 parts++A4 Ak 9 3 path)) 2 parts:=
        ((Ay.head eD 57 _ 2 parts).cons (k:=0) (by omega)).cons (k:=4) (by omega)
       obtain⟨b2,H2,n2,ap2,r2,ne2,hle2,hold,hb2⟩:=M4 (e:=Ak) (ty:=9) (by':=16) (nx:=5) (m:=[s2]) r0 (Lf (e:=Ak) (b:=4) (ty:=9) s2 rfl) (by simp;omega) (by simp;omega);have ap2':Cc 9 1 16 ((4,.cells 9 [.t (sv s2)])::(0,pr t p3)::(A4 eD 57 2 parts++A4 Ak 9 3 path)) 5 (rowP Ak 3 path) (.row 4 0 1 1)=some (rowP Ak b2 (path++[s2]),H2,n2):=ap2;have hl2:Aa H2 0=some (pr t p3):=(hold 0 (by omega) (by omega)).trans rfl
       have r1':Ay eD 57 H2 2 parts:=r1.imp id λh=>by rw[hold 2 (by omega) (by omega)];exact h
       refine B9 C E rfl ?_;simp -implicitDefEqProofs [SPa,ctB,ceB,hlen,m3,m4,m5,m6,bsS,ap2'];refine Am.mk ⟨f3,p3,path++[s2]⟩ ⟨⟨by show p3<=_;omega,by show L.length-p3<f3;omega,by simp;omega,by simp,heq2⟩,by show f3<f3+1;omega⟩ ?_;exact sub_rowR2 (k:=b2) (c:=2) r2 r1' (by omega) (by omega) (by omega) (by omega) (by omega) (by simp -implicitDefEqProofs [BE,Bn,ren,Cm,B8,under,hl2];omega) (by simp -implicitDefEqProofs [Ek,Em,ren,under])
  .rintro⟨f2,p2,path⟩ ⟨hRp2,hne2,hp2⟩;simp only at hRp2 hne2 hp2;rw[e1,hRp2]at heq;have hpf:=O9 _ _ _ _ _ (hRp.symm.trans hRp2) (by simp)
   cases hd:AA L n p2 with
   | error e=>
    have e2:MW (AA L n) (.ok (path,p2)) = .error e:=by simp only[MW,hd]
    rw[e2]at heq;simp only at heq;rw[<-heq];have m3:=z8 (t:=t) (nx:=4) (H:=(0,pr t p2)::(A4 eD 57 2 parts++A4 Ak 9 3 path)) hL rfl (by omega) hp2 hd;refine Cy C E rfl ?_;simp -implicitDefEqProofs [SPa,ctB,ceB,ev,m3,EM]
   | ok y=>
    obtain⟨d,p3⟩:=y
    have e2:MW (AA L n) (.ok (path,p2)) = .ok (.mk 5 ⟨#[]⟩ path [d],p3):=by simp only[MW,hd]
    rw[e2]at heq;simp only at heq;have hf2:=hF _ _ _ hd;rw[hLl]at hf2;have m3:=yZ (t:=t) (nx:=4) (H:=(0,pr t p2)::(A4 eD 57 2 parts++A4 Ak 9 3 path)) hL rfl (by omega) hp2 hd;have m4:=z7 (t:=t) (nx:=4) (H:=(0,pr t p2)::(A4 eD 57 2 parts++A4 Ak 9 3 path)) hL rfl hp2 hd
    obtain⟨H5,hH5⟩:∃H5:Ab,H5=(5,.cells 57 [.t (iv 5),.t (sv ⟨#[]⟩),rowP Ak 3 path,.row 4 0 1 4])::(4,.cells 57 ((Ba d).map .t))::(0,pr t p3)::(A4 eD 57 2 parts++A4 Ak 9 3 path):=⟨_,rfl⟩
    have r1:Ay eD 57 H5 2 parts:=by
     rw[hH5];exact(((Ay.head eD 57 _ 2 parts).cons (k:=0) (by omega)).cons (k:=4) (by omega)).cons (k:=5) (by omega)
    have r3:Ay Ak 9 H5 3 path:=by
     rw[hH5];exact(((Ay.right (Ay.head' Ak 9 3 path) (rowH_ne (by omega))).cons (k:=0) (by omega)).cons (k:=4) (by omega)).cons (k:=5) (by omega)
    obtain⟨H6,ap,hn6,hold⟩:=app_cells (e:=eD) (ty:=57) (by':=72) (nx:=6) (k:=5) r1 (by rw[hH5];rfl) rfl (by omega) (by omega);have ap':Cc 57 4 72 H5 6 (rowP eD 2 parts) (.row 5 0 1 4)=some (.row 6 0 (parts.length+1) 4,H6,7):=ap;rw[hH5]at ap';refine Cy C E rfl ?_;simp -implicitDefEqProofs [SPa,ctB,ceB,ev,m3,m4,bsD,-Bo,bdP _ hne2,bsA,ap']
    have w3:Ay Ak 9 H6 3 path:=r3.imp id λh=>by rw[hold 3 (by omega) (by omega)];exact h
    have w4:Aa H6 4=some (rowOf eD 57 [d]):=by rw[hold 4 (by omega) (by omega),hH5];simp[Aa,rowOf,eD]
    have w0:Aa H6 0=some (pr t p3):=by rw[hold 0 (by omega) (by omega),hH5];rfl
    obtain⟨parts2,hp2e⟩:∃parts2,parts2=parts++[.mk 5 ⟨#[]⟩ path [d]]:=⟨_,rfl⟩
    have hlen2:parts2.length=parts.length+1:=by rw[hp2e];simp
    refine MC.sub (yV (v:=64-(n:Int)) (kn:=6) (kd:=4) (by omega) hn6 w3 w4 w0 (by omega) (by omega) (by omega) rfl rfl rfl) rfl ?_;rw[<-hp2e]at heq ⊢;have hlen:AO (rowP eD 2 parts2)=some (.t (iv (parts2.length:Int))):=HD eD 2 parts2
    cases hs:Be L p3 [44]with
    | false=>
     rw[hs]at heq;simp only[Xe,if_false]at heq;have m5:=TI (t:=t) (nx:=3) (H:=(0,pr t p3)::A4 eD 57 2 parts2) (s:=⟨#[44]⟩) (n:=(parts2.length:Int)) (m:=256) hL hlim rfl (by omega) hf2.2 hs;have m6:=TJ (t:=t) (nx:=3) (H:=(0,pr t p3)::A4 eD 57 2 parts2) (s:=⟨#[44]⟩) (n:=(parts2.length:Int)) (m:=256) hL hlim rfl hf2.2 hs
     cases hsk:B6 L p3 [93]with
     | error e=>
      rw[hsk]at heq;simp only at heq;rw[<-heq];have m7:=yY (t:=t) (nx:=3) (H:=(0,pr t p3)::A4 eD 57 2 parts2) (s:=⟨#[93]⟩) hL hlim rfl (by omega) hf2.2 hsk;refine B9 C E rfl ?_;simp -implicitDefEqProofs [ctB,ceB,hlen,m5,m6,m7,EM]
     | ok p4=>
      rw[hsk]at heq;simp only at heq;rw[<-heq];have m7:=yW (t:=t) (nx:=3) (H:=(0,pr t p3)::A4 eD 57 2 parts2) (s:=⟨#[93]⟩) hL hlim rfl (by omega) hf2.2 hsk;have m8:=yX (t:=t) (nx:=3) (H:=(0,pr t p3)::A4 eD 57 2 parts2) (s:=⟨#[93]⟩) hL hlim rfl hf2.2 hsk;refine B9 C E rfl ?_;simp -implicitDefEqProofs [ctB,ceB,hlen,m5,m6,m7,m8,EM];exact bV ⟨.inr rfl,_,_,Sub.refl _,rfl,rfl,rfl,rfl⟩
    | true=>
     rw[hs]at heq;simp only[if_true]at heq
     have hpl3:p3<l.length:=by have:=DQ hs;omega
     by_cases hbig:256<=parts.length+1
     .rw[zy hbig]at heq;rw[<-heq];have m5:=TM (t:=t) (nx:=3) (H:=(0,pr t p3)::A4 eD 57 2 parts2) (s:=⟨#[44]⟩) (n:=(parts2.length:Int)) (m:=256) hL hlim rfl (by omega) hf2.2 hs (by omega);refine B9 C E rfl ?_;simp -implicitDefEqProofs [ctB,ceB,hlen,m5,EM]
     .rw[zz hbig]at heq;have m5:=TK (t:=t) (nx:=3) (H:=(0,pr t p3)::A4 eD 57 2 parts2) (s:=⟨#[44]⟩) (n:=(parts2.length:Int)) (m:=256) hL hlim rfl (by omega) hf2.2 hs (by omega);have m6:=TL (t:=t) (nx:=3) (H:=(0,pr t p3)::A4 eD 57 2 parts2) (s:=⟨#[44]⟩) (n:=(parts2.length:Int)) (m:=256) hL hlim rfl hf2.2 hs (by omega);refine B9 C E rfl ?_;simp -implicitDefEqProofs [ctB,ceB,hlen,m5,m6];refine Am.mk ⟨f',p3+1,parts2⟩ ⟨⟨by show p3+1<=_;omega,by show L.length-(p3+1)<f';omega,by show parts2.length<=255;omega,heq⟩,by show f'<f'+1;omega⟩ ?_;exact sub_env (by simp -implicitDefEqProofs)
variable {q : Gl} {t : T} {l : List Tok} {i : Nat}
noncomputable def Kg (l:List Tok) (n:Nat):PG:=λi ts=>match ts with
 | [.v (.int .i64 v)]=>if v=64-(n:Int)/\i<=l.length then some (CD dT (Dq (l.map kt) (AA (l.map kt) n) i))else none
 | _=>none
noncomputable def Kh (l:List Tok) (n:Nat):PG:=λi ts=>match ts with
 | [.v (.int .i64 v)]=>if v=64-(n:Int)/\i<=l.length then some (CD dT (DA (l.map kt) (AA (l.map kt) n) i))else none
 | _=>none
section
variable {n : Nat} (ht : IsS Aw t l) (hlim : l.length <= 1000000) (hD : EL q t l n) (hF : Fwd (l.map kt) (AA (l.map kt) n)) (hn : n <= 64)
include ht hlim hD hF hn
theorem dY:∀i ts o,Kg l n i ts=some o->PM Xa (G q) t 194 i ts o:=λi ts o h=>by
 unfold Kg at h;split at h
 .split at h
  .rename_i hc;obtain⟨rfl,hi⟩:=hc;injection h with h;subst h;exact yS ht hlim hD hF hn hi
  .cases h
 .cases h
theorem dZ:∀i ts o,Kh l n i ts=some o->PM Xa (G q) t 195 i ts o:=λi ts o h=>by
 unfold Kh at h;split at h
 .split at h
  .rename_i hc;obtain⟨rfl,hi⟩:=hc;injection h with h;subst h;exact yM ht hlim hD hF hn hi
  .cases h
 .cases h
end
noncomputable def ctT (l:List Tok) (t:T) (n:Nat):EF:=[(174,hP t (Bw l)),(192,hP t (HT l)),(194,hP t (Kg l n)),(195,hP t (Kh l n))]
noncomputable def ceT (l:List Tok) (t:T) (n:Nat):Hg:=[(174,eP t (Bw l)),(192,eP t (HT l)),(194,eP t (Kg l n)),(195,eP t (Kh l n))]
section
variable {n : Nat} (ht : IsS Aw t l) (hlim : l.length <= 1000000) (hD : EL q t l n) (hF : Fwd (l.map kt) (AA (l.map kt) n)) (hn : n <= 64)
include ht hlim hD hF hn
theorem A1p:AF Xa (G q) (ctT l t n):=
 .cons (BP (JU ht)).hok (.cons (BP (QG ht)).hok (.cons (BP (dY ht hlim hD hF hn)).hok (.cons (BP (dZ ht hlim hD hF hn)).hok .nil)))
theorem A1q:Fh Xa (G q) (ceT l t n):=
 .cons (BP (JU ht)).eok (.cons (BP (QG ht)).eok (.cons (BP (dY ht hlim hD hF hn)).eok (.cons (BP (dZ ht hlim hD hF hn)).eok .nil)))
end
section
variable (X : Row) (R : Ab) (i j : Nat) (t : T) (k v : Int) (s : List UInt8)
theorem gl1:Aj false 1 ((2,X)::(0,pr t i)::R) (.ptr 0 1)=some (.t (iv (i:Int))):=rfl
theorem gw2:AM 1 ((2,X)::(0,pr t i)::R) (.ptr 0 1) (.t (iv ((i:Int)+1)))=some ((2,X)::(0,pr t (i+1))::R):=rfl
theorem gk0:Aj false 1 ((2,.cells 42 [.t (iv k),.t (sv (bs s)),.t (iv v)])::R) (.ptr 2 0)=some (.t (iv k)):=rfl
theorem gk1:Aj false 1 ((2,.cells 42 [.t (iv k),.t (sv (bs s)),.t (iv v)])::R) (.ptr 2 1)=some (.t (sv (bs s))):=rfl
theorem gst (y0 y1 y2:PV):AM 3 ((2,.cells 42 [y0,y1,y2])::R) (.ptr 2 0) (.t (.ag [iv k,sv (bs s),iv v]))=some ((2,.cells 42 [.t (iv k),.t (sv (bs s)),.t (iv v)])::R):=rfl
theorem bdN {Φ:A7} {H:Ab} {nx:Nat} (n:ByteArray):Ai Φ H nx (.build [(0,1),(1,1),(2,1),(3,1)] [.int .i64 0,.string ⟨#[]⟩,.slice none 0 0,.slice none 0 0] [0,1]) [.t (iv k),.t (sv n)]=some (.t (dT (.mk k n [] [])),H,nx):=by
 rw[dT,II];rfl
end
theorem A1r (ht:IsS Aw t l) (hlim:l.length<=1000000) {n:Nat} (hD:EL q t l n) (hF:Fwd (l.map kt) (AA (l.map kt) n)) (hn:n<=64) (hi:i<=l.length) {parts:List Ds} (hpl:parts.length<=255) :
  KM q t 175 i parts (64-(n:Int)) (Di (l.map kt) (AA (l.map kt) n) i parts):=by
 have HC:=A1p ht hlim hD hF hn;have HE:=A1q ht hlim hD hF hn;have C:Ctx Xa (G q) (orh [] (ctT l t n)):=As.nil.ctxH HC mixed;have E:POK Xa (G q) (orE (ceT l t n)):=HE.ok
 obtain⟨L,hL⟩:∃L,L=l.map kt:=⟨_,rfl⟩
 have hLl:L.length=l.length:=by rw[hL,Xd]
 have hbr:=λ{i:Nat} (hi:i<=l.length)=>A1o ht hlim hD hF hn hi hpl;rw[<-hL]at hF hbr ⊢;refine sO.callO rfl ?_
 obtain⟨R,hR⟩:∃R,R=Di L (AA L n) i parts:=⟨_,rfl⟩
 rw[<-hR]
 cases hx:l[i]? with
 | none=>
  have e1:R = .error 9:=by rw[hR];unfold Di;rw[hL,Gy,hx];rfl
  rw[e1];have h1:eP t (Bw l) [.ptr 0 0] ((0,pr t i)::A4 eD 57 1 parts) 2=some (C7 9):=DP (ts:=[]) rfl (by omega) (by simp[Bw,hx]);refine B9 C E rfl ?_
  (conv in Og=>cbv);simp -implicitDefEqProofs [ctT,ceT,h1,EM]
 | some x=>
  have hlt:i<l.length:=(Xf.1 hx).1;have h1:hP t (Bw l) [.ptr 0 0] ((0,pr t i)::A4 eD 57 1 parts) 2=some (.t (.ag (Aw.enc x)),(0,pr t i)::A4 eD 57 1 parts,2):=Df (ts:=[]) rfl (by omega) (by simp[Bw,hx]);have h2:eP t (Bw l) [.ptr 0 0] ((0,pr t i)::A4 eD 57 1 parts) 2=none:=Dj (ts:=[]) (x:=(.ag (Aw.enc x),i)) rfl (by simp[Bw,hx])
  have e0:R=if x.k=1 then .ok (parts++[.mk 1 (bs x.t) [] []],i+1)
    else if x.k≠5 then .error 8
    else if x.t=[64]then DX parts (Fv 2 (AJ L (i+1) 1))
    else if x.t=[35]then DX parts (Fv 3 (AJ L (i+1) 1))
    else if x.t=[91]then brS L (AA L n) (L.length+1) (i+1) parts
    else if x.t=[60]then DX parts (Dq L (AA L n) (i+1))
    else if x.t=[60,33]then DX parts (DA L (AA L n) (i+1))
    else .error 8:=by rw[hR];unfold Di;rw[show L[i]?=some (kt x)by rw[hL,Gy,hx];rfl]
  have ew:Xg.wrap ((i:Int)+1)=((i+1:Nat):Int):=AP (by omega) (by omega)
  obtain⟨tk,htk⟩:∃tk:Row,tk = .cells 42 [.t (iv x.k),.t (sv (bs x.t)),.t (iv x.l)]:=⟨_,rfl⟩
  have fin:∀(d:Ds) (p:Nat) (env:List (Nat×PV)) (hE:R = .ok (parts++[d],p)),∃b4 H4 n4,Cc 57 4 72 ((3,.cells 57 ((Ba d).map .t))::(2,tk)::(0,pr t p)::A4 eD 57 1 parts) 4 (rowP eD 1 parts) (.row 3 0 1 4)=some (rowP eD b4 (parts++[d]),H4,n4) /\
    (∀env,Aa env 6=some (rowP eD b4 (parts++[d]))->MI Xa (G q) 2 [RV.tmp 6] (EM t R) .ret ⟨env,H4,n4,78⟩):=by
   intro d p env hE
   obtain⟨b4,H4,n4,ap,r4,ne4,hle4,hold,hb4⟩:=M4 (e:=eD) (ty:=57) (by':=72) (nx:=4) (m:=[d]) (H:=(3,.cells 57 ((Ba d).map .t))::(2,tk)::(0,pr t p)::A4 eD 57 1 parts) (b:=1) (l:=parts)
    ((((Ay.head' eD 57 1 parts).cons (by omega)).cons (by omega)).cons (by omega)) (Lf (e:=eD) (b:=3) (ty:=57) d rfl) (by simp;omega) (by simp;omega)
   refine⟨b4,H4,n4,ap,λenv henv=>?_⟩;rw[hE];refine O6 (rs:=[rowP eD 2 (parts++[d])]) (s2:=⟨[(6,rowP eD 2 (parts++[d]))],[(0,pr t p)]++A4 eD 57 2 (parts++[d]),3,78⟩) (.inr rfl) ?_ rfl rfl rfl rfl;exact FK (k:=b4) r4 (by omega) (by omega) (by simp -implicitDefEqProofs [BE,Bn,ren,Cm,B8,under,show Aa H4 0=some (pr t p)from(hold 0 (by omega) (by omega)).trans rfl];omega) (by simp -implicitDefEqProofs [Ek,Em,henv])
  by_cases k1:x.k=1
  .rw[zy k1]at e0;obtain⟨b4,H4,n4,ap,he⟩:=fin _ _ [] e0
   have kb:(x.k==1)=true:=by rw[k1];rfl
   rw[htk]at ap;refine B9 C E rfl ?_
   (conv in Og=>cbv);simp -implicitDefEqProofs [ctT,ceT,h1,h2,Aw,gst,gk0,gk1,gl1,gw2,kb,ew,-Bo,bdN,bsD,ap]
   exact he _ rfl
  rw[zz k1]at e0
  have kb:(x.k==1)=false:=by simpa using k1
  by_cases k5:x.k=5
  case neg=>
   rw[zy k5]at e0;rw[e0]
   have kc:(x.k != 5)=true:=by simpa using k5
   refine B9 C E rfl ?_
   (conv in Og=>cbv);simp -implicitDefEqProofs [ctT,ceT,h1,h2,Aw,gst,gk0,kb,kc,EM]
  rw[zz (λh=>h k5)]at e0
  have kc:(x.k != 5)=false:=by simpa using k5
  (conv in Og=>cbv);refine Cy C E rfl ?_;simp -implicitDefEqProofs;refine Cy C E rfl ?_;simp -implicitDefEqProofs [ctT,ceT,h1,h2,Aw,gst,gk0];refine Cy C E rfl ?_;simp -implicitDefEqProofs [ctT,ceT,h1,h2,Aw,gst,gk0,kb];refine Cy C E rfl ?_;simp -implicitDefEqProofs [gk0,kc];refine Cy C E rfl ?_;simp -implicitDefEqProofs [gl1,gw2,ew];rw[<-htk]
  obtain⟨H2,hH2⟩:∃H2:Ab,H2=(2,tk)::(0,pr t (i+1))::A4 eD 57 1 parts:=⟨_,rfl⟩
  have l20:Aa H2 0=some (pr t (i+1)):=by rw[hH2];rfl
  have lt1:Aj false 1 H2 (.ptr 2 1)=some (.t (sv (bs x.t))):=by rw[hH2,htk];rfl
  have hu2:∀p,upd H2 0 (pr t p)=(2,tk)::(0,pr t p)::A4 eD 57 1 parts:=λp=>by rw[hH2];simp[upd]
  rw[<-hH2]
  have bq:∀(s:List UInt8) (b:Bool),decide (x.t=s)=b->(x.t==s)=b:=λs b h=>by rw[<-h];exact Bool.eq_iff_iff.2 (by simp)
  have hi1:i+1<=l.length:=hlt
  have named:∀op:Int,R=DX parts (Fv op (AJ L (i+1) 1))->(∃e,AJ L (i+1) 1 = .error e/\R = .error e)\/(∃s p,AJ L (i+1) 1 = .ok (s,p)/\p<=l.length/\R = .ok (parts++[.mk op s [] []],p)):=λop h=>by
   cases hk:AJ L (i+1) 1 with
   | error e=>rw[hk]at h;exact .inl ⟨e,rfl,h⟩
   | ok y=>
    obtain⟨s,p⟩:=y;rw[hk]at h;have:=Dc hk;exact .inr ⟨s,p,rfl,by omega,h⟩
  by_cases s64:x.t=[64]
  .rw[zy s64]at e0;have b64:=bq [64] true (by simp[s64]);rcases named 2 e0 with⟨e,hk,hE⟩ | ⟨s,p,hk,hp,hE⟩
   .rw[hE];have m1:=QL (t:=t) (nx:=3) (H:=H2) hL hlim l20 (by omega) hi1 hk;refine B9 C E rfl ?_;simp -implicitDefEqProofs [ctT,ceT,lt1,b64,m1,EM]
   .have m1:=QJ (t:=t) (nx:=3) (H:=H2) hL hlim l20 (by omega) hi1 hk;have m2:=QK (t:=t) (nx:=3) (H:=H2) hL hlim l20 hi1 hk;obtain⟨b4,H4,n4,ap,he⟩:=fin _ _ [] hE;rw[hu2]at m1;refine B9 C E rfl ?_;simp -implicitDefEqProofs [ctT,ceT,lt1,b64,m1,m2,-Bo,bdN,bsD,ap];exact he _ rfl
  rw[zz s64]at e0;have b64:=bq [64] false (by simp[s64])
  by_cases s35:x.t=[35]
  .rw[zy s35]at e0;have b35:=bq [35] true (by simp[s35]);rcases named 3 e0 with⟨e,hk,hE⟩ | ⟨s,p,hk,hp,hE⟩
   .rw[hE];have m1:=QL (t:=t) (nx:=3) (H:=H2) hL hlim l20 (by omega) hi1 hk;refine B9 C E rfl ?_;simp -implicitDefEqProofs [ctT,ceT,lt1,b64,b35,m1,EM]
   .have m1:=QJ (t:=t) (nx:=3) (H:=H2) hL hlim l20 (by omega) hi1 hk;have m2:=QK (t:=t) (nx:=3) (H:=H2) hL hlim l20 hi1 hk;obtain⟨b4,H4,n4,ap,he⟩:=fin _ _ [] hE;rw[hu2]at m1;refine B9 C E rfl ?_;simp -implicitDefEqProofs [ctT,ceT,lt1,b64,b35,m1,m2,-Bo,bdN,bsD,ap];exact he _ rfl
  rw[zz s35]at e0;have b35:=bq [35] false (by simp[s35])
  by_cases s91:x.t=[91]
  .rw[zy s91]at e0;have b91:=bq [91] true (by simp[s91])
   obtain⟨Rb,hRb⟩:∃Rb,Rb=brS L (AA L n) (L.length+1) (i+1) parts:=⟨_,rfl⟩
   rw[<-hRb]at e0;have hb:=hbr hi1;rw[<-hRb]at hb
   have hbne:∀parts' p,Rb = .ok (parts',p)->parts'≠[]:=λparts' p h=>by
    have:=(OA hF _ _ _ _ _ (hRb.symm.trans h)).2.2.1;intro e;rw[e]at this;simp at this
   have hl:=KM.lift hb (H:=H2) (b:=1) (NX:=3) l20 (by rw[hH2];exact((Ay.head' eD 57 1 parts).cons (by omega)).cons (by omega)) (by omega) (by omega) hbne;have C':=As.nil.ctxH (.cons (TB hl (TG (by omega))) HC) mixed;have E':=(Fh.cons (TC hl) HE).ok
   cases hRb':Rb with
   | error e=>
    rw[hRb']at e0 C' E';rw[e0];have m1:=TA [.ptr 0 0,rowP eD 1 parts,.t (iv (64-(n:Int)))] H2 3 (C7 e);refine B9 C' E' rfl ?_;simp -implicitDefEqProofs [lt1,b64,b35,b91,Ja,hO,eO,m1,EM]
   | ok y=>
    obtain⟨parts',p⟩:=y;have hne:=hbne _ _ hRb';rw[hRb']at e0 C' E';rw[e0];have m1:=DL [.ptr 0 0,rowP eD 1 parts,.t (iv (64-(n:Int)))] H2 3 (rowP eD 3 parts',FB t H2 1 3 parts parts' p,4);refine B9 C' E' rfl ?_;simp -implicitDefEqProofs [lt1,b64,b35,b91,Ja,hO,eO,m1,EM];refine O6 (rs:=[rowP eD 2 parts']) (s2:=⟨[(6,rowP eD 2 parts')],[(0,pr t p)]++A4 eD 57 2 parts',3,78⟩) (.inr rfl) ?_ rfl rfl rfl rfl;exact FK (k:=3) TE (by omega) (by omega) (by simp -implicitDefEqProofs [BE,Bn,ren,Cm,B8,under,TF l20]) (by simp -implicitDefEqProofs [Ek,Em])
  rw[zz s91]at e0;have b91:=bq [91] false (by simp[s91])
  by_cases s60:x.t=[60]
  .rw[zy s60]at e0;have b60:=bq [60] true (by simp[s60])
   have gl:Kg l n (i+1) [iv (64-(n:Int))]=some (CD dT (Dq L (AA L n) (i+1))):=by rw[hL];exact zy ⟨rfl,hi1⟩
   cases hk:Dq L (AA L n) (i+1)with
   | error e=>
    rw[hk]at e0 gl;have e0:R = .error e:=e0;rw[e0];have m1:=DP (t:=t) (g:=Kg l n) (b:=0) (nx:=3) (H:=H2) l20 (by omega) (gl.trans rfl:_=some (.error e));simp only[Xb,Xc]at m1;refine B9 C E rfl ?_;simp -implicitDefEqProofs [ctT,ceT,lt1,b64,b35,b91,b60,m1,EM]
   | ok y=>
    obtain⟨d,p⟩:=y;rw[hk]at e0 gl;have hE:R = .ok (parts++[d],p):=e0;have m1:=Df (t:=t) (g:=Kg l n) (b:=0) (nx:=3) (H:=H2) l20 (by omega) (gl.trans rfl:_=some (.ok (dT d,p)));have m2:=Dj (t:=t) (g:=Kg l n) (b:=0) (nx:=3) (H:=H2) l20 (gl.trans rfl:_=some (.ok (dT d,p)));obtain⟨b4,H4,n4,ap,he⟩:=fin _ _ [] hE;rw[hu2]at m1;simp only[Xb,Xc]at m1 m2;refine B9 C E rfl ?_;simp -implicitDefEqProofs [ctT,ceT,lt1,b64,b35,b91,b60,m1,m2,bsD,ap];exact he _ rfl
  rw[zz s60]at e0;have b60:=bq [60] false (by simp[s60])
  by_cases s33:x.t=[60,33]
  .rw[zy s33]at e0;have b33:=bq [60,33] true (by simp[s33])
   have gl:Kh l n (i+1) [iv (64-(n:Int))]=some (CD dT (DA L (AA L n) (i+1))):=by rw[hL];exact zy ⟨rfl,hi1⟩
   cases hk:DA L (AA L n) (i+1)with
   | error e=>
    rw[hk]at e0 gl;have e0:R = .error e:=e0;rw[e0];have m1:=DP (t:=t) (g:=Kh l n) (b:=0) (nx:=3) (H:=H2) l20 (by omega) (gl.trans rfl:_=some (.error e));simp only[Xb,Xc]at m1;refine B9 C E rfl ?_;simp -implicitDefEqProofs [ctT,ceT,lt1,b64,b35,b91,b60,b33,m1,EM]
   | ok y=>
    obtain⟨d,p⟩:=y;rw[hk]at e0 gl;have hE:R = .ok (parts++[d],p):=e0;have m1:=Df (t:=t) (g:=Kh l n) (b:=0) (nx:=3) (H:=H2) l20 (by omega) (gl.trans rfl:_=some (.ok (dT d,p)));have m2:=Dj (t:=t) (g:=Kh l n) (b:=0) (nx:=3) (H:=H2) l20 (gl.trans rfl:_=some (.ok (dT d,p)));obtain⟨b4,H4,n4,ap,he⟩:=fin _ _ [] hE;rw[hu2]at m1;simp only[Xb,Xc]at m1 m2;refine B9 C E rfl ?_;simp -implicitDefEqProofs [ctT,ceT,lt1,b64,b35,b91,b60,b33,m1,m2,bsD,ap];exact he _ rfl
  rw[zz s33]at e0;have b33:=bq [60,33] false (by simp[s33]);rw[e0];refine B9 C E rfl ?_;simp -implicitDefEqProofs [ctT,ceT,lt1,b64,b35,b91,b60,b33,EM]
variable {q : Gl} {t : T} {l : List Tok} {i : Nat}
theorem A1s {H:Ab} {b ty:Nat} {d:Ds} (h:Aa H b=some (.cells ty ((Ba d).map .t))):Aj true 4 H (.ptr b 0)=some (.t (dT d)):=by
 cases d;rw[Ba]at h;rw[dT,Ba];simp only[Aj,h];rfl
theorem A1t {H:Ab} {b ty:Nat} {d:Ds} {x0 x1 x2 x3:PV} (h:Aa H b=some (.cells ty [x0,x1,x2,x3])):AM 4 H (.ptr b 0) (.t (dT d))=some (upd H b (.cells ty ((Ba d).map .t))):=by
 cases d;rw[dT,Ba];simp only[AM,Bj,h];rfl
theorem A1u {H:Ab} {b ty:Nat} {k:Int} {parts:List Ds} {x0 x1 x2 x3:PV} (h:Aa H b=some (.cells ty [x0,x1,x2,x3])) (h2:2<=parts.length) :
  AM 4 H (.ptr b 0) (.ag [.t (iv k),.t (sv ⟨#[]⟩),.t Ah,rowP eD 2 parts])=some (upd H b (.cells ty [.t (iv k),.t (sv ⟨#[]⟩),.t Ah,rowP eD 2 parts])):=by
 simp only[AM,Bj,h];rfl
theorem bdK {Φ:A7} {H:Ab} {nx:Nat} {k:Int} {parts:List Ds} (h:2<=parts.length):Ai Φ H nx (.build [(0,1),(1,1),(2,1),(3,1)] [.int .i64 0,.string ⟨#[]⟩,.slice none 0 0,.slice none 0 0] [0,3]) [.t (iv k),rowP eD 2 parts] =
  some (.ag [.t (iv k),.t (sv ⟨#[]⟩),.t Ah,rowP eD 2 parts],H,nx):=by
 cases parts with
 | nil=>simp at h
 | cons x r=>rfl
def outD (t:T):Res Ds->Out
 | .error e=>.pan (C7 e)
 | .ok (d,p)=>.ret (.t (dT d)) [(1,.cells 57 ((Ba d).map .t)),(0,pr t p)] 2
theorem PM.outD {P:Program} {G:A2} {f:FuncId} {ts:List T} {R:Res Ds} (h:Hf P G f (.ptr 0 0::ts.map .t) [(0,pr t i)] 1 (outD t R)):PM P G t f i ts (CD dT R):=by
 cases R with
 | error e=>exact h
 | ok x=>exact PM.ret h rfl
theorem eA {P:Program} {G:A2} {B nx n p:Nat} {env:List (Nat×PV)} {H:Ab} {d:Ds} (hB:B<=2) (h1:Aa H 1=some (.cells 57 ((Ba d).map .t))) (h0:Aa H 0=some (pr t p)) (e4:Aa env 4=some (.ptr 1 0)) :
  Sub P G B ⟨env,H,nx,n⟩ ⟨[(4,.ptr 1 0)],[(1,.cells 57 ((Ba d).map .t)),(0,pr t p)],2,n⟩:=by
 refine JD (λx=>x) rfl hB (λ_ _=>rfl) (λx hx=>?_) (λx hx=>?_) (λ_ _ _ _ e=>e)
 .simp only[List.mem_singleton]at hx;subst hx;exact⟨e4,rfl⟩
 .simp only[List.mem_cons,List.not_mem_nil,or_false]at hx;rcases hx with rfl | rfl
  .refine⟨?_,by show 1<2;omega,Ts _ _⟩;rw[h1,BE,Tr]
  .exact⟨h0,by show 0<2;omega,rfl⟩
theorem A1v {P:Program} {G:A2} {B nx n p:Nat} {env:List (Nat×PV)} {H:Ab} {k:Int} {parts:List Ds} (hB:B<=2) (h2:Ay eD 57 H 2 parts) (h1:Aa H 1=some (.cells 57 [.t (iv k),.t (sv ⟨#[]⟩),.t Ah,rowP eD 2 parts])) (h0:Aa H 0=some (pr t p)) (e4:Aa env 4=some (.ptr 1 0)) :
  Sub P G B ⟨env,H,nx,n⟩ ⟨[(4,.ptr 1 0)],[(1,.cells 57 ((Ba (.mk k ⟨#[]⟩ [] parts)).map .t)),(0,pr t p)],2,n⟩:=by
 have hs:Sub P G B ⟨env,H,nx,n⟩ (Ad.frz ⟨env,H,nx,n⟩ [2]):=M0 [2];refine hs.trans (eA (t:=t) hB ?_ ?_ ?_)
 .refine(OH h1 (by simp)).trans ?_;have f1:BI H [2] (rowP eD 2 parts) = .t (Aq eD parts):=TD h2 (by simp);rw[II];simp only[De,Xb,Xc,f1,MJ];rfl
 .exact(OH h0 (by simp)).trans rfl
 .simp only[FI,e4];rfl
noncomputable def ctD (l:List Tok) (t:T):EF:=[(174,hP t (Bw l)),(176,hP t (Cw l))]
noncomputable def ceD (l:List Tok) (t:T):Hg:=[(174,eP t (Bw l)),(176,eP t (Cw l))]
theorem eC (ht:IsS Aw t l):AF Xa (G q) (ctD l t):=.cons (BP (JU ht)).hok (.cons (BP (JY ht)).hok .nil)
theorem eE (ht:IsS Aw t l):Fh Xa (G q) (ceD l t):=.cons (BP (JU ht)).eok (.cons (BP (JY ht)).eok .nil)
def SDe (t:T) (v:Int) (a:Br):Ad:=⟨[(5,rowP eD 2 a.parts),(1,.t (iv v)),(4,.ptr 1 0),(0,.ptr 0 0)],[(1,zD),(0,pr t a.p)]++A4 eD 57 2 a.parts,3,30⟩
structure A1w (L:List KT) (n:Nat) (R:Res (List Ds)) (a:Br):Prop where
 le:a.p<=L.length
 fu:L.length-a.p<a.f
 pl:a.parts.length<=256
 ne:a.parts≠[]
 eq:Fg L (AA L n) a.f a.p a.parts=R
theorem A1x (ht:IsS Aw t l):EL q t l 0:=λi ts o h=>by
 have C:Ctx Xa (G q) (orh [] (ctD l t)):=As.nil.ctxH (eC ht) mixed;have E:POK Xa (G q) (orE (ceD l t)):=(eE ht).ok;unfold Dt at h;split at h
 .split at h
  .rename_i v hc;obtain⟨rfl,hi⟩:=hc;injection h with h;subst h;unfold AA;refine YR.callO rfl ?_
   cases hx:l[i]? with
   | none=>
    have hge:l.length<=i:=by simpa using hx
    rw[zy (by simpa using hge)];have h1:eP t (Bw l) [.ptr 0 0] [(1,zD),(0,pr t i)] 2=some (C7 9):=DP (ts:=[]) rfl (by omega) (by simp[Bw,hx]);refine B9 C E rfl ?_
    (conv in Oi=>cbv);simp -implicitDefEqProofs [ctD,ceD,h1,CD,Ge]
   | some x=>
    have hlt:i<l.length:=(Xf.1 hx).1;rw[zz (by simpa using hlt)];have h1:hP t (Bw l) [.ptr 0 0] [(1,zD),(0,pr t i)] 2=some (.t (.ag (Aw.enc x)),[(1,zD),(0,pr t i)],2):=Df (ts:=[]) rfl (by omega) (by simp[Bw,hx]);have h2:eP t (Bw l) [.ptr 0 0] [(1,zD),(0,pr t i)] 2=none:=Dj (ts:=[]) (x:=(.ag (Aw.enc x),i)) rfl (by simp[Bw,hx]);(conv in Oi=>cbv);refine Cy C E rfl ?_;simp -implicitDefEqProofs;refine B9 C E rfl ?_;simp -implicitDefEqProofs [ctD,ceD,h1,h2,CD,Ge]
  .cases h
 .cases h
theorem A1y (ht:IsS Aw t l) (hlim:l.length<=1000000) {n:Nat} (hD:EL q t l n) (hn:n<=64) (hi:i<=l.length) :
  PM Xa (G q) t 156 i [iv (64-(n:Int))] (CD dT (AA (l.map kt) (n+1) i)):=by
 have HC:=eC (q:=q) ht;have HE:=eE (q:=q) ht;have C:Ctx Xa (G q) (orh [] (ctD l t)):=As.nil.ctxH HC mixed;have E:POK Xa (G q) (orE (ceD l t)):=HE.ok;have hF:=DR (l:=l.map kt) n
 obtain⟨L,hL⟩:∃L,L=l.map kt:=⟨_,rfl⟩
 have hLl:L.length=l.length:=by rw[hL,Xd]
 have htm:=λ{i:Nat} (hi:i<=l.length) {parts:List Ds} (hpl:parts.length<=255)=>A1r ht hlim hD hF hn hi hpl;rw[<-hL]at hF htm ⊢;refine PM.outD (YR.callO rfl ?_)
 obtain⟨R,hR⟩:∃R,R=AA L (n+1) i:=⟨_,rfl⟩
 rw[<-hR];unfold AA at hR
 cases hx:l[i]? with
 | none=>
  have hge:l.length<=i:=by simpa using hx
  rw[zy (by omega)]at hR;rw[hR];have h1:eP t (Bw l) [.ptr 0 0] [(1,zD),(0,pr t i)] 2=some (C7 9):=DP (ts:=[]) rfl (by omega) (by simp[Bw,hx]);(conv in Oi=>cbv);refine Cy C E rfl ?_;simp -implicitDefEqProofs;refine Cy C E rfl ?_;simp -implicitDefEqProofs [ctD,ceD,h1,outD]
 | some x=>
  have hlt:i<l.length:=(Xf.1 hx).1;rw[zz (by omega)]at hR;have h1:hP t (Bw l) [.ptr 0 0] [(1,zD),(0,pr t i)] 2=some (.t (.ag (Aw.enc x)),[(1,zD),(0,pr t i)],2):=Df (ts:=[]) rfl (by omega) (by simp[Bw,hx]);have h2:eP t (Bw l) [.ptr 0 0] [(1,zD),(0,pr t i)] 2=none:=Dj (ts:=[]) (x:=(.ag (Aw.enc x),i)) rfl (by simp[Bw,hx])
  have hlv:¬((64:Int)<64-(n:Int)):=by omega
  (conv in Oi=>cbv);refine Cy C E rfl ?_;simp -implicitDefEqProofs;refine Cy C E rfl ?_;simp -implicitDefEqProofs [ctD,ceD,h1,h2];refine Cy C E rfl ?_;simp -implicitDefEqProofs [hlv]
  have tfw:∀{p:Nat} {parts parts':List Ds} {p':Nat},Di L (AA L n) p parts = .ok (parts',p')->parts.length<=255->p<p'/\p'<=l.length/\parts'≠[]/\parts'.length<=256:=λh hp=>by
   have:=JW hF h;rw[hLl]at this;refine⟨this.1,this.2.1,λe=>?_,this.2.2.2 hp⟩;rw[e]at this;simp at this
  obtain⟨Rt,hRt⟩:∃Rt,Rt=Di L (AA L n) i []:=⟨_,rfl⟩
  have hl:=KM.lift (htm hi (parts:=[]) (by simp)) (H:=[(1,zD),(0,pr t i)]) (b:=1) (NX:=2) rfl (.inl rfl) (by omega) (by omega) (λparts' p h=>(tfw h (by simp)).2.2.1);rw[<-hRt]at hR hl;have hl:Hf Xa (G q) 175 [.ptr 0 0,.t (.v (.slice none 0 0)),.t (iv (64-(n:Int)))] [(1,zD),(0,pr t i)] 2 (Ja t [(1,zD),(0,pr t i)] 1 2 [] Rt):=hl;have C':=As.nil.ctxH (.cons (TB hl (TG (by omega))) HC) mixed;have E':=(Fh.cons (TC hl) HE).ok
  cases hRt':Rt with
  | error e=>
   rw[hRt']at hR C' E';simp only at hR;rw[hR];have m1:=TA [.ptr 0 0,.t (.v (.slice none 0 0)),.t (iv (64-(n:Int)))] [(1,zD),(0,pr t i)] 2 (C7 e);refine Cy C' E' rfl ?_;simp -implicitDefEqProofs [ctD,ceD,Ja,hO,eO,m1,outD]
  | ok y=>
   obtain⟨parts0,p0⟩:=y;have hf0:=tfw (hRt.symm.trans hRt') (by simp);rw[hRt']at hR C' E';simp only at hR
   obtain⟨R2,hR2⟩:∃R2,R2=Fg L (AA L n) (L.length+1) p0 parts0:=⟨_,rfl⟩
   rw[<-hR2]at hR;have m1:=DL [.ptr 0 0,.t (.v (.slice none 0 0)),.t (iv (64-(n:Int)))] [(1,zD),(0,pr t i)] 2 (rowP eD 2 parts0,FB t [(1,zD),(0,pr t i)] 1 2 [] parts0 p0,3);refine Cy C' E' rfl ?_;simp -implicitDefEqProofs [ctD,ceD,Ja,hO,eO,m1];refine BF (α:=Br) (SDe t (64-(n:Int))) (λa=>R2 = .ok (a.parts,a.p)/\a.parts≠[]) (λ_=>rfl) ?_ ?_
   .refine BD ?_;refine D5 (SDe t (64-(n:Int))) (λa=>a.f) (A1w L n R2) ⟨L.length+1,p0,parts0⟩ (λ_=>rfl) ⟨by show p0<=_;omega,by show L.length-p0<L.length+1;omega,hf0.2.2.2,hf0.2.2.1,hR2.symm⟩ ?_ rfl ?_
    .exact FK (k:=2) TE (by omega) (by omega) (by
      have r0:=TF (t:=t) (H:=[(1,zD),(0,pr t i)]) (b:=1) (NX:=2) (p:=p0) (parts:=[]) (parts':=parts0) rfl (by omega) (by omega);have r1:Aa (FB t [(1,zD),(0,pr t i)] 1 2 [] parts0 p0) 1=some zD:=cL (by omega) (.inr rfl) (by omega)
      simp -implicitDefEqProofs [BE,Bn,ren,Cm,B8,under,r0,r1]) (by simp -implicitDefEqProofs [Ek,Em,ren,under])
    .rintro⟨f,p,parts⟩ ⟨hp,hfu,hpl,hne,heq⟩;simp only at hp hfu hpl hne heq;rw[hLl]at hp hfu
     obtain⟨f',rfl⟩:∃f',f=f'+1:=⟨f-1,by omega⟩
     rw[Fg]at heq;have hlen:AO (rowP eD 2 parts)=some (.t (iv (parts.length:Int))):=HD eD 2 parts
     cases hs:Be L p [38]with
     | false=>
      rw[hs]at heq;simp only[Xe,if_false]at heq;have m3:=TI (t:=t) (nx:=3) (H:=(1,zD)::(0,pr t p)::A4 eD 57 2 parts) (s:=⟨#[38]⟩) (n:=(parts.length:Int)) (m:=256) hL hlim rfl (by omega) hp hs;have m4:=TJ (t:=t) (nx:=3) (H:=(1,zD)::(0,pr t p)::A4 eD 57 2 parts) (s:=⟨#[38]⟩) (n:=(parts.length:Int)) (m:=256) hL hlim rfl hp hs;refine B9 C E rfl ?_;simp -implicitDefEqProofs [SDe,ctD,ceD,hlen,m3,m4];refine Am.mk ⟨f',p,parts⟩ ⟨heq.symm,hne⟩ ?_;exact sub_env (by simp -implicitDefEqProofs)
     | true=>
      rw[hs]at heq;simp only[if_true]at heq
      have hpl3:p<l.length:=by have:=DQ hs;omega
      by_cases hbig:256<=parts.length
      .rw[zy hbig]at heq;rw[<-heq]at hR;simp only at hR;rw[hR];have m3:=TM (t:=t) (nx:=3) (H:=(1,zD)::(0,pr t p)::A4 eD 57 2 parts) (s:=⟨#[38]⟩) (n:=(parts.length:Int)) (m:=256) hL hlim rfl (by omega) hp hs (by omega);refine B9 C E rfl ?_;simp -implicitDefEqProofs [SDe,ctD,ceD,hlen,m3,outD]
      .rw[zz hbig]at heq;have m3:=TK (t:=t) (nx:=3) (H:=(1,zD)::(0,pr t p)::A4 eD 57 2 parts) (s:=⟨#[38]⟩) (n:=(parts.length:Int)) (m:=256) hL hlim rfl (by omega) hp hs (by omega);have m4:=TL (t:=t) (nx:=3) (H:=(1,zD)::(0,pr t p)::A4 eD 57 2 parts) (s:=⟨#[38]⟩) (n:=(parts.length:Int)) (m:=256) hL hlim rfl hp hs (by omega)
       obtain⟨H2,hH2⟩:∃H2:Ab,H2=(1,zD)::(0,pr t (p+1))::A4 eD 57 2 parts:=⟨_,rfl⟩
       have hu:upd ((1,zD)::(0,pr t p)::A4 eD 57 2 parts) 0 (pr t (p+1))=H2:=by rw[hH2];simp[upd]
       rw[hu]at m3
       have l20:Aa H2 0=some (pr t (p+1)):=by rw[hH2];rfl
       have l21:Aa H2 1=some zD:=by rw[hH2];rfl
       obtain⟨Rn,hRn⟩:∃Rn,Rn=Di L (AA L n) (p+1) parts:=⟨_,rfl⟩
       have hl:=KM.lift (htm (i:=p+1) (by omega) (parts:=parts) (by omega)) (H:=H2) (b:=2) (NX:=3) l20 (by rw[hH2];exact((Ay.head' eD 57 2 parts).cons (by omega)).cons (by omega)) (by omega) (by omega) (λparts' p h=>(tfw h (by omega)).2.2.1);rw[<-hRn]at heq hl;have C':=As.nil.ctxH (.cons (TB hl (TG (by omega))) HC) mixed;have E':=(Fh.cons (TC hl) HE).ok
       cases hRn':Rn with
       | error e=>
        rw[hRn']at heq C' E';simp only at heq;rw[<-heq]at hR;simp only at hR;rw[hR];have m5:=TA [.ptr 0 0,rowP eD 2 parts,.t (iv (64-(n:Int)))] H2 3 (C7 e);refine B9 C' E' rfl ?_;simp -implicitDefEqProofs [SDe,ctD,ceD,hlen,Ja,hO,eO,m3,m4,m5,outD]
       | ok y=>
        obtain⟨parts2,p2⟩:=y;have hf2:=tfw (hRn.symm.trans hRn') (by omega);rw[hRn']at heq C' E';simp only at heq;have m5:=DL [.ptr 0 0,rowP eD 2 parts,.t (iv (64-(n:Int)))] H2 3 (rowP eD 3 parts2,FB t H2 2 3 parts parts2 p2,4);refine B9 C' E' rfl ?_;simp -implicitDefEqProofs [SDe,ctD,ceD,hlen,Ja,hO,eO,m3,m4,m5];refine Am.mk ⟨f',p2,parts2⟩ ⟨⟨by show p2<=_;omega,by show L.length-p2<f';omega,hf2.2.2.2,hf2.2.2.1,heq⟩,by show f'<f'+1;omega⟩ ?_
        exact FK (k:=3) TE (by omega) (by omega) (by
         have r0:=TF (t:=t) (H:=H2) (b:=2) (NX:=3) (p:=p2) (parts:=parts) (parts':=parts2) l20 (by omega) (by omega);have r1:Aa (FB t H2 2 3 parts parts2 p2) 1=some zD:=(cL (by omega) (.inl (by omega)) (by omega)).trans l21
         simp -implicitDefEqProofs [BE,Bn,ren,Cm,B8,under,r0,r1]) (by simp -implicitDefEqProofs [Ek,Em,ren,under])
   .rintro⟨f,p,parts⟩ ⟨hRp,hne⟩;simp only at hRp hne;rw[hRp]at hR;simp only at hR;rw[hR];have hlen:AO (rowP eD 2 parts)=some (.t (iv (parts.length:Int))):=HD eD 2 parts
    have fin:∀d (s:Ad),d=Oz parts->Sub Xa (G q) 1 s ⟨[(4,.ptr 1 0)],[(1,.cells 57 ((Ba d).map .t)),(0,pr t p)],2,30⟩->MI Xa (G q) 1 [RV.cell 4 true 4] (outD t (.ok (Oz parts,p))) .ret s:=by
     intro d s hd hs;rw[<-hd];refine O6 (rs:=[.t (dT d)]) (.inr rfl) hs ?_ rfl rfl rfl;cases d;rw[dT,Ba];rfl
    rcases parts with _ | ⟨d,_ | ⟨d2,r⟩⟩
    .exact absurd rfl hne
    .obtain⟨H3,hH3⟩:∃H3:Ab,H3=(1,zD)::(0,pr t p)::A4 eD 57 2 [d]:=⟨_,rfl⟩
     have ia:Bd 4 (rowP eD 2 [d]) (.t (.v (.int .i64 0)))=some (.ptr 2 0):=rfl;have ld:Aj true 4 H3 (.ptr 2 0)=some (.t (dT d)):=A1s (ty:=57) (by rw[hH3];simp[A4,Aa,eD])
     have l31:Aa H3 1=some zD:=by rw[hH3];rfl
     have l30:Aa H3 0=some (pr t p):=by rw[hH3];rfl
     have st:=A1t (d:=d) l31;refine B9 C E rfl ?_;simp -implicitDefEqProofs [SDe,hlen,ia];rw[<-hH3,ld,Qj,st,Qj];refine fin d _ rfl (eA (t:=t) (by omega) ?_ ?_ rfl)
     .rw[AN,zy rfl,l31];rfl
     .rw[AN,zz (by omega),l30]
    .obtain⟨ps,hps⟩:∃ps,ps=d::d2::r:=⟨_,rfl⟩
     have hpl:2<=ps.length:=by rw[hps];simp
     rw[<-hps]at hlen fin ⊢
     have hne1:¬ps.length=1:=by omega
     have hne2:((ps.length:Int)==1)=false:=by simpa using (by omega:¬(ps.length:Int)=1)
     obtain⟨H3,hH3⟩:∃H3:Ab,H3=(1,zD)::(0,pr t p)::A4 eD 57 2 ps:=⟨_,rfl⟩
     have l31:Aa H3 1=some zD:=by rw[hH3];rfl
     have l30:Aa H3 0=some (pr t p):=by rw[hH3];rfl
     have r32:Ay eD 57 H3 2 ps:=by rw[hH3];exact((Ay.head' eD 57 2 ps).cons (by omega)).cons (by omega)
     have st:=A1u (k:=4) l31 hpl;refine B9 C E rfl ?_;simp -implicitDefEqProofs [SDe,hlen,hne1,hne2,-Bo,bdK hpl];rw[<-hH3,st,Qj];refine fin (.mk 4 ⟨#[]⟩ [] ps) _ ?_ (A1v (t:=t) (by omega) ?_ ?_ ?_ rfl)
     .rw[hps];rfl
     .exact r32.imp id λh=>by rw[AN,zz (by omega)];exact h
     .rw[AN,zy rfl,l31];rfl
     .rw[AN,zz (by omega),l30]
theorem eF (ht:IsS Aw t l) (hlim:l.length<=1000000):∀n,n<=64->EL q t l n
 | 0,_=>A1x ht
 | n+1,hn=>λi ts o h=>by
  have hD:=eF ht hlim n (by omega);unfold Dt at h;split at h
  .split at h
   .rename_i v hc;obtain⟨rfl,hi⟩:=hc;injection h with h;subst h;have:=A1y (q:=q) ht hlim hD (by omega) hi
    have e:(65:Int)-((n+1:Nat):Int)=64-(n:Int):=by omega
    rw[e];exact this
   .cases h
  .cases h
variable {q : Gl} {t : T} {l : List Tok} {i : Nat}
theorem c0:Ctx Xa (G q) (orh [] []):=As.nil.ctxH .nil mixed
variable {q : Gl} {t : T} {l : List Tok} {i : Nat}
structure Left (I:Nat->Prop) (w:World) (g:Nat) (I':Nat->Prop) (w':World):Prop where
 out:Ca w w'
 size:w.heap.size<=w'.heap.size
 same:∀h,h<w.heap.size->h≠g->w'.heap[h]?=w.heap[h]?
 more:∀b,I b->I' b
 new:∀b,I' b->I b\/w.heap.size<=b\/b=g
 lt:∀b,I' b->b<w'.heap.size
def A1z (g:Nat) (I':Nat->Prop) (w':World) (e:Ending):Res Ds->Prop
 | .ok (d,p)=>∃v arr,e = .returned v/\Ao I' w' (dT d) v/\w'.heap[g]?=some (.cells arr 198 (0,0))/\arr[1]?=some (.int .i64 (p:Int))/\¬I' g
 | .error er=>e = .panicked (C7 er)
theorem A2a (ht:IsS Aw t l) (hlim:l.length<=1000000) {I:Nat->Prop} {w:World} {g:Nat} {x:Value} (hlt:∀b,I b->b<w.heap.size) (hglob:∀g' cs,Aa (G q) g'=some cs->I g'/\EW I w cs g')
  (hrep:Ao I w t x) (h1:x.oneCell'=true) (hi:i<=l.length) (hg:w.heap[g]?=some (.cells #[x,.int .i64 (i:Int)] 198 (0,0))) (hI:¬I g) :
  Calls Xa 156 #[.pointer (some ⟨g,0,none⟩),.int .i64 1] w λe w'=>∃I',A1z g I' w' e (AA (l.map kt) 64 i)/\Left I w g I' w':=by
 have h:=eF (q:=q) ht hlim 64 (Nat.le_refl _) i [iv 1] _ (QI (n:=64) hi)
 have one:∀b r,Aa [(0,pr t i)] b=some r->b=0/\r=pr t i:=by
  intro b r hb;simp only[Aa]at hb;split at hb
  .rename_i e;injection hb with hb;exact⟨e.symm,hb.symm⟩
  .cases hb
 have hok:BA Xa (G q) ⟨I,λ_=>g,1⟩ [(0,pr t i)] w:=by
  refine⟨hlt,λb r hb=>?_,λb r hb=>hI,λb b' r r' hb hb' _=>by rw[(one b r hb).1,(one b' r' hb').1],λb r hb=>by rw[(one b r hb).1];exact Nat.lt_succ_self _,hglob⟩;obtain⟨rfl,rfl⟩:=one b r hb;refine⟨_,hg,by simp,λj c hj=>?_⟩;rcases j with _ | _ | j
  .simp only[Xh,Xi.injEq]at hj;subst hj;exact⟨x,rfl,h1,by simp only[Af];exact hrep⟩
  .simp only[List.getElem?_cons_succ,Xh,Xi.injEq]at hj;subst hj;exact⟨.int .i64 (i:Int),rfl,rfl,by simp only[Af,Ao]⟩
  .simp at hj
 have hargs:A5 Xa ⟨I,λ_=>g,1⟩ w (.ptr 0 0::[iv 1].map .t) (#[Value.pointer (some ⟨g,0,none⟩),.int .i64 1]:Array Value).toList:=by
  simp only[Xb,Xc,A5,Af,Ao];exact⟨_,_,rfl,⟨by omega,rfl⟩,_,_,rfl,rfl,rfl⟩
 have hmine:∀k,FW ⟨I,λ_=>g,1⟩ [(0,pr t i)] k->k=g:=λk ⟨_,_,_,e⟩=>e.symm
 cases hd:AA (l.map kt) 64 i with
 | error er=>
  rw[hd]at h;refine((show E3 _ _ _ _ _ _ _ _ from h).2 ⟨I,λ_=>g,1⟩ w _ hok rfl hargs).mono ?_;rintro e w' ⟨L',rfl,hok',_,hm,hx⟩;refine⟨L'.I,rfl,hx.outer,hx.size,λk hk hne=>hx.same k hk λhh=>hne (hmine k hh),hx.more,λb hb=>?_,hok'.lt⟩;rcases hx.new b hb with h2 | h2 | h2
  .exact .inl h2
  .exact .inr (.inl h2)
  .exact .inr (.inr (hmine b h2))
 | ok y=>
  obtain⟨d,p⟩:=y;rw[hd]at h;refine((show AH _ _ _ _ _ _ _ _ _ from h).2 ⟨I,λ_=>g,1⟩ w _ hok rfl hargs).mono ?_;rintro e w' ⟨v,L',rfl,hv,hok',_,hm,hx⟩;have hμ:L'.μ 0=g:=hm.μ 0 (by show 0<1;omega);obtain⟨arr,ha,hl,hc⟩:=hok'.rep 0 _ rfl;rw[hμ]at ha;obtain⟨x1,hx1,_,hr1⟩:=hc 1 _ rfl;simp only[Af,Ao]at hr1 hv;subst hr1
  have hna:¬L'.I g:=by have:=hok'.apart 0 _ rfl;rwa[hμ]at this
  refine⟨L'.I,⟨v,arr,rfl,by simp only[Ao];exact hv,ha,hx1,hna⟩,hx.outer,hx.size,λk hk hne=>hx.same k hk λhh=>hne (hmine k hh),hx.more,λb hb=>?_,hok'.lt⟩;rcases hx.new b hb with h2 | h2 | h2
  .exact .inl h2
  .exact .inr (.inl h2)
  .exact .inr (.inr (hmine b h2))
end Go.Proofs.YtobnacghaamfoaaGreatDoor
