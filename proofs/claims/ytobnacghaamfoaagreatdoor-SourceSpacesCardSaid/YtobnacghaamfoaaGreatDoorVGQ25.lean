/- Auxiliary facts. -/
import Derived.Test.YtobnacghaamfoaaGreatDoorVGQ24
import Derived.Test.YtobnacghaamfoaaGreatDoorVGQ23
import Derived.Test.YtobnacghaamfoaaGreatDoorVGQ32
import Derived.Test.YtobnacghaamfoaaGreatDoorVGQ34
set_option linter.unusedSimpArgs false
set_option maxRecDepth 100000
set_option maxHeartbeats 0
set_option linter.unusedVariables false
open Go.Proofs.Tryz renaming prog->Xa
open Go.IntKind renaming i64->Xb
open List renaming getElem?_eq_getElem->Xc,length_drop->Xg,isPrefixOf->Xi,drop_zero->Xl,drop_drop->Xm,drop_eq_getElem_cons->Xo,getElem?_eq_some_iff->Xp,drop_eq_nil_of_le->Xq,takeWhile_cons->Xt,isPrefixOf_iff_prefix->Xv,append_nil->Xw
open Bool renaming false_eq_true->Xd,or_self->Xh,true_or->Xj,or_true->Xk,or_eq_true_iff->Xs,or_eq_false_iff->Xu
open Int renaming natCast_zero->Xe
open Nat renaming le_refl->Xf
open UInt8 renaming toNat_inj->Xn,ofNat->Xr
namespace Go.Proofs.YtobnacghaamfoaaGreatDoor
open Go Go.Abs
variable {q : Gl}
theorem cO (s:ByteArray) (j:Nat) (h2:j<=s.size):DK (.t (sv s)) none (some (.t (iv (j:Int))))=some (.t (sv (s.extract 0 j))):=by
 have a2:¬(j:Int)<0:=by omega
 simp[DK,Cj,h2]
def InZ (n p:Nat):Prop:=p<=n
def SRr (s:ByteArray) (big:Bool) (p:Nat):Ad:=⟨[(5,.t (iv (p:Int))),(1,.t (bv big)),(0,.t (sv s))],[],0,20⟩
theorem zJ (s:ByteArray) (big:Bool) (hs:s.size<=65536):A1 Xa (G q) 50 [sv s,bv big] (· = iv (AB big s.data.toList:Int)):=by
 have hlen:s.data.toList.length=s.size:=rfl
 obtain⟨n,hn⟩:∃n,n=AB big s.data.toList:=⟨_,rfl⟩
 have hnl:n<=s.size:=by rw[hn,<-hlen];exact IQ _ _
 rw[<-hn];refine uR.call rfl ?_;(conv in aG=>cbv);refine Av Q4 ?_;simp -implicitDefEqProofs;refine Av Q4 ?_;simp -implicitDefEqProofs;refine BF (α:=Unit) (λ_=>SRr s big n) (λ_=>True) (λ_=>rfl) ?_ ?_
 .refine BD ?_;refine D5 (SRr s big) (λp=>n-p) (InZ n) 0 (λ_=>rfl) (Nat.zero_le _) ?_ rfl ?_
  .refine AQ rfl rfl ?_ ?_<;>simp -implicitDefEqProofs [SRr]
  .intro p hp;have hp:p<=n:=hp;refine Ap Q4 ?_;by_cases hlt:p<s.size
   .obtain⟨c,hc⟩:∃c,s.data.toList[p]?=some c:=⟨_,Xc hlt⟩
    have ix:=DM s p c hc
    obtain⟨p1,hp1⟩:∃p1,p1=p+1:=⟨_,rfl⟩
    have e1:Xb.wrap ((p:Int)+1)=(p1:Int):=by rw[hp1];exact AP (by omega) (by omega)
    have gq:=Dz (τ:=Q3) (σ:=Qn) (f:=λc b=>some (bv (BL b c))) (a:=cv c) (b:=bv big) rfl rfl;by_cases hpn:p<n
    .have hd:BL big c=true:=Ou (by show p<AB big s.data.toList;omega) hc;simp -implicitDefEqProofs [SRr,hlt,ix,tbp,gq,hd,e1];exact Am.mk p1 ⟨by show p1<=n;omega,by omega⟩ (AQ rfl rfl (by simp -implicitDefEqProofs [SRr]) (by simp -implicitDefEqProofs [SRr]))
    .have hpz:p=n:=by omega
     have hd:BL big c=false:=Ov (by show s.data.toList[AB big s.data.toList]?=some c;rw[<-hn,<-hpz];exact hc);subst hpz;simp -implicitDefEqProofs [SRr,hlt,ix,tbp,gq,hd];exact Am.mk () trivial (AQ rfl rfl (by simp -implicitDefEqProofs [SRr]) (by simp -implicitDefEqProofs [SRr]))
   .have hpz:p=n:=by omega
    subst hpz;simp -implicitDefEqProofs [SRr,hlt];exact Am.mk () trivial (AQ rfl rfl (by simp -implicitDefEqProofs [SRr]) (by simp -implicitDefEqProofs [SRr]))
 rintro _ -;refine Ap Q4 ?_;simp -implicitDefEqProofs [SRr]
def SRf (s:ByteArray) (k p:Nat):Ad:=⟨[(4,.t (iv (p:Int))),(3,.t (iv (k:Int))),(0,.t (sv s))],[],0,25⟩
def CT (l:List UInt8):Nat:=if AX l=Cu l then 0 else AX l
theorem zK (s:ByteArray) (hs:s.size<=65536) (h0:0<s.size):A1 Xa (G q) 51 [sv s] (· = iv (CT s.data.toList:Int)):=by
 have hlen:s.data.toList.length=s.size:=rfl
 obtain⟨l,hl⟩:∃l,l=s.data.toList:=⟨_,rfl⟩
 rw[<-hl]at hlen ⊢
 obtain⟨c0,hc0⟩:∃c,l[0]?=some c:=⟨_,Xc (by omega)⟩
 have ix0:=DM s 0 c0 (by rw[<-hl];exact hc0);simp only[Xe]at ix0
 obtain⟨n,hn⟩:∃n,n=AX l:=⟨_,rfl⟩
 obtain⟨k,hk⟩:∃k,k=Cu l:=⟨_,rfl⟩
 have hnl:n<=s.size:=by rw[hn,<-hlen];exact MA _
 have hkn:k<=n:=by rw[hn,hk];unfold AX;omega
 have hr:CT l=if n=k then 0 else n:=by rw[CT,hn,hk]
 have e45:((c0.toNat:Int)==45)=(c0==45):=by
  by_cases h:c0=45
  .subst h;rfl
  .have:¬c0.toNat=45:=λe=>h (Xn.1 e);rw[beq_eq_false_iff_ne.2 h,zu];omega
 have hk':k=if c0==45 then 1 else 0:=by
  rw[hk];unfold Cu
  cases l with
  | nil=>cases hc0
  | cons x t=>
   have:x=c0:=by simpa using hc0
   rw[this];cases h:(c0==45)<;>simp[h]
 refine uS.call rfl ?_;(conv in aH=>cbv);refine Av EH ?_;simp -implicitDefEqProofs;refine Av EH ?_;simp -implicitDefEqProofs;refine BF (α:=Unit) (λ_=>(⟨[(3,.t (iv (k:Int))),(0,.t (sv s))],[],0,25⟩:Ad)) (λ_=>True) (λ_=>rfl) ?_ ?_
 .refine Ap EH ?_
  cases h45:(c0==45)with
  | true=>
   rw[h45]at hk';have hk1:k=1:=hk';subst hk1;simp -implicitDefEqProofs [ix0,e45,h45];exact Am.mk () trivial (AQ rfl rfl (by simp -implicitDefEqProofs) (by simp -implicitDefEqProofs))
  | false=>
   rw[h45]at hk';have hk1:k=0:=hk';subst hk1;simp -implicitDefEqProofs [ix0,e45,h45];exact Am.mk () trivial (AQ rfl rfl (by simp -implicitDefEqProofs) (by simp -implicitDefEqProofs))
 rintro _ -;refine Av EH ?_;simp -implicitDefEqProofs;refine BF (α:=Unit) (λ_=>SRf s k n) (λ_=>True) (λ_=>rfl) ?_ ?_
 .refine BD ?_;refine D5 (SRf s k) (λp=>n-p) (InR k (n-k)) k (λ_=>rfl) ⟨Xf _,by omega⟩ ?_ rfl ?_
  .refine AQ rfl rfl ?_ ?_<;>simp -implicitDefEqProofs [SRf]
  .rintro p ⟨hp1,hp2⟩;refine Ap EH ?_;by_cases hlt:p<s.size
   .obtain⟨c,hc⟩:∃c,l[p]?=some c:=⟨_,Xc (by omega)⟩
    have ix:=DM s p c (by rw[<-hl];exact hc)
    obtain⟨p1,hp1'⟩:∃p1,p1=p+1:=⟨_,rfl⟩
    have e1:Xb.wrap ((p:Int)+1)=(p1:Int):=by rw[hp1'];exact AP (by omega) (by omega)
    have hc':(l.drop k)[p-k]?=some c:=by rw[List.getElem?_drop,show k+(p-k)=p by omega];exact hc
    have hnk:n-k=((l.drop k).takeWhile AR).length:=by rw[hn,hk];unfold AX;omega
    have qd:=Ll AR c;by_cases hpn:p<n
    .have hd:AR c=true:=Ou (by rw[<-hnk];omega) hc';rw[hd]at qd;simp -implicitDefEqProofs [SRf,hlt,ix,tbc,qd,e1];exact Am.mk p1 ⟨⟨by omega,by omega⟩,by omega⟩ (AQ rfl rfl (by simp -implicitDefEqProofs [SRf]) (by simp -implicitDefEqProofs [SRf]))
    .have hpz:p=n:=by omega
     have hd:AR c=false:=Ov (by rw[<-hnk,show n-k=p-k by omega];exact hc');rw[hd]at qd;subst hpz;simp -implicitDefEqProofs [SRf,hlt,ix,tbc,qd];exact Am.mk () trivial (AQ rfl rfl (by simp -implicitDefEqProofs [SRf]) (by simp -implicitDefEqProofs [SRf]))
   .have hpz:p=n:=by omega
    subst hpz;simp -implicitDefEqProofs [SRf,hlt];exact Am.mk () trivial (AQ rfl rfl (by simp -implicitDefEqProofs [SRf]) (by simp -implicitDefEqProofs [SRf]))
 rintro _ -;refine Ap EH ?_;by_cases hnk:n=k
 .have hb:((n:Int)==(k:Int))=true:=by rw[hnk];simp
  rw[zy hnk]at hr;simp -implicitDefEqProofs [SRf,hb,hr]
 .have hb:((n:Int)==(k:Int))=false:=by rw[zu];omega
  rw[zz hnk]at hr;simp -implicitDefEqProofs [SRf,hb,hr]
def Lz (l:List UInt8):T:=if(A9 (l.drop 1)).2=0 then .tu [iv ((A9 (l.drop 1)).1+2:Nat),iv 0]else .tu [iv 0,iv (A9 (l.drop 1)).2]
def SRq (s:ByteArray) (p:Nat):Ad:=⟨[(4,.t (iv (p:Int))),(0,.t (sv s))],[],0,27⟩
theorem zL (s:ByteArray) (hs:s.size<=65536) (h0:0<s.size):A1 Xa (G q) 53 [sv s] (· = Lz s.data.toList):=by
 have hlen:s.data.toList.length=s.size:=rfl
 obtain⟨l,hl⟩:∃l,l=s.data.toList:=⟨_,rfl⟩
 rw[<-hl]at hlen ⊢;obtain⟨hq1,hq2,hq3⟩:=ME (l.drop 1);rw[Xg]at hq1 hq2
 have hT:Lz l=if(A9 (l.drop 1)).2=0 then .tu [iv ((A9 (l.drop 1)).1+2:Nat),iv 0]else .tu [iv 0,iv (A9 (l.drop 1)).2]:=rfl
 obtain⟨n,hn⟩:∃n,n=(A9 (l.drop 1)).1:=⟨_,rfl⟩
 obtain⟨e,he⟩:∃e,e=(A9 (l.drop 1)).2:=⟨_,rfl⟩
 rw[<-hn,<-he]at hT;rw[<-hn,<-he]at hq2;rw[<-hn]at hq1;refine uT.call rfl ?_;(conv in aI=>cbv);refine Av Ac ?_;simp -implicitDefEqProofs;refine BF (α:=Unit) (λ_=>SRq s s.size) (λ_=>e=9) (λ_=>rfl) ?_ ?_
 .refine Av Ac ?_;simp -implicitDefEqProofs;refine BD ?_;refine D5 (SRq s) (λp=>s.size-p) (OkQ l (1+n) e 1) 1 (λ_=>rfl) ⟨Xf _,by omega,by rw[<-hn],by rw[<-he]⟩ ?_ rfl ?_
  .refine AQ rfl rfl ?_ ?_<;>simp -implicitDefEqProofs [SRq]
  .rintro p ⟨hp0,hp,hp1,hp2⟩;refine Ap Ac ?_;by_cases hlt:p<s.size
   .obtain⟨c,hc⟩:∃c,l[p]?=some c:=⟨_,Xc (by omega)⟩
    have ix:=DM s p c (by rw[<-hl];exact hc)
    have hdrop:l.drop p=c::l.drop (p+1):=by
     have:=Xo (l:=l) (i:=p) (by omega);rw[this,(Xp.1 hc).2]
    rw[hdrop,A9]at hp1 hp2
    obtain⟨p1,hp1'⟩:∃p1,p1=p+1:=⟨_,rfl⟩
    rw[<-hp1']at hp1 hp2
    have e1:Xb.wrap ((p:Int)+1)=(p1:Int):=by rw[hp1'];exact AP (by omega) (by omega)
    have b34:((c.toNat:Int)==34)=decide (c.toNat=34):=by
     by_cases h:c.toNat=34
     .rw[h];rfl
     .rw[zx h,zu];omega
    by_cases h34:c.toNat=34
    .rw[zy h34]at hp1 hp2;rw[zw h34]at b34
     have hpz:p=1+n:=by simpa using hp1
     have he0:e=0:=by simpa using hp2.symm
     rw[zy he0,show n+2=p1 by omega]at hT;simp -implicitDefEqProofs [SRq,hlt,ix,b34,e1,hT]
    .rw[zz h34]at hp1 hp2;rw[zx h34]at b34;have hk:=Tl c
     have bad:prt c=false->Lz l = .tu [iv 0,iv 8]:=by
      intro h;rw[h]at hp1 hp2;simp at hp1 hp2;rw[hT,zz (by omega),<-hp2]
     cases t1:decide ((c.toNat:Int)<32)with
     | true=>rw[t1]at hk;simp -implicitDefEqProofs [SRq,hlt,ix,b34,t1,bad hk]
     | false=>
      cases t2:decide (126<(c.toNat:Int))with
      | true=>rw[t1,t2]at hk;simp -implicitDefEqProofs [SRq,hlt,ix,b34,t1,t2,bad hk]
      | false=>
       rw[t1,t2]at hk;rw[hk]at hp1 hp2;simp only[Xh,Bool.not_false,if_true]at hp1 hp2;simp -implicitDefEqProofs [SRq,hlt,ix,b34,t1,t2,e1];exact Am.mk p1 ⟨⟨by omega,by omega,by omega,hp2⟩,by omega⟩ (AQ rfl rfl (by simp -implicitDefEqProofs [SRq]) (by simp -implicitDefEqProofs [SRq]))
   .have hd0:l.drop p=[]:=Xq (by omega);rw[hd0,A9]at hp1 hp2
    have h2:e=9:=by simpa using hp2.symm
    have hps:p=s.size:=by omega
    subst hps;simp -implicitDefEqProofs [SRq];exact Am.mk () h2 (AQ rfl rfl (by simp -implicitDefEqProofs [SRq]) (by simp -implicitDefEqProofs [SRq]))
 rintro _ h9
 have hT9:Lz l = .tu [iv 0,iv 9]:=by rw[hT,h9,zz (by omega)]
 refine Ap Ac ?_;simp -implicitDefEqProofs [SRq,hT9]
theorem cP (l:List UInt8) (x y:UInt8):Lib.hasPrefix l [x,y]=(decide (1<l.length)&&(l.take 2==[x,y])):=by
 cases l with
 | nil=>rfl
 | cons a l=>
  cases l with
  | nil=>simp[Lib.hasPrefix,Xi]
  | cons b l=>
   have:decide (1<(a::b::l).length)=true:=by simp
   rw[this,Bool.true_and]
   show(x==a&&(y==b&&true))=(a==x&&(b==y&&true))
   have cm:∀u v:UInt8,(u==v)=(v==u):=by
    intro u v;by_cases h:u=v
    .subst h;rfl
    .rw[beq_eq_false_iff_ne.2 h,beq_eq_false_iff_ne.2 (Ne.symm h)]
   rw[cm x a,cm y b]
def zM (c:UInt8) (l:List UInt8):Prop:=A8 l=if E1.contains c then(1,0)else(0,8)
theorem zN (s:ByteArray) (hs:s.size<=65536) (h0:0<s.size):A1 Xa (G q) 54 [sv s] (· = iv ((A8 s.data.toList).1:Int)):=by
 have hlen:s.data.toList.length=s.size:=rfl
 obtain⟨l,hl⟩:∃l,l=s.data.toList:=⟨_,rfl⟩
 rw[<-hl]at hlen ⊢
 obtain⟨c,hc⟩:∃c,l[0]?=some c:=⟨_,Xc (by omega)⟩
 have ix:=DM s 0 c (by rw[<-hl];exact hc);simp only[Xe]at ix
 have hh:l.head?=some c:=by rw[List.head?_eq_getElem?];exact hc
 have p1:=cP l 60 33;have p2:=cP l 33 62
 have hS:A8 l=if Lib.hasPrefix l [60,33]||Lib.hasPrefix l [33,62]then(2,0)else if E1.contains c then(1,0)else(0,8):=by
  unfold A8;rw[hh];rfl
 rw[p1,p2]at hS;refine uU.call rfl ?_;(conv in aJ=>cbv);refine Av Ac ?_;simp -implicitDefEqProofs;refine BF (α:=Unit) (λ_=>(⟨[(0,.t (sv s))],[],0,37⟩:Ad)) (λ_=>zM c l) (λ_=>rfl) ?_ ?_
 .refine Ap Ac ?_;by_cases h1:1<s.size
  .have h1':(1:Int)<(s.size:Int):=by omega
   rw[zw (by omega:1<l.length)]at hS;have hsl:=cO s 2 (by omega)
   have hx:(s.extract 0 2).toList=l.take 2:=by rw[stl,Lib.extract_data,<-hl];rfl
   have hsl':DK (.t (sv s)) none (some (.t (.v (.int .i64 2))))=some (.t (sv (s.extract 0 2))):=hsl
   cases b1:(l.take 2==[60,33])with
   | true=>
    rw[b1]at hS
    have hS2:A8 l=(2,0):=by rw[hS];rfl
    simp -implicitDefEqProofs [h1',hsl',hx,DN,b1,hS2]
   | false=>
    cases b2:(l.take 2==[33,62])with
    | true=>
     rw[b1,b2]at hS
     have hS2:A8 l=(2,0):=by rw[hS];rfl
     simp -implicitDefEqProofs [h1',hsl',hx,DN,b1,b2,hS2]
    | false=>
     rw[b1,b2]at hS;simp -implicitDefEqProofs [h1',hsl',hx,DN,b1,b2];exact Am.mk () (by show A8 l=_;rw[hS];rfl) (AQ rfl rfl (by simp -implicitDefEqProofs) (by simp -implicitDefEqProofs))
  .have h1':¬(1:Int)<(s.size:Int):=by omega
   rw[zx (by omega:¬1<l.length)]at hS;simp -implicitDefEqProofs [h1'];exact Am.mk () (by show A8 l=_;rw[hS];rfl) (AQ rfl rfl (by simp -implicitDefEqProofs) (by simp -implicitDefEqProofs))
 rintro _ hok;have hok:A8 l=if E1.contains c then(1,0)else(0,8):=hok
 have yes:∀n:Nat,E1.contains (Xr n)=true->c.toNat=n->(A8 l).1=1:=by
  intro n h e
  have:c=Xr n:=by rw[<-e];simp
  rw[hok,this,h];rfl
 refine Ap Ac ?_;by_cases h40:c.toNat=40
 .have b:((c.toNat:Int)==40)=true:=by rw[h40];rfl
  have hy:(A8 l).1=1:=yes 40 (by decide) h40;simp -implicitDefEqProofs [ix,b,hy]
 have f40:((c.toNat:Int)==40)=false:=by rw[zu];omega
 by_cases h41:c.toNat=41
 .have b:((c.toNat:Int)==41)=true:=by rw[h41];rfl
  have hy:(A8 l).1=1:=yes 41 (by decide) h41;simp -implicitDefEqProofs [ix,f40,b,hy]
 have f41:((c.toNat:Int)==41)=false:=by rw[zu];omega
 by_cases h91:c.toNat=91
 .have b:((c.toNat:Int)==91)=true:=by rw[h91];rfl
  have hy:(A8 l).1=1:=yes 91 (by decide) h91;simp -implicitDefEqProofs [ix,f40,f41,b,hy]
 have f91:((c.toNat:Int)==91)=false:=by rw[zu];omega
 by_cases h93:c.toNat=93
 .have b:((c.toNat:Int)==93)=true:=by rw[h93];rfl
  have hy:(A8 l).1=1:=yes 93 (by decide) h93;simp -implicitDefEqProofs [ix,f40,f41,f91,b,hy]
 have f93:((c.toNat:Int)==93)=false:=by rw[zu];omega
 by_cases h60:c.toNat=60
 .have b:((c.toNat:Int)==60)=true:=by rw[h60];rfl
  have hy:(A8 l).1=1:=yes 60 (by decide) h60;simp -implicitDefEqProofs [ix,f40,f41,f91,f93,b,hy]
 have f60:((c.toNat:Int)==60)=false:=by rw[zu];omega
 by_cases h62:c.toNat=62
 .have b:((c.toNat:Int)==62)=true:=by rw[h62];rfl
  have hy:(A8 l).1=1:=yes 62 (by decide) h62;simp -implicitDefEqProofs [ix,f40,f41,f91,f93,f60,b,hy]
 have f62:((c.toNat:Int)==62)=false:=by rw[zu];omega
 by_cases h123:c.toNat=123
 .have b:((c.toNat:Int)==123)=true:=by rw[h123];rfl
  have hy:(A8 l).1=1:=yes 123 (by decide) h123;simp -implicitDefEqProofs [ix,f40,f41,f91,f93,f60,f62,b,hy]
 have f123:((c.toNat:Int)==123)=false:=by rw[zu];omega
 by_cases h125:c.toNat=125
 .have b:((c.toNat:Int)==125)=true:=by rw[h125];rfl
  have hy:(A8 l).1=1:=yes 125 (by decide) h125;simp -implicitDefEqProofs [ix,f40,f41,f91,f93,f60,f62,f123,b,hy]
 have f125:((c.toNat:Int)==125)=false:=by rw[zu];omega
 by_cases h44:c.toNat=44
 .have b:((c.toNat:Int)==44)=true:=by rw[h44];rfl
  have hy:(A8 l).1=1:=yes 44 (by decide) h44;simp -implicitDefEqProofs [ix,f40,f41,f91,f93,f60,f62,f123,f125,b,hy]
 have f44:((c.toNat:Int)==44)=false:=by rw[zu];omega
 by_cases h46:c.toNat=46
 .have b:((c.toNat:Int)==46)=true:=by rw[h46];rfl
  have hy:(A8 l).1=1:=yes 46 (by decide) h46;simp -implicitDefEqProofs [ix,f40,f41,f91,f93,f60,f62,f123,f125,f44,b,hy]
 have f46:((c.toNat:Int)==46)=false:=by rw[zu];omega
 by_cases h59:c.toNat=59
 .have b:((c.toNat:Int)==59)=true:=by rw[h59];rfl
  have hy:(A8 l).1=1:=yes 59 (by decide) h59;simp -implicitDefEqProofs [ix,f40,f41,f91,f93,f60,f62,f123,f125,f44,f46,b,hy]
 have f59:((c.toNat:Int)==59)=false:=by rw[zu];omega
 by_cases h58:c.toNat=58
 .have b:((c.toNat:Int)==58)=true:=by rw[h58];rfl
  have hy:(A8 l).1=1:=yes 58 (by decide) h58;simp -implicitDefEqProofs [ix,f40,f41,f91,f93,f60,f62,f123,f125,f44,f46,f59,b,hy]
 have f58:((c.toNat:Int)==58)=false:=by rw[zu];omega
 by_cases h61:c.toNat=61
 .have b:((c.toNat:Int)==61)=true:=by rw[h61];rfl
  have hy:(A8 l).1=1:=yes 61 (by decide) h61;simp -implicitDefEqProofs [ix,f40,f41,f91,f93,f60,f62,f123,f125,f44,f46,f59,f58,b,hy]
 have f61:((c.toNat:Int)==61)=false:=by rw[zu];omega
 by_cases h38:c.toNat=38
 .have b:((c.toNat:Int)==38)=true:=by rw[h38];rfl
  have hy:(A8 l).1=1:=yes 38 (by decide) h38;simp -implicitDefEqProofs [ix,f40,f41,f91,f93,f60,f62,f123,f125,f44,f46,f59,f58,f61,b,hy]
 have f38:((c.toNat:Int)==38)=false:=by rw[zu];omega
 by_cases h124:c.toNat=124
 .have b:((c.toNat:Int)==124)=true:=by rw[h124];rfl
  have hy:(A8 l).1=1:=yes 124 (by decide) h124;simp -implicitDefEqProofs [ix,f40,f41,f91,f93,f60,f62,f123,f125,f44,f46,f59,f58,f61,f38,b,hy]
 have f124:((c.toNat:Int)==124)=false:=by rw[zu];omega
 by_cases h47:c.toNat=47
 .have b:((c.toNat:Int)==47)=true:=by rw[h47];rfl
  have hy:(A8 l).1=1:=yes 47 (by decide) h47;simp -implicitDefEqProofs [ix,f40,f41,f91,f93,f60,f62,f123,f125,f44,f46,f59,f58,f61,f38,f124,b,hy]
 have f47:((c.toNat:Int)==47)=false:=by rw[zu];omega
 by_cases h35:c.toNat=35
 .have b:((c.toNat:Int)==35)=true:=by rw[h35];rfl
  have hy:(A8 l).1=1:=yes 35 (by decide) h35;simp -implicitDefEqProofs [ix,f40,f41,f91,f93,f60,f62,f123,f125,f44,f46,f59,f58,f61,f38,f124,f47,b,hy]
 have f35:((c.toNat:Int)==35)=false:=by rw[zu];omega
 by_cases h64:c.toNat=64
 .have b:((c.toNat:Int)==64)=true:=by rw[h64];rfl
  have hy:(A8 l).1=1:=yes 64 (by decide) h64;simp -implicitDefEqProofs [ix,f40,f41,f91,f93,f60,f62,f123,f125,f44,f46,f59,f58,f61,f38,f124,f47,f35,b,hy]
 have f64:((c.toNat:Int)==64)=false:=by rw[zu];omega
 have hno:E1.contains c=false:=by
  cases h:E1.contains c with
  | false=>rfl
  | true=>
   exfalso
   have hm:c∈E1:=by simpa using h
   simp only[E1,List.mem_cons,List.not_mem_nil,or_false]at hm;rcases hm with rfl | rfl | rfl | rfl | rfl | rfl | rfl | rfl | rfl | rfl | rfl | rfl | rfl | rfl | rfl | rfl | rfl | rfl<;>simp at *
 have hy:(A8 l).1=0:=by rw[hok,hno];rfl
 simp -implicitDefEqProofs [ix,f40,f41,f91,f93,f60,f62,f123,f125,f44,f46,f59,f58,f61,f38,f124,f47,f35,f64,hy]
abbrev Fk (k:Int) (t:List UInt8) (n:Nat) (e:Int):T:=.tu [.ag (tkc k t 0),iv (n:Int),iv e]
def MP (l:List UInt8):T:=
 match l with
 | []=>Fk 0 [] 0 8
 | c::_=>
  if B7 c||Bq c then(if 32<AB (Bq c) l then Fk 0 [] 0 7 else Fk (if Bq c then 2 else 1) (l.take (AB (Bq c) l)) (AB (Bq c) l) 0)
  else if 0<CT l then Fk 4 (l.take (CT l)) (CT l) (Eo (l.take (CT l))).2
  else if c.toNat=34 then(if(A9 (l.drop 1)).2=0 then Fk 3 ((l.drop 1).take (A9 (l.drop 1)).1) ((A9 (l.drop 1)).1+2) 0 else Fk 0 [] 0 (A9 (l.drop 1)).2)
  else if 0<(A8 l).1 then Fk 5 (l.take (A8 l).1) (A8 l).1 0 else Fk 0 [] 0 8
theorem zO {c:UInt8} {r l:List UInt8} (h:c::r=l):Ax l =
 if B7 c then⟨1,l.take (AB false l),if 32<AB false l then 7 else 0,AB false l⟩
 else if Bq c then⟨2,l.take (AB true l),if 32<AB true l then 7 else 0,AB true l⟩
 else if AR c||decide (c.toNat=45)then⟨4,l.take (AX l),D0 (l.take (AX l)),AX l⟩
 else if c.toNat=34 then⟨3,(l.drop 1).take (A9 (l.drop 1)).1,(A9 (l.drop 1)).2,1+(A9 (l.drop 1)).1+(if(A9 (l.drop 1)).2=0 then 1 else 0)⟩
 else⟨5,l.take (A8 l).1,(A8 l).2,(A8 l).1⟩:=by subst h;rfl
theorem cQ {c:UInt8} {r l:List UInt8} (h:c::r=l):MP l =
 if B7 c||Bq c then(if 32<AB (Bq c) l then Fk 0 [] 0 7 else Fk (if Bq c then 2 else 1) (l.take (AB (Bq c) l)) (AB (Bq c) l) 0)
 else if 0<CT l then Fk 4 (l.take (CT l)) (CT l) (Eo (l.take (CT l))).2
 else if c.toNat=34 then(if(A9 (l.drop 1)).2=0 then Fk 3 ((l.drop 1).take (A9 (l.drop 1)).1) ((A9 (l.drop 1)).1+2) 0 else Fk 0 [] 0 (A9 (l.drop 1)).2)
 else if 0<(A8 l).1 then Fk 5 (l.take (A8 l).1) (A8 l).1 0 else Fk 0 [] 0 8:=by subst h;rfl
theorem zP (l:List UInt8) (h0:l.isEmpty=false):if(Ax l).e=0 then MP l=Fk (Ax l).k (Ax l).t (Ax l).n 0 else ∃k t n,MP l=Fk k t n (Ax l).e:=by
 cases l with
 | nil=>cases h0
 | cons c r=>
  generalize hl:c::r=l;have hN:=zO hl;have hR:=cQ hl;by_cases t1:B7 c=true
  .rw[zy t1]at hN;rw[t1,Rr t1]at hR;simp only[Xj,if_true,Xd,if_false]at hR;rw[hN,hR];by_cases h:32<AB false l
   .simp only[zy h];exact⟨0,[],0,rfl⟩
   .simp[zz h]
  .rw[zz t1]at hN
   have t1':B7 c=false:=by simpa using t1
   by_cases t2:Bq c=true
   .rw[zy t2]at hN;rw[t2]at hR;simp only[Xk,if_true]at hR;rw[hN,hR];by_cases h:32<AB true l
    .simp only[zy h];exact⟨0,[],0,rfl⟩
    .simp[zz h]
   .rw[zz t2]at hN
    have t2':Bq c=false:=by simpa using t2
    rw[t1',t2']at hR;simp only[Xh,Xd,if_false]at hR;have hfig:AX l=Cu l+((l.drop (Cu l)).takeWhile AR).length:=rfl
    have hmin:Cu l=if c==45 then 1 else 0:=by
     rw[<-hl];unfold Cu;cases h:(c==45)<;>simp[h]
    by_cases t3:(AR c||decide (c.toNat=45))=true
    .rw[zy t3]at hN;by_cases h1:AX l=Cu l
     .
      have hr:CT l=0:=by rw[CT,zy h1]
      have hc:c=45:=by
       by_cases h45:c=45
       .exact h45
       .exfalso
        have hd:AR c=true:=by
         rcases Xs.1 t3 with h | h
         .exact h
         .exact absurd (Xn.1 (by have:=of_decide_eq_true h;show c.toNat=45;omega)) h45
        have:(c==45)=false:=by simpa using h45
        rw[this]at hmin;have hm0:Cu l=0:=hmin;rw[hm0]at hfig h1;rw[Xl,<-hl,Xt,zy hd]at hfig;rw[<-hl]at h1;simp at hfig;omega
      have hm1:Cu l=1:=by rw[hmin,hc];rfl
      have hf1:AX l=1:=by rw[h1,hm1]
      have htk:l.take (AX l)=[45]:=by rw[hf1,<-hl,hc];rfl
      have he:D0 (l.take (AX l))=8:=by rw[htk];rfl
      rw[hr]at hR
      have h34:¬c.toNat=34:=by rw[hc];decide
      have hsy:(A8 l).1=0:=by
       rw[<-hl,hc]
       have a1:Lib.hasPrefix (45::r) [60,33]=false:=by simp[Lib.hasPrefix,Xi]
       have a2:Lib.hasPrefix (45::r) [33,62]=false:=by simp[Lib.hasPrefix,Xi]
       unfold A8;rw[a1,a2];rfl
      rw[zz (by omega),zz h34,hsy,zz (by omega)]at hR;rw[hN];simp only[he];exact⟨0,[],0,hR⟩
     .have hr:CT l=AX l:=by rw[CT,zz h1]
      have hpos:0<AX l:=by omega
      have hne:l.take (AX l)≠[45]:=by
       intro e;have hlen:=congrArg List.length e;rw[List.length_take]at hlen;have:=MA l
       have hf1:AX l=1:=by simp at hlen;omega
       have hc:c=45:=by
        rw[hf1,<-hl]at e;injection e
       rw[hc]at hmin;have:Cu l=1:=hmin;omega
      have he:D0 (l.take (AX l))=(Eo (l.take (AX l))).2:=by rw[D0,zz hne]
      rw[hr,zy hpos]at hR;rw[hN,hR];simp only[he];split
      .rename_i h;rw[h]
      .exact⟨_,_,_,rfl⟩
    .rw[zz t3]at hN
     have t3':(AR c||decide (c.toNat=45))=false:=by simpa using t3
     have hd:AR c=false:=(Xu.1 t3').1;have h45:¬c.toNat=45:=of_decide_eq_false (Xu.1 t3').2
     have hc45:(c==45)=false:=by
      rw[zu];intro e;rw[e]at h45;exact h45 rfl
     rw[hc45]at hmin;have hm0:Cu l=0:=hmin
     have hf0:AX l=0:=by
      rw[hfig,hm0,Xl,<-hl,Xt,zz (by rw[hd];simp)];rfl
     have hr:CT l=0:=by rw[CT,zy (by rw[hf0,hm0])]
     rw[hr,zz (by omega)]at hR;by_cases t4:c.toNat=34
     .rw[zy t4]at hN hR;rw[hN,hR];by_cases h:(A9 (l.drop 1)).2=0
      .simp only[zy h];rw[show 1+(A9 (l.drop 1)).1+1=(A9 (l.drop 1)).1+2 by omega]
      .simp only[zz h];exact⟨0,[],0,rfl⟩
     .rw[zz t4]at hN hR;rw[hN,hR];simp only
      have hsym:((A8 l).2=0/\0<(A8 l).1)\/((A8 l).2=8/\(A8 l).1=0):=by
       unfold A8;split
       .left;simp
       .split
        .left;simp
        .right;simp
      rcases hsym with⟨h1,h2⟩ | ⟨h1,h2⟩
      .rw[zy h1,zy h2]
      .rw[zz (by omega),zz (by omega),h1];exact⟨0,[],0,rfl⟩
noncomputable def QM:List T->Option T:=g2 BU Qn λs b=>if s.size<=65536 then some (iv (AB b s.data.toList:Int))else none
theorem zQ:GOK Xa (G q) 50 QM:=Do λa b s c r ha hb hr=>by
 have e1:a=sv s:=ha;have e2:b=bv c:=hb;subst e1;subst e2;split at hr
 .rename_i h;injection hr with hr;subst hr;exact zJ s c h
 .cases hr
noncomputable def OM:List T->Option T:=g1 BU λs=>if s.size<=65536/\0<s.size then some (iv (CT s.data.toList:Int))else none
theorem zR:GOK Xa (G q) 51 OM:=D6 λa s r ha hr=>by
 have e1:a=sv s:=ha;subst e1;split at hr
 .rename_i h;injection hr with hr;subst hr;exact zK s h.1 h.2
 .cases hr
noncomputable def QN:List T->Option T:=g1 BU λs=>if s.size<=65536/\0<s.size then some (Lz s.data.toList)else none
theorem zS:GOK Xa (G q) 53 QN:=D6 λa s r ha hr=>by
 have e1:a=sv s:=ha;subst e1;split at hr
 .rename_i h;injection hr with hr;subst hr;exact zL s h.1 h.2
 .cases hr
noncomputable def ON:List T->Option T:=g1 BU λs=>if s.size<=65536/\0<s.size then some (iv ((A8 s.data.toList).1:Int))else none
theorem zT:GOK Xa (G q) 54 ON:=D6 λa s r ha hr=>by
 have e1:a=sv s:=ha;subst e1;split at hr
 .rename_i h;injection hr with hr;subst hr;exact zN s h.1 h.2
 .cases hr
noncomputable def QO:List T->Option T:=g1 BU λs=>if s.size<=281474976710656 then some (D9 s.data.toList)else none
theorem zU:GOK Xa (G q) 52 QO:=D6 λa s r ha hr=>by
 have e1:a=sv s:=ha;subst e1;split at hr
 .rename_i h;injection hr with hr;subst hr;exact wU s h
 .cases hr
noncomputable def HV:Tbl:=[(48,JN B7),(49,JN Bq),(50,QM),(51,OM),(53,QN),(54,ON),(52,QO)]
theorem zV:Ctx Xa (G q) (orc HV):=(As.cons (M9 bG) (.cons (M9 bF) (.cons zQ (.cons zR (.cons zS (.cons zT (.cons zU .nil))))))).ctx mixed
theorem QP {Φ:A7} {H:Ab} {nx:Nat} (k:Int) (t:ByteArray):Ai Φ H nx (.build [(0,1),(1,1),(2,1)] [.int .i64 0,.string ⟨#[]⟩,.int .i64 0] [0,1]) [.t (iv k),.t (sv t)]=some (.t (.ag [iv k,sv t,iv 0]),H,nx):=rfl
theorem zW {Φ:A7} {H:Ab} {nx:Nat} (k:Int) (t:ByteArray):Bk Φ H nx (.build [(0,1),(1,1),(2,1)] [.int .i64 0,.string ⟨#[]⟩,.int .i64 0] [0,1]) [.t (iv k),.t (sv t)]=some (.t (.ag [iv k,sv t,iv 0])):=rfl
theorem Jd (k l:Int) (t:ByteArray) (x y z:PV) (R:Ab):AM 3 ((0,.cells 42 [x,y,z])::R) (.ptr 0 0) (.t (.ag [iv k,sv t,iv l]))=some ((0,.cells 42 [.t (iv k),.t (sv t),.t (iv l)])::R):=rfl
theorem Je (k l:Int) (t:ByteArray) (R:Ab):Aj true 3 ((0,.cells 42 [.t (iv k),.t (sv t),.t (iv l)])::R) (.ptr 0 0)=some (.t (.ag [iv k,sv t,iv l])):=rfl
theorem zX (s:ByteArray) (hs:s.size<=65536) (h0:0<s.size):A1 Xa (G q) 21 [sv s] (· = MP s.data.toList):=by
 have hlen:s.data.toList.length=s.size:=rfl
 obtain⟨l,hl⟩:∃l,l=s.data.toList:=⟨_,rfl⟩
 rw[<-hl]at hlen ⊢
 obtain⟨c,r,hcr⟩:∃c r,c::r=l:=by
  cases l with
  | nil=>simp at hlen;omega
  | cons c r=>exact⟨c,r,rfl⟩
 have ix:=DM s 0 c (by rw[<-hl,<-hcr];rfl);simp only[Xe]at ix;have hR:=cQ hcr;have q1:=Ll B7 c;have q2:=Ll Bq c
 have q3:∀b,QM [.v (.string s),bv b]=some (iv (AB b l:Int)):=by intro b;rw[QM,Dz (τ:=BU) (σ:=Qn) (x:=s) (y:=b) rfl rfl,zy hs,hl]
 have q4:OM [.v (.string s)]=some (iv (CT l:Int)):=by rw[OM,D8 (τ:=BU) (x:=s) rfl,zy ⟨hs,h0⟩,hl]
 have q5:QN [.v (.string s)]=some (Lz l):=by rw[QN,D8 (τ:=BU) (x:=s) rfl,zy ⟨hs,h0⟩,hl]
 have q6:ON [.v (.string s)]=some (iv ((A8 l).1:Int)):=by rw[ON,D8 (τ:=BU) (x:=s) rfl,zy ⟨hs,h0⟩,hl]
 have slt:∀n:Nat,n<=l.length->DK (.t (sv s)) none (some (.t (iv (n:Int))))=some (.t (sv (bs (l.take n)))):=by
  intro n hn;rw[cO s n (by omega)]
  have e3:s.extract 0 n=bs (l.take n):=by
   rw[<-En (s.extract 0 n),Lib.extract_data,<-hl];rfl
  rw[e3]
 refine uO.call rfl ?_;refine Ap zV ?_
 cases t1:B7 c with
 | true=>
  rw[t1,Rr t1]at hR;simp only[Xj,if_true,Xd,if_false]at hR;rw[t1]at q1;rw[Rr t1]at q2;have hrl:=IQ false l;have sl:=slt _ hrl;have q3':=q3 false;generalize AB false l=n at *;by_cases h:32<n
  .rw[zy h]at hR
   have h':(32:Int)<(n:Int):=by omega
   (conv in HM=>cbv);simp -implicitDefEqProofs [ix,HV,q1,q2,q3',h',-Bo,GZ,Jd,Je,hR]
  .rw[zz h]at hR
   have h':¬(32:Int)<(n:Int):=by omega
   (conv in HM=>cbv);simp -implicitDefEqProofs [ix,HV,q1,q2,q3',h',sl,-Bo,QP,Jd,Je,hR]
 | false=>
 rw[t1]at q1
 cases t2:Bq c with
 | true=>
  rw[t1,t2]at hR;simp only[Xk,if_true]at hR;rw[t2]at q2;have hrl:=IQ true l;have sl:=slt _ hrl;have q3':=q3 true;generalize AB true l=n at *;by_cases h:32<n
  .rw[zy h]at hR
   have h':(32:Int)<(n:Int):=by omega
   (conv in HM=>cbv);simp -implicitDefEqProofs [ix,HV,q1,q2,q3',h',-Bo,GZ,Jd,Je,hR]
  .rw[zz h]at hR
   have h':¬(32:Int)<(n:Int):=by omega
   (conv in HM=>cbv);simp -implicitDefEqProofs [ix,HV,q1,q2,q3',h',sl,-Bo,QP,Jd,Je,hR]
 | false=>
 rw[t2]at q2;rw[t1,t2]at hR;simp only[Xh,Xd,if_false]at hR;by_cases hf:0<CT l
 .rw[zy hf]at hR
  have hfl:CT l<=l.length:=by
   have:=MA l;unfold CT;split
   .omega
   .exact this
  have sl:=slt _ hfl
  have gn:QO [.v (.string (bs (l.take (CT l))))]=some (D9 (l.take (CT l))):=by
   rw[QO,D8 (τ:=BU) (x:=bs (l.take (CT l))) rfl,zy (by show(l.take (CT l)).toArray.size<=_;simp;omega)]
  generalize l.take (CT l)=t at *;generalize CT l=n at *
  have hf':(0:Int)<(n:Int):=by omega
  (conv in HM=>cbv);simp -implicitDefEqProofs [ix,HV,q1,q2,q4,hf,sl,gn,BC,D9,-Bo,QP,Jd,Je,hR]
 .rw[zz hf]at hR
  have hf0:CT l=0:=by omega
  rw[hf0]at q4;have q4':OM [.v (.string s)]=some (iv 0):=q4;by_cases h34:c.toNat=34
  .rw[zy h34]at hR
   have b34:((c.toNat:Int)==34)=true:=by rw[h34];rfl
   unfold Lz at q5;obtain⟨hq1,hq2,hq3⟩:=ME (l.drop 1);rw[Xg]at hq1 hq2
   obtain⟨n,hn⟩:∃n,n=(A9 (l.drop 1)).1:=⟨_,rfl⟩
   obtain⟨e,he⟩:∃e,e=(A9 (l.drop 1)).2:=⟨_,rfl⟩
   rw[<-hn,<-he]at hR q5 hq2;rw[<-hn]at hq1;by_cases h:e=0
   .rw[zy h]at hR q5
    obtain⟨m,hm⟩:∃m,m=n+2:=⟨_,rfl⟩
    obtain⟨m1,hm1⟩:∃m1,m1=n+1:=⟨_,rfl⟩
    rw[<-hm]at hR q5;have hlt:=hq2 h
    have e1:Xb.wrap ((m:Int)-1)=(m1:Int):=by rw[H9 (by omega) (by omega)];omega
    have sl:DK (.t (sv s)) (some (.t (.v (.int .i64 1)))) (some (.t (iv (m1:Int))))=some (.t (sv (bs ((l.drop 1).take n)))):=by
     have:=Ot s 1 m1 (by omega) (by omega)
     have e3:s.extract 1 m1=bs ((l.drop 1).take n):=by
      rw[<-En (s.extract 1 m1),Lib.extract_data,<-hl,hm1,Nat.add_sub_cancel]
     rw[e3]at this;exact this
    (conv in HM=>cbv);simp -implicitDefEqProofs [ix,HV,q1,q2,q4',b34,q5,BC,e1,sl,-Bo,QP,Jd,Je,hR]
   .rw[zz h]at hR q5
    have hb:(e != 0)=true:=by rw[bne_iff_ne];exact h
    (conv in HM=>cbv);simp -implicitDefEqProofs [ix,HV,q1,q2,q4',b34,q5,BC,hb,-Bo,GZ,Jd,Je,hR]
  .rw[zz h34]at hR
   have b34:((c.toNat:Int)==34)=false:=by rw[zu];omega
   have hsl:(A8 l).1<=l.length:=by
    unfold A8;split
    .rename_i h;rcases Xs.1 h with h | h
     .have:=(Xv.1 h).length_le;simpa using this
     .have:=(Xv.1 h).length_le;simpa using this
    .split
     .show 1<=l.length;omega
     .simp
   have sl:=slt _ hsl;generalize (A8 l).1=n at *;by_cases hp:0<n
   .rw[zy hp]at hR
    (conv in HM=>cbv);simp -implicitDefEqProofs [ix,HV,q1,q2,q4',b34,q6,hp,sl,-Bo,-M3,zW,Jd,Je,hR]
   .rw[zz hp]at hR
    have hn0:n=0:=by omega
    subst hn0;have q6':ON [.v (.string s)]=some (iv 0):=q6
    (conv in HM=>cbv);simp -implicitDefEqProofs [ix,HV,q1,q2,q4',b34,q6',-Bo,GZ,Jd,Je,hR]
noncomputable def QQ:List T->Option T:=g1 BU λs=>if s.size<=65536/\0<s.size then some (MP s.data.toList)else none
theorem zY:GOK Xa (G q) 21 QQ:=D6 λa s r ha hr=>by
 have e1:a=sv s:=ha;subst e1;split at hr
 .rename_i h;injection hr with hr;subst hr;exact zX s h.1 h.2
 .cases hr
noncomputable def TQ:Tbl:=[(21,QQ)]
theorem Ke:Ctx Xa (G q) (orc TQ):=(As.cons zY .nil).ctx mixed
structure RSc where
 f:Nat
 p:Nat
 ln:Nat
 cm:Bool
 out:List Tok
def SRs (s:ByteArray) (a:RSc):Ad:=⟨[(8,.t (iv (a.p:Int))),(7,.t (bv a.cm)),(6,.t (iv (a.ln:Int))),(5,rowP Aw 0 a.out),(0,.t (sv s))],A4 Aw 42 0 a.out,1,71⟩
structure TR (l:List UInt8) (R:Except (Nat×Int) (List Tok)) (a:RSc):Prop where
 le:a.p<=l.length
 fu:l.length-a.p<a.f
 ln:a.ln<=a.p+1
 ol:a.out.length<=a.p
 eq:He a.out (Ci a.f a.cm (l.drop a.p) a.ln)=R
theorem cR (k l:Int) (t:List UInt8) (x y z:PV) (R:Ab):AM 3 ((1,.cells 42 [x,y,z])::R) (.ptr 1 0) (.t (.ag (tkc k t l)))=some ((1,tkr k t l)::R):=rfl
theorem zZ (k l m:Int) (t:List UInt8) (R:Ab):AM 1 ((1,tkr k t l)::R) (.ptr 1 2) (.t (iv m))=some ((1,tkr k t m)::R):=rfl
theorem A0a (k l:Int) (t:List UInt8) (R:Ab):Aj true 3 ((1,tkr k t l)::R) (.ptr 1 0)=some (.t (.ag (tkc k t l))):=rfl
theorem A0b (k l:Int) (t:List UInt8):EE 42 3 [.int .i64 0,.string ⟨#[]⟩,.int .i64 0] 1 [(0,.t (.ag (tkc k t l)))] 2=some (.row 2 0 1 3,.cells 42 [.t (iv k),.t (sv (bs t)),.t (iv l)]):=rfl
theorem A0c (s:ByteArray) (hlim:s.size<=lim):A1 Xa (G q) 10 [sv s] (· = FC s.data.toList):=by
 refine uK.call rfl ?_;(conv in aE=>cbv)
 obtain⟨l,hl⟩:∃l,l=s.data.toList:=⟨_,rfl⟩
 have hlen:l.length=s.size:=by rw[hl];rfl
 rw[<-hl];by_cases hbig:65536<s.size
 .have hb':(65536:Int)<(s.size:Int):=by omega
  have hT:FC l = .tu [Ah,iv 0,iv 7]:=by rw[FC,zy (by omega)]
  refine Ap Ac ?_;simp -implicitDefEqProofs [hb',hT]
 have hb':¬(65536:Int)<(s.size:Int):=by omega
 have hs:s.size<=65536:=by omega
 have hT:FC l=match CZ l 1 with
  | .error x=>.tu [Ah,iv (x.1:Int),iv x.2]
  | .ok ts=>.tu [Aq Aw ts,iv 0,iv 0]:=by rw[FC,zz (by omega)]<;>cases CZ l 1<;>rfl
 obtain⟨R,hR⟩:∃R,R=CZ l 1:=⟨_,rfl⟩
 rw[<-hR]at hT;refine Av Ke ?_;simp -implicitDefEqProofs;refine Av Ke ?_;simp -implicitDefEqProofs [hb'];refine Av Ke ?_;simp -implicitDefEqProofs;refine Av Ke ?_;simp -implicitDefEqProofs;refine Av Ke ?_;simp -implicitDefEqProofs;refine BF (α:=RSc) (SRs s) (λa=>TR l R a/\a.p=s.size) (λ_=>rfl) ?_ ?_
 .refine Av Ke ?_;simp -implicitDefEqProofs;refine BD ?_;refine D5 (SRs s) (λa=>s.size-a.p) (TR l R) ⟨l.length+1,0,1,false,[]⟩ (λ_=>rfl) ⟨Nat.zero_le _,by show l.length-0<l.length+1;omega,Xf _,by simp,?_⟩ ?_ rfl ?_
  .show He [] (Ci (l.length+1) false (l.drop 0) 1)=R;rw[To,hR,Xl];rfl
  .exact rI (by omega) (by simp -implicitDefEqProofs [SRs,under,rowP])
  .rintro⟨f,p,ln,cm,out⟩ hok;have hok':=hok;obtain⟨hp,hfu,hln,hol,heq⟩:=hok;simp only at hp hfu hln hol heq;have r0:Ay Aw 42 (A4 Aw 42 0 out) 0 out:=Ay.head' Aw 42 0 out;refine Ap Ke ?_;by_cases hlt:p<s.size
   .obtain⟨c,hc⟩:∃c,l[p]?=some c:=⟨_,Xc (by omega)⟩
    have ix:=DM s p c (by rw[<-hl];exact hc)
    have hdrop:l.drop p=c::l.drop (p+1):=by
     have:=Xo (l:=l) (i:=p) (by omega);rw[this,(Xp.1 hc).2]
    obtain⟨p1,hp1⟩:∃p1,p1=p+1:=⟨_,rfl⟩
    rw[<-hp1]at hdrop
    have e1:Xb.wrap ((p:Int)+1)=(p1:Int):=by rw[hp1];exact AP (by omega) (by omega)
    have hsk:Au cm (l.drop p)=if c.toNat=10 then((Au false (l.drop p1)).1+1,(Au false (l.drop p1)).2+1)
      else if cm||decide (c.toNat=37)then((Au true (l.drop p1)).1+1,(Au true (l.drop p1)).2)
      else if c.toNat=32\/c.toNat=9\/c.toNat=13 then((Au false (l.drop p1)).1+1,(Au false (l.drop p1)).2)
      else(0,0):=by rw[hdrop,Au]
    have go:∀(ln':Nat) (cm':Bool),ln'<=ln+1->Au cm (l.drop p)=((Au cm' (l.drop p1)).1+1,(ln'-ln)+(Au cm' (l.drop p1)).2)->ln<=ln'->Ci f cm (l.drop p) ln=Ci f cm' (l.drop p1) ln':=by
     intro ln' cm' h1 h2 h3;unfold Ci;rw[h2];simp only;rw[Xm,Xm,show p+((Au cm' (l.drop p1)).1+1)=p1+(Au cm' (l.drop p1)).1 by omega,show ln+((ln'-ln)+(Au cm' (l.drop p1)).2)=ln'+(Au cm' (l.drop p1)).2 by omega]
    have nxt:∀(ln':Nat) (cm':Bool) (env:List (Nat×PV)),ln'<=ln+1->ln<=ln'->Au cm (l.drop p)=((Au cm' (l.drop p1)).1+1,(ln'-ln)+(Au cm' (l.drop p1)).2) ->
      (∀q∈(SRs s ⟨f,p1,ln',cm',out⟩).env,Aa env q.1=some q.2) ->
      Am Xa (G q) 0 (SRs s) (λa'=>TR l R a'/\s.size-a'.p<s.size-p) ⟨env,A4 Aw 42 0 out,1,71⟩:=by
     intro ln' cm' env h1 h2 h3 h4;refine Am.mk ⟨f,p1,ln',cm',out⟩ ⟨⟨by show p1<=_;omega,by show l.length-p1<f;omega,by show ln'<=p1+1;omega,by show out.length<=p1;omega,?_⟩,by show s.size-p1<s.size-p;omega⟩ (AQ rfl rfl h4 λq hq=>?_)
     .show He out (Ci f cm' (l.drop p1) ln')=R;rw[<-go ln' cm' h1 h3 h2];exact heq
     .have:q∈A4 Aw 42 0 out:=hq
      cases out with
      | nil=>cases this
      | cons y r=>
       simp only[A4,List.mem_singleton]at this;subst this;rfl
    have b10:((c.toNat:Int)==10)=decide (c.toNat=10):=by
     by_cases h:c.toNat=10
     .rw[h];rfl
     .rw[zx h,zu];omega
    have b37:((c.toNat:Int)==37)=decide (c.toNat=37):=by
     by_cases h:c.toNat=37
     .rw[h];rfl
     .rw[zx h,zu];omega
    by_cases h10:c.toNat=10
    .rw[zy h10]at hsk;rw[zw h10]at b10
     obtain⟨ln1,hln1⟩:∃ln1,ln1=ln+1:=⟨_,rfl⟩
     have e2:Xb.wrap ((ln:Int)+1)=(ln1:Int):=by rw[hln1];exact AP (by omega) (by omega)
     simp -implicitDefEqProofs [SRs,hlt,ix,b10,e1,e2];exact nxt ln1 false _ (by omega) (by omega) (by rw[hsk,hln1,Nat.add_sub_cancel_left,Nat.add_comm 1]) (by simp -implicitDefEqProofs [SRs])
    .rw[zz h10]at hsk;rw[zx h10]at b10
     have same:∀cm',Au cm (l.drop p)=((Au cm' (l.drop p1)).1+1,(Au cm' (l.drop p1)).2)->Au cm (l.drop p)=((Au cm' (l.drop p1)).1+1,(ln-ln)+(Au cm' (l.drop p1)).2):=by
      intro cm' h;rw[h,Nat.sub_self,Nat.zero_add]
     cases hcm:cm with
     | true=>
      rw[hcm]at hsk;simp only[Xj,if_true]at hsk;subst hcm;simp -implicitDefEqProofs [SRs,hlt,ix,b10,e1];exact nxt ln true _ (by omega) (by omega) (same true hsk) (by simp -implicitDefEqProofs [SRs])
     | false=>
      subst hcm;by_cases h37:c.toNat=37
      .rw[zw h37]at b37 hsk;simp only[Xk,if_true]at hsk;simp -implicitDefEqProofs [SRs,hlt,ix,b10,b37,e1];exact nxt ln true _ (by omega) (by omega) (same true hsk) (by simp -implicitDefEqProofs [SRs])
      .rw[zx h37]at b37 hsk;simp only[Bool.or_false,Xd,if_false]at hsk;by_cases h32:c.toNat=32
       .rw[zy (.inl h32)]at hsk
        have b32:((c.toNat:Int)==32)=true:=by rw[h32];rfl
        simp -implicitDefEqProofs [SRs,hlt,ix,b10,b37,b32,e1];exact nxt ln false _ (by omega) (by omega) (same false hsk) (by simp -implicitDefEqProofs [SRs])
       .have b32:((c.toNat:Int)==32)=false:=by rw[zu];omega
        by_cases h9:c.toNat=9
        .rw[zy (.inr (.inl h9))]at hsk
         have b9:((c.toNat:Int)==9)=true:=by rw[h9];rfl
         simp -implicitDefEqProofs [SRs,hlt,ix,b10,b37,b32,b9,e1];exact nxt ln false _ (by omega) (by omega) (same false hsk) (by simp -implicitDefEqProofs [SRs])
        .have b9:((c.toNat:Int)==9)=false:=by rw[zu];omega
         by_cases h13:c.toNat=13
         .rw[zy (.inr (.inr h13))]at hsk
          have b13:((c.toNat:Int)==13)=true:=by rw[h13];rfl
          simp -implicitDefEqProofs [SRs,hlt,ix,b10,b37,b32,b9,b13,e1];exact nxt ln false _ (by omega) (by omega) (same false hsk) (by simp -implicitDefEqProofs [SRs])
         .have b13:((c.toNat:Int)==13)=false:=by rw[zu];omega
          rw[zz (by omega)]at hsk
          have heq2:He out (BM f (l.drop p) ln)=R:=by
           rw[<-heq];unfold Ci;rw[hsk];rfl
          obtain⟨D,hD⟩:∃D,D=l.drop p:=⟨_,rfl⟩
          have hDl:D.length=l.length-p:=by rw[hD,Xg]
          have hDe:D.isEmpty=false:=by rw[hD,hdrop];rfl
          have hsl:=bI s p (by omega)
          have hxd:(s.extract p s.size).data.toList=D:=by
           rw[Lib.extract_data,<-hl,<-hD];exact List.take_of_length_le (by omega)
          have hxs:(s.extract p s.size).size=D.length:=by rw[<-hxd];rfl
          have gt:QQ [.v (.string (s.extract p s.size))]=some (MP D):=by
           rw[QQ,D8 (τ:=BU) (x:=s.extract p s.size) rfl,zy ⟨by omega,by omega⟩,hxd]
          have hrn:=zP D hDe;have hpos:=IR D hDe;rw[<-hD]at heq2
          obtain⟨f',rfl⟩:∃f',f=f'+1:=⟨f-1,by omega⟩
          rw[BM,hDe]at heq2;simp only[Xd,if_false]at heq2
          obtain⟨k,hk⟩:∃k,k=(Ax D).k:=⟨_,rfl⟩
          obtain⟨t,ht⟩:∃t,t=(Ax D).t:=⟨_,rfl⟩
          obtain⟨e,he⟩:∃e,e=(Ax D).e:=⟨_,rfl⟩
          obtain⟨n,hnn⟩:∃n,n=(Ax D).n:=⟨_,rfl⟩
          rw[<-he,<-hnn]at hpos;rw[<-hk,<-ht,<-he,<-hnn]at heq2 hrn;by_cases he0:e=0
          .rw[zy he0]at hrn;rw[hrn]at gt;obtain⟨hn1,hn2⟩:=hpos he0;rw[zz (by simpa using he0)]at heq2
           obtain⟨p2,hp2⟩:∃p2,p2=p+n:=⟨_,rfl⟩
           have e3:Xb.wrap ((p:Int)+(n:Int))=(p2:Int):=by rw[H9 (by omega) (by omega)];omega
           have hdd:D.drop n=l.drop p2:=by rw[hD,Xm,hp2]
           rw[hdd]at heq2;have r0':Ay Aw 42 ((2,.cells 42 [.t (iv k),.t (sv (bs t)),.t (iv (ln:Int))])::(1,tkr k t ln)::A4 Aw 42 0 out) 0 out:=(r0.cons (k:=1) (by omega)).cons (k:=2) (by omega);obtain⟨b2,H2,n2,ap2,r2,ne2,hle2,hold,hb2⟩:=M4 (e:=Aw) (ty:=42) (by':=32) (nx:=3) (m:=[⟨k,t,ln⟩]) r0' (Lf (e:=Aw) (b:=2) (ty:=42) ⟨k,t,ln⟩ rfl) (by simp;omega) (by simp;omega);have ap2':Cc 42 3 32 ((2,.cells 42 [.t (iv k),.t (sv (bs t)),.t (iv (ln:Int))])::(1,tkr k t ln)::A4 Aw 42 0 out) 3 (rowP Aw 0 out) (.row 2 0 1 3)=some (rowP Aw b2 (out++[⟨k,t,ln⟩]),H2,n2):=ap2;simp -implicitDefEqProofs [SRs,hlt,ix,b10,b37,b32,b9,b13,hsl,TQ,gt,BC,cR,zZ,A0a,A0b,ap2',e3];refine Am.mk ⟨f',p2,ln,false,out++[⟨k,t,ln⟩]⟩ ⟨⟨by show p2<=_;omega,by show l.length-p2<f';omega,by show ln<=p2+1;omega,by simp;omega,?_⟩,by show s.size-p2<s.size-p;omega⟩ ?_
           .show He (out++[⟨k,t,ln⟩]) (Ci f' false (l.drop p2) ln)=R;rw[<-heq2];unfold Ci
            cases BM f' ((l.drop p2).drop (Au false (l.drop p2)).1) (ln+(Au false (l.drop p2)).2)with
            | error x=>rfl
            | ok ts=>show Except.ok _=Except.ok _;simp
           .unfold SRs;exact XK (k:=b2) r2 (by omega) (by omega) (by simp -implicitDefEqProofs [Ek,Em,ren,under])
          .rw[zz he0]at hrn;obtain⟨k',t',n',hrn⟩:=hrn;rw[hrn]at gt
           have hRe:R = .error (ln,e):=by rw[<-heq2,zy he0];rfl
           rw[hRe]at hT;simp only at hT
           have hb:(e != 0)=true:=by rw[bne_iff_ne];exact he0
           simp -implicitDefEqProofs [SRs,hlt,ix,b10,b37,b32,b9,b13,hsl,TQ,gt,BC,cR,hb,hT]
   .have hps:p=s.size:=by omega
    subst hps;simp -implicitDefEqProofs [SRs];refine Am.mk ⟨f,s.size,ln,cm,out⟩ ⟨hok',rfl⟩ ?_;exact XK (k:=0) r0 (by omega) (by omega) (by simp -implicitDefEqProofs [Ek,Em,ren,under])
 rintro⟨f,p,ln,cm,out⟩ ⟨hok,hps⟩;obtain⟨hp,hfu,hln,hol,heq⟩:=hok;simp only at hp hfu hln hol heq hps;subst hps;have r0:Ay Aw 42 (A4 Aw 42 0 out) 0 out:=Ay.head' Aw 42 0 out;have hd0:l.drop s.size=[]:=Xq (by omega)
 have hRo:R = .ok out:=by
  rw[<-heq,hd0];show He out (BM f ([].drop (Au cm []).1) (ln+(Au cm []).2))=_
  cases f with
  | zero=>show Except.ok (out++[])=_;rw[Xw]
  | succ f=>rw[BM];show Except.ok (out++[])=_;rw[Xw]
 rw[hRo]at hT;simp only at hT;have ht:=eU r0 (iv 0) (iv 0);refine Ap Ke ?_;simp -implicitDefEqProofs [SRs,hT,-Ei,ht]
end Go.Proofs.YtobnacghaamfoaaGreatDoor
