/- Auxiliary facts. -/
import Derived.Test.YtobnacghaamfoaaGreatDoorVGQ22
import Derived.Test.YtobnacghaamfoaaGreatDoorVGQ21
set_option linter.unusedSimpArgs false
set_option maxRecDepth 100000
set_option maxHeartbeats 0
set_option linter.unusedVariables false
open Go.IntKind renaming u64->Xa,i64->Xb,wrap->Xd,bits->Xe,signed->Xf,u8->Xj
open Bool renaming false_eq_true->Xc,false_and->Xi,and_eq_true->Xk,or_true->Xp
open List renaming getElem?_eq_getElem->Xg,foldl_append->Xh,take_of_length_le->Xn,mem_of_getElem?->Xq,all_eq_true->Xr
open Int renaming natCast_zero->Xl
open UInt8 renaming toNat_inj->Xm
open Option renaming some_beq_some->Xo
namespace Go.Proofs.YtobnacghaamfoaaGreatDoor
open Go Go.Abs
variable {q : Gl}
def dOf (l:List UInt8):List UInt8:=if l.head?==some 45 then l.tail else l
theorem wO (l:List UInt8):Eo l=if(dOf l).isEmpty || !((dOf l).all AR)||((dOf l).head?==some 48&&l != [48])then(0,8)else if l.head?==some 45 then(if Bm 0 (dOf l)<=9223372036854775808 then(-(Bm 0 (dOf l):Int),0)else(0,2))else(if Bm 0 (dOf l)<9223372036854775808 then((Bm 0 (dOf l):Int),0)else(0,2)):=rfl
theorem wP (l:List UInt8) (j:Nat) (c:UInt8) (h:l[j]?=some c):Bm 0 (l.take (j+1))=Bm 0 (l.take j)*10+(c.toNat-48):=by
 rw[List.take_add_one,h];simp[Bm,Xh]
theorem wQ (l:List UInt8) (j:Nat):Bm 0 (l.take j)<=Bm 0 l:=by
 have:Bm 0 l=Bm (Bm 0 (l.take j)) (l.drop j):=by
  unfold Bm;rw[<-Xh,List.take_append_drop]
 rw[this];exact Td _ _
def SN0 (D s:ByteArray):Ad:=⟨[(4,.t (sv D)),(0,.t (sv s))],[],0,80⟩
def SN1 (D s:ByteArray) (j:Nat):Ad:=⟨[(5,.t (iv (j:Int))),(4,.t (sv D)),(0,.t (sv s))],[],0,80⟩
def SN2 (D s:ByteArray) (j:Nat):Ad:=⟨[(7,.t (iv (j:Int))),(6,.t (.v (.int .u64 (Bm 0 (D.data.toList.take j):Int)))),(4,.t (sv D)),(0,.t (sv s))],[],0,80⟩
def OkN (D:ByteArray) (j:Nat):Prop:=j<=D.size/\∀(i:Nat) c,i<j->D.data.toList[i]?=some c->AR c=true
def OkM (D:ByteArray) (j:Nat):Prop:=j<=D.size/\Bm 0 (D.data.toList.take j)<=9223372036854775808
theorem wR {n:Nat} (h:n<=9223372036854775808):Xb.wrap (Xa.wrap (0-(n:Int))) = -(n:Int):=by
 by_cases h0:n=0
 .subst h0;rfl
 .have e:Xa.wrap (0-(n:Int))=18446744073709551616-(n:Int):=by
   unfold Xd Xe Xf;simp only[Xi,Xc,if_false]
   have e1:(2:Int)^64=18446744073709551616:=by decide
   rw[e1];omega
  rw[e];unfold Xd Xe Xf;simp only[Bool.true_and,Nat.reduceSub]
  have e1:(2:Int)^64=18446744073709551616:=by decide
  have e2:(2:Int)^63=9223372036854775808:=by decide
  simp only[e1,e2,ge_iff_le,decide_eq_true_eq];split<;>omega
theorem wS {n k:Nat} (hk:k<=9):Xa.wrap (9223372036854775808-(k:Int))=9223372036854775808-(k:Int) /\
  (Xa.wrap ((9223372036854775808-(k:Int)).tdiv 10)<(n:Int) ↔ 9223372036854775808<n*10+k):=by
 have h1:Xa.wrap (9223372036854775808-(k:Int))=9223372036854775808-(k:Int):=Oe (by omega) (by omega);refine⟨h1,?_⟩;have h2:(9223372036854775808-(k:Int)).tdiv 10=(9223372036854775808-(k:Int)) / 10:=Int.tdiv_eq_ediv_of_nonneg (by omega);rw[h2,Oe (by omega) (by omega)];omega
theorem wT {c:UInt8} (h:AR c=true):Xa.wrap (Xj.wrap ((c.toNat:Int)-48))=((c.toNat-48:Nat):Int):=by
 simp only[AR,Xk,decide_eq_true_eq]at h
 have e:Xj.wrap ((c.toNat:Int)-48)=(c.toNat:Int)-48:=by
  unfold Xd Xe Xf;simp only[Xi,Xc,if_false]
  have e1:(2:Int)^8=256:=by decide
  rw[e1];omega
 rw[e,Oe (by omega) (by omega)];omega
open Go Go.Abs Go.RowKit
def IsD (d:List UInt8) (D:ByteArray):Prop:=D.data.toList=d
def Zg (c:UInt8) (l:List UInt8):Prop:=(c==48&&l != [48])=false
def Al (d:List UInt8):Prop:=d.all AR=true
def SN (s D:ByteArray):Ad:=SN0 D s
theorem wU (s:ByteArray) (hs:s.size<=281474976710656):A1 Tryz.prog (G q) 52 [sv s] (· = D9 s.data.toList):=by
 refine uJ.call rfl ?_;(conv in aD=>cbv)
 obtain⟨l,hl⟩:∃l,l=s.data.toList:=⟨_,rfl⟩
 have hlen:l.length=s.size:=by rw[hl];rfl
 rw[<-hl];have hnum:=wO l
 obtain⟨d,hd⟩:∃d,d=dOf l:=⟨_,rfl⟩
 rw[<-hd]at hnum;refine Av EH ?_;simp -implicitDefEqProofs;refine Av EH ?_;simp -implicitDefEqProofs;refine BF (α:=ByteArray) (SN s) (IsD d) (λ_=>rfl) ?_ ?_
 .refine Ap EH ?_
  cases hl2:l with
  | nil=>
   have h0:s.size=0:=by rw[<-hlen,hl2];rfl
   have h0':¬(0:Int)<(s.size:Int):=by omega
   simp -implicitDefEqProofs [h0];refine Am.mk s ?_ (AQ rfl rfl (by simp -implicitDefEqProofs [SN,SN0]) (by simp -implicitDefEqProofs [SN,SN0]));show s.data.toList=d;rw[hd,hl2,<-hl,hl2];rfl
  | cons c r=>
   have h0:0<s.size:=by rw[<-hlen,hl2];simp
   have ix:=DM s 0 c (by rw[<-hl,hl2];rfl);simp only[Xl]at ix
   have e45:((c.toNat:Int)==45)=(c==45):=by
    by_cases h:c=45
    .subst h;rfl
    .have:¬c.toNat=45:=λe=>h (Xm.1 e);rw[beq_eq_false_iff_ne.2 h,zu];omega
   cases h45:(c==45)with
   | true=>
    have hsl:DK (.t (sv s)) (some (.t (iv 1))) none=some (.t (sv (s.extract 1 s.size))):=by
     have:1<=s.size:=by omega
     simp[DK,Cj,this]
    simp -implicitDefEqProofs [h0,ix,e45,h45,hsl];refine Am.mk (s.extract 1 s.size) ?_ (AQ rfl rfl (by simp -implicitDefEqProofs [SN,SN0]) (by simp -implicitDefEqProofs [SN,SN0]))
    have h45':c=45:=by simpa using h45
    have:s.data.toList.length=s.size:=rfl;show(s.extract 1 s.size).data.toList=d;rw[Lib.extract_data,hd,<-hl,hl2,h45'];rw[<-hl,hl2]at this;simp only[List.length_cons]at this;have e1:dOf (45::r)=r:=rfl;rw[e1];show List.take (s.size-1) r=r;exact Xn (by omega)
   | false=>
    simp -implicitDefEqProofs [h0,ix,e45,h45];refine Am.mk s ?_ (AQ rfl rfl (by simp -implicitDefEqProofs [SN,SN0]) (by simp -implicitDefEqProofs [SN,SN0]));show s.data.toList=d;rw[<-hl,hl2,hd,hl2]
    have h2:(some c==some (45:UInt8))=false:=by simpa using h45
    show c::r=if(some c==some (45:UInt8))then r else c::r
    rw[h2];rfl
 intro D hD;have hDl:D.data.toList.length=D.size:=rfl;have hDd:D.data.toList=d:=hD
 have dl:d.length<=l.length:=by
  rw[hd];unfold dOf;split
  .simp
  .exact Nat.le_refl _
 have hDs:D.size=d.length:=by rw[<-hDl,hDd]
 cases hde:d with
 | nil=>
  refine Av EH ?_;rw[hde]at hnum hDd
  have e0:(D.toList==[])=true:=by rw[stl,hDd];rfl
  simp -implicitDefEqProofs [SN,SN0,DN,e0,D9,hnum]
 | cons c r=>
 have e0:(D.toList==[])=false:=by rw[stl,hDd,hde];rfl
 have ix:=DM D 0 c (by rw[hDd,hde];rfl);simp only[Xl]at ix
 have e48:((c.toNat:Int)==48)=(c==48):=by
  by_cases h:c=48
  .subst h;rfl
  .have:¬c.toNat=48:=λe=>h (Xm.1 e);rw[beq_eq_false_iff_ne.2 h,zu];omega
 have hh:d.head?=some c:=by rw[hde];rfl
 have hz:(c==48)=true->(decide (1<D.size)||decide (1<s.size))=(l != [48]):=by
  intro h48
  have hc:c=48:=by simpa using h48
  have hds:D.size=r.length+1:=by rw[hDs,hde];rfl
  cases hl2:l with
  | nil=>rw[hd,hl2]at hde;cases hde
  | cons x t=>
   have hls:s.size=t.length+1:=by rw[<-hlen,hl2];rfl
   by_cases h45:x=45
   .subst h45;rw[hd,hl2]at hde;have:t=c::r:=hde;rw[hls,this];simp
   .have h2:(some x==some (45:UInt8))=false:=by simpa using h45
    rw[hd,hl2]at hde
    have h3:dOf (x::t)=x::t:=by
     show(if(some x==some (45:UInt8))then t else x::t)=_;rw[h2];rfl
    rw[h3]at hde;injection hde with h4 h5;subst h4;subst h5;subst hc
    cases t with
    | nil=>simp[hds,hls]
    | cons y t=>simp[hds,hls]
 have bad:(c==48&&l != [48])=true->Eo l=(0,8):=by
  intro h;rw[hnum,hh];simp only[Xo,h,Xp,if_true]
 refine BF (α:=Unit) (λ_=>SN s D) (λ_=>Zg c l) (λ_=>rfl) ?_ ?_
 .refine Ap EH ?_
  cases h48:(c==48)with
  | false=>
   simp -implicitDefEqProofs [SN,SN0,DN,e0,ix,e48,h48];exact Am.mk () (by show(c==48&&l != [48])=false;rw[h48];rfl) (AQ rfl rfl (by simp -implicitDefEqProofs) (by simp -implicitDefEqProofs))
  | true=>
   have hz':=hz h48;by_cases h1:1<D.size
   .have hb:=bad (by rw[h48,<-hz',zw h1];rfl)
    have h1':(1:Int)<(D.size:Int):=by omega
    simp -implicitDefEqProofs [SN,SN0,DN,e0,ix,e48,h48,h1',D9,hb]
   .have h1':¬(1:Int)<(D.size:Int):=by omega
    by_cases h2:1<s.size
    .have hb:=bad (by rw[h48,<-hz',zw h2,Xp];rfl)
     have h2':(1:Int)<(s.size:Int):=by omega
     simp -implicitDefEqProofs [SN,SN0,DN,e0,ix,e48,h48,h1',h2',D9,hb]
    .have hb:(l != [48])=false:=by rw[<-hz',zx h1,zx h2];rfl
     have h2':¬(1:Int)<(s.size:Int):=by omega
     simp -implicitDefEqProofs [SN,SN0,DN,e0,ix,e48,h48,h1',h2'];exact Am.mk () (by show(c==48&&l != [48])=false;rw[hb];simp) (AQ rfl rfl (by simp -implicitDefEqProofs) (by simp -implicitDefEqProofs))
 rintro _ hgood;have hgood:(c==48&&l != [48])=false:=hgood
 have hnum2:(d.all AR)=false->Eo l=(0,8):=by
  intro h;rw[hnum,h];simp
 have hnum3:(d.all AR)=true->Eo l=if l.head?==some 45 then(if Bm 0 d<=9223372036854775808 then(-(Bm 0 d:Int),0)else(0,2))else(if Bm 0 d<9223372036854775808 then((Bm 0 d:Int),0)else(0,2)):=by
  intro h
  have hne:d.isEmpty=false:=by rw[hde];rfl
  rw[hnum,h,hh,hne];simp only[Xo,hgood,Bool.not_true,Bool.or_false,Xc,if_false]
 refine BF (α:=Unit) (λ_=>SN s D) (λ_=>Al d) (λ_=>rfl) ?_ ?_
 .refine Av EH ?_;simp -implicitDefEqProofs [SN,SN0];refine BD ?_;refine D5 (SN1 D s) (λj=>D.size-j) (λj=>OkN D j) 0 (λ_=>rfl) ⟨Nat.zero_le _,λi c h=>by omega⟩ ?_ rfl ?_
  .refine AQ rfl rfl ?_ ?_<;>simp -implicitDefEqProofs [SN1]
  .rintro j ⟨hj,hok⟩;refine Ap EH ?_;by_cases hlt:j<D.size
   .obtain⟨x,hx⟩:∃x,D.data.toList[j]?=some x:=⟨_,Xg hlt⟩
    have ixj:=DM D j x hx;have e1:Xb.wrap ((j:Int)+1)=((j+1:Nat):Int):=AP (by omega) (by omega);have qd:=Ll AR x
    cases hdx:AR x with
    | true=>
     simp -implicitDefEqProofs [SN1,hlt,ixj,tbc,qd,hdx,e1];refine Am.mk (j+1) ⟨⟨hlt,λi y hi hy=>?_⟩,by omega⟩ (AQ rfl rfl (by simp -implicitDefEqProofs [SN1]) (by simp -implicitDefEqProofs [SN1]));by_cases e:i=j
     .subst e;rw[hx]at hy;injection hy with hy;subst hy;exact hdx
     .exact hok i y (by omega) hy
    | false=>
     have hb:=hnum2 (by
      rw[List.all_eq_false]
      exact⟨x,by rw[<-hDd];exact Xq hx,by rw[hdx];simp⟩)
     simp -implicitDefEqProofs [SN1,hlt,ixj,tbc,qd,hdx,D9,hb]
   .have e:j=D.size:=by omega
    subst e;simp -implicitDefEqProofs [SN1];refine Am.mk () ?_ (AQ rfl rfl (by simp -implicitDefEqProofs [SN,SN0]) (by simp -implicitDefEqProofs [SN,SN0]));show d.all AR=true;rw[Xr,<-hDd];intro x hx;obtain⟨i,hi,e⟩:=List.getElem_of_mem hx;exact hok i x (by omega) (by rw[Xg hi,e])
 rintro _ hall;have hall:d.all AR=true:=hall;have hn:=hnum3 hall;have hall':∀x∈d,AR x=true:=Xr.1 hall;refine Av EH ?_;simp -implicitDefEqProofs [SN,SN0];refine BF (α:=Unit) (λ_=>SN2 D s D.size) (λ_=>OkM D D.size) (λ_=>rfl) ?_ ?_
 .refine Av EH ?_;simp -implicitDefEqProofs;refine BD ?_;refine D5 (SN2 D s) (λj=>D.size-j) (λj=>OkM D j) 0 (λ_=>rfl) ⟨Nat.zero_le _,by simp[Bm]⟩ ?_ rfl ?_
  .refine AQ rfl rfl ?_ ?_<;>simp -implicitDefEqProofs [SN2,Bm]
  .rintro j ⟨hj,hle⟩;refine Ap EH ?_;by_cases hlt:j<D.size
   .obtain⟨x,hx⟩:∃x,D.data.toList[j]?=some x:=⟨_,Xg hlt⟩
    have ixj:=DM D j x hx;have hdx:=hall' x (by rw[<-hDd];exact Xq hx)
    have hk:x.toNat-48<=9:=by simp only[AR,Xk,decide_eq_true_eq]at hdx;omega
    have e1:Xb.wrap ((j:Int)+1)=((j+1:Nat):Int):=AP (by omega) (by omega);have bw:=wT hdx;have hstep:=wP D.data.toList j x hx
    obtain⟨n,hn'⟩:∃n,n=Bm 0 (D.data.toList.take j):=⟨_,rfl⟩
    rw[<-hn']at hle hstep
    obtain⟨k,hk'⟩:∃k,k=x.toNat-48:=⟨_,rfl⟩
    rw[<-hk']at hk bw hstep;obtain⟨w1,w2⟩:=wS (n:=n) hk;by_cases hbig:9223372036854775808<n*10+k
    .have hgt:=w2.2 hbig;have hmono:=wQ D.data.toList (j+1);rw[hstep,hDd]at hmono
     have hb:Eo l=(0,2):=by
      rw[hn];split
      .rw[zz (by omega)]
      .rw[zz (by omega)]
     simp -implicitDefEqProofs [SN2,<-hn',hlt,ixj,bw,w1,hgt,D9,hb]
    .have hgt:¬Xa.wrap ((9223372036854775808-(k:Int)).tdiv 10)<(n:Int):=λh=>hbig (w2.1 h);have e2:Xa.wrap ((n:Int)*10)=(n:Int)*10:=Oe (by omega) (by omega)
     have e3:Xa.wrap ((n:Int)*10+(k:Int))=((n*10+k:Nat):Int):=by rw[Oe (by omega) (by omega)];omega
     simp -implicitDefEqProofs [SN2,<-hn',hlt,ixj,bw,w1,hgt,e1,e2,e3];refine Am.mk (j+1) ⟨⟨hlt,by rw[hstep];omega⟩,by omega⟩ (AQ rfl rfl (by simp -implicitDefEqProofs [SN2,hstep]) (by simp -implicitDefEqProofs [SN2]))
   .have e:j=D.size:=by omega
    subst e;simp -implicitDefEqProofs [SN2];exact Am.mk () ⟨hj,hle⟩ (AQ rfl rfl (by simp -implicitDefEqProofs [SN2]) (by simp -implicitDefEqProofs [SN2]))
 rintro _ ⟨_,hle⟩
 have htk:D.data.toList.take D.size=d:=by rw[hDd,hDs];exact Xn (Nat.le_refl _)
 rw[htk]at hle;refine Ap EH ?_
 cases hneg:(l.head?==some 45)with
 | true=>
  have hlt:(D.size:Int)<(s.size:Int):=by
   have:d=l.tail:=by rw[hd];unfold dOf;rw[hneg];rfl
   have h0:l≠[]:=by intro e;rw[e]at hneg;cases hneg
   have:d.length+1=l.length:=by
    rw[this]
    cases l with
    | nil=>exact absurd rfl h0
    | cons x t=>simp
   omega
  rw[hneg,zy rfl,zy hle]at hn;have nw:=wR hle;rw[Int.zero_sub]at nw;simp -implicitDefEqProofs [SN2,htk,hlt,nw,D9,hn]
 | false=>
  have hlt:¬(D.size:Int)<(s.size:Int):=by
   have:d=l:=by rw[hd];unfold dOf;rw[hneg];rfl
   rw[<-this]at hlen;omega
  rw[hneg]at hn;simp only[Xc,if_false]at hn;by_cases h2:Bm 0 d=9223372036854775808
  .have e2:((Bm 0 d:Int)==9223372036854775808)=true:=by rw[h2];rfl
   rw[zz (by omega)]at hn;simp -implicitDefEqProofs [SN2,htk,hlt,e2,D9,hn]
  .have e2:((Bm 0 d:Int)==9223372036854775808)=false:=by rw[zu];omega
   rw[zy (by omega)]at hn;have e3:Xb.wrap (Bm 0 d:Int)=(Bm 0 d:Int):=H9 (by omega) (by omega);simp -implicitDefEqProofs [SN2,htk,hlt,e2,e3,D9,hn]
end Go.Proofs.YtobnacghaamfoaaGreatDoor
