/- Auxiliary facts. -/
import Derived.Test.YtobnacghaamfoaaGreatDoorVHQ12
import Derived.Lib.AtoiAllCases
set_option linter.unusedSimpArgs false
set_option maxRecDepth 100000
set_option maxHeartbeats 0
set_option linter.unusedVariables false
open Go.IntKind renaming u64->Xa,i64->Xg,wrap->Xm,bits->Xn,signed->Xo,u8->Xw
open Bool renaming and_eq_true->Xb,false_eq_true->Xc,or_true->Xl,not_true->Xs,or_false->Xt,false_and->Xv
open List renaming all_eq_true->Xd,dropWhile_cons->Xh,getElem?_eq_getElem->Xp,isPrefixOf->Xr,foldl_append->Xu,take_of_length_le->Xx,mem_of_getElem?->Xy
open Nat renaming le_refl->Xe
open Option renaming some_beq_some->Xf
open Go.Proofs.Tryz renaming prog->Xi
open Int renaming natCast_zero->Xj
open UInt8 renaming toNat_inj->Xk,ofNat->Xq
namespace Go.Proofs.YtobnacghaamfoaaGreatDoor
open Go Go.Abs
variable {q : Gl}
def Bf (acc:Nat) (l:List UInt8):Nat:=l.foldl (λa c=>a*10+(c.toNat-48)) acc
theorem RM:∀(l:List UInt8) (acc:Nat),acc<=Bf acc l
 | [],acc=>Xe _
 | c::r,acc=>by
  have:=RM r (acc*10+(c.toNat-48));show acc<=Bf (acc*10+(c.toNat-48)) r;omega
theorem RN:∀(l:List UInt8) (acc:Nat),(∀c∈l,AQ c=true)->acc<18446744073709551616->Lib.parseUint10 acc l=if Bf acc l<18446744073709551616 then .ok (Bf acc l)else .range
 | [],acc,_,ha=>by simp[Lib.parseUint10,Bf,ha]
 | c::r,acc,hd,ha=>by
  have hc:=hd c (by simp);simp only[AQ,Xb,decide_eq_true_eq]at hc;have e:Bf acc (c::r)=Bf (acc*10+(c.toNat-48)) r:=rfl;have hge:=RM r (acc*10+(c.toNat-48));simp only[Lib.parseUint10,zy hc];by_cases h1:1844674407370955162<=acc
  .rw[zy h1,zz (by rw[e];omega)]
  .rw[zz h1];by_cases h2:18446744073709551616<=acc*10+(c.toNat-48)
   .rw[zy h2,zz (by rw[e];omega)]
   .rw[zz h2,RN r _ (λx hx=>hd x (by simp[hx])) (by omega),e]
def DR (l:List UInt8):Int×Int:=
 let neg:=l.head?==some 45
 let d:=if neg then l.tail else l
 if d.isEmpty || !(d.all AQ)||(d.head?==some 48&&l != [48])then(0,8)
 else if neg then(if Bf 0 d<=9223372036854775808 then(-(Bf 0 d:Int),0)else(0,2))
 else(if Bf 0 d<9223372036854775808 then((Bf 0 d:Int),0)else(0,2))
theorem sL (l cs:List UInt8):(Lib.trimS l cs).isEmpty=l.all (cs.contains ·):=by
 have dw:∀(p:UInt8->Bool) (l:List UInt8),l.dropWhile p=[] ↔ ∀x∈l,p x=true:=by
  intro p l
  induction l with
  | nil=>simp
  | cons x r ih=>
   by_cases h:p x=true
   .simp[Xh,h,ih]
   .simp[Xh,h]
 have h1:Lib.trimS l cs=[] ↔ ∀x∈l,cs.contains x=true:=by
  unfold Lib.trimS Lib.trimLeftS Lib.trimRightS;rw[dw];constructor
  .intro h x hx
   cases hc:cs.contains x with
   | true=>rfl
   | false=>
    exfalso
    have key:∀(m:List UInt8),x∈m->x∈m.dropWhile (cs.contains ·):=by
     intro m
     induction m with
     | nil=>intro h;cases h
     | cons y r ih=>
      intro hm;rw[Xh];split
      .rename_i hy;rcases List.mem_cons.1 hm with e | e
       .subst e;rw[hc]at hy;cases hy
       .exact ih e
      .exact hm
    have:=h x (by simpa using key l.reverse (by simpa using hx));rw[hc]at this;cases this
  .intro h x hx
   have:x∈l.reverse.dropWhile (cs.contains ·):=by simpa using hx
   exact h x (by simpa using (List.dropWhile_sublist _).mem this)
 cases hl:l.all (cs.contains ·)with
 | true=>rw[h1.2 (λx hx=>Xd.1 hl x hx)];rfl
 | false=>
  cases ht:Lib.trimS l cs with
  | nil=>
   rw[Xd.2 (h1.1 ht)]at hl;cases hl
  | cons a r=>rfl
def Nw:List UInt8:=[48,49,50,51,52,53,54,55,56,57]
theorem sN (c:UInt8):Nw.contains c=AQ c:=by
 have:∀n:Fin 256,Nw.contains (Xq n.val)=AQ (Xq n.val):=by decide +kernel
 have:=this ⟨c.toNat,c.toNat_lt⟩;simpa using this
theorem stl (s:ByteArray):s.toList=s.data.toList:=ByteArray.toList_eq s
theorem CM (l:List UInt8):(⟨l.toArray⟩:ByteArray).toList=l:=by rw[stl]
theorem Fv (l:List UInt8):(l==[])=l.isEmpty:=by cases l<;>rfl
theorem sO (l:List UInt8):Lib.trimPrefix l [45]=if l.head?==some 45 then l.tail else l:=by
 cases l with
 | nil=>rfl
 | cons c r=>
  by_cases h:c=45
  .subst h;simp[Lib.trimPrefix,Lib.hasPrefix,Xr]
  .have:¬(45:UInt8)=c:=λe=>h e.symm;simp[Lib.trimPrefix,Lib.hasPrefix,Xr,h,this]
theorem sQ (d:List UInt8) (h0:d≠[]) (hd:∀c∈d,AQ c=true):Lib.atoiAll (45::d)=if Bf 0 d<=9223372036854775808 then .ok (-(Bf 0 d:Int))else .range:=by
 rw[Lib.atoiAll_minus,Lib.parseMag,zz h0,RN d 0 hd (by omega)];by_cases h1:Bf 0 d<18446744073709551616
 .rw[zy h1];unfold Lib.signed;by_cases h2:Bf 0 d<=9223372036854775808
  .simp only[zy h2,zz (by omega:¬9223372036854775808<Bf 0 d)]
  .simp only[zz h2,zy (by omega:9223372036854775808<Bf 0 d)]
 .rw[zz h1,zz (by omega)];rfl
theorem sR (c:UInt8) (r:List UInt8) (hd:∀x∈c::r,AQ x=true):Lib.atoiAll (c::r)=if Bf 0 (c::r)<9223372036854775808 then .ok (Bf 0 (c::r):Int)else .range:=by
 have hc:=hd c (by simp);simp only[AQ,Xb,decide_eq_true_eq]at hc;rw[Lib.atoiAll_plain c r (by omega) (by omega),Lib.parseMag,zz (by simp),RN _ 0 hd (by omega)];by_cases h1:Bf 0 (c::r)<18446744073709551616
 .rw[zy h1];unfold Lib.signless;by_cases h2:Bf 0 (c::r)<9223372036854775808
  .simp only[zy h2,zz (by omega:¬9223372036854775808<=Bf 0 (c::r))]
  .simp only[zz h2,zy (by omega:9223372036854775808<=Bf 0 (c::r))]
 .rw[zz h1,zz (by omega)];rfl
@[simp] theorem B6v {Φ:AC} {H:Ab} {nx:Nat} (isB:Bool):Ah Φ H nx (.bin isB .neq (some .ifc)) [.t (.v .nilIface),.t (.v .nilIface)]=some (.t (.v (.bool false)),H,nx):=rfl
@[simp] theorem B6w {Φ:AC} {H:Ab} {nx:Nat} (isB:Bool) (t:Nat) (x:T):Ah Φ H nx (.bin isB .neq (some .ifc)) [.t (.ic t x),.t (.v .nilIface)]=some (.t (.v (.bool true)),H,nx):=rfl
noncomputable def Ie:Tbl:=[(127,Ph),(128,Pi),(129,Nt)]
theorem sS:Ctx Xi (G q) (orc Ie):=(A5.cons rV (.cons rX (.cons rY .nil))).ctx mixed
abbrev Dq (l:List UInt8):T:=.tu [iv (DR l).1,iv (DR l).2]
theorem sU (s:ByteArray) (hs:s.size<=281474976710656):AA Xi (G q) 113 [sv s] (· = Dq s.data.toList):=by
 refine nR.runs sS rfl ?_
 obtain⟨l,hl⟩:∃l,l=s.data.toList:=⟨_,rfl⟩
 have hlen:l.length=s.size:=by rw[hl];rfl
 obtain⟨d,hd⟩:∃d,d=Lib.trimPrefix l [45]:=⟨_,rfl⟩
 have hd2:=hd;rw[sO]at hd2
 have dl:d.length<=l.length:=by
  rw[hd2];split
  .simp
  .exact Xe _
 have q1:Ph [.v (.string s),.v (.string ⟨#[45]⟩)]=some (sv (bs d)):=by
  rw[Ph,E2 (τ:=BX) (σ:=BX) (x:=s) (y:=⟨#[45]⟩) rfl rfl,hd,hl]
 have q2:Pi [.v (.string (bs d)),.v (.string ⟨#[48,49,50,51,52,53,54,55,56,57]⟩)]=some (sv (bs (Lib.trimS d Nw))):=by
  rw[Pi,E2 (τ:=BX) (σ:=BX) (x:=bs d) (y:=⟨#[48,49,50,51,52,53,54,55,56,57]⟩) rfl rfl,zy ⟨by show d.toArray.size<=_;simp;omega,by decide,by decide⟩];rfl
 have tn:=sL d Nw;rw[show(λx=>Nw.contains x)=AQ from funext sN]at tn;rw[<-hl]
 have hnum:DR l=if d.isEmpty || !(d.all AQ)||(d.head?==some 48&&l != [48])then(0,8)else if l.head?==some 45 then(if Bf 0 d<=9223372036854775808 then(-(Bf 0 d:Int),0)else(0,2))else(if Bf 0 d<9223372036854775808 then((Bf 0 d:Int),0)else(0,2)):=by
  rw[hd2];rfl
 cases hde:d.isEmpty with
 | true=>
  rw[hde]at hnum
  (conv in Ib=>cbv);simp -implicitDefEqProofs [Ie,q1,CM,Fv,hde,Dq,hnum]
 | false=>
 cases hda:d.all AQ with
 | false=>
  rw[hde,hda]at hnum;rw[hda]at tn
  (conv in Ib=>cbv);simp -implicitDefEqProofs [Ie,q1,CM,Fv,hde,q2,tn,Dq,hnum]
 | true=>
 rw[hde,hda]at hnum;rw[hda]at tn
 obtain⟨c,r,hcr⟩:∃c r,d=c::r:=by
  cases d with
  | nil=>cases hde
  | cons c r=>exact⟨c,r,rfl⟩
 have hall:∀x∈d,AQ x=true:=Xd.1 hda;have ix:=Dw (bs d) 0 c (by rw[hcr];rfl);simp only[Xj]at ix
 have hh:d.head?=some c:=by rw[hcr];rfl
 have s0:(s.toList==[48])=(l==[48]):=by rw[stl,hl]
 have e48:((c.toNat:Int)==48)=(c==48):=by
  by_cases h:c=48
  .subst h;rfl
  .have:¬c.toNat=48:=λe=>h (Xk.1 e);rw[beq_eq_false_iff_ne.2 h,zu];omega
 have bad:(c==48&&l != [48])=true->DR l=(0,8):=by
  intro h;rw[hnum,hh];simp only[Xf,h,Xl,if_true]
 have good:(c==48&&l != [48])=false->DR l=if l.head?==some 45 then(if Bf 0 d<=9223372036854775808 then(-(Bf 0 d:Int),0)else(0,2))else(if Bf 0 d<9223372036854775808 then((Bf 0 d:Int),0)else(0,2)):=by
  intro h;rw[hnum,hh];simp only[Xf,h,Xs,Xt,Xc,if_false]
 have atoi:(c==48&&l != [48])=false->(∃v,DR l=(v,0)/\Nt [.v (.string s)]=some (.tu [iv v,.v .nilIface]))\/(DR l=(0,2)/\∃v,Nt [.v (.string s)]=some (.tu [iv v,.ic 210 (.pt [])])):=by
  intro h;have g:=good h;have ga:Nt [.v (.string s)]=_:=HY (τ:=BX) (x:=s) rfl;rw[zy hs,<-hl]at ga
  cases hneg:(l.head?==some 45)with
  | true=>
   rw[hneg]at g hd2;simp only[if_true]at g hd2
   have el:l=45::d:=by
    cases l with
    | nil=>simp at hneg
    | cons x t=>simp at hneg;subst hneg;rw[hd2];rfl
   have at':=sQ d (by rw[hcr];simp) hall;rw[<-el]at at';by_cases h2:Bf 0 d<=9223372036854775808
   .rw[zy h2]at g at';left;refine⟨_,g,?_⟩;rw[ga,at']
   .rw[zz h2]at g at';right;refine⟨g,Lib.atoiSat l,?_⟩;rw[ga,at']
  | false=>
   rw[hneg]at g hd2;simp only[Xc,if_false]at g hd2;have at':=sR c r (by rw[<-hcr];exact hall);rw[<-hcr]at at';rw[<-hd2]at ga;by_cases h2:Bf 0 d<9223372036854775808
   .rw[zy h2]at g at';left;refine⟨_,g,?_⟩;rw[ga,at']
   .rw[zz h2]at g at';right;refine⟨g,Lib.atoiSat d,?_⟩;rw[ga,at']
 have fin:(c==48&&l != [48])=false->Ca (orc Ie) Ib (IY 33 [sv s]) (FC [.tmp 2,.tmp 3] (· = Dq l)):=by
  intro h;rcases atoi h with⟨v,h1,h2⟩ | ⟨h1,v,h2⟩
  .cases h48:(c==48)with
   | true=>
    rw[h48]at h
    have h3:(l==[48])=true:=by simpa using h
    (conv in Ib=>cbv);simp -implicitDefEqProofs [Ie,q1,CM,Fv,hde,q2,tn,ix,e48,h48,s0,h3,h2,Bv,Dq,h1]
   | false=>(conv in Ib=>cbv);simp -implicitDefEqProofs [Ie,q1,CM,Fv,hde,q2,tn,ix,e48,h48,h2,Bv,Dq,h1]
  .cases h48:(c==48)with
   | true=>
    rw[h48]at h
    have h3:(l==[48])=true:=by simpa using h
    (conv in Ib=>cbv);simp -implicitDefEqProofs [Ie,q1,CM,Fv,hde,q2,tn,ix,e48,h48,s0,h3,h2,Bv,Dq,h1]
   | false=>(conv in Ib=>cbv);simp -implicitDefEqProofs [Ie,q1,CM,Fv,hde,q2,tn,ix,e48,h48,h2,Bv,Dq,h1]
 cases hb:(c==48&&l != [48])with
 | false=>exact fin hb
 | true=>
  have h48:(c==48)=true:=by simp only[Xb]at hb;exact hb.1
  have h3:(l==[48])=false:=by simp only[Xb]at hb;simpa using hb.2
  (conv in Ib=>cbv);simp -implicitDefEqProofs [Ie,q1,CM,Fv,hde,q2,tn,ix,e48,h48,s0,h3,Dq,bad hb]
def dOf (l:List UInt8):List UInt8:=if l.head?==some 45 then l.tail else l
theorem sV (l:List UInt8):DR l=if(dOf l).isEmpty || !((dOf l).all AQ)||((dOf l).head?==some 48&&l != [48])then(0,8)else if l.head?==some 45 then(if Bf 0 (dOf l)<=9223372036854775808 then(-(Bf 0 (dOf l):Int),0)else(0,2))else(if Bf 0 (dOf l)<9223372036854775808 then((Bf 0 (dOf l):Int),0)else(0,2)):=rfl
theorem sW (l:List UInt8) (j:Nat) (c:UInt8) (h:l[j]?=some c):Bf 0 (l.take (j+1))=Bf 0 (l.take j)*10+(c.toNat-48):=by
 rw[List.take_add_one,h];simp[Bf,Xu]
theorem sX (l:List UInt8) (j:Nat):Bf 0 (l.take j)<=Bf 0 l:=by
 have:Bf 0 l=Bf (Bf 0 (l.take j)) (l.drop j):=by
  unfold Bf;rw[<-Xu,List.take_append_drop]
 rw[this];exact RM _ _
def SN0 (D s:ByteArray):Ac:=⟨[(4,.t (sv D)),(0,.t (sv s))],[],0,80⟩
def SN1 (D s:ByteArray) (j:Nat):Ac:=⟨[(5,.t (iv (j:Int))),(4,.t (sv D)),(0,.t (sv s))],[],0,80⟩
def SN2 (D s:ByteArray) (j:Nat):Ac:=⟨[(7,.t (iv (j:Int))),(6,.t (.v (.int .u64 (Bf 0 (D.data.toList.take j):Int)))),(4,.t (sv D)),(0,.t (sv s))],[],0,80⟩
def OkN (D:ByteArray) (j:Nat):Prop:=j<=D.size/\∀(i:Nat) c,i<j->D.data.toList[i]?=some c->AQ c=true
def OkM (D:ByteArray) (j:Nat):Prop:=j<=D.size/\Bf 0 (D.data.toList.take j)<=9223372036854775808
theorem sY {n:Nat} (h:n<=9223372036854775808):Xg.wrap (Xa.wrap (0-(n:Int))) = -(n:Int):=by
 by_cases h0:n=0
 .subst h0;rfl
 .have e:Xa.wrap (0-(n:Int))=18446744073709551616-(n:Int):=by
   unfold Xm Xn Xo;simp only[Xv,Xc,if_false]
   have e1:(2:Int)^64=18446744073709551616:=by decide
   rw[e1];omega
  rw[e];unfold Xm Xn Xo;simp only[Bool.true_and,Nat.reduceSub]
  have e1:(2:Int)^64=18446744073709551616:=by decide
  have e2:(2:Int)^63=9223372036854775808:=by decide
  simp only[e1,e2,ge_iff_le,decide_eq_true_eq];split<;>omega
theorem sZ {n k:Nat} (hk:k<=9):Xa.wrap (9223372036854775808-(k:Int))=9223372036854775808-(k:Int) /\
  (Xa.wrap ((9223372036854775808-(k:Int)).tdiv 10)<(n:Int) ↔ 9223372036854775808<n*10+k):=by
 have h1:Xa.wrap (9223372036854775808-(k:Int))=9223372036854775808-(k:Int):=Ng (by omega) (by omega);refine⟨h1,?_⟩;have h2:(9223372036854775808-(k:Int)).tdiv 10=(9223372036854775808-(k:Int)) / 10:=Int.tdiv_eq_ediv_of_nonneg (by omega);rw[h2,Ng (by omega) (by omega)];omega
theorem tA {c:UInt8} (h:AQ c=true):Xa.wrap (Xw.wrap ((c.toNat:Int)-48))=((c.toNat-48:Nat):Int):=by
 simp only[AQ,Xb,decide_eq_true_eq]at h
 have e:Xw.wrap ((c.toNat:Int)-48)=(c.toNat:Int)-48:=by
  unfold Xm Xn Xo;simp only[Xv,Xc,if_false]
  have e1:(2:Int)^8=256:=by decide
  rw[e1];omega
 rw[e,Ng (by omega) (by omega)];omega
open Go Go.Abs Go.RowKit
def IsD (d:List UInt8) (D:ByteArray):Prop:=D.data.toList=d
def Zg (c:UInt8) (l:List UInt8):Prop:=(c==48&&l != [48])=false
def Al (d:List UInt8):Prop:=d.all AQ=true
def SN (s D:ByteArray):Ac:=SN0 D s
theorem tB (s:ByteArray) (hs:s.size<=281474976710656):AA Xi (G q) 52 [sv s] (· = Dq s.data.toList):=by
 refine nS.call rfl ?_;(conv in Vw=>cbv)
 obtain⟨l,hl⟩:∃l,l=s.data.toList:=⟨_,rfl⟩
 have hlen:l.length=s.size:=by rw[hl];rfl
 rw[<-hl];have hnum:=sV l
 obtain⟨d,hd⟩:∃d,d=dOf l:=⟨_,rfl⟩
 rw[<-hd]at hnum;refine Az Dg ?_;simp -implicitDefEqProofs;refine Az Dg ?_;simp -implicitDefEqProofs;refine BM (α:=ByteArray) (SN s) (IsD d) (λ_=>rfl) ?_ ?_
 .refine Aw Dg ?_
  cases hl2:l with
  | nil=>
   have h0:s.size=0:=by rw[<-hlen,hl2];rfl
   have h0':¬(0:Int)<(s.size:Int):=by omega
   simp -implicitDefEqProofs [h0];refine Aq.mk s ?_ (AJ rfl rfl (by simp -implicitDefEqProofs [SN,SN0]) (by simp -implicitDefEqProofs [SN,SN0]));show s.data.toList=d;rw[hd,hl2,<-hl,hl2];rfl
  | cons c r=>
   have h0:0<s.size:=by rw[<-hlen,hl2];simp
   have ix:=Dw s 0 c (by rw[<-hl,hl2];rfl);simp only[Xj]at ix
   have e45:((c.toNat:Int)==45)=(c==45):=by
    by_cases h:c=45
    .subst h;rfl
    .have:¬c.toNat=45:=λe=>h (Xk.1 e);rw[beq_eq_false_iff_ne.2 h,zu];omega
   cases h45:(c==45)with
   | true=>
    have hsl:Dn (.t (sv s)) (some (.t (iv 1))) none=some (.t (sv (s.extract 1 s.size))):=by
     have:1<=s.size:=by omega
     simp[Dn,CD,this]
    simp -implicitDefEqProofs [h0,ix,e45,h45,hsl];refine Aq.mk (s.extract 1 s.size) ?_ (AJ rfl rfl (by simp -implicitDefEqProofs [SN,SN0]) (by simp -implicitDefEqProofs [SN,SN0]))
    have h45':c=45:=by simpa using h45
    have:s.data.toList.length=s.size:=rfl;show(s.extract 1 s.size).data.toList=d;rw[Lib.extract_data,hd,<-hl,hl2,h45'];rw[<-hl,hl2]at this;simp only[List.length_cons]at this;have e1:dOf (45::r)=r:=rfl;rw[e1];show List.take (s.size-1) r=r;exact Xx (by omega)
   | false=>
    simp -implicitDefEqProofs [h0,ix,e45,h45];refine Aq.mk s ?_ (AJ rfl rfl (by simp -implicitDefEqProofs [SN,SN0]) (by simp -implicitDefEqProofs [SN,SN0]));show s.data.toList=d;rw[<-hl,hl2,hd,hl2]
    have h2:(some c==some (45:UInt8))=false:=by simpa using h45
    show c::r=if(some c==some (45:UInt8))then r else c::r
    rw[h2];rfl
 intro D hD;have hDl:D.data.toList.length=D.size:=rfl;have hDd:D.data.toList=d:=hD
 have dl:d.length<=l.length:=by
  rw[hd];unfold dOf;split
  .simp
  .exact Xe _
 have hDs:D.size=d.length:=by rw[<-hDl,hDd]
 cases hde:d with
 | nil=>
  refine Az Dg ?_;rw[hde]at hnum hDd
  have e0:(D.toList==[])=true:=by rw[stl,hDd];rfl
  simp -implicitDefEqProofs [SN,SN0,CM,e0,Dq,hnum]
 | cons c r=>
 have e0:(D.toList==[])=false:=by rw[stl,hDd,hde];rfl
 have ix:=Dw D 0 c (by rw[hDd,hde];rfl);simp only[Xj]at ix
 have e48:((c.toNat:Int)==48)=(c==48):=by
  by_cases h:c=48
  .subst h;rfl
  .have:¬c.toNat=48:=λe=>h (Xk.1 e);rw[beq_eq_false_iff_ne.2 h,zu];omega
 have hh:d.head?=some c:=by rw[hde];rfl
 have hz:(c==48)=true->(decide (1<D.size)||decide (1<s.size))=(l != [48]):=by
  intro h48
  have hc:c=48:=by simpa using h48
  have hds:D.size=r.length+1:=by rw[hDs,hde];rfl
  cases hl2:l with
  | nil=>rw[hd,hl2]at hde;cases hde
  | cons x t=>
   have hls:s.size=t.length+1:=by rw[<-hlen,hl2];rfl
   by_cases h45:x=45
   .subst h45;rw[hd,hl2]at hde;have:t=c::r:=hde;rw[hls,this];simp
   .have h2:(some x==some (45:UInt8))=false:=by simpa using h45
    rw[hd,hl2]at hde
    have h3:dOf (x::t)=x::t:=by
     show(if(some x==some (45:UInt8))then t else x::t)=_;rw[h2];rfl
    rw[h3]at hde;injection hde with h4 h5;subst h4;subst h5;subst hc
    cases t with
    | nil=>simp[hds,hls]
    | cons y t=>simp[hds,hls]
 have bad:(c==48&&l != [48])=true->DR l=(0,8):=by
  intro h;rw[hnum,hh];simp only[Xf,h,Xl,if_true]
 refine BM (α:=Unit) (λ_=>SN s D) (λ_=>Zg c l) (λ_=>rfl) ?_ ?_
 .refine Aw Dg ?_
  cases h48:(c==48)with
  | false=>
   simp -implicitDefEqProofs [SN,SN0,CM,e0,ix,e48,h48];exact Aq.mk () (by show(c==48&&l != [48])=false;rw[h48];rfl) (AJ rfl rfl (by simp -implicitDefEqProofs) (by simp -implicitDefEqProofs))
  | true=>
   have hz':=hz h48;by_cases h1:1<D.size
   .have hb:=bad (by rw[h48,<-hz',zw h1];rfl)
    have h1':(1:Int)<(D.size:Int):=by omega
    simp -implicitDefEqProofs [SN,SN0,CM,e0,ix,e48,h48,h1',Dq,hb]
   .have h1':¬(1:Int)<(D.size:Int):=by omega
    by_cases h2:1<s.size
    .have hb:=bad (by rw[h48,<-hz',zw h2,Xl];rfl)
     have h2':(1:Int)<(s.size:Int):=by omega
     simp -implicitDefEqProofs [SN,SN0,CM,e0,ix,e48,h48,h1',h2',Dq,hb]
    .have hb:(l != [48])=false:=by rw[<-hz',zx h1,zx h2];rfl
     have h2':¬(1:Int)<(s.size:Int):=by omega
     simp -implicitDefEqProofs [SN,SN0,CM,e0,ix,e48,h48,h1',h2'];exact Aq.mk () (by show(c==48&&l != [48])=false;rw[hb];simp) (AJ rfl rfl (by simp -implicitDefEqProofs) (by simp -implicitDefEqProofs))
 rintro _ hgood;have hgood:(c==48&&l != [48])=false:=hgood
 have hnum2:(d.all AQ)=false->DR l=(0,8):=by
  intro h;rw[hnum,h];simp
 have hnum3:(d.all AQ)=true->DR l=if l.head?==some 45 then(if Bf 0 d<=9223372036854775808 then(-(Bf 0 d:Int),0)else(0,2))else(if Bf 0 d<9223372036854775808 then((Bf 0 d:Int),0)else(0,2)):=by
  intro h
  have hne:d.isEmpty=false:=by rw[hde];rfl
  rw[hnum,h,hh,hne];simp only[Xf,hgood,Xs,Xt,Xc,if_false]
 refine BM (α:=Unit) (λ_=>SN s D) (λ_=>Al d) (λ_=>rfl) ?_ ?_
 .refine Az Dg ?_;simp -implicitDefEqProofs [SN,SN0];refine BI ?_;refine CV (SN1 D s) (λj=>D.size-j) (λj=>OkN D j) 0 (λ_=>rfl) ⟨Nat.zero_le _,λi c h=>by omega⟩ ?_ rfl ?_
  .refine AJ rfl rfl ?_ ?_<;>simp -implicitDefEqProofs [SN1]
  .rintro j ⟨hj,hok⟩;refine Aw Dg ?_;by_cases hlt:j<D.size
   .obtain⟨x,hx⟩:∃x,D.data.toList[j]?=some x:=⟨_,Xp hlt⟩
    have ixj:=Dw D j x hx;have e1:Xg.wrap ((j:Int)+1)=((j+1:Nat):Int):=AH (by omega) (by omega);have qd:=Jh AQ x
    cases hdx:AQ x with
    | true=>
     simp -implicitDefEqProofs [SN1,hlt,ixj,tbc,qd,hdx,e1];refine Aq.mk (j+1) ⟨⟨hlt,λi y hi hy=>?_⟩,by omega⟩ (AJ rfl rfl (by simp -implicitDefEqProofs [SN1]) (by simp -implicitDefEqProofs [SN1]));by_cases e:i=j
     .subst e;rw[hx]at hy;injection hy with hy;subst hy;exact hdx
     .exact hok i y (by omega) hy
    | false=>
     have hb:=hnum2 (by
      rw[List.all_eq_false]
      exact⟨x,by rw[<-hDd];exact Xy hx,by rw[hdx];simp⟩)
     simp -implicitDefEqProofs [SN1,hlt,ixj,tbc,qd,hdx,Dq,hb]
   .have e:j=D.size:=by omega
    subst e;simp -implicitDefEqProofs [SN1];refine Aq.mk () ?_ (AJ rfl rfl (by simp -implicitDefEqProofs [SN,SN0]) (by simp -implicitDefEqProofs [SN,SN0]));show d.all AQ=true;rw[Xd,<-hDd];intro x hx;obtain⟨i,hi,e⟩:=List.getElem_of_mem hx;exact hok i x (by omega) (by rw[Xp hi,e])
 rintro _ hall;have hall:d.all AQ=true:=hall;have hn:=hnum3 hall;have hall':∀x∈d,AQ x=true:=Xd.1 hall;refine Az Dg ?_;simp -implicitDefEqProofs [SN,SN0];refine BM (α:=Unit) (λ_=>SN2 D s D.size) (λ_=>OkM D D.size) (λ_=>rfl) ?_ ?_
 .refine Az Dg ?_;simp -implicitDefEqProofs;refine BI ?_;refine CV (SN2 D s) (λj=>D.size-j) (λj=>OkM D j) 0 (λ_=>rfl) ⟨Nat.zero_le _,by simp[Bf]⟩ ?_ rfl ?_
  .refine AJ rfl rfl ?_ ?_<;>simp -implicitDefEqProofs [SN2,Bf]
  .rintro j ⟨hj,hle⟩;refine Aw Dg ?_;by_cases hlt:j<D.size
   .obtain⟨x,hx⟩:∃x,D.data.toList[j]?=some x:=⟨_,Xp hlt⟩
    have ixj:=Dw D j x hx;have hdx:=hall' x (by rw[<-hDd];exact Xy hx)
    have hk:x.toNat-48<=9:=by simp only[AQ,Xb,decide_eq_true_eq]at hdx;omega
    have e1:Xg.wrap ((j:Int)+1)=((j+1:Nat):Int):=AH (by omega) (by omega);have bw:=tA hdx;have hstep:=sW D.data.toList j x hx
    obtain⟨n,hn'⟩:∃n,n=Bf 0 (D.data.toList.take j):=⟨_,rfl⟩
    rw[<-hn']at hle hstep
    obtain⟨k,hk'⟩:∃k,k=x.toNat-48:=⟨_,rfl⟩
    rw[<-hk']at hk bw hstep;obtain⟨w1,w2⟩:=sZ (n:=n) hk;by_cases hbig:9223372036854775808<n*10+k
    .have hgt:=w2.2 hbig;have hmono:=sX D.data.toList (j+1);rw[hstep,hDd]at hmono
     have hb:DR l=(0,2):=by
      rw[hn];split
      .rw[zz (by omega)]
      .rw[zz (by omega)]
     simp -implicitDefEqProofs [SN2,<-hn',hlt,ixj,bw,w1,hgt,Dq,hb]
    .have hgt:¬Xa.wrap ((9223372036854775808-(k:Int)).tdiv 10)<(n:Int):=λh=>hbig (w2.1 h);have e2:Xa.wrap ((n:Int)*10)=(n:Int)*10:=Ng (by omega) (by omega)
     have e3:Xa.wrap ((n:Int)*10+(k:Int))=((n*10+k:Nat):Int):=by rw[Ng (by omega) (by omega)];omega
     simp -implicitDefEqProofs [SN2,<-hn',hlt,ixj,bw,w1,hgt,e1,e2,e3];refine Aq.mk (j+1) ⟨⟨hlt,by rw[hstep];omega⟩,by omega⟩ (AJ rfl rfl (by simp -implicitDefEqProofs [SN2,hstep]) (by simp -implicitDefEqProofs [SN2]))
   .have e:j=D.size:=by omega
    subst e;simp -implicitDefEqProofs [SN2];exact Aq.mk () ⟨hj,hle⟩ (AJ rfl rfl (by simp -implicitDefEqProofs [SN2]) (by simp -implicitDefEqProofs [SN2]))
 rintro _ ⟨_,hle⟩
 have htk:D.data.toList.take D.size=d:=by rw[hDd,hDs];exact Xx (Xe _)
 rw[htk]at hle;refine Aw Dg ?_
 cases hneg:(l.head?==some 45)with
 | true=>
  have hlt:(D.size:Int)<(s.size:Int):=by
   have:d=l.tail:=by rw[hd];unfold dOf;rw[hneg];rfl
   have h0:l≠[]:=by intro e;rw[e]at hneg;cases hneg
   have:d.length+1=l.length:=by
    rw[this]
    cases l with
    | nil=>exact absurd rfl h0
    | cons x t=>simp
   omega
  rw[hneg,zy rfl,zy hle]at hn;have nw:=sY hle;rw[Int.zero_sub]at nw;simp -implicitDefEqProofs [SN2,htk,hlt,nw,Dq,hn]
 | false=>
  have hlt:¬(D.size:Int)<(s.size:Int):=by
   have:d=l:=by rw[hd];unfold dOf;rw[hneg];rfl
   rw[<-this]at hlen;omega
  rw[hneg]at hn;simp only[Xc,if_false]at hn;by_cases h2:Bf 0 d=9223372036854775808
  .have e2:((Bf 0 d:Int)==9223372036854775808)=true:=by rw[h2];rfl
   rw[zz (by omega)]at hn;simp -implicitDefEqProofs [SN2,htk,hlt,e2,Dq,hn]
  .have e2:((Bf 0 d:Int)==9223372036854775808)=false:=by rw[zu];omega
   rw[zy (by omega)]at hn;have e3:Xg.wrap (Bf 0 d:Int)=(Bf 0 d:Int):=Fs (by omega) (by omega);simp -implicitDefEqProofs [SN2,htk,hlt,e2,e3,Dq,hn]
def dd (u:Nat):List UInt8:=if u=0 then []else Lib.decDigits u
theorem tC (a b:List UInt8):bs a++bs b=bs (a++b):=by
 show(⟨a.toArray⟩:ByteArray)++⟨b.toArray⟩=_;apply ByteArray.ext;simp[bs,ByteArray.data_append]
theorem cat {Φ:AC} {a b:List UInt8} (h:a.length+b.length<=9223372036854775807):∀(isB:Bool) (nk:Option NK) (H:Ab) (nx:Nat),Ah Φ H nx (.bin isB .add nk) [.t (.v (.string ⟨a.toArray⟩)),.t (.v (.string ⟨b.toArray⟩))]=some (.t (sv (bs (a++b))),H,nx):=by
 intro isB nk H nx;rw[n9 isB nk _ _ (by show a.toArray.size+b.toArray.size<=_;simpa using h)];rw[show(⟨a.toArray⟩:ByteArray)++⟨b.toArray⟩=bs (a++b)from tC a b]
end Go.Proofs.YtobnacghaamfoaaGreatDoor
