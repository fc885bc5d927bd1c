/- Auxiliary facts. -/
import Derived.Test.YtmgjopafgboljaaGreatDoorVFQ15
import Derived.Lib.AtoiAllCases
import Derived.Test.YtmgjopafgboljaaGreatDoorVFQ13
set_option linter.unusedSimpArgs false
set_option maxRecDepth 100000
set_option maxHeartbeats 0
set_option linter.unusedVariables false
open Go.Proofs.Tryz renaming prog->Xc
open List renaming getElem?_eq_getElem->Xd,length_map->Xg,all_eq_true->Xh,getElem?_eq_some_iff->Xi,mem_of_getElem?->Xj,length_cons->Xn,drop_of_length_le->Xo,take_add_one->Xq,take_length->Xr,map_cons->Xs,drop_eq_getElem_cons->Xt,length_append->Xu,getElem?_map->Xv,mem_append->Xw,mem_singleton->Xx,length_nil->Xy,mem_map->Xz,append_assoc->X2,dropWhile_cons->X3,mem_cons->X4,length_take->Yd,map_map->Yf,isPrefixOf->Yi,foldl_append->Yk,take_of_length_le->Yn,take_zero->Yp,flatMap_nil->Yq,append_nil->Yr,map_append->Ys,flatMap_map->Yt,map_flatMap->Yu,getD_eq_getElem?_getD->Yw,take_left->Yx,mem_cons_of_mem->Yy
open Go.IntKind renaming i64->Xe,u64->Xm,wrap->X9,bits->Ya,signed->Yb,u8->Ym
open Nat renaming zero_le->Xf,le_refl->Xk,mul_le_mul_right->X1
open Bool renaming and_eq_true->Xl,false_eq_true->Xp,or_true->X7,or_false->X8,false_and->Yc,not_eq_false->Yg,not_true->Yj,true_and->Yl,and_self->Yo
open Option renaming some_beq_some->X0
open Int renaming natCast_zero->X5,toNat_natCast->Yv
open UInt8 renaming toNat_inj->X6,ofNat->Yh
namespace Go.Proofs.YtmgjopafgboljaaGreatDoor
open Go Go.Abs
variable {q : Gl}
def Bk (acc:Nat) (l:List UInt8):Nat:=l.foldl (λa c=>a*10+(c.toNat-48)) acc
theorem PN:∀(l:List UInt8) (acc:Nat),acc<=Bk acc l
 | [],acc=>Xk _
 | c::r,acc=>by
  have:=PN r (acc*10+(c.toNat-48));show acc<=Bk (acc*10+(c.toNat-48)) r;omega
theorem PO:∀(l:List UInt8) (acc:Nat),(∀c∈l,Bd c=true)->acc<18446744073709551616->Lib.parseUint10 acc l=if Bk acc l<18446744073709551616 then .ok (Bk acc l)else .range
 | [],acc,_,ha=>by simp[Lib.parseUint10,Bk,ha]
 | c::r,acc,hd,ha=>by
  have hc:=hd c (by simp);simp only[Bd,Xl,decide_eq_true_eq]at hc;have e:Bk acc (c::r)=Bk (acc*10+(c.toNat-48)) r:=rfl;have hge:=PN r (acc*10+(c.toNat-48));simp only[Lib.parseUint10,zu hc];by_cases h1:1844674407370955162<=acc
  .rw[zu h1,zw (by rw[e];omega)]
  .rw[zw h1];by_cases h2:18446744073709551616<=acc*10+(c.toNat-48)
   .rw[zu h2,zw (by rw[e];omega)]
   .rw[zw h2,PO r _ (λx hx=>hd x (by simp[hx])) (by omega),e]
def Cl (l:List UInt8):Int×Int:=
 let neg:=l.head?==some 45
 let d:=if neg then l.tail else l
 if d.isEmpty || !(d.all Bd)||(d.head?==some 48&&l != [48])then(0,8)
 else if neg then(if Bk 0 d<=9223372036854775808 then(-(Bk 0 d:Int),0)else(0,2))
 else(if Bk 0 d<9223372036854775808 then((Bk 0 d:Int),0)else(0,2))
theorem nC (l cs:List UInt8):(Lib.trimS l cs).isEmpty=l.all (cs.contains ·):=by
 have dw:∀(p:UInt8->Bool) (l:List UInt8),l.dropWhile p=[] ↔ ∀x∈l,p x=true:=by
  intro p l
  induction l with
  | nil=>simp
  | cons x r ih=>
   by_cases h:p x=true
   .simp[X3,h,ih]
   .simp[X3,h]
 have h1:Lib.trimS l cs=[] ↔ ∀x∈l,cs.contains x=true:=by
  unfold Lib.trimS Lib.trimLeftS Lib.trimRightS;rw[dw];constructor
  .intro h x hx
   cases hc:cs.contains x with
   | true=>rfl
   | false=>
    exfalso
    have key:∀(m:List UInt8),x∈m->x∈m.dropWhile (cs.contains ·):=by
     intro m
     induction m with
     | nil=>intro h;cases h
     | cons y r ih=>
      intro hm;rw[X3];split
      .rename_i hy;rcases X4.1 hm with e | e
       .subst e;rw[hc]at hy;cases hy
       .exact ih e
      .exact hm
    have:=h x (by simpa using key l.reverse (by simpa using hx));rw[hc]at this;cases this
  .intro h x hx
   have:x∈l.reverse.dropWhile (cs.contains ·):=by simpa using hx
   exact h x (by simpa using (List.dropWhile_sublist _).mem this)
 cases hl:l.all (cs.contains ·)with
 | true=>rw[h1.2 (λx hx=>Xh.1 hl x hx)];rfl
 | false=>
  cases ht:Lib.trimS l cs with
  | nil=>
   rw[Xh.2 (h1.1 ht)]at hl;cases hl
  | cons a r=>rfl
def LJ:List UInt8:=[48,49,50,51,52,53,54,55,56,57]
theorem nD (c:UInt8):LJ.contains c=Bd c:=by
 have:∀n:Fin 256,LJ.contains (Yh n.val)=Bd (Yh n.val):=by decide +kernel
 have:=this ⟨c.toNat,c.toNat_lt⟩;simpa using this
theorem stl (s:ByteArray):s.toList=s.data.toList:=ByteArray.toList_eq s
theorem Fw (l:List UInt8):(⟨l.toArray⟩:ByteArray).toList=l:=by rw[stl]
theorem IZ (l:List UInt8):(l==[])=l.isEmpty:=by cases l<;>rfl
theorem nF (l:List UInt8):Lib.trimPrefix l [45]=if l.head?==some 45 then l.tail else l:=by
 cases l with
 | nil=>rfl
 | cons c r=>
  by_cases h:c=45
  .subst h;simp[Lib.trimPrefix,Lib.hasPrefix,Yi]
  .have:¬(45:UInt8)=c:=λe=>h e.symm;simp[Lib.trimPrefix,Lib.hasPrefix,Yi,h,this]
theorem nG (d:List UInt8) (h0:d≠[]) (hd:∀c∈d,Bd c=true):Lib.atoiAll (45::d)=if Bk 0 d<=9223372036854775808 then .ok (-(Bk 0 d:Int))else .range:=by
 rw[Lib.atoiAll_minus,Lib.parseMag,zw h0,PO d 0 hd (by omega)];by_cases h1:Bk 0 d<18446744073709551616
 .rw[zu h1];unfold Lib.signed;by_cases h2:Bk 0 d<=9223372036854775808
  .simp only[zu h2,zw (by omega:¬9223372036854775808<Bk 0 d)]
  .simp only[zw h2,zu (by omega:9223372036854775808<Bk 0 d)]
 .rw[zw h1,zw (by omega)];rfl
theorem nI (c:UInt8) (r:List UInt8) (hd:∀x∈c::r,Bd x=true):Lib.atoiAll (c::r)=if Bk 0 (c::r)<9223372036854775808 then .ok (Bk 0 (c::r):Int)else .range:=by
 have hc:=hd c (by simp);simp only[Bd,Xl,decide_eq_true_eq]at hc;rw[Lib.atoiAll_plain c r (by omega) (by omega),Lib.parseMag,zw (by simp),PO _ 0 hd (by omega)];by_cases h1:Bk 0 (c::r)<18446744073709551616
 .rw[zu h1];unfold Lib.signless;by_cases h2:Bk 0 (c::r)<9223372036854775808
  .simp only[zu h2,zw (by omega:¬9223372036854775808<=Bk 0 (c::r))]
  .simp only[zw h2,zu (by omega:9223372036854775808<=Bk 0 (c::r))]
 .rw[zw h1,zw (by omega)];rfl
@[simp] theorem B0g {Φ:AP} {H:Ak} {nx:Nat} (isB:Bool):A0 Φ H nx (.bin isB .neq (some .ifc)) [.t (.v .nilIface),.t (.v .nilIface)]=some (.t (.v (.bool false)),H,nx):=rfl
@[simp] theorem B0h {Φ:AP} {H:Ak} {nx:Nat} (isB:Bool) (t:Nat) (x:T):A0 Φ H nx (.bin isB .neq (some .ifc)) [.t (.ic t x),.t (.v .nilIface)]=some (.t (.v (.bool true)),H,nx):=rfl
noncomputable def HC:Tbl:=[(124,NF),(125,NG),(126,LF)]
theorem nJ:Ctx Xc (G q) (orc HC):=(AB.cons lY (.cons mB (.cons mD .nil))).ctx mixed
abbrev Di (l:List UInt8):T:=.tu [iv (Cl l).1,iv (Cl l).2]
theorem nK (s:ByteArray) (hs:s.size<=281474976710656):Bc Xc (G q) 91 [sv s] (· = Di s.data.toList):=by
 refine lS.runs nJ rfl ?_
 obtain⟨l,hl⟩:∃l,l=s.data.toList:=⟨_,rfl⟩
 have hlen:l.length=s.size:=by rw[hl];rfl
 obtain⟨d,hd⟩:∃d,d=Lib.trimPrefix l [45]:=⟨_,rfl⟩
 have hd2:=hd;rw[nF]at hd2
 have dl:d.length<=l.length:=by
  rw[hd2];split
  .simp
  .exact Xk _
 have q1:NF [.v (.string s),.v (.string ⟨#[45]⟩)]=some (sv (bs d)):=by
  rw[NF,Hn (τ:=CX) (σ:=CX) (x:=s) (y:=⟨#[45]⟩) rfl rfl,hd,hl]
 have q2:NG [.v (.string (bs d)),.v (.string ⟨#[48,49,50,51,52,53,54,55,56,57]⟩)]=some (sv (bs (Lib.trimS d LJ))):=by
  rw[NG,Hn (τ:=CX) (σ:=CX) (x:=bs d) (y:=⟨#[48,49,50,51,52,53,54,55,56,57]⟩) rfl rfl,zu ⟨by show d.toArray.size<=_;simp;omega,by decide,by decide⟩];rfl
 have tn:=nC d LJ;rw[show(λx=>LJ.contains x)=Bd from funext nD]at tn;rw[<-hl]
 have hnum:Cl l=if d.isEmpty || !(d.all Bd)||(d.head?==some 48&&l != [48])then(0,8)else if l.head?==some 45 then(if Bk 0 d<=9223372036854775808 then(-(Bk 0 d:Int),0)else(0,2))else(if Bk 0 d<9223372036854775808 then((Bk 0 d:Int),0)else(0,2)):=by
  rw[hd2];rfl
 cases hde:d.isEmpty with
 | true=>
  rw[hde]at hnum
  (conv in HB=>cbv);simp -implicitDefEqProofs [HC,q1,Fw,IZ,hde,Di,hnum]
 | false=>
 cases hda:d.all Bd with
 | false=>
  rw[hde,hda]at hnum;rw[hda]at tn
  (conv in HB=>cbv);simp -implicitDefEqProofs [HC,q1,Fw,IZ,hde,q2,tn,Di,hnum]
 | true=>
 rw[hde,hda]at hnum;rw[hda]at tn
 obtain⟨c,r,hcr⟩:∃c r,d=c::r:=by
  cases d with
  | nil=>cases hde
  | cons c r=>exact⟨c,r,rfl⟩
 have hall:∀x∈d,Bd x=true:=Xh.1 hda;have ix:=Ij (bs d) 0 c (by rw[hcr];rfl);simp only[X5]at ix
 have hh:d.head?=some c:=by rw[hcr];rfl
 have s0:(s.toList==[48])=(l==[48]):=by rw[stl,hl]
 have e48:((c.toNat:Int)==48)=(c==48):=by
  by_cases h:c=48
  .subst h;rfl
  .have:¬c.toNat=48:=λe=>h (X6.1 e);rw[beq_eq_false_iff_ne.2 h,zp];omega
 have bad:(c==48&&l != [48])=true->Cl l=(0,8):=by
  intro h;rw[hnum,hh];simp only[X0,h,X7,if_true]
 have good:(c==48&&l != [48])=false->Cl l=if l.head?==some 45 then(if Bk 0 d<=9223372036854775808 then(-(Bk 0 d:Int),0)else(0,2))else(if Bk 0 d<9223372036854775808 then((Bk 0 d:Int),0)else(0,2)):=by
  intro h;rw[hnum,hh];simp only[X0,h,Yj,X8,Xp,if_false]
 have atoi:(c==48&&l != [48])=false->(∃v,Cl l=(v,0)/\LF [.v (.string s)]=some (.tu [iv v,.v .nilIface]))\/(Cl l=(0,2)/\∃v,LF [.v (.string s)]=some (.tu [iv v,.ic 196 (.pt [])])):=by
  intro h;have g:=good h;have ga:LF [.v (.string s)]=_:=JK (τ:=CX) (x:=s) rfl;rw[zu hs,<-hl]at ga
  cases hneg:(l.head?==some 45)with
  | true=>
   rw[hneg]at g hd2;simp only[if_true]at g hd2
   have el:l=45::d:=by
    cases l with
    | nil=>simp at hneg
    | cons x t=>simp at hneg;subst hneg;rw[hd2];rfl
   have at':=nG d (by rw[hcr];simp) hall;rw[<-el]at at';by_cases h2:Bk 0 d<=9223372036854775808
   .rw[zu h2]at g at';left;refine⟨_,g,?_⟩;rw[ga,at']
   .rw[zw h2]at g at';right;refine⟨g,Lib.atoiSat l,?_⟩;rw[ga,at']
  | false=>
   rw[hneg]at g hd2;simp only[Xp,if_false]at g hd2;have at':=nI c r (by rw[<-hcr];exact hall);rw[<-hcr]at at';rw[<-hd2]at ga;by_cases h2:Bk 0 d<9223372036854775808
   .rw[zu h2]at g at';left;refine⟨_,g,?_⟩;rw[ga,at']
   .rw[zw h2]at g at';right;refine⟨g,Lib.atoiSat d,?_⟩;rw[ga,at']
 have fin:(c==48&&l != [48])=false->BT (orc HC) HB (IH 33 [sv s]) (Lr [.tmp 2,.tmp 3] (· = Di l)):=by
  intro h;rcases atoi h with⟨v,h1,h2⟩ | ⟨h1,v,h2⟩
  .cases h48:(c==48)with
   | true=>
    rw[h48]at h
    have h3:(l==[48])=true:=by simpa using h
    (conv in HB=>cbv);simp -implicitDefEqProofs [HC,q1,Fw,IZ,hde,q2,tn,ix,e48,h48,s0,h3,h2,B5,Di,h1]
   | false=>(conv in HB=>cbv);simp -implicitDefEqProofs [HC,q1,Fw,IZ,hde,q2,tn,ix,e48,h48,h2,B5,Di,h1]
  .cases h48:(c==48)with
   | true=>
    rw[h48]at h
    have h3:(l==[48])=true:=by simpa using h
    (conv in HB=>cbv);simp -implicitDefEqProofs [HC,q1,Fw,IZ,hde,q2,tn,ix,e48,h48,s0,h3,h2,B5,Di,h1]
   | false=>(conv in HB=>cbv);simp -implicitDefEqProofs [HC,q1,Fw,IZ,hde,q2,tn,ix,e48,h48,h2,B5,Di,h1]
 cases hb:(c==48&&l != [48])with
 | false=>exact fin hb
 | true=>
  have h48:(c==48)=true:=by simp only[Xl]at hb;exact hb.1
  have h3:(l==[48])=false:=by simp only[Xl]at hb;simpa using hb.2
  (conv in HB=>cbv);simp -implicitDefEqProofs [HC,q1,Fw,IZ,hde,q2,tn,ix,e48,h48,s0,h3,Di,bad hb]
def dOf (l:List UInt8):List UInt8:=if l.head?==some 45 then l.tail else l
theorem U7 (l:List UInt8):Cl l=if(dOf l).isEmpty || !((dOf l).all Bd)||((dOf l).head?==some 48&&l != [48])then(0,8)else if l.head?==some 45 then(if Bk 0 (dOf l)<=9223372036854775808 then(-(Bk 0 (dOf l):Int),0)else(0,2))else(if Bk 0 (dOf l)<9223372036854775808 then((Bk 0 (dOf l):Int),0)else(0,2)):=rfl
theorem nM (l:List UInt8) (j:Nat) (c:UInt8) (h:l[j]?=some c):Bk 0 (l.take (j+1))=Bk 0 (l.take j)*10+(c.toNat-48):=by
 rw[Xq,h];simp[Bk,Yk]
theorem nN (l:List UInt8) (j:Nat):Bk 0 (l.take j)<=Bk 0 l:=by
 have:Bk 0 l=Bk (Bk 0 (l.take j)) (l.drop j):=by
  unfold Bk;rw[<-Yk,List.take_append_drop]
 rw[this];exact PN _ _
def SN0 (D s:ByteArray):Am:=⟨[(4,.t (sv D)),(0,.t (sv s))],[],0,80⟩
def SN1 (D s:ByteArray) (j:Nat):Am:=⟨[(5,.t (iv (j:Int))),(4,.t (sv D)),(0,.t (sv s))],[],0,80⟩
def SN2 (D s:ByteArray) (j:Nat):Am:=⟨[(7,.t (iv (j:Int))),(6,.t (.v (.int .u64 (Bk 0 (D.data.toList.take j):Int)))),(4,.t (sv D)),(0,.t (sv s))],[],0,80⟩
def OkN (D:ByteArray) (j:Nat):Prop:=j<=D.size/\∀(i:Nat) c,i<j->D.data.toList[i]?=some c->Bd c=true
def OkM (D:ByteArray) (j:Nat):Prop:=j<=D.size/\Bk 0 (D.data.toList.take j)<=9223372036854775808
theorem nO {n:Nat} (h:n<=9223372036854775808):Xe.wrap (Xm.wrap (0-(n:Int))) = -(n:Int):=by
 by_cases h0:n=0
 .subst h0;rfl
 .have e:Xm.wrap (0-(n:Int))=18446744073709551616-(n:Int):=by
   unfold X9 Ya Yb;simp only[Yc,Xp,if_false]
   have e1:(2:Int)^64=18446744073709551616:=by decide
   rw[e1];omega
  rw[e];unfold X9 Ya Yb;simp only[Yl,Nat.reduceSub]
  have e1:(2:Int)^64=18446744073709551616:=by decide
  have e2:(2:Int)^63=9223372036854775808:=by decide
  simp only[e1,e2,ge_iff_le,decide_eq_true_eq];split<;>omega
theorem nP {n k:Nat} (hk:k<=9):Xm.wrap (9223372036854775808-(k:Int))=9223372036854775808-(k:Int) /\
  (Xm.wrap ((9223372036854775808-(k:Int)).tdiv 10)<(n:Int) ↔ 9223372036854775808<n*10+k):=by
 have h1:Xm.wrap (9223372036854775808-(k:Int))=9223372036854775808-(k:Int):=FT (by omega) (by omega);refine⟨h1,?_⟩;have h2:(9223372036854775808-(k:Int)).tdiv 10=(9223372036854775808-(k:Int)) / 10:=Int.tdiv_eq_ediv_of_nonneg (by omega);rw[h2,FT (by omega) (by omega)];omega
theorem nQ {c:UInt8} (h:Bd c=true):Xm.wrap (Ym.wrap ((c.toNat:Int)-48))=((c.toNat-48:Nat):Int):=by
 simp only[Bd,Xl,decide_eq_true_eq]at h
 have e:Ym.wrap ((c.toNat:Int)-48)=(c.toNat:Int)-48:=by
  unfold X9 Ya Yb;simp only[Yc,Xp,if_false]
  have e1:(2:Int)^8=256:=by decide
  rw[e1];omega
 rw[e,FT (by omega) (by omega)];omega
open Go Go.Abs Go.RowKit
def IsD (d:List UInt8) (D:ByteArray):Prop:=D.data.toList=d
def Zg (c:UInt8) (l:List UInt8):Prop:=(c==48&&l != [48])=false
def Al (d:List UInt8):Prop:=d.all Bd=true
def SN (s D:ByteArray):Am:=SN0 D s
theorem nR (s:ByteArray) (hs:s.size<=281474976710656):Bc Xc (G q) 100 [sv s] (· = Di s.data.toList):=by
 refine lU.call rfl ?_;(conv in Ux=>cbv)
 obtain⟨l,hl⟩:∃l,l=s.data.toList:=⟨_,rfl⟩
 have hlen:l.length=s.size:=by rw[hl];rfl
 rw[<-hl];have hnum:=U7 l
 obtain⟨d,hd⟩:∃d,d=dOf l:=⟨_,rfl⟩
 rw[<-hd]at hnum;refine Ao Fv ?_;simp -implicitDefEqProofs;refine Ao Fv ?_;simp -implicitDefEqProofs;refine AZ (α:=ByteArray) (SN s) (IsD d) (λ_=>rfl) ?_ ?_
 .refine A8 Fv ?_
  cases hl2:l with
  | nil=>
   have h0:s.size=0:=by rw[<-hlen,hl2];rfl
   have h0':¬(0:Int)<(s.size:Int):=by omega
   simp -implicitDefEqProofs [h0];refine A4.mk s ?_ (CN rfl rfl (by simp -implicitDefEqProofs [SN,SN0]) (by simp -implicitDefEqProofs [SN,SN0]));show s.data.toList=d;rw[hd,hl2,<-hl,hl2];rfl
  | cons c r=>
   have h0:0<s.size:=by rw[<-hlen,hl2];simp
   have ix:=Ij s 0 c (by rw[<-hl,hl2];rfl);simp only[X5]at ix
   have e45:((c.toNat:Int)==45)=(c==45):=by
    by_cases h:c=45
    .subst h;rfl
    .have:¬c.toNat=45:=λe=>h (X6.1 e);rw[beq_eq_false_iff_ne.2 h,zp];omega
   cases h45:(c==45)with
   | true=>
    have hsl:ED (.t (sv s)) (some (.t (iv 1))) none=some (.t (sv (s.extract 1 s.size))):=by
     have:1<=s.size:=by omega
     simp[ED,Cu,this]
    simp -implicitDefEqProofs [h0,ix,e45,h45,hsl];refine A4.mk (s.extract 1 s.size) ?_ (CN rfl rfl (by simp -implicitDefEqProofs [SN,SN0]) (by simp -implicitDefEqProofs [SN,SN0]))
    have h45':c=45:=by simpa using h45
    have:s.data.toList.length=s.size:=rfl;show(s.extract 1 s.size).data.toList=d;rw[Lib.extract_data,hd,<-hl,hl2,h45'];rw[<-hl,hl2]at this;simp only[Xn]at this;have e1:dOf (45::r)=r:=rfl;rw[e1];show List.take (s.size-1) r=r;exact Yn (by omega)
   | false=>
    simp -implicitDefEqProofs [h0,ix,e45,h45];refine A4.mk s ?_ (CN rfl rfl (by simp -implicitDefEqProofs [SN,SN0]) (by simp -implicitDefEqProofs [SN,SN0]));show s.data.toList=d;rw[<-hl,hl2,hd,hl2]
    have h2:(some c==some (45:UInt8))=false:=by simpa using h45
    show c::r=if(some c==some (45:UInt8))then r else c::r
    rw[h2];rfl
 intro D hD;have hDl:D.data.toList.length=D.size:=rfl;have hDd:D.data.toList=d:=hD
 have dl:d.length<=l.length:=by
  rw[hd];unfold dOf;split
  .simp
  .exact Xk _
 have hDs:D.size=d.length:=by rw[<-hDl,hDd]
 cases hde:d with
 | nil=>
  refine Ao Fv ?_;rw[hde]at hnum hDd
  have e0:(D.toList==[])=true:=by rw[stl,hDd];rfl
  simp -implicitDefEqProofs [SN,SN0,Fw,e0,Di,hnum]
 | cons c r=>
 have e0:(D.toList==[])=false:=by rw[stl,hDd,hde];rfl
 have ix:=Ij D 0 c (by rw[hDd,hde];rfl);simp only[X5]at ix
 have e48:((c.toNat:Int)==48)=(c==48):=by
  by_cases h:c=48
  .subst h;rfl
  .have:¬c.toNat=48:=λe=>h (X6.1 e);rw[beq_eq_false_iff_ne.2 h,zp];omega
 have hh:d.head?=some c:=by rw[hde];rfl
 have hz:(c==48)=true->(decide (1<D.size)||decide (1<s.size))=(l != [48]):=by
  intro h48
  have hc:c=48:=by simpa using h48
  have hds:D.size=r.length+1:=by rw[hDs,hde];rfl
  cases hl2:l with
  | nil=>rw[hd,hl2]at hde;cases hde
  | cons x t=>
   have hls:s.size=t.length+1:=by rw[<-hlen,hl2];rfl
   by_cases h45:x=45
   .subst h45;rw[hd,hl2]at hde;have:t=c::r:=hde;rw[hls,this];simp
   .have h2:(some x==some (45:UInt8))=false:=by simpa using h45
    rw[hd,hl2]at hde
    have h3:dOf (x::t)=x::t:=by
     show(if(some x==some (45:UInt8))then t else x::t)=_;rw[h2];rfl
    rw[h3]at hde;injection hde with h4 h5;subst h4;subst h5;subst hc
    cases t with
    | nil=>simp[hds,hls]
    | cons y t=>simp[hds,hls]
 have bad:(c==48&&l != [48])=true->Cl l=(0,8):=by
  intro h;rw[hnum,hh];simp only[X0,h,X7,if_true]
 refine AZ (α:=Unit) (λ_=>SN s D) (λ_=>Zg c l) (λ_=>rfl) ?_ ?_
 .refine A8 Fv ?_
  cases h48:(c==48)with
  | false=>
   simp -implicitDefEqProofs [SN,SN0,Fw,e0,ix,e48,h48];exact A4.mk () (by show(c==48&&l != [48])=false;rw[h48];rfl) (CN rfl rfl (by simp -implicitDefEqProofs) (by simp -implicitDefEqProofs))
  | true=>
   have hz':=hz h48;by_cases h1:1<D.size
   .have hb:=bad (by rw[h48,<-hz',zq h1];rfl)
    have h1':(1:Int)<(D.size:Int):=by omega
    simp -implicitDefEqProofs [SN,SN0,Fw,e0,ix,e48,h48,h1',Di,hb]
   .have h1':¬(1:Int)<(D.size:Int):=by omega
    by_cases h2:1<s.size
    .have hb:=bad (by rw[h48,<-hz',zq h2,X7];rfl)
     have h2':(1:Int)<(s.size:Int):=by omega
     simp -implicitDefEqProofs [SN,SN0,Fw,e0,ix,e48,h48,h1',h2',Di,hb]
    .have hb:(l != [48])=false:=by rw[<-hz',zt h1,zt h2];rfl
     have h2':¬(1:Int)<(s.size:Int):=by omega
     simp -implicitDefEqProofs [SN,SN0,Fw,e0,ix,e48,h48,h1',h2'];exact A4.mk () (by show(c==48&&l != [48])=false;rw[hb];simp) (CN rfl rfl (by simp -implicitDefEqProofs) (by simp -implicitDefEqProofs))
 rintro _ hgood;have hgood:(c==48&&l != [48])=false:=hgood
 have hnum2:(d.all Bd)=false->Cl l=(0,8):=by
  intro h;rw[hnum,h];simp
 have hnum3:(d.all Bd)=true->Cl l=if l.head?==some 45 then(if Bk 0 d<=9223372036854775808 then(-(Bk 0 d:Int),0)else(0,2))else(if Bk 0 d<9223372036854775808 then((Bk 0 d:Int),0)else(0,2)):=by
  intro h
  have hne:d.isEmpty=false:=by rw[hde];rfl
  rw[hnum,h,hh,hne];simp only[X0,hgood,Yj,X8,Xp,if_false]
 refine AZ (α:=Unit) (λ_=>SN s D) (λ_=>Al d) (λ_=>rfl) ?_ ?_
 .refine Ao Fv ?_;simp -implicitDefEqProofs [SN,SN0];refine AY ?_;refine Bj (SN1 D s) (λj=>D.size-j) (λj=>OkN D j) 0 (λ_=>rfl) ⟨Xf _,λi c h=>by omega⟩ ?_ rfl ?_
  .refine CN rfl rfl ?_ ?_<;>simp -implicitDefEqProofs [SN1]
  .rintro j ⟨hj,hok⟩;refine A8 Fv ?_;by_cases hlt:j<D.size
   .obtain⟨x,hx⟩:∃x,D.data.toList[j]?=some x:=⟨_,Xd hlt⟩
    have ixj:=Ij D j x hx;have e1:Xe.wrap ((j:Int)+1)=((j+1:Nat):Int):=Bb (by omega) (by omega);have qd:=LH Bd x
    cases hdx:Bd x with
    | true=>
     simp -implicitDefEqProofs [SN1,hlt,ixj,tbc,qd,hdx,e1];refine A4.mk (j+1) ⟨⟨hlt,λi y hi hy=>?_⟩,by omega⟩ (CN rfl rfl (by simp -implicitDefEqProofs [SN1]) (by simp -implicitDefEqProofs [SN1]));by_cases e:i=j
     .subst e;rw[hx]at hy;injection hy with hy;subst hy;exact hdx
     .exact hok i y (by omega) hy
    | false=>
     have hb:=hnum2 (by
      rw[List.all_eq_false]
      exact⟨x,by rw[<-hDd];exact Xj hx,by rw[hdx];simp⟩)
     simp -implicitDefEqProofs [SN1,hlt,ixj,tbc,qd,hdx,Di,hb]
   .have e:j=D.size:=by omega
    subst e;simp -implicitDefEqProofs [SN1];refine A4.mk () ?_ (CN rfl rfl (by simp -implicitDefEqProofs [SN,SN0]) (by simp -implicitDefEqProofs [SN,SN0]));show d.all Bd=true;rw[Xh,<-hDd];intro x hx;obtain⟨i,hi,e⟩:=List.getElem_of_mem hx;exact hok i x (by omega) (by rw[Xd hi,e])
 rintro _ hall;have hall:d.all Bd=true:=hall;have hn:=hnum3 hall;have hall':∀x∈d,Bd x=true:=Xh.1 hall;refine Ao Fv ?_;simp -implicitDefEqProofs [SN,SN0];refine AZ (α:=Unit) (λ_=>SN2 D s D.size) (λ_=>OkM D D.size) (λ_=>rfl) ?_ ?_
 .refine Ao Fv ?_;simp -implicitDefEqProofs;refine AY ?_;refine Bj (SN2 D s) (λj=>D.size-j) (λj=>OkM D j) 0 (λ_=>rfl) ⟨Xf _,by simp[Bk]⟩ ?_ rfl ?_
  .refine CN rfl rfl ?_ ?_<;>simp -implicitDefEqProofs [SN2,Bk]
  .rintro j ⟨hj,hle⟩;refine A8 Fv ?_;by_cases hlt:j<D.size
   .obtain⟨x,hx⟩:∃x,D.data.toList[j]?=some x:=⟨_,Xd hlt⟩
    have ixj:=Ij D j x hx;have hdx:=hall' x (by rw[<-hDd];exact Xj hx)
    have hk:x.toNat-48<=9:=by simp only[Bd,Xl,decide_eq_true_eq]at hdx;omega
    have e1:Xe.wrap ((j:Int)+1)=((j+1:Nat):Int):=Bb (by omega) (by omega);have bw:=nQ hdx;have C9:=nM D.data.toList j x hx
    obtain⟨n,hn'⟩:∃n,n=Bk 0 (D.data.toList.take j):=⟨_,rfl⟩
    rw[<-hn']at hle C9
    obtain⟨k,hk'⟩:∃k,k=x.toNat-48:=⟨_,rfl⟩
    rw[<-hk']at hk bw C9;obtain⟨w1,w2⟩:=nP (n:=n) hk;by_cases hbig:9223372036854775808<n*10+k
    .have hgt:=w2.2 hbig;have hmono:=nN D.data.toList (j+1);rw[C9,hDd]at hmono
     have hb:Cl l=(0,2):=by
      rw[hn];split
      .rw[zw (by omega)]
      .rw[zw (by omega)]
     simp -implicitDefEqProofs [SN2,<-hn',hlt,ixj,bw,w1,hgt,Di,hb]
    .have hgt:¬Xm.wrap ((9223372036854775808-(k:Int)).tdiv 10)<(n:Int):=λh=>hbig (w2.1 h);have e2:Xm.wrap ((n:Int)*10)=(n:Int)*10:=FT (by omega) (by omega)
     have e3:Xm.wrap ((n:Int)*10+(k:Int))=((n*10+k:Nat):Int):=by rw[FT (by omega) (by omega)];omega
     simp -implicitDefEqProofs [SN2,<-hn',hlt,ixj,bw,w1,hgt,e1,e2,e3];refine A4.mk (j+1) ⟨⟨hlt,by rw[C9];omega⟩,by omega⟩ (CN rfl rfl (by simp -implicitDefEqProofs [SN2,C9]) (by simp -implicitDefEqProofs [SN2]))
   .have e:j=D.size:=by omega
    subst e;simp -implicitDefEqProofs [SN2];exact A4.mk () ⟨hj,hle⟩ (CN rfl rfl (by simp -implicitDefEqProofs [SN2]) (by simp -implicitDefEqProofs [SN2]))
 rintro _ ⟨_,hle⟩
 have htk:D.data.toList.take D.size=d:=by rw[hDd,hDs];exact Yn (Xk _)
 rw[htk]at hle;refine A8 Fv ?_
 cases hneg:(l.head?==some 45)with
 | true=>
  have hlt:(D.size:Int)<(s.size:Int):=by
   have:d=l.tail:=by rw[hd];unfold dOf;rw[hneg];rfl
   have h0:l≠[]:=by intro e;rw[e]at hneg;cases hneg
   have:d.length+1=l.length:=by
    rw[this]
    cases l with
    | nil=>exact absurd rfl h0
    | cons x t=>simp
   omega
  rw[hneg,zu rfl,zu hle]at hn;have nw:=nO hle;rw[Int.zero_sub]at nw;simp -implicitDefEqProofs [SN2,htk,hlt,nw,Di,hn]
 | false=>
  have hlt:¬(D.size:Int)<(s.size:Int):=by
   have:d=l:=by rw[hd];unfold dOf;rw[hneg];rfl
   rw[<-this]at hlen;omega
  rw[hneg]at hn;simp only[Xp,if_false]at hn;by_cases h2:Bk 0 d=9223372036854775808
  .have e2:((Bk 0 d:Int)==9223372036854775808)=true:=by rw[h2];rfl
   rw[zw (by omega)]at hn;simp -implicitDefEqProofs [SN2,htk,hlt,e2,Di,hn]
  .have e2:((Bk 0 d:Int)==9223372036854775808)=false:=by rw[zp];omega
   rw[zu (by omega)]at hn;have e3:Xe.wrap (Bk 0 d:Int)=(Bk 0 d:Int):=Nj (by omega) (by omega);simp -implicitDefEqProofs [SN2,htk,hlt,e2,e3,Di,hn]
noncomputable def U8:Tbl:=[(82,NH)]
theorem nS:Ctx Xc (G q) (orc U8):=(AB.cons mC .nil).ctx mixed
theorem nT (n:Int) (h:-9223372036854775808<=n/\n<=9223372036854775807):Bc Xc (G q) 53 [iv n] (· = sv (bs (Lib.itoa n))):=by
 refine lV.runs nS rfl ?_
 have e:NH [iv n]=some (sv (bs (Lib.itoa n))):=by rw[NH,JK (τ:=Nk) (x:=n) rfl,zu h]
 (conv in Uy=>cbv);simp -implicitDefEqProofs [U8,e]
theorem nU {c:UInt8} (h:Bd c=true):c≠45:=by
 intro e;subst e;revert h;decide
end Go.Proofs.YtmgjopafgboljaaGreatDoor
namespace Go.Abs
open Go
section
variable {P : Program} {G : AM}
theorem Aw {B nx n:Nat} {env env':List (Nat×PV)} {H:Ak} (he:∀q∈env',Aj env q.1=some q.2):Sub P G B ⟨env,H,nx,n⟩ ⟨env',H,nx,n⟩:=by
 intro L a w hi;refine⟨L,⟨hi.heap,hi.nx,hi.base,hi.size,hi.defers,λk p h=>hi.env k p (he _ (Eo h))⟩,?_,λ_ _=>rfl⟩;exact⟨Xk _,λ_ _ _=>rfl,λ_ h=>h,λ_ h=>.inl h,λg ⟨b,r,h,e⟩=>.inr ⟨b,r,h,e⟩,BH.refl w,BR.refl w⟩
end
theorem PP:∀p:PV,ren (λx=>x) p=p:=by
 intro p
 exact PV.rec (motive_1:=λp=>ren (λx=>x) p=p) (motive_2:=λps=>Cc (λx=>x) ps=ps) (λx=>rfl) (λb o n z=>rfl) (λb o=>rfl) (λcs ih=>by simp only[ren,ih]) (λcs ih=>by simp only[ren,ih])
  (λf a c ih1 ih2=>by simp only[ren,ih1,ih2]) (λt x ih=>by simp only[ren,ih]) (λb=>rfl) rfl rfl (λp ps h1 h2=>by simp only[Cc,h1,h2]) p
theorem U9:∀ps:List PV,Cc (λx=>x) ps=ps
 | []=>rfl
 | p::ps=>by simp only[Cc,PP p,U9 ps]
theorem nV (r:Row):Gx (λx=>x) r=r:=by
 cases r with
 | cells ty cs=>simp only[Gx,U9]
 | iter t pos=>rfl
 | map kk es=>rfl
 | lp l x k p=>simp only[Gx,PP]
 | blk l o=>rfl
theorem nW {P:Program} {G:AM} {B nx nx' n:Nat} {env env':List (Nat×PV)} {H R:Ak} (hB:B<=nx') (hR:∀q∈R,Aj H q.1=some q.2/\q.1<nx'/\HX nx' q.2=true)
  (he:∀q∈env',Aj env q.1=some q.2/\under nx' q.2=true):Sub P G B ⟨env,H,nx,n⟩ ⟨env',R,nx',n⟩:=by
 refine Lp (λx=>x) rfl hB (λ_ _=>rfl) (λq hq=>?_) (λq hq=>?_) (λq _ q' _ e=>e)
 .rw[PP];exact he q hq
 .rw[nV];exact hR q hq
theorem UA (a b:ByteArray):(!(Op.bytesLess a.toList b.toList||a.toList==b.toList))=DE b a:=by
 rw[jD,Eb];by_cases e:a=b
 .subst e;simp[TL]
 .rw[zt e,X8]
  cases h:DE a b with
  | true=>rw[jK h];rfl
  | false=>rw[jJ h e];rfl
@[simp] theorem B0i {Φ:AP} {H:Ak} {nx:Nat} (isB:Bool) (nk:Option NK) (a b:ByteArray):A0 Φ H nx (.bin isB .gtr nk) [.t (.v (.string a)),.t (.v (.string b))]=some (.t (.v (.bool (DE b a))),H,nx):=by
 rw[<-UA];rfl
@[simp] theorem B0j {Φ:AP} {H:Ak} {nx:Nat} (isB:Bool) (nk:Option NK) (a b:ByteArray):A0 Φ H nx (.bin isB .geq nk) [.t (.v (.string a)),.t (.v (.string b))]=some (.t (.v (.bool (!DE a b))),H,nx):=rfl
@[simp] theorem B0k {Φ:AP} {H:Ak} {nx:Nat} (isB:Bool) (nk:Option NK) (a b:ByteArray):A0 Φ H nx (.bin isB .leq nk) [.t (.v (.string a)),.t (.v (.string b))]=some (.t (.v (.bool (!DE b a))),H,nx):=by
 rw[<-UA,Bool.not_not];rfl
section
variable {α : Type} {e : Enc α} {ty b : Nat} {H : Ak} {l : List α}
theorem JU {by' nx:Nat} {m:List α} {src:PV} (h:Aj H b=some (A5 e ty l)) (hs:CM H e.z src=some (m.length,(m.flatMap e.enc).map .t))
  (hb:(l.length+m.length)*by'<=140737488355328) (hb2:l.length+m.length<=9223372036854775807) :
  Dp ty e.z by' H nx (.row b 0 l.length e.z) src=some (.row nx 0 (l++m).length e.z,(nx,A5 e ty (l++m))::rem H b,nx+1):=by
 have hl:((l.flatMap e.enc).map PV.t).length=l.length*e.z:=by rw[Xg,G4]
 simp only[Dp,hs,h,A5,hl,true_and,zu (And.intro hb hb2)];simp
theorem UB {by' nx:Nat} (x:α) (z:Nat) (hz:e.z=z) (cs:List PV) (hcs:cs=(e.enc x).map .t) (n m k:Nat) (hn:n=l.length) (hm:m=nx+1) (hk:k=nx+2) (h:Aj H b=some (A5 e ty l)) (hb:b<nx)
  (hl:(l.length+1)*by'<=140737488355328) (hl2:l.length<=1000000000000) :
  Dp ty z by' ((nx,.cells ty cs)::H) m (.row b 0 n z) (.row nx 0 1 z)=some (.row m 0 (n+1) z,(m,A5 e ty (l++[x]))::rem ((nx,.cells ty cs)::H) b,k):=by
 subst hm;subst hk;subst hn;subst hz;subst hcs;have:=JU (e:=e) (ty:=ty) (b:=b) (l:=l) (nx:=nx+1) (by':=by') (m:=[x]) (H:=(nx,.cells ty ((e.enc x).map .t))::H) (by rw[A9,zw (by omega)];exact h) (TG (e:=e) x (by rw[A9,zu rfl])) (by simpa using hl) (by simp;omega);rw[Xu]at this;exact this
theorem NM {i:Nat} {x:α} (hx:l[i]?=some x):BN e.z (.row b 0 l.length e.z) (.t (iv (i:Int)))=some (.ptr b (i*e.z)):=by
 have:Ax e b l = .row b 0 l.length e.z:=by
  cases l with
  | nil=>simp at hx
  | cons y r=>rfl
 rw[<-this];exact Pz hx .i64
theorem DN (h:Aj H b=some (A5 e ty l)):toT H (.row b 0 l.length e.z)=some (slT e l,[b]):=by
 have hl:((l.flatMap e.enc).map PV.t).length=l.length*e.z:=by rw[Xg,G4]
 rw[toT,h,A5];simp only[hl,Nat.zero_add,Xk,if_true,List.drop_zero];rw[<-hl,Xr,Lv];rfl
theorem PQ (o n z:Nat):CV (.row b o n z)=some (.t (iv (n:Int))):=rfl
theorem nX {P:Program} {G:AM} {B k nx nx' n:Nat} {env env':List (Nat×PV)} {R:Ak} (h:Aj H k=some (A5 e ty l)) (hb:b<nx') (hB:B<=b)
  (hR:∀q∈R,Aj H q.1=some (Gx (λx=>if x=b then k else x) q.2)/\q.1<nx'/\q.1≠b/\q.1≠k/\HX nx' q.2=true)
  (he:∀q∈env',Aj env q.1=some (ren (λx=>if x=b then k else x) q.2)/\under nx' q.2=true) :
  Sub P G B ⟨env,H,nx,n⟩ ⟨env',R++[(b,A5 e ty l)],nx',n⟩:=by
 refine Lp (λx=>if x=b then k else x) rfl (by show B<=nx';omega) (λx hx=>by show(if x=b then k else x)=x;rw[zw (by omega)]) he (λq hq=>?_) (λq hq q' hq' eqn=>?_)
 .rcases Xw.1 hq with hq | hq
  .obtain⟨h1,h2,h3,h4,h5⟩:=hR q hq;refine⟨?_,h2,h5⟩;show Aj H (if q.1=b then k else q.1)=_;rw[zw h3];exact h1
  .simp only[Xx]at hq;subst hq;simp only[if_true,Px,Py];exact⟨h,hb,trivial⟩
 .have key:∀q∈R++[(b,A5 e ty l)],q.1=b\/(q.1≠b/\q.1≠k):=by
   intro q hq;rcases Xw.1 hq with hq | hq
   .obtain⟨h1,h2,h3,h4,h5⟩:=hR q hq;exact .inr ⟨h3,h4⟩
   .simp only[Xx]at hq;subst hq;exact .inl rfl
  have e:(if q.1=b then k else q.1)=(if q'.1=b then k else q'.1):=eqn;rcases key q hq with h1 | ⟨h1,h2⟩<;>rcases key q' hq' with h1' | ⟨h1',h2'⟩
  .rw[h1,h1']
  .rw[zu h1,zw h1']at e;exact absurd e.symm h2'
  .rw[zw h1,zu h1']at e;exact absurd e h2
  .rw[zw h1,zw h1']at e;exact e
end
abbrev Cy:=List PanicEntry
inductive Out where
 | ret (r:PV) (H:Ak) (nx:Nat)
 | pan (ch:Cy)
abbrev GA:=FuncId->List PV->Ak->Nat->Option Cy
def LK:List PV->Option Cy
 | [.t (.ic t (.v x))]=>some [{ v:=.iface t x,recovered:=false }]
 | [.t (.ic t (.ag [.v x]))]=>some [{ v:=.iface t (.agg #[x]),recovered:=false }]
 | _=>none
def NN (E:GA) (H:Ak) (nx:Nat) (k:MK) (ps:List PV):Option Cy:=
 match k with
 | .hcall f=>E f ps H nx
 | .hx .pan=>LK ps
 | _=>none
def Ji (x:Option Cy) (X:Cy->Prop) (C:Prop):Prop:=
 match x with
 | some ch=>X ch
 | none=>C
@[simp] theorem B0l (ch:Cy) (X:Cy->Prop) (C:Prop):Ji (some ch) X C=X ch:=rfl
@[simp] theorem NO (X:Cy->Prop) (C:Prop):Ji none X C=C:=rfl
def CZ (Φ:AP) (E:GA):List AF->Am->(Am->Prop)->(Cy->Prop)->Prop
 | [],s,K,_=>K s
 | m::r,s,K,X=>Ls (m.wants s.env)
  (Ji (NN E s.H s.nx m.k (m.xs.map (·.ev s.env))) X (B6 (A0 Φ s.H s.nx m.k (m.xs.map (·.ev s.env))) λq=>CZ Φ E r (s.set m.dst q) K X))
  (CZ Φ E r (s.set m.dst (.t (.v undef),s.H,s.nx)) K X)
def E6 (Q:Exit->Am->Prop) (ch:Cy):Prop:=∀s,Q (.panic ch) s
def CO (Φ:AP) (E:GA):AE->Am->(Exit->Am->Prop)->Prop
 | .skip,s,Q=>Q .normal s
 | .ops l,s,Q=>CZ Φ E l s (Q .normal) (E6 Q)
 | .draw l,s,Q=>Cn Φ l s (Q .normal)
 | .drawG k l,s,Q=>Dq Φ k 0 0 [] l s (Q .normal)
 | .drawE l,s,Q=>Dq Φ 0 0 0 [] l s (Q .normal)
 | .seq a b,s,Q=>CO Φ E a s (Gy (λs1=>CO Φ E b s1 Q) Q)
 | .cond c a b,s,Q=>Lu (c.ev s.env) (CO Φ E a s Q) (CO Φ E b s Q)
 | .block id b,s,Q=>CO Φ E b s (EV id Q)
 | .loop _,_,_=>False
 | .exit id,s,Q=>Q (.exit id) s
 | .ret,s,Q=>Q .ret s
 | .scope b,s,Q=>CO Φ E b s (GX Q)
section
variable {P : Program} {G : AM} {B N : Nat} {Φ : AP} {E : GA} {Q : Exit -> Am -> Prop} {s : Am}
def nY (P:Program) (G:AM) (B:Nat) (vs:List RV) (o:Out) (e:Exit) (s:Am):Prop:=
 match o with
 | .ret r H nx=>II P G B vs (λr0 H0 nx0=>r0=r/\H0=H/\nx0=nx) e s
 | .pan ch=>e = .panic ch
end
section
variable {P : Program} {G : AM} {B N : Nat} {Φ : AP} {E : GA} {Q : Exit -> Am -> Prop} {s : Am}
def JV (E:GA) (s:Am) (m:AF):Option Cy:=
 match m.k with
 | .hcall f=>match m.wants s.env with
  | some true=>E f (m.xs.map (·.ev s.env)) s.H s.nx
  | _=>none
 | _=>none
def FW (Φ:AP) (E:GA):Nat->En->List GI->Am->(Am->Prop)->(Cy->Prop)->Prop
 | _,_,[],s,K,_=>K s
 | n,pd,.o m kp ag::r,s,K,X=>Ji (JV E s m) X (B6 (Gw Φ s m) λq=>Ft Φ pd q.2.1 q.2.2 ag (FW Φ E (n+1) (Fq kp n m s q.1 pd) r (s.set m.dst q) K X))
 | _,_,.g _ _::_,_,_,_=>False
abbrev UC:=List (Nat×(List PV->Ak->Nat->Option Cy))
def orE (tbl:UC):GA:=λf ps H nx=>match Aj tbl f with
 | some g=>g ps H nx
 | none=>none
@[simp] theorem B0m (k f:Nat) (g:List PV->Ak->Nat->Option Cy) (r:UC) (ps:List PV) (H:Ak) (nx:Nat):orE ((k,g)::r) f ps H nx=if k=f then g ps H nx else orE r f ps H nx:=by
 unfold orE;rw[A9];by_cases h:k=f
 .rw[zu h,zu h]
 .rw[zw h,zw h]
@[simp] theorem B0n (f:Nat) (ps:List PV) (H:Ak) (nx:Nat):orE [] f ps H nx=none:=rfl
end
section
variable {P : Program} {G : AM} {B : Nat} {Φ : AP} {E : GA} {env : List (Nat × PV)} {H : Ak} {nx n : Nat} {K : Am -> Prop} {X : Cy -> Prop} {Q : Exit -> Am -> Prop} {d : Option Nat} {k : MK} {xs : List Opd} {r : List AF}
@[simp] theorem B0o (f:Nat) (ps:List PV):NN E H nx (.hcall f) ps=E f ps H nx:=rfl
@[simp] theorem B0p (ps:List PV):NN E H nx (.hx .pan) ps=LK ps:=rfl
@[simp] theorem B0q (t:Nat) (x:Value):LK [.t (.ic t (.v x))]=some [{ v:=.iface t x,recovered:=false }]:=rfl
@[simp] theorem B0r (t:Nat) (x:Value):LK [.t (.ic t (.ag [.v x]))]=some [{ v:=.iface t (.agg #[x]),recovered:=false }]:=rfl
@[simp] theorem B0s (t:Nat) (x:T):exM (.mki t) [.t x]=some (.t (.ic t x)):=rfl
def BP:MK->Bool
 | .hcall _=>false
 | .hx .pan=>false
 | _=>true
@[simp] theorem B0t:BP (.mv)=true:=rfl
@[simp] theorem B0u:BP (.pick)=true:=rfl
@[simp] theorem B0v (isB:Bool) (op:BinOp) (nk:Option NK):BP (.bin isB op nk)=true:=rfl
@[simp] theorem B0w (op:UnOp):BP (.un op)=true:=rfl
@[simp] theorem B0x (k:Option IntKind):BP (.conv k)=true:=rfl
@[simp] theorem B0y (agg:Bool) (n:Nat):BP (.load agg n)=true:=rfl
@[simp] theorem B0z (off:Nat):BP (.faddr off)=true:=rfl
@[simp] theorem B1a (off:Nat) (agg:Bool) (n:Nat):BP (.field off agg n)=true:=rfl
@[simp] theorem B1b (z:Nat):BP (.iaddr z)=true:=rfl
@[simp] theorem B1c (len:Nat) (z:Nat):BP (.aaddr len z)=true:=rfl
@[simp] theorem B1d:BP (.index)=true:=rfl
@[simp] theorem B1e (lo:Bool) (hi:Bool):BP (.slstr lo hi)=true:=rfl
@[simp] theorem B1f (z:Nat) (lo:Bool) (hi:Bool):BP (.slice z lo hi)=true:=rfl
@[simp] theorem B1g (i:Nat):BP (.ext i)=true:=rfl
@[simp] theorem B1h:BP (.chk)=true:=rfl
@[simp] theorem B1i:BP (.lenstr)=true:=rfl
@[simp] theorem B1j:BP (.lensl)=true:=rfl
@[simp] theorem B1k:BP (.min)=true:=rfl
@[simp] theorem B1l:BP (.max)=true:=rfl
@[simp] theorem B1m (n:Nat):BP (.store n)=true:=rfl
@[simp] theorem B1n (e:Nat) (n:Nat) (b:Nat) (zc:List Value):BP (.make e n b zc)=true:=rfl
@[simp] theorem B1o (e:Nat) (n:Nat) (zc:List Value) (len:Nat) (idx:List Nat):BP (.bslice e n zc len idx)=true:=rfl
@[simp] theorem B1p (pl:List (Nat×Nat)) (zc:List Value) (idx:List Nat):BP (.build pl zc idx)=true:=rfl
@[simp] theorem B1q (n:Nat) (zc:List Value) (idx:List Nat):BP (.barr n zc idx)=true:=rfl
@[simp] theorem B1r (t:Nat):BP (.box t)=true:=rfl
@[simp] theorem B1s (t:Nat) (zc:List Value):BP (.alloc t zc)=true:=rfl
@[simp] theorem B1t (e:Nat) (n:Nat) (b:Nat):BP (.app e n b)=true:=rfl
@[simp] theorem B1u (f:Nat):BP (.call f)=true:=rfl
@[simp] theorem B1v:BP (.callv)=true:=rfl
@[simp] theorem B1w (e:Nat) (n:Nat) (zc:List Value) (len:Nat) (idx:List Nat):BP (.tslice e n zc len idx)=true:=rfl
@[simp] theorem B1x:BP (.bad)=true:=rfl
@[simp] theorem B1y (e:EK):BP (.ex e)=true:=rfl
theorem UD {ps:List PV} (h:BP k=true):NN E H nx k ps=none:=by
 cases k
 case hx h2=>cases h2<;>first | (cases h;done) | rfl
 all_goals first | (cases h;done) | rfl
@[simp] theorem B1z {s:Am}:CZ Φ E [] s K X=K s:=rfl
@[simp] theorem B2a (hk:BP k=true):CZ Φ E (⟨d,k,xs,none⟩::r) ⟨env,H,nx,n⟩ K X=B6 (A0 Φ H nx k (xs.map (·.ev env))) λq=>CZ Φ E r (Am.set ⟨env,H,nx,n⟩ d q) K X:=by
 simp only[CZ,AF.wants,IK,UD hk,NO]
@[simp] theorem B2b {f:Nat}:CZ Φ E (⟨d,.hcall f,xs,none⟩::r) ⟨env,H,nx,n⟩ K X=Ji (E f (xs.map (·.ev env)) H nx) X (B6 (A0 Φ H nx (.hcall f) (xs.map (·.ev env))) λq=>CZ Φ E r (Am.set ⟨env,H,nx,n⟩ d q) K X):=rfl
@[simp] theorem B2c:CZ Φ E (⟨d,.hx .pan,xs,none⟩::r) ⟨env,H,nx,n⟩ K X=Ji (LK (xs.map (·.ev env))) X (B6 (A0 Φ H nx (.hx .pan) (xs.map (·.ev env))) λq=>CZ Φ E r (Am.set ⟨env,H,nx,n⟩ d q) K X):=rfl
@[simp] theorem B2d {g:Nat} {want:Bool} (h:Aj env g=some (.t (.v (.bool want)))) (hk:BP k=true) :
  CZ Φ E (⟨d,k,xs,some (g,want)⟩::r) ⟨env,H,nx,n⟩ K X=B6 (A0 Φ H nx k (xs.map (·.ev env))) λq=>CZ Φ E r (Am.set ⟨env,H,nx,n⟩ d q) K X:=by
 simp only[CZ,AF.wants,h,beq_self_eq_true,IK,UD hk,NO]
theorem UE {g:Nat} {want b:Bool} (h:Aj env g=some (.t (.v (.bool b)))) (hb:(b==want)=false) :
  CZ Φ E (⟨d,k,xs,some (g,want)⟩::r) ⟨env,H,nx,n⟩ K X=CZ Φ E r (Am.set ⟨env,H,nx,n⟩ d (.t (.v undef),H,nx)) K X:=by
 simp only[CZ,AF.wants,h,hb,HY]
@[simp] theorem B2e {g:Nat} (h:Aj env g=some (.t (.v (.bool false)))) :
 CZ Φ E (⟨d,k,xs,some (g,true)⟩::r) ⟨env,H,nx,n⟩ K X=CZ Φ E r (Am.set ⟨env,H,nx,n⟩ d (.t (.v undef),H,nx)) K X:=UE h rfl
@[simp] theorem B2f {g:Nat} (h:Aj env g=some (.t (.v (.bool true)))) :
 CZ Φ E (⟨d,k,xs,some (g,false)⟩::r) ⟨env,H,nx,n⟩ K X=CZ Φ E r (Am.set ⟨env,H,nx,n⟩ d (.t (.v undef),H,nx)) K X:=UE h rfl
@[simp] theorem B2g {g:Nat} {want:Bool} (h:Aj env g=some (.t (.v undef))) :
  CZ Φ E (⟨d,k,xs,some (g,want)⟩::r) ⟨env,H,nx,n⟩ K X=CZ Φ E r (Am.set ⟨env,H,nx,n⟩ d (.t (.v undef),H,nx)) K X:=by
 simp only[CZ,AF.wants,h,undef,HY]
@[simp] theorem B2h {s:Am}:CO Φ E .skip s Q=Q .normal s:=rfl
@[simp] theorem B2i {l:List AF}:CO Φ E (.ops l) ⟨env,H,nx,n⟩ Q=CZ Φ E l ⟨env,H,nx,n⟩ (Q .normal) (E6 Q):=rfl
@[simp] theorem B2j {l:List AF}:CO Φ E (.draw l) ⟨env,H,nx,n⟩ Q=Cn Φ l ⟨env,H,nx,n⟩ (Q .normal):=rfl
@[simp] theorem B2k {κ:Nat} {l:List GI}:CO Φ E (.drawG κ l) ⟨env,H,nx,n⟩ Q=Dq Φ κ 0 0 [] l ⟨env,H,nx,n⟩ (Q .normal):=rfl
@[simp] theorem B2l {l:List GI}:CO Φ E (.drawE l) ⟨env,H,nx,n⟩ Q=Dq Φ 0 0 0 [] l ⟨env,H,nx,n⟩ (Q .normal):=rfl
@[simp] theorem B2m {a b:AE}:CO Φ E (.seq a b) ⟨env,H,nx,n⟩ Q=CO Φ E a ⟨env,H,nx,n⟩ (Gy (λs1=>CO Φ E b s1 Q) Q):=rfl
@[simp] theorem B2n {c:Opd} {a b:AE} (h:c.ev env = .t (.v (.bool true))):CO Φ E (.cond c a b) ⟨env,H,nx,n⟩ Q=CO Φ E a ⟨env,H,nx,n⟩ Q:=by simp only[CO,h,T4]
@[simp] theorem B2o {c:Opd} {a b:AE} (h:c.ev env = .t (.v (.bool false))):CO Φ E (.cond c a b) ⟨env,H,nx,n⟩ Q=CO Φ E b ⟨env,H,nx,n⟩ Q:=by simp only[CO,h,T5]
@[simp] theorem B2p {i:Nat} {a:AE}:CO Φ E (.block i a) ⟨env,H,nx,n⟩ Q=CO Φ E a ⟨env,H,nx,n⟩ (EV i Q):=rfl
@[simp] theorem B2q {i:Nat} {s:Am}:CO Φ E (.exit i) s Q=Q (.exit i) s:=rfl
@[simp] theorem B2r {a:AE}:CO Φ E (.scope a) ⟨env,H,nx,n⟩ Q=CO Φ E a ⟨env,H,nx,n⟩ (GX Q):=rfl
@[simp] theorem B2s {s:Am}:CO Φ E .ret s Q=Q .ret s:=rfl
@[simp] theorem B2t (K:Am->Prop) (ch:Cy):E6 (Gy K Q) ch=E6 Q ch:=rfl
@[simp] theorem B2u (i:Nat) (ch:Cy):E6 (EV i Q) ch=E6 Q ch:=rfl
@[simp] theorem B2v (ch:Cy):E6 (GX Q) ch=E6 Q ch:=rfl
@[simp] theorem B2w {α:Type} (S:α->Am) (Ok:α->Prop) (ch:Cy):E6 (JI P G B S Ok Q) ch=E6 Q ch:=rfl
@[simp] theorem B2x (S:Am) (ch:Cy):E6 (Lw P G B S Q) ch=E6 Q ch:=rfl
@[simp] theorem B2y (ch:Cy):E6 (Ia Q) ch=E6 Q ch:=rfl
@[simp] theorem B2z (vs:List RV) (o:Out) (ch:Cy):E6 (nY P G B vs o) ch=(o = .pan ch):=by
 refine propext ⟨λh=>?_,λh s=>?_⟩
 .have:=h ⟨[],[],0,0⟩
  cases o with
  | ret r H nx=>
   obtain⟨he,_⟩:=(show II P G B vs (λr0 H0 nx0=>r0=r/\H0=H/\nx0=nx) (.panic ch) ⟨[],[],0,0⟩from this)
   rcases he with he | he<;>cases he
  | pan c=>
   have e:Exit.panic ch=Exit.panic c:=this;injection e with e;rw[e]
 .subst h;exact rfl
end
def HD:MK->Bool
 | .hcall _=>true
 | _=>false
@[simp] theorem B3a:HD .mv=false:=rfl
@[simp] theorem B3b (n:Nat):HD (.faddr n)=false:=rfl
@[simp] theorem B3c (b:Bool) (n:Nat):HD (.load b n)=false:=rfl
@[simp] theorem B3d (b:Bool) (op:BinOp) (nk:Option NK):HD (.bin b op nk)=false:=rfl
@[simp] theorem B3e (e n:Nat) (zc:List Value) (len:Nat) (idx:List Nat):HD (.tslice e n zc len idx)=false:=rfl
@[simp] theorem B3f (e n b:Nat):HD (.app e n b)=false:=rfl
@[simp] theorem B3g (n:Nat):HD (.store n)=false:=rfl
section
variable {Φ : AP} {E : GA} {env : List (Nat × PV)} {H : Ak} {nx n j : Nat} {K : Am -> Prop} {X : Cy -> Prop} {d : Option Nat} {k : MK} {xs : List Opd} {gr : List GI} {pd : En} {kp : Bool} {ag : List Nat}
@[simp] theorem B3h {s:Am}:FW Φ E j pd [] s K X=K s:=rfl
@[simp] theorem B3i (hk:AL k=true) (hc:HD k=false):FW Φ E j pd (.o ⟨d,k,xs,none⟩ kp ag::gr) ⟨env,H,nx,n⟩ K X =
  B6 (Bi Φ H nx k (xs.map (·.ev env))) λv=>Ft Φ pd H nx ag (FW Φ E (j+1) (Fq kp j ⟨d,k,xs,none⟩ ⟨env,H,nx,n⟩ v pd) gr (Am.set ⟨env,H,nx,n⟩ d (v,H,nx)) K X):=by
 have hp:JV E ⟨env,H,nx,n⟩ ⟨d,k,xs,none⟩=none:=by
  unfold JV;split
  .rename_i f e;simp only at e;subst e;cases hc
  .rfl
 simp only[FW,hp,NO,Gw,hk,if_true,HT,AF.wants,T3]
@[simp] theorem B3j (hk:AL k=false) (hc:HD k=false):FW Φ E j pd (.o ⟨d,k,xs,none⟩ kp ag::gr) ⟨env,H,nx,n⟩ K X =
  B6 (A0 Φ H nx k (xs.map (·.ev env))) λq=>Ft Φ pd q.2.1 q.2.2 ag (FW Φ E (j+1) (Fq kp j ⟨d,k,xs,none⟩ ⟨env,H,nx,n⟩ q.1 pd) gr (Am.set ⟨env,H,nx,n⟩ d q) K X):=by
 have hp:JV E ⟨env,H,nx,n⟩ ⟨d,k,xs,none⟩=none:=by
  unfold JV;split
  .rename_i f e;simp only at e;subst e;cases hc
  .rfl
 simp only[FW,hp,NO,Gw,hk,Xp,if_false,AF.wants]
@[simp] theorem B3k {f:Nat}:FW Φ E j pd (.o ⟨d,.hcall f,xs,none⟩ kp ag::gr) ⟨env,H,nx,n⟩ K X =
  Ji (E f (xs.map (·.ev env)) H nx) X (B6 (A0 Φ H nx (.hcall f) (xs.map (·.ev env))) λq=>Ft Φ pd q.2.1 q.2.2 ag (FW Φ E (j+1) (Fq kp j ⟨d,.hcall f,xs,none⟩ ⟨env,H,nx,n⟩ q.1 pd) gr (Am.set ⟨env,H,nx,n⟩ d q) K X)):=by
 have hq:AL (.hcall f)=false:=rfl;simp only[FW,JV,Gw,hq,Xp,if_false,AF.wants]
end
section
variable {P : Program} {G : AM}
noncomputable def nZ (ps0:List PV) (H0:Ak) (nx0:Nat) (ch:Cy) (ps:List PV) (H:Ak) (nx:Nat):Option Cy:=
 open Classical in if ps = ps0 /\ H = H0 /\ nx = nx0 then some ch else none
noncomputable def hO (ps0:List PV) (H0:Ak) (nx0:Nat):Out->List PV->Ak->Nat->Option (PV×Ak×Nat)
 | .ret r H' nx'=>IM ps0 H0 nx0 (r,H',nx')
 | .pan _=>λ_ _ _=>none
noncomputable def eO (ps0:List PV) (H0:Ak) (nx0:Nat):Out->List PV->Ak->Nat->Option Cy
 | .ret _ _ _=>λ_ _ _=>none
 | .pan ch=>nZ ps0 H0 nx0 ch
end
end Go.Abs
namespace Go.Proofs.YtmgjopafgboljaaGreatDoor
open Go Go.Abs
noncomputable def UF:AE:=cm Tryz.f33 57
theorem o5 {q:Gl}:AQ Xc (G q) 33 1 57 UF [(.tmp 2)]:=fk Tryz.func33 (by kernel_rfl) (by kernel_rfl)
noncomputable def UG:AE:=cm Tryz.f34 40
theorem o7 {q:Gl}:AQ Xc (G q) 34 1 40 UG [(.tmp 2)]:=fk Tryz.func34 (by kernel_rfl) (by kernel_rfl)
noncomputable def UH:AE:=cm Tryz.f32 41
theorem o8 {q:Gl}:AQ Xc (G q) 32 1 41 UH [(.tmp 2)]:=fk Tryz.func32 (by kernel_rfl) (by kernel_rfl)
noncomputable def UI:AE:=cm Tryz.f14 109
theorem o9 {q:Gl}:AQ Xc (G q) 14 1 109 UI [(.tmp 2)]:=fk Tryz.func14 (by kernel_rfl) (by kernel_rfl)
def UJ:AE:=(jO [jM 1 (.box 26) [jT 0],jM 2 (.alloc 26 [(.int .i64 0),(.int .i64 0),(.slice none 0 0),(.slice none 0 0),(.slice none 0 0)]) []] (jO [jM 14 (.hx (.mnew (.int .i64))) [],jM 3 (.alloc 56 [(.map none)]) [],⟨none,.store 1,[jT 3,jT 14],none⟩] (jO [jM 4 (.alloc 26 [(.int .i64 0),(.int .i64 0),(.slice none 0 0),(.slice none 0 0),(.slice none 0 0)]) []] (jO [jM 15 (.ex (.mkf (.func 40) 0)) [jT 3,jT 4,jT 1],jV 5 15] (jO [jV 16 5,jM 17 (.faddr 0) [jT 1],jM 18 jL [jT 17],jM 19 .callv [jT 16,jT 18],jM 20 (.faddr 0) [jT 4],⟨none,.store 1,[jT 20,jT 19],none⟩] (jO [jV 21 5,jM 22 (.faddr 1) [jT 1],jM 23 jL [jT 22],jM 24 .callv [jT 21,jT 23],jM 25 (.faddr 1) [jT 4],⟨none,.store 1,[jT 25,jT 24],none⟩] (.seq (jO [jM 26 (.faddr 3) [jT 1],jM 27 jL [jT 26],jM 28 .lensl [jT 27],jM 29 .mv [jI 0]] (.block 0 (.loop (jO [jM 30 (jB .lss) [jT 29,jT 28]] (.seq (.cond (jT 30) .skip (.exit 0)) (.seq (.block 1 (jO [jM 31 (.iaddr 3) [jT 27,jT 29],jM 32 (.load true 3) [jT 31],jM 7 (.alloc 47 [(.string ⟨#[]⟩),(.int .i64 0),(.slice none 0 0)]) [],⟨none,.store 3,[jT 7,jT 32],none⟩] (.seq (.drawE [(.o ⟨some 33,.faddr 0,[jT 7],none⟩ false []),(.o ⟨some 34,.load false 1,[jT 33],none⟩ true []),(.o ⟨some 35,.mv,[jT 5],none⟩ false []),(.o ⟨some 36,.faddr 1,[jT 7],none⟩ false []),(.o ⟨some 37,.load false 1,[jT 36],none⟩ false []),(.o ⟨some 38,.callv,[jT 35,jT 37],none⟩ false [1]),(.o ⟨some 39,(.build [(0,1),(1,1),(2,1)] [(.string ⟨#[]⟩),(.int .i64 0),(.slice none 0 0)] [0,1]),[jT 34,jT 38],none⟩ false []),(.o ⟨some 8,(.alloc 47 [(.string ⟨#[]⟩),(.int .i64 0),(.slice none 0 0)]),[],none⟩ false []),(.o ⟨none,.store 3,[jT 8,jT 39],none⟩ false [])]) (.seq (jO [jM 40 (.faddr 2) [jT 7],jM 41 jL [jT 40],jM 42 .lensl [jT 41],jM 43 .mv [jI 0]] (.block 2 (.loop (jO [jM 44 (jB .lss) [jT 43,jT 42]] (.seq (.cond (jT 44) .skip (.exit 2)) (.seq (.block 3 (jO [jM 45 (.iaddr 2) [jT 41,jT 43],jM 46 (.load true 2) [jT 45],jM 10 (.alloc 50 [(.string ⟨#[]⟩),(.int .i64 0)]) [],⟨none,.store 2,[jT 10,jT 46],none⟩] (.drawG 0 [(.o ⟨some 47,.faddr 2,[jT 8],none⟩ false []),(.o ⟨some 48,.load false 1,[jT 47],none⟩ true []),(.o ⟨some 49,.faddr 0,[jT 10],none⟩ false []),(.o ⟨some 50,.load false 1,[jT 49],none⟩ true []),(.o ⟨some 51,.mv,[jT 5],none⟩ false []),(.o ⟨some 52,.faddr 1,[jT 10],none⟩ false []),(.o ⟨some 53,.load false 1,[jT 52],none⟩ false []),(.o ⟨some 54,.callv,[jT 51,jT 53],none⟩ false [1,3]),(.o ⟨some 55,(.build [(0,1),(1,1)] [(.string ⟨#[]⟩),(.int .i64 0)] [0,1]),[jT 50,jT 54],none⟩ false []),(.o ⟨some 56,(.tslice 50 2 [(.string ⟨#[]⟩),(.int .i64 0)] 1 [0]),[jT 55],none⟩ false []),(.o ⟨some 57,.app 50 2 24,[jT 48,jT 56],none⟩ false []),(.o ⟨some 58,.faddr 2,[jT 8],none⟩ false []),(.o ⟨none,.store 1,[jT 58,jT 57],none⟩ false [])]))) (.ops [jM 59 (jB .add) [jT 43,(jI 1)],jV 43 59]))))))) (.ops [jM 60 (.faddr 3) [jT 4],jM 61 jL [jT 60],jM 62 (.load true 3) [jT 8],jM 63 (.bslice 47 3 [(.string ⟨#[]⟩),(.int .i64 0),(.slice none 0 0)] 1 [0]) [jT 62],jM 64 (.app 47 3 48) [jT 61,jT 63],jM 65 (.faddr 3) [jT 4],⟨none,.store 1,[jT 65,jT 64],none⟩]))))) (.ops [jM 66 (jB .add) [jT 29,(jI 1)],jV 29 66]))))))) (.seq (jO [jM 67 (.faddr 4) [jT 1],jM 68 jL [jT 67],jM 69 .lensl [jT 68],jM 70 .mv [jI 0]] (.block 4 (.loop (jO [jM 71 (jB .lss) [jT 70,jT 69]] (.seq (.cond (jT 71) .skip (.exit 4)) (.seq (.block 5 (jO [jM 72 (.iaddr 2) [jT 68,jT 70],jM 73 (.load true 2) [jT 72],jM 12 (.alloc 52 [(.int .i64 0),(.int .i64 0)]) [],⟨none,.store 2,[jT 12,jT 73],none⟩] (jO [jV 74 5,jM 75 (.faddr 0) [jT 12],jM 76 jL [jT 75],jM 77 .callv [jT 74,jT 76],jV 13 77] (.drawG 0 [(.o ⟨some 78,.faddr 4,[jT 4],none⟩ false []),(.o ⟨some 79,.load false 1,[jT 78],none⟩ true []),(.o ⟨some 80,.mv,[jT 13],none⟩ false []),(.o ⟨some 81,.mv,[jT 5],none⟩ false []),(.o ⟨some 82,.faddr 1,[jT 12],none⟩ false []),(.o ⟨some 83,.load false 1,[jT 82],none⟩ false []),(.o ⟨some 84,.callv,[jT 81,jT 83],none⟩ false [1]),(.o ⟨some 85,(.build [(0,1),(1,1)] [(.int .i64 0),(.int .i64 0)] [0,1]),[jT 80,jT 84],none⟩ false []),(.o ⟨some 86,(.tslice 52 2 [(.int .i64 0),(.int .i64 0)] 1 [0]),[jT 85],none⟩ false []),(.o ⟨some 87,.app 52 2 16,[jT 79,jT 86],none⟩ false []),(.o ⟨some 88,.faddr 4,[jT 4],none⟩ false []),(.o ⟨none,.store 1,[jT 88,jT 87],none⟩ false [])])))) (.ops [jM 89 (jB .add) [jT 70,(jI 1)],jV 70 89]))))))) (jO [jM 90 (.load true 5) [jT 4],⟨none,.store 5,[jT 2,jT 90],none⟩] .ret)))))))))
theorem oD {q:Gl}:AQ Xc (G q) 18 1 91 UJ [(.cell 2 true 5)]:=⟨Tryz.f18,Tryz.func18,by kernel_rfl,by kernel_rfl,by kernel_rfl,by kernel_rfl⟩
noncomputable def NP:AE:=cm Tryz.f40 32
theorem oE {q:Gl}:AQ Xc (G q) 40 1 32 NP [(.tmp 5)]:=fk Tryz.func40 (by kernel_rfl) (by kernel_rfl)
noncomputable def UK:AE:=cm Tryz.f21 23
theorem oF {q:Gl}:AQ Xc (G q) 21 1 23 UK [(.tmp 2)]:=fk Tryz.func21 (by kernel_rfl) (by kernel_rfl)
noncomputable def UL:AE:=cm Tryz.f26 97
theorem oG {q:Gl}:AQ Xc (G q) 26 1 97 UL [(.tmp 2)]:=fk Tryz.func26 (by kernel_rfl) (by kernel_rfl)
noncomputable def PR:AE:=cm Tryz.f52 12
theorem oH {q:Gl}:AQ Xc (G q) 52 1 12 PR [(.tmp 3)]:=fk Tryz.func52 (by kernel_rfl) (by kernel_rfl)
noncomputable def UM:AE:=cm Tryz.f44 99
theorem oI {q:Gl}:AQ Xc (G q) 44 1 99 UM [(.tmp 2)]:=fk Tryz.func44 (by kernel_rfl) (by kernel_rfl)
noncomputable def NQ:AE:=cm Tryz.f72 15
theorem oJ {q:Gl}:AQ Xc (G q) 72 2 15 NQ []:=fk Tryz.func72 (by kernel_rfl) (by kernel_rfl)
noncomputable def UN:AE:=cm Tryz.f73 39
theorem oK {q:Gl}:AQ Xc (G q) 73 2 39 UN [(.tmp 4)]:=fk Tryz.func73 (by kernel_rfl) (by kernel_rfl)
noncomputable def UO:AE:=cm Tryz.f74 53
theorem oM {q:Gl}:AQ Xc (G q) 74 2 53 UO [(.tmp 4)]:=fk Tryz.func74 (by kernel_rfl) (by kernel_rfl)
noncomputable def UP:AE:=cm Tryz.f76 91
theorem oN {q:Gl}:AQ Xc (G q) 76 4 91 UP [(.tmp 8),(.tmp 9)]:=fk Tryz.func76 (by kernel_rfl) (by kernel_rfl)
noncomputable def UQ:AE:=cm Tryz.f79 31
theorem oO {q:Gl}:AQ Xc (G q) 79 2 31 UQ []:=fk Tryz.func79 (by kernel_rfl) (by kernel_rfl)
noncomputable def UR:AE:=cm Tryz.f48 33
theorem oP {q:Gl}:AQ Xc (G q) 48 2 33 UR [(.tmp 4),(.tmp 5)]:=fk Tryz.func48 (by kernel_rfl) (by kernel_rfl)
noncomputable def PS:AE:=cm Tryz.f49 93
theorem US {q:Gl}:AQ Xc (G q) 49 2 93 PS [(.tmp 4)]:=fk Tryz.func49 (by kernel_rfl) (by kernel_rfl)
noncomputable def PT:AE:=cm Tryz.f77 86
theorem UT {q:Gl}:AQ Xc (G q) 77 2 86 PT [(.tmp 4)]:=fk Tryz.func77 (by kernel_rfl) (by kernel_rfl)
noncomputable def UU:AE:=cm Tryz.f78 60
theorem oQ {q:Gl}:AQ Xc (G q) 78 2 60 UU [(.tmp 4),(.tmp 5)]:=fk Tryz.func78 (by kernel_rfl) (by kernel_rfl)
noncomputable def UV:AE:=cm Tryz.f23 117
theorem oR {q:Gl}:AQ Xc (G q) 23 2 117 UV [(.tmp 4),(.tmp 5)]:=fk Tryz.func23 (by kernel_rfl) (by kernel_rfl)
noncomputable def UW:AE:=cm Tryz.f25 14
theorem oS {q:Gl}:AQ Xc (G q) 25 2 14 UW [(.tmp 4)]:=fk Tryz.func25 (by kernel_rfl) (by kernel_rfl)
noncomputable def UX:AE:=cm Tryz.f90 23
theorem oT {q:Gl}:AQ Xc (G q) 90 1 23 UX []:=fk Tryz.func90 (by kernel_rfl) (by kernel_rfl)
noncomputable def UY:AE:=cm Tryz.f87 52
theorem oU {q:Gl}:AQ Xc (G q) 87 2 52 UY []:=fk Tryz.func87 (by kernel_rfl) (by kernel_rfl)
noncomputable def UZ:AE:=cm Tryz.f88 35
theorem oV {q:Gl}:AQ Xc (G q) 88 2 35 UZ [(.tmp 4)]:=fk Tryz.func88 (by kernel_rfl) (by kernel_rfl)
noncomputable def Va:AE:=cm Tryz.f123 92
theorem oW {q:Gl}:AQ Xc (G q) 123 3 92 Va [(.tmp 6)]:=fk Tryz.func123 (by kernel_rfl) (by kernel_rfl)
noncomputable def Vb:AE:=cm Tryz.f86 153
theorem oX {q:Gl}:AQ Xc (G q) 86 1 153 Vb [(.tmp 2)]:=fk Tryz.func86 (by kernel_rfl) (by kernel_rfl)
noncomputable def Vc:AE:=cm Tryz.f89 52
theorem oY {q:Gl}:AQ Xc (G q) 89 1 52 Vc [(.cell 2 true 3)]:=fk Tryz.func89 (by kernel_rfl) (by kernel_rfl)
noncomputable def Vd:AE:=cm Tryz.f55 97
theorem oZ {q:Gl}:AQ Xc (G q) 55 1 97 Vd [(.cell 2 true 5)]:=fk Tryz.func55 (by kernel_rfl) (by kernel_rfl)
noncomputable def Ve:AE:=cm Tryz.f56 93
theorem p8 {q:Gl}:AQ Xc (G q) 56 1 93 Ve [(.tmp 2),(.tmp 3),(.tmp 4)]:=fk Tryz.func56 (by kernel_rfl) (by kernel_rfl)
noncomputable def Vf:AE:=cm Tryz.f57 99
theorem p9 {q:Gl}:AQ Xc (G q) 57 2 99 Vf [(.cell 4 true 5)]:=fk Tryz.func57 (by kernel_rfl) (by kernel_rfl)
noncomputable def Vg:AE:=cm Tryz.f27 54
theorem pA {q:Gl}:AQ Xc (G q) 27 1 54 Vg [(.cell 2 true 5),(.tmp 3)]:=fk Tryz.func27 (by kernel_rfl) (by kernel_rfl)
noncomputable def Vh:AE:=cm Tryz.f38 78
theorem pB {q:Gl}:AQ Xc (G q) 38 1 78 Vh [(.tmp 2)]:=fk Tryz.func38 (by kernel_rfl) (by kernel_rfl)
noncomputable def Vi:AE:=cm Tryz.f39 51
theorem pC {q:Gl}:AQ Xc (G q) 39 1 51 Vi [(.tmp 2)]:=fk Tryz.func39 (by kernel_rfl) (by kernel_rfl)
noncomputable def Vj:AE:=cm Tryz.f36 17
theorem pE {q:Gl}:AQ Xc (G q) 36 1 17 Vj [(.tmp 2)]:=fk Tryz.func36 (by kernel_rfl) (by kernel_rfl)
noncomputable def Vk:AE:=cm Tryz.f37 50
theorem pF {q:Gl}:AQ Xc (G q) 37 1 50 Vk [(.tmp 2)]:=fk Tryz.func37 (by kernel_rfl) (by kernel_rfl)
noncomputable def Vl:AE:=cm Tryz.f41 19
theorem pG {q:Gl}:AQ Xc (G q) 41 2 19 Vl [(.tmp 4)]:=fk Tryz.func41 (by kernel_rfl) (by kernel_rfl)
noncomputable def Vm:AE:=cm Tryz.f35 30
theorem pI {q:Gl}:AQ Xc (G q) 35 1 30 Vm [(.tmp 2)]:=fk Tryz.func35 (by kernel_rfl) (by kernel_rfl)
noncomputable def Vn:AE:=cm Tryz.f16 96
theorem pJ {q:Gl}:AQ Xc (G q) 16 1 96 Vn [(.tmp 2)]:=fk Tryz.func16 (by kernel_rfl) (by kernel_rfl)
noncomputable def Vo:AE:=cm Tryz.f15 31
theorem pK {q:Gl}:AQ Xc (G q) 15 1 31 Vo [(.tmp 2)]:=fk Tryz.func15 (by kernel_rfl) (by kernel_rfl)
noncomputable def Vp:AE:=cm Tryz.f63 20
theorem pM {q:Gl}:AQ Xc (G q) 63 1 20 Vp [(.cell 2 true 5)]:=fk Tryz.func63 (by kernel_rfl) (by kernel_rfl)
noncomputable def Vq:AE:=cm Tryz.f60 41
theorem pN {q:Gl}:AQ Xc (G q) 60 2 41 Vq [(.cell 4 true 5)]:=fk Tryz.func60 (by kernel_rfl) (by kernel_rfl)
noncomputable def Vu:AE:=cm Tryz.f97 25
theorem pO {q:Gl}:AQ Xc (G q) 97 2 25 Vu [(.tmp 4)]:=fk Tryz.func97 (by kernel_rfl) (by kernel_rfl)
noncomputable def Vv:AE:=cm Tryz.f96 15
theorem pP {q:Gl}:AQ Xc (G q) 96 3 15 Vv [(.tmp 6)]:=fk Tryz.func96 (by kernel_rfl) (by kernel_rfl)
noncomputable def Vw:AE:=cm Tryz.f98 77
theorem pQ {q:Gl}:AQ Xc (G q) 98 3 77 Vw [(.cell 6 true 5),(.tmp 7)]:=fk Tryz.func98 (by kernel_rfl) (by kernel_rfl)
noncomputable def Vx:AE:=cm Tryz.f59 114
theorem pR {q:Gl}:AQ Xc (G q) 59 1 114 Vx [(.cell 2 true 5),(.tmp 3)]:=fk Tryz.func59 (by kernel_rfl) (by kernel_rfl)
noncomputable def Vy:AE:=cm Tryz.f99 47
theorem pS {q:Gl}:AQ Xc (G q) 99 1 47 Vy [(.cell 2 true 5),(.tmp 3)]:=fk Tryz.func99 (by kernel_rfl) (by kernel_rfl)
noncomputable def Vz:AE:=cm Tryz.f61 57
theorem pT {q:Gl}:AQ Xc (G q) 61 1 57 Vz [(.cell 2 true 5),(.tmp 3)]:=fk Tryz.func61 (by kernel_rfl) (by kernel_rfl)
noncomputable def V0:AE:=cm Tryz.f62 47
theorem pU {q:Gl}:AQ Xc (G q) 62 1 47 V0 [(.cell 2 true 5),(.tmp 3)]:=fk Tryz.func62 (by kernel_rfl) (by kernel_rfl)
noncomputable def V4:AE:=cm Tryz.f64 99
theorem pV {q:Gl}:AQ Xc (G q) 64 1 99 V4 [(.tmp 2),(.tmp 3),(.tmp 4)]:=fk Tryz.func64 (by kernel_rfl) (by kernel_rfl)
noncomputable def V5:AE:=cm Tryz.f29 205
theorem pW {q:Gl}:AQ Xc (G q) 29 1 205 V5 [(.cell 2 true 5),(.tmp 3)]:=fk Tryz.func29 (by kernel_rfl) (by kernel_rfl)
noncomputable def V6:AE:=cm Tryz.f17 142
theorem pX {q:Gl}:AQ Xc (G q) 17 2 142 V6 [(.tmp 4)]:=fk Tryz.func17 (by kernel_rfl) (by kernel_rfl)
variable {q : Gl}
theorem An:Ctx Xc (G q) (orc []):=AB.nil.ctx mixed
abbrev Br (cs:List T):Row:=.cells 26 (cs.map .t)
theorem lp (H:Ak) (c:T) (cs:List T):AD false 1 H (.t (.pt (c::cs)))=some (.t c):=rfl
abbrev tyI:Nat:=3
structure LdM (a b c d e:T) (H:Ak) (k:Nat):Prop where
 l0:AD false 1 H (.ptr k 0)=some (.t a)
 l1:AD false 1 H (.ptr k 1)=some (.t b)
 l2:AD false 1 H (.ptr k 2)=some (.t c)
 l3:AD false 1 H (.ptr k 3)=some (.t d)
 l4:AD false 1 H (.ptr k 4)=some (.t e)
 all:AD true 5 H (.ptr k 0)=some (.t (.ag [a,b,c,d,e]))
theorem ldM {a b c d e:T} {H:Ak} {k:Nat} (h:Aj H k=some (Br [a,b,c,d,e])):LdM a b c d e H k:=by
 constructor<;>simp[AD,h,BI,DW]
theorem cd5 (a b c d e:T):Bq (.t (.ag [a,b,c,d,e]))=some [.t a,.t b,.t c,.t d,.t e]:=rfl
structure SmM (m:Mr):Prop where
 vars:m.vars.length<=100000
 rels:m.rels.length<=1000
 cons:m.cons.length<=1000
 args:∀x∈m.rels,x.args.length<=1000
 strs:∀x∈m.rels,x.pred.size<=lim/\∀a∈x.args,a.role.size<=lim
 sorts:∀s∈m.vars,s.size<=lim
theorem HE (m:Nat) (x:Int):BB tyI 1 [.int .i64 0] 1 [(0,.t (iv x))] m=some (.row m 0 1 1,.cells tyI ((A6.enc x).map .t)):=rfl
theorem pY (m:Nat):BB tyI 1 [.int .i64 0] 0 [] m=some (.row m 0 0 1,.cells tyI []):=rfl
theorem FX {H:Ak} {b nx:Nat} {l:List Int} (x:Int) (n m k:Nat) (hn:n=l.length) (hm:m=nx+1) (hk:k=nx+2) (h:Aj H b=some (A5 A6 tyI l)) (hb:b<nx) (hl:l.length<=1000000000000) :
  Dp tyI 1 8 ((nx,.cells tyI ((A6.enc x).map .t))::H) m (.row b 0 n 1) (.row nx 0 1 1)=some (.row m 0 (n+1) 1,(m,A5 A6 tyI (l++[x]))::rem ((nx,.cells tyI ((A6.enc x).map .t))::H) b,k):=
 UB (e:=A6) x 1 rfl _ rfl n m k hn hm hk h hb (by omega) (by omega)
def hMI (X:Row) (l:List Int):Ak:=[(0,X)]++[(1,A5 A6 tyI l)]
theorem V7 (X:Row) (l:List Int):Aj (hMI X l) 0=some X:=rfl
theorem LL (X:Row) (l:List Int):Aj (hMI X l) 1=some (A5 A6 tyI l):=rfl
theorem BV {X:Row} {l:List Int} {k nx n:Nat} {H:Ak} {env env':List (Nat×PV)} (h:Aj H k=some (A5 A6 tyI l)) (h0:Aj H 0=some X) (hk:k≠0) (hX:∃(ty:TypeId) (cs:List T),X = .cells ty (cs.map PV.t))
  (he:∀q∈env',Aj env q.1=some (ren (λx=>if x=1 then k else x) q.2)/\under 2 q.2=true) :
  Abs.Sub Xc (G q) 0 ⟨env,H,nx,n⟩ ⟨env',hMI X l,2,n⟩:=
 nX h (by omega) (by omega) (λq hq=>by
  simp only[Xx]at hq;subst hq;obtain⟨ty,cs,rfl⟩:=hX
  have r1:∀(σ:Nat->Nat) (cs:List T),Cc σ (cs.map PV.t)=cs.map PV.t:=λσ cs=>by
   induction cs with
   | nil=>rfl
   | cons c r ih=>simp only[Xs,Cc,ren,ih]
  have r2:∀(n:Nat) (cs:List T),DD n (cs.map PV.t)=true:=λn cs=>by
   induction cs with
   | nil=>rfl
   | cons c r ih=>simp only[Xs,DD,under,ih,Yo]
  exact⟨by rw[h0];simp only[Gx,r1],by show 0<2;omega,by show 0≠1;omega,Ne.symm hk,by simp only[HX,r2]⟩) he
def SPl (t:T) (x:Int) (j:Nat):Am:=⟨[(5,.t (iv (j:Int))),(1,.t (iv x)),(0,.t t)],[],0,19⟩
theorem pZ {t:T} {l:List Int} (h:IsS A6 t l) (x:Int) (hl:l.length<=1000000000):Bc Xc (G q) 41 [t,iv x] (· = iv (plc x 0 l)):=by
 have e1:=h.len
 obtain⟨R,hR⟩:∃R,R=plc x 0 l:=⟨_,rfl⟩
 rw[<-hR];refine pG.call rfl ?_;(conv in Vl=>cbv);refine Ao An ?_;simp -implicitDefEqProofs;refine AZ (α:=Unit) (λ_=>⟨[],[],0,19⟩) (λ_=>R = -1) (λ_=>rfl) ?_ ?_
 .refine Ao An ?_;simp -implicitDefEqProofs;refine AY ?_;refine Bj (SPl t x) (λj=>l.length-j) (λj=>j<=l.length/\R=plc x j (l.drop j)) 0 (λ_=>rfl) ⟨Xf _,hR⟩ ?_ rfl ?_
  .exact Aw (by simp -implicitDefEqProofs [SPl])
  rintro j ⟨hj,heq⟩;by_cases hlt:j<l.length
  .obtain⟨y,hy⟩:∃y,l[j]?=some y:=⟨_,Xd hlt⟩
   have i1:=h.iaddr hy .i64;have hz:A6.z=1:=rfl;rw[hz]at i1;have w1:Xe.wrap ((j:Int)+1)=((j+1:Nat):Int):=Bb (by omega) (by omega);have ld:∀H:Ak,AD false 1 H (.t (.pt (A6.enc y++rest A6 l j)))=some (.t (iv y)):=λ_=>rfl;rw[Xt hlt,(Xi.1 hy).2,plc]at heq;by_cases hxy:y=x
   .rw[zu hxy]at heq
    have b1:(y==x)=true:=by simp[hxy]
    refine A8 An ?_;simp -implicitDefEqProofs [SPl,e1,hlt,i1,ld,b1,heq]
   .rw[zw hxy]at heq
    have b1:(y==x)=false:=by simp[hxy]
    refine A8 An ?_;simp -implicitDefEqProofs [SPl,e1,hlt,i1,ld,b1,w1];exact A4.mk (j+1) ⟨⟨by omega,heq⟩,by omega⟩ (Aw (by simp -implicitDefEqProofs))
  .have hR:R = -1:=by rw[heq,Xo (by omega)];rfl
   refine A8 An ?_;simp -implicitDefEqProofs [SPl,e1,hlt];exact A4.mk () hR (L7 (by omega) (λq hq=>by cases hq))
 rintro _ hRG;refine A8 An ?_;simp -implicitDefEqProofs [hRG]
noncomputable def gPl:List T->Option T:=g2 (tSl A6) Nk λl x=>if l.length<=1000000000 then some (iv (plc x 0 l))else none
theorem hPl:GOK Xc (G q) 41 gPl:=Ib λa b l x r ha hb hr=>by
 obtain rfl:b=iv x:=hb;split at hr
 .rename_i h;injection hr with hr;subst hr;exact pZ ha x h
 .cases hr
theorem V8 {t:T} {l:List Int} (x:Int) (h:IsS A6 t l) (hl:l.length<=1000000000):gPl [t,iv x]=some (iv (plc x 0 l)):=
 (Hn (τ:=tSl A6) (σ:=Nk) h rfl).trans (zu hl)
theorem V9 (s:ByteArray):Bc Xc (G q) 36 [sv s] (· = bv (Cr s)):=by
 refine pE.runs An rfl ?_;(conv in Vj=>cbv);have s1:=Eb s ⟨#[104]⟩;rw[show(⟨#[104]⟩:ByteArray).toList=[104]by rw[G5]]at s1;have s2:=Eb s ⟨#[101]⟩;rw[show(⟨#[101]⟩:ByteArray).toList=[101]by rw[G5]]at s2;have s3:=Eb s ⟨#[120]⟩;rw[show(⟨#[120]⟩:ByteArray).toList=[120]by rw[G5]]at s3;have s4:=Eb s ⟨#[105]⟩;rw[show(⟨#[105]⟩:ByteArray).toList=[105]by rw[G5]]at s4
 by_cases h1:s=⟨#[104]⟩
 .rw[zq h1]at s1
  have e:Cr s=true:=by unfold Cr wH;rw[zq h1];rfl
  simp -implicitDefEqProofs [s1,e]
 rw[zt h1]at s1
 by_cases h2:s=⟨#[101]⟩
 .rw[zq h2]at s2
  have e:Cr s=true:=by unfold Cr;rw[zq h2];simp
  simp -implicitDefEqProofs [s1,s2,e]
 rw[zt h2]at s2
 by_cases h3:s=⟨#[120]⟩
 .rw[zq h3]at s3
  have e:Cr s=true:=by unfold Cr;rw[zq h3];simp
  simp -implicitDefEqProofs [s1,s2,s3,e]
 rw[zt h3]at s3
 have e:Cr s=decide (s=⟨#[105]⟩):=by unfold Cr wH;rw[zt h1,zt h2,zt h3];simp
 simp -implicitDefEqProofs [s1,s2,s3,s4,e]
def BC (m:Mr) (j:Nat):List Int:=m.top::m.index::(m.rels.take j).flatMap B7
def Cs (m:Mr) (i:Nat) (x:Ep) (j:Nat):List Int:=BC m i++x.label::(x.args.take j).map (·.var)
def BL (m:Mr) (j:Nat):List Int:=BC m m.rels.length++(m.cons.take j).flatMap BE
theorem PU (m:Mr) (i:Nat) (x:Ep):Cs m i x 0=BC m i++[x.label]:=by simp[Cs]
theorem PW {m:Mr} {i j:Nat} {x:Ep} {a:Ag} (h:x.args[j]?=some a):Cs m i x (j+1)=Cs m i x j++[a.var]:=by
 unfold Cs;rw[Xq,h];simp
theorem NR {m:Mr} {i:Nat} {x:Ep} (h:m.rels[i]?=some x):BC m (i+1)=Cs m i x x.args.length:=by
 unfold BC Cs;rw[Xq,h,Xr];simp[B7,BC]
theorem NS {m:Mr} {j:Nat} {c:Qq} (h:m.cons[j]?=some c):BL m (j+1)=BL m j++[c.high]++[c.low]:=by
 unfold BL;rw[Xq,h];simp[BE]
theorem JW (m:Mr):BL m m.cons.length=occ m:=by
 unfold BL BC occ;rw[Xr,Xr];rfl
theorem JX {m:Mr} (h:SmM m):∀i,i<=m.rels.length->(BC m i).length<=2+i*100001
 | 0,_=>by simp[BC]
 | i+1,hi=>by
  obtain⟨x,hx⟩:∃x,m.rels[i]?=some x:=⟨_,Xd (by omega)⟩
  have:=JX h i (by omega);have ha:=h.args x (Xj hx);rw[NR hx];unfold Cs;rw[Xr,Xu,Xn,Xg];omega
theorem PY {m:Mr} (h:SmM m) {i j:Nat} {x:Ep} (hx:x∈m.rels) (hi:i<=m.rels.length):(Cs m i x j).length<=200000000:=by
 have:=JX h i hi;have ha:=h.args x hx;have hr:=h.rels;have hk:i*100001<=1000*100001:=X1 _ (by omega);unfold Cs;rw[Xu,Xn,Xg,Yd];omega
theorem JY {m:Mr} (h:SmM m):∀j,j<=m.cons.length->(BL m j).length<=200000000+2*j
 | 0,_=>by
  have:=JX h m.rels.length (Xk _);have hr:=h.rels;have hk:m.rels.length*100001<=1000*100001:=X1 _ hr;simp only[BL,Yp,Yq,Yr];omega
 | j+1,hj=>by
  obtain⟨c,hc⟩:∃c,m.cons[j]?=some c:=⟨_,Xd (by omega)⟩
  have:=JY h j (by omega);rw[NS hc];simp only[Xu,Xn,Xy];omega
theorem LM {m:Mr} (h:SmM m):(occ m).length<=300000000:=by
 have:=JY h m.cons.length (Xk _);have hc:=h.cons;rw[JW]at this;omega
def SO1 (X:Row) (l:List Int) (i:Nat):Am:=⟨[(4,.t (iv (i:Int))),(3,.row 1 0 l.length 1),(1,.ptr 0 0)],hMI X l,2,78⟩
def SO2 (X:Row) (l:List Int) (i j:Nat):Am:=⟨[(5,.t (iv (j:Int))),(4,.t (iv (i:Int))),(3,.row 1 0 l.length 1),(1,.ptr 0 0)],hMI X l,2,78⟩
def SO3 (X:Row) (l:List Int) (i:Nat):Am:=⟨[(6,.t (iv (i:Int))),(3,.row 1 0 l.length 1),(1,.ptr 0 0)],hMI X l,2,78⟩
theorem q9 {m:Mr} {cs:List T} (hm:BJ m cs) (hs:SmM m):Bc Xc (G q) 38 [.ag cs] (· = slT A6 (occ m)):=by
 obtain⟨tv,tr,tc,rl,rfl,hv,hr,hrm,hc⟩:=hm
 obtain⟨X,hX⟩:∃X,X=Br [iv m.top,iv m.index,tv,tr,tc]:=⟨_,rfl⟩
 have hXc:∃(ty:TypeId) (cs:List T),X = .cells ty (cs.map PV.t):=⟨_,_,hX⟩
 have ld:∀{H:Ak},Aj H 0=some X->LdM (iv m.top) (iv m.index) tv tr tc H 0:=λh=>ldM (by rw[h,hX]);have lr:=hr.len;have lc:=hc.len
 have hrl:rl.length=m.rels.length:=by rw[<-hrm,Xg]
 have hsr:=hs.rels;have hsc:=hs.cons;have cd:=cd5 (iv m.top) (iv m.index) tv tr tc
 obtain⟨R,hR⟩:∃R,R=slT A6 (occ m):=⟨_,rfl⟩
 rw[<-hR];refine pB.call rfl ?_;(conv in Vh=>cbv);refine Ao An ?_;simp -implicitDefEqProofs [cd];rw[show Row.cells 26 [.t (iv m.top),.t (iv m.index),.t tv,.t tr,.t tc]=X from hX.symm];have b2:∀n,BB tyI 1 [.int .i64 0] 2 [(0,.t (iv m.top)),(1,.t (iv m.index))] n=some (.row n 0 2 1,A5 A6 tyI [m.top,m.index]):=λ_=>rfl;have z0:=ld (H:=[(0,X)]) rfl;refine Ao An ?_;simp -implicitDefEqProofs [z0.l0,z0.l1,b2];refine AZ (α:=Unit) (λ_=>⟨[(3,.row 1 0 (BC m m.rels.length).length 1),(1,.ptr 0 0)],hMI X (BC m m.rels.length),2,78⟩) (λ_=>True) (λ_=>rfl) ?_ ?_
 .refine Ao An ?_;simp -implicitDefEqProofs;refine AY ?_;refine Bj (λi=>SO1 X (BC m i) i) (λi=>m.rels.length-i) (λi=>i<=m.rels.length) 0 (λ_=>rfl) (Xf _) ?_ rfl ?_
  .exact BV (k:=1) rfl rfl (by omega) hXc (by simp -implicitDefEqProofs [ren,under,BC])
  intro i hi
  obtain⟨l,hl⟩:∃l,l=BC m i:=⟨_,rfl⟩
  have hll:l.length<=200000000:=by
   have h1:=JX hs i (by omega);have:i*100001<=1000*100001:=X1 _ (by omega);rw[hl];omega
  obtain⟨H,hH⟩:∃H,H=hMI X l:=⟨_,rfl⟩
  have h0:Aj H 0=some X:=by rw[hH];rfl
  have h1:Aj H 1=some (A5 A6 tyI l):=by rw[hH];rfl
  have z:=ld h0;by_cases hlt:i<rl.length
  .obtain⟨c,hc1⟩:∃c,rl[i]?=some c:=⟨_,Xd (by omega)⟩
   have hx:m.rels[i]?=some c.x:=by rw[<-hrm,Xv,hc1];rfl
   have hxm:=Xj hx;obtain⟨ta,hcs,hta⟩:=c.ok;have la:=hta.len;have hal:=hs.args c.x hxm;have i1:=hr.iaddr hc1 .i64;have hz:eEC.z=3:=rfl;rw[hz,show eEC.enc c=c.cs from rfl,hcs]at i1;have w1:Xe.wrap ((i:Int)+1)=((i+1:Nat):Int):=Bb (by omega) (by omega);have ap:=FX c.x.label l.length 3 4 rfl rfl rfl h1 (nx:=2) (by omega) (by omega);refine Ao An ?_;simp -implicitDefEqProofs [SO1,<-hl,<-hH,z.l3,lr,hlt];refine AZ (α:=Unit) (λ_=>⟨[(4,.t (iv (i:Int))),(3,.row 1 0 (BC m (i+1)).length 1),(1,.ptr 0 0)],hMI X (BC m (i+1)),2,78⟩) (λ_=>True) (λ_=>rfl) ?_ ?_
   .refine AY ?_;refine Ao An ?_;simp -implicitDefEqProofs [z.l3,i1,lp,HE,ap]
    obtain⟨H1,hH1⟩:∃H1,H1=(3,A5 A6 tyI (l++[c.x.label]))::rem ((2,.cells tyI ((A6.enc c.x.label).map .t))::H) 1:=⟨_,rfl⟩
    have k1:Aj H1 3=some (A5 A6 tyI (l++[c.x.label])):=by rw[hH1,A9,zu rfl]
    have k0:Aj H1 0=some X:=by rw[hH1,A9,zw (by omega),BZ,zw (by omega),A9,zw (by omega)];exact h0
    refine Ao An ?_;simp -implicitDefEqProofs;refine AY ?_;refine Bj (λj=>SO2 X (Cs m i c.x j) i j) (λj=>c.x.args.length-j) (λj=>j<=c.x.args.length) 0 (λ_=>rfl) (Xf _) ?_ rfl ?_
    .show Abs.Sub _ _ _ _ (SO2 X (Cs m i c.x 0) i 0);rw[PU,<-hl];unfold SO2;rw[hH1]at k1 k0;exact BV (k:=3) k1 k0 (by omega) hXc (by simp -implicitDefEqProofs [ren,under])
    intro j hj
    obtain⟨l2,hl2⟩:∃l2,l2=Cs m i c.x j:=⟨_,rfl⟩
    have hl2l:l2.length<=200000000:=by rw[hl2];exact PY hs hxm (by omega)
    obtain⟨H2,hH2⟩:∃H2,H2=hMI X l2:=⟨_,rfl⟩
    have g0:Aj H2 0=some X:=by rw[hH2];rfl
    have g1:Aj H2 1=some (A5 A6 tyI l2):=by rw[hH2];rfl
    have z2:=ld g0;by_cases hjl:j<c.x.args.length
    .obtain⟨a,ha⟩:∃a,c.x.args[j]?=some a:=⟨_,Xd hjl⟩
     have i2:=hta.iaddr ha .i64;have hz2:eAg.z=2:=rfl;rw[hz2,show eAg.enc a=[sv a.role,iv a.var]from rfl]at i2;have w2:Xe.wrap ((j:Int)+1)=((j+1:Nat):Int):=Bb (by omega) (by omega);have ap2:=FX a.var l2.length 3 4 rfl rfl rfl g1 (nx:=2) (by omega) (by omega);refine A8 An ?_;simp -implicitDefEqProofs [SO2,<-hl2,<-hH2,z2.l3,i1,lp,la,hjl,i2,HE,ap2,w2];refine A4.mk (j+1) ⟨hjl,by omega⟩ ?_;show Abs.Sub _ _ _ _ (SO2 X (Cs m i c.x (j+1)) i (j+1));rw[PW ha,<-hl2]
     have el:(l2++[a.var]).length=l2.length+1:=by simp
     unfold SO2;rw[el];exact BV (k:=3) (by rw[A9,zu rfl]) (by simp[A9,BZ,g0]) (by omega) hXc (by simp -implicitDefEqProofs [ren,under])
    .have ej:j=c.x.args.length:=by omega
     refine A8 An ?_;simp -implicitDefEqProofs [SO2,<-hl2,<-hH2,z2.l3,i1,lp,la,hjl];refine A4.mk () trivial ?_;rw[NR hx,<-ej,<-hl2];exact BV (k:=1) g1 g0 (by omega) hXc (by simp -implicitDefEqProofs [ren,under])
   .rintro _ _;refine A8 An ?_;simp -implicitDefEqProofs [w1];refine A4.mk (i+1) ⟨by omega,by omega⟩ ?_;exact BV (k:=1) rfl rfl (by omega) hXc (by simp -implicitDefEqProofs [ren,under])
  .have ei:i=m.rels.length:=by omega
   refine A8 An ?_;simp -implicitDefEqProofs [SO1,<-hl,<-hH,z.l3,lr,hlt];refine A4.mk () trivial ?_;rw[<-ei,<-hl];exact BV (k:=1) h1 h0 (by omega) hXc (by simp -implicitDefEqProofs [ren,under])
 rintro _ _;refine AZ (α:=Unit) (λ_=>⟨[(3,.row 1 0 (occ m).length 1)],hMI X (occ m),2,78⟩) (λ_=>True) (λ_=>rfl) ?_ ?_
 .refine Ao An ?_;simp -implicitDefEqProofs;refine AY ?_;refine Bj (λi=>SO3 X (BL m i) i) (λi=>m.cons.length-i) (λi=>i<=m.cons.length) 0 (λ_=>rfl) (Xf _) ?_ rfl ?_
  .have e:BL m 0=BC m m.rels.length:=by simp[BL]
   show Abs.Sub _ _ _ _ (SO3 X (BL m 0) 0);rw[e];exact BV (k:=1) rfl rfl (by omega) hXc (by simp -implicitDefEqProofs [ren,under])
  intro i hi
  obtain⟨l,hl⟩:∃l,l=BL m i:=⟨_,rfl⟩
  have hll:l.length<=400000000:=by
   have h1:=JY hs i (by omega);rw[hl];omega
  obtain⟨H,hH⟩:∃H,H=hMI X l:=⟨_,rfl⟩
  have h0:Aj H 0=some X:=by rw[hH];rfl
  have h1:Aj H 1=some (A5 A6 tyI l):=by rw[hH];rfl
  have z:=ld h0;by_cases hlt:i<m.cons.length
  .obtain⟨c,hc1⟩:∃c,m.cons[i]?=some c:=⟨_,Xd (by omega)⟩
   have i1:=hc.iaddr hc1 .i64;have hz:eQq.z=2:=rfl;rw[hz,show eQq.enc c=[iv c.high,iv c.low]from rfl]at i1;have w1:Xe.wrap ((i:Int)+1)=((i+1:Nat):Int):=Bb (by omega) (by omega);have ap:=FX c.high l.length 3 4 rfl rfl rfl h1 (nx:=2) (by omega) (by omega)
   obtain⟨H1,hH1⟩:∃H1,H1=(3,A5 A6 tyI (l++[c.high]))::rem ((2,.cells tyI ((A6.enc c.high).map .t))::H) 1:=⟨_,rfl⟩
   have k1:Aj H1 3=some (A5 A6 tyI (l++[c.high])):=by rw[hH1,A9,zu rfl]
   have k0:Aj H1 0=some X:=by rw[hH1,A9,zw (by omega),BZ,zw (by omega),A9,zw (by omega)];exact h0
   have z1:=ld k0;rw[<-hH1]at ap;have ap1:=FX c.low (l.length+1) 5 6 (by simp) rfl rfl k1 (nx:=4) (by omega) (by simp;omega);refine A8 An ?_;simp -implicitDefEqProofs [SO3,<-hl,<-hH,z.l4,lc,hlt,i1,lp,HE,ap,z1.l4,ap1,w1];refine A4.mk (i+1) ⟨hlt,by omega⟩ ?_
   have e:BL m (i+1)=l++[c.high]++[c.low]:=by rw[NS hc1,<-hl]
   show Abs.Sub _ _ _ _ (SO3 X (BL m (i+1)) (i+1));rw[e];unfold SO3
   have el:(l++[c.high]++[c.low]).length=l.length+1+1:=by simp
   rw[el];exact BV (k:=5) (by rw[A9,zu rfl,X2];rfl) (by simp[A9,BZ,k0]) (by omega) hXc (by simp -implicitDefEqProofs [ren,under])
  .have ei:i=m.cons.length:=by omega
   refine A8 An ?_;simp -implicitDefEqProofs [SO3,<-hl,<-hH,z.l4,lc,hlt];refine A4.mk () trivial ?_;rw[<-JW,<-ei,<-hl];exact BV (k:=1) h1 h0 (by omega) hXc (by simp -implicitDefEqProofs [ren,under])
 rintro _ _;have hne:toT (hMI X (occ m)) (.row 1 0 (occ m).length 1)=some (slT A6 (occ m),[1]):=DN (e:=A6) (LL X (occ m));refine A8 An ?_;simp -implicitDefEqProofs [hne,hR,-toT]
noncomputable def Ik:List T->Option T
 | [.ag cs]=>open Classical in if h:∃m,BJ m cs/\SmM m then some (slT A6 (occ h.choose))else none
 | _=>none
theorem PZ {m:Mr} {cs:List T} (h:BJ m cs) (hs:SmM m):Ik [.ag cs]=some (slT A6 (occ m)):=by
 have he:∃m,BJ m cs/\SmM m:=⟨m,h,hs⟩
 simp only[Ik];rw[dif_pos he,he.choose_spec.1.uniq h]
theorem VA:GOK Xc (G q) 38 Ik:=λargs r hr=>by
 unfold Ik at hr;split at hr
 .rename_i cs;split at hr
  .rename_i he;injection hr with hr;subst hr;exact q9 he.choose_spec.1 he.choose_spec.2
  .cases hr
 .cases hr
def Dj (m:Mr) (j:Nat):List Int:=m.top::(m.rels.take j).map Ep.label
def D9 (m:Mr) (j:Nat):List Int:=Dj m m.rels.length++(m.cons.take j).flatMap BE
theorem VB {m:Mr} {i:Nat} {x:Ep} (h:m.rels[i]?=some x):Dj m (i+1)=Dj m i++[x.label]:=by
 unfold Dj;rw[Xq,h];simp
theorem Qb {m:Mr} {j:Nat} {c:Qq} (h:m.cons[j]?=some c):D9 m (j+1)=D9 m j++[c.high]++[c.low]:=by
 unfold D9;rw[Xq,h];simp[BE]
theorem Qi (m:Mr):D9 m m.cons.length=hnd m:=by
 unfold D9 Dj hnd;rw[Xr,Xr];rfl
theorem Qj {m:Mr} (h:SmM m) (i:Nat):(Dj m i).length<=100001:=by
 have:=h.rels;unfold Dj;rw[Xn,Xg,Yd];omega
theorem NT {m:Mr} (h:SmM m):∀j,j<=m.cons.length->(D9 m j).length<=100001+2*j
 | 0,_=>by
  have:=Qj h m.rels.length;simp only[D9,Yp,Yq,Yr];omega
 | j+1,hj=>by
  obtain⟨c,hc⟩:∃c,m.cons[j]?=some c:=⟨_,Xd (by omega)⟩
  have:=NT h j (by omega);rw[Qb hc];simp only[Xu,Xn,Xy];omega
theorem VC {m:Mr} (h:SmM m):(hnd m).length<=1000000:=by
 have:=NT h m.cons.length (Xk _);have hc:=h.cons;rw[Qi]at this;omega
def SH1 (X:Row) (l:List Int) (i:Nat):Am:=⟨[(4,.t (iv (i:Int))),(3,.row 1 0 l.length 1),(1,.ptr 0 0)],hMI X l,2,51⟩
def SH3 (X:Row) (l:List Int) (i:Nat):Am:=⟨[(5,.t (iv (i:Int))),(3,.row 1 0 l.length 1),(1,.ptr 0 0)],hMI X l,2,51⟩
theorem qA {m:Mr} {cs:List T} (hm:BJ m cs) (hs:SmM m):Bc Xc (G q) 39 [.ag cs] (· = slT A6 (hnd m)):=by
 obtain⟨tv,tr,tc,rl,rfl,hv,hr,hrm,hc⟩:=hm
 obtain⟨X,hX⟩:∃X,X=Br [iv m.top,iv m.index,tv,tr,tc]:=⟨_,rfl⟩
 have hXc:∃(ty:TypeId) (cs:List T),X = .cells ty (cs.map PV.t):=⟨_,_,hX⟩
 have ld:∀{H:Ak},Aj H 0=some X->LdM (iv m.top) (iv m.index) tv tr tc H 0:=λh=>ldM (by rw[h,hX]);have lr:=hr.len;have lc:=hc.len
 have hrl:rl.length=m.rels.length:=by rw[<-hrm,Xg]
 have hsr:=hs.rels;have hsc:=hs.cons;have cd:=cd5 (iv m.top) (iv m.index) tv tr tc
 obtain⟨R,hR⟩:∃R,R=slT A6 (hnd m):=⟨_,rfl⟩
 rw[<-hR];refine pC.call rfl ?_;(conv in Vi=>cbv);refine Ao An ?_;simp -implicitDefEqProofs [cd];rw[show Row.cells 26 [.t (iv m.top),.t (iv m.index),.t tv,.t tr,.t tc]=X from hX.symm];have b1:∀n,BB tyI 1 [.int .i64 0] 1 [(0,.t (iv m.top))] n=some (.row n 0 1 1,A5 A6 tyI [m.top]):=λ_=>rfl;have z0:=ld (H:=[(0,X)]) rfl;refine Ao An ?_;simp -implicitDefEqProofs [z0.l0,b1];refine AZ (α:=Unit) (λ_=>⟨[(3,.row 1 0 (Dj m m.rels.length).length 1),(1,.ptr 0 0)],hMI X (Dj m m.rels.length),2,51⟩) (λ_=>True) (λ_=>rfl) ?_ ?_
 .refine Ao An ?_;simp -implicitDefEqProofs;refine AY ?_;refine Bj (λi=>SH1 X (Dj m i) i) (λi=>m.rels.length-i) (λi=>i<=m.rels.length) 0 (λ_=>rfl) (Xf _) ?_ rfl ?_
  .exact BV (k:=1) rfl rfl (by omega) hXc (by simp -implicitDefEqProofs [ren,under,Dj])
  intro i hi
  obtain⟨l,hl⟩:∃l,l=Dj m i:=⟨_,rfl⟩
  have hll:l.length<=100001:=by rw[hl];exact Qj hs i
  obtain⟨H,hH⟩:∃H,H=hMI X l:=⟨_,rfl⟩
  have h0:Aj H 0=some X:=by rw[hH];rfl
  have h1:Aj H 1=some (A5 A6 tyI l):=by rw[hH];rfl
  have z:=ld h0;by_cases hlt:i<rl.length
  .obtain⟨c,hc1⟩:∃c,rl[i]?=some c:=⟨_,Xd (by omega)⟩
   have hx:m.rels[i]?=some c.x:=by rw[<-hrm,Xv,hc1];rfl
   obtain⟨ta,hcs,hta⟩:=c.ok;have i1:=hr.iaddr hc1 .i64;have hz:eEC.z=3:=rfl;rw[hz,show eEC.enc c=c.cs from rfl,hcs]at i1;have w1:Xe.wrap ((i:Int)+1)=((i+1:Nat):Int):=Bb (by omega) (by omega);have ap:=FX c.x.label l.length 3 4 rfl rfl rfl h1 (nx:=2) (by omega) (by omega);refine A8 An ?_;simp -implicitDefEqProofs [SH1,<-hl,<-hH,z.l3,lr,hlt,i1,lp,HE,ap,w1];refine A4.mk (i+1) ⟨by omega,by omega⟩ ?_
   have e:Dj m (i+1)=l++[c.x.label]:=by rw[VB hx,<-hl]
   have el:(l++[c.x.label]).length=l.length+1:=by simp
   show Abs.Sub _ _ _ _ (SH1 X (Dj m (i+1)) (i+1));rw[e];unfold SH1;rw[el];exact BV (k:=3) (by rw[A9,zu rfl]) (by simp[A9,BZ,h0]) (by omega) hXc (by simp -implicitDefEqProofs [ren,under])
  .have ei:i=m.rels.length:=by omega
   refine A8 An ?_;simp -implicitDefEqProofs [SH1,<-hl,<-hH,z.l3,lr,hlt];refine A4.mk () trivial ?_;rw[<-ei,<-hl];exact BV (k:=1) h1 h0 (by omega) hXc (by simp -implicitDefEqProofs [ren,under])
 rintro _ _;refine AZ (α:=Unit) (λ_=>⟨[(3,.row 1 0 (hnd m).length 1)],hMI X (hnd m),2,51⟩) (λ_=>True) (λ_=>rfl) ?_ ?_
 .refine Ao An ?_;simp -implicitDefEqProofs;refine AY ?_;refine Bj (λi=>SH3 X (D9 m i) i) (λi=>m.cons.length-i) (λi=>i<=m.cons.length) 0 (λ_=>rfl) (Xf _) ?_ rfl ?_
  .have e:D9 m 0=Dj m m.rels.length:=by simp[D9]
   show Abs.Sub _ _ _ _ (SH3 X (D9 m 0) 0);rw[e];exact BV (k:=1) rfl rfl (by omega) hXc (by simp -implicitDefEqProofs [ren,under])
  intro i hi
  obtain⟨l,hl⟩:∃l,l=D9 m i:=⟨_,rfl⟩
  have hll:l.length<=1000000:=by
   have h1:=NT hs i (by omega);rw[hl];omega
  obtain⟨H,hH⟩:∃H,H=hMI X l:=⟨_,rfl⟩
  have h0:Aj H 0=some X:=by rw[hH];rfl
  have h1:Aj H 1=some (A5 A6 tyI l):=by rw[hH];rfl
  have z:=ld h0;by_cases hlt:i<m.cons.length
  .obtain⟨c,hc1⟩:∃c,m.cons[i]?=some c:=⟨_,Xd (by omega)⟩
   have i1:=hc.iaddr hc1 .i64;have hz:eQq.z=2:=rfl;rw[hz,show eQq.enc c=[iv c.high,iv c.low]from rfl]at i1;have w1:Xe.wrap ((i:Int)+1)=((i+1:Nat):Int):=Bb (by omega) (by omega);have ap:=FX c.high l.length 3 4 rfl rfl rfl h1 (nx:=2) (by omega) (by omega)
   obtain⟨H1,hH1⟩:∃H1,H1=(3,A5 A6 tyI (l++[c.high]))::rem ((2,.cells tyI ((A6.enc c.high).map .t))::H) 1:=⟨_,rfl⟩
   have k1:Aj H1 3=some (A5 A6 tyI (l++[c.high])):=by rw[hH1,A9,zu rfl]
   have k0:Aj H1 0=some X:=by rw[hH1,A9,zw (by omega),BZ,zw (by omega),A9,zw (by omega)];exact h0
   have z1:=ld k0;rw[<-hH1]at ap;have ap1:=FX c.low (l.length+1) 5 6 (by simp) rfl rfl k1 (nx:=4) (by omega) (by simp;omega);refine A8 An ?_;simp -implicitDefEqProofs [SH3,<-hl,<-hH,z.l4,lc,hlt,i1,lp,HE,ap,z1.l4,ap1,w1];refine A4.mk (i+1) ⟨hlt,by omega⟩ ?_
   have e:D9 m (i+1)=l++[c.high]++[c.low]:=by rw[Qb hc1,<-hl]
   show Abs.Sub _ _ _ _ (SH3 X (D9 m (i+1)) (i+1));rw[e];unfold SH3
   have el:(l++[c.high]++[c.low]).length=l.length+1+1:=by simp
   rw[el];exact BV (k:=5) (by rw[A9,zu rfl,X2];rfl) (by simp[A9,BZ,k0]) (by omega) hXc (by simp -implicitDefEqProofs [ren,under])
  .have ei:i=m.cons.length:=by omega
   refine A8 An ?_;simp -implicitDefEqProofs [SH3,<-hl,<-hH,z.l4,lc,hlt];refine A4.mk () trivial ?_;rw[<-Qi,<-ei,<-hl];exact BV (k:=1) h1 h0 (by omega) hXc (by simp -implicitDefEqProofs [ren,under])
 rintro _ _;have hne:toT (hMI X (hnd m)) (.row 1 0 (hnd m).length 1)=some (slT A6 (hnd m),[1]):=DN (e:=A6) (LL X (hnd m));refine A8 An ?_;simp -implicitDefEqProofs [hne,hR,-toT]
noncomputable def gM (f:Mr->T):List T->Option T
 | [.ag cs]=>open Classical in if h:∃m,BJ m cs/\SmM m then some (f h.choose)else none
 | _=>none
theorem Il (f:Mr->T) {m:Mr} {cs:List T} (h:BJ m cs) (hs:SmM m):gM f [.ag cs]=some (f m):=by
 have he:∃m,BJ m cs/\SmM m:=⟨m,h,hs⟩
 simp only[gM];rw[dif_pos he,he.choose_spec.1.uniq h]
theorem JZ {F:Nat} {f:Mr->T} (h:∀m cs,BJ m cs->SmM m->Bc Xc (G q) F [.ag cs] (· = f m)):GOK Xc (G q) F (gM f):=λargs r hr=>by
 unfold gM at hr;split at hr
 .rename_i cs;split at hr
  .rename_i he;injection hr with hr;subst hr;exact h _ _ he.choose_spec.1 he.choose_spec.2
  .cases hr
 .cases hr
noncomputable def Im:List T->Option T:=gM λm=>slT A6 (hnd m)
theorem qB:GOK Xc (G q) 39 Im:=JZ λ_ _ h hs=>qA h hs
def SFs (X:Row) (tl:T) (l:List Int) (j:Nat):Am:=⟨[(5,.t (iv (j:Int))),(4,.row 1 0 l.length 1),(3,.t tl),(1,.ptr 0 0)],hMI X l,2,30⟩
theorem qC {l:List Int} {j:Nat} {x:Int} (h:l[j]?=some x):Bo [] (l.take (j+1))=if x∈Bo [] (l.take j)then Bo [] (l.take j)else Bo [] (l.take j)++[x]:=by
 have key:∀(a b acc:List Int),Bo acc (a++b)=Bo (Bo acc a) b:=λa=>by
  induction a with
  | nil=>intro b acc;rfl
  | cons y r ih=>intro b acc;rw[List.cons_append,Bo,Bo,ih]
 rw[Xq,h,key];rfl
theorem Qk:∀(l acc:List Int),(Bo acc l).length<=acc.length+l.length
 | [],acc=>by simp[Bo]
 | x::r,acc=>by
  rw[Bo];have:=Qk r (if x∈acc then acc else acc++[x]);split at this
  .rename_i h;rw[zu h];simp only[Xn];omega
  .rename_i h;rw[zw h];simp only[Xu,Xn,Xy]at this ⊢;omega
theorem qD {m:Mr} {cs:List T} (hm:BJ m cs) (hs:SmM m):Bc Xc (G q) 35 [.ag cs] (· = slT A6 (BM m)):=by
 have eO:=PZ hm hs;obtain⟨tv,tr,tc,rl,rfl,hv,hr,hrm,hc⟩:=hm
 obtain⟨X,hX⟩:∃X,X=Br [iv m.top,iv m.index,tv,tr,tc]:=⟨_,rfl⟩
 have hXc:∃(ty:TypeId) (cs:List T),X = .cells ty (cs.map PV.t):=⟨_,_,hX⟩
 have cd:=cd5 (iv m.top) (iv m.index) tv tr tc;have C:Ctx Xc (G q) _:=(AB.cons (VA (q:=q)) (.cons (hPl (q:=q)) .nil)).ctx mixed
 obtain⟨L,hL⟩:∃L,L=occ m:=⟨_,rfl⟩
 have hLl:L.length<=300000000:=by rw[hL];exact LM hs
 rw[<-hL]at eO
 obtain⟨tl,htl⟩:∃tl,tl=slT A6 L:=⟨_,rfl⟩
 have hTl:IsS A6 tl L:=.inr htl;rw[<-htl]at eO;have ll:=hTl.len
 obtain⟨R,hR⟩:∃R,R=slT A6 (BM m):=⟨_,rfl⟩
 have hF:BM m=Bo [] (L.take L.length):=by rw[Xr,hL];rfl
 rw[<-hR];refine pI.call rfl ?_;(conv in Vm=>cbv);refine Ao C ?_;simp -implicitDefEqProofs [cd];rw[show Row.cells 26 [.t (iv m.top),.t (iv m.index),.t tv,.t tr,.t tc]=X from hX.symm];have z0:=ldM (H:=[(0,X)]) (k:=0) (by rw[hX];rfl);refine Ao C ?_;simp -implicitDefEqProofs [z0.all,eO];refine Ao C ?_;simp -implicitDefEqProofs [pY];refine AZ (α:=Unit) (λ_=>⟨[(4,.row 1 0 (BM m).length 1)],hMI X (BM m),2,30⟩) (λ_=>True) (λ_=>rfl) ?_ ?_
 .refine Ao C ?_;simp -implicitDefEqProofs;refine AY ?_;refine Bj (λj=>SFs X tl (Bo [] (L.take j)) j) (λj=>L.length-j) (λj=>j<=L.length) 0 (λ_=>rfl) (Xf _) ?_ rfl ?_
  .exact BV (k:=1) (l:=[]) rfl rfl (by omega) hXc (by simp -implicitDefEqProofs [ren,under,Bo])
  intro j hj
  obtain⟨l,hl⟩:∃l,l=Bo [] (L.take j):=⟨_,rfl⟩
  have hll:l.length<=300000000:=by
   have:=Qk (L.take j) [];rw[<-hl,Yd]at this;simp only[Xy]at this;omega
  obtain⟨H,hH⟩:∃H,H=hMI X l:=⟨_,rfl⟩
  have h0:Aj H 0=some X:=by rw[hH];rfl
  have h1:Aj H 1=some (A5 A6 tyI l):=by rw[hH];rfl
  by_cases hlt:j<L.length
  .obtain⟨x,hx⟩:∃x,L[j]?=some x:=⟨_,Xd hlt⟩
   have i1:=hTl.iaddr hx .i64;have hz:A6.z=1:=rfl;rw[hz,show A6.enc x=[iv x]from rfl]at i1;have w1:Xe.wrap ((j:Int)+1)=((j+1:Nat):Int):=Bb (by omega) (by omega);have tq:=DN (e:=A6) h1;rw[hz]at tq
   have tq:Bn H [.row 1 0 l.length 1,.t (iv x)]=some ([slT A6 l,iv x],[1]):=by
    rw[Bn,tq];rfl
   have eP:=V8 x (IsS.mk (e:=A6) l) (by omega);have ap:=FX x l.length 3 4 rfl rfl rfl h1 (nx:=2) (by omega) (by omega);have C9:=qC hx;rw[<-hl]at C9;by_cases hin:x∈l
   .rw[zu hin]at C9
    have b1:decide (plc x 0 l<0)=false:=by
     rw[decide_eq_false_iff_not,Nr];exact λh=>h hin
    refine A8 C ?_;simp -implicitDefEqProofs [SFs,<-hl,<-hH,ll,hlt,i1,lp,tq,eP,b1,w1,-Bn];refine A4.mk (j+1) ⟨hlt,by omega⟩ ?_;show Abs.Sub _ _ _ _ (SFs X tl (Bo [] (L.take (j+1))) (j+1));rw[C9];exact BV (k:=1) h1 h0 (by omega) hXc (by simp -implicitDefEqProofs [ren,under])
   .rw[zw hin]at C9
    have b1:decide (plc x 0 l<0)=true:=by
     rw[decide_eq_true_iff,Nr];exact hin
    refine A8 C ?_;simp -implicitDefEqProofs [SFs,<-hl,<-hH,ll,hlt,i1,lp,tq,eP,b1,HE,ap,w1,-Bn];refine A4.mk (j+1) ⟨hlt,by omega⟩ ?_;show Abs.Sub _ _ _ _ (SFs X tl (Bo [] (L.take (j+1))) (j+1));rw[C9]
    have el:(l++[x]).length=l.length+1:=by simp
    unfold SFs;rw[el];exact BV (k:=3) (by rw[A9,zu rfl]) (by simp[A9,BZ,h0]) (by omega) hXc (by simp -implicitDefEqProofs [ren,under])
  .have ej:j=L.length:=by omega
   refine A8 C ?_;simp -implicitDefEqProofs [SFs,<-hl,<-hH,ll,hlt];refine A4.mk () trivial ?_;rw[hF,<-ej,<-hl];exact BV (k:=1) h1 h0 (by omega) hXc (by simp -implicitDefEqProofs [ren,under])
 rintro _ _;have hne:toT (hMI X (BM m)) (.row 1 0 (BM m).length 1)=some (slT A6 (BM m),[1]):=DN (e:=A6) (LL X (BM m));refine A8 C ?_;simp -implicitDefEqProofs [hne,hR,-toT]
noncomputable def Ql:List T->Option T:=gM λm=>slT A6 (BM m)
theorem qE:GOK Xc (G q) 35 Ql:=JZ λ_ _ h hs=>qD h hs
end Go.Proofs.YtmgjopafgboljaaGreatDoor
namespace Go.Abs
open Go
def rho (m:Mr) (x:Int):Int:=plc x 0 (BM m)
def DA (m:Mr):Mr:=⟨rho m m.top,rho m m.index,(BM m).map (vS m.vars),m.rels.map (Bu (rho m)),m.cons.map (Bv (rho m))⟩
theorem NU {m:Mr} {x:Int}:x∈BM m ↔ x∈occ m:=by
 unfold BM;rw[IQ];simp
theorem qF (m:Mr):(BM m).Nodup:=JM List.nodup_nil
theorem VD {m:Mr} {x:Int} (h:x∈occ m):∃n:Nat,rho m x=(n:Int)/\n<(BM m).length/\(BM m)[n]?=some x:=by
 obtain⟨n,h1,h2,h3⟩:=Np (i:=0) (NU.2 h);obtain⟨_,h4⟩:=P1 h1;exact⟨n,h1,by omega,by simpa using h4⟩
theorem qG (m:Mr) (g:Int->Int) (vs:List ByteArray):occ ⟨g m.top,g m.index,vs,m.rels.map (Bu g),m.cons.map (Bv g)⟩=(occ m).map g:=by
 unfold occ;simp only[Xs,Ys,Yt,Yu];congr 3
 .refine LC λx _=>?_;unfold B7 Bu;simp only[Xs,Yf];rfl
theorem qI (m:Mr) (g:Int->Int) (vs:List ByteArray):hnd ⟨g m.top,g m.index,vs,m.rels.map (Bu g),m.cons.map (Bv g)⟩=(hnd m).map g:=by
 unfold hnd;simp only[Xs,Ys,Yt,Yu,Yf];rfl
theorem qJ (m:Mr):occ (DA m)=(occ m).map (rho m):=qG m _ _
theorem qK (m:Mr):hnd (DA m)=(hnd m).map (rho m):=qI m _ _
theorem Qm (m:Mr):∀x∈hnd m,x∈occ m:=by
 intro x hx;simp only[hnd,X4,Xw,Xz]at hx;simp only[occ,X4,Xw];rcases hx with h | ⟨y,hy,rfl⟩ | h
 .exact .inl h
 .exact .inr (.inr (.inl (List.mem_flatMap.2 ⟨y,hy,by simp[B7]⟩)))
 .exact .inr (.inr (.inr h))
theorem qM {m:Mr} (h:okV m):(BM m).length<=m.vars.length:=by
 by_cases hl:(BM m).length<=m.vars.length
 .exact hl
 .have hp:=G6 (qF m) (m:=upN m.vars.length) (λx hx=>DK.2 (h x (NU.1 hx))) (by rw[Cv];omega);have:=hp.length_eq;rw[Cv]at this;omega
theorem qN {m:Mr} (_:okV m):okV (DA m):=by
 intro x hx;rw[qJ]at hx;obtain⟨y,hy,rfl⟩:=Xz.1 hx;obtain⟨n,h1,h2,_⟩:=VD hy;rw[h1];show inR ((BM m).map (vS m.vars)).length _;rw[Xg];exact⟨by omega,by omega⟩
theorem qO {m:Mr} (h:Fc m=true):full m:=λx hx=>by
 have h:=of_decide_eq_true h;rw[<-NU,h,DK];exact hx
def LN (prev:Option ByteArray) (s:ByteArray):Bool:=match prev with
 | none=>false
 | some p=>!decide (wb p<wb s)
section
variable (nm : Bool -> ByteArray -> Bool)
def Fx:Option ByteArray->List Ag->Int
 | _,[]=>0
 | prev,a::r=>if nm true a.role=false\/a.role=Ig then 1 else if LN prev a.role then 3 else Fx (some a.role) r
def Dk (x:Ep):Int:=if nm false x.pred=false then 1 else Fx nm none x.args
def FY:List Ep->Int
 | []=>0
 | x::r=>if Dk nm x≠0 then Dk nm x else FY r
def E7 (m:Mr):Int:=
 if 16<m.rels.length\/16<m.cons.length\/256<m.vars.length then 7
 else if m.vars.all Cr=false then 1
 else if FY nm m.rels≠0 then FY nm m.rels
 else if(occ m).all (λx=>decide (inR m.vars.length x))=false then 2
 else if(hnd m).all (λx=>decide (vS m.vars x=wH))=false then 2
 else 0
def Dl (m:Mr):Int:=if E7 nm m≠0 then E7 nm m else if Fc m then 0 else 3
end
section
variable {nm : Bool -> ByteArray -> Bool}
structure E8 (nm:Bool->ByteArray->Bool) (m:Mr):Prop where
 rels:m.rels.length<=16
 cons:m.cons.length<=16
 vars:m.vars.length<=256
 sorts:∀s∈m.vars,Cr s=true
 preds:∀x∈m.rels,Dk nm x=0
 ok:okV m
 hnd:∀x∈hnd m,vS m.vars x=wH
theorem Qn:∀{l:List Ep},FY nm l=0 ↔ ∀x∈l,Dk nm x=0
 | []=>by simp[FY]
 | x::r=>by
  rw[FY];by_cases h:Dk nm x=0
  .rw[zw (λe=>e h),Qn];simp[h]
  .rw[zu h];simp[h]
theorem Ka {m:Mr}:E7 nm m=0 ↔ E8 nm m:=by
 unfold E7;constructor
 .intro h;split at h
  .cases h
  rename_i h1;split at h
  .cases h
  rename_i h2;by_cases h3:FY nm m.rels=0
  rotate_left
  .rw[zu h3]at h;exact absurd h h3
  rw[zw (λe=>e h3)]at h;split at h
  .cases h
  rename_i h4;split at h
  .cases h
  rename_i h5
  have h2:m.vars.all Cr=true:=by simpa using h2
  have h4:(occ m).all (λx=>decide (inR m.vars.length x))=true:=by
   cases e:(occ m).all (λx=>decide (inR m.vars.length x))with
   | true=>rfl
   | false=>exact absurd e h4
  have h5:(hnd m).all (λx=>decide (vS m.vars x=wH))=true:=by
   cases e:(hnd m).all (λx=>decide (vS m.vars x=wH))with
   | true=>rfl
   | false=>exact absurd e h5
  rw[Xh]at h2 h4 h5;exact⟨by omega,by omega,by omega,h2,Qn.1 h3,λx hx=>of_decide_eq_true (h4 x hx),λx hx=>of_decide_eq_true (h5 x hx)⟩
 .intro h;have h1:=h.rels;have h2:=h.cons;have h3:=h.vars;rw[zw (by omega),zw,zw,zw,zw]
  .rw[Yg,Xh];exact λx hx=>zq (h.hnd x hx)
  .rw[Yg,Xh];exact λx hx=>zq (h.ok x hx)
  .exact λe=>e (Qn.2 h.preds)
  .rw[Yg,Xh];exact h.sorts
theorem LO {m:Mr}:Dl nm m=0 ↔ E8 nm m/\Fc m=true:=by
 unfold Dl;by_cases h:E7 nm m=0
 .rw[zw (λe=>e h)];constructor
  .intro k;split at k
   .rename_i hn;exact⟨Ka.1 h,hn⟩
   .cases k
  .rintro⟨_,hn⟩;rw[zu hn]
 .rw[zu h];constructor
  .intro k;exact absurd k h
  .rintro⟨k,_⟩;exact absurd (Ka.2 k) h
theorem VE (g:Int->Int):∀(l:List Ag) (p:Option ByteArray),Fx nm p (l.map λa=>⟨a.role,g a.var⟩)=Fx nm p l
 | [],p=>rfl
 | a::r,p=>by
  rw[Xs,Fx,Fx];simp only;rw[VE g r]
theorem qP (g:Int->Int) (x:Ep):Dk nm (Bu g x)=Dk nm x:=by
 unfold Dk Bu;simp only;rw[VE]
theorem VF {m:Mr} (h:E8 nm m):E8 nm (DA m):=by
 refine⟨by show(m.rels.map _).length<=_;rw[Xg];exact h.rels,by show(m.cons.map _).length<=_;rw[Xg];exact h.cons,?_,λs hs=>?_,λx hx=>?_,qN h.ok,λx hx=>?_⟩
 .show((BM m).map _).length<=_;rw[Xg];have:=qM h.ok;have:=h.vars;omega
 .obtain⟨x,hx,rfl⟩:=Xz.1 (show s∈(BM m).map (vS m.vars)from hs);have hr:=h.ok x (NU.1 hx);refine h.sorts _ ?_;unfold vS;have h1:=hr.1;have h2:=hr.2;exact IU _ (by omega)
 .obtain⟨y,hy,rfl⟩:=Xz.1 (show x∈m.rels.map (Bu (rho m))from hx);rw[qP];exact h.preds y hy
 .rw[qK]at hx;obtain⟨y,hy,rfl⟩:=Xz.1 hx;obtain⟨n,h1,h2,h3⟩:=VD (Qm m y hy);have:=h.hnd y hy;rw[<-this];show((BM m).map (vS m.vars)).getD (rho m y).toNat _=_;rw[h1,Yv,Yw (l:=(BM m).map (vS m.vars)),Xv,h3];rfl
theorem VG {m:Mr} (h:Dl nm m=0):okV m/\full m:=⟨(LO.1 h).1.ok,qO (LO.1 h).2⟩
end
end Go.Abs
namespace Go.Proofs.YtmgjopafgboljaaGreatDoor
open Go Go.Abs
variable {q : Gl}
noncomputable def Kb (b:Bool):List T->Option T:=g1 CX λs=>if s.size<=lim then some (bv (AN b s))else none
theorem NV (b:Bool) {s:ByteArray} (h:s.size<=lim):Kb b [sv s]=some (bv (AN b s)):=(JK (τ:=CX) rfl).trans (zu h)
theorem NW {F:Nat} {b:Bool} (h:∀s:ByteArray,s.size<=lim->Bc Xc (G q) F [sv s] (· = bv (AN b s))):GOK Xc (G q) F (Kb b):=JJ λa s r ha hr=>by
 obtain rfl:a=sv s:=ha;split at hr
 .rename_i hs;injection hr with hr;subst hr;exact h s hs
 .cases hr
noncomputable def Ef:Tbl:=[(68,Kb false),(69,Kb true),(66,Kb false),(67,Kb true)]
theorem D1:Ctx Xc (G q) (orc Ef):=(AB.cons (NW nA) (.cons (NW nB) (.cons (NW mY) (.cons (NW mZ) .nil)))).ctx mixed
theorem VH (p:ByteArray) (s:ByteArray):LN (some p) s = !DE p s:=by
 unfold LN DE;rw[bytesLess_eq,G5,G5]
def Io (l:List Ag) (j:Nat):Option ByteArray:=(l.take j).getLast?.map Ag.role
theorem Kh {l:List Ag} {j:Nat} {a:Ag} (h:l[j]?=some a):Io l (j+1)=some a.role:=by
 unfold Io;rw[Xq,h];simp
theorem cd3 (a b c:T):Bq (.t (.ag [a,b,c]))=some [.t a,.t b,.t c]:=rfl
abbrev Ca (p:ByteArray) (l:Int) (ta:T):Row:=.cells 47 [.t (sv p),.t (iv l),.t ta]
structure LdE (p:ByteArray) (l:Int) (ta:T) (H:Ak) (k:Nat):Prop where
 l0:AD false 1 H (.ptr k 0)=some (.t (sv p))
 l1:AD false 1 H (.ptr k 1)=some (.t (iv l))
 l2:AD false 1 H (.ptr k 2)=some (.t ta)
theorem ldE {p:ByteArray} {l:Int} {ta:T} {H:Ak} {k:Nat} (h:Aj H k=some (Ca p l ta)):LdE p l ta H k:=by
 constructor<;>simp[AD,h]
theorem VI (s:ByteArray):(s.toList==[76,65,66,69,76])=decide (s=Ig):=by
 have:=Eb s Ig;rwa[show Ig.toList=[76,65,66,69,76]by rw[G5];rfl]at this
def SPr (n:Nat) (X:Row) (j:Nat):Am:=⟨[(3,.t (iv (j:Int))),(1,.ptr 0 0)],[(0,X)],1,n⟩
theorem qQ (c:EC) (hal:c.x.args.length<=1000) (hp:c.x.pred.size<=lim) (hro:∀a∈c.x.args,a.role.size<=lim):Bc Xc (G q) 37 [.ag c.cs] (· = iv (Dk AN c.x)):=by
 obtain⟨ta,hcs,hta⟩:=c.ok;rw[hcs]
 obtain⟨x,hx⟩:∃x,x=c.x:=⟨_,rfl⟩
 rw[<-hx]at hal hp hro hta ⊢;have la:=hta.len;have cd:=cd3 (sv x.pred) (iv x.label) ta
 obtain⟨X,hX⟩:∃X,X=Ca x.pred x.label ta:=⟨_,rfl⟩
 have z:=ldE (H:=[(0,X)]) (k:=0) (p:=x.pred) (l:=x.label) (ta:=ta) (by rw[hX];rfl)
 obtain⟨R,hR⟩:∃R,R=Dk AN x:=⟨_,rfl⟩
 rw[<-hR];have eN:=NV false hp;refine pF.call rfl ?_;(conv in Vk=>cbv);refine Ao D1 ?_;simp -implicitDefEqProofs [cd];rw[show Row.cells 47 [.t (sv x.pred),.t (iv x.label),.t ta]=X from hX.symm];unfold Dk at hR
 cases hn:AN false x.pred with
 | false=>
  rw[zu hn]at hR;rw[hn]at eN;refine Ao D1 ?_;simp -implicitDefEqProofs [Ef,z.l0,eN,hR]
 | true=>
  rw[zw (by rw[hn];decide)]at hR;rw[hn]at eN;refine Ao D1 ?_;simp -implicitDefEqProofs [Ef,z.l0,eN];refine AZ (α:=Unit) (λ_=>⟨[],[],1,50⟩) (λ_=>R=0) (λ_=>rfl) ?_ ?_
  .refine Ao D1 ?_;simp -implicitDefEqProofs;refine AY ?_;refine Bj (SPr 50 X) (λj=>x.args.length-j) (λj=>j<=x.args.length/\R=Fx AN (Io x.args j) (x.args.drop j)) 0 (λ_=>rfl) ⟨Xf _,hR⟩ ?_ rfl ?_
   .exact Aw (by simp -implicitDefEqProofs [SPr])
   rintro j ⟨hj,heq⟩;by_cases hlt:j<x.args.length
   .obtain⟨a,ha⟩:∃a,x.args[j]?=some a:=⟨_,Xd hlt⟩
    have i1:=hta.iaddr ha .i64;have hz:eAg.z=2:=rfl;rw[hz,show eAg.enc a=[sv a.role,iv a.var]from rfl]at i1;have w1:Xe.wrap ((j:Int)+1)=((j+1:Nat):Int):=Bb (by omega) (by omega);have eF:=NV true (hro a (Xj ha));have sl:=VI a.role;rw[Xt hlt,(Xi.1 ha).2,Fx]at heq;by_cases h1:AN true a.role=false\/a.role=Ig
    .rw[zu h1]at heq;by_cases h2:AN true a.role=false
     .rw[h2]at eF;refine A8 D1 ?_;simp -implicitDefEqProofs [SPr,Ef,z.l2,la,hlt,i1,lp,eF,heq]
     .have h2:AN true a.role=true:=by simpa using h2
      have h3:=h1.resolve_left (by rw[h2];decide);rw[h2]at eF;rw[zq h3]at sl;refine A8 D1 ?_;simp -implicitDefEqProofs [SPr,Ef,z.l2,la,hlt,i1,lp,eF,sl,heq]
    .rw[zw h1]at heq
     have h2:AN true a.role=true:=by
      cases h:AN true a.role with
      | true=>rfl
      | false=>exact absurd (.inl h) h1
     have h3:¬a.role=Ig:=λh=>h1 (.inr h);rw[h2]at eF;rw[zt h3]at sl;by_cases h0:0<j
     .obtain⟨k,hk⟩:∃k,j=k+1:=⟨j-1,by omega⟩
      obtain⟨b,hb⟩:∃b,x.args[k]?=some b:=⟨_,Xd (by omega)⟩
      have i2:=hta.iaddr hb .i64;rw[hz,show eAg.enc b=[sv b.role,iv b.var]from rfl]at i2;have wk:Xe.wrap ((j:Int)-1)=(k:Int):=Bb (by omega) (by omega)
      have hpv:Io x.args j=some b.role:=by rw[hk];exact Kh hb
      rw[hpv,VH]at heq
      have hd:decide ((0:Int)<(j:Int))=true:=by simpa using (by omega:(0:Int)<(j:Int))
      cases hl:DE b.role a.role with
      | false=>
       rw[hl,zu (show(!false)=true from rfl)]at heq;refine A8 D1 ?_;simp -implicitDefEqProofs [SPr,Ef,z.l2,la,hlt,i1,lp,eF,sl,hd,h0,wk,i2,hl,heq]
      | true=>
       rw[hl,zw (by decide)]at heq;refine A8 D1 ?_;simp -implicitDefEqProofs [SPr,Ef,z.l2,la,hlt,i1,lp,eF,sl,hd,h0,wk,i2,hl,w1];refine A4.mk (j+1) ⟨⟨hlt,by rw[Kh ha];exact heq⟩,by omega⟩ ?_;exact Aw (by simp -implicitDefEqProofs [SPr])
     .have hj0:j=0:=by omega
      have hpv:Io x.args j=none:=by rw[hj0];rfl
      rw[hpv,zw (show ¬LN none a.role=true from λh=>by cases h)]at heq;have hd:¬(0<j):=h0;refine A8 D1 ?_;simp -implicitDefEqProofs [SPr,Ef,z.l2,la,hlt,i1,lp,eF,sl,hd,w1];refine A4.mk (j+1) ⟨⟨hlt,by rw[Kh ha];exact heq⟩,by omega⟩ ?_;exact Aw (by simp -implicitDefEqProofs [SPr])
   .have hR:R=0:=by rw[heq,Xo (by omega)];rfl
    refine A8 D1 ?_;simp -implicitDefEqProofs [SPr,Ef,z.l2,la,hlt];exact A4.mk () hR (L7 (by omega) (λq hq=>by cases hq))
  rintro _ hRG;refine A8 D1 ?_;simp -implicitDefEqProofs [hRG]
noncomputable def Ip:List T->Option T
 | [.ag cs]=>open Classical in if h:∃c:EC,c.cs=cs/\c.x.args.length<=1000/\c.x.pred.size<=lim/\∀a∈c.x.args,a.role.size<=lim then some (iv (Dk AN h.choose.x))else none
 | _=>none
theorem VJ (c:EC) (h1:c.x.args.length<=1000) (h2:c.x.pred.size<=lim) (h3:∀a∈c.x.args,a.role.size<=lim):Ip [.ag c.cs]=some (iv (Dk AN c.x)):=by
 have he:∃c':EC,c'.cs=c.cs/\c'.x.args.length<=1000/\c'.x.pred.size<=lim/\∀a∈c'.x.args,a.role.size<=lim:=⟨c,rfl,h1,h2,h3⟩
 simp only[Ip];rw[dif_pos he,EC.ext he.choose_spec.1]
theorem VK {F:Nat} (h:∀c:EC,c.x.args.length<=1000->c.x.pred.size<=lim->(∀a∈c.x.args,a.role.size<=lim)->Bc Xc (G q) F [.ag c.cs] (· = iv (Dk AN c.x))):GOK Xc (G q) F Ip:=λargs r hr=>by
 unfold Ip at hr;split at hr
 .rename_i cs;split at hr
  .rename_i he;injection hr with hr;subst hr;have hs:=he.choose_spec;have:=h he.choose hs.2.1 hs.2.2.1 hs.2.2.2;rwa[hs.1]at this
  .cases hr
 .cases hr
theorem qR:GOK Xc (G q) 37 Ip:=VK qQ
noncomputable def Qo:List T->Option T:=g1 CX λs=>some (bv (Cr s))
theorem qS:GOK Xc (G q) 36 Qo:=JJ λa s r ha hr=>by
 obtain rfl:a=sv s:=ha;injection hr with hr;subst hr;exact V9 s
theorem qT (s:ByteArray):Qo [sv s]=some (bv (Cr s)):=JK (τ:=CX) rfl
noncomputable def Fy:Tbl:=[(36,Qo),(37,Ip),(38,Ik),(39,Im)]
theorem Da:Ctx Xc (G q) (orc Fy):=(AB.cons qS (.cons qR (.cons VA (.cons qB .nil)))).ctx mixed
theorem VL {l:List ByteArray} {n:Nat} {s:ByteArray} (h:l[n]?=some s):vS l (n:Int)=s:=by
 unfold vS;rw[Yv,Yw,h];rfl
theorem VM (s:ByteArray):(s.toList==[104])=decide (s=wH):=by
 have:=Eb s wH;rwa[show wH.toList=[104]by rw[G5];rfl]at this
def Ce {α:Type} (p:α->Bool) (l:List α) (e K:Int):Int:=if l.all p=false then e else K
def EJ {α:Type} (p:α->Bool) (l:List α):Prop:=l.all p=true
def Fg (l:List Ep) (K:Int):Int:=if FY AN l≠0 then FY AN l else K
theorem Ki {α:Type} (p:α->Bool) {l:List α} {j:Nat} (h:l.length<=j) (e K:Int):Ce p (l.drop j) e K=K:=by rw[Xo h];rfl
theorem VN {α:Type} (p:α->Bool) {l:List α} {j:Nat} (h:l.length<=j):EJ p (l.drop j):=by rw[Xo h];rfl
theorem VO {l:List Ep} {j:Nat} (h:l.length<=j) (K:Int):Fg (l.drop j) K=K:=by rw[Xo h];rfl
theorem VP {α:Type} {p:α->Bool} {l:List α} {j:Nat} {x:α} (h:l[j]?=some x):(l.drop j).all p=(p x&&(l.drop (j+1)).all p):=by
 have hlt:=(Xi.1 h).1;rw[Xt hlt,(Xi.1 h).2,List.all_cons]
theorem Kj {α:Type} {p:α->Bool} {l:List α} {j:Nat} {x:α} (h:l[j]?=some x) (e K:Int):Ce p (l.drop j) e K=if p x=true then Ce p (l.drop (j+1)) e K else e:=by
 unfold Ce;rw[VP h];cases p x<;>simp
theorem VQ {α:Type} {p:α->Bool} {l:List α} {j:Nat} {x:α} (h:l[j]?=some x):EJ p (l.drop j) ↔ p x=true/\EJ p (l.drop (j+1)):=by
 unfold EJ;rw[VP h,Xl]
theorem VR {l:List Ep} {j:Nat} {x:Ep} (h:l[j]?=some x) (K:Int):Fg (l.drop j) K=if Dk AN x=0 then Fg (l.drop (j+1)) K else Dk AN x:=by
 have hlt:=(Xi.1 h).1;unfold Fg;rw[Xt hlt,(Xi.1 h).2,FY];by_cases h0:Dk AN x=0
 .simp only[h0,ne_eq,not_true,if_false,if_true]
 .simp only[h0,ne_eq,not_false_iff,if_true,if_false]
theorem VS (m:Mr) (h:¬(16<m.rels.length\/16<m.cons.length\/256<m.vars.length)):E7 AN m=Ce Cr m.vars 1 (Fg m.rels (Ce (λx=>decide (inR m.vars.length x)) (occ m) 2 (Ce (λx=>decide (vS m.vars x=wH)) (hnd m) 2 0))):=by
 unfold E7 Ce Fg;rw[zw h]
def SLo (k:Nat) (X:Row) (j:Nat):Am:=⟨[(k,.t (iv (j:Int))),(1,.ptr 0 0)],[(0,X)],1,96⟩
def SLl (k k':Nat) (X:Row) (tl:T) (j:Nat):Am:=⟨[(k,.t (iv (j:Int))),(k',.t tl),(1,.ptr 0 0)],[(0,X)],1,96⟩
theorem qU {m:Mr} {cs:List T} (hm:BJ m cs) (hs:SmM m):Bc Xc (G q) 16 [.ag cs] (· = iv (E7 AN m)):=by
 have eO:=PZ hm hs;obtain⟨tv,tr,tc,rl,rfl,hv,hr,hrm,hc⟩:=hm
 obtain⟨X,hX⟩:∃X,X=Br [iv m.top,iv m.index,tv,tr,tc]:=⟨_,rfl⟩
 have z:=ldM (H:=[(0,X)]) (k:=0) (by rw[hX];rfl);have lv:=hv.len;have lr:=hr.len;have lc:=hc.len
 have hrl:rl.length=m.rels.length:=by rw[<-hrm,Xg]
 have hsr:=hs.rels;have hsc:=hs.cons;have hsv:=hs.vars;have cd:=cd5 (iv m.top) (iv m.index) tv tr tc
 obtain⟨R,hR⟩:∃R,R=E7 AN m:=⟨_,rfl⟩
 rw[<-hR];refine pJ.call rfl ?_;(conv in Vn=>cbv);refine Ao Da ?_;simp -implicitDefEqProofs [cd];rw[show Row.cells 26 [.t (iv m.top),.t (iv m.index),.t tv,.t tr,.t tc]=X from hX.symm];by_cases h1:16<m.rels.length\/16<m.cons.length\/256<m.vars.length
 .unfold E7 at hR;rw[zu h1]at hR;by_cases a1:16<rl.length
  .have b1:decide ((16:Int)<(rl.length:Int))=true:=by simpa using (by omega:(16:Int)<(rl.length:Int))
   refine Ao Da ?_;simp -implicitDefEqProofs [z.l3,lr,b1,hR]
  .have b1:decide ((16:Int)<(rl.length:Int))=false:=by simpa using (by omega:(rl.length:Int)<=16)
   by_cases a2:16<m.cons.length
   .have b2:decide ((16:Int)<(m.cons.length:Int))=true:=by simpa using (by omega:(16:Int)<(m.cons.length:Int))
    refine Ao Da ?_;simp -implicitDefEqProofs [z.l3,z.l4,lr,lc,b1,b2,hR]
   .have b2:decide ((16:Int)<(m.cons.length:Int))=false:=by simpa using (by omega:(m.cons.length:Int)<=16)
    have b3:decide ((256:Int)<(m.vars.length:Int))=true:=by simpa using (by omega:(256:Int)<(m.vars.length:Int))
    refine Ao Da ?_;simp -implicitDefEqProofs [z.l3,z.l4,z.l2,lr,lc,lv,b1,b2,b3,hR]
 rw[VS m h1]at hR
 have b1:decide ((16:Int)<(rl.length:Int))=false:=by simpa using (by omega:(rl.length:Int)<=16)
 have b2:decide ((16:Int)<(m.cons.length:Int))=false:=by simpa using (by omega:(m.cons.length:Int)<=16)
 have b3:decide ((256:Int)<(m.vars.length:Int))=false:=by simpa using (by omega:(m.vars.length:Int)<=256)
 refine Ao Da ?_;simp -implicitDefEqProofs [z.l3,z.l4,z.l2,lr,lc,lv,b1,b2,b3]
 obtain⟨K1,hK1⟩:∃K1,K1=Fg m.rels (Ce (λx=>decide (inR m.vars.length x)) (occ m) 2 (Ce (λx=>decide (vS m.vars x=wH)) (hnd m) 2 0)):=⟨_,rfl⟩
 rw[<-hK1]at hR;refine AZ (α:=Unit) (λ_=>⟨[(1,.ptr 0 0)],[(0,X)],1,96⟩) (λ_=>R=K1) (λ_=>rfl) ?_ ?_
 .refine Ao Da ?_;simp -implicitDefEqProofs;refine AY ?_;refine Bj (SLo 3 X) (λj=>m.vars.length-j) (λj=>j<=m.vars.length/\R=Ce Cr (m.vars.drop j) 1 K1) 0 (λ_=>rfl) ⟨Xf _,hR⟩ ?_ rfl ?_
  .exact Aw (by simp -implicitDefEqProofs [SLo])
  rintro j ⟨hj,heq⟩;by_cases hlt:j<m.vars.length
  .obtain⟨x,hx⟩:∃x,m.vars[j]?=some x:=⟨_,Xd hlt⟩
   have i1:=hv.iaddr hx .i64;have hz:Ar.z=1:=rfl;rw[hz,show Ar.enc x=[sv x]from rfl]at i1;have w1:Xe.wrap ((j:Int)+1)=((j+1:Nat):Int):=Bb (by omega) (by omega);have eS:=qT x;rw[Kj hx]at heq
   cases hsx:Cr x with
   | false=>
    rw[zw (by rw[hsx];decide)]at heq;rw[hsx]at eS;refine A8 Da ?_;simp -implicitDefEqProofs [SLo,Fy,z.l2,lv,hlt,i1,lp,eS,heq]
   | true=>
    rw[zu hsx]at heq;rw[hsx]at eS;refine A8 Da ?_;simp -implicitDefEqProofs [SLo,Fy,z.l2,lv,hlt,i1,lp,eS,w1];exact A4.mk (j+1) ⟨⟨hlt,heq⟩,by omega⟩ (Aw (by simp -implicitDefEqProofs [SLo]))
  .have hR:R=K1:=by rw[heq,Ki _ (by omega)]
   refine A8 Da ?_;simp -implicitDefEqProofs [SLo,z.l2,lv,hlt];exact A4.mk () hR (Aw (by simp -implicitDefEqProofs))
 rintro _ hRK;clear hR
 obtain⟨K2,hK2⟩:∃K2,K2=Ce (λx=>decide (inR m.vars.length x)) (occ m) 2 (Ce (λx=>decide (vS m.vars x=wH)) (hnd m) 2 0):=⟨_,rfl⟩
 rw[<-hK2]at hK1;rw[hK1]at hRK;refine AZ (α:=Unit) (λ_=>⟨[(1,.ptr 0 0)],[(0,X)],1,96⟩) (λ_=>R=K2) (λ_=>rfl) ?_ ?_
 .refine Ao Da ?_;simp -implicitDefEqProofs;refine AY ?_;refine Bj (SLo 4 X) (λj=>m.rels.length-j) (λj=>j<=m.rels.length/\R=Fg (m.rels.drop j) K2) 0 (λ_=>rfl) ⟨Xf _,hRK⟩ ?_ rfl ?_
  .exact Aw (by simp -implicitDefEqProofs [SLo])
  rintro j ⟨hj,heq⟩;by_cases hlt:j<rl.length
  .obtain⟨c,hc1⟩:∃c,rl[j]?=some c:=⟨_,Xd (by omega)⟩
   have hx:m.rels[j]?=some c.x:=by rw[<-hrm,Xv,hc1];rfl
   have hxm:=Xj hx;have i1:=hr.iaddr hc1 .i64;have hz:eEC.z=3:=rfl;rw[hz,show eEC.enc c=c.cs from rfl]at i1
   have l3:∀H:Ak,AD true 3 H (.t (.pt (c.cs++rest eEC rl j)))=some (.t (.ag c.cs)):=λH=>by
    have hl:=c.ok.len;simp only[AD,if_true];rw[zu (by simp[hl]),<-hl,Yx]
   have w1:Xe.wrap ((j:Int)+1)=((j+1:Nat):Int):=Bb (by omega) (by omega);have eC:=VJ c (hs.args _ hxm) (hs.strs _ hxm).1 (hs.strs _ hxm).2;rw[VR hx]at heq
   obtain⟨e,he⟩:∃e,e=Dk AN c.x:=⟨_,rfl⟩
   rw[<-he]at heq eC;by_cases h0:e=0
   .have be:(e != 0)=false:=by simpa using h0
    rw[zu h0]at heq;refine A8 Da ?_;simp -implicitDefEqProofs [SLo,Fy,z.l3,lr,hlt,i1,l3,eC,be,w1];exact A4.mk (j+1) ⟨⟨by omega,heq⟩,by omega⟩ (Aw (by simp -implicitDefEqProofs [SLo]))
   .have be:(e != 0)=true:=by simpa using h0
    rw[zw h0]at heq;refine A8 Da ?_;simp -implicitDefEqProofs [SLo,Fy,z.l3,lr,hlt,i1,l3,eC,be,heq]
  .have hR:R=K2:=by rw[heq,VO (by omega)]
   refine A8 Da ?_;simp -implicitDefEqProofs [SLo,z.l3,lr,hlt];exact A4.mk () hR (Aw (by simp -implicitDefEqProofs))
 rintro _ hR2;clear hRK
 obtain⟨L,hL⟩:∃L,L=occ m:=⟨_,rfl⟩
 rw[<-hL]at eO hK2
 obtain⟨tl,htl⟩:∃tl,tl=slT A6 L:=⟨_,rfl⟩
 have hTl:IsS A6 tl L:=.inr htl;rw[<-htl]at eO;have ll:=hTl.len
 have hLl:L.length<=300000000:=by rw[hL];exact LM hs
 refine Ao Da ?_;simp -implicitDefEqProofs [Fy,z.all,eO]
 obtain⟨K3,hK3⟩:∃K3,K3=Ce (λx=>decide (vS m.vars x=wH)) (hnd m) 2 0:=⟨_,rfl⟩
 rw[<-hK3]at hK2;rw[hK2]at hR2;refine AZ (α:=Unit) (λ_=>⟨[(1,.ptr 0 0)],[(0,X)],1,96⟩) (λ_=>R=K3/\EJ (λx=>decide (inR m.vars.length x)) L) (λ_=>rfl) ?_ ?_
 .refine Ao Da ?_;simp -implicitDefEqProofs;refine AY ?_;refine Bj (SLl 7 6 X tl) (λj=>L.length-j) (λj=>j<=L.length/\(EJ (λx=>decide (inR m.vars.length x)) L ↔ EJ (λx=>decide (inR m.vars.length x)) (L.drop j))/\R=Ce (λx=>decide (inR m.vars.length x)) (L.drop j) 2 K3) 0 (λ_=>rfl) ⟨Xf _,Iff.rfl,hR2⟩ ?_ rfl ?_
  .exact Aw (by simp -implicitDefEqProofs [SLl])
  rintro j ⟨hj,hall,heq⟩;by_cases hlt:j<L.length
  .obtain⟨x,hx⟩:∃x,L[j]?=some x:=⟨_,Xd hlt⟩
   have i1:=hTl.iaddr hx .i64;have hz:A6.z=1:=rfl;rw[hz,show A6.enc x=[iv x]from rfl]at i1;have w1:Xe.wrap ((j:Int)+1)=((j+1:Nat):Int):=Bb (by omega) (by omega);rw[Kj hx]at heq;rw[VQ hx]at hall;by_cases hn:x<0
   .have hin:decide (inR m.vars.length x)=false:=by rw[decide_eq_false_iff_not];exact λh=>by have:=h.1;omega
    rw[zw (by rw[hin];decide)]at heq;refine A8 Da ?_;simp -implicitDefEqProofs [SLl,Fy,ll,hlt,i1,lp,hn,heq]
   .by_cases hg:(m.vars.length:Int)<=x
    .have hin:decide (inR m.vars.length x)=false:=by rw[decide_eq_false_iff_not];exact λh=>by have:=h.2;omega
     rw[zw (by rw[hin];decide)]at heq;refine A8 Da ?_;simp -implicitDefEqProofs [SLl,Fy,ll,hlt,i1,lp,hn,z.l2,lv,hg,heq]
    .have hin:decide (inR m.vars.length x)=true:=zq ⟨by omega,by omega⟩;rw[zu hin]at heq;have hall:=hall.trans (and_iff_right hin);refine A8 Da ?_;simp -implicitDefEqProofs [SLl,Fy,ll,hlt,i1,lp,hn,z.l2,lv,hg,w1];exact A4.mk (j+1) ⟨⟨hlt,hall,heq⟩,by omega⟩ (Aw (by simp -implicitDefEqProofs [SLl]))
  .rw[Ki _ (by omega)]at heq;have hall:=hall.2 (VN _ (by omega));refine A8 Da ?_;simp -implicitDefEqProofs [SLl,ll,hlt];exact A4.mk () ⟨heq,hall⟩ (Aw (by simp -implicitDefEqProofs))
 rintro _ ⟨hR3,hok⟩
 obtain⟨D,hD⟩:∃D,D=hnd m:=⟨_,rfl⟩
 have hsub:∀x∈D,inR m.vars.length x:=λx hx=>by
  unfold EJ at hok;rw[Xh]at hok;exact of_decide_eq_true (hok x (by rw[hL];exact Qm m x (by rw[<-hD];exact hx)))
 rw[<-hD]at hK3
 obtain⟨th,hth⟩:∃th,th=slT A6 D:=⟨_,rfl⟩
 have hTh:IsS A6 th D:=.inr hth
 have eH:Im [.ag [iv m.top,iv m.index,tv,tr,tc]]=some th:=by unfold Im;rw[hth,hD];exact Il _ ⟨tv,tr,tc,rl,rfl,hv,hr,hrm,hc⟩ hs
 have lh:=hTh.len
 have hDl:D.length<=1000000:=by rw[hD];exact VC hs
 refine Ao Da ?_;simp -implicitDefEqProofs [Fy,z.all,eH];rw[hK3]at hR3;refine AZ (α:=Unit) (λ_=>⟨[],[],1,96⟩) (λ_=>R=0) (λ_=>rfl) ?_ ?_
 .refine Ao Da ?_;simp -implicitDefEqProofs;refine AY ?_;refine Bj (SLl 9 8 X th) (λj=>D.length-j) (λj=>j<=D.length/\R=Ce (λx=>decide (vS m.vars x=wH)) (D.drop j) 2 0) 0 (λ_=>rfl) ⟨Xf _,hR3⟩ ?_ rfl ?_
  .exact Aw (by simp -implicitDefEqProofs [SLl])
  rintro j ⟨hj,heq⟩;by_cases hlt:j<D.length
  .obtain⟨x,hx⟩:∃x,D[j]?=some x:=⟨_,Xd hlt⟩
   have i1:=hTh.iaddr hx .i64;have hz:A6.z=1:=rfl;rw[hz,show A6.enc x=[iv x]from rfl]at i1;have hin:=hsub x (Xj hx)
   obtain⟨n,rfl⟩:∃n:Nat,x=(n:Int):=⟨x.toNat,by have:=hin.1;omega⟩
   have hnl:n<m.vars.length:=by have:=hin.2;omega
   obtain⟨s,hs1⟩:∃s,m.vars[n]?=some s:=⟨_,Xd hnl⟩
   have i2:=hv.iaddr hs1 .i64;have hzs:Ar.z=1:=rfl;rw[hzs,show Ar.enc s=[sv s]from rfl]at i2;have w1:Xe.wrap ((j:Int)+1)=((j+1:Nat):Int):=Bb (by omega) (by omega);rw[Kj hx,VL hs1]at heq;have sh:=VM s;by_cases hsw:s=wH
   .rw[zu (zq hsw)]at heq;rw[zq hsw]at sh;refine A8 Da ?_;simp -implicitDefEqProofs [SLl,Fy,lh,hlt,i1,lp,z.l2,i2,sh,w1];exact A4.mk (j+1) ⟨⟨hlt,heq⟩,by omega⟩ (Aw (by simp -implicitDefEqProofs [SLl]))
   .rw[zw (by rw[zt hsw];decide)]at heq;rw[zt hsw]at sh;refine A8 Da ?_;simp -implicitDefEqProofs [SLl,Fy,lh,hlt,i1,lp,z.l2,i2,sh,heq]
  .have hR:R=0:=by rw[heq,Ki _ (by omega)]
   refine A8 Da ?_;simp -implicitDefEqProofs [SLl,lh,hlt];exact A4.mk () hR (L7 (by omega) (λq hq=>by cases hq))
 rintro _ hRG;refine A8 Da ?_;simp -implicitDefEqProofs [hRG]
noncomputable def Qs:List T->Option T:=gM λm=>iv (E7 AN m)
theorem qV:GOK Xc (G q) 16 Qs:=JZ λ_ _ h hs=>qU h hs
def HF:Nat->List Int->Bool
 | _,[]=>true
 | j,x::r=>decide (x=(j:Int))&&HF (j+1) r
theorem VT:∀{l:List Int} {k:Nat},HF k l=true ↔ l=(List.range l.length).map λi=>((k+i:Nat):Int)
 | [],k=>by simp[HF]
 | x::r,k=>by
  rw[HF,Xl,decide_eq_true_iff,VT,Xn,List.range_succ_eq_map,Xs,Yf,List.cons.injEq]
  have e:((λi=>((k+i:Nat):Int))∘Nat.succ)=λi=>((k+1+i:Nat):Int):=by
   funext i;show((k+(i+1):Nat):Int)=_;congr 1;omega
  rw[e];exact Iff.rfl
theorem qW {l:List Int} {j:Nat} {x:Int} (h:l[j]?=some x):HF j (l.drop j)=(decide (x=(j:Int))&&HF (j+1) (l.drop (j+1))):=by
 have hlt:=(Xi.1 h).1;rw[Xt hlt,(Xi.1 h).2,HF]
theorem qX (m:Mr):Fc m=(decide ((BM m).length=m.vars.length)&&HF 0 (BM m)):=by
 unfold Fc;rw[Bool.eq_iff_iff,decide_eq_true_iff,Xl,decide_eq_true_iff,VT]
 have e:(λi:Nat=>((0+i:Nat):Int))=λi:Nat=>(i:Int):=by funext i;rw[Nat.zero_add]
 rw[e];constructor
 .intro h;have hl:=congrArg List.length h;rw[Cv]at hl;exact⟨hl,by rw[hl];exact h⟩
 .rintro⟨h1,h2⟩;rw[h2,h1];rfl
def Jj (l:List Int) (j:Nat):Int:=if HF j (l.drop j)=true then 0 else 3
theorem qY {l:List Int} {j:Nat} {x:Int} (h:l[j]?=some x):Jj l j=if x=(j:Int)then Jj l (j+1)else 3:=by
 unfold Jj;rw[qW h];by_cases e:x=(j:Int)<;>simp[e]
theorem qZ {l:List Int} {j:Nat} (h:l.length<=j):Jj l j=0:=by
 unfold Jj;rw[Xo h];rfl
noncomputable def NY:Tbl:=[(16,Qs),(35,Ql)]
theorem FZ:Ctx Xc (G q) (orc NY):=(AB.cons qV (.cons qE .nil)).ctx mixed
def SCk (n k k':Nat) (X:Row) (tl:T) (j:Nat):Am:=⟨[(k,.t (iv (j:Int))),(k',.t tl),(1,.ptr 0 0)],[(0,X)],1,n⟩
theorem r5 {m:Mr} {cs:List T} (hm:BJ m cs) (hs:SmM m):Bc Xc (G q) 15 [.ag cs] (· = iv (Dl AN m)):=by
 have eL:Qs [.ag cs]=some (iv (E7 AN m)):=Il _ hm hs;have eF:Ql [.ag cs]=some (slT A6 (BM m)):=Il _ hm hs;obtain⟨tv,tr,tc,rl,rfl,hv,hr,hrm,hc⟩:=hm
 obtain⟨X,hX⟩:∃X,X=Br [iv m.top,iv m.index,tv,tr,tc]:=⟨_,rfl⟩
 have z:=ldM (H:=[(0,X)]) (k:=0) (by rw[hX];rfl);have lv:=hv.len;have hsv:=hs.vars;have cd:=cd5 (iv m.top) (iv m.index) tv tr tc
 obtain⟨R,hR⟩:∃R,R=Dl AN m:=⟨_,rfl⟩
 rw[<-hR];unfold Dl at hR
 obtain⟨e,he⟩:∃e,e=E7 AN m:=⟨_,rfl⟩
 rw[<-he]at hR eL
 obtain⟨F,hF⟩:∃F,F=BM m:=⟨_,rfl⟩
 rw[qX,<-hF]at hR;rw[<-hF]at eF
 obtain⟨tf,htf⟩:∃tf,tf=slT A6 F:=⟨_,rfl⟩
 have hTf:IsS A6 tf F:=.inr htf;rw[<-htf]at eF;have lf:=hTf.len
 have hFl:F.length<=300000000:=by
  have h1:=Qk (occ m) [];have h2:=LM hs;simp only[Xy]at h1;rw[hF];unfold BM;omega
 refine pK.call rfl ?_;(conv in Vo=>cbv);refine Ao FZ ?_;simp -implicitDefEqProofs [cd];rw[show Row.cells 26 [.t (iv m.top),.t (iv m.index),.t tv,.t tr,.t tc]=X from hX.symm];by_cases h0:e=0
 rotate_left
 .have be:(e != 0)=true:=by simpa using h0
  rw[zu h0]at hR;refine Ao FZ ?_;simp -implicitDefEqProofs [NY,z.all,eL,be,hR]
 rw[zw (λh=>h h0)]at hR
 have be:(e != 0)=false:=by simpa using h0
 refine Ao FZ ?_;simp -implicitDefEqProofs [NY,z.all,eL,be];refine Ao FZ ?_;simp -implicitDefEqProofs [NY,z.all,eF];by_cases hl:F.length=m.vars.length
 rotate_left
 .have bl:((F.length:Int) !=(m.vars.length:Int))=true:=by simpa using (by omega:¬(F.length:Int)=(m.vars.length:Int))
  rw[zt hl,Yc,zw (by decide)]at hR;refine Ao FZ ?_;simp -implicitDefEqProofs [z.l2,lf,lv,bl,hR]
 have bl:((F.length:Int) !=(m.vars.length:Int))=false:=by simpa using (by omega:(F.length:Int)=(m.vars.length:Int))
 rw[zq hl,Yl]at hR;have hR:R=Jj F 0:=hR;refine Ao FZ ?_;simp -implicitDefEqProofs [z.l2,lf,lv,bl];refine AZ (α:=Unit) (λ_=>⟨[],[],1,31⟩) (λ_=>R=0) (λ_=>rfl) ?_ ?_
 .refine Ao FZ ?_;simp -implicitDefEqProofs;refine AY ?_;refine Bj (SCk 31 5 4 X tf) (λj=>F.length-j) (λj=>j<=F.length/\R=Jj F j) 0 (λ_=>rfl) ⟨Xf _,hR⟩ ?_ rfl ?_
  .exact Aw (by simp -implicitDefEqProofs [SCk])
  rintro j ⟨hj,heq⟩;by_cases hlt:j<F.length
  .obtain⟨x,hx⟩:∃x,F[j]?=some x:=⟨_,Xd hlt⟩
   have i1:=hTf.iaddr hx .i64;have hz:A6.z=1:=rfl;rw[hz,show A6.enc x=[iv x]from rfl]at i1;have w1:Xe.wrap ((j:Int)+1)=((j+1:Nat):Int):=Bb (by omega) (by omega);rw[qY hx]at heq
   by_cases hxj:x=(j:Int)
   .rw[zu hxj]at heq
    have b1:(x !=(j:Int))=false:=by simpa using hxj
    refine A8 FZ ?_;simp -implicitDefEqProofs [SCk,lf,hlt,i1,lp,b1,w1];exact A4.mk (j+1) ⟨⟨hlt,heq⟩,by omega⟩ (Aw (by simp -implicitDefEqProofs [SCk]))
   .rw[zw hxj]at heq
    have b1:(x !=(j:Int))=true:=by simpa using hxj
    refine A8 FZ ?_;simp -implicitDefEqProofs [SCk,lf,hlt,i1,lp,b1,heq]
  .rw[qZ (by omega)]at heq;refine A8 FZ ?_;simp -implicitDefEqProofs [SCk,lf,hlt];exact A4.mk () heq (L7 (by omega) (λq hq=>by cases hq))
 rintro _ hRG;refine A8 FZ ?_;simp -implicitDefEqProofs [hRG]
noncomputable def Kk:List T->Option T:=gM λm=>iv (Dl AN m)
theorem r6:GOK Xc (G q) 15 Kk:=JZ λ_ _ h hs=>r5 h hs
theorem st3 (k:Nat) (a b c:PV) (x y z:T) (ty:TypeId) (H:Ak) (hz:Bq (.t (.ag [x,y,z]))=some [.t x,.t y,.t z]):AO 3 ((k,.cells ty [a,b,c])::H) (.ptr k 0) (.t (.ag [x,y,z]))=some ((k,.cells ty [.t x,.t y,.t z])::H):=by
 simp[AO,hz,upd,Cj]
theorem st2 (k:Nat) (a b:PV) (x y:T) (ty:TypeId) (H:Ak):AO 2 ((k,.cells ty [a,b])::H) (.ptr k 0) (.t (.ag [x,y]))=some ((k,.cells ty [.t x,.t y])::H):=by
 have hz:Bq (.t (.ag [x,y]))=some [.t x,.t y]:=rfl;simp[AO,hz,upd,Cj]
theorem LP (c:EC) (R:List T) (H:Ak):AD true 3 H (.t (.pt (c.cs++R)))=some (.t (.ag c.cs)):=by
 have hl:=c.ok.len;simp only[AD,if_true];rw[zu (by simp[hl]),<-hl,Yx]
theorem Fz (a b c:T) (R:List T) (H:Ak):AD true 3 H (.t (.pt (a::b::c::R)))=some (.t (.ag [a,b,c])):=by
 simp[AD]
theorem D2 (a b:T) (R:List T) (H:Ak):AD true 2 H (.t (.pt (a::b::R)))=some (.t (.ag [a,b])):=by
 simp[AD]
theorem Qt (m:Nat) (x y:Int):BB tyI 1 [.int .i64 0] 2 [(0,.t (iv x)),(1,.t (iv y))] m=some (.row m 0 2 1,A5 A6 tyI [x,y]):=rfl
theorem VU {H:Ak} {b nx:Nat} {l:List Int} (x y:Int) (n m k:Nat) (hn:n=l.length) (hm:m=nx+1) (hk:k=nx+2) (h:Aj H b=some (A5 A6 tyI l)) (hb:b<nx) (hl:l.length<=1000000000000) :
  Dp tyI 1 8 ((nx,A5 A6 tyI [x,y])::H) m (.row b 0 n 1) (.row nx 0 2 1)=some (.row m 0 (n+2) 1,(m,A5 A6 tyI (l++[x,y]))::rem ((nx,A5 A6 tyI [x,y])::H) b,k):=by
 subst hn;subst hm;subst hk
 have hs:CM ((nx,A5 A6 tyI [x,y])::H) 1 (.row nx 0 2 1)=some ([x,y].length,([x,y].flatMap A6.enc).map .t):=by
  simp[CM,A5,A6]
 have:=JU (e:=A6) (ty:=tyI) (b:=b) (l:=l) (nx:=nx+1) (by':=8) (m:=[x,y]) (H:=(nx,A5 A6 tyI [x,y])::H) (by rw[A9,zw (by omega)];exact h) hs (by simp;omega) (by simp;omega);rw[Xu]at this;exact this
def TO1 (n:Nat) (X:Row) (tr:T) (N:Nat) (l:List Int) (i:Nat):Am:=⟨[(18,.t (iv (i:Int))),(17,.t (iv (N:Int))),(16,.t tr),(3,.row 1 0 l.length 1),(1,.ptr 0 0)],hMI X l,2,n⟩
def TO2 (X:Row) (tr ta:T) (N M:Nat) (l:List Int) (i j:Nat):Am:=⟨[(30,.t (iv (j:Int))),(29,.t (iv (M:Int))),(28,.t ta),(18,.t (iv (i:Int))),(17,.t (iv (N:Int))),(16,.t tr),(3,.row 1 0 l.length 1),(1,.ptr 0 0)],hMI X l,2,57⟩
def TO3 (X:Row) (tc:T) (N:Nat) (l:List Int) (i:Nat):Am:=⟨[(44,.t (iv (i:Int))),(43,.t (iv (N:Int))),(42,.t tc),(3,.row 1 0 l.length 1),(1,.ptr 0 0)],hMI X l,2,57⟩
theorem r7 {m:Mr} {cs:List T} (hm:BJ m cs) (hs:SmM m):Bc Xc (G q) 33 [.ag cs] (· = slT A6 (occ m)):=by
 obtain⟨tv,tr,tc,rl,rfl,hv,hr,hrm,hc⟩:=hm
 obtain⟨X,hX⟩:∃X,X=Br [iv m.top,iv m.index,tv,tr,tc]:=⟨_,rfl⟩
 have hXc:∃(ty:TypeId) (cs:List T),X = .cells ty (cs.map PV.t):=⟨_,_,hX⟩
 have ld:∀{H:Ak},Aj H 0=some X->LdM (iv m.top) (iv m.index) tv tr tc H 0:=λh=>ldM (by rw[h,hX]);have lr:=hr.len;have lc:=hc.len
 have hrl:rl.length=m.rels.length:=by rw[<-hrm,Xg]
 have hsr:=hs.rels;have hsc:=hs.cons;have cd:=cd5 (iv m.top) (iv m.index) tv tr tc
 obtain⟨R,hR⟩:∃R,R=slT A6 (occ m):=⟨_,rfl⟩
 rw[<-hR];refine o5.call rfl ?_;(conv in UF=>cbv);refine Ao An ?_;simp -implicitDefEqProofs [cd];rw[show Row.cells 26 [.t (iv m.top),.t (iv m.index),.t tv,.t tr,.t tc]=X from hX.symm];have z0:=ld (H:=[(0,X)]) rfl;refine Ao An ?_;simp -implicitDefEqProofs [z0.l0,z0.l1,Qt];have z1:=ld (H:=[(1,A5 A6 tyI [m.top,m.index]),(0,X)]) rfl;refine AZ (α:=Unit) (λ_=>⟨[(3,.row 1 0 (BC m m.rels.length).length 1),(1,.ptr 0 0)],hMI X (BC m m.rels.length),2,57⟩) (λ_=>True) (λ_=>rfl) ?_ ?_
 .refine Ao An ?_;simp -implicitDefEqProofs [z1.l3,lr];refine AY ?_;refine Bj (λi=>TO1 57 X tr rl.length (BC m i) i) (λi=>m.rels.length-i) (λi=>i<=m.rels.length) 0 (λ_=>rfl) (Xf _) ?_ rfl ?_
  .exact BV (k:=1) rfl rfl (by omega) hXc (by simp -implicitDefEqProofs [ren,under,BC])
  intro i hi
  obtain⟨l,hl⟩:∃l,l=BC m i:=⟨_,rfl⟩
  have hll:l.length<=200000000:=by
   have h1:=JX hs i (by omega);have:i*100001<=1000*100001:=X1 _ (by omega);rw[hl];omega
  obtain⟨H,hH⟩:∃H,H=hMI X l:=⟨_,rfl⟩
  have h0:Aj H 0=some X:=by rw[hH];rfl
  have h1:Aj H 1=some (A5 A6 tyI l):=by rw[hH];rfl
  by_cases hlt:i<rl.length
  .obtain⟨c,hc1⟩:∃c,rl[i]?=some c:=⟨_,Xd (by omega)⟩
   have hx:m.rels[i]?=some c.x:=by rw[<-hrm,Xv,hc1];rfl
   have hxm:=Xj hx;obtain⟨ta,hcs,hta⟩:=c.ok;have la:=hta.len;have hal:=hs.args c.x hxm;have i1:=hr.iaddr hc1 .i64;have hz:eEC.z=3:=rfl;rw[hz,show eEC.enc c=c.cs from rfl]at i1;rw[hcs]at i1;have w1:Xe.wrap ((i:Int)+1)=((i+1:Nat):Int):=Bb (by omega) (by omega);have s3:=λa b d=>st3 2 a b d (sv c.x.pred) (iv c.x.label) ta 47 H (cd3 _ _ _)
   obtain⟨H1,hH1⟩:∃H1,H1=(2,Ca c.x.pred c.x.label ta)::H:=⟨_,rfl⟩
   have s3:∀a b d,AO 3 ((2,.cells 47 [a,b,d])::H) (.ptr 2 0) (.t (.ag [sv c.x.pred,iv c.x.label,ta]))=some H1:=λa b d=>by rw[hH1];exact s3 a b d
   have ze:=ldE (H:=H1) (k:=2) (by rw[hH1,A9,zu rfl])
   have k1:Aj H1 1=some (A5 A6 tyI l):=by rw[hH1,A9,zw (by omega)];exact h1
   have k0:Aj H1 0=some X:=by rw[hH1,A9,zw (by omega)];exact h0
   have ap:=FX c.x.label l.length 4 5 rfl rfl rfl k1 (nx:=3) (by omega) (by omega)
   obtain⟨H2,hH2⟩:∃H2,H2=(4,A5 A6 tyI (l++[c.x.label]))::rem ((3,.cells tyI ((A6.enc c.x.label).map .t))::H1) 1:=⟨_,rfl⟩
   rw[<-hH2]at ap
   have g1:Aj H2 4=some (A5 A6 tyI (l++[c.x.label])):=by rw[hH2,A9,zu rfl]
   have g0:Aj H2 0=some X:=by rw[hH2];simp[A9,BZ,k0]
   have g2:Aj H2 2=some (Ca c.x.pred c.x.label ta):=by rw[hH2,hH1];simp[A9,BZ]
   have ze2:=ldE g2;refine Ao An ?_;simp -implicitDefEqProofs [TO1,<-hl,<-hH,hlt];refine Ao An ?_;simp -implicitDefEqProofs;refine AZ (α:=Unit) (λ_=>⟨[(18,.t (iv (i:Int))),(17,.t (iv (rl.length:Int))),(16,.t tr),(3,.row 1 0 (BC m (i+1)).length 1),(1,.ptr 0 0)],hMI X (BC m (i+1)),2,57⟩) (λ_=>True) (λ_=>rfl) ?_ ?_
   .refine AY ?_;refine Ao An ?_;simp -implicitDefEqProofs [i1,Fz,s3];refine Ao An ?_;simp -implicitDefEqProofs [ze.l1,HE,ap];refine Ao An ?_;simp -implicitDefEqProofs [ze2.l2,la];refine AY ?_;refine Bj (λj=>TO2 X tr ta rl.length c.x.args.length (Cs m i c.x j) i j) (λj=>c.x.args.length-j) (λj=>j<=c.x.args.length) 0 (λ_=>rfl) (Xf _) ?_ rfl ?_
    .show Abs.Sub _ _ _ _ (TO2 X tr ta rl.length c.x.args.length (Cs m i c.x 0) i 0);rw[PU,<-hl];unfold TO2;exact BV (k:=4) g1 g0 (by omega) hXc (by simp -implicitDefEqProofs [ren,under])
    intro j hj
    obtain⟨l2,hl2⟩:∃l2,l2=Cs m i c.x j:=⟨_,rfl⟩
    have hl2l:l2.length<=200000000:=by rw[hl2];exact PY hs hxm (by omega)
    obtain⟨H3,hH3⟩:∃H3,H3=hMI X l2:=⟨_,rfl⟩
    have f0:Aj H3 0=some X:=by rw[hH3];rfl
    have f1:Aj H3 1=some (A5 A6 tyI l2):=by rw[hH3];rfl
    by_cases hjl:j<c.x.args.length
    .obtain⟨a,ha⟩:∃a,c.x.args[j]?=some a:=⟨_,Xd hjl⟩
     have i2:=hta.iaddr ha .i64;have hz2:eAg.z=2:=rfl;rw[hz2,show eAg.enc a=[sv a.role,iv a.var]from rfl]at i2;have w2:Xe.wrap ((j:Int)+1)=((j+1:Nat):Int):=Bb (by omega) (by omega);have s2:=λx y=>st2 2 x y (sv a.role) (iv a.var) 50 H3
     obtain⟨H4,hH4⟩:∃H4,H4=(2,Row.cells 50 [.t (sv a.role),.t (iv a.var)])::H3:=⟨_,rfl⟩
     rw[<-hH4]at s2
     have za:AD false 1 H4 (.ptr 2 1)=some (.t (iv a.var)):=by rw[hH4];rfl
     have e1:Aj H4 1=some (A5 A6 tyI l2):=by rw[hH4,A9,zw (by omega)];exact f1
     have e0:Aj H4 0=some X:=by rw[hH4,A9,zw (by omega)];exact f0
     have ap2:=FX a.var l2.length 4 5 rfl rfl rfl e1 (nx:=3) (by omega) (by omega);refine A8 An ?_;simp -implicitDefEqProofs [TO2,<-hl2,<-hH3,hjl,i2,D2,s2,za,HE,ap2,w2];refine A4.mk (j+1) ⟨hjl,by omega⟩ ?_;show Abs.Sub _ _ _ _ (TO2 X tr ta rl.length c.x.args.length (Cs m i c.x (j+1)) i (j+1));rw[PW ha,<-hl2]
     have el:(l2++[a.var]).length=l2.length+1:=by simp
     unfold TO2;rw[el];exact BV (k:=4) (by rw[A9,zu rfl]) (by simp[A9,BZ,e0]) (by omega) hXc (by simp -implicitDefEqProofs [ren,under])
    .have ej:j=c.x.args.length:=by omega
     refine A8 An ?_;simp -implicitDefEqProofs [TO2,<-hl2,<-hH3,hjl];refine A4.mk () trivial ?_;rw[NR hx,<-ej,<-hl2];exact BV (k:=1) f1 f0 (by omega) hXc (by simp -implicitDefEqProofs [ren,under])
   .rintro _ _;refine A8 An ?_;simp -implicitDefEqProofs [w1];refine A4.mk (i+1) ⟨by omega,by omega⟩ ?_;exact BV (k:=1) rfl rfl (by omega) hXc (by simp -implicitDefEqProofs [ren,under])
  .have ei:i=m.rels.length:=by omega
   refine A8 An ?_;simp -implicitDefEqProofs [TO1,<-hl,<-hH,hlt];refine A4.mk () trivial ?_;rw[<-ei,<-hl];exact BV (k:=1) h1 h0 (by omega) hXc (by simp -implicitDefEqProofs [ren,under])
 rintro _ _;refine AZ (α:=Unit) (λ_=>⟨[(3,.row 1 0 (occ m).length 1)],hMI X (occ m),2,57⟩) (λ_=>True) (λ_=>rfl) ?_ ?_
 .have z2:=ld (V7 X (BC m m.rels.length));refine Ao An ?_;simp -implicitDefEqProofs [z2.l4,lc];refine AY ?_;refine Bj (λi=>TO3 X tc m.cons.length (BL m i) i) (λi=>m.cons.length-i) (λi=>i<=m.cons.length) 0 (λ_=>rfl) (Xf _) ?_ rfl ?_
  .have e:BL m 0=BC m m.rels.length:=by simp[BL]
   show Abs.Sub _ _ _ _ (TO3 X tc m.cons.length (BL m 0) 0);rw[e];exact BV (k:=1) rfl rfl (by omega) hXc (by simp -implicitDefEqProofs [ren,under])
  intro i hi
  obtain⟨l,hl⟩:∃l,l=BL m i:=⟨_,rfl⟩
  have hll:l.length<=400000000:=by
   have h1:=JY hs i (by omega);rw[hl];omega
  obtain⟨H,hH⟩:∃H,H=hMI X l:=⟨_,rfl⟩
  have h0:Aj H 0=some X:=by rw[hH];rfl
  have h1:Aj H 1=some (A5 A6 tyI l):=by rw[hH];rfl
  by_cases hlt:i<m.cons.length
  .obtain⟨c,hc1⟩:∃c,m.cons[i]?=some c:=⟨_,Xd (by omega)⟩
   have i1:=hc.iaddr hc1 .i64;have hz:eQq.z=2:=rfl;rw[hz,show eQq.enc c=[iv c.high,iv c.low]from rfl]at i1;have w1:Xe.wrap ((i:Int)+1)=((i+1:Nat):Int):=Bb (by omega) (by omega);have s2:=λx y=>st2 2 x y (iv c.high) (iv c.low) 52 H
   obtain⟨H1,hH1⟩:∃H1,H1=(2,Row.cells 52 [.t (iv c.high),.t (iv c.low)])::H:=⟨_,rfl⟩
   rw[<-hH1]at s2
   have za:AD false 1 H1 (.ptr 2 0)=some (.t (iv c.high)):=by rw[hH1];rfl
   have zb:AD false 1 H1 (.ptr 2 1)=some (.t (iv c.low)):=by rw[hH1];rfl
   have k1:Aj H1 1=some (A5 A6 tyI l):=by rw[hH1,A9,zw (by omega)];exact h1
   have k0:Aj H1 0=some X:=by rw[hH1,A9,zw (by omega)];exact h0
   have ap:=VU c.high c.low l.length 4 5 rfl rfl rfl k1 (nx:=3) (by omega) (by omega);refine A8 An ?_;simp -implicitDefEqProofs [TO3,<-hl,<-hH,hlt,i1,D2,s2,za,zb,Qt,ap,w1];refine A4.mk (i+1) ⟨hlt,by omega⟩ ?_
   have e:BL m (i+1)=l++[c.high,c.low]:=by rw[NS hc1,<-hl,X2];rfl
   show Abs.Sub _ _ _ _ (TO3 X tc m.cons.length (BL m (i+1)) (i+1));rw[e];unfold TO3
   have el:(l++[c.high,c.low]).length=l.length+2:=by simp
   rw[el];exact BV (k:=4) (by rw[A9,zu rfl]) (by simp[A9,BZ,k0]) (by omega) hXc (by simp -implicitDefEqProofs [ren,under])
  .have ei:i=m.cons.length:=by omega
   refine A8 An ?_;simp -implicitDefEqProofs [TO3,<-hl,<-hH,hlt];refine A4.mk () trivial ?_;rw[<-JW,<-ei,<-hl];exact BV (k:=1) h1 h0 (by omega) hXc (by simp -implicitDefEqProofs [ren,under])
 rintro _ _;have hne:toT (hMI X (occ m)) (.row 1 0 (occ m).length 1)=some (slT A6 (occ m),[1]):=DN (e:=A6) (LL X (occ m));refine A8 An ?_;simp -implicitDefEqProofs [hne,hR,-toT]
theorem r8:GOK Xc (G q) 33 Ik:=λargs r hr=>by
 unfold Ik at hr;split at hr
 .rename_i cs;split at hr
  .rename_i he;injection hr with hr;subst hr;exact r7 he.choose_spec.1 he.choose_spec.2
  .cases hr
 .cases hr
def TH1 (X:Row) (tr:T) (N:Nat) (l:List Int) (i:Nat):Am:=⟨[(14,.t (iv (i:Int))),(13,.t (iv (N:Int))),(12,.t tr),(3,.row 1 0 l.length 1),(1,.ptr 0 0)],hMI X l,2,40⟩
def TH3 (X:Row) (tc:T) (N:Nat) (l:List Int) (i:Nat):Am:=⟨[(27,.t (iv (i:Int))),(26,.t (iv (N:Int))),(25,.t tc),(3,.row 1 0 l.length 1),(1,.ptr 0 0)],hMI X l,2,40⟩
theorem r9 {m:Mr} {cs:List T} (hm:BJ m cs) (hs:SmM m):Bc Xc (G q) 34 [.ag cs] (· = slT A6 (hnd m)):=by
 obtain⟨tv,tr,tc,rl,rfl,hv,hr,hrm,hc⟩:=hm
 obtain⟨X,hX⟩:∃X,X=Br [iv m.top,iv m.index,tv,tr,tc]:=⟨_,rfl⟩
 have hXc:∃(ty:TypeId) (cs:List T),X = .cells ty (cs.map PV.t):=⟨_,_,hX⟩
 have ld:∀{H:Ak},Aj H 0=some X->LdM (iv m.top) (iv m.index) tv tr tc H 0:=λh=>ldM (by rw[h,hX]);have lr:=hr.len;have lc:=hc.len
 have hrl:rl.length=m.rels.length:=by rw[<-hrm,Xg]
 have hsr:=hs.rels;have hsc:=hs.cons;have cd:=cd5 (iv m.top) (iv m.index) tv tr tc
 obtain⟨R,hR⟩:∃R,R=slT A6 (hnd m):=⟨_,rfl⟩
 rw[<-hR];refine o7.call rfl ?_;(conv in UG=>cbv);refine Ao An ?_;simp -implicitDefEqProofs [cd];rw[show Row.cells 26 [.t (iv m.top),.t (iv m.index),.t tv,.t tr,.t tc]=X from hX.symm];have b1:∀n,BB tyI 1 [.int .i64 0] 1 [(0,.t (iv m.top))] n=some (.row n 0 1 1,A5 A6 tyI [m.top]):=λ_=>rfl;have z0:=ld (H:=[(0,X)]) rfl;refine Ao An ?_;simp -implicitDefEqProofs [z0.l0,b1];have z1:=ld (H:=[(1,A5 A6 tyI [m.top]),(0,X)]) rfl;refine AZ (α:=Unit) (λ_=>⟨[(3,.row 1 0 (Dj m m.rels.length).length 1),(1,.ptr 0 0)],hMI X (Dj m m.rels.length),2,40⟩) (λ_=>True) (λ_=>rfl) ?_ ?_
 .refine Ao An ?_;simp -implicitDefEqProofs [z1.l3,lr];refine AY ?_;refine Bj (λi=>TH1 X tr rl.length (Dj m i) i) (λi=>m.rels.length-i) (λi=>i<=m.rels.length) 0 (λ_=>rfl) (Xf _) ?_ rfl ?_
  .exact BV (k:=1) rfl rfl (by omega) hXc (by simp -implicitDefEqProofs [ren,under,Dj])
  intro i hi
  obtain⟨l,hl⟩:∃l,l=Dj m i:=⟨_,rfl⟩
  have hll:l.length<=100001:=by rw[hl];exact Qj hs i
  obtain⟨H,hH⟩:∃H,H=hMI X l:=⟨_,rfl⟩
  have h0:Aj H 0=some X:=by rw[hH];rfl
  have h1:Aj H 1=some (A5 A6 tyI l):=by rw[hH];rfl
  by_cases hlt:i<rl.length
  .obtain⟨c,hc1⟩:∃c,rl[i]?=some c:=⟨_,Xd (by omega)⟩
   have hx:m.rels[i]?=some c.x:=by rw[<-hrm,Xv,hc1];rfl
   obtain⟨ta,hcs,hta⟩:=c.ok;have i1:=hr.iaddr hc1 .i64;have hz:eEC.z=3:=rfl;rw[hz,show eEC.enc c=c.cs from rfl,hcs]at i1;have w1:Xe.wrap ((i:Int)+1)=((i+1:Nat):Int):=Bb (by omega) (by omega);have s3:=λa b d=>st3 2 a b d (sv c.x.pred) (iv c.x.label) ta 47 H (cd3 _ _ _)
   obtain⟨H1,hH1⟩:∃H1,H1=(2,Ca c.x.pred c.x.label ta)::H:=⟨_,rfl⟩
   have s3:∀a b d,AO 3 ((2,.cells 47 [a,b,d])::H) (.ptr 2 0) (.t (.ag [sv c.x.pred,iv c.x.label,ta]))=some H1:=λa b d=>by rw[hH1];exact s3 a b d
   have ze:=ldE (H:=H1) (k:=2) (by rw[hH1,A9,zu rfl])
   have k1:Aj H1 1=some (A5 A6 tyI l):=by rw[hH1,A9,zw (by omega)];exact h1
   have k0:Aj H1 0=some X:=by rw[hH1,A9,zw (by omega)];exact h0
   have ap:=FX c.x.label l.length 4 5 rfl rfl rfl k1 (nx:=3) (by omega) (by omega);refine A8 An ?_;simp -implicitDefEqProofs [TH1,<-hl,<-hH,hlt,i1,Fz,s3,ze.l1,HE,ap,w1];refine A4.mk (i+1) ⟨by omega,by omega⟩ ?_
   have e:Dj m (i+1)=l++[c.x.label]:=by rw[VB hx,<-hl]
   have el:(l++[c.x.label]).length=l.length+1:=by simp
   show Abs.Sub _ _ _ _ (TH1 X tr rl.length (Dj m (i+1)) (i+1));rw[e];unfold TH1;rw[el];exact BV (k:=4) (by rw[A9,zu rfl]) (by simp[A9,BZ,k0]) (by omega) hXc (by simp -implicitDefEqProofs [ren,under])
  .have ei:i=m.rels.length:=by omega
   refine A8 An ?_;simp -implicitDefEqProofs [TH1,<-hl,<-hH,hlt];refine A4.mk () trivial ?_;rw[<-ei,<-hl];exact BV (k:=1) h1 h0 (by omega) hXc (by simp -implicitDefEqProofs [ren,under])
 rintro _ _;refine AZ (α:=Unit) (λ_=>⟨[(3,.row 1 0 (hnd m).length 1)],hMI X (hnd m),2,40⟩) (λ_=>True) (λ_=>rfl) ?_ ?_
 .have z2:=ld (V7 X (Dj m m.rels.length));refine Ao An ?_;simp -implicitDefEqProofs [z2.l4,lc];refine AY ?_;refine Bj (λi=>TH3 X tc m.cons.length (D9 m i) i) (λi=>m.cons.length-i) (λi=>i<=m.cons.length) 0 (λ_=>rfl) (Xf _) ?_ rfl ?_
  .have e:D9 m 0=Dj m m.rels.length:=by simp[D9]
   show Abs.Sub _ _ _ _ (TH3 X tc m.cons.length (D9 m 0) 0);rw[e];exact BV (k:=1) rfl rfl (by omega) hXc (by simp -implicitDefEqProofs [ren,under])
  intro i hi
  obtain⟨l,hl⟩:∃l,l=D9 m i:=⟨_,rfl⟩
  have hll:l.length<=1000000:=by
   have h1:=NT hs i (by omega);rw[hl];omega
  obtain⟨H,hH⟩:∃H,H=hMI X l:=⟨_,rfl⟩
  have h0:Aj H 0=some X:=by rw[hH];rfl
  have h1:Aj H 1=some (A5 A6 tyI l):=by rw[hH];rfl
  by_cases hlt:i<m.cons.length
  .obtain⟨c,hc1⟩:∃c,m.cons[i]?=some c:=⟨_,Xd (by omega)⟩
   have i1:=hc.iaddr hc1 .i64;have hz:eQq.z=2:=rfl;rw[hz,show eQq.enc c=[iv c.high,iv c.low]from rfl]at i1;have w1:Xe.wrap ((i:Int)+1)=((i+1:Nat):Int):=Bb (by omega) (by omega);have s2:=λx y=>st2 2 x y (iv c.high) (iv c.low) 52 H
   obtain⟨H1,hH1⟩:∃H1,H1=(2,Row.cells 52 [.t (iv c.high),.t (iv c.low)])::H:=⟨_,rfl⟩
   rw[<-hH1]at s2
   have za:AD false 1 H1 (.ptr 2 0)=some (.t (iv c.high)):=by rw[hH1];rfl
   have zb:AD false 1 H1 (.ptr 2 1)=some (.t (iv c.low)):=by rw[hH1];rfl
   have k1:Aj H1 1=some (A5 A6 tyI l):=by rw[hH1,A9,zw (by omega)];exact h1
   have k0:Aj H1 0=some X:=by rw[hH1,A9,zw (by omega)];exact h0
   have ap:=VU c.high c.low l.length 4 5 rfl rfl rfl k1 (nx:=3) (by omega) (by omega);refine A8 An ?_;simp -implicitDefEqProofs [TH3,<-hl,<-hH,hlt,i1,D2,s2,za,zb,Qt,ap,w1];refine A4.mk (i+1) ⟨hlt,by omega⟩ ?_
   have e:D9 m (i+1)=l++[c.high,c.low]:=by rw[Qb hc1,<-hl,X2];rfl
   show Abs.Sub _ _ _ _ (TH3 X tc m.cons.length (D9 m (i+1)) (i+1));rw[e];unfold TH3
   have el:(l++[c.high,c.low]).length=l.length+2:=by simp
   rw[el];exact BV (k:=4) (by rw[A9,zu rfl]) (by simp[A9,BZ,k0]) (by omega) hXc (by simp -implicitDefEqProofs [ren,under])
  .have ei:i=m.cons.length:=by omega
   refine A8 An ?_;simp -implicitDefEqProofs [TH3,<-hl,<-hH,hlt];refine A4.mk () trivial ?_;rw[<-Qi,<-ei,<-hl];exact BV (k:=1) h1 h0 (by omega) hXc (by simp -implicitDefEqProofs [ren,under])
 rintro _ _;have hne:toT (hMI X (hnd m)) (.row 1 0 (hnd m).length 1)=some (slT A6 (hnd m),[1]):=DN (e:=A6) (LL X (hnd m));refine A8 An ?_;simp -implicitDefEqProofs [hne,hR,-toT]
theorem rA:GOK Xc (G q) 34 Im:=JZ λ_ _ h hs=>r9 h hs
abbrev VV (r:ByteArray) (v:Int):Row:=.cells 50 [.t (sv r),.t (iv v)]
structure LdA (r:ByteArray) (v:Int) (H:Ak) (k:Nat):Prop where
 l0:AD false 1 H (.ptr k 0)=some (.t (sv r))
 l1:AD false 1 H (.ptr k 1)=some (.t (iv v))
theorem ldA {r:ByteArray} {v:Int} {H:Ak} {k:Nat} (h:Aj H k=some (VV r v)):LdA r v H k:=by
 constructor<;>simp[AD,h]
def SPm (n:Nat) (X:Row) (tn:T) (m:Nat) (j:Nat):Am:=⟨[(12,.t (iv (j:Int))),(11,.t (iv (m:Int))),(10,.t tn),(1,.ptr 0 0)],[(0,X)],1,n⟩
theorem Qu {ty:TypeId} {nx:Nat} (cs:List T):HX nx (.cells ty (cs.map PV.t))=true:=by
 have r2:∀(n:Nat) (cs:List T),DD n (cs.map PV.t)=true:=λn cs=>by
  induction cs with
  | nil=>rfl
  | cons c r ih=>simp only[Xs,DD,under,ih,Yo]
 exact r2 _ _
theorem NZ {X:Row} {nx n:Nat} {H:Ak} {env env':List (Nat×PV)} (h0:Aj H 0=some X) (hX:∃(ty:TypeId) (cs:List T),X = .cells ty (cs.map PV.t))
  (he:∀q∈env',Aj env q.1=some q.2/\under 1 q.2=true):Abs.Sub Xc (G q) 0 ⟨env,H,nx,n⟩ ⟨env',[(0,X)],1,n⟩:=
 nW (by omega) (λq hq=>by
  simp only[Xx]at hq;subst hq;obtain⟨ty,cs,rfl⟩:=hX
  exact⟨h0,by omega,Qu cs⟩) he
theorem rB (c:EC) (hal:c.x.args.length<=1000) (hp:c.x.pred.size<=lim) (hro:∀a∈c.x.args,a.role.size<=lim):Bc Xc (G q) 32 [.ag c.cs] (· = iv (Dk AN c.x)):=by
 obtain⟨ta,hcs,hta⟩:=c.ok;rw[hcs]
 obtain⟨x,hx⟩:∃x,x=c.x:=⟨_,rfl⟩
 rw[<-hx]at hal hp hro hta ⊢;have la:=hta.len;have cd:=cd3 (sv x.pred) (iv x.label) ta
 obtain⟨X,hX⟩:∃X,X=Ca x.pred x.label ta:=⟨_,rfl⟩
 have hXc:∃(ty:TypeId) (cs:List T),X = .cells ty (cs.map PV.t):=⟨_,[sv x.pred,iv x.label,ta],hX⟩
 have z:=ldE (H:=[(0,X)]) (k:=0) (p:=x.pred) (l:=x.label) (ta:=ta) (by rw[hX];rfl)
 obtain⟨R,hR⟩:∃R,R=Dk AN x:=⟨_,rfl⟩
 rw[<-hR];have eN:=NV false hp;refine o8.call rfl ?_;(conv in UH=>cbv);refine Ao D1 ?_;simp -implicitDefEqProofs [cd];rw[show Row.cells 47 [.t (sv x.pred),.t (iv x.label),.t ta]=X from hX.symm];unfold Dk at hR
 cases hn:AN false x.pred with
 | false=>
  rw[zu hn]at hR;rw[hn]at eN;refine Ao D1 ?_;simp -implicitDefEqProofs [Ef,z.l0,eN,hR]
 | true=>
  rw[zw (by rw[hn];decide)]at hR;rw[hn]at eN;refine Ao D1 ?_;simp -implicitDefEqProofs [Ef,z.l0,eN];refine AZ (α:=Unit) (λ_=>⟨[],[],1,41⟩) (λ_=>R=0) (λ_=>rfl) ?_ ?_
  .refine Ao D1 ?_;simp -implicitDefEqProofs [z.l2,la];refine AY ?_;refine Bj (SPm 41 X ta x.args.length) (λj=>x.args.length-j) (λj=>j<=x.args.length/\R=Fx AN (Io x.args j) (x.args.drop j)) 0 (λ_=>rfl) ⟨Xf _,hR⟩ ?_ rfl ?_
   .exact Aw (by simp -implicitDefEqProofs [SPm])
   rintro j ⟨hj,heq⟩;by_cases hlt:j<x.args.length
   .obtain⟨a,ha⟩:∃a,x.args[j]?=some a:=⟨_,Xd hlt⟩
    have i1:=hta.iaddr ha .i64;have hz:eAg.z=2:=rfl;rw[hz,show eAg.enc a=[sv a.role,iv a.var]from rfl]at i1;have w1:Xe.wrap ((j:Int)+1)=((j+1:Nat):Int):=Bb (by omega) (by omega);have eF:=NV true (hro a (Xj ha));have sl:=VI a.role;have s2:=λu v=>st2 1 u v (sv a.role) (iv a.var) 50 [(0,X)]
    obtain⟨H1,hH1⟩:∃H1,H1=[(1,VV a.role a.var),(0,X)]:=⟨_,rfl⟩
    rw[<-hH1]at s2;have zA:=ldA (H:=H1) (k:=1) (by rw[hH1];rfl)
    have h10:Aj H1 0=some X:=by rw[hH1];rfl
    have zX:=ldE (H:=H1) (k:=0) (p:=x.pred) (l:=x.label) (ta:=ta) (by rw[h10,hX]);rw[Xt hlt,(Xi.1 ha).2,Fx]at heq;by_cases h1:AN true a.role=false\/a.role=Ig
    .rw[zu h1]at heq;by_cases h2:AN true a.role=false
     .rw[h2]at eF;refine A8 D1 ?_;simp -implicitDefEqProofs [SPm,Ef,hlt,i1,D2,s2,zA.l0,eF,heq]
     .have h2:AN true a.role=true:=by simpa using h2
      have h3:=h1.resolve_left (by rw[h2];decide);rw[h2]at eF;rw[zq h3]at sl;refine A8 D1 ?_;simp -implicitDefEqProofs [SPm,Ef,hlt,i1,D2,s2,zA.l0,eF,sl,heq]
    .rw[zw h1]at heq
     have h2:AN true a.role=true:=by
      cases h:AN true a.role with
      | true=>rfl
      | false=>exact absurd (.inl h) h1
     have h3:¬a.role=Ig:=λh=>h1 (.inr h);rw[h2]at eF;rw[zt h3]at sl;by_cases h0:0<j
     .obtain⟨k,hk⟩:∃k,j=k+1:=⟨j-1,by omega⟩
      obtain⟨b,hb⟩:∃b,x.args[k]?=some b:=⟨_,Xd (by omega)⟩
      have i2:=hta.iaddr hb .i64;rw[hz,show eAg.enc b=[sv b.role,iv b.var]from rfl]at i2;have wk:Xe.wrap ((j:Int)-1)=(k:Int):=Bb (by omega) (by omega)
      have hpv:Io x.args j=some b.role:=by rw[hk];exact Kh hb
      rw[hpv,VH]at heq
      have hd:decide ((0:Int)<(j:Int))=true:=by simpa using (by omega:(0:Int)<(j:Int))
      cases hl:DE b.role a.role with
      | false=>
       rw[hl,zu (show(!false)=true from rfl)]at heq;refine A8 D1 ?_;simp -implicitDefEqProofs [SPm,Ef,hlt,i1,D2,s2,zA.l0,eF,sl,hd,h0,wk,zX.l2,i2,lp,hl,heq]
      | true=>
       rw[hl,zw (by decide)]at heq;refine A8 D1 ?_;simp -implicitDefEqProofs [SPm,Ef,hlt,i1,D2,s2,zA.l0,eF,sl,hd,h0,wk,zX.l2,i2,lp,hl,w1];refine A4.mk (j+1) ⟨⟨hlt,by rw[Kh ha];exact heq⟩,by omega⟩ ?_;exact NZ h10 hXc (by simp -implicitDefEqProofs [SPm,under])
     .have hj0:j=0:=by omega
      have hpv:Io x.args j=none:=by rw[hj0];rfl
      rw[hpv,zw (show ¬LN none a.role=true from λh=>by cases h)]at heq;have hd:¬(0<j):=h0;refine A8 D1 ?_;simp -implicitDefEqProofs [SPm,Ef,hlt,i1,D2,s2,zA.l0,eF,sl,hd,w1];refine A4.mk (j+1) ⟨⟨hlt,by rw[Kh ha];exact heq⟩,by omega⟩ ?_;exact NZ h10 hXc (by simp -implicitDefEqProofs [SPm,under])
   .have hR:R=0:=by rw[heq,Xo (by omega)];rfl
    refine A8 D1 ?_;simp -implicitDefEqProofs [SPm,Ef,hlt];exact A4.mk () hR (L7 (by omega) (λq hq=>by cases hq))
  rintro _ hRG;refine A8 D1 ?_;simp -implicitDefEqProofs [hRG]
theorem rC:GOK Xc (G q) 32 Ip:=VK rB
noncomputable def VW:AE:=cm Tryz.f31 9
theorem rD {q:Gl}:AQ Xc (G q) 31 2 9 VW [(.tmp 4)]:=fk Tryz.func31 (by kernel_rfl) (by kernel_rfl)
noncomputable def VX:AE:=cm Tryz.f65 19
theorem rE {q:Gl}:AQ Xc (G q) 65 2 19 VX [(.tmp 4)]:=fk Tryz.func65 (by kernel_rfl) (by kernel_rfl)
noncomputable def VY:AE:=cm Tryz.f47 26
theorem rF {q:Gl}:AQ Xc (G q) 47 2 26 VY [(.tmp 4)]:=fk Tryz.func47 (by kernel_rfl) (by kernel_rfl)
noncomputable def VZ:AE:=cm Tryz.f45 48
theorem rG {q:Gl}:AQ Xc (G q) 45 2 48 VZ [(.tmp 4)]:=fk Tryz.func45 (by kernel_rfl) (by kernel_rfl)
noncomputable def WA:AE:=cm Tryz.f46 8
theorem rI {q:Gl}:AQ Xc (G q) 46 1 8 WA [(.tmp 2)]:=fk Tryz.func46 (by kernel_rfl) (by kernel_rfl)
noncomputable def WB:AE:=cm Tryz.f92 8
theorem rJ {q:Gl}:AQ Xc (G q) 92 1 8 WB [(.tmp 2)]:=fk Tryz.func92 (by kernel_rfl) (by kernel_rfl)
noncomputable def WC:AE:=cm Tryz.f93 8
theorem rK {q:Gl}:AQ Xc (G q) 93 1 8 WC [(.tmp 2)]:=fk Tryz.func93 (by kernel_rfl) (by kernel_rfl)
noncomputable def WD:AE:=cm Tryz.f94 8
theorem rL {q:Gl}:AQ Xc (G q) 94 1 8 WD [(.tmp 2)]:=fk Tryz.func94 (by kernel_rfl) (by kernel_rfl)
noncomputable def WE:AE:=cm Tryz.f116 8
theorem rM {q:Gl}:AQ Xc (G q) 116 2 8 WE [(.tmp 4)]:=fk Tryz.func116 (by kernel_rfl) (by kernel_rfl)
noncomputable def WG:AE:=cm Tryz.f136 32
theorem rN {q:Gl}:AQ Xc (G q) 136 2 32 WG [(.tmp 4)]:=fk Tryz.func136 (by kernel_rfl) (by kernel_rfl)
noncomputable def WH:AE:=cm Tryz.f157 102
theorem rO {q:Gl}:AQ Xc (G q) 157 5 102 WH [(.tmp 10),(.tmp 11)]:=fk Tryz.func157 (by kernel_rfl) (by kernel_rfl)
noncomputable def WI:AE:=cm Tryz.f171 8
theorem rP {q:Gl}:AQ Xc (G q) 171 1 8 WI [(.tmp 2)]:=fk Tryz.func171 (by kernel_rfl) (by kernel_rfl)
noncomputable def WJ:AE:=cm Tryz.f75 30
theorem rQ {q:Gl}:AQ Xc (G q) 75 2 30 WJ [(.tmp 4),(.tmp 5)]:=fk Tryz.func75 (by kernel_rfl) (by kernel_rfl)
noncomputable def WK:AE:=cm Tryz.f118 51
theorem rR {q:Gl}:AQ Xc (G q) 118 2 51 WK [(.tmp 4),(.tmp 5)]:=fk Tryz.func118 (by kernel_rfl) (by kernel_rfl)
def Ga (w:ByteArray):Nat->List ByteArray->Int
 | _,[]=>-1
 | i,x::r=>if x=w then(i:Int)else Ga w (i+1) r
def LQ (t:T) (w:ByteArray) (n j:Nat):Am:=⟨[(8,.t (iv (j:Int))),(7,.t (iv (n:Int))),(6,.t t),(1,.t (sv w)),(0,.t t)],[],0,19⟩
theorem rS {t:T} {l:List ByteArray} (w:ByteArray) (ht:IsS Ar t l) (hl:l.length<=1000000):Bc Xc (G q) 65 [t,sv w] (· = iv (Ga w 0 l)):=by
 have l1:=ht.len
 obtain⟨R,hR⟩:∃R,R=Ga w 0 l:=⟨_,rfl⟩
 rw[<-hR];refine rE.call rfl ?_;(conv in VX=>cbv);refine Ao An ?_;simp -implicitDefEqProofs;refine AZ (α:=Unit) (λ_=>⟨[],[],0,19⟩) (λ_=>R = -1) (λ_=>rfl) ?_ ?_
 .refine Ao An ?_;simp -implicitDefEqProofs [l1];refine AY ?_;refine Bj (LQ t w l.length) (λj=>l.length-j) (λj=>j<=l.length/\R=Ga w j (l.drop j)) 0 (λ_=>rfl) ⟨Xf _,hR⟩ ?_ rfl ?_
  .refine Aw ?_;simp -implicitDefEqProofs [LQ]
  rintro j ⟨hj,heq⟩;by_cases hlt:j<l.length
  .obtain⟨x,hx⟩:∃x,l[j]?=some x:=⟨_,Xd hlt⟩
   have i1:BN 1 (.t t) (.t (iv (j:Int)))=_:=ht.iaddr hx .i64;have ld:∀(H:Ak) (r:List T),AD false 1 H (.t (.pt (Ar.enc x++r)))=some (.t (sv x)):=λ_ _=>rfl;have e1:Xe.wrap ((j:Int)+1)=((j+1:Nat):Int):=Bb (by omega) (by omega);rw[Xt hlt,(Xi.1 hx).2,Ga]at heq;refine A8 An ?_;by_cases he:x=w
   .subst he;rw[zu rfl]at heq;simp -implicitDefEqProofs [LQ,hlt,i1,ld,Eb,heq]
   .rw[zw he]at heq;have hb:¬w=x:=Ne.symm he;simp -implicitDefEqProofs [LQ,hlt,i1,ld,Eb,hb,e1];refine A4.mk (j+1) ⟨⟨by omega,heq⟩,by omega⟩ ?_;exact Aw (by simp -implicitDefEqProofs)
  .rw[Xo (by omega),Ga]at heq;refine A8 An ?_;simp -implicitDefEqProofs [LQ,hlt];exact A4.mk () heq (Aw (by simp -implicitDefEqProofs))
 rintro _ h;refine A8 An ?_;simp -implicitDefEqProofs [h]
noncomputable def gIx:List T->Option T:=g2 (tSl Ar) CX λl w=>if l.length<=1000000 then some (iv (Ga w 0 l))else none
theorem hIx:GOK Xc (G q) 65 gIx:=Ib λa b l w r ha hb hr=>by
 obtain rfl:b=sv w:=hb;split at hr
 .rename_i h;injection hr with hr;subst hr;exact rS w ha h
 .cases hr
theorem rT {t:T} {l:List ByteArray} (w:ByteArray) (ht:IsS Ar t l) (hl:l.length<=1000000):gIx [t,sv w]=some (iv (Ga w 0 l)):=by
 show g2 _ _ _ _=_;rw[Hn (τ:=tSl Ar) (σ:=CX) ht rfl,zu hl]
noncomputable def gCt:List T->Option T:=g2 (tSl Ar) CX λl w=>if l.length<=1000000 then some (bv (decide (0<=Ga w 0 l)))else none
theorem hCt:GOK Xc (G q) 31 gCt:=Ib λa b l w r ha hb hr=>by
 obtain rfl:b=sv w:=hb;split at hr
 .rename_i h;injection hr with hr;subst hr;have e:=rT w ha h;refine rD.runs ((AB.cons (hIx (q:=q)) .nil).ctx mixed) rfl ?_
  (conv in VW=>cbv);simp -implicitDefEqProofs [e]
 .cases hr
theorem rU {t:T} {l:List ByteArray} (w:ByteArray) (ht:IsS Ar t l) (hl:l.length<=1000000):gCt [t,sv w]=some (bv (decide (0<=Ga w 0 l))):=by
 show g2 _ _ _ _=_;rw[Hn (τ:=tSl Ar) (σ:=CX) ht rfl,zu hl]
abbrev tyS:Nat:=9
def GB:List ByteArray:=[⟨#[104]⟩,⟨#[101]⟩,⟨#[120]⟩,⟨#[105]⟩]
abbrev sT (s:ByteArray):PV:=.t (.v (.string s))
theorem WL (n:Nat):BB tyS 1 [.string ⟨#[]⟩] 4 [(0,sT ⟨#[104]⟩),(1,sT ⟨#[101]⟩),(2,sT ⟨#[120]⟩),(3,sT ⟨#[105]⟩)] n=some (.row n 0 4 1,A5 Ar tyS GB):=rfl
theorem WM (n:Nat) (H:Ak) (x:ByteArray):Bn ((n,A5 Ar tyS GB)::H) [.row n 0 4 1,.t (sv x)]=some ([slT Ar GB,sv x],[n]):=by
 have h:toT ((n,A5 Ar tyS GB)::H) (.row n 0 GB.length Ar.z)=some (slT Ar GB,[n]):=DN (by rw[A9,zu rfl]);simp only[Bn];rw[show(PV.row n 0 4 1)=PV.row n 0 GB.length Ar.z from rfl,h];rfl
theorem rV (x:ByteArray):gCt [slT Ar GB,sv x]=some (bv (Cr x)):=by
 rw[rU x (.inr rfl) (by decide)];congr 2;unfold Cr;simp only[GB,Ga];by_cases h1:x=wH
 .subst h1;rfl
 by_cases h2:x=⟨#[101]⟩
 .subst h2;rfl
 by_cases h3:x=⟨#[120]⟩
 .subst h3;rfl
 by_cases h4:x=⟨#[105]⟩
 .subst h4;rfl
 rw[zt h1,zt h2,zt h3,zt h4,zw (λh=>h1 h.symm),zw (λh=>h2 h.symm),zw (λh=>h3 h.symm),zw (λh=>h4 h.symm)];rfl
theorem rW (m:Mr) (h:¬(16<m.rels.length\/16<m.cons.length\/256<m.vars.length)):Dl AN m=Ce Cr m.vars 1 (Fg m.rels (Ce (λx=>decide (inR m.vars.length x)) (occ m) 2 (Ce (λx=>decide (vS m.vars x=wH)) (hnd m) 2 (if Fc m then 0 else 3)))):=by
 unfold Dl;rw[VS m h];unfold Ce Fg
 cases m.vars.all Cr with
 | false=>rfl
 | true=>
  by_cases he:FY AN m.rels=0
  .simp only[he,ne_eq,not_true,if_false]
   cases (occ m).all λx=>decide (inR m.vars.length x)with
   | false=>rfl
   | true=>
    cases (hnd m).all λx=>decide (vS m.vars x=wH)with
    | false=>rfl
    | true=>rfl
  .simp[he]
def Iq (n:Nat) (l:List Int) (V:Nat):Int:=match Ie n l with
 | none=>3
 | some k=>if k<V then 3 else 0
theorem rX {l:List Int} {n j V:Nat} {x:Int} (h:l[j]?=some x):Iq n (l.drop j) V=if(n:Int)<x then 3 else if x=(n:Int)then Iq (n+1) (l.drop (j+1)) V else Iq n (l.drop (j+1)) V:=by
 have hlt:=(Xi.1 h).1;unfold Iq;rw[Xt hlt,(Xi.1 h).2,Ie];by_cases h1:(n:Int)<x
 .rw[zu h1,zu h1]
 .rw[zw h1,zw h1]
  by_cases h2:x=(n:Int)
  .rw[zu h2,zu h2]
  .rw[zw h2,zw h2]
theorem Qv:∀{l acc:List Int} {x:Int},x∈Bo acc l->x∈acc\/x∈l
 | [],acc,x,h=>.inl h
 | y::r,acc,x,h=>by
  rw[Bo]at h;split at h
  .rcases Qv h with h | h
   .exact .inl h
   .exact .inr (Yy _ h)
  .rcases Qv h with h | h
   .rcases Xw.1 h with h | h
    .exact .inl h
    .exact .inr (by rw[Xx.1 h];exact List.mem_cons_self)
   .exact .inr (Yy _ h)
theorem rY (m:Mr) (h:EJ (λx=>decide (inR m.vars.length x)) (occ m)):Iq 0 (occ m) m.vars.length=if Fc m then 0 else 3:=by
 unfold EJ at h;rw[Xh]at h;have hin:∀x∈occ m,inR m.vars.length x:=λx hx=>of_decide_eq_true (h x hx);have key:=P7 (l:=occ m) (n:=0) λx hx=>(hin x hx).1;unfold Iq Fc
 cases hs:Ie 0 (occ m)with
 | none=>
  have:¬BM m=upN m.vars.length:=λhe=>by
   have:=(key m.vars.length).2 he;rw[hs]at this;cases this
  simp[this]
 | some k=>
  have hk:BM m=upN k:=(key k).1 hs
  have hle:k<=m.vars.length:=by
   rcases Nat.eq_zero_or_pos k with h0 | h0
   .omega
   .have hm:((k-1:Nat):Int)∈BM m:=by rw[hk,DK];omega
    rcases Qv hm with h1 | h1
    .cases h1
    .have:=(hin _ h1).2;omega
  by_cases hv:k<m.vars.length
  .have:¬BM m=upN m.vars.length:=λhe=>by
    have:=congrArg List.length (hk.symm.trans he);rw[Cv,Cv]at this;omega
   simp[hv,this]
  .have:BM m=upN m.vars.length:=by rw[hk,show k=m.vars.length by omega]
   simp[hv,this]
noncomputable def F0:Tbl:=[(31,gCt),(32,Ip),(33,Ik),(34,Im)]
theorem Cf:Ctx Xc (G q) (orc F0):=(AB.cons hCt (.cons rC (.cons r8 (.cons rA .nil)))).ctx mixed
def SP1 (X:Row) (t:T) (n j:Nat):Am:=⟨[(35,.t (iv (j:Int))),(34,.t (iv (n:Int))),(33,.t t),(1,.ptr 0 0)],[(0,X)],1,109⟩
def SP2 (X:Row) (t:T) (n j:Nat):Am:=⟨[(47,.t (iv (j:Int))),(46,.t (iv (n:Int))),(45,.t t),(1,.ptr 0 0)],[(0,X)],1,109⟩
def SP3 (X:Row) (t:T) (n j:Nat):Am:=⟨[(61,.t (iv (j:Int))),(60,.t (iv (n:Int))),(59,.t t),(8,.t t),(1,.ptr 0 0)],[(0,X)],1,109⟩
def SP4 (X:Row) (t' t:T) (n j:Nat):Am:=⟨[(78,.t (iv (j:Int))),(77,.t (iv (n:Int))),(76,.t t),(8,.t t'),(1,.ptr 0 0)],[(0,X)],1,109⟩
def SP5 (X:Row) (t:T) (n j k:Nat):Am:=⟨[(91,.t (iv (j:Int))),(90,.t (iv (n:Int))),(89,.t t),(13,.t (iv (k:Int))),(1,.ptr 0 0)],[(0,X)],1,109⟩
theorem rZ {m:Mr} {cs:List T} (hm:BJ m cs) (hs:SmM m):Bc Xc (G q) 14 [.ag cs] (· = iv (Dl AN m)):=by
 have eO:=PZ hm hs;obtain⟨tv,tr,tc,rl,rfl,hv,hr,hrm,hc⟩:=hm
 obtain⟨X,hX⟩:∃X,X=Br [iv m.top,iv m.index,tv,tr,tc]:=⟨_,rfl⟩
 have hXc:∃(ty:TypeId) (cs:List T),X = .cells ty (cs.map PV.t):=⟨_,_,hX⟩
 have z:=ldM (H:=[(0,X)]) (k:=0) (by rw[hX];rfl);have lv:=hv.len;have lr:=hr.len;have lc:=hc.len
 have hrl:rl.length=m.rels.length:=by rw[<-hrm,Xg]
 have hsr:=hs.rels;have hsc:=hs.cons;have hsv:=hs.vars;have cd:=cd5 (iv m.top) (iv m.index) tv tr tc
 obtain⟨R,hR⟩:∃R,R=Dl AN m:=⟨_,rfl⟩
 rw[<-hR];refine o9.call rfl ?_;(conv in UI=>cbv);refine Ao Cf ?_;simp -implicitDefEqProofs [cd];rw[show Row.cells 26 [.t (iv m.top),.t (iv m.index),.t tv,.t tr,.t tc]=X from hX.symm];by_cases h1:16<m.rels.length\/16<m.cons.length\/256<m.vars.length
 .have hR:R=7:=by
   rw[hR];unfold Dl E7;rw[zu h1];rfl
  by_cases a1:16<rl.length
  .have b1:decide ((16:Int)<(rl.length:Int))=true:=by simpa using (by omega:(16:Int)<(rl.length:Int))
   refine Ao Cf ?_;simp -implicitDefEqProofs [z.l3,lr,b1,hR]
  .have b1:decide ((16:Int)<(rl.length:Int))=false:=by simpa using (by omega:(rl.length:Int)<=16)
   by_cases a2:16<m.cons.length
   .have b2:decide ((16:Int)<(m.cons.length:Int))=true:=by simpa using (by omega:(16:Int)<(m.cons.length:Int))
    refine Ao Cf ?_;simp -implicitDefEqProofs [z.l3,z.l4,lr,lc,b1,b2,hR]
   .have b2:decide ((16:Int)<(m.cons.length:Int))=false:=by simpa using (by omega:(m.cons.length:Int)<=16)
    have b3:decide ((256:Int)<(m.vars.length:Int))=true:=by simpa using (by omega:(256:Int)<(m.vars.length:Int))
    refine Ao Cf ?_;simp -implicitDefEqProofs [z.l3,z.l4,z.l2,lr,lc,lv,b1,b2,b3,hR]
 have hR:R=Ce Cr m.vars 1 (Fg m.rels (Ce (λx=>decide (inR m.vars.length x)) (occ m) 2 (Ce (λx=>decide (vS m.vars x=wH)) (hnd m) 2 (if Fc m then 0 else 3)))):=by rw[hR];exact rW m h1
 have b1:decide ((16:Int)<(rl.length:Int))=false:=by simpa using (by omega:(rl.length:Int)<=16)
 have b2:decide ((16:Int)<(m.cons.length:Int))=false:=by simpa using (by omega:(m.cons.length:Int)<=16)
 have b3:decide ((256:Int)<(m.vars.length:Int))=false:=by simpa using (by omega:(m.vars.length:Int)<=256)
 refine Ao Cf ?_;simp -implicitDefEqProofs [z.l3,z.l4,z.l2,lr,lc,lv,b1,b2,b3]
 obtain⟨K1,hK1⟩:∃K1,K1=Fg m.rels (Ce (λx=>decide (inR m.vars.length x)) (occ m) 2 (Ce (λx=>decide (vS m.vars x=wH)) (hnd m) 2 (if Fc m then 0 else 3))):=⟨_,rfl⟩
 rw[<-hK1]at hR;refine AZ (α:=Unit) (λ_=>⟨[(1,.ptr 0 0)],[(0,X)],1,109⟩) (λ_=>R=K1) (λ_=>rfl) ?_ ?_
 .refine Ao Cf ?_;simp -implicitDefEqProofs [z.l2,lv];refine AY ?_;refine Bj (SP1 X tv m.vars.length) (λj=>m.vars.length-j) (λj=>j<=m.vars.length/\R=Ce Cr (m.vars.drop j) 1 K1) 0 (λ_=>rfl) ⟨Xf _,hR⟩ ?_ rfl ?_
  .exact Aw (by simp -implicitDefEqProofs [SP1])
  rintro j ⟨hj,heq⟩;by_cases hlt:j<m.vars.length
  .obtain⟨x,hx⟩:∃x,m.vars[j]?=some x:=⟨_,Xd hlt⟩
   have i1:=hv.iaddr hx .i64;have hz:Ar.z=1:=rfl;rw[hz,show Ar.enc x=[sv x]from rfl]at i1;have w1:Xe.wrap ((j:Int)+1)=((j+1:Nat):Int):=Bb (by omega) (by omega);have eS:=rV x;rw[Kj hx]at heq;have h10:Aj [(1,A5 Ar tyS GB),(0,X)] 0=some X:=rfl
   cases hsx:Cr x with
   | false=>
    rw[zw (by rw[hsx];decide)]at heq;rw[hsx]at eS;refine A8 Cf ?_;simp -implicitDefEqProofs [SP1,F0,hlt,i1,lp,WL,WM,eS,heq,-Bn]
   | true=>
    rw[zu hsx]at heq;rw[hsx]at eS;refine A8 Cf ?_;simp -implicitDefEqProofs [SP1,F0,hlt,i1,lp,WL,WM,eS,w1,-Bn];exact A4.mk (j+1) ⟨⟨hlt,heq⟩,by omega⟩ (NZ h10 hXc (by simp -implicitDefEqProofs [SP1,under]))
  .have hR:R=K1:=by rw[heq,Ki _ (by omega)]
   refine A8 Cf ?_;simp -implicitDefEqProofs [SP1,hlt];exact A4.mk () hR (Aw (by simp -implicitDefEqProofs))
 rintro _ hRK;clear hR
 obtain⟨K2,hK2⟩:∃K2,K2=Ce (λx=>decide (inR m.vars.length x)) (occ m) 2 (Ce (λx=>decide (vS m.vars x=wH)) (hnd m) 2 (if Fc m then 0 else 3)):=⟨_,rfl⟩
 rw[<-hK2]at hK1;rw[hK1]at hRK;refine AZ (α:=Unit) (λ_=>⟨[(1,.ptr 0 0)],[(0,X)],1,109⟩) (λ_=>R=K2) (λ_=>rfl) ?_ ?_
 .refine Ao Cf ?_;simp -implicitDefEqProofs [z.l3,lr];refine AY ?_;refine Bj (SP2 X tr rl.length) (λj=>m.rels.length-j) (λj=>j<=m.rels.length/\R=Fg (m.rels.drop j) K2) 0 (λ_=>rfl) ⟨Xf _,hRK⟩ ?_ rfl ?_
  .exact Aw (by simp -implicitDefEqProofs [SP2])
  rintro j ⟨hj,heq⟩;by_cases hlt:j<rl.length
  .obtain⟨c,hc1⟩:∃c,rl[j]?=some c:=⟨_,Xd (by omega)⟩
   have hx:m.rels[j]?=some c.x:=by rw[<-hrm,Xv,hc1];rfl
   have hxm:=Xj hx;obtain⟨ta,hcs,hta⟩:=c.ok;have eC:=VJ c (hs.args _ hxm) (hs.strs _ hxm).1 (hs.strs _ hxm).2;have i1:=hr.iaddr hc1 .i64;have hz:eEC.z=3:=rfl;rw[hz,show eEC.enc c=c.cs from rfl,hcs]at i1;rw[hcs]at eC;have w1:Xe.wrap ((j:Int)+1)=((j+1:Nat):Int):=Bb (by omega) (by omega);have s3:=λa b d=>st3 1 a b d (sv c.x.pred) (iv c.x.label) ta 47 [(0,X)] (cd3 _ _ _)
   obtain⟨H1,hH1⟩:∃H1,H1=[(1,Ca c.x.pred c.x.label ta),(0,X)]:=⟨_,rfl⟩
   have s3:∀a b d,AO 3 [(1,.cells 47 [a,b,d]),(0,X)] (.ptr 1 0) (.t (.ag [sv c.x.pred,iv c.x.label,ta]))=some H1:=λa b d=>by rw[hH1];exact s3 a b d
   have la:AD true 3 H1 (.ptr 1 0)=some (.t (.ag [sv c.x.pred,iv c.x.label,ta])):=by rw[hH1];rfl
   have h10:Aj H1 0=some X:=by rw[hH1];rfl
   rw[VR hx]at heq
   obtain⟨e,he⟩:∃e,e=Dk AN c.x:=⟨_,rfl⟩
   rw[<-he]at heq eC;by_cases h0:e=0
   .have be:(e != 0)=false:=by simpa using h0
    rw[zu h0]at heq;refine A8 Cf ?_;simp -implicitDefEqProofs [SP2,F0,hlt,i1,Fz,s3,la,eC,be,w1];exact A4.mk (j+1) ⟨⟨by omega,heq⟩,by omega⟩ (NZ h10 hXc (by simp -implicitDefEqProofs [SP2,under]))
   .have be:(e != 0)=true:=by simpa using h0
    rw[zw h0]at heq;refine A8 Cf ?_;simp -implicitDefEqProofs [SP2,F0,hlt,i1,Fz,s3,la,eC,be,heq]
  .have hR:R=K2:=by rw[heq,VO (by omega)]
   refine A8 Cf ?_;simp -implicitDefEqProofs [SP2,hlt];exact A4.mk () hR (Aw (by simp -implicitDefEqProofs))
 rintro _ hR2;clear hRK
 obtain⟨L,hL⟩:∃L,L=occ m:=⟨_,rfl⟩
 rw[<-hL]at eO hK2
 obtain⟨tl,htl⟩:∃tl,tl=slT A6 L:=⟨_,rfl⟩
 have hTl:IsS A6 tl L:=.inr htl;rw[<-htl]at eO;have ll:=hTl.len
 have hLl:L.length<=300000000:=by rw[hL];exact LM hs
 refine Ao Cf ?_;simp -implicitDefEqProofs [F0,z.all,eO]
 obtain⟨K3,hK3⟩:∃K3,K3=Ce (λx=>decide (vS m.vars x=wH)) (hnd m) 2 (if Fc m then 0 else 3):=⟨_,rfl⟩
 rw[<-hK3]at hK2;rw[hK2]at hR2;refine AZ (α:=Unit) (λ_=>⟨[(8,.t tl),(1,.ptr 0 0)],[(0,X)],1,109⟩) (λ_=>R=K3/\EJ (λx=>decide (inR m.vars.length x)) L) (λ_=>rfl) ?_ ?_
 .refine Ao Cf ?_;simp -implicitDefEqProofs [ll];refine AY ?_;refine Bj (SP3 X tl L.length) (λj=>L.length-j) (λj=>j<=L.length/\(EJ (λx=>decide (inR m.vars.length x)) L ↔ EJ (λx=>decide (inR m.vars.length x)) (L.drop j))/\R=Ce (λx=>decide (inR m.vars.length x)) (L.drop j) 2 K3) 0 (λ_=>rfl) ⟨Xf _,Iff.rfl,hR2⟩ ?_ rfl ?_
  .exact Aw (by simp -implicitDefEqProofs [SP3])
  rintro j ⟨hj,hall,heq⟩;by_cases hlt:j<L.length
  .obtain⟨x,hx⟩:∃x,L[j]?=some x:=⟨_,Xd hlt⟩
   have i1:=hTl.iaddr hx .i64;have hz:A6.z=1:=rfl;rw[hz,show A6.enc x=[iv x]from rfl]at i1;have w1:Xe.wrap ((j:Int)+1)=((j+1:Nat):Int):=Bb (by omega) (by omega);rw[Kj hx]at heq;rw[VQ hx]at hall;by_cases hn:x<0
   .have hin:decide (inR m.vars.length x)=false:=by rw[decide_eq_false_iff_not];exact λh=>by have:=h.1;omega
    rw[zw (by rw[hin];decide)]at heq;refine A8 Cf ?_;simp -implicitDefEqProofs [SP3,F0,ll,hlt,i1,lp,hn,heq]
   .by_cases hg:(m.vars.length:Int)<=x
    .have hin:decide (inR m.vars.length x)=false:=by rw[decide_eq_false_iff_not];exact λh=>by have:=h.2;omega
     rw[zw (by rw[hin];decide)]at heq;refine A8 Cf ?_;simp -implicitDefEqProofs [SP3,F0,ll,hlt,i1,lp,hn,z.l2,lv,hg,heq]
    .have hin:decide (inR m.vars.length x)=true:=zq ⟨by omega,by omega⟩;rw[zu hin]at heq;have hall:=hall.trans (and_iff_right hin);refine A8 Cf ?_;simp -implicitDefEqProofs [SP3,F0,ll,hlt,i1,lp,hn,z.l2,lv,hg,w1];exact A4.mk (j+1) ⟨⟨hlt,hall,heq⟩,by omega⟩ (Aw (by simp -implicitDefEqProofs [SP3]))
  .rw[Ki _ (by omega)]at heq;have hall:=hall.2 (VN _ (by omega));refine A8 Cf ?_;simp -implicitDefEqProofs [SP3,ll,hlt];exact A4.mk () ⟨heq,hall⟩ (Aw (by simp -implicitDefEqProofs))
 rintro _ ⟨hR3,hok⟩
 obtain⟨D,hD⟩:∃D,D=hnd m:=⟨_,rfl⟩
 have hsub:∀x∈D,inR m.vars.length x:=λx hx=>by
  unfold EJ at hok;rw[Xh]at hok;exact of_decide_eq_true (hok x (by rw[hL];exact Qm m x (by rw[<-hD];exact hx)))
 rw[<-hD]at hK3
 obtain⟨th,hth⟩:∃th,th=slT A6 D:=⟨_,rfl⟩
 have hTh:IsS A6 th D:=.inr hth
 have eH:Im [.ag [iv m.top,iv m.index,tv,tr,tc]]=some th:=by unfold Im;rw[hth,hD];exact Il _ ⟨tv,tr,tc,rl,rfl,hv,hr,hrm,hc⟩ hs
 have lh:=hTh.len
 have hDl:D.length<=1000000:=by rw[hD];exact VC hs
 rw[hK3]at hR3
 obtain⟨K4,hK4⟩:∃K4:Int,K4=if Fc m then 0 else 3:=⟨_,rfl⟩
 rw[<-hK4]at hR3;refine AZ (α:=Unit) (λ_=>⟨[(8,.t tl),(1,.ptr 0 0)],[(0,X)],1,109⟩) (λ_=>R=K4) (λ_=>rfl) ?_ ?_
 .refine Ao Cf ?_;simp -implicitDefEqProofs [F0,z.all,eH,lh];refine AY ?_;refine Bj (SP4 X tl th D.length) (λj=>D.length-j) (λj=>j<=D.length/\R=Ce (λx=>decide (vS m.vars x=wH)) (D.drop j) 2 K4) 0 (λ_=>rfl) ⟨Xf _,hR3⟩ ?_ rfl ?_
  .exact Aw (by simp -implicitDefEqProofs [SP4])
  rintro j ⟨hj,heq⟩;by_cases hlt:j<D.length
  .obtain⟨x,hx⟩:∃x,D[j]?=some x:=⟨_,Xd hlt⟩
   have i1:=hTh.iaddr hx .i64;have hz:A6.z=1:=rfl;rw[hz,show A6.enc x=[iv x]from rfl]at i1;have hin:=hsub x (Xj hx)
   obtain⟨n,rfl⟩:∃n:Nat,x=(n:Int):=⟨x.toNat,by have:=hin.1;omega⟩
   have hnl:n<m.vars.length:=by have:=hin.2;omega
   obtain⟨s,hs1⟩:∃s,m.vars[n]?=some s:=⟨_,Xd hnl⟩
   have i2:=hv.iaddr hs1 .i64;have hzs:Ar.z=1:=rfl;rw[hzs,show Ar.enc s=[sv s]from rfl]at i2;have w1:Xe.wrap ((j:Int)+1)=((j+1:Nat):Int):=Bb (by omega) (by omega);rw[Kj hx,VL hs1]at heq;have sh:=VM s;by_cases hsw:s=wH
   .rw[zu (zq hsw)]at heq;rw[zq hsw]at sh;refine A8 Cf ?_;simp -implicitDefEqProofs [SP4,F0,lh,hlt,i1,lp,z.l2,i2,sh,w1];exact A4.mk (j+1) ⟨⟨hlt,heq⟩,by omega⟩ (Aw (by simp -implicitDefEqProofs [SP4]))
   .rw[zw (by rw[zt hsw];decide)]at heq;rw[zt hsw]at sh;refine A8 Cf ?_;simp -implicitDefEqProofs [SP4,F0,lh,hlt,i1,lp,z.l2,i2,sh,heq]
  .have hR:R=K4:=by rw[heq,Ki _ (by omega)]
   refine A8 Cf ?_;simp -implicitDefEqProofs [SP4,lh,hlt];exact A4.mk () hR (Aw (by simp -implicitDefEqProofs))
 rintro _ hR4;clear hR3 hR2
 have hR5:R=Iq 0 L m.vars.length:=by rw[hR4,hK4,hL];exact(rY m (by rw[<-hL];exact hok)).symm
 refine Ao Cf ?_;simp -implicitDefEqProofs;refine AZ (α:=Nat) (λn=>⟨[(13,.t (iv (n:Int))),(1,.ptr 0 0)],[(0,X)],1,109⟩) (λn=>R=if n<m.vars.length then 3 else 0) (λ_=>rfl) ?_ ?_
 .refine Ao Cf ?_;simp -implicitDefEqProofs [ll];refine AY ?_;refine Bj (α:=Nat×Nat) (λp=>SP5 X tl L.length p.1 p.2) (λp=>L.length-p.1) (λp=>p.1<=L.length/\p.2<=p.1/\R=Iq p.2 (L.drop p.1) m.vars.length) (0,0) (λ_=>rfl) ⟨Xf _,Xk _,hR5⟩ ?_ rfl ?_
  .exact Aw (by simp -implicitDefEqProofs [SP5])
  rintro⟨j,n⟩ ⟨hj,hn,heq⟩;simp only at hj hn heq;by_cases hlt:j<L.length
  .obtain⟨x,hx⟩:∃x,L[j]?=some x:=⟨_,Xd hlt⟩
   have i1:=hTl.iaddr hx .i64;have hz:A6.z=1:=rfl;rw[hz,show A6.enc x=[iv x]from rfl]at i1;have w1:Xe.wrap ((j:Int)+1)=((j+1:Nat):Int):=Bb (by omega) (by omega);have w2:Xe.wrap ((n:Int)+1)=((n+1:Nat):Int):=Bb (by omega) (by omega);rw[rX hx]at heq;by_cases hg:(n:Int)<x
   .rw[zu hg]at heq;refine A8 Cf ?_;simp -implicitDefEqProofs [SP5,hlt,i1,lp,hg,heq]
   .rw[zw hg]at heq
    by_cases he:x=(n:Int)
    .rw[zu he]at heq
     have be:(x==(n:Int))=true:=by simpa using he
     refine A8 Cf ?_;simp -implicitDefEqProofs [SP5,hlt,i1,lp,hg,be,w1,w2];exact A4.mk (j+1,n+1) ⟨⟨hlt,by show n+1<=j+1;omega,heq⟩,by show L.length-(j+1)<L.length-j;omega⟩ (Aw (by simp -implicitDefEqProofs [SP5]))
    .rw[zw he]at heq
     have be:(x==(n:Int))=false:=by simpa using he
     refine A8 Cf ?_;simp -implicitDefEqProofs [SP5,hlt,i1,lp,hg,be,w1];exact A4.mk (j+1,n) ⟨⟨hlt,by show n<=j+1;omega,heq⟩,by show L.length-(j+1)<L.length-j;omega⟩ (Aw (by simp -implicitDefEqProofs [SP5]))
  .rw[Xo (by omega)]at heq;refine A8 Cf ?_;simp -implicitDefEqProofs [SP5,hlt];exact A4.mk n heq (Aw (by simp -implicitDefEqProofs))
 rintro n hRn;by_cases hnv:n<m.vars.length
 .rw[zu hnv]at hRn;refine A8 Cf ?_;simp -implicitDefEqProofs [z.l2,lv,hnv,hRn]
 .rw[zw hnv]at hRn;refine A8 Cf ?_;simp -implicitDefEqProofs [z.l2,lv,hnv,hRn]
theorem Qx:GOK Xc (G q) 14 Kk:=JZ λ_ _ h hs=>rZ h hs
end Go.Proofs.YtmgjopafgboljaaGreatDoor
