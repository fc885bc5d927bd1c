/- Auxiliary facts. -/
import Derived.Test.YtobnacghaamfoaaGreatDoorVGQ20
import Derived.Lib.AtoiAllCases
set_option linter.unusedSimpArgs false
set_option maxRecDepth 100000
set_option maxHeartbeats 0
set_option linter.unusedVariables false
open Bool renaming and_eq_true->Xa,false_eq_true->Xg
open List renaming dropWhile_cons->Xb,all_eq_true->Xc,isPrefixOf->Xe
open UInt8 renaming ofNat->Xd
open Option renaming some_beq_some->Xf
namespace Go.Proofs.YtobnacghaamfoaaGreatDoor
open Go Go.Abs
variable {q : Gl}
def Bm (acc:Nat) (l:List UInt8):Nat:=l.foldl (λa c=>a*10+(c.toNat-48)) acc
theorem Td:∀(l:List UInt8) (acc:Nat),acc<=Bm acc l
 | [],acc=>Nat.le_refl _
 | c::r,acc=>by
  have:=Td r (acc*10+(c.toNat-48));show acc<=Bm (acc*10+(c.toNat-48)) r;omega
theorem Te:∀(l:List UInt8) (acc:Nat),(∀c∈l,AR c=true)->acc<18446744073709551616->Lib.parseUint10 acc l=if Bm acc l<18446744073709551616 then .ok (Bm acc l)else .range
 | [],acc,_,ha=>by simp[Lib.parseUint10,Bm,ha]
 | c::r,acc,hd,ha=>by
  have hc:=hd c (by simp);simp only[AR,Xa,decide_eq_true_eq]at hc;have e:Bm acc (c::r)=Bm (acc*10+(c.toNat-48)) r:=rfl;have hge:=Td r (acc*10+(c.toNat-48));simp only[Lib.parseUint10,zy hc];by_cases h1:1844674407370955162<=acc
  .rw[zy h1,zz (by rw[e];omega)]
  .rw[zz h1];by_cases h2:18446744073709551616<=acc*10+(c.toNat-48)
   .rw[zy h2,zz (by rw[e];omega)]
   .rw[zz h2,Te r _ (λx hx=>hd x (by simp[hx])) (by omega),e]
def Eo (l:List UInt8):Int×Int:=
 let neg:=l.head?==some 45
 let d:=if neg then l.tail else l
 if d.isEmpty || !(d.all AR)||(d.head?==some 48&&l != [48])then(0,8)
 else if neg then(if Bm 0 d<=9223372036854775808 then(-(Bm 0 d:Int),0)else(0,2))
 else(if Bm 0 d<9223372036854775808 then((Bm 0 d:Int),0)else(0,2))
theorem wF (l cs:List UInt8):(Lib.trimS l cs).isEmpty=l.all (cs.contains ·):=by
 have dw:∀(p:UInt8->Bool) (l:List UInt8),l.dropWhile p=[] ↔ ∀x∈l,p x=true:=by
  intro p l
  induction l with
  | nil=>simp
  | cons x r ih=>
   by_cases h:p x=true
   .simp[Xb,h,ih]
   .simp[Xb,h]
 have h1:Lib.trimS l cs=[] ↔ ∀x∈l,cs.contains x=true:=by
  unfold Lib.trimS Lib.trimLeftS Lib.trimRightS;rw[dw];constructor
  .intro h x hx
   cases hc:cs.contains x with
   | true=>rfl
   | false=>
    exfalso
    have key:∀(m:List UInt8),x∈m->x∈m.dropWhile (cs.contains ·):=by
     intro m
     induction m with
     | nil=>intro h;cases h
     | cons y r ih=>
      intro hm;rw[Xb];split
      .rename_i hy;rcases List.mem_cons.1 hm with e | e
       .subst e;rw[hc]at hy;cases hy
       .exact ih e
      .exact hm
    have:=h x (by simpa using key l.reverse (by simpa using hx));rw[hc]at this;cases this
  .intro h x hx
   have:x∈l.reverse.dropWhile (cs.contains ·):=by simpa using hx
   exact h x (by simpa using (List.dropWhile_sublist _).mem this)
 cases hl:l.all (cs.contains ·)with
 | true=>rw[h1.2 (λx hx=>Xc.1 hl x hx)];rfl
 | false=>
  cases ht:Lib.trimS l cs with
  | nil=>
   rw[Xc.2 (h1.1 ht)]at hl;cases hl
  | cons a r=>rfl
def Oq:List UInt8:=[48,49,50,51,52,53,54,55,56,57]
theorem wG (c:UInt8):Oq.contains c=AR c:=by
 have:∀n:Fin 256,Oq.contains (Xd n.val)=AR (Xd n.val):=by decide +kernel
 have:=this ⟨c.toNat,c.toNat_lt⟩;simpa using this
theorem stl (s:ByteArray):s.toList=s.data.toList:=ByteArray.toList_eq s
theorem DN (l:List UInt8):(⟨l.toArray⟩:ByteArray).toList=l:=by rw[stl]
theorem IM (l:List UInt8):(l==[])=l.isEmpty:=by cases l<;>rfl
theorem wI (l:List UInt8):Lib.trimPrefix l [45]=if l.head?==some 45 then l.tail else l:=by
 cases l with
 | nil=>rfl
 | cons c r=>
  by_cases h:c=45
  .subst h;simp[Lib.trimPrefix,Lib.hasPrefix,Xe]
  .have:¬(45:UInt8)=c:=λe=>h e.symm;simp[Lib.trimPrefix,Lib.hasPrefix,Xe,h,this]
theorem wJ (d:List UInt8) (h0:d≠[]) (hd:∀c∈d,AR c=true):Lib.atoiAll (45::d)=if Bm 0 d<=9223372036854775808 then .ok (-(Bm 0 d:Int))else .range:=by
 rw[Lib.atoiAll_minus,Lib.parseMag,zz h0,Te d 0 hd (by omega)];by_cases h1:Bm 0 d<18446744073709551616
 .rw[zy h1];unfold Lib.signed;by_cases h2:Bm 0 d<=9223372036854775808
  .simp only[zy h2,zz (by omega:¬9223372036854775808<Bm 0 d)]
  .simp only[zz h2,zy (by omega:9223372036854775808<Bm 0 d)]
 .rw[zz h1,zz (by omega)];rfl
theorem wK (c:UInt8) (r:List UInt8) (hd:∀x∈c::r,AR x=true):Lib.atoiAll (c::r)=if Bm 0 (c::r)<9223372036854775808 then .ok (Bm 0 (c::r):Int)else .range:=by
 have hc:=hd c (by simp);simp only[AR,Xa,decide_eq_true_eq]at hc;rw[Lib.atoiAll_plain c r (by omega) (by omega),Lib.parseMag,zz (by simp),Te _ 0 hd (by omega)];by_cases h1:Bm 0 (c::r)<18446744073709551616
 .rw[zy h1];unfold Lib.signless;by_cases h2:Bm 0 (c::r)<9223372036854775808
  .simp only[zy h2,zz (by omega:¬9223372036854775808<=Bm 0 (c::r))]
  .simp only[zz h2,zy (by omega:9223372036854775808<=Bm 0 (c::r))]
 .rw[zz h1,zz (by omega)];rfl
@[simp] theorem C3s {Φ:A7} {H:Ab} {nx:Nat} (isB:Bool):Ai Φ H nx (.bin isB .neq (some .ifc)) [.t (.v .nilIface),.t (.v .nilIface)]=some (.t (.v (.bool false)),H,nx):=rfl
@[simp] theorem C3t {Φ:A7} {H:Ab} {nx:Nat} (isB:Bool) (t:Nat) (x:T):Ai Φ H nx (.bin isB .neq (some .ifc)) [.t (.ic t x),.t (.v .nilIface)]=some (.t (.v (.bool true)),H,nx):=rfl
noncomputable def IP:Tbl:=[(127,Qx),(128,Qy),(129,On)]
theorem wL:Ctx Tryz.prog (G q) (orc IP):=(As.cons vO (.cons vQ (.cons vR .nil))).ctx mixed
abbrev D9 (l:List UInt8):T:=.tu [iv (Eo l).1,iv (Eo l).2]
theorem wN (s:ByteArray) (hs:s.size<=281474976710656):A1 Tryz.prog (G q) 113 [sv s] (· = D9 s.data.toList):=by
 refine rM.runs wL rfl ?_
 obtain⟨l,hl⟩:∃l,l=s.data.toList:=⟨_,rfl⟩
 have hlen:l.length=s.size:=by rw[hl];rfl
 obtain⟨d,hd⟩:∃d,d=Lib.trimPrefix l [45]:=⟨_,rfl⟩
 have hd2:=hd;rw[wI]at hd2
 have dl:d.length<=l.length:=by
  rw[hd2];split
  .simp
  .exact Nat.le_refl _
 have q1:Qx [.v (.string s),.v (.string ⟨#[45]⟩)]=some (sv (bs d)):=by
  rw[Qx,Dz (τ:=BU) (σ:=BU) (x:=s) (y:=⟨#[45]⟩) rfl rfl,hd,hl]
 have q2:Qy [.v (.string (bs d)),.v (.string ⟨#[48,49,50,51,52,53,54,55,56,57]⟩)]=some (sv (bs (Lib.trimS d Oq))):=by
  rw[Qy,Dz (τ:=BU) (σ:=BU) (x:=bs d) (y:=⟨#[48,49,50,51,52,53,54,55,56,57]⟩) rfl rfl,zy ⟨by show d.toArray.size<=_;simp;omega,by decide,by decide⟩];rfl
 have tn:=wF d Oq;rw[show(λx=>Oq.contains x)=AR from funext wG]at tn;rw[<-hl]
 have hnum:Eo l=if d.isEmpty || !(d.all AR)||(d.head?==some 48&&l != [48])then(0,8)else if l.head?==some 45 then(if Bm 0 d<=9223372036854775808 then(-(Bm 0 d:Int),0)else(0,2))else(if Bm 0 d<9223372036854775808 then((Bm 0 d:Int),0)else(0,2)):=by
  rw[hd2];rfl
 cases hde:d.isEmpty with
 | true=>
  rw[hde]at hnum
  (conv in IJ=>cbv);simp -implicitDefEqProofs [IP,q1,DN,IM,hde,D9,hnum]
 | false=>
 cases hda:d.all AR with
 | false=>
  rw[hde,hda]at hnum;rw[hda]at tn
  (conv in IJ=>cbv);simp -implicitDefEqProofs [IP,q1,DN,IM,hde,q2,tn,D9,hnum]
 | true=>
 rw[hde,hda]at hnum;rw[hda]at tn
 obtain⟨c,r,hcr⟩:∃c r,d=c::r:=by
  cases d with
  | nil=>cases hde
  | cons c r=>exact⟨c,r,rfl⟩
 have hall:∀x∈d,AR x=true:=Xc.1 hda;have ix:=DM (bs d) 0 c (by rw[hcr];rfl);simp only[Int.natCast_zero]at ix
 have hh:d.head?=some c:=by rw[hcr];rfl
 have s0:(s.toList==[48])=(l==[48]):=by rw[stl,hl]
 have e48:((c.toNat:Int)==48)=(c==48):=by
  by_cases h:c=48
  .subst h;rfl
  .have:¬c.toNat=48:=λe=>h (UInt8.toNat_inj.1 e);rw[beq_eq_false_iff_ne.2 h,zu];omega
 have bad:(c==48&&l != [48])=true->Eo l=(0,8):=by
  intro h;rw[hnum,hh];simp only[Xf,h,Bool.or_true,if_true]
 have good:(c==48&&l != [48])=false->Eo l=if l.head?==some 45 then(if Bm 0 d<=9223372036854775808 then(-(Bm 0 d:Int),0)else(0,2))else(if Bm 0 d<9223372036854775808 then((Bm 0 d:Int),0)else(0,2)):=by
  intro h;rw[hnum,hh];simp only[Xf,h,Bool.not_true,Bool.or_false,Xg,if_false]
 have atoi:(c==48&&l != [48])=false->(∃v,Eo l=(v,0)/\On [.v (.string s)]=some (.tu [iv v,.v .nilIface]))\/(Eo l=(0,2)/\∃v,On [.v (.string s)]=some (.tu [iv v,.ic 210 (.pt [])])):=by
  intro h;have g:=good h;have ga:On [.v (.string s)]=_:=D8 (τ:=BU) (x:=s) rfl;rw[zy hs,<-hl]at ga
  cases hneg:(l.head?==some 45)with
  | true=>
   rw[hneg]at g hd2;simp only[if_true]at g hd2
   have el:l=45::d:=by
    cases l with
    | nil=>simp at hneg
    | cons x t=>simp at hneg;subst hneg;rw[hd2];rfl
   have at':=wJ d (by rw[hcr];simp) hall;rw[<-el]at at';by_cases h2:Bm 0 d<=9223372036854775808
   .rw[zy h2]at g at';left;refine⟨_,g,?_⟩;rw[ga,at']
   .rw[zz h2]at g at';right;refine⟨g,Lib.atoiSat l,?_⟩;rw[ga,at']
  | false=>
   rw[hneg]at g hd2;simp only[Xg,if_false]at g hd2;have at':=wK c r (by rw[<-hcr];exact hall);rw[<-hcr]at at';rw[<-hd2]at ga;by_cases h2:Bm 0 d<9223372036854775808
   .rw[zy h2]at g at';left;refine⟨_,g,?_⟩;rw[ga,at']
   .rw[zz h2]at g at';right;refine⟨g,Lib.atoiSat d,?_⟩;rw[ga,at']
 have fin:(c==48&&l != [48])=false->Cf (orc IP) IJ (Lc 33 [sv s]) (NY [.tmp 2,.tmp 3] (· = D9 l)):=by
  intro h;rcases atoi h with⟨v,h1,h2⟩ | ⟨h1,v,h2⟩
  .cases h48:(c==48)with
   | true=>
    rw[h48]at h
    have h3:(l==[48])=true:=by simpa using h
    (conv in IJ=>cbv);simp -implicitDefEqProofs [IP,q1,DN,IM,hde,q2,tn,ix,e48,h48,s0,h3,h2,BC,D9,h1]
   | false=>(conv in IJ=>cbv);simp -implicitDefEqProofs [IP,q1,DN,IM,hde,q2,tn,ix,e48,h48,h2,BC,D9,h1]
  .cases h48:(c==48)with
   | true=>
    rw[h48]at h
    have h3:(l==[48])=true:=by simpa using h
    (conv in IJ=>cbv);simp -implicitDefEqProofs [IP,q1,DN,IM,hde,q2,tn,ix,e48,h48,s0,h3,h2,BC,D9,h1]
   | false=>(conv in IJ=>cbv);simp -implicitDefEqProofs [IP,q1,DN,IM,hde,q2,tn,ix,e48,h48,h2,BC,D9,h1]
 cases hb:(c==48&&l != [48])with
 | false=>exact fin hb
 | true=>
  have h48:(c==48)=true:=by simp only[Xa]at hb;exact hb.1
  have h3:(l==[48])=false:=by simp only[Xa]at hb;simpa using hb.2
  (conv in IJ=>cbv);simp -implicitDefEqProofs [IP,q1,DN,IM,hde,q2,tn,ix,e48,h48,s0,h3,D9,bad hb]
def dd (u:Nat):List UInt8:=if u=0 then []else Lib.decDigits u
end Go.Proofs.YtobnacghaamfoaaGreatDoor
