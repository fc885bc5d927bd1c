/- Auxiliary facts. -/
import Derived.Test.YtmplckgbeaifkaaGreatDoorVDQ12
import Derived.Lib.AtoiAllCases
set_option linter.unusedSimpArgs false
set_option maxRecDepth 100000
set_option maxHeartbeats 0
set_option linter.unusedVariables false
namespace Go.Proofs.YtmplckgbeaifkaaGreatDoor
open Go Go.Abs
variable {q : Gl}
def decV (acc:Nat) (l:List UInt8):Nat:=l.foldl (fun a c=>a*10+(c.toNat-48)) acc
theorem D0x:∀(l:List UInt8) (acc:Nat),acc<=decV acc l
 | [],acc=>Nat.le_refl _
 | c::r,acc=>by
  have:=D0x r (acc*10+(c.toNat-48));show acc<=decV (acc*10+(c.toNat-48)) r;omega
theorem B9j:∀(l:List UInt8) (acc:Nat),(∀c∈l,A0w c=true)->acc<18446744073709551616->Lib.parseUint10 acc l=if decV acc l<18446744073709551616 then .ok (decV acc l)else .range
 | [],acc,_,ha=>by simp[Lib.parseUint10,decV,ha]
 | c::r,acc,hd,ha=>by
  have hc:=hd c (by simp);simp only[A0w,Bool.and_eq_true,decide_eq_true_eq]at hc;have e:decV acc (c::r)=decV (acc*10+(c.toNat-48)) r:=rfl;have hge:=D0x r (acc*10+(c.toNat-48));simp only[Lib.parseUint10,if_pos hc];by_cases h1:1844674407370955162<=acc
  ·rw[if_pos h1,if_neg (by rw[e];omega)]
  ·rw[if_neg h1];by_cases h2:18446744073709551616<=acc*10+(c.toNat-48)
   ·rw[if_pos h2,if_neg (by rw[e];omega)]
   ·rw[if_neg h2,B9j r _ (fun x hx=>hd x (by simp[hx])) (by omega),e]
def numS (l:List UInt8):Int×Int:=
 let neg:=l.head?==some 45
 let d:=if neg then l.tail else l
 if d.isEmpty || !(d.all A0w)||(d.head?==some 48&&l != [48])then(0,8)
 else if neg then(if decV 0 d<=9223372036854775808 then(-(decV 0 d:Int),0)else(0,2))
 else(if decV 0 d<9223372036854775808 then((decV 0 d:Int),0)else(0,2))
theorem E0x (l cs:List UInt8):(Lib.trimS l cs).isEmpty=l.all (cs.contains ·):=by
 have dw:∀(p:UInt8->Bool) (l:List UInt8),l.dropWhile p=[] ↔ ∀x∈l,p x=true:=by
  intro p l
  induction l with
  | nil=>simp
  | cons x r ih=>
   by_cases h:p x=true
   ·simp[List.dropWhile_cons,h,ih]
   ·simp[List.dropWhile_cons,h]
 have h1:Lib.trimS l cs=[] ↔ ∀x∈l,cs.contains x=true:=by
  unfold Lib.trimS Lib.trimLeftS Lib.trimRightS;rw[dw];constructor
  ·intro h x hx
   cases hc:cs.contains x with
   | true=>rfl
   | false=>
    exfalso
    have key:∀(m:List UInt8),x∈m->x∈m.dropWhile (cs.contains ·):=by
     intro m
     induction m with
     | nil=>intro h;cases h
     | cons y r ih=>
      intro hm;rw[List.dropWhile_cons];split
      ·rename_i hy;rcases List.mem_cons.1 hm with e | e
       ·subst e;rw[hc]at hy;cases hy
       ·exact ih e
      ·exact hm
    have:=h x (by simpa using key l.reverse (by simpa using hx));rw[hc]at this;cases this
  ·intro h x hx
   have:x∈l.reverse.dropWhile (cs.contains ·):=by simpa using hx
   exact h x (by simpa using (List.dropWhile_sublist _).mem this)
 cases hl:l.all (cs.contains ·)with
 | true=>rw[h1.2 (fun x hx=>List.all_eq_true.1 hl x hx)];rfl
 | false=>
  cases ht:Lib.trimS l cs with
  | nil=>
   rw[List.all_eq_true.2 (h1.1 ht)]at hl;cases hl
  | cons a r=>rfl
def digs:List UInt8:=[48,49,50,51,52,53,54,55,56,57]
theorem D7f (c:UInt8):digs.contains c=A0w c:=by
 have:∀n:Fin 256,digs.contains (UInt8.ofNat n.val)=A0w (UInt8.ofNat n.val):=by decide +kernel
 have:=this ⟨c.toNat,c.toNat_lt⟩;simpa using this
theorem stl (s:ByteArray):s.toList=s.data.toList:=ByteArray.toList_eq s
theorem A4d (l:List UInt8):(⟨l.toArray⟩:ByteArray).toList=l:=by rw[stl]
theorem A5a (l:List UInt8):(l==[])=l.isEmpty:=by cases l<;>rfl
theorem trimP (l:List UInt8):Lib.trimPrefix l [45]=if l.head?==some 45 then l.tail else l:=by
 cases l with
 | nil=>rfl
 | cons c r=>
  by_cases h:c=45
  ·subst h;simp[Lib.trimPrefix,Lib.hasPrefix,List.isPrefixOf]
  ·have:¬(45:UInt8)=c:=fun e=>h e.symm;simp[Lib.trimPrefix,Lib.hasPrefix,List.isPrefixOf,h,this]
theorem E6j (d:List UInt8) (h0:d≠[]) (hd:∀c∈d,A0w c=true):Lib.atoiAll (45::d)=if decV 0 d<=9223372036854775808 then .ok (-(decV 0 d:Int))else .range:=by
 rw[Lib.atoiAll_minus,Lib.parseMag,if_neg h0,B9j d 0 hd (by omega)];by_cases h1:decV 0 d<18446744073709551616
 ·rw[if_pos h1];unfold Lib.signed;by_cases h2:decV 0 d<=9223372036854775808
  ·simp only[if_pos h2,if_neg (by omega:¬9223372036854775808<decV 0 d)]
  ·simp only[if_neg h2,if_pos (by omega:9223372036854775808<decV 0 d)]
 ·rw[if_neg h1,if_neg (by omega)];rfl
theorem E6k (c:UInt8) (r:List UInt8) (hd:∀x∈c::r,A0w x=true):Lib.atoiAll (c::r)=if decV 0 (c::r)<9223372036854775808 then .ok (decV 0 (c::r):Int)else .range:=by
 have hc:=hd c (by simp);simp only[A0w,Bool.and_eq_true,decide_eq_true_eq]at hc;rw[Lib.atoiAll_plain c r (by omega) (by omega),Lib.parseMag,if_neg (by simp),B9j _ 0 hd (by omega)];by_cases h1:decV 0 (c::r)<18446744073709551616
 ·rw[if_pos h1];unfold Lib.signless;by_cases h2:decV 0 (c::r)<9223372036854775808
  ·simp only[if_pos h2,if_neg (by omega:¬9223372036854775808<=decV 0 (c::r))]
  ·simp only[if_neg h2,if_pos (by omega:9223372036854775808<=decV 0 (c::r))]
 ·rw[if_neg h1,if_neg (by omega)];rfl
@[simp] theorem neq_nil {Φ:A0o} {H:Heap} {nx:Nat} (isB:Bool):A0d Φ H nx (.bin isB .neq (some .ifc)) [.t (.v .nilIface),.t (.v .nilIface)]=some (.t (.v (.bool false)),H,nx):=rfl
@[simp] theorem neq_err {Φ:A0o} {H:Heap} {nx:Nat} (isB:Bool) (t:Nat) (x:T):A0d Φ H nx (.bin isB .neq (some .ifc)) [.t (.ic t x),.t (.v .nilIface)]=some (.t (.v (.bool true)),H,nx):=rfl
noncomputable def C4t:Tbl:=[(232,A9j),(233,E6e),(234,E0p)]
theorem F3z:Ctx Tryz.prog (G q) (orc C4t):=(A0x.cons D0v (.cons hTrim (.cons hAtoi .nil))).ctx mixed
abbrev numT (l:List UInt8):T:=.tu [iv (numS l).1,iv (numS l).2]
theorem D0y (s:ByteArray) (hs:s.size<=281474976710656):A0z Tryz.prog (G q) 210 [sv s] (· = numT s.data.toList):=by
 refine C4q.runs F3z rfl ?_
 obtain⟨l,hl⟩:∃l,l=s.data.toList:=⟨_,rfl⟩
 have hlen:l.length=s.size:=by rw[hl];rfl
 obtain⟨d,hd⟩:∃d,d=Lib.trimPrefix l [45]:=⟨_,rfl⟩
 have hd2:=hd;rw[trimP]at hd2
 have dl:d.length<=l.length:=by
  rw[hd2];split
  ·simp
  ·exact Nat.le_refl _
 have q1:A9j [.v (.string s),.v (.string ⟨#[45]⟩)]=some (sv (bs d)):=by
  rw[A9j,A7c (τ:=tStr) (σ:=tStr) (x:=s) (y:=⟨#[45]⟩) rfl rfl,hd,hl]
 have q2:E6e [.v (.string (bs d)),.v (.string ⟨#[48,49,50,51,52,53,54,55,56,57]⟩)]=some (sv (bs (Lib.trimS d digs))):=by
  rw[E6e,A7c (τ:=tStr) (σ:=tStr) (x:=bs d) (y:=⟨#[48,49,50,51,52,53,54,55,56,57]⟩) rfl rfl,if_pos ⟨by show d.toArray.size<=_;simp;omega,by decide,by decide⟩];rfl
 have tn:=E0x d digs;rw[show(fun x=>digs.contains x)=A0w from funext D7f]at tn;rw[<-hl]
 have hnum:numS l=if d.isEmpty || !(d.all A0w)||(d.head?==some 48&&l != [48])then(0,8)else if l.head?==some 45 then(if decV 0 d<=9223372036854775808 then(-(decV 0 d:Int),0)else(0,2))else(if decV 0 d<9223372036854775808 then((decV 0 d:Int),0)else(0,2)):=by
  rw[hd2];rfl
 cases hde:d.isEmpty with
 | true=>
  rw[hde]at hnum
  (conv in A2k=>cbv);simp -implicitDefEqProofs [C4t,q1,A4d,A5a,hde,numT,hnum]
 | false=>
 cases hda:d.all A0w with
 | false=>
  rw[hde,hda]at hnum;rw[hda]at tn
  (conv in A2k=>cbv);simp -implicitDefEqProofs [C4t,q1,A4d,A5a,hde,q2,tn,numT,hnum]
 | true=>
 rw[hde,hda]at hnum;rw[hda]at tn
 obtain⟨c,r,hcr⟩:∃c r,d=c::r:=by
  cases d with
  | nil=>cases hde
  | cons c r=>exact⟨c,r,rfl⟩
 have hall:∀x∈d,A0w x=true:=List.all_eq_true.1 hda;have ix:=A4c (bs d) 0 c (by rw[hcr];rfl);simp only[Int.natCast_zero]at ix
 have hh:d.head?=some c:=by rw[hcr];rfl
 have s0:(s.toList==[48])=(l==[48]):=by rw[stl,hl]
 have e48:((c.toNat:Int)==48)=(c==48):=by
  by_cases h:c=48
  ·subst h;rfl
  ·have:¬c.toNat=48:=fun e=>h (UInt8.toNat_inj.1 e);rw[beq_eq_false_iff_ne.2 h,beq_eq_false_iff_ne];omega
 have bad:(c==48&&l != [48])=true->numS l=(0,8):=by
  intro h;rw[hnum,hh];simp only[Option.some_beq_some,h,Bool.or_true,if_true]
 have good:(c==48&&l != [48])=false->numS l=if l.head?==some 45 then(if decV 0 d<=9223372036854775808 then(-(decV 0 d:Int),0)else(0,2))else(if decV 0 d<9223372036854775808 then((decV 0 d:Int),0)else(0,2)):=by
  intro h;rw[hnum,hh];simp only[Option.some_beq_some,h,Bool.not_true,Bool.or_false,Bool.false_eq_true,if_false]
 have atoi:(c==48&&l != [48])=false->(∃v,numS l=(v,0)/\E0p [.v (.string s)]=some (.tu [iv v,.v .nilIface]))\/(numS l=(0,2)/\∃v,E0p [.v (.string s)]=some (.tu [iv v,.ic 265 (.pt [])])):=by
  intro h;have g:=good h;have ga:E0p [.v (.string s)]=_:=A7s (τ:=tStr) (x:=s) rfl;rw[if_pos hs,<-hl]at ga
  cases hneg:(l.head?==some 45)with
  | true=>
   rw[hneg]at g hd2;simp only[if_true]at g hd2
   have el:l=45::d:=by
    cases l with
    | nil=>simp at hneg
    | cons x t=>simp at hneg;subst hneg;rw[hd2];rfl
   have at':=E6j d (by rw[hcr];simp) hall;rw[<-el]at at';by_cases h2:decV 0 d<=9223372036854775808
   ·rw[if_pos h2]at g at';left;refine⟨_,g,?_⟩;rw[ga,at']
   ·rw[if_neg h2]at g at';right;refine⟨g,Lib.atoiSat l,?_⟩;rw[ga,at']
  | false=>
   rw[hneg]at g hd2;simp only[Bool.false_eq_true,if_false]at g hd2;have at':=E6k c r (by rw[<-hcr];exact hall);rw[<-hcr]at at';rw[<-hd2]at ga;by_cases h2:decV 0 d<9223372036854775808
   ·rw[if_pos h2]at g at';left;refine⟨_,g,?_⟩;rw[ga,at']
   ·rw[if_neg h2]at g at';right;refine⟨g,Lib.atoiSat d,?_⟩;rw[ga,at']
 have fin:(c==48&&l != [48])=false->A4i (orc C4t) A2k (startM 33 [sv s]) (E0h [.tmp 2,.tmp 3] (· = numT l)):=by
  intro h;rcases atoi h with⟨v,h1,h2⟩ | ⟨h1,v,h2⟩
  ·cases h48:(c==48)with
   | true=>
    rw[h48]at h
    have h3:(l==[48])=true:=by simpa using h
    (conv in A2k=>cbv);simp -implicitDefEqProofs [C4t,q1,A4d,A5a,hde,q2,tn,ix,e48,h48,s0,h3,h2,extractV,numT,h1]
   | false=>(conv in A2k=>cbv);simp -implicitDefEqProofs [C4t,q1,A4d,A5a,hde,q2,tn,ix,e48,h48,h2,extractV,numT,h1]
  ·cases h48:(c==48)with
   | true=>
    rw[h48]at h
    have h3:(l==[48])=true:=by simpa using h
    (conv in A2k=>cbv);simp -implicitDefEqProofs [C4t,q1,A4d,A5a,hde,q2,tn,ix,e48,h48,s0,h3,h2,extractV,numT,h1]
   | false=>(conv in A2k=>cbv);simp -implicitDefEqProofs [C4t,q1,A4d,A5a,hde,q2,tn,ix,e48,h48,h2,extractV,numT,h1]
 cases hb:(c==48&&l != [48])with
 | false=>exact fin hb
 | true=>
  have h48:(c==48)=true:=by simp only[Bool.and_eq_true]at hb;exact hb.1
  have h3:(l==[48])=false:=by simp only[Bool.and_eq_true]at hb;simpa using hb.2
  (conv in A2k=>cbv);simp -implicitDefEqProofs [C4t,q1,A4d,A5a,hde,q2,tn,ix,e48,h48,s0,h3,numT,bad hb]
def dOf (l:List UInt8):List UInt8:=if l.head?==some 45 then l.tail else l
theorem A7v (l:List UInt8):numS l=if(dOf l).isEmpty || !((dOf l).all A0w)||((dOf l).head?==some 48&&l != [48])then(0,8)else if l.head?==some 45 then(if decV 0 (dOf l)<=9223372036854775808 then(-(decV 0 (dOf l):Int),0)else(0,2))else(if decV 0 (dOf l)<9223372036854775808 then((decV 0 (dOf l):Int),0)else(0,2)):=rfl
theorem E0y (l:List UInt8) (j:Nat) (c:UInt8) (h:l[j]?=some c):decV 0 (l.take (j+1))=decV 0 (l.take j)*10+(c.toNat-48):=by
 rw[List.take_add_one,h];simp[decV,List.foldl_append]
theorem B7g (l:List UInt8) (j:Nat):decV 0 (l.take j)<=decV 0 l:=by
 have:decV 0 l=decV (decV 0 (l.take j)) (l.drop j):=by
  unfold decV;rw[<-List.foldl_append,List.take_append_drop]
 rw[this];exact D0x _ _
def SN0 (D s:ByteArray):A0b:=⟨[(4,.t (sv D)),(0,.t (sv s))],[],0,80⟩
def SN1 (D s:ByteArray) (j:Nat):A0b:=⟨[(5,.t (iv (j:Int))),(4,.t (sv D)),(0,.t (sv s))],[],0,80⟩
def SN2 (D s:ByteArray) (j:Nat):A0b:=⟨[(7,.t (iv (j:Int))),(6,.t (.v (.int .u64 (decV 0 (D.data.toList.take j):Int)))),(4,.t (sv D)),(0,.t (sv s))],[],0,80⟩
def OkN (D:ByteArray) (j:Nat):Prop:=j<=D.size/\∀(i:Nat) c,i<j->D.data.toList[i]?=some c->A0w c=true
def OkM (D:ByteArray) (j:Nat):Prop:=j<=D.size/\decV 0 (D.data.toList.take j)<=9223372036854775808
theorem E6l {n:Nat} (h:n<=9223372036854775808):IntKind.i64.wrap (IntKind.u64.wrap (0-(n:Int))) = -(n:Int):=by
 by_cases h0:n=0
 ·subst h0;rfl
 ·have e:IntKind.u64.wrap (0-(n:Int))=18446744073709551616-(n:Int):=by
   unfold IntKind.wrap IntKind.bits IntKind.signed;simp only[Bool.false_and,Bool.false_eq_true,if_false]
   have e1:(2:Int)^64=18446744073709551616:=by decide
   rw[e1];omega
  rw[e];unfold IntKind.wrap IntKind.bits IntKind.signed;simp only[Bool.true_and,Nat.reduceSub]
  have e1:(2:Int)^64=18446744073709551616:=by decide
  have e2:(2:Int)^63=9223372036854775808:=by decide
  simp only[e1,e2,ge_iff_le,decide_eq_true_eq];split<;>omega
theorem D7g {n k:Nat} (hk:k<=9):IntKind.u64.wrap (9223372036854775808-(k:Int))=9223372036854775808-(k:Int) /\
  (IntKind.u64.wrap ((9223372036854775808-(k:Int)).tdiv 10)<(n:Int) ↔ 9223372036854775808<n*10+k):=by
 have h1:IntKind.u64.wrap (9223372036854775808-(k:Int))=9223372036854775808-(k:Int):=B1n (by omega) (by omega);refine⟨h1,?_⟩;have h2:(9223372036854775808-(k:Int)).tdiv 10=(9223372036854775808-(k:Int)) / 10:=Int.tdiv_eq_ediv_of_nonneg (by omega);rw[h2,B1n (by omega) (by omega)];omega
theorem E0z {c:UInt8} (h:A0w c=true):IntKind.u64.wrap (IntKind.u8.wrap ((c.toNat:Int)-48))=((c.toNat-48:Nat):Int):=by
 simp only[A0w,Bool.and_eq_true,decide_eq_true_eq]at h
 have e:IntKind.u8.wrap ((c.toNat:Int)-48)=(c.toNat:Int)-48:=by
  unfold IntKind.wrap IntKind.bits IntKind.signed;simp only[Bool.false_and,Bool.false_eq_true,if_false]
  have e1:(2:Int)^8=256:=by decide
  rw[e1];omega
 rw[e,B1n (by omega) (by omega)];omega
open Go Go.Abs Go.RowKit
def IsD (d:List UInt8) (D:ByteArray):Prop:=D.data.toList=d
def Zg (c:UInt8) (l:List UInt8):Prop:=(c==48&&l != [48])=false
def Al (d:List UInt8):Prop:=d.all A0w=true
def SN (s D:ByteArray):A0b:=SN0 D s
theorem C7w (s:ByteArray) (hs:s.size<=281474976710656):A0z Tryz.prog (G q) 180 [sv s] (· = numT s.data.toList):=by
 refine C7p.call rfl ?_;(conv in B7d=>cbv)
 obtain⟨l,hl⟩:∃l,l=s.data.toList:=⟨_,rfl⟩
 have hlen:l.length=s.size:=by rw[hl];rfl
 rw[<-hl];have hnum:=A7v l
 obtain⟨d,hd⟩:∃d,d=dOf l:=⟨_,rfl⟩
 rw[<-hd]at hnum;refine A0a ctxc ?_;simp -implicitDefEqProofs;refine A0a ctxc ?_;simp -implicitDefEqProofs;refine A1f (α:=ByteArray) (SN s) (IsD d) (fun _=>rfl) ?_ ?_
 ·refine A0c ctxc ?_
  cases hl2:l with
  | nil=>
   have h0:s.size=0:=by rw[<-hlen,hl2];rfl
   have h0':¬(0:Int)<(s.size:Int):=by omega
   simp -implicitDefEqProofs [h0];refine Abs.Next.mk s ?_ (A0s rfl rfl (by simp -implicitDefEqProofs [SN,SN0]) (by simp -implicitDefEqProofs [SN,SN0]));show s.data.toList=d;rw[hd,hl2,<-hl,hl2];rfl
  | cons c r=>
   have h0:0<s.size:=by rw[<-hlen,hl2];simp
   have ix:=A4c s 0 c (by rw[<-hl,hl2];rfl);simp only[Int.natCast_zero]at ix
   have e45:((c.toNat:Int)==45)=(c==45):=by
    by_cases h:c=45
    ·subst h;rfl
    ·have:¬c.toNat=45:=fun e=>h (UInt8.toNat_inj.1 e);rw[beq_eq_false_iff_ne.2 h,beq_eq_false_iff_ne];omega
   cases h45:(c==45)with
   | true=>
    have hsl:A3k (.t (sv s)) (some (.t (iv 1))) none=some (.t (sv (s.extract 1 s.size))):=by
     have:1<=s.size:=by omega
     simp[A3k,boundV,this]
    simp -implicitDefEqProofs [h0,ix,e45,h45,hsl];refine Abs.Next.mk (s.extract 1 s.size) ?_ (A0s rfl rfl (by simp -implicitDefEqProofs [SN,SN0]) (by simp -implicitDefEqProofs [SN,SN0]))
    have h45':c=45:=by simpa using h45
    have:s.data.toList.length=s.size:=rfl;show(s.extract 1 s.size).data.toList=d;rw[Lib.extract_data,hd,<-hl,hl2,h45'];rw[<-hl,hl2]at this;simp only[List.length_cons]at this;have e1:dOf (45::r)=r:=rfl;rw[e1];show List.take (s.size-1) r=r;exact List.take_of_length_le (by omega)
   | false=>
    simp -implicitDefEqProofs [h0,ix,e45,h45];refine Abs.Next.mk s ?_ (A0s rfl rfl (by simp -implicitDefEqProofs [SN,SN0]) (by simp -implicitDefEqProofs [SN,SN0]));show s.data.toList=d;rw[<-hl,hl2,hd,hl2]
    have h2:(some c==some (45:UInt8))=false:=by simpa using h45
    show c::r=if(some c==some (45:UInt8))then r else c::r
    rw[h2];rfl
 intro D hD;have hDl:D.data.toList.length=D.size:=rfl;have hDd:D.data.toList=d:=hD
 have dl:d.length<=l.length:=by
  rw[hd];unfold dOf;split
  ·simp
  ·exact Nat.le_refl _
 have hDs:D.size=d.length:=by rw[<-hDl,hDd]
 cases hde:d with
 | nil=>
  refine A0a ctxc ?_;rw[hde]at hnum hDd
  have e0:(D.toList==[])=true:=by rw[stl,hDd];rfl
  simp -implicitDefEqProofs [SN,SN0,A4d,e0,numT,hnum]
 | cons c r=>
 have e0:(D.toList==[])=false:=by rw[stl,hDd,hde];rfl
 have ix:=A4c D 0 c (by rw[hDd,hde];rfl);simp only[Int.natCast_zero]at ix
 have e48:((c.toNat:Int)==48)=(c==48):=by
  by_cases h:c=48
  ·subst h;rfl
  ·have:¬c.toNat=48:=fun e=>h (UInt8.toNat_inj.1 e);rw[beq_eq_false_iff_ne.2 h,beq_eq_false_iff_ne];omega
 have hh:d.head?=some c:=by rw[hde];rfl
 have hz:(c==48)=true->(decide (1<D.size)||decide (1<s.size))=(l != [48]):=by
  intro h48
  have hc:c=48:=by simpa using h48
  have hds:D.size=r.length+1:=by rw[hDs,hde];rfl
  cases hl2:l with
  | nil=>rw[hd,hl2]at hde;cases hde
  | cons x t=>
   have hls:s.size=t.length+1:=by rw[<-hlen,hl2];rfl
   by_cases h45:x=45
   ·subst h45;rw[hd,hl2]at hde;have:t=c::r:=hde;rw[hls,this];simp
   ·have h2:(some x==some (45:UInt8))=false:=by simpa using h45
    rw[hd,hl2]at hde
    have h3:dOf (x::t)=x::t:=by
     show(if(some x==some (45:UInt8))then t else x::t)=_;rw[h2];rfl
    rw[h3]at hde;injection hde with h4 h5;subst h4;subst h5;subst hc
    cases t with
    | nil=>simp[hds,hls]
    | cons y t=>simp[hds,hls]
 have bad:(c==48&&l != [48])=true->numS l=(0,8):=by
  intro h;rw[hnum,hh];simp only[Option.some_beq_some,h,Bool.or_true,if_true]
 refine A1f (α:=Unit) (fun _=>SN s D) (fun _=>Zg c l) (fun _=>rfl) ?_ ?_
 ·refine A0c ctxc ?_
  cases h48:(c==48)with
  | false=>
   simp -implicitDefEqProofs [SN,SN0,A4d,e0,ix,e48,h48];exact Abs.Next.mk () (by show(c==48&&l != [48])=false;rw[h48];rfl) (A0s rfl rfl (by simp -implicitDefEqProofs) (by simp -implicitDefEqProofs))
  | true=>
   have hz':=hz h48;by_cases h1:1<D.size
   ·have hb:=bad (by rw[h48,<-hz',decide_eq_true h1];rfl)
    have h1':(1:Int)<(D.size:Int):=by omega
    simp -implicitDefEqProofs [SN,SN0,A4d,e0,ix,e48,h48,h1',numT,hb]
   ·have h1':¬(1:Int)<(D.size:Int):=by omega
    by_cases h2:1<s.size
    ·have hb:=bad (by rw[h48,<-hz',decide_eq_true h2,Bool.or_true];rfl)
     have h2':(1:Int)<(s.size:Int):=by omega
     simp -implicitDefEqProofs [SN,SN0,A4d,e0,ix,e48,h48,h1',h2',numT,hb]
    ·have hb:(l != [48])=false:=by rw[<-hz',decide_eq_false h1,decide_eq_false h2];rfl
     have h2':¬(1:Int)<(s.size:Int):=by omega
     simp -implicitDefEqProofs [SN,SN0,A4d,e0,ix,e48,h48,h1',h2'];exact Abs.Next.mk () (by show(c==48&&l != [48])=false;rw[hb];simp) (A0s rfl rfl (by simp -implicitDefEqProofs) (by simp -implicitDefEqProofs))
 rintro _ hgood;have hgood:(c==48&&l != [48])=false:=hgood
 have hnum2:(d.all A0w)=false->numS l=(0,8):=by
  intro h;rw[hnum,h];simp
 have hnum3:(d.all A0w)=true->numS l=if l.head?==some 45 then(if decV 0 d<=9223372036854775808 then(-(decV 0 d:Int),0)else(0,2))else(if decV 0 d<9223372036854775808 then((decV 0 d:Int),0)else(0,2)):=by
  intro h
  have hne:d.isEmpty=false:=by rw[hde];rfl
  rw[hnum,h,hh,hne];simp only[Option.some_beq_some,hgood,Bool.not_true,Bool.or_false,Bool.false_eq_true,if_false]
 refine A1f (α:=Unit) (fun _=>SN s D) (fun _=>Al d) (fun _=>rfl) ?_ ?_
 ·refine A0a ctxc ?_;simp -implicitDefEqProofs [SN,SN0];refine A0n ?_;refine A1a (SN1 D s) (fun j=>D.size-j) (fun j=>OkN D j) 0 (fun _=>rfl) ⟨Nat.zero_le _,fun i c h=>by omega⟩ ?_ rfl ?_
  ·refine A0s rfl rfl ?_ ?_<;>simp -implicitDefEqProofs [SN1]
  ·rintro j ⟨hj,hok⟩;refine A0c ctxc ?_;by_cases hlt:j<D.size
   ·obtain⟨x,hx⟩:∃x,D.data.toList[j]?=some x:=⟨_,List.getElem?_eq_getElem hlt⟩
    have ixj:=A4c D j x hx;have e1:IntKind.i64.wrap ((j:Int)+1)=((j+1:Nat):Int):=A0p (by omega) (by omega);have qd:=B9i A0w x
    cases hdx:A0w x with
    | true=>
     simp -implicitDefEqProofs [SN1,hlt,ixj,tbc,qd,hdx,e1];refine Abs.Next.mk (j+1) ⟨⟨hlt,fun i y hi hy=>?_⟩,by omega⟩ (A0s rfl rfl (by simp -implicitDefEqProofs [SN1]) (by simp -implicitDefEqProofs [SN1]));by_cases e:i=j
     ·subst e;rw[hx]at hy;injection hy with hy;subst hy;exact hdx
     ·exact hok i y (by omega) hy
    | false=>
     have hb:=hnum2 (by
      rw[List.all_eq_false]
      exact⟨x,by rw[<-hDd];exact List.mem_of_getElem? hx,by rw[hdx];simp⟩)
     simp -implicitDefEqProofs [SN1,hlt,ixj,tbc,qd,hdx,numT,hb]
   ·have e:j=D.size:=by omega
    subst e;simp -implicitDefEqProofs [SN1];refine Abs.Next.mk () ?_ (A0s rfl rfl (by simp -implicitDefEqProofs [SN,SN0]) (by simp -implicitDefEqProofs [SN,SN0]));show d.all A0w=true;rw[List.all_eq_true,<-hDd];intro x hx;obtain⟨i,hi,e⟩:=List.getElem_of_mem hx;exact hok i x (by omega) (by rw[List.getElem?_eq_getElem hi,e])
 rintro _ hall;have hall:d.all A0w=true:=hall;have hn:=hnum3 hall;have hall':∀x∈d,A0w x=true:=List.all_eq_true.1 hall;refine A0a ctxc ?_;simp -implicitDefEqProofs [SN,SN0];refine A1f (α:=Unit) (fun _=>SN2 D s D.size) (fun _=>OkM D D.size) (fun _=>rfl) ?_ ?_
 ·refine A0a ctxc ?_;simp -implicitDefEqProofs;refine A0n ?_;refine A1a (SN2 D s) (fun j=>D.size-j) (fun j=>OkM D j) 0 (fun _=>rfl) ⟨Nat.zero_le _,by simp[decV]⟩ ?_ rfl ?_
  ·refine A0s rfl rfl ?_ ?_<;>simp -implicitDefEqProofs [SN2,decV]
  ·rintro j ⟨hj,hle⟩;refine A0c ctxc ?_;by_cases hlt:j<D.size
   ·obtain⟨x,hx⟩:∃x,D.data.toList[j]?=some x:=⟨_,List.getElem?_eq_getElem hlt⟩
    have ixj:=A4c D j x hx;have hdx:=hall' x (by rw[<-hDd];exact List.mem_of_getElem? hx)
    have hk:x.toNat-48<=9:=by simp only[A0w,Bool.and_eq_true,decide_eq_true_eq]at hdx;omega
    have e1:IntKind.i64.wrap ((j:Int)+1)=((j+1:Nat):Int):=A0p (by omega) (by omega);have bw:=E0z hdx;have hstep:=E0y D.data.toList j x hx
    obtain⟨n,hn'⟩:∃n,n=decV 0 (D.data.toList.take j):=⟨_,rfl⟩
    rw[<-hn']at hle hstep
    obtain⟨k,hk'⟩:∃k,k=x.toNat-48:=⟨_,rfl⟩
    rw[<-hk']at hk bw hstep;obtain⟨w1,w2⟩:=D7g (n:=n) hk;by_cases hbig:9223372036854775808<n*10+k
    ·have hgt:=w2.2 hbig;have hmono:=B7g D.data.toList (j+1);rw[hstep,hDd]at hmono
     have hb:numS l=(0,2):=by
      rw[hn];split
      ·rw[if_neg (by omega)]
      ·rw[if_neg (by omega)]
     simp -implicitDefEqProofs [SN2,<-hn',hlt,ixj,bw,w1,hgt,numT,hb]
    ·have hgt:¬IntKind.u64.wrap ((9223372036854775808-(k:Int)).tdiv 10)<(n:Int):=fun h=>hbig (w2.1 h);have e2:IntKind.u64.wrap ((n:Int)*10)=(n:Int)*10:=B1n (by omega) (by omega)
     have e3:IntKind.u64.wrap ((n:Int)*10+(k:Int))=((n*10+k:Nat):Int):=by rw[B1n (by omega) (by omega)];omega
     simp -implicitDefEqProofs [SN2,<-hn',hlt,ixj,bw,w1,hgt,e1,e2,e3];refine Abs.Next.mk (j+1) ⟨⟨hlt,by rw[hstep];omega⟩,by omega⟩ (A0s rfl rfl (by simp -implicitDefEqProofs [SN2,hstep]) (by simp -implicitDefEqProofs [SN2]))
   ·have e:j=D.size:=by omega
    subst e;simp -implicitDefEqProofs [SN2];exact Abs.Next.mk () ⟨hj,hle⟩ (A0s rfl rfl (by simp -implicitDefEqProofs [SN2]) (by simp -implicitDefEqProofs [SN2]))
 rintro _ ⟨_,hle⟩
 have htk:D.data.toList.take D.size=d:=by rw[hDd,hDs];exact List.take_of_length_le (Nat.le_refl _)
 rw[htk]at hle;refine A0c ctxc ?_
 cases hneg:(l.head?==some 45)with
 | true=>
  have hlt:(D.size:Int)<(s.size:Int):=by
   have:d=l.tail:=by rw[hd];unfold dOf;rw[hneg];rfl
   have h0:l≠[]:=by intro e;rw[e]at hneg;cases hneg
   have:d.length+1=l.length:=by
    rw[this]
    cases l with
    | nil=>exact absurd rfl h0
    | cons x t=>simp
   omega
  rw[hneg,if_pos rfl,if_pos hle]at hn;have nw:=E6l hle;rw[Int.zero_sub]at nw;simp -implicitDefEqProofs [SN2,htk,hlt,nw,numT,hn]
 | false=>
  have hlt:¬(D.size:Int)<(s.size:Int):=by
   have:d=l:=by rw[hd];unfold dOf;rw[hneg];rfl
   rw[<-this]at hlen;omega
  rw[hneg]at hn;simp only[Bool.false_eq_true,if_false]at hn;by_cases h2:decV 0 d=9223372036854775808
  ·have e2:((decV 0 d:Int)==9223372036854775808)=true:=by rw[h2];rfl
   rw[if_neg (by omega)]at hn;simp -implicitDefEqProofs [SN2,htk,hlt,e2,numT,hn]
  ·have e2:((decV 0 d:Int)==9223372036854775808)=false:=by rw[beq_eq_false_iff_ne];omega
   rw[if_pos (by omega)]at hn;have e3:IntKind.i64.wrap (decV 0 d:Int)=(decV 0 d:Int):=wrap_i64 (by omega) (by omega);simp -implicitDefEqProofs [SN2,htk,hlt,e2,e3,numT,hn]
noncomputable def F4a:Tbl:=[(131,E6f)]
theorem F4b:Ctx Tryz.prog (G q) (orc F4a):=(A0x.cons hItoa .nil).ctx mixed
theorem C7x (n:Int) (h:-9223372036854775808<=n/\n<=9223372036854775807):A0z Tryz.prog (G q) 82 [iv n] (· = sv (bs (Lib.itoa n))):=by
 refine C1j.runs F4b rfl ?_
 have e:E6f [iv n]=some (sv (bs (Lib.itoa n))):=by rw[E6f,A7s (τ:=tInt) (x:=n) rfl,if_pos h]
 (conv in B2g=>cbv);simp -implicitDefEqProofs [F4a,e]
def dd (u:Nat):List UInt8:=if u=0 then []else Lib.decDigits u
theorem E1a (u:Nat) (h:0<u):dd u=dd (u / 10)++[UInt8.ofNat (48+u%10)]:=by
 unfold dd;rw[if_neg (by omega),Lib.decDigits];by_cases h1:u<10
 ·rw[dif_pos h1,if_pos (by omega),Nat.mod_eq_of_lt h1];rfl
 ·rw[dif_neg h1,if_neg (by omega)]
theorem F4c (a b:List UInt8):bs a++bs b=bs (a++b):=by
 show(⟨a.toArray⟩:ByteArray)++⟨b.toArray⟩=_;apply ByteArray.ext;simp[bs,ByteArray.data_append]
theorem cat {Φ:A0o} {a b:List UInt8} (h:a.length+b.length<=9223372036854775807):∀(isB:Bool) (nk:Option NK) (H:Heap) (nx:Nat),A0d Φ H nx (.bin isB .add nk) [.t (.v (.string ⟨a.toArray⟩)),.t (.v (.string ⟨b.toArray⟩))]=some (.t (sv (bs (a++b))),H,nx):=by
 intro isB nk H nx;rw[D6s isB nk _ _ (by show a.toArray.size+b.toArray.size<=_;simpa using h)];rw[show(⟨a.toArray⟩:ByteArray)++⟨b.toArray⟩=bs (a++b)from F4c a b]
end Go.Proofs.YtmplckgbeaifkaaGreatDoor
