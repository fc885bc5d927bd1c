/- Auxiliary facts. -/
import Derived.Test.YtmgjopafgboljaaGreatDoorVEQ23
import Derived.Lib.AtoiAllCases
import Derived.Test.YtmgjopafgboljaaGreatDoorVEQ16
set_option linter.unusedSimpArgs false
set_option maxRecDepth 100000
set_option maxHeartbeats 0
set_option linter.unusedVariables false
namespace Go.Proofs.YtmgjopafgboljaaGreatDoor
open Go Go.Abs
variable {q : Gl}
def decV (acc:Nat) (l:List UInt8):Nat:=l.foldl (fun a c=>a*10+(c.toNat-48)) acc
theorem E7p:∀(l:List UInt8) (acc:Nat),acc<=decV acc l
 | [],acc=>Nat.le_refl _
 | c::r,acc=>by
  have:=E7p r (acc*10+(c.toNat-48));show acc<=decV (acc*10+(c.toNat-48)) r;omega
theorem C1i:∀(l:List UInt8) (acc:Nat),(∀c∈l,A1j c=true)->acc<18446744073709551616->Lib.parseUint10 acc l=if decV acc l<18446744073709551616 then .ok (decV acc l)else .range
 | [],acc,_,ha=>by simp[Lib.parseUint10,decV,ha]
 | c::r,acc,hd,ha=>by
  have hc:=hd c (by simp);simp only[A1j,Bool.and_eq_true,decide_eq_true_eq]at hc;have e:decV acc (c::r)=decV (acc*10+(c.toNat-48)) r:=rfl;have hge:=E7p r (acc*10+(c.toNat-48));simp only[Lib.parseUint10,if_pos hc];by_cases h1:1844674407370955162<=acc
  ·rw[if_pos h1,if_neg (by rw[e];omega)]
  ·rw[if_neg h1];by_cases h2:18446744073709551616<=acc*10+(c.toNat-48)
   ·rw[if_pos h2,if_neg (by rw[e];omega)]
   ·rw[if_neg h2,C1i r _ (fun x hx=>hd x (by simp[hx])) (by omega),e]
def numS (l:List UInt8):Int×Int:=
 let neg:=l.head?==some 45
 let d:=if neg then l.tail else l
 if d.isEmpty || !(d.all A1j)||(d.head?==some 48&&l != [48])then(0,8)
 else if neg then(if decV 0 d<=9223372036854775808 then(-(decV 0 d:Int),0)else(0,2))
 else(if decV 0 d<9223372036854775808 then((decV 0 d:Int),0)else(0,2))
theorem E7q (l cs:List UInt8):(Lib.trimS l cs).isEmpty=l.all (cs.contains ·):=by
 have dw:∀(p:UInt8->Bool) (l:List UInt8),l.dropWhile p=[] ↔ ∀x∈l,p x=true:=by
  intro p l
  induction l with
  | nil=>simp
  | cons x r ih=>
   by_cases h:p x=true
   ·simp[List.dropWhile_cons,h,ih]
   ·simp[List.dropWhile_cons,h]
 have h1:Lib.trimS l cs=[] ↔ ∀x∈l,cs.contains x=true:=by
  unfold Lib.trimS Lib.trimLeftS Lib.trimRightS;rw[dw];constructor
  ·intro h x hx
   cases hc:cs.contains x with
   | true=>rfl
   | false=>
    exfalso
    have key:∀(m:List UInt8),x∈m->x∈m.dropWhile (cs.contains ·):=by
     intro m
     induction m with
     | nil=>intro h;cases h
     | cons y r ih=>
      intro hm;rw[List.dropWhile_cons];split
      ·rename_i hy;rcases List.mem_cons.1 hm with e | e
       ·subst e;rw[hc]at hy;cases hy
       ·exact ih e
      ·exact hm
    have:=h x (by simpa using key l.reverse (by simpa using hx));rw[hc]at this;cases this
  ·intro h x hx
   have:x∈l.reverse.dropWhile (cs.contains ·):=by simpa using hx
   exact h x (by simpa using (List.dropWhile_sublist _).mem this)
 cases hl:l.all (cs.contains ·)with
 | true=>rw[h1.2 (fun x hx=>List.all_eq_true.1 hl x hx)];rfl
 | false=>
  cases ht:Lib.trimS l cs with
  | nil=>
   rw[List.all_eq_true.2 (h1.1 ht)]at hl;cases hl
  | cons a r=>rfl
def digs:List UInt8:=[48,49,50,51,52,53,54,55,56,57]
theorem E3g (c:UInt8):digs.contains c=A1j c:=by
 have:∀n:Fin 256,digs.contains (UInt8.ofNat n.val)=A1j (UInt8.ofNat n.val):=by decide +kernel
 have:=this ⟨c.toNat,c.toNat_lt⟩;simpa using this
theorem stl (s:ByteArray):s.toList=s.data.toList:=ByteArray.toList_eq s
theorem C1j (l:List UInt8):(⟨l.toArray⟩:ByteArray).toList=l:=by rw[stl]
theorem B4k (l:List UInt8):(l==[])=l.isEmpty:=by cases l<;>rfl
theorem trimP (l:List UInt8):Lib.trimPrefix l [45]=if l.head?==some 45 then l.tail else l:=by
 cases l with
 | nil=>rfl
 | cons c r=>
  by_cases h:c=45
  ·subst h;simp[Lib.trimPrefix,Lib.hasPrefix,List.isPrefixOf]
  ·have:¬(45:UInt8)=c:=fun e=>h e.symm;simp[Lib.trimPrefix,Lib.hasPrefix,List.isPrefixOf,h,this]
theorem F3a (d:List UInt8) (h0:d≠[]) (hd:∀c∈d,A1j c=true):Lib.atoiAll (45::d)=if decV 0 d<=9223372036854775808 then .ok (-(decV 0 d:Int))else .range:=by
 rw[Lib.atoiAll_minus,Lib.parseMag,if_neg h0,C1i d 0 hd (by omega)];by_cases h1:decV 0 d<18446744073709551616
 ·rw[if_pos h1];unfold Lib.signed;by_cases h2:decV 0 d<=9223372036854775808
  ·simp only[if_pos h2,if_neg (by omega:¬9223372036854775808<decV 0 d)]
  ·simp only[if_neg h2,if_pos (by omega:9223372036854775808<decV 0 d)]
 ·rw[if_neg h1,if_neg (by omega)];rfl
theorem F3b (c:UInt8) (r:List UInt8) (hd:∀x∈c::r,A1j x=true):Lib.atoiAll (c::r)=if decV 0 (c::r)<9223372036854775808 then .ok (decV 0 (c::r):Int)else .range:=by
 have hc:=hd c (by simp);simp only[A1j,Bool.and_eq_true,decide_eq_true_eq]at hc;rw[Lib.atoiAll_plain c r (by omega) (by omega),Lib.parseMag,if_neg (by simp),C1i _ 0 hd (by omega)];by_cases h1:decV 0 (c::r)<18446744073709551616
 ·rw[if_pos h1];unfold Lib.signless;by_cases h2:decV 0 (c::r)<9223372036854775808
  ·simp only[if_pos h2,if_neg (by omega:¬9223372036854775808<=decV 0 (c::r))]
  ·simp only[if_neg h2,if_pos (by omega:9223372036854775808<=decV 0 (c::r))]
 ·rw[if_neg h1,if_neg (by omega)];rfl
@[simp] theorem neq_nil {Φ:A0u} {H:Heap} {nx:Nat} (isB:Bool):A0i Φ H nx (.bin isB .neq (some .ifc)) [.t (.v .nilIface),.t (.v .nilIface)]=some (.t (.v (.bool false)),H,nx):=rfl
@[simp] theorem neq_err {Φ:A0u} {H:Heap} {nx:Nat} (isB:Bool) (t:Nat) (x:T):A0i Φ H nx (.bin isB .neq (some .ifc)) [.t (.ic t x),.t (.v .nilIface)]=some (.t (.v (.bool true)),H,nx):=rfl
noncomputable def C7o:Tbl:=[(124,B0b),(125,F2u),(126,E7g)]
theorem G0l:Ctx Tryz.prog (G q) (orc C7o):=(A0s.cons D5e (.cons hTrim (.cons hAtoi .nil))).ctx mixed
abbrev numT (l:List UInt8):T:=.tu [iv (numS l).1,iv (numS l).2]
theorem D5f (s:ByteArray) (hs:s.size<=281474976710656):A1d Tryz.prog (G q) 91 [sv s] (· = numT s.data.toList):=by
 refine C7i.runs G0l rfl ?_
 obtain⟨l,hl⟩:∃l,l=s.data.toList:=⟨_,rfl⟩
 have hlen:l.length=s.size:=by rw[hl];rfl
 obtain⟨d,hd⟩:∃d,d=Lib.trimPrefix l [45]:=⟨_,rfl⟩
 have hd2:=hd;rw[trimP]at hd2
 have dl:d.length<=l.length:=by
  rw[hd2];split
  ·simp
  ·exact Nat.le_refl _
 have q1:B0b [.v (.string s),.v (.string ⟨#[45]⟩)]=some (sv (bs d)):=by
  rw[B0b,C6w (τ:=tStr) (σ:=tStr) (x:=s) (y:=⟨#[45]⟩) rfl rfl,hd,hl]
 have q2:F2u [.v (.string (bs d)),.v (.string ⟨#[48,49,50,51,52,53,54,55,56,57]⟩)]=some (sv (bs (Lib.trimS d digs))):=by
  rw[F2u,C6w (τ:=tStr) (σ:=tStr) (x:=bs d) (y:=⟨#[48,49,50,51,52,53,54,55,56,57]⟩) rfl rfl,if_pos ⟨by show d.toArray.size<=_;simp;omega,by decide,by decide⟩];rfl
 have tn:=E7q d digs;rw[show(fun x=>digs.contains x)=A1j from funext E3g]at tn;rw[<-hl]
 have hnum:numS l=if d.isEmpty || !(d.all A1j)||(d.head?==some 48&&l != [48])then(0,8)else if l.head?==some 45 then(if decV 0 d<=9223372036854775808 then(-(decV 0 d:Int),0)else(0,2))else(if decV 0 d<9223372036854775808 then((decV 0 d:Int),0)else(0,2)):=by
  rw[hd2];rfl
 cases hde:d.isEmpty with
 | true=>
  rw[hde]at hnum
  (conv in A2i=>cbv);simp -implicitDefEqProofs [C7o,q1,C1j,B4k,hde,numT,hnum]
 | false=>
 cases hda:d.all A1j with
 | false=>
  rw[hde,hda]at hnum;rw[hda]at tn
  (conv in A2i=>cbv);simp -implicitDefEqProofs [C7o,q1,C1j,B4k,hde,q2,tn,numT,hnum]
 | true=>
 rw[hde,hda]at hnum;rw[hda]at tn
 obtain⟨c,r,hcr⟩:∃c r,d=c::r:=by
  cases d with
  | nil=>cases hde
  | cons c r=>exact⟨c,r,rfl⟩
 have hall:∀x∈d,A1j x=true:=List.all_eq_true.1 hda;have ix:=B5o (bs d) 0 c (by rw[hcr];rfl);simp only[Int.natCast_zero]at ix
 have hh:d.head?=some c:=by rw[hcr];rfl
 have s0:(s.toList==[48])=(l==[48]):=by rw[stl,hl]
 have e48:((c.toNat:Int)==48)=(c==48):=by
  by_cases h:c=48
  ·subst h;rfl
  ·have:¬c.toNat=48:=fun e=>h (UInt8.toNat_inj.1 e);rw[beq_eq_false_iff_ne.2 h,beq_eq_false_iff_ne];omega
 have bad:(c==48&&l != [48])=true->numS l=(0,8):=by
  intro h;rw[hnum,hh];simp only[Option.some_beq_some,h,Bool.or_true,if_true]
 have good:(c==48&&l != [48])=false->numS l=if l.head?==some 45 then(if decV 0 d<=9223372036854775808 then(-(decV 0 d:Int),0)else(0,2))else(if decV 0 d<9223372036854775808 then((decV 0 d:Int),0)else(0,2)):=by
  intro h;rw[hnum,hh];simp only[Option.some_beq_some,h,Bool.not_true,Bool.or_false,Bool.false_eq_true,if_false]
 have atoi:(c==48&&l != [48])=false->(∃v,numS l=(v,0)/\E7g [.v (.string s)]=some (.tu [iv v,.v .nilIface]))\/(numS l=(0,2)/\∃v,E7g [.v (.string s)]=some (.tu [iv v,.ic 196 (.pt [])])):=by
  intro h;have g:=good h;have ga:E7g [.v (.string s)]=_:=E2q (τ:=tStr) (x:=s) rfl;rw[if_pos hs,<-hl]at ga
  cases hneg:(l.head?==some 45)with
  | true=>
   rw[hneg]at g hd2;simp only[if_true]at g hd2
   have el:l=45::d:=by
    cases l with
    | nil=>simp at hneg
    | cons x t=>simp at hneg;subst hneg;rw[hd2];rfl
   have at':=F3a d (by rw[hcr];simp) hall;rw[<-el]at at';by_cases h2:decV 0 d<=9223372036854775808
   ·rw[if_pos h2]at g at';left;refine⟨_,g,?_⟩;rw[ga,at']
   ·rw[if_neg h2]at g at';right;refine⟨g,Lib.atoiSat l,?_⟩;rw[ga,at']
  | false=>
   rw[hneg]at g hd2;simp only[Bool.false_eq_true,if_false]at g hd2;have at':=F3b c r (by rw[<-hcr];exact hall);rw[<-hcr]at at';rw[<-hd2]at ga;by_cases h2:decV 0 d<9223372036854775808
   ·rw[if_pos h2]at g at';left;refine⟨_,g,?_⟩;rw[ga,at']
   ·rw[if_neg h2]at g at';right;refine⟨g,Lib.atoiSat d,?_⟩;rw[ga,at']
 have fin:(c==48&&l != [48])=false->A3z (orc C7o) A2i (startM 33 [sv s]) (E6k [.tmp 2,.tmp 3] (· = numT l)):=by
  intro h;rcases atoi h with⟨v,h1,h2⟩ | ⟨h1,v,h2⟩
  ·cases h48:(c==48)with
   | true=>
    rw[h48]at h
    have h3:(l==[48])=true:=by simpa using h
    (conv in A2i=>cbv);simp -implicitDefEqProofs [C7o,q1,C1j,B4k,hde,q2,tn,ix,e48,h48,s0,h3,h2,extractV,numT,h1]
   | false=>(conv in A2i=>cbv);simp -implicitDefEqProofs [C7o,q1,C1j,B4k,hde,q2,tn,ix,e48,h48,h2,extractV,numT,h1]
  ·cases h48:(c==48)with
   | true=>
    rw[h48]at h
    have h3:(l==[48])=true:=by simpa using h
    (conv in A2i=>cbv);simp -implicitDefEqProofs [C7o,q1,C1j,B4k,hde,q2,tn,ix,e48,h48,s0,h3,h2,extractV,numT,h1]
   | false=>(conv in A2i=>cbv);simp -implicitDefEqProofs [C7o,q1,C1j,B4k,hde,q2,tn,ix,e48,h48,h2,extractV,numT,h1]
 cases hb:(c==48&&l != [48])with
 | false=>exact fin hb
 | true=>
  have h48:(c==48)=true:=by simp only[Bool.and_eq_true]at hb;exact hb.1
  have h3:(l==[48])=false:=by simp only[Bool.and_eq_true]at hb;simpa using hb.2
  (conv in A2i=>cbv);simp -implicitDefEqProofs [C7o,q1,C1j,B4k,hde,q2,tn,ix,e48,h48,s0,h3,numT,bad hb]
def dOf (l:List UInt8):List UInt8:=if l.head?==some 45 then l.tail else l
theorem C1k (l:List UInt8):numS l=if(dOf l).isEmpty || !((dOf l).all A1j)||((dOf l).head?==some 48&&l != [48])then(0,8)else if l.head?==some 45 then(if decV 0 (dOf l)<=9223372036854775808 then(-(decV 0 (dOf l):Int),0)else(0,2))else(if decV 0 (dOf l)<9223372036854775808 then((decV 0 (dOf l):Int),0)else(0,2)):=rfl
noncomputable def G0m:Tbl:=[(82,F2v)]
theorem G0n:Ctx Tryz.prog (G q) (orc G0m):=(A0s.cons hItoa .nil).ctx mixed
theorem D1g (n:Int) (h:-9223372036854775808<=n/\n<=9223372036854775807):A1d Tryz.prog (G q) 53 [iv n] (· = sv (bs (Lib.itoa n))):=by
 refine C3r.runs G0n rfl ?_
 have e:F2v [iv n]=some (sv (bs (Lib.itoa n))):=by rw[F2v,E2q (τ:=tInt) (x:=n) rfl,if_pos h]
 (conv in B3q=>cbv);simp -implicitDefEqProofs [G0m,e]
theorem D8r {c:UInt8} (h:A1j c=true):c≠45:=by
 intro e;subst e;revert h;decide
end Go.Proofs.YtmgjopafgboljaaGreatDoor
namespace Go.Abs
open Go
section
variable {P : Program} {G : A1c}
theorem A0d {B nx n:Nat} {env env':List (Nat×PV)} {H:Heap} (he:∀q∈env',Abs.look env q.1=some q.2):Sub P G B ⟨env,H,nx,n⟩ ⟨env',H,nx,n⟩:=by
 intro L a w hi;refine⟨L,⟨hi.heap,hi.nx,hi.base,hi.size,hi.defers,fun k p h=>hi.env k p (he _ (A1p h))⟩,?_,fun _ _=>rfl⟩;exact⟨Nat.le_refl _,fun _ _ _=>rfl,fun _ h=>h,fun _ h=>.inl h,fun g ⟨b,r,h,e⟩=>.inr ⟨b,r,h,e⟩,A1y.refl w,A3v.refl w⟩
end
theorem E7r:∀p:PV,ren (fun x=>x) p=p:=by
 intro p
 exact PV.rec (motive_1:=fun p=>ren (fun x=>x) p=p) (motive_2:=fun ps=>renL (fun x=>x) ps=ps) (fun x=>rfl) (fun b o n z=>rfl) (fun b o=>rfl) (fun cs ih=>by simp only[ren,ih]) (fun cs ih=>by simp only[ren,ih])
  (fun f a c ih1 ih2=>by simp only[ren,ih1,ih2]) (fun t x ih=>by simp only[ren,ih]) (fun b=>rfl) rfl rfl (fun p ps h1 h2=>by simp only[renL,h1,h2]) p
theorem E7s:∀ps:List PV,renL (fun x=>x) ps=ps
 | []=>rfl
 | p::ps=>by simp only[renL,E7r p,E7s ps]
theorem E7t (r:Row):B3m (fun x=>x) r=r:=by
 cases r with
 | cells ty cs=>simp only[B3m,E7s]
 | iter t pos=>rfl
 | map kk es=>rfl
 | lp l x k p=>simp only[B3m,E7r]
 | blk l o=>rfl
theorem sub_R {P:Program} {G:A1c} {B nx nx' n:Nat} {env env':List (Nat×PV)} {H R:Heap} (hB:B<=nx') (hR:∀q∈R,Abs.look H q.1=some q.2/\q.1<nx'/\A8c nx' q.2=true)
  (he:∀q∈env',Abs.look env q.1=some q.2/\under nx' q.2=true):Sub P G B ⟨env,H,nx,n⟩ ⟨env',R,nx',n⟩:=by
 refine C0q (fun x=>x) rfl hB (fun _ _=>rfl) (fun q hq=>?_) (fun q hq=>?_) (fun q _ q' _ e=>e)
 ·rw[E7r];exact he q hq
 ·rw[E7t];exact hR q hq
theorem D8s (a b:ByteArray):(!(Op.bytesLess a.toList b.toList||a.toList==b.toList))=A6d b a:=by
 rw[F2i,A2g];by_cases e:a=b
 ·subst e;simp[B4f]
 ·rw[decide_eq_false e,Bool.or_false]
  cases h:A6d a b with
  | true=>rw[E2s h];rfl
  | false=>rw[C4w h e];rfl
@[simp] theorem evalK_sgtr {Φ:A0u} {H:Heap} {nx:Nat} (isB:Bool) (nk:Option NK) (a b:ByteArray):A0i Φ H nx (.bin isB .gtr nk) [.t (.v (.string a)),.t (.v (.string b))]=some (.t (.v (.bool (A6d b a))),H,nx):=by
 rw[<-D8s];rfl
@[simp] theorem evalK_sgeq {Φ:A0u} {H:Heap} {nx:Nat} (isB:Bool) (nk:Option NK) (a b:ByteArray):A0i Φ H nx (.bin isB .geq nk) [.t (.v (.string a)),.t (.v (.string b))]=some (.t (.v (.bool (!A6d a b))),H,nx):=rfl
@[simp] theorem evalK_sleq {Φ:A0u} {H:Heap} {nx:Nat} (isB:Bool) (nk:Option NK) (a b:ByteArray):A0i Φ H nx (.bin isB .leq nk) [.t (.v (.string a)),.t (.v (.string b))]=some (.t (.v (.bool (!A6d b a))),H,nx):=by
 rw[<-D8s,Bool.not_not];rfl
section
variable {α : Type} {e : Enc α} {ty b : Nat} {H : Heap} {l : List α}
theorem B2l {by' nx:Nat} {m:List α} {src:PV} (h:Abs.look H b=some (A0l e ty l)) (hs:srcP H e.z src=some (m.length,(m.flatMap e.enc).map .t))
  (hb:(l.length+m.length)*by'<=140737488355328) (hb2:l.length+m.length<=9223372036854775807) :
  appM ty e.z by' H nx (.row b 0 l.length e.z) src=some (.row nx 0 (l++m).length e.z,(nx,A0l e ty (l++m))::rem H b,nx+1):=by
 have hl:((l.flatMap e.enc).map PV.t).length=l.length*e.z:=by rw[List.length_map,A2p]
 simp only[appM,hs,h,A0l,hl,true_and,if_pos (And.intro hb hb2)];simp
theorem D8t {by' nx:Nat} (x:α) (z:Nat) (hz:e.z=z) (cs:List PV) (hcs:cs=(e.enc x).map .t) (n m k:Nat) (hn:n=l.length) (hm:m=nx+1) (hk:k=nx+2) (h:Abs.look H b=some (A0l e ty l)) (hb:b<nx)
  (hl:(l.length+1)*by'<=140737488355328) (hl2:l.length<=1000000000000) :
  appM ty z by' ((nx,.cells ty cs)::H) m (.row b 0 n z) (.row nx 0 1 z)=some (.row m 0 (n+1) z,(m,A0l e ty (l++[x]))::rem ((nx,.cells ty cs)::H) b,k):=by
 subst hm;subst hk;subst hn;subst hz;subst hcs;have:=B2l (e:=e) (ty:=ty) (b:=b) (l:=l) (nx:=nx+1) (by':=by') (m:=[x]) (H:=(nx,.cells ty ((e.enc x).map .t))::H) (by rw[look_cons,if_neg (by omega)];exact h) (E6m (e:=e) x (by rw[look_cons,if_pos rfl])) (by simpa using hl) (by simp;omega);rw[List.length_append]at this;exact this
theorem B2m {i:Nat} {x:α} (hx:l[i]?=some x):A2e e.z (.row b 0 l.length e.z) (.t (iv (i:Int)))=some (.ptr b (i*e.z)):=by
 have:rowP e b l = .row b 0 l.length e.z:=by
  cases l with
  | nil=>simp at hx
  | cons y r=>rfl
 rw[<-this];exact B6t hx .i64
theorem A2s (h:Abs.look H b=some (A0l e ty l)):toT H (.row b 0 l.length e.z)=some (slT e l,[b]):=by
 have hl:((l.flatMap e.enc).map PV.t).length=l.length*e.z:=by rw[List.length_map,A2p]
 rw[toT,h,A0l];simp only[hl,Nat.zero_add,Nat.le_refl,if_true,List.drop_zero];rw[<-hl,List.take_length,allT_map_t];rfl
theorem A8f (o n z:Nat):A6t (.row b o n z)=some (.t (iv (n:Int))):=rfl
theorem F3c {P:Program} {G:A1c} {B k nx nx' n:Nat} {env env':List (Nat×PV)} {R:Heap} (h:Abs.look H k=some (A0l e ty l)) (hb:b<nx') (hB:B<=b)
  (hR:∀q∈R,Abs.look H q.1=some (B3m (fun x=>if x=b then k else x) q.2)/\q.1<nx'/\q.1≠b/\q.1≠k/\A8c nx' q.2=true)
  (he:∀q∈env',Abs.look env q.1=some (ren (fun x=>if x=b then k else x) q.2)/\under nx' q.2=true) :
  Sub P G B ⟨env,H,nx,n⟩ ⟨env',R++[(b,A0l e ty l)],nx',n⟩:=by
 refine C0q (fun x=>if x=b then k else x) rfl (by show B<=nx';omega) (fun x hx=>by show(if x=b then k else x)=x;rw[if_neg (by omega)]) he (fun q hq=>?_) (fun q hq q' hq' eqn=>?_)
 ·rcases List.mem_append.1 hq with hq | hq
  ·obtain⟨h1,h2,h3,h4,h5⟩:=hR q hq;refine⟨?_,h2,h5⟩;show Abs.look H (if q.1=b then k else q.1)=_;rw[if_neg h3];exact h1
  ·simp only[List.mem_singleton]at hq;subst hq;simp only[if_true,B1e,A8n];exact⟨h,hb,trivial⟩
 ·have key:∀q∈R++[(b,A0l e ty l)],q.1=b\/(q.1≠b/\q.1≠k):=by
   intro q hq;rcases List.mem_append.1 hq with hq | hq
   ·obtain⟨h1,h2,h3,h4,h5⟩:=hR q hq;exact .inr ⟨h3,h4⟩
   ·simp only[List.mem_singleton]at hq;subst hq;exact .inl rfl
  have e:(if q.1=b then k else q.1)=(if q'.1=b then k else q'.1):=eqn;rcases key q hq with h1 | ⟨h1,h2⟩<;>rcases key q' hq' with h1' | ⟨h1',h2'⟩
  ·rw[h1,h1']
  ·rw[if_pos h1,if_neg h1']at e;exact absurd e.symm h2'
  ·rw[if_neg h1,if_pos h1']at e;exact absurd e h2
  ·rw[if_neg h1,if_neg h1']at e;exact e
end
abbrev A5s:=List PanicEntry
inductive Out where
 | ret (r:PV) (H:Heap) (nx:Nat)
 | pan (ch:A5s)
abbrev Pans:=FuncId->List PV->Heap->Nat->Option A5s
def C1l:List PV->Option A5s
 | [.t (.ic t (.v x))]=>some [{ v:=.iface t x,recovered:=false }]
 | [.t (.ic t (.ag [.v x]))]=>some [{ v:=.iface t (.agg #[x]),recovered:=false }]
 | _=>none
def panK (E:Pans) (H:Heap) (nx:Nat) (k:MK) (ps:List PV):Option A5s:=
 match k with
 | .hcall f=>E f ps H nx
 | .hx .pan=>C1l ps
 | _=>none
def D5g (x:Option A5s) (X:A5s->Prop) (C:Prop):Prop:=
 match x with
 | some ch=>X ch
 | none=>C
@[simp] theorem onPan_some (ch:A5s) (X:A5s->Prop) (C:Prop):D5g (some ch) X C=X ch:=rfl
@[simp] theorem onPan_none (X:A5s->Prop) (C:Prop):D5g none X C=C:=rfl
def A3l (Φ:A0u) (E:Pans):List Mini->A0c->(A0c->Prop)->(A5s->Prop)->Prop
 | [],s,K,_=>K s
 | m::r,s,K,X=>C0r (m.wants s.env)
   (D5g (panK E s.H s.nx m.k (m.xs.map (·.ev s.env))) X (A1s (A0i Φ s.H s.nx m.k (m.xs.map (·.ev s.env))) fun q=>A3l Φ E r (s.set m.dst q) K X))
   (A3l Φ E r (s.set m.dst (.t (.v undef),s.H,s.nx)) K X)
def anyP (Q:Exit->A0c->Prop) (ch:A5s):Prop:=∀s,Q (.panic ch) s
def A6f (Φ:A0u) (E:Pans):A0p->A0c->(Exit->A0c->Prop)->Prop
 | .skip,s,Q=>Q .normal s
 | .ops l,s,Q=>A3l Φ E l s (Q .normal) (anyP Q)
 | .draw l,s,Q=>A5e Φ l s (Q .normal)
 | .drawG k l,s,Q=>A7o Φ k 0 0 [] l s (Q .normal)
 | .A9x l,s,Q=>A7o Φ 0 0 0 [] l s (Q .normal)
 | .seq a b,s,Q=>A6f Φ E a s (A5y (fun s1=>A6f Φ E b s1 Q) Q)
 | .cond c a b,s,Q=>D0m (c.ev s.env) (A6f Φ E a s Q) (A6f Φ E b s Q)
 | .block id b,s,Q=>A6f Φ E b s (A5n id Q)
 | .loop _,_,_=>False
 | .exit id,s,Q=>Q (.exit id) s
 | .ret,s,Q=>Q .ret s
 | .scope b,s,Q=>A6f Φ E b s (B5c Q)
section
variable {P : Program} {G : A1c} {B N : Nat} {Φ : A0u} {E : Pans} {Q : Exit -> A0c -> Prop} {s : A0c}
def EndsO (P:Program) (G:A1c) (B:Nat) (vs:List RV) (o:Out) (e:Exit) (s:A0c):Prop:=
 match o with
 | .ret r H nx=>D4t P G B vs (fun r0 H0 nx0=>r0=r/\H0=H/\nx0=nx) e s
 | .pan ch=>e = .panic ch
end
section
variable {P : Program} {G : A1c} {B N : Nat} {Φ : A0u} {E : Pans} {Q : Exit -> A0c -> Prop} {s : A0c}
def panM (E:Pans) (s:A0c) (m:Mini):Option A5s:=
 match m.k with
 | .hcall f=>match m.wants s.env with
  | some true=>E f (m.xs.map (·.ev s.env)) s.H s.nx
  | _=>none
 | _=>none
def B1k (Φ:A0u) (E:Pans):Nat->Pend->List GI->A0c->(A0c->Prop)->(A5s->Prop)->Prop
 | _,_,[],s,K,_=>K s
 | n,pd,.o m kp ag::r,s,K,X=>D5g (panM E s m) X (A1s (valD Φ s m) fun q=>B0k Φ pd q.2.1 q.2.2 ag (B1k Φ E (n+1) (B9a kp n m s q.1 pd) r (s.set m.dst q) K X))
 | _,_,.g _ _::_,_,_,_=>False
abbrev ETbl:=List (Nat×(List PV->Heap->Nat->Option A5s))
def orE (tbl:ETbl):Pans:=fun f ps H nx=>match look tbl f with
 | some g=>g ps H nx
 | none=>none
@[simp] theorem orE_cons (k f:Nat) (g:List PV->Heap->Nat->Option A5s) (r:ETbl) (ps:List PV) (H:Heap) (nx:Nat):orE ((k,g)::r) f ps H nx=if k=f then g ps H nx else orE r f ps H nx:=by
 unfold orE;rw[look_cons];by_cases h:k=f
 ·rw[if_pos h,if_pos h]
 ·rw[if_neg h,if_neg h]
@[simp] theorem orE_nil (f:Nat) (ps:List PV) (H:Heap) (nx:Nat):orE [] f ps H nx=none:=rfl
end
section
variable {P : Program} {G : A1c} {B : Nat} {Φ : A0u} {E : Pans} {env : List (Nat × PV)} {H : Heap} {nx n : Nat} {K : A0c -> Prop} {X : A5s -> Prop} {Q : Exit -> A0c -> Prop} {d : Option Nat} {k : MK} {xs : List Opd} {r : List Mini}
@[simp] theorem panK_hcall (f:Nat) (ps:List PV):panK E H nx (.hcall f) ps=E f ps H nx:=rfl
@[simp] theorem panK_pan (ps:List PV):panK E H nx (.hx .pan) ps=C1l ps:=rfl
@[simp] theorem chainOf_v (t:Nat) (x:Value):C1l [.t (.ic t (.v x))]=some [{ v:=.iface t x,recovered:=false }]:=rfl
@[simp] theorem chainOf_a (t:Nat) (x:Value):C1l [.t (.ic t (.ag [.v x]))]=some [{ v:=.iface t (.agg #[x]),recovered:=false }]:=rfl
@[simp] theorem exM_mki_t (t:Nat) (x:T):exM (.mki t) [.t x]=some (.t (.ic t x)):=rfl
def A3t:MK->Bool
 | .hcall _=>false
 | .hx .pan=>false
 | _=>true
@[simp] theorem calmK_mv:A3t (.mv)=true:=rfl
@[simp] theorem calmK_pick:A3t (.pick)=true:=rfl
@[simp] theorem calmK_bin (isB:Bool) (op:BinOp) (nk:Option NK):A3t (.bin isB op nk)=true:=rfl
@[simp] theorem calmK_un (op:UnOp):A3t (.un op)=true:=rfl
@[simp] theorem calmK_conv (k:Option IntKind):A3t (.conv k)=true:=rfl
@[simp] theorem calmK_load (agg:Bool) (n:Nat):A3t (.load agg n)=true:=rfl
@[simp] theorem calmK_faddr (off:Nat):A3t (.faddr off)=true:=rfl
@[simp] theorem calmK_field (off:Nat) (agg:Bool) (n:Nat):A3t (.field off agg n)=true:=rfl
@[simp] theorem calmK_iaddr (z:Nat):A3t (.iaddr z)=true:=rfl
@[simp] theorem calmK_aaddr (len:Nat) (z:Nat):A3t (.aaddr len z)=true:=rfl
@[simp] theorem calmK_index:A3t (.index)=true:=rfl
@[simp] theorem calmK_slstr (lo:Bool) (hi:Bool):A3t (.slstr lo hi)=true:=rfl
@[simp] theorem calmK_slice (z:Nat) (lo:Bool) (hi:Bool):A3t (.slice z lo hi)=true:=rfl
@[simp] theorem calmK_ext (i:Nat):A3t (.ext i)=true:=rfl
@[simp] theorem calmK_chk:A3t (.chk)=true:=rfl
@[simp] theorem calmK_lenstr:A3t (.lenstr)=true:=rfl
@[simp] theorem calmK_lensl:A3t (.lensl)=true:=rfl
@[simp] theorem calmK_min:A3t (.min)=true:=rfl
@[simp] theorem calmK_max:A3t (.max)=true:=rfl
@[simp] theorem calmK_store (n:Nat):A3t (.store n)=true:=rfl
@[simp] theorem calmK_make (e:Nat) (n:Nat) (b:Nat) (zc:List Value):A3t (.make e n b zc)=true:=rfl
@[simp] theorem calmK_bslice (e:Nat) (n:Nat) (zc:List Value) (len:Nat) (idx:List Nat):A3t (.bslice e n zc len idx)=true:=rfl
@[simp] theorem calmK_build (pl:List (Nat×Nat)) (zc:List Value) (idx:List Nat):A3t (.build pl zc idx)=true:=rfl
@[simp] theorem calmK_barr (n:Nat) (zc:List Value) (idx:List Nat):A3t (.barr n zc idx)=true:=rfl
@[simp] theorem calmK_box (t:Nat):A3t (.box t)=true:=rfl
@[simp] theorem calmK_alloc (t:Nat) (zc:List Value):A3t (.alloc t zc)=true:=rfl
@[simp] theorem calmK_app (e:Nat) (n:Nat) (b:Nat):A3t (.app e n b)=true:=rfl
@[simp] theorem calmK_call (f:Nat):A3t (.call f)=true:=rfl
@[simp] theorem calmK_callv:A3t (.callv)=true:=rfl
@[simp] theorem calmK_tslice (e:Nat) (n:Nat) (zc:List Value) (len:Nat) (idx:List Nat):A3t (.tslice e n zc len idx)=true:=rfl
@[simp] theorem calmK_bad:A3t (.bad)=true:=rfl
@[simp] theorem calmK_ex (e:EK):A3t (.ex e)=true:=rfl
theorem D1h {ps:List PV} (h:A3t k=true):panK E H nx k ps=none:=by
 cases k
 case hx h2=>cases h2<;>first | (cases h;done) | rfl
 all_goals first | (cases h;done) | rfl
@[simp] theorem runsLE_nil {s:A0c}:A3l Φ E [] s K X=K s:=rfl
@[simp] theorem runsLE_calm (hk:A3t k=true):A3l Φ E (⟨d,k,xs,none⟩::r) ⟨env,H,nx,n⟩ K X=A1s (A0i Φ H nx k (xs.map (·.ev env))) fun q=>A3l Φ E r (A0c.set ⟨env,H,nx,n⟩ d q) K X:=by
 simp only[A3l,Mini.wants,onWants_true,D1h hk,onPan_none]
@[simp] theorem runsLE_hcall {f:Nat}:A3l Φ E (⟨d,.hcall f,xs,none⟩::r) ⟨env,H,nx,n⟩ K X=D5g (E f (xs.map (·.ev env)) H nx) X (A1s (A0i Φ H nx (.hcall f) (xs.map (·.ev env))) fun q=>A3l Φ E r (A0c.set ⟨env,H,nx,n⟩ d q) K X):=rfl
@[simp] theorem runsLE_pan:A3l Φ E (⟨d,.hx .pan,xs,none⟩::r) ⟨env,H,nx,n⟩ K X=D5g (C1l (xs.map (·.ev env))) X (A1s (A0i Φ H nx (.hx .pan) (xs.map (·.ev env))) fun q=>A3l Φ E r (A0c.set ⟨env,H,nx,n⟩ d q) K X):=rfl
@[simp] theorem runsLE_yes {g:Nat} {want:Bool} (h:look env g=some (.t (.v (.bool want)))) (hk:A3t k=true) :
  A3l Φ E (⟨d,k,xs,some (g,want)⟩::r) ⟨env,H,nx,n⟩ K X=A1s (A0i Φ H nx k (xs.map (·.ev env))) fun q=>A3l Φ E r (A0c.set ⟨env,H,nx,n⟩ d q) K X:=by
 simp only[A3l,Mini.wants,h,beq_self_eq_true,onWants_true,D1h hk,onPan_none]
theorem D1i {g:Nat} {want b:Bool} (h:look env g=some (.t (.v (.bool b)))) (hb:(b==want)=false) :
  A3l Φ E (⟨d,k,xs,some (g,want)⟩::r) ⟨env,H,nx,n⟩ K X=A3l Φ E r (A0c.set ⟨env,H,nx,n⟩ d (.t (.v undef),H,nx)) K X:=by
 simp only[A3l,Mini.wants,h,hb,onWants_false]
@[simp] theorem runsLE_no_t {g:Nat} (h:look env g=some (.t (.v (.bool false)))) :
  A3l Φ E (⟨d,k,xs,some (g,true)⟩::r) ⟨env,H,nx,n⟩ K X=A3l Φ E r (A0c.set ⟨env,H,nx,n⟩ d (.t (.v undef),H,nx)) K X:=D1i h rfl
@[simp] theorem runsLE_no_f {g:Nat} (h:look env g=some (.t (.v (.bool true)))) :
  A3l Φ E (⟨d,k,xs,some (g,false)⟩::r) ⟨env,H,nx,n⟩ K X=A3l Φ E r (A0c.set ⟨env,H,nx,n⟩ d (.t (.v undef),H,nx)) K X:=D1i h rfl
@[simp] theorem runsLE_no_u {g:Nat} {want:Bool} (h:look env g=some (.t (.v undef))) :
  A3l Φ E (⟨d,k,xs,some (g,want)⟩::r) ⟨env,H,nx,n⟩ K X=A3l Φ E r (A0c.set ⟨env,H,nx,n⟩ d (.t (.v undef),H,nx)) K X:=by
 simp only[A3l,Mini.wants,h,undef,onWants_false]
@[simp] theorem runsE_skip {s:A0c}:A6f Φ E .skip s Q=Q .normal s:=rfl
@[simp] theorem runsE_ops {l:List Mini}:A6f Φ E (.ops l) ⟨env,H,nx,n⟩ Q=A3l Φ E l ⟨env,H,nx,n⟩ (Q .normal) (anyP Q):=rfl
@[simp] theorem runsE_draw {l:List Mini}:A6f Φ E (.draw l) ⟨env,H,nx,n⟩ Q=A5e Φ l ⟨env,H,nx,n⟩ (Q .normal):=rfl
@[simp] theorem runsE_drawG {κ:Nat} {l:List GI}:A6f Φ E (.drawG κ l) ⟨env,H,nx,n⟩ Q=A7o Φ κ 0 0 [] l ⟨env,H,nx,n⟩ (Q .normal):=rfl
@[simp] theorem runsE_drawE {l:List GI}:A6f Φ E (.A9x l) ⟨env,H,nx,n⟩ Q=A7o Φ 0 0 0 [] l ⟨env,H,nx,n⟩ (Q .normal):=rfl
@[simp] theorem runsE_seq {a b:A0p}:A6f Φ E (.seq a b) ⟨env,H,nx,n⟩ Q=A6f Φ E a ⟨env,H,nx,n⟩ (A5y (fun s1=>A6f Φ E b s1 Q) Q):=rfl
@[simp] theorem runsE_true {c:Opd} {a b:A0p} (h:c.ev env = .t (.v (.bool true))):A6f Φ E (.cond c a b) ⟨env,H,nx,n⟩ Q=A6f Φ E a ⟨env,H,nx,n⟩ Q:=by simp only[A6f,h,onBool_true]
@[simp] theorem runsE_false {c:Opd} {a b:A0p} (h:c.ev env = .t (.v (.bool false))):A6f Φ E (.cond c a b) ⟨env,H,nx,n⟩ Q=A6f Φ E b ⟨env,H,nx,n⟩ Q:=by simp only[A6f,h,onBool_false]
@[simp] theorem runsE_block {i:Nat} {a:A0p}:A6f Φ E (.block i a) ⟨env,H,nx,n⟩ Q=A6f Φ E a ⟨env,H,nx,n⟩ (A5n i Q):=rfl
@[simp] theorem runsE_exit {i:Nat} {s:A0c}:A6f Φ E (.exit i) s Q=Q (.exit i) s:=rfl
@[simp] theorem runsE_scope {a:A0p}:A6f Φ E (.scope a) ⟨env,H,nx,n⟩ Q=A6f Φ E a ⟨env,H,nx,n⟩ (B5c Q):=rfl
@[simp] theorem runsE_ret {s:A0c}:A6f Φ E .ret s Q=Q .ret s:=rfl
@[simp] theorem anyP_normal (K:A0c->Prop) (ch:A5s):anyP (A5y K Q) ch=anyP Q ch:=rfl
@[simp] theorem anyP_block (i:Nat) (ch:A5s):anyP (A5n i Q) ch=anyP Q ch:=rfl
@[simp] theorem anyP_scope (ch:A5s):anyP (B5c Q) ch=anyP Q ch:=rfl
@[simp] theorem anyP_while {α:Type} (S:α->A0c) (Ok:α->Prop) (ch:A5s):anyP (B6s P G B S Ok Q) ch=anyP Q ch:=rfl
@[simp] theorem anyP_round (S:A0c) (ch:A5s):anyP (C0s P G B S Q) ch=anyP Q ch:=rfl
@[simp] theorem anyP_last (ch:A5s):anyP (B8g Q) ch=anyP Q ch:=rfl
@[simp] theorem anyP_ends (vs:List RV) (o:Out) (ch:A5s):anyP (EndsO P G B vs o) ch=(o = .pan ch):=by
 refine propext ⟨fun h=>?_,fun h s=>?_⟩
 ·have:=h ⟨[],[],0,0⟩
  cases o with
  | ret r H nx=>
   obtain⟨he,_⟩:=(show D4t P G B vs (fun r0 H0 nx0=>r0=r/\H0=H/\nx0=nx) (.panic ch) ⟨[],[],0,0⟩from this)
   rcases he with he | he<;>cases he
  | pan c=>
   have e:Exit.panic ch=Exit.panic c:=this;injection e with e;rw[e]
 ·subst h;exact rfl
end
def isHc:MK->Bool
 | .hcall _=>true
 | _=>false
@[simp] theorem isHc_mv:isHc .mv=false:=rfl
@[simp] theorem isHc_faddr (n:Nat):isHc (.faddr n)=false:=rfl
@[simp] theorem isHc_load (b:Bool) (n:Nat):isHc (.load b n)=false:=rfl
@[simp] theorem isHc_bin (b:Bool) (op:BinOp) (nk:Option NK):isHc (.bin b op nk)=false:=rfl
@[simp] theorem isHc_tslice (e n:Nat) (zc:List Value) (len:Nat) (idx:List Nat):isHc (.tslice e n zc len idx)=false:=rfl
@[simp] theorem isHc_app (e n b:Nat):isHc (.app e n b)=false:=rfl
@[simp] theorem isHc_store (n:Nat):isHc (.store n)=false:=rfl
section
variable {Φ : A0u} {E : Pans} {env : List (Nat × PV)} {H : Heap} {nx n j : Nat} {K : A0c -> Prop} {X : A5s -> Prop} {d : Option Nat} {k : MK} {xs : List Opd} {gr : List GI} {pd : Pend} {kp : Bool} {ag : List Nat}
@[simp] theorem runsGE_nil {s:A0c}:B1k Φ E j pd [] s K X=K s:=rfl
@[simp] theorem runsGE_quiet (hk:A0o k=true) (hc:isHc k=false):B1k Φ E j pd (.o ⟨d,k,xs,none⟩ kp ag::gr) ⟨env,H,nx,n⟩ K X =
  A1s (A1w Φ H nx k (xs.map (·.ev env))) fun v=>B0k Φ pd H nx ag (B1k Φ E (j+1) (B9a kp j ⟨d,k,xs,none⟩ ⟨env,H,nx,n⟩ v pd) gr (A0c.set ⟨env,H,nx,n⟩ d (v,H,nx)) K X):=by
 have hp:panM E ⟨env,H,nx,n⟩ ⟨d,k,xs,none⟩=none:=by
  unfold panM;split
  ·rename_i f e;simp only at e;subst e;cases hc
  ·rfl
 simp only[B1k,hp,onPan_none,valD,hk,if_true,valQ,Mini.wants,ifSome_map]
@[simp] theorem runsGE_heavy (hk:A0o k=false) (hc:isHc k=false):B1k Φ E j pd (.o ⟨d,k,xs,none⟩ kp ag::gr) ⟨env,H,nx,n⟩ K X =
  A1s (A0i Φ H nx k (xs.map (·.ev env))) fun q=>B0k Φ pd q.2.1 q.2.2 ag (B1k Φ E (j+1) (B9a kp j ⟨d,k,xs,none⟩ ⟨env,H,nx,n⟩ q.1 pd) gr (A0c.set ⟨env,H,nx,n⟩ d q) K X):=by
 have hp:panM E ⟨env,H,nx,n⟩ ⟨d,k,xs,none⟩=none:=by
  unfold panM;split
  ·rename_i f e;simp only at e;subst e;cases hc
  ·rfl
 simp only[B1k,hp,onPan_none,valD,hk,Bool.false_eq_true,if_false,Mini.wants]
@[simp] theorem runsGE_hcall {f:Nat}:B1k Φ E j pd (.o ⟨d,.hcall f,xs,none⟩ kp ag::gr) ⟨env,H,nx,n⟩ K X =
  D5g (E f (xs.map (·.ev env)) H nx) X (A1s (A0i Φ H nx (.hcall f) (xs.map (·.ev env))) fun q=>B0k Φ pd q.2.1 q.2.2 ag (B1k Φ E (j+1) (B9a kp j ⟨d,.hcall f,xs,none⟩ ⟨env,H,nx,n⟩ q.1 pd) gr (A0c.set ⟨env,H,nx,n⟩ d q) K X)):=by
 have hq:A0o (.hcall f)=false:=rfl;simp only[B1k,panM,valD,hq,Bool.false_eq_true,if_false,Mini.wants]
end
section
variable {P : Program} {G : A1c}
noncomputable def eOne (ps0:List PV) (H0:Heap) (nx0:Nat) (ch:A5s) (ps:List PV) (H:Heap) (nx:Nat):Option A5s:=
 open Classical in if ps = ps0 /\ H = H0 /\ nx = nx0 then some ch else none
noncomputable def hO (ps0:List PV) (H0:Heap) (nx0:Nat):Out->List PV->Heap->Nat->Option (PV×Heap×Nat)
 | .ret r H' nx'=>hOne ps0 H0 nx0 (r,H',nx')
 | .pan _=>fun _ _ _=>none
noncomputable def eO (ps0:List PV) (H0:Heap) (nx0:Nat):Out->List PV->Heap->Nat->Option A5s
 | .ret _ _ _=>fun _ _ _=>none
 | .pan ch=>eOne ps0 H0 nx0 ch
end
end Go.Abs
namespace Go.Proofs.YtmgjopafgboljaaGreatDoor
open Go Go.Abs
noncomputable def A8y:A0p:=cm Tryz.f33 57
theorem B6v {q:Gl}:FnOK Tryz.prog (G q) 33 1 57 A8y [(.tmp 2)]:=fk Tryz.func33 (by kernel_rfl) (by kernel_rfl)
noncomputable def B5p:A0p:=cm Tryz.f34 40
theorem C7p {q:Gl}:FnOK Tryz.prog (G q) 34 1 40 B5p [(.tmp 2)]:=fk Tryz.func34 (by kernel_rfl) (by kernel_rfl)
noncomputable def A8z:A0p:=cm Tryz.f32 41
theorem B6w {q:Gl}:FnOK Tryz.prog (G q) 32 1 41 A8z [(.tmp 2)]:=fk Tryz.func32 (by kernel_rfl) (by kernel_rfl)
noncomputable def C1m:A0p:=cm Tryz.f14 109
theorem D5h {q:Gl}:FnOK Tryz.prog (G q) 14 1 109 C1m [(.tmp 2)]:=fk Tryz.func14 (by kernel_rfl) (by kernel_rfl)
def B8n:A0p:=(jO [jM 1 (.box 26) [jT 0],jM 2 (.alloc 26 [(.int .i64 0),(.int .i64 0),(.slice none 0 0),(.slice none 0 0),(.slice none 0 0)]) []] (jO [jM 14 (.hx (.mnew (.int .i64))) [],jM 3 (.alloc 56 [(.map none)]) [],⟨none,.store 1,[jT 3,jT 14],none⟩] (jO [jM 4 (.alloc 26 [(.int .i64 0),(.int .i64 0),(.slice none 0 0),(.slice none 0 0),(.slice none 0 0)]) []] (jO [jM 15 (.ex (.mkf (.func 40) 0)) [jT 3,jT 4,jT 1],jV 5 15] (jO [jV 16 5,jM 17 (.faddr 0) [jT 1],jM 18 jL [jT 17],jM 19 .callv [jT 16,jT 18],jM 20 (.faddr 0) [jT 4],⟨none,.store 1,[jT 20,jT 19],none⟩] (jO [jV 21 5,jM 22 (.faddr 1) [jT 1],jM 23 jL [jT 22],jM 24 .callv [jT 21,jT 23],jM 25 (.faddr 1) [jT 4],⟨none,.store 1,[jT 25,jT 24],none⟩] (.seq (jO [jM 26 (.faddr 3) [jT 1],jM 27 jL [jT 26],jM 28 .lensl [jT 27],jM 29 .mv [jI 0]] (.block 0 (.loop (jO [jM 30 (jB .lss) [jT 29,jT 28]] (.seq (.cond (jT 30) .skip (.exit 0)) (.seq (.block 1 (jO [jM 31 (.iaddr 3) [jT 27,jT 29],jM 32 (.load true 3) [jT 31],jM 7 (.alloc 47 [(.string ⟨#[]⟩),(.int .i64 0),(.slice none 0 0)]) [],⟨none,.store 3,[jT 7,jT 32],none⟩] (.seq (.A9x [(.o ⟨some 33,.faddr 0,[jT 7],none⟩ false []),(.o ⟨some 34,.load false 1,[jT 33],none⟩ true []),(.o ⟨some 35,.mv,[jT 5],none⟩ false []),(.o ⟨some 36,.faddr 1,[jT 7],none⟩ false []),(.o ⟨some 37,.load false 1,[jT 36],none⟩ false []),(.o ⟨some 38,.callv,[jT 35,jT 37],none⟩ false [1]),(.o ⟨some 39,(.build [(0,1),(1,1),(2,1)] [(.string ⟨#[]⟩),(.int .i64 0),(.slice none 0 0)] [0,1]),[jT 34,jT 38],none⟩ false []),(.o ⟨some 8,(.alloc 47 [(.string ⟨#[]⟩),(.int .i64 0),(.slice none 0 0)]),[],none⟩ false []),(.o ⟨none,.store 3,[jT 8,jT 39],none⟩ false [])]) (.seq (jO [jM 40 (.faddr 2) [jT 7],jM 41 jL [jT 40],jM 42 .lensl [jT 41],jM 43 .mv [jI 0]] (.block 2 (.loop (jO [jM 44 (jB .lss) [jT 43,jT 42]] (.seq (.cond (jT 44) .skip (.exit 2)) (.seq (.block 3 (jO [jM 45 (.iaddr 2) [jT 41,jT 43],jM 46 (.load true 2) [jT 45],jM 10 (.alloc 50 [(.string ⟨#[]⟩),(.int .i64 0)]) [],⟨none,.store 2,[jT 10,jT 46],none⟩] (.drawG 0 [(.o ⟨some 47,.faddr 2,[jT 8],none⟩ false []),(.o ⟨some 48,.load false 1,[jT 47],none⟩ true []),(.o ⟨some 49,.faddr 0,[jT 10],none⟩ false []),(.o ⟨some 50,.load false 1,[jT 49],none⟩ true []),(.o ⟨some 51,.mv,[jT 5],none⟩ false []),(.o ⟨some 52,.faddr 1,[jT 10],none⟩ false []),(.o ⟨some 53,.load false 1,[jT 52],none⟩ false []),(.o ⟨some 54,.callv,[jT 51,jT 53],none⟩ false [1,3]),(.o ⟨some 55,(.build [(0,1),(1,1)] [(.string ⟨#[]⟩),(.int .i64 0)] [0,1]),[jT 50,jT 54],none⟩ false []),(.o ⟨some 56,(.tslice 50 2 [(.string ⟨#[]⟩),(.int .i64 0)] 1 [0]),[jT 55],none⟩ false []),(.o ⟨some 57,.app 50 2 24,[jT 48,jT 56],none⟩ false []),(.o ⟨some 58,.faddr 2,[jT 8],none⟩ false []),(.o ⟨none,.store 1,[jT 58,jT 57],none⟩ false [])]))) (.ops [jM 59 (jB .add) [jT 43,(jI 1)],jV 43 59]))))))) (.ops [jM 60 (.faddr 3) [jT 4],jM 61 jL [jT 60],jM 62 (.load true 3) [jT 8],jM 63 (.bslice 47 3 [(.string ⟨#[]⟩),(.int .i64 0),(.slice none 0 0)] 1 [0]) [jT 62],jM 64 (.app 47 3 48) [jT 61,jT 63],jM 65 (.faddr 3) [jT 4],⟨none,.store 1,[jT 65,jT 64],none⟩]))))) (.ops [jM 66 (jB .add) [jT 29,(jI 1)],jV 29 66]))))))) (.seq (jO [jM 67 (.faddr 4) [jT 1],jM 68 jL [jT 67],jM 69 .lensl [jT 68],jM 70 .mv [jI 0]] (.block 4 (.loop (jO [jM 71 (jB .lss) [jT 70,jT 69]] (.seq (.cond (jT 71) .skip (.exit 4)) (.seq (.block 5 (jO [jM 72 (.iaddr 2) [jT 68,jT 70],jM 73 (.load true 2) [jT 72],jM 12 (.alloc 52 [(.int .i64 0),(.int .i64 0)]) [],⟨none,.store 2,[jT 12,jT 73],none⟩] (jO [jV 74 5,jM 75 (.faddr 0) [jT 12],jM 76 jL [jT 75],jM 77 .callv [jT 74,jT 76],jV 13 77] (.drawG 0 [(.o ⟨some 78,.faddr 4,[jT 4],none⟩ false []),(.o ⟨some 79,.load false 1,[jT 78],none⟩ true []),(.o ⟨some 80,.mv,[jT 13],none⟩ false []),(.o ⟨some 81,.mv,[jT 5],none⟩ false []),(.o ⟨some 82,.faddr 1,[jT 12],none⟩ false []),(.o ⟨some 83,.load false 1,[jT 82],none⟩ false []),(.o ⟨some 84,.callv,[jT 81,jT 83],none⟩ false [1]),(.o ⟨some 85,(.build [(0,1),(1,1)] [(.int .i64 0),(.int .i64 0)] [0,1]),[jT 80,jT 84],none⟩ false []),(.o ⟨some 86,(.tslice 52 2 [(.int .i64 0),(.int .i64 0)] 1 [0]),[jT 85],none⟩ false []),(.o ⟨some 87,.app 52 2 16,[jT 79,jT 86],none⟩ false []),(.o ⟨some 88,.faddr 4,[jT 4],none⟩ false []),(.o ⟨none,.store 1,[jT 88,jT 87],none⟩ false [])])))) (.ops [jM 89 (jB .add) [jT 70,(jI 1)],jV 70 89]))))))) (jO [jM 90 (.load true 5) [jT 4],⟨none,.store 5,[jT 2,jT 90],none⟩] .ret)))))))))
theorem D1j {q:Gl}:FnOK Tryz.prog (G q) 18 1 91 B8n [(.cell 2 true 5)]:=⟨Tryz.f18,Tryz.func18,by kernel_rfl,by kernel_rfl,by kernel_rfl,by kernel_rfl⟩
noncomputable def A5z:A0p:=cm Tryz.f40 32
theorem C3s {q:Gl}:FnOK Tryz.prog (G q) 40 1 32 A5z [(.tmp 5)]:=fk Tryz.func40 (by kernel_rfl) (by kernel_rfl)
noncomputable def C1n:A0p:=cm Tryz.f21 23
theorem D5i {q:Gl}:FnOK Tryz.prog (G q) 21 1 23 C1n [(.tmp 2)]:=fk Tryz.func21 (by kernel_rfl) (by kernel_rfl)
noncomputable def C1o:A0p:=cm Tryz.f26 97
theorem D5j {q:Gl}:FnOK Tryz.prog (G q) 26 1 97 C1o [(.tmp 2)]:=fk Tryz.func26 (by kernel_rfl) (by kernel_rfl)
noncomputable def B0c:A0p:=cm Tryz.f52 12
theorem C7q {q:Gl}:FnOK Tryz.prog (G q) 52 1 12 B0c [(.tmp 3)]:=fk Tryz.func52 (by kernel_rfl) (by kernel_rfl)
noncomputable def B3r:A0p:=cm Tryz.f44 99
theorem C3t {q:Gl}:FnOK Tryz.prog (G q) 44 1 99 B3r [(.tmp 2)]:=fk Tryz.func44 (by kernel_rfl) (by kernel_rfl)
noncomputable def A4n:A0p:=cm Tryz.f72 15
theorem B9b {q:Gl}:FnOK Tryz.prog (G q) 72 2 15 A4n []:=fk Tryz.func72 (by kernel_rfl) (by kernel_rfl)
noncomputable def B1l:A0p:=cm Tryz.f73 39
theorem C1p {q:Gl}:FnOK Tryz.prog (G q) 73 2 39 B1l [(.tmp 4)]:=fk Tryz.func73 (by kernel_rfl) (by kernel_rfl)
noncomputable def C1q:A0p:=cm Tryz.f74 53
theorem D5k {q:Gl}:FnOK Tryz.prog (G q) 74 2 53 C1q [(.tmp 4)]:=fk Tryz.func74 (by kernel_rfl) (by kernel_rfl)
noncomputable def A8g:A0p:=cm Tryz.f76 91
theorem B5q {q:Gl}:FnOK Tryz.prog (G q) 76 4 91 A8g [(.tmp 8),(.tmp 9)]:=fk Tryz.func76 (by kernel_rfl) (by kernel_rfl)
noncomputable def A6g:A0p:=cm Tryz.f79 31
theorem B1m {q:Gl}:FnOK Tryz.prog (G q) 79 2 31 A6g []:=fk Tryz.func79 (by kernel_rfl) (by kernel_rfl)
noncomputable def A6h:A0p:=cm Tryz.f48 33
theorem B1n {q:Gl}:FnOK Tryz.prog (G q) 48 2 33 A6h [(.tmp 4),(.tmp 5)]:=fk Tryz.func48 (by kernel_rfl) (by kernel_rfl)
noncomputable def A5g:A0p:=cm Tryz.f49 93
theorem A8h {q:Gl}:FnOK Tryz.prog (G q) 49 2 93 A5g [(.tmp 4)]:=fk Tryz.func49 (by kernel_rfl) (by kernel_rfl)
noncomputable def A5h:A0p:=cm Tryz.f77 86
theorem A8i {q:Gl}:FnOK Tryz.prog (G q) 77 2 86 A5h [(.tmp 4)]:=fk Tryz.func77 (by kernel_rfl) (by kernel_rfl)
noncomputable def C1r:A0p:=cm Tryz.f78 60
theorem D5l {q:Gl}:FnOK Tryz.prog (G q) 78 2 60 C1r [(.tmp 4),(.tmp 5)]:=fk Tryz.func78 (by kernel_rfl) (by kernel_rfl)
noncomputable def C1s:A0p:=cm Tryz.f23 117
theorem D5m {q:Gl}:FnOK Tryz.prog (G q) 23 2 117 C1s [(.tmp 4),(.tmp 5)]:=fk Tryz.func23 (by kernel_rfl) (by kernel_rfl)
noncomputable def C5l:A0p:=cm Tryz.f25 14
theorem E3h {q:Gl}:FnOK Tryz.prog (G q) 25 2 14 C5l [(.tmp 4)]:=fk Tryz.func25 (by kernel_rfl) (by kernel_rfl)
noncomputable def A9a:A0p:=cm Tryz.f90 23
theorem B6x {q:Gl}:FnOK Tryz.prog (G q) 90 1 23 A9a []:=fk Tryz.func90 (by kernel_rfl) (by kernel_rfl)
noncomputable def A9b:A0p:=cm Tryz.f87 52
theorem B6y {q:Gl}:FnOK Tryz.prog (G q) 87 2 52 A9b []:=fk Tryz.func87 (by kernel_rfl) (by kernel_rfl)
noncomputable def A6x:A0p:=cm Tryz.f88 35
theorem B2z {q:Gl}:FnOK Tryz.prog (G q) 88 2 35 A6x [(.tmp 4)]:=fk Tryz.func88 (by kernel_rfl) (by kernel_rfl)
noncomputable def A9c:A0p:=cm Tryz.f123 92
theorem B6z {q:Gl}:FnOK Tryz.prog (G q) 123 3 92 A9c [(.tmp 6)]:=fk Tryz.func123 (by kernel_rfl) (by kernel_rfl)
noncomputable def A6i:A0p:=cm Tryz.f86 153
theorem B1o {q:Gl}:FnOK Tryz.prog (G q) 86 1 153 A6i [(.tmp 2)]:=fk Tryz.func86 (by kernel_rfl) (by kernel_rfl)
noncomputable def A4w:A0p:=cm Tryz.f89 52
theorem A9d {q:Gl}:FnOK Tryz.prog (G q) 89 1 52 A4w [(.cell 2 true 3)]:=fk Tryz.func89 (by kernel_rfl) (by kernel_rfl)
noncomputable def A9e:A0p:=cm Tryz.f55 97
theorem B7a {q:Gl}:FnOK Tryz.prog (G q) 55 1 97 A9e [(.cell 2 true 5)]:=fk Tryz.func55 (by kernel_rfl) (by kernel_rfl)
noncomputable def B3s:A0p:=cm Tryz.f56 93
theorem C3u {q:Gl}:FnOK Tryz.prog (G q) 56 1 93 B3s [(.tmp 2),(.tmp 3),(.tmp 4)]:=fk Tryz.func56 (by kernel_rfl) (by kernel_rfl)
noncomputable def B5r:A0p:=cm Tryz.f57 99
theorem C7r {q:Gl}:FnOK Tryz.prog (G q) 57 2 99 B5r [(.cell 4 true 5)]:=fk Tryz.func57 (by kernel_rfl) (by kernel_rfl)
noncomputable def C1t:A0p:=cm Tryz.f27 54
theorem D5n {q:Gl}:FnOK Tryz.prog (G q) 27 1 54 C1t [(.cell 2 true 5),(.tmp 3)]:=fk Tryz.func27 (by kernel_rfl) (by kernel_rfl)
variable {q : Gl}
theorem A0g:Ctx Tryz.prog (G q) (orc []):=A0s.nil.ctx mixed
abbrev mRow (cs:List T):Row:=.cells 26 (cs.map .t)
theorem lp (H:Heap) (c:T) (cs:List T):A0t false 1 H (.t (.pt (c::cs)))=some (.t c):=rfl
abbrev tyI:Nat:=3
structure LdM (a b c d e:T) (H:Heap) (k:Nat):Prop where
 l0:A0t false 1 H (.ptr k 0)=some (.t a)
 l1:A0t false 1 H (.ptr k 1)=some (.t b)
 l2:A0t false 1 H (.ptr k 2)=some (.t c)
 l3:A0t false 1 H (.ptr k 3)=some (.t d)
 l4:A0t false 1 H (.ptr k 4)=some (.t e)
 all:A0t true 5 H (.ptr k 0)=some (.t (.ag [a,b,c,d,e]))
theorem ldM {a b c d e:T} {H:Heap} {k:Nat} (h:Abs.look H k=some (mRow [a,b,c,d,e])):LdM a b c d e H k:=by
 constructor<;>simp[A0t,h,agOf,allT]
theorem cd5 (a b c d e:T):A1g (.t (.ag [a,b,c,d,e]))=some [.t a,.t b,.t c,.t d,.t e]:=rfl
structure SmM (m:Mr):Prop where
 vars:m.vars.length<=100000
 rels:m.rels.length<=1000
 cons:m.cons.length<=1000
 args:∀x∈m.rels,x.args.length<=1000
 strs:∀x∈m.rels,x.pred.size<=lim/\∀a∈x.args,a.role.size<=lim
 sorts:∀s∈m.vars,s.size<=lim
theorem C7s (m:Nat) (x:Int):A1v tyI 1 [.int .i64 0] 1 [(0,.t (iv x))] m=some (.row m 0 1 1,.cells tyI ((eInt.enc x).map .t)):=rfl
theorem C1u {H:Heap} {b nx:Nat} {l:List Int} (x:Int) (n m k:Nat) (hn:n=l.length) (hm:m=nx+1) (hk:k=nx+2) (h:Abs.look H b=some (A0l eInt tyI l)) (hb:b<nx) (hl:l.length<=1000000000000) :
  appM tyI 1 8 ((nx,.cells tyI ((eInt.enc x).map .t))::H) m (.row b 0 n 1) (.row nx 0 1 1)=some (.row m 0 (n+1) 1,(m,A0l eInt tyI (l++[x]))::rem ((nx,.cells tyI ((eInt.enc x).map .t))::H) b,k):=
 D8t (e:=eInt) x 1 rfl _ rfl n m k hn hm hk h hb (by omega) (by omega)
def hMI (X:Row) (l:List Int):Heap:=[(0,X)]++[(1,A0l eInt tyI l)]
theorem D1k (X:Row) (l:List Int):Abs.look (hMI X l) 0=some X:=rfl
theorem B1p (X:Row) (l:List Int):Abs.look (hMI X l) 1=some (A0l eInt tyI l):=rfl
theorem A1n {X:Row} {l:List Int} {k nx n:Nat} {H:Heap} {env env':List (Nat×PV)} (h:Abs.look H k=some (A0l eInt tyI l)) (h0:Abs.look H 0=some X) (hk:k≠0) (hX:∃(ty:TypeId) (cs:List T),X = .cells ty (cs.map PV.t))
  (he:∀q∈env',Abs.look env q.1=some (ren (fun x=>if x=1 then k else x) q.2)/\under 2 q.2=true) :
  Abs.Sub Tryz.prog (G q) 0 ⟨env,H,nx,n⟩ ⟨env',hMI X l,2,n⟩:=
 F3c h (by omega) (by omega) (fun q hq=>by
  simp only[List.mem_singleton]at hq;subst hq;obtain⟨ty,cs,rfl⟩:=hX
  have r1:∀(σ:Nat->Nat) (cs:List T),renL σ (cs.map PV.t)=cs.map PV.t:=fun σ cs=>by
   induction cs with
   | nil=>rfl
   | cons c r ih=>simp only[List.map_cons,renL,ren,ih]
  have r2:∀(n:Nat) (cs:List T),A4v n (cs.map PV.t)=true:=fun n cs=>by
   induction cs with
   | nil=>rfl
   | cons c r ih=>simp only[List.map_cons,A4v,under,ih,Bool.and_self]
  exact⟨by rw[h0];simp only[B3m,r1],by show 0<2;omega,by show 0≠1;omega,Ne.symm hk,by simp only[A8c,r2]⟩) he
def occJ (m:Mr) (j:Nat):List Int:=m.top::m.index::(m.rels.take j).flatMap occE
def occI (m:Mr) (i:Nat) (x:Ep) (j:Nat):List Int:=occJ m i++x.label::(x.args.take j).map (·.var)
def occK (m:Mr) (j:Nat):List Int:=occJ m m.rels.length++(m.cons.take j).flatMap occC
theorem E7u (m:Mr) (i:Nat) (x:Ep):occI m i x 0=occJ m i++[x.label]:=by simp[occI]
theorem C1v {m:Mr} {i j:Nat} {x:Ep} {a:Ag} (h:x.args[j]?=some a):occI m i x (j+1)=occI m i x j++[a.var]:=by
 unfold occI;rw[List.take_add_one,h];simp
theorem B5s {m:Mr} {i:Nat} {x:Ep} (h:m.rels[i]?=some x):occJ m (i+1)=occI m i x x.args.length:=by
 unfold occJ occI;rw[List.take_add_one,h,List.take_length];simp[occE,occJ]
theorem B5t {m:Mr} {j:Nat} {c:Qq} (h:m.cons[j]?=some c):occK m (j+1)=occK m j++[c.high]++[c.low]:=by
 unfold occK;rw[List.take_add_one,h];simp[occC]
theorem B2n (m:Mr):occK m m.cons.length=occ m:=by
 unfold occK occJ occ;rw[List.take_length,List.take_length];rfl
theorem B2o {m:Mr} (h:SmM m):∀i,i<=m.rels.length->(occJ m i).length<=2+i*100001
 | 0,_=>by simp[occJ]
 | i+1,hi=>by
  obtain⟨x,hx⟩:∃x,m.rels[i]?=some x:=⟨_,List.getElem?_eq_getElem (by omega)⟩
  have:=B2o h i (by omega);have ha:=h.args x (List.mem_of_getElem? hx);rw[B5s hx];unfold occI;rw[List.take_length,List.length_append,List.length_cons,List.length_map];omega
theorem C7t {m:Mr} (h:SmM m) {i j:Nat} {x:Ep} (hx:x∈m.rels) (hi:i<=m.rels.length):(occI m i x j).length<=200000000:=by
 have:=B2o h i hi;have ha:=h.args x hx;have hr:=h.rels;have hk:i*100001<=1000*100001:=Nat.mul_le_mul_right _ (by omega);unfold occI;rw[List.length_append,List.length_cons,List.length_map,List.length_take];omega
theorem B2p {m:Mr} (h:SmM m):∀j,j<=m.cons.length->(occK m j).length<=200000000+2*j
 | 0,_=>by
  have:=B2o h m.rels.length (Nat.le_refl _);have hr:=h.rels;have hk:m.rels.length*100001<=1000*100001:=Nat.mul_le_mul_right _ hr;simp only[occK,List.take_zero,List.flatMap_nil,List.append_nil];omega
 | j+1,hj=>by
  obtain⟨c,hc⟩:∃c,m.cons[j]?=some c:=⟨_,List.getElem?_eq_getElem (by omega)⟩
  have:=B2p h j (by omega);rw[B5t hc];simp only[List.length_append,List.length_cons,List.length_nil];omega
theorem B7b {m:Mr} (h:SmM m):(occ m).length<=300000000:=by
 have:=B2p h m.cons.length (Nat.le_refl _);have hc:=h.cons;rw[B2n]at this;omega
noncomputable def gOcc:List T->Option T
 | [.ag cs]=>open Classical in if h:∃m,IsMr m cs/\SmM m then some (slT eInt (occ h.choose))else none
 | _=>none
theorem D5o {m:Mr} {cs:List T} (h:IsMr m cs) (hs:SmM m):gOcc [.ag cs]=some (slT eInt (occ m)):=by
 have he:∃m,IsMr m cs/\SmM m:=⟨m,h,hs⟩
 simp only[gOcc];rw[dif_pos he,he.choose_spec.1.uniq h]
def hndJ (m:Mr) (j:Nat):List Int:=m.top::(m.rels.take j).map Ep.label
def hndK (m:Mr) (j:Nat):List Int:=hndJ m m.rels.length++(m.cons.take j).flatMap occC
theorem D1l {m:Mr} {i:Nat} {x:Ep} (h:m.rels[i]?=some x):hndJ m (i+1)=hndJ m i++[x.label]:=by
 unfold hndJ;rw[List.take_add_one,h];simp
theorem C1w {m:Mr} {j:Nat} {c:Qq} (h:m.cons[j]?=some c):hndK m (j+1)=hndK m j++[c.high]++[c.low]:=by
 unfold hndK;rw[List.take_add_one,h];simp[occC]
theorem C7u (m:Mr):hndK m m.cons.length=hnd m:=by
 unfold hndK hndJ hnd;rw[List.take_length,List.take_length];rfl
theorem C7v {m:Mr} (h:SmM m) (i:Nat):(hndJ m i).length<=100001:=by
 have:=h.rels;unfold hndJ;rw[List.length_cons,List.length_map,List.length_take];omega
theorem B9p {m:Mr} (h:SmM m):∀j,j<=m.cons.length->(hndK m j).length<=100001+2*j
 | 0,_=>by
  have:=C7v h m.rels.length;simp only[hndK,List.take_zero,List.flatMap_nil,List.append_nil];omega
 | j+1,hj=>by
  obtain⟨c,hc⟩:∃c,m.cons[j]?=some c:=⟨_,List.getElem?_eq_getElem (by omega)⟩
  have:=B9p h j (by omega);rw[C1w hc];simp only[List.length_append,List.length_cons,List.length_nil];omega
theorem E7v {m:Mr} (h:SmM m):(hnd m).length<=1000000:=by
 have:=B9p h m.cons.length (Nat.le_refl _);have hc:=h.cons;rw[C7u]at this;omega
noncomputable def gM (f:Mr->T):List T->Option T
 | [.ag cs]=>open Classical in if h:∃m,IsMr m cs/\SmM m then some (f h.choose)else none
 | _=>none
theorem B3a (f:Mr->T) {m:Mr} {cs:List T} (h:IsMr m cs) (hs:SmM m):gM f [.ag cs]=some (f m):=by
 have he:∃m,IsMr m cs/\SmM m:=⟨m,h,hs⟩
 simp only[gM];rw[dif_pos he,he.choose_spec.1.uniq h]
theorem E3i {F:Nat} {f:Mr->T} (h:∀m cs,IsMr m cs->SmM m->A1d Tryz.prog (G q) F [.ag cs] (· = f m)):GOK Tryz.prog (G q) F (gM f):=fun args r hr=>by
 unfold gM at hr;split at hr
 ·rename_i cs;split at hr
  ·rename_i he;injection hr with hr;subst hr;exact h _ _ he.choose_spec.1 he.choose_spec.2
  ·cases hr
 ·cases hr
noncomputable def gHnd:List T->Option T:=gM fun m=>slT eInt (hnd m)
end Go.Proofs.YtmgjopafgboljaaGreatDoor
namespace Go.Abs
open Go
def rho (m:Mr) (x:Int):Int:=plc x 0 (fsts m)
def numM (m:Mr):Mr:=⟨rho m m.top,rho m m.index,(fsts m).map (vS m.vars),m.rels.map (mapE (rho m)),m.cons.map (mapQ (rho m))⟩
theorem B2q {m:Mr} {x:Int}:x∈fsts m ↔ x∈occ m:=by
 unfold fsts;rw[B5j];simp
theorem C5m (m:Mr):(fsts m).Nodup:=B2g List.nodup_nil
theorem C1x {m:Mr} {x:Int} (h:x∈occ m):∃n:Nat,rho m x=(n:Int)/\n<(fsts m).length/\(fsts m)[n]?=some x:=by
 obtain⟨n,h1,h2,h3⟩:=C6z (i:=0) (B2q.2 h);obtain⟨_,h4⟩:=E6n h1;exact⟨n,h1,by omega,by simpa using h4⟩
theorem F7d (m:Mr) (g:Int->Int) (vs:List ByteArray):occ ⟨g m.top,g m.index,vs,m.rels.map (mapE g),m.cons.map (mapQ g)⟩=(occ m).map g:=by
 unfold occ;simp only[List.map_cons,List.map_append,List.flatMap_map,List.map_flatMap];congr 3
 ·refine A6e fun x _=>?_;unfold occE mapE;simp only[List.map_cons,List.map_map];rfl
theorem F7e (m:Mr) (g:Int->Int) (vs:List ByteArray):hnd ⟨g m.top,g m.index,vs,m.rels.map (mapE g),m.cons.map (mapQ g)⟩=(hnd m).map g:=by
 unfold hnd;simp only[List.map_cons,List.map_append,List.flatMap_map,List.map_flatMap,List.map_map];rfl
theorem E7w (m:Mr):occ (numM m)=(occ m).map (rho m):=F7d m _ _
theorem F7f (m:Mr):hnd (numM m)=(hnd m).map (rho m):=F7e m _ _
theorem D5p (m:Mr):∀x∈hnd m,x∈occ m:=by
 intro x hx;simp only[hnd,List.mem_cons,List.mem_append,List.mem_map]at hx;simp only[occ,List.mem_cons,List.mem_append];rcases hx with h | ⟨y,hy,rfl⟩ | h
 ·exact .inl h
 ·exact .inr (.inr (.inl (List.mem_flatMap.2 ⟨y,hy,by simp[occE]⟩)))
 ·exact .inr (.inr (.inr h))
theorem D8u {m:Mr} (h:okV m):(fsts m).length<=m.vars.length:=by
 by_cases hl:(fsts m).length<=m.vars.length
 ·exact hl
 ·have hp:=A8e (C5m m) (m:=upN m.vars.length) (fun x hx=>A2h.2 (h x (B2q.1 hx))) (by rw[A2u];omega);have:=hp.length_eq;rw[A2u]at this;omega
theorem E7x {m:Mr} (_:okV m):okV (numM m):=by
 intro x hx;rw[E7w]at hx;obtain⟨y,hy,rfl⟩:=List.mem_map.1 hx;obtain⟨n,h1,h2,_⟩:=C1x hy;rw[h1];show inR ((fsts m).map (vS m.vars)).length _;rw[List.length_map];exact⟨by omega,by omega⟩
theorem D5q {m:Mr} (h:A2q m=true):full m:=fun x hx=>by
 have h:=of_decide_eq_true h;rw[<-B2q,h,A2h];exact hx
def E7y (prev:Option ByteArray) (s:ByteArray):Bool:=match prev with
 | none=>false
 | some p=>!decide (wb p<wb s)
section
variable (nm : Bool -> ByteArray -> Bool)
def chkA:Option ByteArray->List Ag->Int
 | _,[]=>0
 | prev,a::r=>if nm true a.role=false\/a.role=B8h then 1 else if E7y prev a.role then 3 else chkA (some a.role) r
def chkE (x:Ep):Int:=if nm false x.pred=false then 1 else chkA nm none x.args
def C1y:List Ep->Int
 | []=>0
 | x::r=>if chkE nm x≠0 then chkE nm x else C1y r
def A4f (m:Mr):Int:=
 if 16<m.rels.length\/16<m.cons.length\/256<m.vars.length then 7
 else if m.vars.all A3d=false then 1
 else if C1y nm m.rels≠0 then C1y nm m.rels
 else if(occ m).all (fun x=>decide (inR m.vars.length x))=false then 2
 else if(hnd m).all (fun x=>decide (vS m.vars x=wH))=false then 2
 else 0
def A3c (m:Mr):Int:=if A4f nm m≠0 then A4f nm m else if A2q m then 0 else 3
end
section
variable {nm : Bool -> ByteArray -> Bool}
structure A7q (nm:Bool->ByteArray->Bool) (m:Mr):Prop where
 rels:m.rels.length<=16
 cons:m.cons.length<=16
 vars:m.vars.length<=256
 sorts:∀s∈m.vars,A3d s=true
 preds:∀x∈m.rels,chkE nm x=0
 ok:okV m
 hnd:∀x∈hnd m,vS m.vars x=wH
theorem C1z:∀{l:List Ep},C1y nm l=0 ↔ ∀x∈l,chkE nm x=0
 | []=>by simp[C1y]
 | x::r=>by
  rw[C1y];by_cases h:chkE nm x=0
  ·rw[if_neg (fun e=>e h),C1z];simp[h]
  ·rw[if_pos h];simp[h]
theorem A4j {m:Mr}:A4f nm m=0 ↔ A7q nm m:=by
 unfold A4f;constructor
 ·intro h;split at h
  ·cases h
  rename_i h1;split at h
  ·cases h
  rename_i h2;by_cases h3:C1y nm m.rels=0
  rotate_left
  ·rw[if_pos h3]at h;exact absurd h h3
  rw[if_neg (fun e=>e h3)]at h;split at h
  ·cases h
  rename_i h4;split at h
  ·cases h
  rename_i h5
  have h2:m.vars.all A3d=true:=by simpa using h2
  have h4:(occ m).all (fun x=>decide (inR m.vars.length x))=true:=by
   cases e:(occ m).all (fun x=>decide (inR m.vars.length x))with
   | true=>rfl
   | false=>exact absurd e h4
  have h5:(hnd m).all (fun x=>decide (vS m.vars x=wH))=true:=by
   cases e:(hnd m).all (fun x=>decide (vS m.vars x=wH))with
   | true=>rfl
   | false=>exact absurd e h5
  rw[List.all_eq_true]at h2 h4 h5;exact⟨by omega,by omega,by omega,h2,C1z.1 h3,fun x hx=>of_decide_eq_true (h4 x hx),fun x hx=>of_decide_eq_true (h5 x hx)⟩
 ·intro h;have h1:=h.rels;have h2:=h.cons;have h3:=h.vars;rw[if_neg (by omega),if_neg,if_neg,if_neg,if_neg]
  ·rw[Bool.not_eq_false,List.all_eq_true];exact fun x hx=>decide_eq_true (h.hnd x hx)
  ·rw[Bool.not_eq_false,List.all_eq_true];exact fun x hx=>decide_eq_true (h.ok x hx)
  ·exact fun e=>e (C1z.2 h.preds)
  ·rw[Bool.not_eq_false,List.all_eq_true];exact h.sorts
theorem A5t {m:Mr}:A3c nm m=0 ↔ A7q nm m/\A2q m=true:=by
 unfold A3c;by_cases h:A4f nm m=0
 ·rw[if_neg (fun e=>e h)];constructor
  ·intro k;split at k
   ·rename_i hn;exact⟨A4j.1 h,hn⟩
   ·cases k
  ·rintro⟨_,hn⟩;rw[if_pos hn]
 ·rw[if_pos h];constructor
  ·intro k;exact absurd k h
  ·rintro⟨k,_⟩;exact absurd (A4j.2 k) h
theorem D8v (g:Int->Int):∀(l:List Ag) (p:Option ByteArray),chkA nm p (l.map fun a=>⟨a.role,g a.var⟩)=chkA nm p l
 | [],p=>rfl
 | a::r,p=>by
  rw[List.map_cons,chkA,chkA];simp only;rw[D8v g r]
theorem F3d (g:Int->Int) (x:Ep):chkE nm (mapE g x)=chkE nm x:=by
 unfold chkE mapE;simp only;rw[D8v]
theorem A9f {m:Mr} (h:A7q nm m):A7q nm (numM m):=by
 refine⟨by show(m.rels.map _).length<=_;rw[List.length_map];exact h.rels,by show(m.cons.map _).length<=_;rw[List.length_map];exact h.cons,?_,fun s hs=>?_,fun x hx=>?_,E7x h.ok,fun x hx=>?_⟩
 ·show((fsts m).map _).length<=_;rw[List.length_map];have:=D8u h.ok;have:=h.vars;omega
 ·obtain⟨x,hx,rfl⟩:=List.mem_map.1 (show s∈(fsts m).map (vS m.vars)from hs);have hr:=h.ok x (B2q.1 hx);refine h.sorts _ ?_;unfold vS;have h1:=hr.1;have h2:=hr.2;exact A7f _ (by omega)
 ·obtain⟨y,hy,rfl⟩:=List.mem_map.1 (show x∈m.rels.map (mapE (rho m))from hx);rw[F3d];exact h.preds y hy
 ·rw[F7f]at hx;obtain⟨y,hy,rfl⟩:=List.mem_map.1 hx;obtain⟨n,h1,h2,h3⟩:=C1x (D5p m y hy);have:=h.hnd y hy;rw[<-this];show((fsts m).map (vS m.vars)).getD (rho m y).toNat _=_;rw[h1,Int.toNat_natCast,List.getD_eq_getElem?_getD (l:=(fsts m).map (vS m.vars)),List.getElem?_map,h3];rfl
theorem C2a {m:Mr} (h:A3c nm m=0):okV m/\full m:=⟨(A5t.1 h).1.ok,D5q (A5t.1 h).2⟩
end
end Go.Abs
namespace Go.Proofs.YtmgjopafgboljaaGreatDoor
open Go Go.Abs
variable {q : Gl}
noncomputable def gIsN (b:Bool):List T->Option T:=g1 tStr fun s=>if s.size<=lim then some (bv (A0h b s))else none
theorem C7w (b:Bool) {s:ByteArray} (h:s.size<=lim):gIsN b [sv s]=some (bv (A0h b s)):=(E2q (τ:=tStr) rfl).trans (if_pos h)
theorem C7x {F:Nat} {b:Bool} (h:∀s:ByteArray,s.size<=lim->A1d Tryz.prog (G q) F [sv s] (· = bv (A0h b s))):GOK Tryz.prog (G q) F (gIsN b):=E2p fun a s r ha hr=>by
 obtain rfl:a=sv s:=ha;split at hr
 ·rename_i hs;injection hr with hr;subst hr;exact h s hs
 ·cases hr
noncomputable def tbNm:Tbl:=[(68,gIsN false),(69,gIsN true),(66,gIsN false),(67,gIsN true)]
theorem A7x:Ctx Tryz.prog (G q) (orc tbNm):=(A0s.cons (C7x E3f) (.cons (C7x C7n) (.cons (C7x E7o) (.cons (C7x D1e) .nil)))).ctx mixed
theorem D8w (p:ByteArray) (s:ByteArray):E7y (some p) s = !A6d p s:=by
 unfold E7y A6d;rw[bytesLess_eq,A2d,A2d]
def D1m (l:List Ag) (j:Nat):Option ByteArray:=(l.take j).getLast?.map Ag.role
theorem A7k {l:List Ag} {j:Nat} {a:Ag} (h:l[j]?=some a):D1m l (j+1)=some a.role:=by
 unfold D1m;rw[List.take_add_one,h];simp
theorem cd3 (a b c:T):A1g (.t (.ag [a,b,c]))=some [.t a,.t b,.t c]:=rfl
abbrev eRow (p:ByteArray) (l:Int) (ta:T):Row:=.cells 47 [.t (sv p),.t (iv l),.t ta]
structure LdE (p:ByteArray) (l:Int) (ta:T) (H:Heap) (k:Nat):Prop where
 l0:A0t false 1 H (.ptr k 0)=some (.t (sv p))
 l1:A0t false 1 H (.ptr k 1)=some (.t (iv l))
 l2:A0t false 1 H (.ptr k 2)=some (.t ta)
theorem ldE {p:ByteArray} {l:Int} {ta:T} {H:Heap} {k:Nat} (h:Abs.look H k=some (eRow p l ta)):LdE p l ta H k:=by
 constructor<;>simp[A0t,h]
theorem E7z (s:ByteArray):(s.toList==[76,65,66,69,76])=decide (s=B8h):=by
 have:=A2g s B8h;rwa[show B8h.toList=[76,65,66,69,76]by rw[A2d];rfl]at this
noncomputable def D1n:List T->Option T
 | [.ag cs]=>open Classical in if h:∃c:EC,c.cs=cs/\c.x.args.length<=1000/\c.x.pred.size<=lim/\∀a∈c.x.args,a.role.size<=lim then some (iv (chkE A0h h.choose.x))else none
 | _=>none
theorem D8x (c:EC) (h1:c.x.args.length<=1000) (h2:c.x.pred.size<=lim) (h3:∀a∈c.x.args,a.role.size<=lim):D1n [.ag c.cs]=some (iv (chkE A0h c.x)):=by
 have he:∃c':EC,c'.cs=c.cs/\c'.x.args.length<=1000/\c'.x.pred.size<=lim/\∀a∈c'.x.args,a.role.size<=lim:=⟨c,rfl,h1,h2,h3⟩
 simp only[D1n];rw[dif_pos he,EC.ext he.choose_spec.1]
theorem D8y {F:Nat} (h:∀c:EC,c.x.args.length<=1000->c.x.pred.size<=lim->(∀a∈c.x.args,a.role.size<=lim)->A1d Tryz.prog (G q) F [.ag c.cs] (· = iv (chkE A0h c.x))):GOK Tryz.prog (G q) F D1n:=fun args r hr=>by
 unfold D1n at hr;split at hr
 ·rename_i cs;split at hr
  ·rename_i he;injection hr with hr;subst hr;have hs:=he.choose_spec;have:=h he.choose hs.2.1 hs.2.2.1 hs.2.2.2;rwa[hs.1]at this
  ·cases hr
 ·cases hr
theorem G0o {l:List ByteArray} {n:Nat} {s:ByteArray} (h:l[n]?=some s):vS l (n:Int)=s:=by
 unfold vS;rw[Int.toNat_natCast,List.getD_eq_getElem?_getD,h];rfl
theorem G0p (s:ByteArray):(s.toList==[104])=decide (s=wH):=by
 have:=A2g s wH;rwa[show wH.toList=[104]by rw[A2d];rfl]at this
def allC {α:Type} (p:α->Bool) (l:List α) (e K:Int):Int:=if l.all p=false then e else K
def AllP {α:Type} (p:α->Bool) (l:List α):Prop:=l.all p=true
def chkC (l:List Ep) (K:Int):Int:=if C1y A0h l≠0 then C1y A0h l else K
theorem B2r {α:Type} (p:α->Bool) {l:List α} {j:Nat} (h:l.length<=j) (e K:Int):allC p (l.drop j) e K=K:=by rw[List.drop_of_length_le h];rfl
theorem D8z {α:Type} (p:α->Bool) {l:List α} {j:Nat} (h:l.length<=j):AllP p (l.drop j):=by rw[List.drop_of_length_le h];rfl
theorem D9a {l:List Ep} {j:Nat} (h:l.length<=j) (K:Int):chkC (l.drop j) K=K:=by rw[List.drop_of_length_le h];rfl
theorem D9b {α:Type} {p:α->Bool} {l:List α} {j:Nat} {x:α} (h:l[j]?=some x):(l.drop j).all p=(p x&&(l.drop (j+1)).all p):=by
 have hlt:=(List.getElem?_eq_some_iff.1 h).1;rw[List.drop_eq_getElem_cons hlt,(List.getElem?_eq_some_iff.1 h).2,List.all_cons]
theorem A9g {α:Type} {p:α->Bool} {l:List α} {j:Nat} {x:α} (h:l[j]?=some x) (e K:Int):allC p (l.drop j) e K=if p x=true then allC p (l.drop (j+1)) e K else e:=by
 unfold allC;rw[D9b h];cases p x<;>simp
theorem D1o {α:Type} {p:α->Bool} {l:List α} {j:Nat} {x:α} (h:l[j]?=some x):AllP p (l.drop j) ↔ p x=true/\AllP p (l.drop (j+1)):=by
 unfold AllP;rw[D9b h,Bool.and_eq_true]
theorem D1p {l:List Ep} {j:Nat} {x:Ep} (h:l[j]?=some x) (K:Int):chkC (l.drop j) K=if chkE A0h x=0 then chkC (l.drop (j+1)) K else chkE A0h x:=by
 have hlt:=(List.getElem?_eq_some_iff.1 h).1;unfold chkC;rw[List.drop_eq_getElem_cons hlt,(List.getElem?_eq_some_iff.1 h).2,C1y];by_cases h0:chkE A0h x=0
 ·simp only[h0,ne_eq,not_true,if_false,if_true]
 ·simp only[h0,ne_eq,not_false_iff,if_true,if_false]
theorem E8a (m:Mr) (h:¬(16<m.rels.length\/16<m.cons.length\/256<m.vars.length)):A4f A0h m=allC A3d m.vars 1 (chkC m.rels (allC (fun x=>decide (inR m.vars.length x)) (occ m) 2 (allC (fun x=>decide (vS m.vars x=wH)) (hnd m) 2 0))):=by
 unfold A4f allC chkC;rw[if_neg h]
noncomputable def C2b:List T->Option T:=gM fun m=>iv (A3c A0h m)
theorem st3 (k:Nat) (a b c:PV) (x y z:T) (ty:TypeId) (H:Heap) (hz:A1g (.t (.ag [x,y,z]))=some [.t x,.t y,.t z]):A0x 3 ((k,.cells ty [a,b,c])::H) (.ptr k 0) (.t (.ag [x,y,z]))=some ((k,.cells ty [.t x,.t y,.t z])::H):=by
 simp[A0x,hz,upd,A2m]
theorem st2 (k:Nat) (a b:PV) (x y:T) (ty:TypeId) (H:Heap):A0x 2 ((k,.cells ty [a,b])::H) (.ptr k 0) (.t (.ag [x,y]))=some ((k,.cells ty [.t x,.t y])::H):=by
 have hz:A1g (.t (.ag [x,y]))=some [.t x,.t y]:=rfl;simp[A0x,hz,upd,A2m]
theorem E8b (c:EC) (R:List T) (H:Heap):A0t true 3 H (.t (.pt (c.cs++R)))=some (.t (.ag c.cs)):=by
 have hl:=c.ok.len;simp only[A0t,if_true];rw[if_pos (by simp[hl]),<-hl,List.take_left]
theorem l3_c (a b c:T) (R:List T) (H:Heap):A0t true 3 H (.t (.pt (a::b::c::R)))=some (.t (.ag [a,b,c])):=by
 simp[A0t]
theorem A6j (a b:T) (R:List T) (H:Heap):A0t true 2 H (.t (.pt (a::b::R)))=some (.t (.ag [a,b])):=by
 simp[A0t]
theorem E8c (m:Nat) (x y:Int):A1v tyI 1 [.int .i64 0] 2 [(0,.t (iv x)),(1,.t (iv y))] m=some (.row m 0 2 1,A0l eInt tyI [x,y]):=rfl
theorem F5f {H:Heap} {b nx:Nat} {l:List Int} (x y:Int) (n m k:Nat) (hn:n=l.length) (hm:m=nx+1) (hk:k=nx+2) (h:Abs.look H b=some (A0l eInt tyI l)) (hb:b<nx) (hl:l.length<=1000000000000) :
  appM tyI 1 8 ((nx,A0l eInt tyI [x,y])::H) m (.row b 0 n 1) (.row nx 0 2 1)=some (.row m 0 (n+2) 1,(m,A0l eInt tyI (l++[x,y]))::rem ((nx,A0l eInt tyI [x,y])::H) b,k):=by
 subst hn;subst hm;subst hk
 have hs:srcP ((nx,A0l eInt tyI [x,y])::H) 1 (.row nx 0 2 1)=some ([x,y].length,([x,y].flatMap eInt.enc).map .t):=by
  simp[srcP,A0l,eInt]
 have:=B2l (e:=eInt) (ty:=tyI) (b:=b) (l:=l) (nx:=nx+1) (by':=8) (m:=[x,y]) (H:=(nx,A0l eInt tyI [x,y])::H) (by rw[look_cons,if_neg (by omega)];exact h) hs (by simp;omega) (by simp;omega);rw[List.length_append]at this;exact this
def TO1 (n:Nat) (X:Row) (tr:T) (N:Nat) (l:List Int) (i:Nat):A0c:=⟨[(18,.t (iv (i:Int))),(17,.t (iv (N:Int))),(16,.t tr),(3,.row 1 0 l.length 1),(1,.ptr 0 0)],hMI X l,2,n⟩
def TO2 (X:Row) (tr ta:T) (N M:Nat) (l:List Int) (i j:Nat):A0c:=⟨[(30,.t (iv (j:Int))),(29,.t (iv (M:Int))),(28,.t ta),(18,.t (iv (i:Int))),(17,.t (iv (N:Int))),(16,.t tr),(3,.row 1 0 l.length 1),(1,.ptr 0 0)],hMI X l,2,57⟩
def TO3 (X:Row) (tc:T) (N:Nat) (l:List Int) (i:Nat):A0c:=⟨[(44,.t (iv (i:Int))),(43,.t (iv (N:Int))),(42,.t tc),(3,.row 1 0 l.length 1),(1,.ptr 0 0)],hMI X l,2,57⟩
theorem F3e {m:Mr} {cs:List T} (hm:IsMr m cs) (hs:SmM m):A1d Tryz.prog (G q) 33 [.ag cs] (· = slT eInt (occ m)):=by
 obtain⟨tv,tr,tc,rl,rfl,hv,hr,hrm,hc⟩:=hm
 obtain⟨X,hX⟩:∃X,X=mRow [iv m.top,iv m.index,tv,tr,tc]:=⟨_,rfl⟩
 have hXc:∃(ty:TypeId) (cs:List T),X = .cells ty (cs.map PV.t):=⟨_,_,hX⟩
 have ld:∀{H:Heap},Abs.look H 0=some X->LdM (iv m.top) (iv m.index) tv tr tc H 0:=fun h=>ldM (by rw[h,hX]);have lr:=hr.len;have lc:=hc.len
 have hrl:rl.length=m.rels.length:=by rw[<-hrm,List.length_map]
 have hsr:=hs.rels;have hsc:=hs.cons;have cd:=cd5 (iv m.top) (iv m.index) tv tr tc
 obtain⟨R,hR⟩:∃R,R=slT eInt (occ m):=⟨_,rfl⟩
 rw[<-hR];refine B6v.call rfl ?_;(conv in A8y=>cbv);refine A0a A0g ?_;simp -implicitDefEqProofs [cd];rw[show Row.cells 26 [.t (iv m.top),.t (iv m.index),.t tv,.t tr,.t tc]=X from hX.symm];have z0:=ld (H:=[(0,X)]) rfl;refine A0a A0g ?_;simp -implicitDefEqProofs [z0.l0,z0.l1,E8c];have z1:=ld (H:=[(1,A0l eInt tyI [m.top,m.index]),(0,X)]) rfl;refine A0q (α:=Unit) (fun _=>⟨[(3,.row 1 0 (occJ m m.rels.length).length 1),(1,.ptr 0 0)],hMI X (occJ m m.rels.length),2,57⟩) (fun _=>True) (fun _=>rfl) ?_ ?_
 ·refine A0a A0g ?_;simp -implicitDefEqProofs [z1.l3,lr];refine A0j ?_;refine A0n (fun i=>TO1 57 X tr rl.length (occJ m i) i) (fun i=>m.rels.length-i) (fun i=>i<=m.rels.length) 0 (fun _=>rfl) (Nat.zero_le _) ?_ rfl ?_
  ·exact A1n (k:=1) rfl rfl (by omega) hXc (by simp -implicitDefEqProofs [ren,under,occJ])
  intro i hi
  obtain⟨l,hl⟩:∃l,l=occJ m i:=⟨_,rfl⟩
  have hll:l.length<=200000000:=by
   have h1:=B2o hs i (by omega);have:i*100001<=1000*100001:=Nat.mul_le_mul_right _ (by omega);rw[hl];omega
  obtain⟨H,hH⟩:∃H,H=hMI X l:=⟨_,rfl⟩
  have h0:Abs.look H 0=some X:=by rw[hH];rfl
  have h1:Abs.look H 1=some (A0l eInt tyI l):=by rw[hH];rfl
  by_cases hlt:i<rl.length
  ·obtain⟨c,hc1⟩:∃c,rl[i]?=some c:=⟨_,List.getElem?_eq_getElem (by omega)⟩
   have hx:m.rels[i]?=some c.x:=by rw[<-hrm,List.getElem?_map,hc1];rfl
   have hxm:=List.mem_of_getElem? hx;obtain⟨ta,hcs,hta⟩:=c.ok;have la:=hta.len;have hal:=hs.args c.x hxm;have i1:=hr.iaddr hc1 .i64;have hz:eEC.z=3:=rfl;rw[hz,show eEC.enc c=c.cs from rfl]at i1;rw[hcs]at i1;have w1:IntKind.i64.wrap ((i:Int)+1)=((i+1:Nat):Int):=A0k (by omega) (by omega);have s3:=fun a b d=>st3 2 a b d (sv c.x.pred) (iv c.x.label) ta 47 H (cd3 _ _ _)
   obtain⟨H1,hH1⟩:∃H1,H1=(2,eRow c.x.pred c.x.label ta)::H:=⟨_,rfl⟩
   have s3:∀a b d,A0x 3 ((2,.cells 47 [a,b,d])::H) (.ptr 2 0) (.t (.ag [sv c.x.pred,iv c.x.label,ta]))=some H1:=fun a b d=>by rw[hH1];exact s3 a b d
   have ze:=ldE (H:=H1) (k:=2) (by rw[hH1,look_cons,if_pos rfl])
   have k1:Abs.look H1 1=some (A0l eInt tyI l):=by rw[hH1,look_cons,if_neg (by omega)];exact h1
   have k0:Abs.look H1 0=some X:=by rw[hH1,look_cons,if_neg (by omega)];exact h0
   have ap:=C1u c.x.label l.length 4 5 rfl rfl rfl k1 (nx:=3) (by omega) (by omega)
   obtain⟨H2,hH2⟩:∃H2,H2=(4,A0l eInt tyI (l++[c.x.label]))::rem ((3,.cells tyI ((eInt.enc c.x.label).map .t))::H1) 1:=⟨_,rfl⟩
   rw[<-hH2]at ap
   have g1:Abs.look H2 4=some (A0l eInt tyI (l++[c.x.label])):=by rw[hH2,look_cons,if_pos rfl]
   have g0:Abs.look H2 0=some X:=by rw[hH2];simp[look_cons,A1e,k0]
   have g2:Abs.look H2 2=some (eRow c.x.pred c.x.label ta):=by rw[hH2,hH1];simp[look_cons,A1e]
   have ze2:=ldE g2;refine A0a A0g ?_;simp -implicitDefEqProofs [TO1,<-hl,<-hH,hlt];refine A0a A0g ?_;simp -implicitDefEqProofs;refine A0q (α:=Unit) (fun _=>⟨[(18,.t (iv (i:Int))),(17,.t (iv (rl.length:Int))),(16,.t tr),(3,.row 1 0 (occJ m (i+1)).length 1),(1,.ptr 0 0)],hMI X (occJ m (i+1)),2,57⟩) (fun _=>True) (fun _=>rfl) ?_ ?_
   ·refine A0j ?_;refine A0a A0g ?_;simp -implicitDefEqProofs [i1,l3_c,s3];refine A0a A0g ?_;simp -implicitDefEqProofs [ze.l1,C7s,ap];refine A0a A0g ?_;simp -implicitDefEqProofs [ze2.l2,la];refine A0j ?_;refine A0n (fun j=>TO2 X tr ta rl.length c.x.args.length (occI m i c.x j) i j) (fun j=>c.x.args.length-j) (fun j=>j<=c.x.args.length) 0 (fun _=>rfl) (Nat.zero_le _) ?_ rfl ?_
    ·show Abs.Sub _ _ _ _ (TO2 X tr ta rl.length c.x.args.length (occI m i c.x 0) i 0);rw[E7u,<-hl];unfold TO2;exact A1n (k:=4) g1 g0 (by omega) hXc (by simp -implicitDefEqProofs [ren,under])
    intro j hj
    obtain⟨l2,hl2⟩:∃l2,l2=occI m i c.x j:=⟨_,rfl⟩
    have hl2l:l2.length<=200000000:=by rw[hl2];exact C7t hs hxm (by omega)
    obtain⟨H3,hH3⟩:∃H3,H3=hMI X l2:=⟨_,rfl⟩
    have f0:Abs.look H3 0=some X:=by rw[hH3];rfl
    have f1:Abs.look H3 1=some (A0l eInt tyI l2):=by rw[hH3];rfl
    by_cases hjl:j<c.x.args.length
    ·obtain⟨a,ha⟩:∃a,c.x.args[j]?=some a:=⟨_,List.getElem?_eq_getElem hjl⟩
     have i2:=hta.iaddr ha .i64;have hz2:eAg.z=2:=rfl;rw[hz2,show eAg.enc a=[sv a.role,iv a.var]from rfl]at i2;have w2:IntKind.i64.wrap ((j:Int)+1)=((j+1:Nat):Int):=A0k (by omega) (by omega);have s2:=fun x y=>st2 2 x y (sv a.role) (iv a.var) 50 H3
     obtain⟨H4,hH4⟩:∃H4,H4=(2,Row.cells 50 [.t (sv a.role),.t (iv a.var)])::H3:=⟨_,rfl⟩
     rw[<-hH4]at s2
     have za:A0t false 1 H4 (.ptr 2 1)=some (.t (iv a.var)):=by rw[hH4];rfl
     have e1:Abs.look H4 1=some (A0l eInt tyI l2):=by rw[hH4,look_cons,if_neg (by omega)];exact f1
     have e0:Abs.look H4 0=some X:=by rw[hH4,look_cons,if_neg (by omega)];exact f0
     have ap2:=C1u a.var l2.length 4 5 rfl rfl rfl e1 (nx:=3) (by omega) (by omega);refine A0e A0g ?_;simp -implicitDefEqProofs [TO2,<-hl2,<-hH3,hjl,i2,A6j,s2,za,C7s,ap2,w2];refine Abs.Next.mk (j+1) ⟨hjl,by omega⟩ ?_;show Abs.Sub _ _ _ _ (TO2 X tr ta rl.length c.x.args.length (occI m i c.x (j+1)) i (j+1));rw[C1v ha,<-hl2]
     have el:(l2++[a.var]).length=l2.length+1:=by simp
     unfold TO2;rw[el];exact A1n (k:=4) (by rw[look_cons,if_pos rfl]) (by simp[look_cons,A1e,e0]) (by omega) hXc (by simp -implicitDefEqProofs [ren,under])
    ·have ej:j=c.x.args.length:=by omega
     refine A0e A0g ?_;simp -implicitDefEqProofs [TO2,<-hl2,<-hH3,hjl];refine Abs.Next.mk () trivial ?_;rw[B5s hx,<-ej,<-hl2];exact A1n (k:=1) f1 f0 (by omega) hXc (by simp -implicitDefEqProofs [ren,under])
   ·rintro _ _;refine A0e A0g ?_;simp -implicitDefEqProofs [w1];refine Abs.Next.mk (i+1) ⟨by omega,by omega⟩ ?_;exact A1n (k:=1) rfl rfl (by omega) hXc (by simp -implicitDefEqProofs [ren,under])
  ·have ei:i=m.rels.length:=by omega
   refine A0e A0g ?_;simp -implicitDefEqProofs [TO1,<-hl,<-hH,hlt];refine Abs.Next.mk () trivial ?_;rw[<-ei,<-hl];exact A1n (k:=1) h1 h0 (by omega) hXc (by simp -implicitDefEqProofs [ren,under])
 rintro _ _;refine A0q (α:=Unit) (fun _=>⟨[(3,.row 1 0 (occ m).length 1)],hMI X (occ m),2,57⟩) (fun _=>True) (fun _=>rfl) ?_ ?_
 ·have z2:=ld (D1k X (occJ m m.rels.length));refine A0a A0g ?_;simp -implicitDefEqProofs [z2.l4,lc];refine A0j ?_;refine A0n (fun i=>TO3 X tc m.cons.length (occK m i) i) (fun i=>m.cons.length-i) (fun i=>i<=m.cons.length) 0 (fun _=>rfl) (Nat.zero_le _) ?_ rfl ?_
  ·have e:occK m 0=occJ m m.rels.length:=by simp[occK]
   show Abs.Sub _ _ _ _ (TO3 X tc m.cons.length (occK m 0) 0);rw[e];exact A1n (k:=1) rfl rfl (by omega) hXc (by simp -implicitDefEqProofs [ren,under])
  intro i hi
  obtain⟨l,hl⟩:∃l,l=occK m i:=⟨_,rfl⟩
  have hll:l.length<=400000000:=by
   have h1:=B2p hs i (by omega);rw[hl];omega
  obtain⟨H,hH⟩:∃H,H=hMI X l:=⟨_,rfl⟩
  have h0:Abs.look H 0=some X:=by rw[hH];rfl
  have h1:Abs.look H 1=some (A0l eInt tyI l):=by rw[hH];rfl
  by_cases hlt:i<m.cons.length
  ·obtain⟨c,hc1⟩:∃c,m.cons[i]?=some c:=⟨_,List.getElem?_eq_getElem (by omega)⟩
   have i1:=hc.iaddr hc1 .i64;have hz:eQq.z=2:=rfl;rw[hz,show eQq.enc c=[iv c.high,iv c.low]from rfl]at i1;have w1:IntKind.i64.wrap ((i:Int)+1)=((i+1:Nat):Int):=A0k (by omega) (by omega);have s2:=fun x y=>st2 2 x y (iv c.high) (iv c.low) 52 H
   obtain⟨H1,hH1⟩:∃H1,H1=(2,Row.cells 52 [.t (iv c.high),.t (iv c.low)])::H:=⟨_,rfl⟩
   rw[<-hH1]at s2
   have za:A0t false 1 H1 (.ptr 2 0)=some (.t (iv c.high)):=by rw[hH1];rfl
   have zb:A0t false 1 H1 (.ptr 2 1)=some (.t (iv c.low)):=by rw[hH1];rfl
   have k1:Abs.look H1 1=some (A0l eInt tyI l):=by rw[hH1,look_cons,if_neg (by omega)];exact h1
   have k0:Abs.look H1 0=some X:=by rw[hH1,look_cons,if_neg (by omega)];exact h0
   have ap:=F5f c.high c.low l.length 4 5 rfl rfl rfl k1 (nx:=3) (by omega) (by omega);refine A0e A0g ?_;simp -implicitDefEqProofs [TO3,<-hl,<-hH,hlt,i1,A6j,s2,za,zb,E8c,ap,w1];refine Abs.Next.mk (i+1) ⟨hlt,by omega⟩ ?_
   have e:occK m (i+1)=l++[c.high,c.low]:=by rw[B5t hc1,<-hl,List.append_assoc];rfl
   show Abs.Sub _ _ _ _ (TO3 X tc m.cons.length (occK m (i+1)) (i+1));rw[e];unfold TO3
   have el:(l++[c.high,c.low]).length=l.length+2:=by simp
   rw[el];exact A1n (k:=4) (by rw[look_cons,if_pos rfl]) (by simp[look_cons,A1e,k0]) (by omega) hXc (by simp -implicitDefEqProofs [ren,under])
  ·have ei:i=m.cons.length:=by omega
   refine A0e A0g ?_;simp -implicitDefEqProofs [TO3,<-hl,<-hH,hlt];refine Abs.Next.mk () trivial ?_;rw[<-B2n,<-ei,<-hl];exact A1n (k:=1) h1 h0 (by omega) hXc (by simp -implicitDefEqProofs [ren,under])
 rintro _ _;have hne:toT (hMI X (occ m)) (.row 1 0 (occ m).length 1)=some (slT eInt (occ m),[1]):=A2s (e:=eInt) (B1p X (occ m));refine A0e A0g ?_;simp -implicitDefEqProofs [hne,hR,-toT]
theorem hPOcc:GOK Tryz.prog (G q) 33 gOcc:=fun args r hr=>by
 unfold gOcc at hr;split at hr
 ·rename_i cs;split at hr
  ·rename_i he;injection hr with hr;subst hr;exact F3e he.choose_spec.1 he.choose_spec.2
  ·cases hr
 ·cases hr
def TH1 (X:Row) (tr:T) (N:Nat) (l:List Int) (i:Nat):A0c:=⟨[(14,.t (iv (i:Int))),(13,.t (iv (N:Int))),(12,.t tr),(3,.row 1 0 l.length 1),(1,.ptr 0 0)],hMI X l,2,40⟩
def TH3 (X:Row) (tc:T) (N:Nat) (l:List Int) (i:Nat):A0c:=⟨[(27,.t (iv (i:Int))),(26,.t (iv (N:Int))),(25,.t tc),(3,.row 1 0 l.length 1),(1,.ptr 0 0)],hMI X l,2,40⟩
theorem F3f {m:Mr} {cs:List T} (hm:IsMr m cs) (hs:SmM m):A1d Tryz.prog (G q) 34 [.ag cs] (· = slT eInt (hnd m)):=by
 obtain⟨tv,tr,tc,rl,rfl,hv,hr,hrm,hc⟩:=hm
 obtain⟨X,hX⟩:∃X,X=mRow [iv m.top,iv m.index,tv,tr,tc]:=⟨_,rfl⟩
 have hXc:∃(ty:TypeId) (cs:List T),X = .cells ty (cs.map PV.t):=⟨_,_,hX⟩
 have ld:∀{H:Heap},Abs.look H 0=some X->LdM (iv m.top) (iv m.index) tv tr tc H 0:=fun h=>ldM (by rw[h,hX]);have lr:=hr.len;have lc:=hc.len
 have hrl:rl.length=m.rels.length:=by rw[<-hrm,List.length_map]
 have hsr:=hs.rels;have hsc:=hs.cons;have cd:=cd5 (iv m.top) (iv m.index) tv tr tc
 obtain⟨R,hR⟩:∃R,R=slT eInt (hnd m):=⟨_,rfl⟩
 rw[<-hR];refine C7p.call rfl ?_;(conv in B5p=>cbv);refine A0a A0g ?_;simp -implicitDefEqProofs [cd];rw[show Row.cells 26 [.t (iv m.top),.t (iv m.index),.t tv,.t tr,.t tc]=X from hX.symm];have b1:∀n,A1v tyI 1 [.int .i64 0] 1 [(0,.t (iv m.top))] n=some (.row n 0 1 1,A0l eInt tyI [m.top]):=fun _=>rfl;have z0:=ld (H:=[(0,X)]) rfl;refine A0a A0g ?_;simp -implicitDefEqProofs [z0.l0,b1];have z1:=ld (H:=[(1,A0l eInt tyI [m.top]),(0,X)]) rfl;refine A0q (α:=Unit) (fun _=>⟨[(3,.row 1 0 (hndJ m m.rels.length).length 1),(1,.ptr 0 0)],hMI X (hndJ m m.rels.length),2,40⟩) (fun _=>True) (fun _=>rfl) ?_ ?_
 ·refine A0a A0g ?_;simp -implicitDefEqProofs [z1.l3,lr];refine A0j ?_;refine A0n (fun i=>TH1 X tr rl.length (hndJ m i) i) (fun i=>m.rels.length-i) (fun i=>i<=m.rels.length) 0 (fun _=>rfl) (Nat.zero_le _) ?_ rfl ?_
  ·exact A1n (k:=1) rfl rfl (by omega) hXc (by simp -implicitDefEqProofs [ren,under,hndJ])
  intro i hi
  obtain⟨l,hl⟩:∃l,l=hndJ m i:=⟨_,rfl⟩
  have hll:l.length<=100001:=by rw[hl];exact C7v hs i
  obtain⟨H,hH⟩:∃H,H=hMI X l:=⟨_,rfl⟩
  have h0:Abs.look H 0=some X:=by rw[hH];rfl
  have h1:Abs.look H 1=some (A0l eInt tyI l):=by rw[hH];rfl
  by_cases hlt:i<rl.length
  ·obtain⟨c,hc1⟩:∃c,rl[i]?=some c:=⟨_,List.getElem?_eq_getElem (by omega)⟩
   have hx:m.rels[i]?=some c.x:=by rw[<-hrm,List.getElem?_map,hc1];rfl
   obtain⟨ta,hcs,hta⟩:=c.ok;have i1:=hr.iaddr hc1 .i64;have hz:eEC.z=3:=rfl;rw[hz,show eEC.enc c=c.cs from rfl,hcs]at i1;have w1:IntKind.i64.wrap ((i:Int)+1)=((i+1:Nat):Int):=A0k (by omega) (by omega);have s3:=fun a b d=>st3 2 a b d (sv c.x.pred) (iv c.x.label) ta 47 H (cd3 _ _ _)
   obtain⟨H1,hH1⟩:∃H1,H1=(2,eRow c.x.pred c.x.label ta)::H:=⟨_,rfl⟩
   have s3:∀a b d,A0x 3 ((2,.cells 47 [a,b,d])::H) (.ptr 2 0) (.t (.ag [sv c.x.pred,iv c.x.label,ta]))=some H1:=fun a b d=>by rw[hH1];exact s3 a b d
   have ze:=ldE (H:=H1) (k:=2) (by rw[hH1,look_cons,if_pos rfl])
   have k1:Abs.look H1 1=some (A0l eInt tyI l):=by rw[hH1,look_cons,if_neg (by omega)];exact h1
   have k0:Abs.look H1 0=some X:=by rw[hH1,look_cons,if_neg (by omega)];exact h0
   have ap:=C1u c.x.label l.length 4 5 rfl rfl rfl k1 (nx:=3) (by omega) (by omega);refine A0e A0g ?_;simp -implicitDefEqProofs [TH1,<-hl,<-hH,hlt,i1,l3_c,s3,ze.l1,C7s,ap,w1];refine Abs.Next.mk (i+1) ⟨by omega,by omega⟩ ?_
   have e:hndJ m (i+1)=l++[c.x.label]:=by rw[D1l hx,<-hl]
   have el:(l++[c.x.label]).length=l.length+1:=by simp
   show Abs.Sub _ _ _ _ (TH1 X tr rl.length (hndJ m (i+1)) (i+1));rw[e];unfold TH1;rw[el];exact A1n (k:=4) (by rw[look_cons,if_pos rfl]) (by simp[look_cons,A1e,k0]) (by omega) hXc (by simp -implicitDefEqProofs [ren,under])
  ·have ei:i=m.rels.length:=by omega
   refine A0e A0g ?_;simp -implicitDefEqProofs [TH1,<-hl,<-hH,hlt];refine Abs.Next.mk () trivial ?_;rw[<-ei,<-hl];exact A1n (k:=1) h1 h0 (by omega) hXc (by simp -implicitDefEqProofs [ren,under])
 rintro _ _;refine A0q (α:=Unit) (fun _=>⟨[(3,.row 1 0 (hnd m).length 1)],hMI X (hnd m),2,40⟩) (fun _=>True) (fun _=>rfl) ?_ ?_
 ·have z2:=ld (D1k X (hndJ m m.rels.length));refine A0a A0g ?_;simp -implicitDefEqProofs [z2.l4,lc];refine A0j ?_;refine A0n (fun i=>TH3 X tc m.cons.length (hndK m i) i) (fun i=>m.cons.length-i) (fun i=>i<=m.cons.length) 0 (fun _=>rfl) (Nat.zero_le _) ?_ rfl ?_
  ·have e:hndK m 0=hndJ m m.rels.length:=by simp[hndK]
   show Abs.Sub _ _ _ _ (TH3 X tc m.cons.length (hndK m 0) 0);rw[e];exact A1n (k:=1) rfl rfl (by omega) hXc (by simp -implicitDefEqProofs [ren,under])
  intro i hi
  obtain⟨l,hl⟩:∃l,l=hndK m i:=⟨_,rfl⟩
  have hll:l.length<=1000000:=by
   have h1:=B9p hs i (by omega);rw[hl];omega
  obtain⟨H,hH⟩:∃H,H=hMI X l:=⟨_,rfl⟩
  have h0:Abs.look H 0=some X:=by rw[hH];rfl
  have h1:Abs.look H 1=some (A0l eInt tyI l):=by rw[hH];rfl
  by_cases hlt:i<m.cons.length
  ·obtain⟨c,hc1⟩:∃c,m.cons[i]?=some c:=⟨_,List.getElem?_eq_getElem (by omega)⟩
   have i1:=hc.iaddr hc1 .i64;have hz:eQq.z=2:=rfl;rw[hz,show eQq.enc c=[iv c.high,iv c.low]from rfl]at i1;have w1:IntKind.i64.wrap ((i:Int)+1)=((i+1:Nat):Int):=A0k (by omega) (by omega);have s2:=fun x y=>st2 2 x y (iv c.high) (iv c.low) 52 H
   obtain⟨H1,hH1⟩:∃H1,H1=(2,Row.cells 52 [.t (iv c.high),.t (iv c.low)])::H:=⟨_,rfl⟩
   rw[<-hH1]at s2
   have za:A0t false 1 H1 (.ptr 2 0)=some (.t (iv c.high)):=by rw[hH1];rfl
   have zb:A0t false 1 H1 (.ptr 2 1)=some (.t (iv c.low)):=by rw[hH1];rfl
   have k1:Abs.look H1 1=some (A0l eInt tyI l):=by rw[hH1,look_cons,if_neg (by omega)];exact h1
   have k0:Abs.look H1 0=some X:=by rw[hH1,look_cons,if_neg (by omega)];exact h0
   have ap:=F5f c.high c.low l.length 4 5 rfl rfl rfl k1 (nx:=3) (by omega) (by omega);refine A0e A0g ?_;simp -implicitDefEqProofs [TH3,<-hl,<-hH,hlt,i1,A6j,s2,za,zb,E8c,ap,w1];refine Abs.Next.mk (i+1) ⟨hlt,by omega⟩ ?_
   have e:hndK m (i+1)=l++[c.high,c.low]:=by rw[C1w hc1,<-hl,List.append_assoc];rfl
   show Abs.Sub _ _ _ _ (TH3 X tc m.cons.length (hndK m (i+1)) (i+1));rw[e];unfold TH3
   have el:(l++[c.high,c.low]).length=l.length+2:=by simp
   rw[el];exact A1n (k:=4) (by rw[look_cons,if_pos rfl]) (by simp[look_cons,A1e,k0]) (by omega) hXc (by simp -implicitDefEqProofs [ren,under])
  ·have ei:i=m.cons.length:=by omega
   refine A0e A0g ?_;simp -implicitDefEqProofs [TH3,<-hl,<-hH,hlt];refine Abs.Next.mk () trivial ?_;rw[<-C7u,<-ei,<-hl];exact A1n (k:=1) h1 h0 (by omega) hXc (by simp -implicitDefEqProofs [ren,under])
 rintro _ _;have hne:toT (hMI X (hnd m)) (.row 1 0 (hnd m).length 1)=some (slT eInt (hnd m),[1]):=A2s (e:=eInt) (B1p X (hnd m));refine A0e A0g ?_;simp -implicitDefEqProofs [hne,hR,-toT]
theorem hPHnd:GOK Tryz.prog (G q) 34 gHnd:=E3i fun _ _ h hs=>F3f h hs
abbrev aRow (r:ByteArray) (v:Int):Row:=.cells 50 [.t (sv r),.t (iv v)]
structure LdA (r:ByteArray) (v:Int) (H:Heap) (k:Nat):Prop where
 l0:A0t false 1 H (.ptr k 0)=some (.t (sv r))
 l1:A0t false 1 H (.ptr k 1)=some (.t (iv v))
theorem ldA {r:ByteArray} {v:Int} {H:Heap} {k:Nat} (h:Abs.look H k=some (aRow r v)):LdA r v H k:=by
 constructor<;>simp[A0t,h]
def SPm (n:Nat) (X:Row) (tn:T) (m:Nat) (j:Nat):A0c:=⟨[(12,.t (iv (j:Int))),(11,.t (iv (m:Int))),(10,.t tn),(1,.ptr 0 0)],[(0,X)],1,n⟩
theorem D5r {ty:TypeId} {nx:Nat} (cs:List T):A8c nx (.cells ty (cs.map PV.t))=true:=by
 have r2:∀(n:Nat) (cs:List T),A4v n (cs.map PV.t)=true:=fun n cs=>by
  induction cs with
  | nil=>rfl
  | cons c r ih=>simp only[List.map_cons,A4v,under,ih,Bool.and_self]
 exact r2 _ _
theorem F3g {X:Row} {nx n:Nat} {H:Heap} {env env':List (Nat×PV)} (h0:Abs.look H 0=some X) (hX:∃(ty:TypeId) (cs:List T),X = .cells ty (cs.map PV.t))
  (he:∀q∈env',Abs.look env q.1=some q.2/\under 1 q.2=true):Abs.Sub Tryz.prog (G q) 0 ⟨env,H,nx,n⟩ ⟨env',[(0,X)],1,n⟩:=
 sub_R (by omega) (fun q hq=>by
  simp only[List.mem_singleton]at hq;subst hq;obtain⟨ty,cs,rfl⟩:=hX
  exact⟨h0,by omega,D5r cs⟩) he
theorem E3j (c:EC) (hal:c.x.args.length<=1000) (hp:c.x.pred.size<=lim) (hro:∀a∈c.x.args,a.role.size<=lim):A1d Tryz.prog (G q) 32 [.ag c.cs] (· = iv (chkE A0h c.x)):=by
 obtain⟨ta,hcs,hta⟩:=c.ok;rw[hcs]
 obtain⟨x,hx⟩:∃x,x=c.x:=⟨_,rfl⟩
 rw[<-hx]at hal hp hro hta ⊢;have la:=hta.len;have cd:=cd3 (sv x.pred) (iv x.label) ta
 obtain⟨X,hX⟩:∃X,X=eRow x.pred x.label ta:=⟨_,rfl⟩
 have hXc:∃(ty:TypeId) (cs:List T),X = .cells ty (cs.map PV.t):=⟨_,[sv x.pred,iv x.label,ta],hX⟩
 have z:=ldE (H:=[(0,X)]) (k:=0) (p:=x.pred) (l:=x.label) (ta:=ta) (by rw[hX];rfl)
 obtain⟨R,hR⟩:∃R,R=chkE A0h x:=⟨_,rfl⟩
 rw[<-hR];have eN:=C7w false hp;refine B6w.call rfl ?_;(conv in A8z=>cbv);refine A0a A7x ?_;simp -implicitDefEqProofs [cd];rw[show Row.cells 47 [.t (sv x.pred),.t (iv x.label),.t ta]=X from hX.symm];unfold chkE at hR
 cases hn:A0h false x.pred with
 | false=>
  rw[if_pos hn]at hR;rw[hn]at eN;refine A0a A7x ?_;simp -implicitDefEqProofs [tbNm,z.l0,eN,hR]
 | true=>
  rw[if_neg (by rw[hn];decide)]at hR;rw[hn]at eN;refine A0a A7x ?_;simp -implicitDefEqProofs [tbNm,z.l0,eN];refine A0q (α:=Unit) (fun _=>⟨[],[],1,41⟩) (fun _=>R=0) (fun _=>rfl) ?_ ?_
  ·refine A0a A7x ?_;simp -implicitDefEqProofs [z.l2,la];refine A0j ?_;refine A0n (SPm 41 X ta x.args.length) (fun j=>x.args.length-j) (fun j=>j<=x.args.length/\R=chkA A0h (D1m x.args j) (x.args.drop j)) 0 (fun _=>rfl) ⟨Nat.zero_le _,hR⟩ ?_ rfl ?_
   ·exact A0d (by simp -implicitDefEqProofs [SPm])
   rintro j ⟨hj,heq⟩;by_cases hlt:j<x.args.length
   ·obtain⟨a,ha⟩:∃a,x.args[j]?=some a:=⟨_,List.getElem?_eq_getElem hlt⟩
    have i1:=hta.iaddr ha .i64;have hz:eAg.z=2:=rfl;rw[hz,show eAg.enc a=[sv a.role,iv a.var]from rfl]at i1;have w1:IntKind.i64.wrap ((j:Int)+1)=((j+1:Nat):Int):=A0k (by omega) (by omega);have eF:=C7w true (hro a (List.mem_of_getElem? ha));have sl:=E7z a.role;have s2:=fun u v=>st2 1 u v (sv a.role) (iv a.var) 50 [(0,X)]
    obtain⟨H1,hH1⟩:∃H1,H1=[(1,aRow a.role a.var),(0,X)]:=⟨_,rfl⟩
    rw[<-hH1]at s2;have zA:=ldA (H:=H1) (k:=1) (by rw[hH1];rfl)
    have h10:Abs.look H1 0=some X:=by rw[hH1];rfl
    have zX:=ldE (H:=H1) (k:=0) (p:=x.pred) (l:=x.label) (ta:=ta) (by rw[h10,hX]);rw[List.drop_eq_getElem_cons hlt,(List.getElem?_eq_some_iff.1 ha).2,chkA]at heq;by_cases h1:A0h true a.role=false\/a.role=B8h
    ·rw[if_pos h1]at heq;by_cases h2:A0h true a.role=false
     ·rw[h2]at eF;refine A0e A7x ?_;simp -implicitDefEqProofs [SPm,tbNm,hlt,i1,A6j,s2,zA.l0,eF,heq]
     ·have h2:A0h true a.role=true:=by simpa using h2
      have h3:=h1.resolve_left (by rw[h2];decide);rw[h2]at eF;rw[decide_eq_true h3]at sl;refine A0e A7x ?_;simp -implicitDefEqProofs [SPm,tbNm,hlt,i1,A6j,s2,zA.l0,eF,sl,heq]
    ·rw[if_neg h1]at heq
     have h2:A0h true a.role=true:=by
      cases h:A0h true a.role with
      | true=>rfl
      | false=>exact absurd (.inl h) h1
     have h3:¬a.role=B8h:=fun h=>h1 (.inr h);rw[h2]at eF;rw[decide_eq_false h3]at sl;by_cases h0:0<j
     ·obtain⟨k,hk⟩:∃k,j=k+1:=⟨j-1,by omega⟩
      obtain⟨b,hb⟩:∃b,x.args[k]?=some b:=⟨_,List.getElem?_eq_getElem (by omega)⟩
      have i2:=hta.iaddr hb .i64;rw[hz,show eAg.enc b=[sv b.role,iv b.var]from rfl]at i2;have wk:IntKind.i64.wrap ((j:Int)-1)=(k:Int):=A0k (by omega) (by omega)
      have hpv:D1m x.args j=some b.role:=by rw[hk];exact A7k hb
      rw[hpv,D8w]at heq
      have hd:decide ((0:Int)<(j:Int))=true:=by simpa using (by omega:(0:Int)<(j:Int))
      cases hl:A6d b.role a.role with
      | false=>
       rw[hl,if_pos (show(!false)=true from rfl)]at heq;refine A0e A7x ?_;simp -implicitDefEqProofs [SPm,tbNm,hlt,i1,A6j,s2,zA.l0,eF,sl,hd,h0,wk,zX.l2,i2,lp,hl,heq]
      | true=>
       rw[hl,if_neg (by decide)]at heq;refine A0e A7x ?_;simp -implicitDefEqProofs [SPm,tbNm,hlt,i1,A6j,s2,zA.l0,eF,sl,hd,h0,wk,zX.l2,i2,lp,hl,w1];refine Abs.Next.mk (j+1) ⟨⟨hlt,by rw[A7k ha];exact heq⟩,by omega⟩ ?_;exact F3g h10 hXc (by simp -implicitDefEqProofs [SPm,under])
     ·have hj0:j=0:=by omega
      have hpv:D1m x.args j=none:=by rw[hj0];rfl
      rw[hpv,if_neg (show ¬E7y none a.role=true from fun h=>by cases h)]at heq;have hd:¬(0<j):=h0;refine A0e A7x ?_;simp -implicitDefEqProofs [SPm,tbNm,hlt,i1,A6j,s2,zA.l0,eF,sl,hd,w1];refine Abs.Next.mk (j+1) ⟨⟨hlt,by rw[A7k ha];exact heq⟩,by omega⟩ ?_;exact F3g h10 hXc (by simp -implicitDefEqProofs [SPm,under])
   ·have hR:R=0:=by rw[heq,List.drop_of_length_le (by omega)];rfl
    refine A0e A7x ?_;simp -implicitDefEqProofs [SPm,tbNm,hlt];exact Abs.Next.mk () hR (A8d (by omega) (fun q hq=>by cases hq))
  rintro _ hRG;refine A0e A7x ?_;simp -implicitDefEqProofs [hRG]
theorem G0q:GOK Tryz.prog (G q) 32 D1n:=D8y E3j
noncomputable def A9h:A0p:=cm Tryz.f31 9
theorem B7c {q:Gl}:FnOK Tryz.prog (G q) 31 2 9 A9h [(.tmp 4)]:=fk Tryz.func31 (by kernel_rfl) (by kernel_rfl)
noncomputable def B3t:A0p:=cm Tryz.f65 19
theorem C3v {q:Gl}:FnOK Tryz.prog (G q) 65 2 19 B3t [(.tmp 4)]:=fk Tryz.func65 (by kernel_rfl) (by kernel_rfl)
noncomputable def B3u:A0p:=cm Tryz.f47 26
theorem C3w {q:Gl}:FnOK Tryz.prog (G q) 47 2 26 B3u [(.tmp 4)]:=fk Tryz.func47 (by kernel_rfl) (by kernel_rfl)
noncomputable def B1q:A0p:=cm Tryz.f45 48
theorem C2c {q:Gl}:FnOK Tryz.prog (G q) 45 2 48 B1q [(.tmp 4)]:=fk Tryz.func45 (by kernel_rfl) (by kernel_rfl)
noncomputable def B3v:A0p:=cm Tryz.f46 8
theorem C3x {q:Gl}:FnOK Tryz.prog (G q) 46 1 8 B3v [(.tmp 2)]:=fk Tryz.func46 (by kernel_rfl) (by kernel_rfl)
noncomputable def B0l:A0p:=cm Tryz.f92 8
theorem B9c {q:Gl}:FnOK Tryz.prog (G q) 92 1 8 B0l [(.tmp 2)]:=fk Tryz.func92 (by kernel_rfl) (by kernel_rfl)
noncomputable def B0m:A0p:=cm Tryz.f93 8
theorem B9d {q:Gl}:FnOK Tryz.prog (G q) 93 1 8 B0m [(.tmp 2)]:=fk Tryz.func93 (by kernel_rfl) (by kernel_rfl)
noncomputable def B0n:A0p:=cm Tryz.f94 8
theorem B9e {q:Gl}:FnOK Tryz.prog (G q) 94 1 8 B0n [(.tmp 2)]:=fk Tryz.func94 (by kernel_rfl) (by kernel_rfl)
noncomputable def A6y:A0p:=cm Tryz.f116 8
theorem B3b {q:Gl}:FnOK Tryz.prog (G q) 116 2 8 A6y [(.tmp 4)]:=fk Tryz.func116 (by kernel_rfl) (by kernel_rfl)
noncomputable def A5k:A0p:=cm Tryz.f136 32
theorem B0q {q:Gl}:FnOK Tryz.prog (G q) 136 2 32 A5k [(.tmp 4)]:=fk Tryz.func136 (by kernel_rfl) (by kernel_rfl)
noncomputable def A6z:A0p:=cm Tryz.f157 102
theorem B3c {q:Gl}:FnOK Tryz.prog (G q) 157 5 102 A6z [(.tmp 10),(.tmp 11)]:=fk Tryz.func157 (by kernel_rfl) (by kernel_rfl)
noncomputable def A5l:A0p:=cm Tryz.f171 8
theorem B0r {q:Gl}:FnOK Tryz.prog (G q) 171 1 8 A5l [(.tmp 2)]:=fk Tryz.func171 (by kernel_rfl) (by kernel_rfl)
noncomputable def C5n:A0p:=cm Tryz.f75 30
theorem E3k {q:Gl}:FnOK Tryz.prog (G q) 75 2 30 C5n [(.tmp 4),(.tmp 5)]:=fk Tryz.func75 (by kernel_rfl) (by kernel_rfl)
noncomputable def B8o:A0p:=cm Tryz.f118 51
theorem D1q {q:Gl}:FnOK Tryz.prog (G q) 118 2 51 B8o [(.tmp 4),(.tmp 5)]:=fk Tryz.func118 (by kernel_rfl) (by kernel_rfl)
def idxS (w:ByteArray):Nat->List ByteArray->Int
 | _,[]=>-1
 | i,x::r=>if x=w then(i:Int)else idxS w (i+1) r
def SIxB (t:T) (w:ByteArray) (n j:Nat):A0c:=⟨[(8,.t (iv (j:Int))),(7,.t (iv (n:Int))),(6,.t t),(1,.t (sv w)),(0,.t t)],[],0,19⟩
theorem E8d {t:T} {l:List ByteArray} (w:ByteArray) (ht:IsS eStr t l) (hl:l.length<=1000000):A1d Tryz.prog (G q) 65 [t,sv w] (· = iv (idxS w 0 l)):=by
 have l1:=ht.len
 obtain⟨R,hR⟩:∃R,R=idxS w 0 l:=⟨_,rfl⟩
 rw[<-hR];refine C3v.call rfl ?_;(conv in B3t=>cbv);refine A0a A0g ?_;simp -implicitDefEqProofs;refine A0q (α:=Unit) (fun _=>⟨[],[],0,19⟩) (fun _=>R = -1) (fun _=>rfl) ?_ ?_
 ·refine A0a A0g ?_;simp -implicitDefEqProofs [l1];refine A0j ?_;refine A0n (SIxB t w l.length) (fun j=>l.length-j) (fun j=>j<=l.length/\R=idxS w j (l.drop j)) 0 (fun _=>rfl) ⟨Nat.zero_le _,hR⟩ ?_ rfl ?_
  ·refine A0d ?_;simp -implicitDefEqProofs [SIxB]
  rintro j ⟨hj,heq⟩;by_cases hlt:j<l.length
  ·obtain⟨x,hx⟩:∃x,l[j]?=some x:=⟨_,List.getElem?_eq_getElem hlt⟩
   have i1:A2e 1 (.t t) (.t (iv (j:Int)))=_:=ht.iaddr hx .i64;have ld:∀(H:Heap) (r:List T),A0t false 1 H (.t (.pt (eStr.enc x++r)))=some (.t (sv x)):=fun _ _=>rfl;have e1:IntKind.i64.wrap ((j:Int)+1)=((j+1:Nat):Int):=A0k (by omega) (by omega);rw[List.drop_eq_getElem_cons hlt,(List.getElem?_eq_some_iff.1 hx).2,idxS]at heq;refine A0e A0g ?_;by_cases he:x=w
   ·subst he;rw[if_pos rfl]at heq;simp -implicitDefEqProofs [SIxB,hlt,i1,ld,A2g,heq]
   ·rw[if_neg he]at heq;have hb:¬w=x:=Ne.symm he;simp -implicitDefEqProofs [SIxB,hlt,i1,ld,A2g,hb,e1];refine Abs.Next.mk (j+1) ⟨⟨by omega,heq⟩,by omega⟩ ?_;exact A0d (by simp -implicitDefEqProofs)
  ·rw[List.drop_of_length_le (by omega),idxS]at heq;refine A0e A0g ?_;simp -implicitDefEqProofs [SIxB,hlt];exact Abs.Next.mk () heq (A0d (by simp -implicitDefEqProofs))
 rintro _ h;refine A0e A0g ?_;simp -implicitDefEqProofs [h]
noncomputable def gIx:List T->Option T:=g2 (tSl eStr) tStr fun l w=>if l.length<=1000000 then some (iv (idxS w 0 l))else none
theorem hIx:GOK Tryz.prog (G q) 65 gIx:=D0o fun a b l w r ha hb hr=>by
 obtain rfl:b=sv w:=hb;split at hr
 ·rename_i h;injection hr with hr;subst hr;exact E8d w ha h
 ·cases hr
theorem G0r {t:T} {l:List ByteArray} (w:ByteArray) (ht:IsS eStr t l) (hl:l.length<=1000000):gIx [t,sv w]=some (iv (idxS w 0 l)):=by
 show g2 _ _ _ _=_;rw[C6w (τ:=tSl eStr) (σ:=tStr) ht rfl,if_pos hl]
noncomputable def gCt:List T->Option T:=g2 (tSl eStr) tStr fun l w=>if l.length<=1000000 then some (bv (decide (0<=idxS w 0 l)))else none
theorem hCt:GOK Tryz.prog (G q) 31 gCt:=D0o fun a b l w r ha hb hr=>by
 obtain rfl:b=sv w:=hb;split at hr
 ·rename_i h;injection hr with hr;subst hr;have e:=G0r w ha h;refine B7c.runs ((A0s.cons (hIx (q:=q)) .nil).ctx mixed) rfl ?_
  (conv in A9h=>cbv);simp -implicitDefEqProofs [e]
 ·cases hr
theorem G0s {t:T} {l:List ByteArray} (w:ByteArray) (ht:IsS eStr t l) (hl:l.length<=1000000):gCt [t,sv w]=some (bv (decide (0<=idxS w 0 l))):=by
 show g2 _ _ _ _=_;rw[C6w (τ:=tSl eStr) (σ:=tStr) ht rfl,if_pos hl]
abbrev tyS:Nat:=9
def B3w:List ByteArray:=[⟨#[104]⟩,⟨#[101]⟩,⟨#[120]⟩,⟨#[105]⟩]
abbrev sT (s:ByteArray):PV:=.t (.v (.string s))
theorem G0t (n:Nat):A1v tyS 1 [.string ⟨#[]⟩] 4 [(0,sT ⟨#[104]⟩),(1,sT ⟨#[101]⟩),(2,sT ⟨#[120]⟩),(3,sT ⟨#[105]⟩)] n=some (.row n 0 4 1,A0l eStr tyS B3w):=rfl
theorem G0u (n:Nat) (H:Heap) (x:ByteArray):toTs ((n,A0l eStr tyS B3w)::H) [.row n 0 4 1,.t (sv x)]=some ([slT eStr B3w,sv x],[n]):=by
 have h:toT ((n,A0l eStr tyS B3w)::H) (.row n 0 B3w.length eStr.z)=some (slT eStr B3w,[n]):=A2s (by rw[look_cons,if_pos rfl]);simp only[toTs];rw[show(PV.row n 0 4 1)=PV.row n 0 B3w.length eStr.z from rfl,h];rfl
theorem gCt_s (x:ByteArray):gCt [slT eStr B3w,sv x]=some (bv (A3d x)):=by
 rw[G0s x (.inr rfl) (by decide)];congr 2;unfold A3d;simp only[B3w,idxS];by_cases h1:x=wH
 ·subst h1;rfl
 by_cases h2:x=⟨#[101]⟩
 ·subst h2;rfl
 by_cases h3:x=⟨#[120]⟩
 ·subst h3;rfl
 by_cases h4:x=⟨#[105]⟩
 ·subst h4;rfl
 rw[decide_eq_false h1,decide_eq_false h2,decide_eq_false h3,decide_eq_false h4,if_neg (fun h=>h1 h.symm),if_neg (fun h=>h2 h.symm),if_neg (fun h=>h3 h.symm),if_neg (fun h=>h4 h.symm)];rfl
theorem F7g (m:Mr) (h:¬(16<m.rels.length\/16<m.cons.length\/256<m.vars.length)):A3c A0h m=allC A3d m.vars 1 (chkC m.rels (allC (fun x=>decide (inR m.vars.length x)) (occ m) 2 (allC (fun x=>decide (vS m.vars x=wH)) (hnd m) 2 (if A2q m then 0 else 3)))):=by
 unfold A3c;rw[E8a m h];unfold allC chkC
 cases m.vars.all A3d with
 | false=>rfl
 | true=>
  by_cases he:C1y A0h m.rels=0
  ·simp only[he,ne_eq,not_true,if_false]
   cases (occ m).all fun x=>decide (inR m.vars.length x)with
   | false=>rfl
   | true=>
    cases (hnd m).all fun x=>decide (vS m.vars x=wH)with
    | false=>rfl
    | true=>rfl
  ·simp[he]
def D1r (n:Nat) (l:List Int) (V:Nat):Int:=match D0r n l with
 | none=>3
 | some k=>if k<V then 3 else 0
theorem E3l {l:List Int} {n j V:Nat} {x:Int} (h:l[j]?=some x):D1r n (l.drop j) V=if(n:Int)<x then 3 else if x=(n:Int)then D1r (n+1) (l.drop (j+1)) V else D1r n (l.drop (j+1)) V:=by
 have hlt:=(List.getElem?_eq_some_iff.1 h).1;unfold D1r;rw[List.drop_eq_getElem_cons hlt,(List.getElem?_eq_some_iff.1 h).2,D0r];by_cases h1:(n:Int)<x
 ·rw[if_pos h1,if_pos h1]
 ·rw[if_neg h1,if_neg h1]
  by_cases h2:x=(n:Int)
  ·rw[if_pos h2,if_pos h2]
  ·rw[if_neg h2,if_neg h2]
theorem C7y:∀{l acc:List Int} {x:Int},x∈fst1 acc l->x∈acc\/x∈l
 | [],acc,x,h=>.inl h
 | y::r,acc,x,h=>by
  rw[fst1]at h;split at h
  ·rcases C7y h with h | h
   ·exact .inl h
   ·exact .inr (List.mem_cons_of_mem _ h)
  ·rcases C7y h with h | h
   ·rcases List.mem_append.1 h with h | h
    ·exact .inl h
    ·exact .inr (by rw[List.mem_singleton.1 h];exact List.mem_cons_self)
   ·exact .inr (List.mem_cons_of_mem _ h)
theorem E8e (m:Mr) (h:AllP (fun x=>decide (inR m.vars.length x)) (occ m)):D1r 0 (occ m) m.vars.length=if A2q m then 0 else 3:=by
 unfold AllP at h;rw[List.all_eq_true]at h;have hin:∀x∈occ m,inR m.vars.length x:=fun x hx=>of_decide_eq_true (h x hx);have key:=C1a (l:=occ m) (n:=0) fun x hx=>(hin x hx).1;unfold D1r A2q
 cases hs:D0r 0 (occ m)with
 | none=>
  have:¬fsts m=upN m.vars.length:=fun he=>by
   have:=(key m.vars.length).2 he;rw[hs]at this;cases this
  simp[this]
 | some k=>
  have hk:fsts m=upN k:=(key k).1 hs
  have hle:k<=m.vars.length:=by
   rcases Nat.eq_zero_or_pos k with h0 | h0
   ·omega
   ·have hm:((k-1:Nat):Int)∈fsts m:=by rw[hk,A2h];omega
    rcases C7y hm with h1 | h1
    ·cases h1
    ·have:=(hin _ h1).2;omega
  by_cases hv:k<m.vars.length
  ·have:¬fsts m=upN m.vars.length:=fun he=>by
    have:=congrArg List.length (hk.symm.trans he);rw[A2u,A2u]at this;omega
   simp[hv,this]
  ·have:fsts m=upN m.vars.length:=by rw[hk,show k=m.vars.length by omega]
   simp[hv,this]
noncomputable def tbPc:Tbl:=[(31,gCt),(32,D1n),(33,gOcc),(34,gHnd)]
theorem A4s:Ctx Tryz.prog (G q) (orc tbPc):=(A0s.cons hCt (.cons G0q (.cons hPOcc (.cons hPHnd .nil)))).ctx mixed
def SP1 (X:Row) (t:T) (n j:Nat):A0c:=⟨[(35,.t (iv (j:Int))),(34,.t (iv (n:Int))),(33,.t t),(1,.ptr 0 0)],[(0,X)],1,109⟩
def SP2 (X:Row) (t:T) (n j:Nat):A0c:=⟨[(47,.t (iv (j:Int))),(46,.t (iv (n:Int))),(45,.t t),(1,.ptr 0 0)],[(0,X)],1,109⟩
def SP3 (X:Row) (t:T) (n j:Nat):A0c:=⟨[(61,.t (iv (j:Int))),(60,.t (iv (n:Int))),(59,.t t),(8,.t t),(1,.ptr 0 0)],[(0,X)],1,109⟩
def SP4 (X:Row) (t' t:T) (n j:Nat):A0c:=⟨[(78,.t (iv (j:Int))),(77,.t (iv (n:Int))),(76,.t t),(8,.t t'),(1,.ptr 0 0)],[(0,X)],1,109⟩
def SP5 (X:Row) (t:T) (n j k:Nat):A0c:=⟨[(91,.t (iv (j:Int))),(90,.t (iv (n:Int))),(89,.t t),(13,.t (iv (k:Int))),(1,.ptr 0 0)],[(0,X)],1,109⟩
theorem D5s {m:Mr} {cs:List T} (hm:IsMr m cs) (hs:SmM m):A1d Tryz.prog (G q) 14 [.ag cs] (· = iv (A3c A0h m)):=by
 have eO:=D5o hm hs;obtain⟨tv,tr,tc,rl,rfl,hv,hr,hrm,hc⟩:=hm
 obtain⟨X,hX⟩:∃X,X=mRow [iv m.top,iv m.index,tv,tr,tc]:=⟨_,rfl⟩
 have hXc:∃(ty:TypeId) (cs:List T),X = .cells ty (cs.map PV.t):=⟨_,_,hX⟩
 have z:=ldM (H:=[(0,X)]) (k:=0) (by rw[hX];rfl);have lv:=hv.len;have lr:=hr.len;have lc:=hc.len
 have hrl:rl.length=m.rels.length:=by rw[<-hrm,List.length_map]
 have hsr:=hs.rels;have hsc:=hs.cons;have hsv:=hs.vars;have cd:=cd5 (iv m.top) (iv m.index) tv tr tc
 obtain⟨R,hR⟩:∃R,R=A3c A0h m:=⟨_,rfl⟩
 rw[<-hR];refine D5h.call rfl ?_;(conv in C1m=>cbv);refine A0a A4s ?_;simp -implicitDefEqProofs [cd];rw[show Row.cells 26 [.t (iv m.top),.t (iv m.index),.t tv,.t tr,.t tc]=X from hX.symm];by_cases h1:16<m.rels.length\/16<m.cons.length\/256<m.vars.length
 ·have hR:R=7:=by
   rw[hR];unfold A3c A4f;rw[if_pos h1];rfl
  by_cases a1:16<rl.length
  ·have b1:decide ((16:Int)<(rl.length:Int))=true:=by simpa using (by omega:(16:Int)<(rl.length:Int))
   refine A0a A4s ?_;simp -implicitDefEqProofs [z.l3,lr,b1,hR]
  ·have b1:decide ((16:Int)<(rl.length:Int))=false:=by simpa using (by omega:(rl.length:Int)<=16)
   by_cases a2:16<m.cons.length
   ·have b2:decide ((16:Int)<(m.cons.length:Int))=true:=by simpa using (by omega:(16:Int)<(m.cons.length:Int))
    refine A0a A4s ?_;simp -implicitDefEqProofs [z.l3,z.l4,lr,lc,b1,b2,hR]
   ·have b2:decide ((16:Int)<(m.cons.length:Int))=false:=by simpa using (by omega:(m.cons.length:Int)<=16)
    have b3:decide ((256:Int)<(m.vars.length:Int))=true:=by simpa using (by omega:(256:Int)<(m.vars.length:Int))
    refine A0a A4s ?_;simp -implicitDefEqProofs [z.l3,z.l4,z.l2,lr,lc,lv,b1,b2,b3,hR]
 have hR:R=allC A3d m.vars 1 (chkC m.rels (allC (fun x=>decide (inR m.vars.length x)) (occ m) 2 (allC (fun x=>decide (vS m.vars x=wH)) (hnd m) 2 (if A2q m then 0 else 3)))):=by rw[hR];exact F7g m h1
 have b1:decide ((16:Int)<(rl.length:Int))=false:=by simpa using (by omega:(rl.length:Int)<=16)
 have b2:decide ((16:Int)<(m.cons.length:Int))=false:=by simpa using (by omega:(m.cons.length:Int)<=16)
 have b3:decide ((256:Int)<(m.vars.length:Int))=false:=by simpa using (by omega:(m.vars.length:Int)<=256)
 refine A0a A4s ?_;simp -implicitDefEqProofs [z.l3,z.l4,z.l2,lr,lc,lv,b1,b2,b3]
 obtain⟨K1,hK1⟩:∃K1,K1=chkC m.rels (allC (fun x=>decide (inR m.vars.length x)) (occ m) 2 (allC (fun x=>decide (vS m.vars x=wH)) (hnd m) 2 (if A2q m then 0 else 3))):=⟨_,rfl⟩
 rw[<-hK1]at hR;refine A0q (α:=Unit) (fun _=>⟨[(1,.ptr 0 0)],[(0,X)],1,109⟩) (fun _=>R=K1) (fun _=>rfl) ?_ ?_
 ·refine A0a A4s ?_;simp -implicitDefEqProofs [z.l2,lv];refine A0j ?_;refine A0n (SP1 X tv m.vars.length) (fun j=>m.vars.length-j) (fun j=>j<=m.vars.length/\R=allC A3d (m.vars.drop j) 1 K1) 0 (fun _=>rfl) ⟨Nat.zero_le _,hR⟩ ?_ rfl ?_
  ·exact A0d (by simp -implicitDefEqProofs [SP1])
  rintro j ⟨hj,heq⟩;by_cases hlt:j<m.vars.length
  ·obtain⟨x,hx⟩:∃x,m.vars[j]?=some x:=⟨_,List.getElem?_eq_getElem hlt⟩
   have i1:=hv.iaddr hx .i64;have hz:eStr.z=1:=rfl;rw[hz,show eStr.enc x=[sv x]from rfl]at i1;have w1:IntKind.i64.wrap ((j:Int)+1)=((j+1:Nat):Int):=A0k (by omega) (by omega);have eS:=gCt_s x;rw[A9g hx]at heq;have h10:Abs.look [(1,A0l eStr tyS B3w),(0,X)] 0=some X:=rfl
   cases hsx:A3d x with
   | false=>
    rw[if_neg (by rw[hsx];decide)]at heq;rw[hsx]at eS;refine A0e A4s ?_;simp -implicitDefEqProofs [SP1,tbPc,hlt,i1,lp,G0t,G0u,eS,heq,-toTs]
   | true=>
    rw[if_pos hsx]at heq;rw[hsx]at eS;refine A0e A4s ?_;simp -implicitDefEqProofs [SP1,tbPc,hlt,i1,lp,G0t,G0u,eS,w1,-toTs];exact Abs.Next.mk (j+1) ⟨⟨hlt,heq⟩,by omega⟩ (F3g h10 hXc (by simp -implicitDefEqProofs [SP1,under]))
  ·have hR:R=K1:=by rw[heq,B2r _ (by omega)]
   refine A0e A4s ?_;simp -implicitDefEqProofs [SP1,hlt];exact Abs.Next.mk () hR (A0d (by simp -implicitDefEqProofs))
 rintro _ hRK;clear hR
 obtain⟨K2,hK2⟩:∃K2,K2=allC (fun x=>decide (inR m.vars.length x)) (occ m) 2 (allC (fun x=>decide (vS m.vars x=wH)) (hnd m) 2 (if A2q m then 0 else 3)):=⟨_,rfl⟩
 rw[<-hK2]at hK1;rw[hK1]at hRK;refine A0q (α:=Unit) (fun _=>⟨[(1,.ptr 0 0)],[(0,X)],1,109⟩) (fun _=>R=K2) (fun _=>rfl) ?_ ?_
 ·refine A0a A4s ?_;simp -implicitDefEqProofs [z.l3,lr];refine A0j ?_;refine A0n (SP2 X tr rl.length) (fun j=>m.rels.length-j) (fun j=>j<=m.rels.length/\R=chkC (m.rels.drop j) K2) 0 (fun _=>rfl) ⟨Nat.zero_le _,hRK⟩ ?_ rfl ?_
  ·exact A0d (by simp -implicitDefEqProofs [SP2])
  rintro j ⟨hj,heq⟩;by_cases hlt:j<rl.length
  ·obtain⟨c,hc1⟩:∃c,rl[j]?=some c:=⟨_,List.getElem?_eq_getElem (by omega)⟩
   have hx:m.rels[j]?=some c.x:=by rw[<-hrm,List.getElem?_map,hc1];rfl
   have hxm:=List.mem_of_getElem? hx;obtain⟨ta,hcs,hta⟩:=c.ok;have eC:=D8x c (hs.args _ hxm) (hs.strs _ hxm).1 (hs.strs _ hxm).2;have i1:=hr.iaddr hc1 .i64;have hz:eEC.z=3:=rfl;rw[hz,show eEC.enc c=c.cs from rfl,hcs]at i1;rw[hcs]at eC;have w1:IntKind.i64.wrap ((j:Int)+1)=((j+1:Nat):Int):=A0k (by omega) (by omega);have s3:=fun a b d=>st3 1 a b d (sv c.x.pred) (iv c.x.label) ta 47 [(0,X)] (cd3 _ _ _)
   obtain⟨H1,hH1⟩:∃H1,H1=[(1,eRow c.x.pred c.x.label ta),(0,X)]:=⟨_,rfl⟩
   have s3:∀a b d,A0x 3 [(1,.cells 47 [a,b,d]),(0,X)] (.ptr 1 0) (.t (.ag [sv c.x.pred,iv c.x.label,ta]))=some H1:=fun a b d=>by rw[hH1];exact s3 a b d
   have la:A0t true 3 H1 (.ptr 1 0)=some (.t (.ag [sv c.x.pred,iv c.x.label,ta])):=by rw[hH1];rfl
   have h10:Abs.look H1 0=some X:=by rw[hH1];rfl
   rw[D1p hx]at heq
   obtain⟨e,he⟩:∃e,e=chkE A0h c.x:=⟨_,rfl⟩
   rw[<-he]at heq eC;by_cases h0:e=0
   ·have be:(e != 0)=false:=by simpa using h0
    rw[if_pos h0]at heq;refine A0e A4s ?_;simp -implicitDefEqProofs [SP2,tbPc,hlt,i1,l3_c,s3,la,eC,be,w1];exact Abs.Next.mk (j+1) ⟨⟨by omega,heq⟩,by omega⟩ (F3g h10 hXc (by simp -implicitDefEqProofs [SP2,under]))
   ·have be:(e != 0)=true:=by simpa using h0
    rw[if_neg h0]at heq;refine A0e A4s ?_;simp -implicitDefEqProofs [SP2,tbPc,hlt,i1,l3_c,s3,la,eC,be,heq]
  ·have hR:R=K2:=by rw[heq,D9a (by omega)]
   refine A0e A4s ?_;simp -implicitDefEqProofs [SP2,hlt];exact Abs.Next.mk () hR (A0d (by simp -implicitDefEqProofs))
 rintro _ hR2;clear hRK
 obtain⟨L,hL⟩:∃L,L=occ m:=⟨_,rfl⟩
 rw[<-hL]at eO hK2
 obtain⟨tl,htl⟩:∃tl,tl=slT eInt L:=⟨_,rfl⟩
 have hTl:IsS eInt tl L:=.inr htl;rw[<-htl]at eO;have ll:=hTl.len
 have hLl:L.length<=300000000:=by rw[hL];exact B7b hs
 refine A0a A4s ?_;simp -implicitDefEqProofs [tbPc,z.all,eO]
 obtain⟨K3,hK3⟩:∃K3,K3=allC (fun x=>decide (vS m.vars x=wH)) (hnd m) 2 (if A2q m then 0 else 3):=⟨_,rfl⟩
 rw[<-hK3]at hK2;rw[hK2]at hR2;refine A0q (α:=Unit) (fun _=>⟨[(8,.t tl),(1,.ptr 0 0)],[(0,X)],1,109⟩) (fun _=>R=K3/\AllP (fun x=>decide (inR m.vars.length x)) L) (fun _=>rfl) ?_ ?_
 ·refine A0a A4s ?_;simp -implicitDefEqProofs [ll];refine A0j ?_;refine A0n (SP3 X tl L.length) (fun j=>L.length-j) (fun j=>j<=L.length/\(AllP (fun x=>decide (inR m.vars.length x)) L ↔ AllP (fun x=>decide (inR m.vars.length x)) (L.drop j))/\R=allC (fun x=>decide (inR m.vars.length x)) (L.drop j) 2 K3) 0 (fun _=>rfl) ⟨Nat.zero_le _,Iff.rfl,hR2⟩ ?_ rfl ?_
  ·exact A0d (by simp -implicitDefEqProofs [SP3])
  rintro j ⟨hj,hall,heq⟩;by_cases hlt:j<L.length
  ·obtain⟨x,hx⟩:∃x,L[j]?=some x:=⟨_,List.getElem?_eq_getElem hlt⟩
   have i1:=hTl.iaddr hx .i64;have hz:eInt.z=1:=rfl;rw[hz,show eInt.enc x=[iv x]from rfl]at i1;have w1:IntKind.i64.wrap ((j:Int)+1)=((j+1:Nat):Int):=A0k (by omega) (by omega);rw[A9g hx]at heq;rw[D1o hx]at hall;by_cases hn:x<0
   ·have hin:decide (inR m.vars.length x)=false:=by rw[decide_eq_false_iff_not];exact fun h=>by have:=h.1;omega
    rw[if_neg (by rw[hin];decide)]at heq;refine A0e A4s ?_;simp -implicitDefEqProofs [SP3,tbPc,ll,hlt,i1,lp,hn,heq]
   ·by_cases hg:(m.vars.length:Int)<=x
    ·have hin:decide (inR m.vars.length x)=false:=by rw[decide_eq_false_iff_not];exact fun h=>by have:=h.2;omega
     rw[if_neg (by rw[hin];decide)]at heq;refine A0e A4s ?_;simp -implicitDefEqProofs [SP3,tbPc,ll,hlt,i1,lp,hn,z.l2,lv,hg,heq]
    ·have hin:decide (inR m.vars.length x)=true:=decide_eq_true ⟨by omega,by omega⟩;rw[if_pos hin]at heq;have hall:=hall.trans (and_iff_right hin);refine A0e A4s ?_;simp -implicitDefEqProofs [SP3,tbPc,ll,hlt,i1,lp,hn,z.l2,lv,hg,w1];exact Abs.Next.mk (j+1) ⟨⟨hlt,hall,heq⟩,by omega⟩ (A0d (by simp -implicitDefEqProofs [SP3]))
  ·rw[B2r _ (by omega)]at heq;have hall:=hall.2 (D8z _ (by omega));refine A0e A4s ?_;simp -implicitDefEqProofs [SP3,ll,hlt];exact Abs.Next.mk () ⟨heq,hall⟩ (A0d (by simp -implicitDefEqProofs))
 rintro _ ⟨hR3,hok⟩
 obtain⟨D,hD⟩:∃D,D=hnd m:=⟨_,rfl⟩
 have hsub:∀x∈D,inR m.vars.length x:=fun x hx=>by
  unfold AllP at hok;rw[List.all_eq_true]at hok;exact of_decide_eq_true (hok x (by rw[hL];exact D5p m x (by rw[<-hD];exact hx)))
 rw[<-hD]at hK3
 obtain⟨th,hth⟩:∃th,th=slT eInt D:=⟨_,rfl⟩
 have hTh:IsS eInt th D:=.inr hth
 have eH:gHnd [.ag [iv m.top,iv m.index,tv,tr,tc]]=some th:=by unfold gHnd;rw[hth,hD];exact B3a _ ⟨tv,tr,tc,rl,rfl,hv,hr,hrm,hc⟩ hs
 have lh:=hTh.len
 have hDl:D.length<=1000000:=by rw[hD];exact E7v hs
 rw[hK3]at hR3
 obtain⟨K4,hK4⟩:∃K4:Int,K4=if A2q m then 0 else 3:=⟨_,rfl⟩
 rw[<-hK4]at hR3;refine A0q (α:=Unit) (fun _=>⟨[(8,.t tl),(1,.ptr 0 0)],[(0,X)],1,109⟩) (fun _=>R=K4) (fun _=>rfl) ?_ ?_
 ·refine A0a A4s ?_;simp -implicitDefEqProofs [tbPc,z.all,eH,lh];refine A0j ?_;refine A0n (SP4 X tl th D.length) (fun j=>D.length-j) (fun j=>j<=D.length/\R=allC (fun x=>decide (vS m.vars x=wH)) (D.drop j) 2 K4) 0 (fun _=>rfl) ⟨Nat.zero_le _,hR3⟩ ?_ rfl ?_
  ·exact A0d (by simp -implicitDefEqProofs [SP4])
  rintro j ⟨hj,heq⟩;by_cases hlt:j<D.length
  ·obtain⟨x,hx⟩:∃x,D[j]?=some x:=⟨_,List.getElem?_eq_getElem hlt⟩
   have i1:=hTh.iaddr hx .i64;have hz:eInt.z=1:=rfl;rw[hz,show eInt.enc x=[iv x]from rfl]at i1;have hin:=hsub x (List.mem_of_getElem? hx)
   obtain⟨n,rfl⟩:∃n:Nat,x=(n:Int):=⟨x.toNat,by have:=hin.1;omega⟩
   have hnl:n<m.vars.length:=by have:=hin.2;omega
   obtain⟨s,hs1⟩:∃s,m.vars[n]?=some s:=⟨_,List.getElem?_eq_getElem hnl⟩
   have i2:=hv.iaddr hs1 .i64;have hzs:eStr.z=1:=rfl;rw[hzs,show eStr.enc s=[sv s]from rfl]at i2;have w1:IntKind.i64.wrap ((j:Int)+1)=((j+1:Nat):Int):=A0k (by omega) (by omega);rw[A9g hx,G0o hs1]at heq;have sh:=G0p s;by_cases hsw:s=wH
   ·rw[if_pos (decide_eq_true hsw)]at heq;rw[decide_eq_true hsw]at sh;refine A0e A4s ?_;simp -implicitDefEqProofs [SP4,tbPc,lh,hlt,i1,lp,z.l2,i2,sh,w1];exact Abs.Next.mk (j+1) ⟨⟨hlt,heq⟩,by omega⟩ (A0d (by simp -implicitDefEqProofs [SP4]))
   ·rw[if_neg (by rw[decide_eq_false hsw];decide)]at heq;rw[decide_eq_false hsw]at sh;refine A0e A4s ?_;simp -implicitDefEqProofs [SP4,tbPc,lh,hlt,i1,lp,z.l2,i2,sh,heq]
  ·have hR:R=K4:=by rw[heq,B2r _ (by omega)]
   refine A0e A4s ?_;simp -implicitDefEqProofs [SP4,lh,hlt];exact Abs.Next.mk () hR (A0d (by simp -implicitDefEqProofs))
 rintro _ hR4;clear hR3 hR2
 have hR5:R=D1r 0 L m.vars.length:=by rw[hR4,hK4,hL];exact(E8e m (by rw[<-hL];exact hok)).symm
 refine A0a A4s ?_;simp -implicitDefEqProofs;refine A0q (α:=Nat) (fun n=>⟨[(13,.t (iv (n:Int))),(1,.ptr 0 0)],[(0,X)],1,109⟩) (fun n=>R=if n<m.vars.length then 3 else 0) (fun _=>rfl) ?_ ?_
 ·refine A0a A4s ?_;simp -implicitDefEqProofs [ll];refine A0j ?_;refine A0n (α:=Nat×Nat) (fun p=>SP5 X tl L.length p.1 p.2) (fun p=>L.length-p.1) (fun p=>p.1<=L.length/\p.2<=p.1/\R=D1r p.2 (L.drop p.1) m.vars.length) (0,0) (fun _=>rfl) ⟨Nat.zero_le _,Nat.le_refl _,hR5⟩ ?_ rfl ?_
  ·exact A0d (by simp -implicitDefEqProofs [SP5])
  rintro⟨j,n⟩ ⟨hj,hn,heq⟩;simp only at hj hn heq;by_cases hlt:j<L.length
  ·obtain⟨x,hx⟩:∃x,L[j]?=some x:=⟨_,List.getElem?_eq_getElem hlt⟩
   have i1:=hTl.iaddr hx .i64;have hz:eInt.z=1:=rfl;rw[hz,show eInt.enc x=[iv x]from rfl]at i1;have w1:IntKind.i64.wrap ((j:Int)+1)=((j+1:Nat):Int):=A0k (by omega) (by omega);have w2:IntKind.i64.wrap ((n:Int)+1)=((n+1:Nat):Int):=A0k (by omega) (by omega);rw[E3l hx]at heq;by_cases hg:(n:Int)<x
   ·rw[if_pos hg]at heq;refine A0e A4s ?_;simp -implicitDefEqProofs [SP5,hlt,i1,lp,hg,heq]
   ·rw[if_neg hg]at heq
    by_cases he:x=(n:Int)
    ·rw[if_pos he]at heq
     have be:(x==(n:Int))=true:=by simpa using he
     refine A0e A4s ?_;simp -implicitDefEqProofs [SP5,hlt,i1,lp,hg,be,w1,w2];exact Abs.Next.mk (j+1,n+1) ⟨⟨hlt,by show n+1<=j+1;omega,heq⟩,by show L.length-(j+1)<L.length-j;omega⟩ (A0d (by simp -implicitDefEqProofs [SP5]))
    ·rw[if_neg he]at heq
     have be:(x==(n:Int))=false:=by simpa using he
     refine A0e A4s ?_;simp -implicitDefEqProofs [SP5,hlt,i1,lp,hg,be,w1];exact Abs.Next.mk (j+1,n) ⟨⟨hlt,by show n<=j+1;omega,heq⟩,by show L.length-(j+1)<L.length-j;omega⟩ (A0d (by simp -implicitDefEqProofs [SP5]))
  ·rw[List.drop_of_length_le (by omega)]at heq;refine A0e A4s ?_;simp -implicitDefEqProofs [SP5,hlt];exact Abs.Next.mk n heq (A0d (by simp -implicitDefEqProofs))
 rintro n hRn;by_cases hnv:n<m.vars.length
 ·rw[if_pos hnv]at hRn;refine A0e A4s ?_;simp -implicitDefEqProofs [z.l2,lv,hnv,hRn]
 ·rw[if_neg hnv]at hRn;refine A0e A4s ?_;simp -implicitDefEqProofs [z.l2,lv,hnv,hRn]
theorem D1s:GOK Tryz.prog (G q) 14 C2b:=E3i fun _ _ h hs=>D5s h hs
end Go.Proofs.YtmgjopafgboljaaGreatDoor
