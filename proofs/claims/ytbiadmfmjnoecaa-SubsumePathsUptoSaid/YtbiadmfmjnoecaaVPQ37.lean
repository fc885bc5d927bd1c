/-
 Auxiliary facts. No statement of the program stands here.
-/
import Derived.Test.YtbiadmfmjnoecaaVPQ34
import Derived.Test.YtbiadmfmjnoecaaVPQ35
import Derived.Test.YtbiadmfmjnoecaaVPQ36
import Derived.Test.YtbiadmfmjnoecaaVPQ30
import Derived.Test.YtbiadmfmjnoecaaVPQ14
import Derived.Test.YtbiadmfmjnoecaaVPQ12
import Derived.Test.YtbiadmfmjnoecaaVPQ31
import Derived.Test.YtbiadmfmjnoecaaVPQ32
import Derived.Test.YtbiadmfmjnoecaaVPQ29
namespace Go.Proofs.Ytbiadmfmjnoecaa
set_option linter.unusedSimpArgs false
set_option linter.unusedVariables false
open Go Go.Abs
set_option maxRecDepth 100000
def hdC:Code->Code
 | .seq x _=>x
 | c=>c
def tlC:Code->Code
 | .seq _ y=>y
 | c=>c
def inC:Code->Code
 | .block _ c=>c
 | .loop c=>c
 | c=>c
def yesC:Code->Code
 | .cond _ x _=>x
 | c=>c
def E0d:Code->Array Oper
 | .region _ ops _=>ops
 | _=>#[]
def idC:Code->Nat
 | .region k _ _=>k
 | _=>0
noncomputable def b93:Code:=match Try.f93.body with
 | some c=>c
 | none=>.skip
noncomputable def B93:Code:=inC (inC (tlC (tlC (tlC (tlC b93)))))
noncomputable def K93:Code:=inC (hdC (tlC B93))
noncomputable def E93:Code:=inC (inC (tlC (tlC K93)))
noncomputable def g93:Code:=inC (hdC (tlC (tlC E93)))
noncomputable def D6x:Code:=yesC (tlC (tlC g93))
noncomputable def o93Y:Array Oper:=E0d (hdC (hdC K93))
noncomputable def o93Z:Array Oper:=E0d (tlC (tlC D6x))
theorem E3g:Try.f93.body=some b93:=by kernel_rfl
theorem G2g:b93 = .seq (hdC b93) (.seq (hdC (tlC b93)) (.seq (hdC (tlC (tlC b93))) (.seq (hdC (tlC (tlC (tlC b93)))) (.block 0 (.loop B93))))):=by kernel_rfl
theorem G2h:B93 = .seq (hdC B93) (.seq (.block 1 K93) (tlC (tlC B93))):=by kernel_rfl
theorem G2i:K93 = .seq (.seq (.region (idC (hdC (hdC K93))) o93Y true) (tlC (hdC K93))) (.seq (hdC (tlC K93)) (.block 2 (.loop E93))):=by kernel_rfl
theorem F7u:E93 = .seq (hdC E93) (.seq (hdC (tlC E93)) (.seq (.block 3 g93) (tlC (tlC (tlC E93))))):=by kernel_rfl
theorem G2j:g93 = .seq (hdC g93) (.seq (hdC (tlC g93)) (.cond (.tmp 53) D6x .skip)):=by kernel_rfl
theorem F6v:D6x = .seq (hdC D6x) (.seq (hdC (tlC D6x)) (.region (idC (tlC (tlC D6x))) o93Z true)):=by kernel_rfl
def G2k:A0n:=(.ops [⟨(some 9),(.faddr 0),[(.tmp 1)],none⟩,⟨(some 10),(.load false 1),[(.tmp 9)],none⟩,⟨(some 11),.lensl,[(.tmp 10)],none⟩,⟨(some 12),(.make 4 1 1 [(.bool false)]),[(.tmp 11),(.tmp 11)],none⟩,⟨(some 3),.mv,[(.tmp 12)],none⟩])
def G2l:A0n:=(.ops [⟨(some 13),.mv,[(.tmp 3)],none⟩,⟨(some 14),(.iaddr 1),[(.tmp 13),(.k (.t (.v (.int .i64 0))))],none⟩,⟨none,(.store 1),[(.tmp 14),(.k (.t (.v (.bool true))))],none⟩])
def G2m:A0n:=(.ops [⟨(some 15),(.bslice 3 1 [(.int .i64 0)] 1 [0]),[(.k (.t (.v (.int .i64 0))))],none⟩,⟨(some 16),(.bslice 33 1 [(.slice none 0 0)] 1 [0]),[(.k (.t (.v (.slice none 0 0))))],none⟩,⟨(some 4),.mv,[(.tmp 15)],none⟩,⟨(some 5),.mv,[(.tmp 16)],none⟩])
def G2n:A0n:=(.ops [⟨(some 6),.mv,[(.k (.t (.v (.int .i64 0))))],none⟩])
def G2o:A0n:=(.seq (.ops [⟨(some 17),.mv,[(.tmp 6)],none⟩,⟨(some 18),.mv,[(.tmp 4)],none⟩,⟨(some 19),.lensl,[(.tmp 18)],none⟩,⟨(some 20),(.bin false .lss none),[(.tmp 17),(.tmp 19)],none⟩]) (.cond (.tmp 20) .skip (.exit 0)))
def F7v:A0n:=(.ops [⟨(some 21),.mv,[(.tmp 6)],none⟩,⟨(some 22),(.bin false .add none),[(.tmp 21),(.k (.t (.v (.int .i64 1))))],none⟩,⟨(some 6),.mv,[(.tmp 22)],none⟩])
def G2p:A0n:=(.cond (.tmp 33) .ret .skip)
def G2q:A0n:=(.draw [⟨(some 34),(.faddr 0),[(.tmp 1)],none⟩,⟨(some 35),(.load false 1),[(.tmp 34)],none⟩,⟨(some 36),.mv,[(.tmp 4)],none⟩,⟨(some 37),.mv,[(.tmp 6)],none⟩,⟨(some 38),(.iaddr 1),[(.tmp 36),(.tmp 37)],none⟩,⟨(some 39),(.load false 1),[(.tmp 38)],none⟩,⟨(some 40),(.iaddr 2),[(.tmp 35),(.tmp 39)],none⟩,⟨(some 41),(.faddr 1),[(.tmp 40)],none⟩,⟨(some 42),(.load false 1),[(.tmp 41)],none⟩,⟨(some 43),.lensl,[(.tmp 42)],none⟩,⟨(some 44),.mv,[(.k (.t (.v (.int .i64 0))))],none⟩])
def G0g:A0n:=(.ops [⟨(some 45),(.bin false .lss none),[(.tmp 44),(.tmp 43)],none⟩])
def G0h:A0n:=(.cond (.tmp 45) .skip (.exit 2))
def G2r:A0n:=(.ops [⟨(some 75),(.bin false .add none),[(.tmp 44),(.k (.t (.v (.int .i64 1))))],none⟩,⟨(some 44),.mv,[(.tmp 75)],none⟩])
def G2s:A0n:=(.ops [⟨(some 46),(.iaddr 2),[(.tmp 42),(.tmp 44)],none⟩,⟨(some 47),(.load true 2),[(.tmp 46)],none⟩,⟨(some 8),(.alloc 81 [(.int .i64 0),(.int .i64 0)]),[],none⟩,⟨none,(.store 2),[(.tmp 8),(.tmp 47)],none⟩])
def G2t:A0n:=(.ops [⟨(some 48),.mv,[(.tmp 3)],none⟩,⟨(some 49),(.faddr 1),[(.tmp 8)],none⟩,⟨(some 50),(.load false 1),[(.tmp 49)],none⟩,⟨(some 51),(.iaddr 1),[(.tmp 48),(.tmp 50)],none⟩,⟨(some 52),(.load false 1),[(.tmp 51)],none⟩,⟨(some 53),(.un .not),[(.tmp 52)],none⟩])
def G2u:A0n:=(.ops [⟨(some 54),.mv,[(.tmp 3)],none⟩,⟨(some 55),(.faddr 1),[(.tmp 8)],none⟩,⟨(some 56),(.load false 1),[(.tmp 55)],none⟩,⟨(some 57),(.iaddr 1),[(.tmp 54),(.tmp 56)],none⟩,⟨none,(.store 1),[(.tmp 57),(.k (.t (.v (.bool true))))],none⟩])
def G2v:A0n:=(.ops [⟨(some 58),.mv,[(.tmp 4)],none⟩,⟨(some 59),(.faddr 1),[(.tmp 8)],none⟩,⟨(some 60),(.load false 1),[(.tmp 59)],none⟩,⟨(some 61),(.bslice 3 1 [(.int .i64 0)] 1 [0]),[(.tmp 60)],none⟩,⟨(some 62),(.app 3 1 8),[(.tmp 58),(.tmp 61)],none⟩,⟨(some 4),.mv,[(.tmp 62)],none⟩])
def l93Y:List Mini:=[⟨(some 23),.mv,[(.tmp 0)],none⟩,⟨(some 24),.mv,[(.tmp 4)],none⟩,⟨(some 25),.mv,[(.tmp 6)],none⟩,⟨(some 26),(.iaddr 1),[(.tmp 24),(.tmp 25)],none⟩,⟨(some 27),(.load false 1),[(.tmp 26)],none⟩,⟨(some 28),.mv,[(.tmp 5)],none⟩,⟨(some 29),.mv,[(.tmp 6)],none⟩,⟨(some 30),(.iaddr 1),[(.tmp 28),(.tmp 29)],none⟩,⟨(some 31),(.load false 1),[(.tmp 30)],none⟩,⟨(some 32),.callv,[(.tmp 23),(.tmp 27),(.tmp 31)],none⟩,⟨(some 33),(.un .not),[(.tmp 32)],none⟩]
def l93Z:List Mini:=[⟨(some 63),.mv,[(.tmp 5)],none⟩,⟨(some 64),.mv,[(.tmp 5)],none⟩,⟨(some 65),.mv,[(.tmp 6)],none⟩,⟨(some 66),(.iaddr 1),[(.tmp 64),(.tmp 65)],none⟩,⟨(some 67),(.load false 1),[(.tmp 66)],none⟩,⟨(some 68),(.hcall 73),[(.tmp 67)],none⟩,⟨(some 69),(.faddr 0),[(.tmp 8)],none⟩,⟨(some 70),(.load false 1),[(.tmp 69)],none⟩,⟨(some 71),(.tslice 3 1 [(.int .i64 0)] 1 [0]),[(.tmp 70)],none⟩,⟨(some 72),(.app 3 1 8),[(.tmp 68),(.tmp 71)],none⟩,⟨(some 73),(.tslice 33 1 [(.slice none 0 0)] 1 [0]),[(.tmp 72)],none⟩,⟨(some 74),(.app 33 1 24),[(.tmp 63),(.tmp 73)],none⟩,⟨(some 5),.mv,[(.tmp 74)],none⟩]
theorem c93a1:comp Try.prog G 76 (hdC b93)=some G2k:=by kernel_rfl
theorem c93a2:comp Try.prog G 76 (hdC (tlC b93))=some G2l:=by kernel_rfl
theorem c93a3:comp Try.prog G 76 (hdC (tlC (tlC b93)))=some G2m:=by kernel_rfl
theorem c93a4:comp Try.prog G 76 (hdC (tlC (tlC (tlC b93))))=some G2n:=by kernel_rfl
theorem c93c1:comp Try.prog G 76 (hdC B93)=some G2o:=by kernel_rfl
theorem G2w:comp Try.prog G 76 (tlC (tlC B93))=some F7v:=by kernel_rfl
theorem c93cY:comp Try.prog G 76 (tlC (hdC K93))=some G2p:=by kernel_rfl
theorem c93d1:comp Try.prog G 76 (hdC (tlC K93))=some G2q:=by kernel_rfl
theorem G2x:comp Try.prog G 76 (hdC E93)=some G0g:=by kernel_rfl
theorem G2y:comp Try.prog G 76 (hdC (tlC E93))=some G0h:=by kernel_rfl
theorem c93e3:comp Try.prog G 76 (tlC (tlC (tlC E93)))=some G2r:=by kernel_rfl
theorem c93g1:comp Try.prog G 76 (hdC g93)=some G2s:=by kernel_rfl
theorem c93g2:comp Try.prog G 76 (hdC (tlC g93))=some G2t:=by kernel_rfl
theorem c93p1:comp Try.prog G 76 (hdC D6x)=some G2u:=by kernel_rfl
theorem c93p2:comp Try.prog G 76 (hdC (tlC D6x))=some G2v:=by kernel_rfl
theorem G0i:o93Y.toList.mapM (A2e Try.prog G 76 true o93Y)=some l93Y:=by kernel_rfl
theorem G0j:o93Z.toList.mapM (A2e Try.prog G 76 true o93Z)=some l93Z:=by kernel_rfl
def G0k (ops:Array Oper) (dp:List (List Nat)):Bool:=(List.range ops.size).all fun i=>(dp.getD i []).all fun d=>match ops[i]? with
 | some o=>o.after.toList.any fun e=>e.on==d&&Region.binds .any e
 | none=>false
def G0l (ops:Array Oper):Bool:=(List.range ops.size).all fun i=>match ops[i]? with
 | some o=>o.after.toList.all fun e=>!(Region.binds .any e)||decide (e.on<i)
 | none=>false
theorem F2y {ops:Array Oper} {dp:List (List Nat)} (h:G0k ops dp=true) {i:Nat} {o:Oper} (ho:ops[i]?=some o) {b:Nat->Bool} (hb:∀e∈o.after.toList,Region.binds .any e=true->b e.on=true):∀d∈dp.getD i [],b d=true:=by
 intro d hd
 have hi:i<ops.size:=(Array.getElem?_eq_some_iff.1 ho).1
 have h1:=List.all_eq_true.1 h i (List.mem_range.2 hi)
 have h2:=List.all_eq_true.1 h1 d hd
 rw[ho]at h2
 obtain⟨e,he,h3⟩:=List.any_eq_true.1 h2
 simp only[Bool.and_eq_true,beq_iff_eq]at h3
 rw[<-h3.1]
 exact hb e he h3.2
theorem F2z {ops:Array Oper} (h:G0l ops=true) (i:Nat) (o:Oper) (ho:ops[i]?=some o):∀e∈o.after.toList,Region.binds .any e=true->e.on<i:=by
 intro e he hb
 have hi:i<ops.size:=(Array.getElem?_eq_some_iff.1 ho).1
 have h1:=List.all_eq_true.1 h i (List.mem_range.2 hi)
 rw[ho]at h1
 have h2:=List.all_eq_true.1 h1 e he
 rw[hb]at h2
 simpa using h2
def z63:Row:=.cells 4 [.t (bv false),.t (bv false),.t (bv false),.t (bv false),.t (bv false),.t (bv false)]
def r63 (c:Bool) (k:Nat):Row:=.cells 132 [if c then .row k 0 6 1 else .t nilS]
def h63 (t:T) (b:Nat->Bool):Heap:=(0,fsR t)::((if b 3 then [(1,z63)]else [])++((if b 7 then [(2,z63)]else [])++((if b 8 then [(3,r63 (b 10) 1)]else [])++(if b 9 then [(4,r63 (b 11) 2)]else []))))
def eNat:Enc Nat:=⟨1,fun n=>[iv (n:Int)],fun _=>rfl,by omega,fun a b h=>by injection h with h;injection h with h;injection h with h;omega⟩
def ePth:Enc (List Int):=⟨1,fun p=>[A0l eInt p],fun _=>rfl,by omega,fun a b h=>by
 injection h with h
 exact(tSl eInt).uniq _ _ _ (IsS.tree eInt a) (h▸IsS.tree eInt b)⟩
def yv (l:Nat):PV:=.t (.v (.func (.yield l) #[] #[]))
def C7d:List (List Nat):=[[],[],[],[1,2],[3],[],[],[5,6],[7],[0,4,8],[9]]
theorem F6w:G0k o93Y C7d=true:=by kernel_rfl
theorem E7a:G0l o93Y=true:=by kernel_rfl
theorem G0m:o93Y.size=11:=by kernel_rfl
def opAt (ops:Array Oper) (i:Nat):Option Op:=(ops[i]?).map (·.op)
theorem op93Y:opAt o93Y 9=some (.call ⟨.value (.tmp 23),#[.tmp 27,.tmp 31],#[3,33]⟩):=by kernel_rfl
def T93Y (l i m:Nat) (N P:PV) (tp:T):List (Nat×PV×PV):=
 [(23,yv l,.dead),(24,N,.dead),(25,.t (iv (i:Int)),.dead),(26,.ptr 6 i,.dead),(27,.t (iv (m:Int)),.dead),(28,P,.dead),(29,.t (iv (i:Int)),.dead),(30,.ptr 7 i,.dead),(31,.t tp,.dead),(32,.t (bv true),.dead),(33,.t (bv false),.dead)]
def E93Y (l i:Nat) (N P s3:PV):List (Nat×PV):=[(6,.t (iv (i:Int))),(5,P),(4,N),(3,s3),(1,.ptr 3 0),(0,yv l)]
section
variable {l i m : Nat} {N P s3 : PV} {tp : T} {H H' : Heap} {Φ : A1f}
theorem nd93Y:((T93Y l i m N P tp).map (·.1)).Nodup:=by
 show [23,24,25,26,27,28,29,30,31,32,33].Nodup
 decide
theorem e93Y:∀q∈E93Y l i N P s3,q.1∉(T93Y l i m N P tp).map (·.1)/\Abs.look (E93Y l i N P s3) q.1=some q.2:=by
 intro q hq
 have e:(T93Y l i m N P tp).map (·.1)=[23,24,25,26,27,28,29,30,31,32,33]:=rfl
 rw[e]
 simp only[E93Y,List.mem_cons,List.not_mem_nil,or_false]at hq
 rcases hq with rfl | rfl | rfl | rfl | rfl | rfl<;>exact⟨by simp,rfl⟩
def s93Y (l i m:Nat) (N P s3:PV) (tp:T) (H H':Heap) (b:Nat->Bool):A0b:=⟨envB (T93Y l i m N P tp) 0 b++E93Y l i N P s3,if b 9 then H' else H,8,76⟩
theorem B3t {b:Nat->Bool} {j:Nat} {x:Nat×PV×PV} {H0:Heap} (hx:(T93Y l i m N P tp)[j]?=some x) (h:H0=if(if j=9 then true else b 9)then H' else H) :
  Sub Try.prog G 5 (({ s93Y l i m N P s3 tp H H' b with H:=H0,nx:=8 }:A0b).put (some x.1) x.2.1) (s93Y l i m N P s3 tp H H' fun k=>if j=k then true else b k):=by
 subst h
 exact E3a nd93Y e93Y hx
theorem F3a (hΦ:Φ.Sound Try.prog G) {Q:Exit->A0b->Prop} {id:Nat} (i1:A1k 1 N (.t (iv (i:Int)))=some (.ptr 6 i)) (i2:A1k 1 P (.t (iv (i:Int)))=some (.ptr 7 i))
  (l1:A0h false 1 H (.ptr 6 i)=some (.t (iv (m:Int)))) (l2:A0h false 1 H (.ptr 7 i)=some (.t tp)) (l3:A0h false 1 H' (.ptr 6 i)=some (.t (iv (m:Int)))) (l4:A0h false 1 H' (.ptr 7 i)=some (.t tp))
  (hy:F2p Try.prog G l [.t (iv (m:Int)),.t tp] H 8 (.t (bv true)) H' 8) (stop:Q .normal (s93Y l i m N P s3 tp H H' fun _=>true)):A3q Try.prog G 5 (.region id o93Y true) Q ⟨E93Y l i N P s3,H,8,76⟩:=by
 refine B9f A1w hΦ G0i (s93Y l i m N P s3 tp H H') (fun _=>True) (fun _=>rfl) (F2z E7a) ?_ trivial (fun b _ j o q ho hm hbi hdeps=>?_) (fun b _ hall=>?_)
 ·refine D6p fun q hq=>?_
  rcases List.mem_append.1 hq with hq | hq
  ·obtain⟨j,x,h1,rfl⟩:=B9g hq
   left
   have:∀x∈T93Y l i m N P tp,x.2.2 = .dead:=by simp[T93Y]
   exact this x (List.mem_of_getElem? h1)
  ·exact .inr (e93Y (m:=m) (tp:=tp) q hq).2
 ·have hd:=F2y F6w ho hdeps
  have lN:A0h false 1 (if b 9 then H' else H) (.ptr 6 i)=some (.t (iv (m:Int))):=by cases b 9<;>assumption
  have lP:A0h false 1 (if b 9 then H' else H) (.ptr 7 i)=some (.t tp):=by cases b 9<;>assumption
  rcases j with _ | _ | _ | _ | _ | _ | _ | _ | _ | _ | _ | j
  ·injection hm with hm;subst hm
   exact⟨rfl,yv l,_,8,.inl (by simp -implicitDefEqProofs [s93Y,T93Y,envB,E93Y]),trivial,B3t (j:=0) rfl rfl⟩
  ·injection hm with hm;subst hm
   exact⟨rfl,N,_,8,.inl (by simp -implicitDefEqProofs [s93Y,T93Y,envB,E93Y]),trivial,B3t (j:=1) rfl rfl⟩
  ·injection hm with hm;subst hm
   exact⟨rfl,.t (iv (i:Int)),_,8,.inl (by simp -implicitDefEqProofs [s93Y,T93Y,envB,E93Y]),trivial,B3t (j:=2) rfl rfl⟩
  ·injection hm with hm;subst hm
   have d1:b 1=true:=hd 1 (by simp[C7d])
   have d2:b 2=true:=hd 2 (by simp[C7d])
   exact⟨rfl,.ptr 6 i,_,8,.inl (by simp -implicitDefEqProofs [s93Y,T93Y,envB,E93Y,d1,d2,i1]),trivial,B3t (j:=3) rfl rfl⟩
  ·injection hm with hm;subst hm
   have d3:b 3=true:=hd 3 (by simp[C7d])
   exact⟨rfl,.t (iv (m:Int)),_,8,.inl (by simp -implicitDefEqProofs [s93Y,T93Y,envB,E93Y,d3,lN]),trivial,B3t (j:=4) rfl rfl⟩
  ·injection hm with hm;subst hm
   exact⟨rfl,P,_,8,.inl (by simp -implicitDefEqProofs [s93Y,T93Y,envB,E93Y]),trivial,B3t (j:=5) rfl rfl⟩
  ·injection hm with hm;subst hm
   exact⟨rfl,.t (iv (i:Int)),_,8,.inl (by simp -implicitDefEqProofs [s93Y,T93Y,envB,E93Y]),trivial,B3t (j:=6) rfl rfl⟩
  ·injection hm with hm;subst hm
   have d1:b 5=true:=hd 5 (by simp[C7d])
   have d2:b 6=true:=hd 6 (by simp[C7d])
   exact⟨rfl,.ptr 7 i,_,8,.inl (by simp -implicitDefEqProofs [s93Y,T93Y,envB,E93Y,d1,d2,i2]),trivial,B3t (j:=7) rfl rfl⟩
  ·injection hm with hm;subst hm
   have d3:b 7=true:=hd 7 (by simp[C7d])
   exact⟨rfl,.t tp,_,8,.inl (by simp -implicitDefEqProofs [s93Y,T93Y,envB,E93Y,d3,lP]),trivial,B3t (j:=8) rfl rfl⟩
  ·injection hm with hm;subst hm
   have d0:b 0=true:=hd 0 (by simp[C7d])
   have d4:b 4=true:=hd 4 (by simp[C7d])
   have d8:b 8=true:=hd 8 (by simp[C7d])
   have hop:o.op = .call ⟨.value (.tmp 23),#[.tmp 27,.tmp 31],#[3,33]⟩:=by
    have:=op93Y
    unfold opAt at this
    rw[ho]at this
    injection this
   refine⟨rfl,.t (bv true),H',8,.inr (.inl (F2q (l:=l) hop ?_ ?_)),trivial,B3t (j:=9) rfl rfl⟩
   ·simp[A0b.ev,s93Y,T93Y,envB,Abs.look,d0,yv]
   ·have e:(s93Y l i m N P s3 tp H H' b).H=H:=by
     show(if b 9 then H' else H)=H
     rw[hbi]
     rfl
    rw[e]
    have e2:(#[Operand.tmp 27,Operand.tmp 31].toList.map ((s93Y l i m N P s3 tp H H' b).ev G))=[.t (iv (m:Int)),.t tp]:=by
     simp[A0b.ev,s93Y,T93Y,envB,Abs.look,d4,d8]
    rw[e2]
    exact hy
  ·injection hm with hm;subst hm
   have d9:b 9=true:=hd 9 (by simp[C7d])
   exact⟨rfl,.t (bv false),_,8,.inl (by simp -implicitDefEqProofs [s93Y,T93Y,envB,E93Y,d9]),trivial,B3t (j:=10) rfl rfl⟩
  ·simp[l93Y]at hm
 ·have h:=fun i hi=>hall i (by rw[G0m];exact hi)
  have e:s93Y l i m N P s3 tp H H' b=s93Y l i m N P s3 tp H H' fun _=>true:=by
   simp only[s93Y,T93Y,envB,h 0 (by omega),h 1 (by omega),h 2 (by omega),h 3 (by omega),h 4 (by omega),h 5 (by omega),h 6 (by omega),h 7 (by omega),h 8 (by omega),h 9 (by omega),h 10 (by omega)]
  rw[e]
  exact stop
end
theorem B9l {α:Type} {e:Enc α} {ty b c:Nat} {l:List α} {H:Heap} (h:c≠b):Abs.look (rowH e ty b l++H) c=Abs.look H c:=by
 cases l with
 | nil=>rfl
 | cons x r=>simp only[rowH,List.cons_append,List.nil_append,look_cons,if_neg (Ne.symm h)]
theorem C1h {α:Type} {e:Enc α} {ty b c:Nat} {l:List α} {H:Heap} (h:c≠b):Abs.look (H++rowH e ty b l) c=Abs.look H c:=by
 have:Abs.look (rowH e ty b l) c=none:=by
  have:=B9l (e:=e) (ty:=ty) (l:=l) (H:=[]) h
  rwa[List.append_nil]at this
 rw[C6w,this,Option.or_none]
def B7m:List (List Nat):=[[],[],[],[1,2],[3],[4],[],[6],[7],[5,8],[9],[0,10],[11,0,1]]
theorem F6x:G0k o93Z B7m=true:=by kernel_rfl
theorem E7b:G0l o93Z=true:=by kernel_rfl
theorem G0n:o93Z.size=13:=by kernel_rfl
def T93Z (i:Nat) (f:Int) (p:List Int) (ps:List (List Int)):List (Nat×PV×PV):=
 [(63,rowP ePth 7 ps,.dead),(64,rowP ePth 7 ps,.dead),(65,.t (iv (i:Int)),.dead),(66,.ptr 7 i,.dead),(67,.t (A0l eInt p),.dead),(68,rowP eInt 9 p,.dead),(69,.ptr 8 0,.dead),(70,.t (iv f),.dead),
  (71,.t (.sl 1 [iv f]),.dead),(72,.t (A0l eInt (p++[f])),.dead),(73,.t (.sl 1 [A0l eInt (p++[f])]),.dead),(74,rowP ePth 10 (ps++[p++[f]]),.dead),(5,rowP ePth 10 (ps++[p++[f]]),rowP ePth 7 ps)]
def E93Z (l i j n:Nat) (s42 N s3:PV):List (Nat×PV):=[(44,.t (iv (j:Int))),(43,.t (iv (n:Int))),(42,s42),(8,.ptr 8 0),(6,.t (iv (i:Int))),(4,N),(3,s3),(1,.ptr 3 0),(0,yv l)]
structure F3b (b:Nat->Bool):Prop where
 a:b 5=true->b 4=true
 c:b 9=true->b 5=true/\b 8=true
 d:b 8=true->b 7=true
 e:b 10=true->b 9=true
 f:b 11=true->b 10=true
 g:b 12=true->b 11=true/\b 0=true/\b 1=true
def h93Z (p:List Int) (f:Int) (ps:List (List Int)) (H:Heap) (b:Nat->Bool):Heap:=
 if b 11 then rem H 7++rowH ePth 33 10 (ps++[p++[f]])else if b 9 then H else if b 5 then H++rowH eInt 3 9 p else H
structure H93Z (ps:List (List Int)) (f:Int) (H:Heap):Prop where
 all:∀q∈H,Abs.look H q.1=some q.2/\q.1<9/\A1b 9 q.2=true
 row:A0j ePth 33 H 7 ps
 arc:∃ty cs,Abs.look H 8=some (.cells ty (.t (iv f)::cs))
noncomputable def hx30:HTbl:=[(73,D6t)]
theorem cx30:Ctx Try.prog G (orh [] hx30):=A1q.nil.ctxH (A8e.cons D6u .nil) A1w
section
variable {l i j n : Nat} {s42 N s3 : PV} {f : Int} {p : List Int} {ps : List (List Int)} {H : Heap}
theorem F6y:((T93Z i f p ps).map (·.1)).Nodup:=by
 show [63,64,65,66,67,68,69,70,71,72,73,74,5].Nodup
 decide
theorem e93Z:∀q∈E93Z l i j n s42 N s3,q.1∉(T93Z i f p ps).map (·.1)/\Abs.look (E93Z l i j n s42 N s3) q.1=some q.2:=by
 intro q hq
 have e:(T93Z i f p ps).map (·.1)=[63,64,65,66,67,68,69,70,71,72,73,74,5]:=rfl
 rw[e]
 simp only[E93Z,List.mem_cons,List.not_mem_nil,or_false]at hq
 rcases hq with rfl | rfl | rfl | rfl | rfl | rfl | rfl | rfl | rfl<;>exact⟨by simp,rfl⟩
theorem u93Z (h1:under 9 s42=true) (h2:under 9 N=true) (h3:under 9 s3=true):∀q∈E93Z l i j n s42 N s3,under 9 q.2=true:=by
 intro q hq
 simp only[E93Z,List.mem_cons,List.not_mem_nil,or_false]at hq
 rcases hq with rfl | rfl | rfl | rfl | rfl | rfl | rfl | rfl | rfl<;>first | rfl | assumption
theorem t93Z {k:Nat} {y:Nat×PV×PV} (h:(T93Z i f p ps)[k]?=some y):(k≠5->k<11->under 9 y.2.1=true)/\(k=5->under 10 y.2.1=true)/\under 11 y.2.1=true/\under 9 y.2.2=true/\(k≠5->∀c,(if(10:Nat)=9 then c else 10)=10):=by
 refine⟨fun h5 h11=>?_,fun h5=>?_,?_,?_,fun _ c=>rfl⟩
 ·rcases k with _ | _ | _ | _ | _ | _ | _ | _ | _ | _ | _ | k<;>first | omega | (injection h with h;subst h;first | rfl | exact A0e _ _ _ _ (by omega))
 ·subst h5
  injection h with h
  subst h
  exact A0e _ _ _ _ (by omega)
 ·rcases k with _ | _ | _ | _ | _ | _ | _ | _ | _ | _ | _ | _ | _ | k<;>first | (injection h with h;subst h;first | rfl | exact A0e _ _ _ _ (by omega)) | (simp[T93Z]at h)
 ·rcases k with _ | _ | _ | _ | _ | _ | _ | _ | _ | _ | _ | _ | _ | k<;>first | (injection h with h;subst h;first | rfl | exact A0e _ _ _ _ (by omega)) | (simp[T93Z]at h)
def s93Z (l i j n:Nat) (s42 N s3:PV) (f:Int) (p:List Int) (ps:List (List Int)) (H:Heap) (b:Nat->Bool):A0b:=⟨envB (T93Z i f p ps) 0 b++E93Z l i j n s42 N s3,h93Z p f ps H b,11,76⟩
theorem B5w {b:Nat->Bool} {k:Nat} {x:Nat×PV×PV} {H0:Heap} (hx:(T93Z i f p ps)[k]?=some x) (h:H0=h93Z p f ps H fun m=>if k=m then true else b m) :
  Sub Try.prog G 5 (({ s93Z l i j n s42 N s3 f p ps H b with H:=H0,nx:=11 }:A0b).put (some x.1) x.2.1) (s93Z l i j n s42 N s3 f p ps H fun m=>if k=m then true else b m):=by
 subst h
 exact E3a F6y e93Z hx
theorem H93Z.look8 (hH:H93Z ps f H) (b:Nat->Bool):∃ty cs,Abs.look (h93Z p f ps H b) 8=some (.cells ty (.t (iv f)::cs)):=by
 obtain⟨ty,cs,h⟩:=hH.arc
 refine⟨ty,cs,?_⟩
 unfold h93Z
 split
 ·rw[C6w,A1u,if_neg (by omega),h]
  rfl
 ·split
  ·exact h
  ·split
   ·rw[C6w,h]
    rfl
   ·exact h
theorem H93Z.load (hH:H93Z ps f H) (b:Nat->Bool):A0h false 1 (h93Z p f ps H b) (.ptr 8 0)=some (.t (iv f)):=by
 obtain⟨ty,cs,h⟩:=hH.look8 (p:=p) b
 simp[A0h,h]
theorem D6y {b:Nat->Bool} (h5:b 5=false) (ok:F3b b):h93Z p f ps H b=H:=by
 have h9:b 9=false:=by cases e:b 9;rfl;rw[(ok.c e).1]at h5;cases h5
 have h10:b 10=false:=by cases e:b 10;rfl;rw[ok.e e]at h9;cases h9
 have h11:b 11=false:=by cases e:b 11;rfl;rw[ok.f e]at h10;cases h10
 unfold h93Z
 rw[h11,h9,h5]
 rfl
theorem A6e {b:Nat->Bool} {k:Nat} (ok:F3b b) (h5:k=5->b 4=true) (h9:k=9->b 5=true/\b 8=true) (h8:k=8->b 7=true) (h10:k=10->b 9=true) (h11:k=11->b 10=true) (h12:k=12->b 11=true/\b 0=true/\b 1=true):F3b fun m=>if k=m then true else b m:=by
 have up:∀m,b m=true->(if k=m then true else b m)=true:=fun m h=>by split;rfl;exact h
 refine⟨fun h=>?_,fun h=>?_,fun h=>?_,fun h=>?_,fun h=>?_,fun h=>?_⟩
 ·split at h
  ·rename_i e;exact up _ (h5 e)
  ·exact up _ (ok.a h)
 ·split at h
  ·rename_i e;exact⟨up _ (h9 e).1,up _ (h9 e).2⟩
  ·exact⟨up _ (ok.c h).1,up _ (ok.c h).2⟩
 ·split at h
  ·rename_i e;exact up _ (h8 e)
  ·exact up _ (ok.d h)
 ·split at h
  ·rename_i e;exact up _ (h10 e)
  ·exact up _ (ok.e h)
 ·split at h
  ·rename_i e;exact up _ (h11 e)
  ·exact up _ (ok.f h)
 ·split at h
  ·rename_i e;exact⟨up _ (h12 e).1,up _ (h12 e).2.1,up _ (h12 e).2.2⟩
  ·exact⟨up _ (ok.g h).1,up _ (ok.g h).2.1,up _ (ok.g h).2.2⟩
end
section
variable {l i j n : Nat} {s42 N s3 : PV} {f : Int} {p : List Int} {ps : List (List Int)} {H : Heap}
theorem ren9 {c k:Nat} {y:Nat×PV×PV} (h:(T93Z i f p ps)[k]?=some y) (h5:k≠5):ren (fun x=>if x=9 then c else x) y.2.1=y.2.1:=by
 by_cases h11:k<11
 ·exact A8b (n:=9) (fun b hb=>if_neg (by omega)) _ ((t93Z h).1 h5 h11)
 ·rcases k with _ | _ | _ | _ | _ | _ | _ | _ | _ | _ | _ | _ | _ | k
  all_goals first | omega | (injection h with h;subst h;simp only[A0f];rfl) | (simp[T93Z]at h)
theorem ren10 {c k:Nat} {y:Nat×PV×PV} (h:(T93Z i f p ps)[k]?=some y) (h11:k<11):ren (fun x=>if x=10 then c else x) y.2.1=y.2.1:=by
 refine A8b (n:=10) (fun b hb=>if_neg (by omega)) _ ?_
 by_cases h5:k=5
 ·exact(t93Z h).2.1 h5
 ·exact A3m (by omega) _ ((t93Z h).1 h5 h11)
theorem E0e {b:Nat->Bool} {k m:Nat} (h:k≠m):(if k=m then true else b m)=b m:=if_neg h
theorem F3c {Q:Exit->A0b->Prop} {id:Nat} (hH:H93Z ps f H) (hp:ps[i]?=some p) (hl:p.length<=1000000) (hps:ps.length<=1000000) (u42:under 9 s42=true) (uN:under 9 N=true) (u3:under 9 s3=true)
  (stop:Q .normal (s93Z l i j n s42 N s3 f p ps H fun _=>true)):A3q Try.prog G 5 (.region id o93Z true) Q ⟨(5,rowP ePth 7 ps)::E93Z l i j n s42 N s3,H,11,76⟩:=by
 have hz:eInt.z=1:=rfl
 have hzp:ePth.z=1:=rfl
 have hE:=u93Z (l:=l) (i:=i) (j:=j) (n:=n) u42 uN u3
 have i1:A1k 1 (rowP ePth 7 ps) (.t (iv (i:Int)))=some (.ptr 7 i):=by
  have:=A1p (e:=ePth) (b:=7) hp .i64
  rw[hzp,Nat.mul_one]at this
  exact this
 have l7:A0h false 1 H (.ptr 7 i)=some (.t (A0l eInt p)):=by
  have:=hH.row.load (off:=0) (c:=A0l eInt p) hp rfl
  rw[hzp,Nat.mul_one,Nat.add_zero]at this
  exact this
 refine B9f A1w cx30.sound G0j (s93Z l i j n s42 N s3 f p ps H) F3b (fun _=>rfl) (F2z E7b) ?_ ⟨fun h=>(by cases h),fun h=>(by cases h),fun h=>(by cases h),fun h=>(by cases h),fun h=>(by cases h),fun h=>(by cases h)⟩ (fun b ok k o m ho hm hbi hdeps=>?_) (fun b _ hall=>?_)
 ·refine D6p fun q hq=>?_
  rcases List.mem_append.1 hq with hq | hq
  ·obtain⟨k,x,h1,rfl⟩:=B9g hq
   have:∀x∈T93Z i f p ps,x.2.2 = .dead\/(x.1=5/\x.2.2=rowP ePth 7 ps):=by simp[T93Z]
   rcases this x (List.mem_of_getElem? h1)with h | ⟨h2,h3⟩
   ·exact .inl h
   ·right
    rw[h2]
    show some (rowP ePth 7 ps)=some x.2.2
    rw[h3]
  ·right
   have:=(e93Z (f:=f) (p:=p) (ps:=ps) q hq)
   have hne:(5:Nat)≠q.1:=fun e=>this.1 (by rw[<-e];simp[T93Z])
   show(if 5=q.1 then _ else _)=_
   rw[if_neg hne]
   exact this.2
 ·have hd:=F2y F6x ho hdeps
  have okq:(k≠5/\k≠9/\k≠8/\k≠10/\k≠11/\k≠12)->F3b fun m=>if k=m then true else b m:=fun h=>A6e ok (fun e=>absurd e h.1) (fun e=>absurd e h.2.1) (fun e=>absurd e h.2.2.1) (fun e=>absurd e h.2.2.2.1) (fun e=>absurd e h.2.2.2.2.1) (fun e=>absurd e h.2.2.2.2.2)
  rcases k with _ | _ | _ | _ | _ | _ | _ | _ | _ | _ | _ | _ | _ | k
  ·injection hm with hm;subst hm
   have h12:b 12=false:=by cases e:b 12;rfl;rw[(ok.g e).2.1]at hbi;cases hbi
   exact⟨rfl,rowP ePth 7 ps,h93Z p f ps H b,11,.inl (by simp -implicitDefEqProofs [s93Z,T93Z,envB,E93Z,h12]),okq (by omega),B5w (k:=0) rfl rfl⟩
  ·injection hm with hm;subst hm
   have h12:b 12=false:=by cases e:b 12;rfl;rw[(ok.g e).2.2]at hbi;cases hbi
   exact⟨rfl,rowP ePth 7 ps,h93Z p f ps H b,11,.inl (by simp -implicitDefEqProofs [s93Z,T93Z,envB,E93Z,h12]),okq (by omega),B5w (k:=1) rfl rfl⟩
  ·injection hm with hm;subst hm
   exact⟨rfl,.t (iv (i:Int)),h93Z p f ps H b,11,.inl (by simp -implicitDefEqProofs [s93Z,T93Z,envB,E93Z]),okq (by omega),B5w (k:=2) rfl rfl⟩
  ·injection hm with hm;subst hm
   have d1:b 1=true:=hd 1 (by simp[B7m])
   have d2:b 2=true:=hd 2 (by simp[B7m])
   exact⟨rfl,.ptr 7 i,h93Z p f ps H b,11,.inl (by simp -implicitDefEqProofs [s93Z,T93Z,envB,E93Z,d1,d2,i1]),okq (by omega),B5w (k:=3) rfl rfl⟩
  ·injection hm with hm;subst hm
   have d3:b 3=true:=hd 3 (by simp[B7m])
   have h5:b 5=false:=by cases e:b 5;rfl;rw[ok.a e]at hbi;cases hbi
   have hb:=D6y (p:=p) (f:=f) (ps:=ps) (H:=H) h5 ok
   exact⟨rfl,.t (A0l eInt p),h93Z p f ps H b,11,.inl (by simp -implicitDefEqProofs [s93Z,T93Z,envB,E93Z,d3,hb,l7]),okq (by omega),B5w (k:=4) rfl rfl⟩
  ·injection hm with hm;subst hm
   have d4:b 4=true:=hd 4 (by simp[B7m])
   have hb:=D6y (p:=p) (f:=f) (ps:=ps) (H:=H) hbi ok
   have h9:b 9=false:=by cases e:b 9;rfl;rw[(ok.c e).1]at hbi;cases hbi
   have h11:b 11=false:=by cases e:b 11;rfl;rw[ok.e (ok.f e)]at h9;cases h9
   have hc:=D6v (IsS.tree eInt p) hl (fun e=>by rw[e];rfl) H 11
   refine⟨rfl,rowP eInt 11 p,rowH eInt 3 11 p++H,12,.inl (by simp -implicitDefEqProofs [s93Z,T93Z,envB,E93Z,d4,hb,hx30,hc]),A6e ok (fun _=>d4) (fun e=>by omega) (fun e=>by omega) (fun e=>by omega) (fun e=>by omega) (fun e=>by omega),?_⟩
   have e1:h93Z p f ps H (fun m=>if 5=m then true else b m)=H++rowH eInt 3 9 p:=by
    show(if(if 5=11 then true else b 11)=true then _ else if(if 5=9 then true else b 9)=true then _ else _)=_
    rw[E0e (by omega),h11,E0e (by omega),h9]
    rfl
   show Sub _ _ _ ⟨(68,rowP eInt 11 p)::(envB (T93Z i f p ps) 0 b++E93Z l i j n s42 N s3),rowH eInt 3 11 p++H,12,76⟩ ⟨envB (T93Z i f p ps) 0 (fun m=>if 5=m then true else b m)++E93Z l i j n s42 N s3,h93Z p f ps H (fun m=>if 5=m then true else b m),11,76⟩
   rw[e1]
   refine sub_rowR (k:=11) (A0j.head _ _ _ _ _) (by omega) (by omega) (fun q hq=>?_) (D2m F6y e93Z (i:=5) (x:=(68,rowP eInt 9 p,.dead)) rfl (by rw[A0f];rfl) (A0e _ _ _ _ (by omega)) (fun k y hy hk=>⟨fun _=>⟨ren9 hy hk,(t93Z hy).2.2.1⟩,A8b (n:=9) (fun c hc=>if_neg (by omega)) _ (t93Z hy).2.2.2.1,A3m (by omega) _ (t93Z hy).2.2.2.1⟩) (fun q hq=>⟨A8b (n:=9) (fun c hc=>if_neg (by omega)) _ (hE q hq),A3m (by omega) _ (hE q hq)⟩))
   obtain⟨a1,a2,a3⟩:=hH.all q hq
   refine⟨?_,by omega,by omega,by omega,A3i (by omega) _ a3⟩
   rw[B9l (by omega),a1,B4m (n:=9) (fun c hc=>if_neg (by omega)) _ a3]
  ·injection hm with hm;subst hm
   exact⟨rfl,.ptr 8 0,h93Z p f ps H b,11,.inl (by simp -implicitDefEqProofs [s93Z,T93Z,envB,E93Z]),okq (by omega),B5w (k:=6) rfl rfl⟩
  ·injection hm with hm;subst hm
   have d6:b 6=true:=hd 6 (by simp[B7m])
   have ld:=hH.load (p:=p) b
   exact⟨rfl,.t (iv f),h93Z p f ps H b,11,.inl (by simp -implicitDefEqProofs [s93Z,T93Z,envB,E93Z,d6,ld]),okq (by omega),B5w (k:=7) rfl rfl⟩
  ·injection hm with hm;subst hm
   have d7:b 7=true:=hd 7 (by simp[B7m])
   have ts:A7p 3 1 [.int .i64 0] 1 [(0,.t (iv f))]=some (.t (.sl 1 [iv f])):=rfl
   exact⟨rfl,.t (.sl 1 [iv f]),h93Z p f ps H b,11,.inl (by simp -implicitDefEqProofs [s93Z,T93Z,envB,E93Z,d7,ts]),A6e ok (fun e=>by omega) (fun e=>by omega) (fun _=>d7) (fun e=>by omega) (fun e=>by omega) (fun e=>by omega),B5w (k:=8) rfl rfl⟩
  ·injection hm with hm;subst hm
   have d5:b 5=true:=hd 5 (by simp[B7m])
   have d8:b 8=true:=hd 8 (by simp[B7m])
   have h11:b 11=false:=by cases e:b 11;rfl;rw[ok.e (ok.f e)]at hbi;cases hbi
   have hb:h93Z p f ps H b=H++rowH eInt 3 9 p:=by
    unfold h93Z
    rw[h11,hbi,d5]
    rfl
   have r9:A0j eInt 3 (H++rowH eInt 3 9 p) 9 p:=A0j.right (A0j.head' _ _ _ _) fun q hq=>by have:=(hH.all q hq).2.1;omega
   obtain⟨b2,H2,n2,ap,r2,ne2,le2,lk2,ge2⟩:=A1j (e:=eInt) (by':=8) (nx:=11) (m:=[f]) r9 (A5a (t:=.sl 1 [iv f]) (.inr rfl)) (by simp;omega) (by simp;omega)
   rw[hz]at ap
   have hT:=r2.toT
   refine⟨rfl,.t (A0l eInt (p++[f])),remAll H2 (B0m b2 (p++[f])),n2,.inr (.inr ⟨rowP eInt b2 (p++[f]),H2,_,_,by simp -implicitDefEqProofs [s93Z,T93Z,envB,E93Z,d5,d8,hb,ap],hT,rfl,rfl⟩),A6e ok (fun e=>by omega) (fun _=>⟨d5,d8⟩) (fun e=>by omega) (fun e=>by omega) (fun e=>by omega) (fun e=>by omega),?_⟩
   have e1:h93Z p f ps H (fun m=>if 9=m then true else b m)=H:=by
    show(if(if 9=11 then true else b 11)=true then _ else H)=_
    rw[E0e (by omega),h11]
    rfl
   show Sub _ _ _ ⟨(72,.t (A0l eInt (p++[f])))::(envB (T93Z i f p ps) 0 b++E93Z l i j n s42 N s3),remAll H2 (B0m b2 (p++[f])),n2,76⟩ ⟨envB (T93Z i f p ps) 0 (fun m=>if 9=m then true else b m)++E93Z l i j n s42 N s3,h93Z p f ps H (fun m=>if 9=m then true else b m),11,76⟩
   rw[e1]
   refine C6j (by omega) (fun q hq=>?_) fun q hq=>?_
   ·obtain⟨a1,a2,a3⟩:=hH.all q hq
    refine⟨?_,by omega,A3i (by omega) _ a3⟩
    have hF:q.1∉B0m b2 (p++[f]):=by
     have:∀l:List Int,q.1∉B0m b2 l:=by
      intro l
      cases l with
      | nil=>simp[B0m]
      | cons x r=>simp[B0m];omega
     exact this _
    rw[B3r _ _ _ hF,lk2 _ (by omega) (by omega),C1h (by omega)]
    exact a1
   ·have:=D2m (nx:=11) (r:=.t (A0l eInt (p++[f]))) (b:=b) (σ:=fun x=>x) (F6y (i:=i) (f:=f) (p:=p) (ps:=ps)) (e93Z (l:=l) (i:=i) (j:=j) (n:=n) (s42:=s42) (N:=N) (s3:=s3)) (i:=9) (x:=(72,.t (A0l eInt (p++[f])),.dead)) rfl rfl rfl (fun k y hy hk=>⟨fun _=>⟨C6i _,(t93Z hy).2.2.1⟩,C6i _,A3m (by omega) _ (t93Z hy).2.2.2.1⟩) (fun q hq=>⟨C6i _,A3m (by omega) _ (hE q hq)⟩) q hq
    rw[C6i]at this
    exact this
  ·injection hm with hm;subst hm
   have d9:b 9=true:=hd 9 (by simp[B7m])
   have ts:A7p 33 1 [.slice none 0 0] 1 [(0,.t (A0l eInt (p++[f])))]=some (.t (.sl 1 [A0l eInt (p++[f])])):=by cases p<;>rfl
   exact⟨rfl,.t (.sl 1 [A0l eInt (p++[f])]),h93Z p f ps H b,11,.inl (by simp -implicitDefEqProofs [s93Z,T93Z,envB,E93Z,d9,ts]),A6e ok (fun e=>by omega) (fun e=>by omega) (fun e=>by omega) (fun _=>d9) (fun e=>by omega) (fun e=>by omega),B5w (k:=10) rfl rfl⟩
  ·injection hm with hm;subst hm
   have d0:b 0=true:=hd 0 (by simp[B7m])
   have d10:b 10=true:=hd 10 (by simp[B7m])
   have h9:b 9=true:=ok.e d10
   have h12:b 12=false:=by cases e:b 12;rfl;rw[(ok.g e).1]at hbi;cases hbi
   have hb:h93Z p f ps H b=H:=by
    unfold h93Z
    rw[hbi,h9]
    rfl
   obtain⟨b2,H2,n2,ap,r2,ne2,le2,lk2,ge2⟩:=A1j (e:=ePth) (by':=24) (nx:=11) (m:=[p++[f]]) hH.row (A5a (t:=.sl 1 [A0l eInt (p++[f])]) (.inr rfl)) (by simp;omega) (by simp;omega)
   rw[hzp]at ap
   refine⟨rfl,rowP ePth b2 (ps++[p++[f]]),H2,n2,.inl (by simp -implicitDefEqProofs [s93Z,T93Z,envB,E93Z,d0,d10,hb,ap]),A6e ok (fun e=>by omega) (fun e=>by omega) (fun e=>by omega) (fun e=>by omega) (fun _=>d10) (fun e=>by omega),?_⟩
   have e1:h93Z p f ps H (fun m=>if 11=m then true else b m)=rem H 7++rowH ePth 33 10 (ps++[p++[f]]):=rfl
   show Sub _ _ _ ⟨(74,rowP ePth b2 (ps++[p++[f]]))::(envB (T93Z i f p ps) 0 b++E93Z l i j n s42 N s3),H2,n2,76⟩ ⟨envB (T93Z i f p ps) 0 (fun m=>if 11=m then true else b m)++E93Z l i j n s42 N s3,h93Z p f ps H (fun m=>if 11=m then true else b m),11,76⟩
   rw[e1]
   refine sub_rowR (k:=b2) r2 (by omega) (by omega) (fun q hq=>?_) (D2m F6y e93Z (i:=11) (x:=(74,rowP ePth 10 (ps++[p++[f]]),.dead)) rfl (by rw[A0f];rfl) (A0e _ _ _ _ (by omega)) (fun k y hy hk=>⟨fun hbk=>⟨?_,(t93Z hy).2.2.1⟩,A8b (n:=9) (fun c hc=>if_neg (by omega)) _ (t93Z hy).2.2.2.1,A3m (by omega) _ (t93Z hy).2.2.2.1⟩) (fun q hq=>⟨A8b (n:=9) (fun c hc=>if_neg (by omega)) _ (hE q hq),A3m (by omega) _ (hE q hq)⟩))
   ·obtain⟨hq1,hq2⟩:=E2z hq
    obtain⟨a1,a2,a3⟩:=hH.all q hq1
    refine⟨?_,by omega,by omega,by omega,A3i (by omega) _ a3⟩
    rw[lk2 _ hq2 (by omega),a1,B4m (n:=9) (fun c hc=>if_neg (by omega)) _ a3]
   ·have hk12:k≠12:=fun e=>by rw[e,h12]at hbk;cases hbk
    have hkl:k<13:=(List.getElem?_eq_some_iff.1 hy).1
    exact ren10 hy (by omega)
  ·injection hm with hm;subst hm
   have d11:b 11=true:=hd 11 (by simp[B7m])
   have d0:b 0=true:=hd 0 (by simp[B7m])
   have d1:b 1=true:=hd 1 (by simp[B7m])
   exact⟨rfl,rowP ePth 10 (ps++[p++[f]]),h93Z p f ps H b,11,.inl (by simp -implicitDefEqProofs [s93Z,T93Z,envB,E93Z,d11]),A6e ok (fun e=>by omega) (fun e=>by omega) (fun e=>by omega) (fun e=>by omega) (fun e=>by omega) (fun _=>⟨d11,d0,d1⟩),B5w (k:=12) rfl rfl⟩
  ·simp[l93Z]at hm
 ·have h:=fun i hi=>hall i (by rw[G0n];exact hi)
  have e:s93Z l i j n s42 N s3 f p ps H b=s93Z l i j n s42 N s3 f p ps H fun _=>true:=by
   simp only[s93Z,T93Z,envB,h93Z,h 0 (by omega),h 1 (by omega),h 2 (by omega),h 3 (by omega),h 4 (by omega),h 5 (by omega),h 6 (by omega),h 7 (by omega),h 8 (by omega),h 9 (by omega),h 10 (by omega),h 11 (by omega),h 12 (by omega)]
  rw[e]
  exact stop
end
def A9x (n:Nat) (ns:List Nat):List Bool:=(List.range n).map fun j=>decide (j∈ns)
theorem B4q (n:Nat) (ns:List Nat):(A9x n ns).length=n:=by simp[A9x]
theorem B3u {n m:Nat} {ns:List Nat} (h:m<n):(A9x n ns)[m]?=some (decide (m∈ns)):=by simp[A9x,h]
theorem E3h {n m:Nat} {ns:List Nat} (h:m<n):(A9x n ns).set m true=A9x n (ns++[m]):=by
 refine List.ext_getElem? fun j=>?_
 by_cases hj:j<n
 ·rw[B3u hj]
  by_cases e:m=j
  ·subst e
   rw[List.getElem?_set_self (by rw[B4q];exact hj)]
   simp
  ·rw[List.getElem?_set_ne e,B3u hj]
   simp[Ne.symm e]
 ·rw[List.getElem?_eq_none (by simp[B4q];omega),List.getElem?_eq_none (by simp[B4q];omega)]
theorem F3d (n:Nat):A9x n []=List.replicate n false:=by
 refine List.ext_getElem? fun j=>?_
 by_cases hj:j<n
 ·rw[B3u hj,List.getElem?_replicate,if_pos hj]
  simp
 ·rw[List.getElem?_eq_none (by simp[B4q];omega),List.getElem?_eq_none (by simp;omega)]
theorem E7c (n:Nat):A6s [Value.bool false] n=((List.replicate n false).flatMap A5o.enc).map .t:=by
 refine List.ext_getElem? fun j=>?_
 have hl:(A6s [Value.bool false] n).length=n:=by rw[A3r];simp
 have hr:(((List.replicate n false).flatMap A5o.enc).map PV.t).length=n:=by rw[List.length_map,A1x];simp[A5o]
 by_cases h:j<n
 ·obtain⟨c,hc⟩:∃c,(A6s [Value.bool false] n)[j]?=some c:=⟨_,List.getElem?_eq_getElem (by omega)⟩
  have:=(B7s hc).2
  rw[hc,this]
  have e:((List.replicate n false).flatMap A5o.enc).map PV.t=List.replicate n (.t (bv false)):=by
   clear hc this hl hr h
   induction n with
   | zero=>rfl
   | succ n ih=>
    rw[List.replicate_succ,List.replicate_succ,List.flatMap_cons,List.map_append,ih]
    rfl
  rw[e,List.getElem?_replicate,if_pos h]
  simp[Nat.mod_one]
 ·rw[List.getElem?_eq_none (by omega),List.getElem?_eq_none (by omega)]
theorem F3e {n nx:Nat} (h0:0<n) (h:n<=1000000):B7v 4 1 1 [.bool false] (.t (iv (n:Int))) (.t (iv (n:Int))) nx=some (rowP A5o nx (A9x n []),A1m A5o 4 (A9x n [])):=by
 rw[F3d]
 have hp:rowP A5o nx (List.replicate n false) = .row nx 0 n 1:=by
  obtain⟨k,rfl⟩:∃k,n=k+1:=⟨n-1,by omega⟩
  rw[List.replicate_succ]
  simp[rowP,A5o]
 rw[hp]
 simp only[B7v,Int.toNat_natCast]
 rw[if_pos ⟨by omega,by omega,by omega,by omega⟩,E7c]
 rfl
def R93 (t:T) (l:Nat) (x:Loop) (outs:List (List Int)) (n:Nat) (ns:List Nat):Heap:=
 [(1,A1m ePth 33 outs),(2,.cells 55 [rowP ePth 1 outs]),(3,.cells 25 [.t t]),(4,.lp l x 3 (.ptr 2 0)),(5,A1m A5o 4 (A9x n ns))]
def H93 (t:T) (l:Nat) (x:Loop) (outs:List (List Int)) (n:Nat) (st:PSt):Heap:=R93 t l x outs n st.1++(rowH eNat 3 6 st.1++rowH ePth 33 7 st.2)
def s393 (n:Nat) (ns:List Nat):PV:=rowP A5o 5 (A9x n ns)
def S93 (t:T) (l:Nat) (x:Loop) (outs:List (List Int)) (n:Nat) (st:PSt) (i:Nat):A0b:=⟨E93Y l i (rowP eNat 6 st.1) (rowP ePth 7 st.2) (s393 n st.1),H93 t l x outs n st,8,76⟩
def S93i (t:T) (l:Nat) (x:Loop) (outs:List (List Int)) (n:Nat) (st:PSt) (i:Nat) (ta:T) (k j:Nat):A0b:=
 ⟨[(44,.t (iv (j:Int))),(43,.t (iv (k:Int))),(42,.t ta),(6,.t (iv (i:Int))),(5,rowP ePth 7 st.2),(4,rowP eNat 6 st.1),(3,s393 n st.1),(1,.ptr 3 0),(0,yv l)],H93 t l x outs n st,8,76⟩
section
variable {t : T} {l n : Nat} {x : Loop} {outs : List (List Int)} {st : PSt}
theorem F3f (n:Nat) (ns ns':List Nat):s393 n ns=s393 n ns':=by
 unfold s393
 cases n with
 | zero=>rfl
 | succ n=>
  have:∀l:List Bool,l.length=n+1->rowP A5o 5 l = .row 5 0 (n+1) 1:=by
   intro l hl
   cases l with
   | nil=>simp at hl
   | cons y r=>
    rw[<-hl]
    rfl
  rw[this _ (B4q _ _),this _ (B4q _ _)]
theorem A7n (n:Nat) (ns:List Nat) {k:Nat} (h:5<k):under k (s393 n ns)=true:=A0e _ _ _ _ h
theorem B1h {ns:List Nat} {X:Heap} {q:Nat×Row} (hq:q∈R93 t l x outs n ns):Abs.look (R93 t l x outs n ns++X) q.1=some q.2/\q.1<6/\A1b 6 q.2=true:=by
 simp only[R93,List.mem_cons,List.not_mem_nil,or_false]at hq
 rcases hq with rfl | rfl | rfl | rfl | rfl
 ·exact⟨rfl,by simp,A0x _ _ _ _⟩
 ·refine⟨rfl,by simp,?_⟩
  have:=A0e ePth 6 1 outs (by omega)
  simp only[A1b,A2g,this,Bool.and_self]
 ·exact⟨rfl,by simp,rfl⟩
 ·exact⟨rfl,by simp,rfl⟩
 ·exact⟨rfl,by simp,A0x _ _ _ _⟩
theorem row6 (t:T) (l n:Nat) (x:Loop) (outs:List (List Int)) (st:PSt):A0j eNat 3 (H93 t l x outs n st) 6 st.1:=A0j.right (A0j.head _ _ _ _ _) fun q hq=>by have:=(B1h (X:=[]) hq).2.1;omega
theorem row7 (t:T) (l n:Nat) (x:Loop) (outs:List (List Int)) (st:PSt):A0j ePth 33 (H93 t l x outs n st) 7 st.2:=by
 refine A0j.right (A0j.right (A0j.head' _ _ _ _) fun q hq=>?_) fun q hq=>?_
 ·obtain⟨_,rfl⟩:=A1i hq
  simp
 ·have:=(B1h (X:=[]) hq).2.1
  omega
theorem F3g {q:Nat×Row} (hq:q∈H93 t l x outs n st):Abs.look (H93 t l x outs n st) q.1=some q.2/\q.1<8/\A1b 8 q.2=true:=by
 rcases List.mem_append.1 hq with hq | hq
 ·obtain⟨h1,h2,h3⟩:=B1h (X:=rowH eNat 3 6 st.1++rowH ePth 33 7 st.2) hq
  exact⟨h1,by omega,A3i (by omega) _ h3⟩
 ·rcases List.mem_append.1 hq with hq | hq
  ·obtain⟨h1,rfl⟩:=A1i hq
   exact⟨(row6 t l n x outs st).resolve_left h1,by simp,A0x _ _ _ _⟩
  ·obtain⟨h1,rfl⟩:=A1i hq
   exact⟨(row7 t l n x outs st).resolve_left h1,by simp,A0x _ _ _ _⟩
end
theorem F3h {P:Program} {G:A1c} {B N:Nat} {Q:Exit->A0b->Prop} {s:A0b} {x:Operand} {c d:Code} {b:Bool} (hc:s.ev G x = .t (.v (.bool b))) (h:AK P G B N (if b then c else d) Q s):AK P G B N (.cond x c d) Q s:=fun hn=>C8e hc (h hn)
section
variable {t ta : T} {l n i j : Nat} {x : Loop} {outs : List (List Int)} {st : PSt} {a : List Nd} {p : List Int} {arcs : List Arc}
def H93m (t:T) (l:Nat) (x:Loop) (outs:List (List Int)) (n:Nat) (f:Int) (m:Nat) (ns:List Nat) (ps:List (List Int)):Heap:=
 ((8,.cells 81 [.t (iv f),.t (iv (m:Int))])::R93 t l x outs n ns)++(rowH ePth 33 7 ps++rowH eNat 3 6 ns)
theorem F3i {f:Int} {m:Nat} {ns:List Nat} {ps:List (List Int)}:H93Z ps f (H93m t l x outs n f m ns ps):=by
 have r7:A0j ePth 33 (H93m t l x outs n f m ns ps) 7 ps:=A0j.right (A0j.head _ _ _ _ _) fun q hq=>by
  rcases List.mem_cons.1 hq with rfl | hq
  ·simp
  ·have:=(B1h (X:=[]) hq).2.1;omega
 have r6:A0j eNat 3 (H93m t l x outs n f m ns ps) 6 ns:=by
  refine A0j.right (A0j.right (A0j.head' _ _ _ _) fun q hq=>?_) fun q hq=>?_
  ·obtain⟨_,rfl⟩:=A1i hq
   simp
  ·rcases List.mem_cons.1 hq with rfl | hq
   ·simp
   ·have:=(B1h (X:=[]) hq).2.1;omega
 refine⟨fun q hq=>?_,r7,⟨_,_,rfl⟩⟩
 rcases List.mem_append.1 hq with hq | hq
 ·rcases List.mem_cons.1 hq with rfl | hq
  ·exact⟨rfl,by simp,rfl⟩
  ·obtain⟨h1,h2,h3⟩:=B1h (X:=rowH ePth 33 7 ps++rowH eNat 3 6 ns) hq
   refine⟨?_,by omega,A3i (by omega) _ h3⟩
   show Abs.look ((8,_)::(R93 t l x outs n ns++_)) q.1=_
   rw[look_cons,if_neg (by omega)]
   exact h1
 ·rcases List.mem_append.1 hq with hq | hq
  ·obtain⟨h1,rfl⟩:=A1i hq
   exact⟨r7.resolve_left h1,by simp,A0x _ _ _ _⟩
  ·obtain⟨h1,rfl⟩:=A1i hq
   exact⟨r6.resolve_left h1,by simp,A0x _ _ _ _⟩
set_option maxHeartbeats 1000000 in
theorem G0o {Q:Exit->A0b->Prop} {f:Int} {m:Nat} (hx:IsS eArc ta arcs) (hj:arcs[j]?=some ⟨f,(m:Int)⟩) (hk:arcs.length<=1000000) (hm:m<n) (hp:st.2[i]?=some p) (hpl:p.length<=1000000) (hsl:st.2.length<=1000000) (hsl1:st.1.length<=1000000)
  (next:∀s,Sub Try.prog G 5 s (S93i t l x outs n (arcP p st ⟨f,(m:Int)⟩) i ta arcs.length (j+1))->s.n=76->Q .normal s):AK Try.prog G 5 76 E93 Q (S93i t l x outs n st i ta arcs.length j):=by
 have hjl:=(List.getElem?_eq_some_iff.1 hj).1
 have ia:=A4d hx hj
 have ca:A0s (.t (.ag [iv f,iv (m:Int)]))=some [.t (iv f),.t (iv (m:Int))]:=rfl
 have e1:IntKind.i64.wrap ((j:Int)+1)=((j+1:Nat):Int):=A0k (by omega) (by omega)
 obtain⟨ns,ps⟩:=st
 simp only at hp hsl hsl1
 obtain⟨H0,hH0⟩:∃H0,H0=H93 t l x outs n (ns,ps):=⟨_,rfl⟩
 have r5:Abs.look H0 5=some (A1m A5o 4 (A9x n ns)):=by rw[hH0];rfl
 have r6:A0j eNat 3 H0 6 ns:=by rw[hH0];exact row6 t l n x outs (ns,ps)
 have r7:A0j ePth 33 H0 7 ps:=by rw[hH0];exact row7 t l n x outs (ns,ps)
 have i5:A1k 1 (s393 n ns) (.t (iv (m:Int)))=some (.ptr 5 m):=by
  have:=A1p (e:=A5o) (b:=5) (B3u (ns:=ns) hm) .i64
  rw[show A5o.z=1 from rfl,Nat.mul_one]at this
  exact this
 obtain⟨ar,har⟩:∃ar,ar=Row.cells 81 [.t (iv f),.t (iv (m:Int))]:=⟨_,rfl⟩
 have l5:A0h false 1 ((8,ar)::H0) (.ptr 5 m)=some (.t (bv (decide (m∈ns)))):=by
  have:=A0j.load (e:=A5o) (off:=0) (c:=bv (decide (m∈ns))) (A0j.cons (k:=8) (r:=ar) (.inr r5) (by omega)) (B3u hm) rfl
  simpa[A5o]using this
 have l8:A0h false 1 ((8,ar)::H0) (.ptr 8 1)=some (.t (iv (m:Int))):=by rw[har];simp[A0h]
 rw[F7u]
 refine A2b ctx0 G2x ?_
 unfold G0g
 unfold S93i
 simp only
 rw[<-hH0]
 simp -implicitDefEqProofs [hjl]
 refine A2b ctx0 G2y ?_
 unfold G0h
 simp -implicitDefEqProofs
 refine F2r (fun _:Unit=>S93i t l x outs n (arcP p (ns,ps) ⟨f,(m:Int)⟩) i ta arcs.length j) (fun _=>True) (fun _=>rfl) ?_ ?_
 ·refine C3h ?_
  rw[G2j]
  refine A2b ctx0 c93g1 ?_
  unfold G2s
  have lt:∀cs,A0h true 2 H0 (.t (.pt (iv f::iv (m:Int)::cs)))=some (.t (.ag [iv f,iv (m:Int)])):=fun cs=>by simp[A0h]
  simp -implicitDefEqProofs [ia,lt,A1e,ca,A1t]
  rw[<-har]
  refine A2b ctx0 c93g2 ?_
  unfold G2t
  simp -implicitDefEqProofs [l8,i5,l5]
  by_cases hin:m∈ns
  ·have hd:decide (m∈ns)=true:=decide_eq_true hin
   refine F3h (b:=false) (by simp[A0b.ev,Abs.look,hd]) ?_
   simp only[Bool.false_eq_true,if_false]
   refine fun _=>C8d ?_
   have ea:arcP p (ns,ps) ⟨f,(m:Int)⟩=(ns,ps):=by
    unfold arcP
    rw[if_pos (by simpa using hin)]
   refine Next.mk () trivial ?_
   rw[ea]
   unfold S93i
   refine C6j (by omega) (fun q hq=>?_) ?_
   ·obtain⟨h1,h2,h3⟩:=F3g hq
    refine⟨?_,by omega,h3⟩
    rw[look_cons,if_neg (by omega),hH0]
    exact h1
   ·simp -implicitDefEqProofs [under,A0e,A7n,yv]
  ·have hd:decide (m∈ns)=false:=decide_eq_false hin
   refine F3h (b:=true) (by simp[A0b.ev,Abs.look,hd]) ?_
   simp only[if_true]
   have ea:arcP p (ns,ps) ⟨f,(m:Int)⟩=(ns++[m],ps++[p++[f]]):=by
    unfold arcP
    rw[if_neg (by simpa using hin)]
    rfl
   have st:A1e 1 ((8,ar)::H0) (.ptr 5 m) (.t (bv true))=some ((8,ar)::upd H0 5 (A1m A5o 4 (A9x n (ns++[m])))):=by
    have:=A9p (e:=A5o) (ty:=4) (off:=0) (y:=true) (c:=bv true) (H:=(8,ar)::H0) (b:=5) (by rw[look_cons,if_neg (by omega)];exact r5) (B3u hm) (by decide) rfl rfl
    rw[E3h hm,show A5o.z=1 from rfl,Nat.mul_one]at this
    exact this
   obtain⟨H1,hH1⟩:∃H1,H1=(8,ar)::upd H0 5 (A1m A5o 4 (A9x n (ns++[m]))):=⟨_,rfl⟩
   have k5:Abs.look H1 5=some (A1m A5o 4 (A9x n (ns++[m]))):=by rw[hH1,look_cons,if_neg (by omega),A0o,if_pos rfl,r5];rfl
   have kc:∀c,c≠5->Abs.look H1 c=Abs.look ((8,ar)::H0) c:=fun c hc=>by rw[hH1,look_cons,look_cons];split;rfl;rw[A0o,if_neg hc]
   have k6:A0j eNat 3 H1 6 ns:=r6.imp id fun h=>by rw[kc 6 (by omega),look_cons,if_neg (by omega)];exact h
   have l81:A0h false 1 H1 (.ptr 8 1)=some (.t (iv (m:Int))):=by
    have:Abs.look H1 8=some ar:=by rw[kc 8 (by omega)];rfl
    rw[har]at this
    simp[A0h,this]
   rw[F6v]
   refine A2b ctx0 c93p1 ?_
   unfold G2u
   simp -implicitDefEqProofs [l8,i5,st]
   rw[<-hH1]
   have bs:A1l 3 1 [.int .i64 0] 1 [(0,.t (iv (m:Int)))] 9=some (.row 9 0 1 1,.cells 3 [.t (iv (m:Int))]):=rfl
   obtain⟨b2,H2,n2,ap,r2,ne2,le2,lk2,ge2⟩:=A1j (e:=eNat) (ty:=3) (by':=8) (nx:=10) (m:=[m]) (k6.cons (k:=9) (r:=.cells 3 ((eNat.enc m).map .t)) (by omega)) (A2w (b:=9) (ty:=3) m (by simp)) (by simp;omega) (by simp;omega)
   have ap:appM 3 1 8 ((9,.cells 3 [.t (iv (m:Int))])::H1) 10 (rowP eNat 6 ns) (.row 9 0 1 1)=some (rowP eNat b2 (ns++[m]),H2,n2):=ap
   refine A2b ctx0 c93p2 ?_
   unfold G2v
   simp -implicitDefEqProofs [l81,bs,ap]
   refine fun _=>?_
   have lk:∀c,c≠6->c<9->Abs.look H2 c=Abs.look H1 c:=fun c h1 h2=>by rw[lk2 c h1 (by omega),look_cons,if_neg (by omega)]
   refine A3q.sub (s':=⟨(5,rowP ePth 7 ps)::E93Z l i j arcs.length (.t ta) (rowP eNat 6 (ns++[m])) (s393 n (ns++[m])),H93m t l x outs n f m (ns++[m]) ps,11,76⟩) ?_ (F3c F3i hp hpl hsl rfl (A0e _ _ _ _ (by omega)) (A7n _ _ (by omega)) ?_)
   ·refine B3i (k:=b2) r2 (r7.imp id fun h=>?_) (by omega) (by omega) (by omega) (by omega) (by omega) (fun q hq=>?_) ?_
    ·rw[lk 7 (by omega) (by omega),kc 7 (by omega),look_cons,if_neg (by omega)]
     exact h
    ·rcases List.mem_cons.1 hq with rfl | hq
     ·refine⟨?_,by simp,by simp,by simp only;omega,rfl⟩
      rw[lk 8 (by omega) (by omega),kc 8 (by omega),look_cons,if_pos rfl,har]
      rfl
     ·obtain⟨_,h2,h3⟩:=B1h (X:=[]) hq
      refine⟨?_,by omega,by omega,by omega,A3i (by omega) _ h3⟩
      rw[lk _ (by omega) (by omega),B4m (n:=6) (fun c hc=>if_neg (by omega)) _ h3]
      simp only[R93,List.mem_cons,List.not_mem_nil,or_false]at hq
      rcases hq with rfl | rfl | rfl | rfl | rfl
      ·rw[kc 1 (by omega),look_cons,if_neg (by omega),hH0];rfl
      ·rw[kc 2 (by omega),look_cons,if_neg (by omega),hH0];rfl
      ·rw[kc 3 (by omega),look_cons,if_neg (by omega),hH0];rfl
      ·rw[kc 4 (by omega),look_cons,if_neg (by omega),hH0];rfl
      ·exact k5
    ·rw[F3f n (ns++[m]) ns]
     have u3:=A7n n ns (k:=11) (by omega)
     have f3:ren (fun x=>if x=6 then b2 else x) (s393 n ns)=s393 n ns:=A8b (n:=6) (fun c hc=>if_neg (by omega)) _ (A7n n ns (by omega))
     simp -implicitDefEqProofs [E93Z,A0f,A0e,ren,under,u3,f3,yv]
   ·refine Next.mk () trivial ?_
    rw[ea]
    have hm':=F3i (t:=t) (l:=l) (n:=n) (x:=x) (outs:=outs) (f:=f) (m:=m) (ns:=ns++[m]) (ps:=ps)
    have h6:Abs.look (H93m t l x outs n f m (ns++[m]) ps) 6=some (A1m eNat 3 (ns++[m])):=by
     have:A0j eNat 3 (H93m t l x outs n f m (ns++[m]) ps) 6 (ns++[m]):=by
      refine A0j.right (A0j.right (A0j.head' _ _ _ _) fun q hq=>?_) fun q hq=>?_
      ·obtain⟨_,rfl⟩:=A1i hq
       simp
      ·rcases List.mem_cons.1 hq with rfl | hq
       ·simp
       ·have:=(B1h (X:=[]) hq).2.1;omega
     exact this.resolve_left (by simp)
    refine B3i (k:=10) (l:=ps++[p++[f]]) (l':=ns++[m]) (A0j.right (A0j.head' _ _ _ _) fun q hq=>by have:=(hm'.all q (E2z hq).1).2.1;omega) (.inr ?_) (by omega) (by omega) (by omega) (by omega) (by omega) (fun q hq=>?_) ?_
    ·show Abs.look (rem _ 7++rowH _ _ 10 _) 6=_
     rw[C1h (by omega),A1u,if_neg (by omega)]
     exact h6
    ·obtain⟨_,h2,h3⟩:=B1h (X:=[]) hq
     refine⟨?_,by omega,by omega,by omega,A3i (by omega) _ h3⟩
     show Abs.look (rem _ 7++rowH _ _ 10 _) q.1=_
     rw[C1h (by omega),A1u,if_neg (by omega),B4m (n:=6) (fun c hc=>if_neg (by omega)) _ h3]
     exact(hm'.all q (List.mem_append_left _ (List.mem_cons_of_mem _ hq))).1
    ·have u3:=A7n n (ns++[m]) (k:=8) (by omega)
     have f3:ren (fun x=>if x=7 then 10 else x) (s393 n (ns++[m]))=s393 n (ns++[m]):=A8b (n:=6) (fun c hc=>if_neg (by omega)) _ (A7n n _ (by omega))
     simp -implicitDefEqProofs [T93Z,envB,E93Z,A0f,A0e,ren,under,u3,f3,yv]
 ·rintro _ -
  refine C1d ctx0 c93e3 ?_
  unfold G2r
  simp -implicitDefEqProofs [S93i,e1]
  exact next _ (A8a (by simp -implicitDefEqProofs [S93i])) rfl
end
end Go.Proofs.Ytbiadmfmjnoecaa
