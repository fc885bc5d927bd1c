/- Auxiliary facts. -/
import Derived.Test.YtmplckgbeaifkaaGreatDoorVCQ56
import Derived.Test.YtmplckgbeaifkaaGreatDoorVCQ55
import Derived.Test.YtmplckgbeaifkaaGreatDoorVCQ42
set_option linter.unusedSimpArgs false
set_option maxRecDepth 100000
set_option maxHeartbeats 0
set_option linter.unusedVariables false
namespace Go.Proofs.YtmplckgbeaifkaaGreatDoor
open Go Go.Abs
variable {q : Gl}
def SGt (X Z:Row) (id:ByteArray) (j:Nat):A0b:=⟨[(6,.t (iv (j:Int))),(4,.ptr 1 0),(2,.ptr 0 0),(1,.t (sv id))],[(1,Z),(0,X)],2,28⟩
theorem F2q {id:ByteArray} {l:List IC} {j:Nat} {c:IC} (h:l[j]?=some c):getC id (l.drop j)=if c.x.id=id then some c else getC id (l.drop (j+1)):=by
 rw[List.drop_eq_getElem_cons (List.getElem?_eq_some_iff.1 h).1,(List.getElem?_eq_some_iff.1 h).2];unfold getC;rw[List.find?_cons];by_cases e:c.x.id=id
 ·rw[decide_eq_true e,if_pos e]
 ·rw[decide_eq_false e,if_neg e]
theorem F2r {ver id:ByteArray} {u:T} {l:List IC} (hu:IsS eIC u l) (hl:l.length<=1000000):A0v Tryz.prog (G q) 43 [.ag [sv ver,u],sv id] (· = getT id l):=by
 have cd:A0q (.t (.ag [sv ver,u]))=some [.t (sv ver),.t u]:=rfl;have lu:=hu.len
 obtain⟨P,hP⟩:∃P,P=getT id l:=⟨_,rfl⟩
 rw[<-hP]
 obtain⟨X,hX⟩:∃X,X=bRow ver u:=⟨_,rfl⟩
 obtain⟨Z,hZ⟩:∃Z,Z=zI:=⟨_,rfl⟩
 have z:=ldB (ver:=ver) (u:=u) (H:=[(1,Z),(0,X)]) (b:=0) (by rw[hX];rfl);have C:Ctx Tryz.prog (G q) _:=(A0x.nil:A0x Tryz.prog (G q) []).ctx mixed;refine F0y.call rfl ?_;(conv in D4a=>cbv);refine A0a C ?_;simp -implicitDefEqProofs [cd];rw[show Row.cells 39 [.t (sv ver),.t u]=X from hX.symm];rw[show Row.cells 28 [.t (.v (.string ⟨#[]⟩)),.t (.v (.slice none 0 0)),.t (.v (.int .i64 0)),.t (.v (.slice none 0 0)),.t (.v (.int .i64 0)),.t (.v (.string ⟨#[]⟩)),.t (.v (.int .i64 0)),.t (.v (.int .i64 0)),.t (.v (.slice none 0 0))]=Z from hZ.symm];refine A0s (α:=Unit) (fun _=>⟨[(4,.ptr 1 0)],[(1,Z),(0,X)],2,28⟩) (fun _=>getC id l=none) (fun _=>rfl) ?_ ?_
 ·refine A0a C ?_;simp -implicitDefEqProofs;refine A0g ?_;refine A0t (SGt X Z id) (fun j=>l.length-j) (fun j=>j<=l.length/\getC id (l.drop j)=getC id l) 0 (fun _=>rfl) ⟨Nat.zero_le _,rfl⟩ ?_ rfl ?_
  ·exact A0d (by simp -implicitDefEqProofs [SGt])
  rintro j ⟨hj,heq⟩;by_cases hlt:j<l.length
  ·obtain⟨c,hc⟩:∃c,l[j]?=some c:=⟨_,List.getElem?_eq_getElem hlt⟩
   obtain⟨pp,i1,ld9,ldid⟩:=B3h hu hc;obtain⟨tw,td,k,nm,f,t,tk,ks,ecs,_⟩:=A1g c.ok;rw[ecs]at ld9;have e1:IntKind.i64.wrap ((j:Int)+1)=((j+1:Nat):Int):=A0j (by omega) (by omega);have hbe:=B3m c.x.id id;rw[F2q hc]at heq;refine A1p ?_;refine A0c C ?_;simp -implicitDefEqProofs [SGt,z.l1,lu,hlt];refine⟨rfl,?_⟩;by_cases h1:c.x.id=id
   ·rw[if_pos h1]at heq;rw[decide_eq_true h1]at hbe
    have hPe:P = .tu [.ag c.cs,bv true]:=by rw[hP,getT,<-heq];rfl
    rw[ecs]at hPe;have s1:=sI10 c.x.id tw c.x.state td k nm f t tk [(0,X)] ⟨#[]⟩ nilS 0 nilS 0 ⟨#[]⟩ 0 0 nilS
    have s1:A0h 9 [(1,Z),(0,X)] (.ptr 1 0) (.t (.ag [sv c.x.id,tw,iv c.x.state,td,iv k,sv nm,iv f,iv t,tk]))=some [(1,iRow c.x.id tw c.x.state td k nm f t tk),(0,X)]:=by rw[hZ];exact s1
    have y:=ldI c.x.id tw c.x.state td k nm f t tk (H:=[(1,iRow c.x.id tw c.x.state td k nm f t tk),(0,X)]) (b:=1) rfl
    obtain⟨xid,hxid⟩:∃xid,xid=c.x.id:=⟨_,rfl⟩
    rw[<-hxid]at *;refine A1p ?_;refine A0g ?_;refine A0c C ?_;simp -implicitDefEqProofs [z.l1,i1,ldid,hbe,ld9,s1,y.a,hPe,A5u]
   ·rw[if_neg h1]at heq;rw[decide_eq_false h1]at hbe;refine A1p ?_;refine A0g ?_;refine A0c C ?_;simp -implicitDefEqProofs [z.l1,i1,ldid,hbe];refine⟨rfl,?_⟩;refine A0c C ?_;simp -implicitDefEqProofs [e1];exact Abs.Next.mk (j+1) ⟨⟨by omega,heq⟩,by omega⟩ (A0d (by simp -implicitDefEqProofs [SGt]))
  ·have hjl:j=l.length:=by omega
   subst hjl
   have hn:getC id l=none:=by rw[<-heq,List.drop_length];rfl
   refine A1p ?_;refine A0c C ?_;simp -implicitDefEqProofs [SGt,z.l1,lu];exact Abs.Next.mk () hn (A0d (by simp -implicitDefEqProofs))
 ·rintro _ hn
  have hPe:P = .tu [.ag zIC.cs,bv false]:=by rw[hP,getT,hn];rfl
  have s1:=sI10 ⟨#[]⟩ nilS 0 nilS 0 ⟨#[]⟩ 0 0 nilS [(0,X)] ⟨#[]⟩ nilS 0 nilS 0 ⟨#[]⟩ 0 0 nilS
  have s1:A0h 9 [(1,Z),(0,X)] (.ptr 1 0) (.t (.ag [sv ⟨#[]⟩,nilS,iv 0,nilS,iv 0,sv ⟨#[]⟩,iv 0,iv 0,nilS]))=some [(1,zI),(0,X)]:=by rw[hZ];exact s1
  have y:=ldI ⟨#[]⟩ nilS 0 nilS 0 ⟨#[]⟩ 0 0 nilS (H:=[(1,zI),(0,X)]) (b:=1) rfl;have bz:=bdZ9;refine A0a C ?_;simp -implicitDefEqProofs [bz,s1,-evalK_build];refine A0c C ?_;simp -implicitDefEqProofs [y.a,hPe];rfl
end Go.Proofs.YtmplckgbeaifkaaGreatDoor
