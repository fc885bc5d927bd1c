/- Auxiliary facts. -/
import Derived.Test.YtmplckgbeaifkaaGreatDoorVCQ70
import Derived.Test.YtmplckgbeaifkaaGreatDoorVCQ55
set_option linter.unusedSimpArgs false
set_option linter.unusedVariables false
namespace Go.Proofs.YtmplckgbeaifkaaGreatDoor
open Go Go.Abs
variable {q : Gl}
theorem G5h:SmI zIC.x:=⟨⟨by decide,fun w hw=>by cases hw⟩,by decide,fun d hd=>(by cases hd),wdZ,by decide⟩
theorem TBI.get {cs:List T} (b:TBI cs) (h:chkT b.tb=0) (id:ByteArray):gGet [.ag cs,sv id]=some (.tu [.ag ((getC id b.l).getD zIC).cs,bv (getC id b.l).isSome]):=by
 have:=G1n (ver:=b.ver) id b.hu (b.sort h).1 b.sm.len;rw[<-b.e]at this;exact this
theorem TBI.getSm {cs:List T} (b:TBI cs) (id:ByteArray):SmI ((getC id b.l).getD zIC).x:=by
 cases hg:getC id b.l with
 | none=>exact G5h
 | some c=>exact b.sm.items c (List.mem_of_find?_eq_some hg)
theorem TBI.rem {cs:List T} (b:TBI cs) (h:chkT b.tb=0) (id:ByteArray):∃(cs':List T) (e:Int) (b':TBI cs'),gRmv [.ag cs,sv id]=some (.tu [.ag cs',iv e]) /\
  (e=0->b'.l=remC id b.l/\b'.ver=b.ver)/\((getC id b.l).isSome=true->e=0):=by
 have eR:=G1o (ver:=b.ver) id b.hu (b.sort h).1 b.sm.len;rw[<-b.e]at eR;unfold C4d at eR
 cases hg:(getC id b.l).isSome with
 | true=>
  rw[hg,if_pos rfl]at eR;have hrl:(remC id b.l).length<=b.l.length:=List.length_filter_le _ _;exact⟨_,0,⟨b.ver,_,remC id b.l,rfl,IsS.tree _ _,b.sm.ver,by have:=b.sm.len;omega,fun y hy=>b.sm.items y (List.mem_filter.1 hy).1⟩,eR,fun _=>⟨rfl,rfl⟩,fun _=>rfl⟩
 | false=>
  rw[hg,if_neg (by decide)]at eR;exact⟨cs,16,b,by rw[eR,<-b.e],fun h=>(by cases h),fun h=>(by cases h)⟩
end Go.Proofs.YtmplckgbeaifkaaGreatDoor
