/- Auxiliary facts. -/
import Derived.Test.YtmplckgbeaifkaaGreatDoorVCQ17
import Derived.Test.YtmplckgbeaifkaaGreatDoorVCQ10
import Derived.Test.YtmplckgbeaifkaaGreatDoorVCQ25
set_option linter.unusedSimpArgs false
set_option linter.unusedVariables false
namespace Go.Proofs.YtmplckgbeaifkaaGreatDoor
open Go Go.Abs
def putI (x:It):List It->List It
 | []=>[x]
 | y::r=>if cmpS y.id x.id<0 then y::putI x r else if cmpS y.id x.id=0 then x::r else x::y::r
theorem B3x {x:It}:∀{l:List It},l.length<=(putI x l).length/\(putI x l).length<=l.length+1
 | []=>by simp[putI]
 | z::r=>by
  have:=B3x (x:=x) (l:=r);rw[putI];split
  ·simp only[List.length_cons];omega
  ·split<;>simp only[List.length_cons]<;>omega
def putT (b:Tb) (x:It):Except Int Tb:=
 if A0y false x.id=false then .error 1 else if chkR x≠0 then .error (chkR x)else if 256<(putI x b.items).length then .error 7 else .ok ⟨b.ver,putI x b.items⟩
end Go.Proofs.YtmplckgbeaifkaaGreatDoor
namespace Go.Abs
open Go
def DC.of (d:Dv):DC:=⟨d,encD d,IsD.enc d⟩
end Go.Abs
