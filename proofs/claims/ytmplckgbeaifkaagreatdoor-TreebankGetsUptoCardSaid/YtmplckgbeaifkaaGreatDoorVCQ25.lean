/- Auxiliary facts. -/
import Derived.Test.YtmplckgbeaifkaaGreatDoorVCQ17
import Derived.Test.YtmplckgbeaifkaaGreatDoorVCQ10
set_option linter.unusedSimpArgs false
set_option linter.unusedVariables false
namespace Go.Abs
open Go
theorem D9s:∀m:List DC,IsDs (m.map DC.d) (m.flatMap DC.cs)
 | []=>by simp[IsDs]
 | x::m=>by
  rw[List.map_cons,List.flatMap_cons,IsDs];exact⟨_,_,rfl,x.ok,D9s m⟩
theorem IsS.isK {t:T} {m:List DC} (h:IsS eDC t m):IsK t (m.map DC.d):=by
 rcases h with⟨rfl,rfl⟩ | rfl
 ·exact .inl ⟨rfl,rfl⟩
 ·exact .inr ⟨m.flatMap DC.cs,by rw[slT,List.length_map];rfl,D9s m⟩
end Go.Abs
