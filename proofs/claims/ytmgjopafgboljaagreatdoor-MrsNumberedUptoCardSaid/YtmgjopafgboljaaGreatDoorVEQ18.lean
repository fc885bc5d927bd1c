/- Auxiliary facts. -/
import Derived.Test.YtmgjopafgboljaaGreatDoorVEQ17
set_option linter.unusedSimpArgs false
set_option linter.unusedVariables false
namespace Go.Abs
open Go
theorem C5g {σ τ:Int->Int} {x:Ep} (h:∀v∈occE x,σ v=τ v):mapE σ x=mapE τ x:=by
 unfold mapE;congr 1
 ·exact h _ (by simp[occE])
 ·refine List.map_congr_left fun a ha=>?_;rw[h a.var (by simp only[occE,List.mem_cons,List.mem_map];exact .inr ⟨a,ha,rfl⟩)]
theorem C5h {σ τ:Int->Int} {c:Qq} (h:∀v∈occC c,σ v=τ v):mapQ σ c=mapQ τ c:=by
 unfold mapQ;rw[h c.high (by simp[occC]),h c.low (by simp[occC])]
end Go.Abs
