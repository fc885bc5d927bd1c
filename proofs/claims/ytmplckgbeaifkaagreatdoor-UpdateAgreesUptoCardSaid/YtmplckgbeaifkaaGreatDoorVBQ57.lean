/-
 Auxiliary facts. No statement of the program stands here.
-/
import Derived.Test.YtmplckgbeaifkaaGreatDoorVBQ53
namespace Go.Proofs.YtmplckgbeaifkaaGreatDoor
set_option linter.unusedSimpArgs false
set_option linter.unusedVariables false
open Go Go.Abs
variable {q : Gl}
theorem D7g {x:It} {l:List Dv} (h:(repI x l).state=1):x.state=1/\oneL l (keep l [] x.decs)=some (repI x l).gold:=by
 unfold repI at h ⊢;by_cases h1:x.state=1
 ·simp only[if_pos h1]at h ⊢;refine⟨h1,?_⟩
  cases e:oneL l (keep l [] x.decs)with
  | none=>rw[e]at h;simp at h
  | some d=>rfl
 ·simp only[if_neg h1]at h;exact absurd h h1
end Go.Proofs.YtmplckgbeaifkaaGreatDoor
