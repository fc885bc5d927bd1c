/- Auxiliary facts. -/
import Derived.Test.YtmplckgbeaifkaaGreatDoorVCQ50
set_option linter.unusedSimpArgs false
set_option maxRecDepth 100000
set_option maxHeartbeats 0
set_option linter.unusedVariables false
namespace Go.Proofs.YtmplckgbeaifkaaGreatDoor
open Go Go.Abs Go.ChangeShapes Go.WideShapes Go.ChangeAt Go.RowKit
theorem E1c {W:World} {base:Nat} {v:Value} (h:Value.okWide Tryz.prog W .any base 9 v):∃s,v = .string s/\s.size<=lim:=by
 obtain⟨s,rfl⟩:=okWide_string Tryz.underlying9 h;refine⟨s,rfl,?_⟩;unfold Value.okWide at h;have hu:=Tryz.underlying9;unfold Cell.okWide Cell.ok at h;generalize Tryz.prog.underlying 9=d at h hu;subst hu;have h':(s.size:Int)<=IntKind.i64.max:=h
 have e:IntKind.i64.max=9223372036854775807:=by decide
 rw[e]at h';show s.size<=9223372036854775807;omega
end Go.Proofs.YtmplckgbeaifkaaGreatDoor
