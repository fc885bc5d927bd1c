/- Auxiliary facts. -/
import Derived.Test.YtmgjopafgboljaaGreatDoorVEQ24
import Derived.Test.YtmgjopafgboljaaGreatDoorVEQ11
set_option linter.unusedSimpArgs false
set_option linter.unusedVariables false
namespace Go.Abs
open Go
theorem E8r (l:List ByteArray):(upN l.length).map (vS l)=l:=by
 refine List.ext_getElem? fun i=>?_;unfold upN;rw[List.map_map,List.getElem?_map];by_cases h:i<l.length
 ·rw[List.getElem?_range h,Option.map_some];simp only[Function.comp_apply,vS,Int.toNat_natCast];rw[List.getD_eq_getElem?_getD,List.getElem?_eq_getElem h];rfl
 ·rw[List.getElem?_eq_none (by simp;omega),List.getElem?_eq_none (by omega)];rfl
end Go.Abs
