/- Auxiliary facts. -/
import Derived.Test.YtobnacghaamfoaaGreatDoorVGQ25
set_option linter.unusedSimpArgs false
set_option linter.unusedVariables false
namespace Go.Proofs.YtobnacghaamfoaaGreatDoor
open Go Go.Abs
variable {q : Gl}
theorem UG:GOK Tryz.prog (G q) 10 G6:=λargs r h=>by
 unfold G6 at h;split at h
 .split at h
  .injection h with h;subst h;exact A0c _ (by unfold lim;omega)
  .cases h
 .cases h
end Go.Proofs.YtobnacghaamfoaaGreatDoor
