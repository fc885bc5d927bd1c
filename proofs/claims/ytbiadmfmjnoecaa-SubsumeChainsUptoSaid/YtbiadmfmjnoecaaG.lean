/-
  This seat's functions read no package-level variable. No statement of the program stands here.
-/
import Derived.Test.YtbiadmfmjnoecaaA19
import Derived.Test.YtbiadmfmjnoecaaProg
namespace Go.Proofs.Ytbiadmfmjnoecaa
set_option linter.unusedSimpArgs false
set_option linter.unusedVariables false
open Go Go.Abs

def G : Globs := []
end Go.Proofs.Ytbiadmfmjnoecaa
