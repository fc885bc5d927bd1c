/-
  The package-level table that this seat's functions read: its cells. No statement of the program stands here.
-/
import Derived.Test.YtlebaobbjehaeaaDoorA19
import Derived.Test.YtlebaobbjehaeaaDoorProg
namespace Go.Proofs.YtlebaobbjehaeaaDoor
set_option linter.unusedSimpArgs false
set_option linter.unusedVariables false
open Go Go.Abs

def tabU8 (l : List Int) : List T := l.map fun n => .v (.int .u8 n)
def deBruijn : List Int := [0, 1, 56, 2, 57, 49, 28, 3, 61, 58, 42, 50, 38, 29, 17, 4, 62, 47, 59, 36, 45, 43, 51, 22, 53, 39, 33, 30, 24, 18, 12, 5, 63, 55, 48, 27, 60, 41, 37, 16, 46, 35, 44, 21, 52, 32, 23, 11, 54, 26, 40, 15, 34, 20, 31, 10, 25, 14, 19, 9, 13, 8, 7, 6]
def G : Globs := [(0, tabU8 deBruijn)]
end Go.Proofs.YtlebaobbjehaeaaDoor
