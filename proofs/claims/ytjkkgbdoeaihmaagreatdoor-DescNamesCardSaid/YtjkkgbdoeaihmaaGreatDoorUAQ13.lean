/-
 Auxiliary facts. No statement of the program stands here.
-/
import Derived.Test.YtjkkgbdoeaihmaaGreatDoorUAQ12
import Derived.Test.YtjkkgbdoeaihmaaGreatDoorProg
namespace Go.Proofs.YtjkkgbdoeaihmaaGreatDoor
set_option linter.unusedSimpArgs false
set_option linter.unusedVariables false
open Go Go.Abs
structure Gl where
 m : Int
 ts : Nat
 ps : Value
 tr : Nat
 pr : Value
def pow10 : List Int := [1, 10, 100, 1000, 10000, 100000, 1000000, 10000000, 100000000, 1000000000, 10000000000, 100000000000, 1000000000000, 10000000000000, 100000000000000, 1000000000000000, 10000000000000000, 100000000000000000, 1000000000000000000, 10000000000000000000]
def G (q : Gl) : Globs := [(1, [.v (.iface q.ts q.ps)]), (2, [.v (.iface q.tr q.pr)]), (5, pow10.map fun n => .v (.int .u64 n)), (0, [.v (.int .i64 q.m)])]
def q0 : Gl := ⟨0, 0, .nilIface, 0, .nilIface⟩
end Go.Proofs.YtjkkgbdoeaihmaaGreatDoor
