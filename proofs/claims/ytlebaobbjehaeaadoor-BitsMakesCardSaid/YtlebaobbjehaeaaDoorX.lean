/-
  The chapter's examples hold: 'exampleHolds' returns true, reckoned by the kernel over the compact code.
-/
import Derived.Test.YtlebaobbjehaeaaDoorE
import Derived.Test.YtlebaobbjehaeaaDoorA20
namespace Go.Proofs.YtlebaobbjehaeaaDoor
set_option linter.unusedSimpArgs false
set_option linter.unusedVariables false
open Go Go.Abs
def tab : List (Nat × FnM) := [(9, ⟨1, 49, M9, [(.tmp 2), (.tmp 3)]⟩), (10, ⟨1, 50, M10, [(.tmp 2), (.tmp 3)]⟩), (11, ⟨2, 26, M11, [(.tmp 4)]⟩), (12, ⟨2, 26, M12, [(.tmp 4)]⟩), (13, ⟨1, 29, M13, [(.tmp 2)]⟩), (14, ⟨1, 20, M14, [(.tmp 2)]⟩), (15, ⟨2, 33, M15, [(.tmp 4)]⟩), (16, ⟨2, 26, M16, [(.tmp 4)]⟩), (17, ⟨2, 31, M17, [(.tmp 4)]⟩), (18, ⟨2, 28, M18, [(.tmp 4)]⟩), (19, ⟨2, 29, M19, [(.tmp 4)]⟩), (20, ⟨2, 26, M20, [(.tmp 4)]⟩), (21, ⟨2, 18, M21, [(.tmp 4)]⟩), (22, ⟨2, 25, M22, [(.tmp 4)]⟩), (23, ⟨2, 21, M23, [(.tmp 4)]⟩), (24, ⟨2, 10, M24, [(.tmp 4)]⟩), (25, ⟨2, 13, M25, [(.tmp 4)]⟩), (26, ⟨2, 13, M26, [(.tmp 4)]⟩), (27, ⟨1, 18, M27, [(.tmp 2)]⟩), (28, ⟨1, 6, M28, [(.tmp 2)]⟩), (29, ⟨1, 21, M29, [(.tmp 2)]⟩), (30, ⟨1, 23, M30, [(.tmp 2)]⟩), (31, ⟨1, 14, M31, [(.tmp 2)]⟩), (32, ⟨2, 13, M32, [(.tmp 4)]⟩), (33, ⟨2, 13, M33, [(.tmp 4)]⟩), (34, ⟨1, 35, M34, [(.tmp 2)]⟩), (3, ⟨2, 46, M3, [(.tmp 4)]⟩), (4, ⟨2, 42, M4, [(.tmp 4)]⟩), (5, ⟨3, 51, M5, [(.tmp 6)]⟩), (6, ⟨3, 141, M6, [(.tmp 6)]⟩), (7, ⟨1, 83, M7, [(.tmp 2)]⟩), (8, ⟨0, 79, M8, [(.tmp 0)]⟩)]
theorem tabOK : TabOK Tryd.prog G tab := by
  intro q hq
  simp only [tab, List.mem_cons, List.not_mem_nil, or_false] at hq
  rcases hq with rfl | rfl | rfl | rfl | rfl | rfl | rfl | rfl | rfl | rfl | rfl | rfl | rfl | rfl | rfl | rfl | rfl | rfl | rfl | rfl | rfl | rfl | rfl | rfl | rfl | rfl | rfl | rfl | rfl | rfl | rfl | rfl
  · exact k9
  · exact k10
  · exact k11
  · exact k12
  · exact k13
  · exact k14
  · exact k15
  · exact k16
  · exact k17
  · exact k18
  · exact k19
  · exact k20
  · exact k21
  · exact k22
  · exact k23
  · exact k24
  · exact k25
  · exact k26
  · exact k27
  · exact k28
  · exact k29
  · exact k30
  · exact k31
  · exact k32
  · exact k33
  · exact k34
  · exact k3
  · exact k4
  · exact k5
  · exact k6
  · exact k7
  · exact k8

theorem example_true : CallT Tryd.prog G 8 [] (· = .v (.bool true)) := callN_sound mixed tabOK 100 10 8 [] _ (by kernel_rfl)
end Go.Proofs.YtlebaobbjehaeaaDoor
