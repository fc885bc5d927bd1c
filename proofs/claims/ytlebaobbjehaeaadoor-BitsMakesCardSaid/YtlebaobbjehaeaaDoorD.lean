/-
  What the row's words give the walk: the table's cells, and what came in as trees. No statement of the program stands here.
-/
import Derived.Test.YtlebaobbjehaeaaDoorE
import Derived.Test.YtlebaobbjehaeaaDoorA21
import Derived.Test.YtlebaobbjehaeaaDoorCards
import Derived.Test.YtlebaobbjehaeaaDoorTie
import Derived.Deep.DeepHandedRow
namespace Go.Proofs.YtlebaobbjehaeaaDoor
set_option linter.unusedSimpArgs false
set_option linter.unusedVariables false
open Go Go.Abs Go.ChangeShapes Go.WideShapes Go.ChangeAt Go.RowKit

theorem own : ownKnob Tryd.prog.godebug = none := by kernel_rfl
theorem laidOut : laidOutB Tryd.prog = true := by kernel_rfl
theorem gTab : Tryd.prog.globalNamed "math/bits.deBruijn64tab" = some 0 := by kernel_rfl
theorem gTabType : (Tryd.prog.globals[0]?).map (·.type) = some 45 := by kernel_rfl
theorem cells45 : Tryd.prog.cellsOf 45 = 64 := by kernel_rfl
theorem cells5 : Tryd.prog.cellsOf 5 = 1 := by kernel_rfl
theorem cells39 : Tryd.prog.cellsOf 39 = 1 := by kernel_rfl
theorem cells3 : Tryd.prog.cellsOf 3 = 1 := by kernel_rfl

theorem globs {W : World} (h : laidMetH Tryd.prog [("math/bits.deBruijn64tab", Rows.laid_math_bits_deBruijn64tab)] W) (g : Nat) (cs : List T) (hl : Abs.look G g = some cs) : Old W g ∧ RepC (Old W) W cs g 0 := by
  have t : Lib.TabIs Tryd.prog W "math/bits.deBruijn64tab" .u8 deBruijn := Lib.tabIs_of_head (rest := []) gTab gTabType Tryd.underlying45 Tryd.underlying5 cells5 cells45 h
  simp only [G, Abs.look] at hl
  split at hl
  · rename_i h0
    injection hl with hl
    subst hl; subst h0
    exact glob_tab t gTab (by decide)
  · cases hl

theorem dec_ints {x : T} {zs : List Int} (h : IntsT .u64 x zs) : ∃ l, decB x = some l ∧ l.length ≤ maxLen := by
  obtain ⟨hm, hw, h⟩ := h
  rcases h with ⟨rfl, rfl⟩ | rfl
  · exact ⟨[], rfl, by simp⟩
  · have : ∀ zs : List Int, (∀ n ∈ zs, (Lit.int .u64 n).wf = true) → ∃ l, decUs (zs.map fun n => .v (.int .u64 n)) = some l ∧ l.length = zs.length := by
      intro zs
      induction zs with
      | nil => exact fun _ => ⟨[], rfl, rfl⟩
      | cons z zs ih =>
        intro hw
        obtain ⟨l, hl, hn⟩ := ih fun n hn => hw n (by simp [hn])
        have hz := hw z (by simp)
        simp [Lit.wf, IntKind.min, IntKind.max, IntKind.signed, IntKind.bits] at hz
        refine ⟨BitVec.ofNat 64 z.toNat :: l, ?_, by simp [hn]⟩
        simp only [List.map_cons, decUs, decU, hl]
        rw [if_pos (by omega)]
    obtain ⟨l, hl, hn⟩ := this zs hw
    exact ⟨l, by simp [decB, hl], by omega⟩

/-- A world for the witness: the table holding what its initialiser lays. -/
noncomputable def laidWorld (os : Os) : World :=
  { World.holding Tryd.prog os ⟨#[], #[], []⟩ with heap := (World.holding Tryd.prog os ⟨#[], #[], []⟩).heap.modify 0 fun
      | .cells _ t frozen => .cells (deBruijn.map (Value.int .u8 ·)).toArray t frozen
      | o => o }

end Go.Proofs.YtlebaobbjehaeaaDoor
