/-
  BitsAsks: what the law's function returns, for all sets and numbers.
-/
import Derived.Test.YtlebaobbjehaeaaDoorT9
namespace Go.Proofs.YtlebaobbjehaeaaDoor.bitsAsks
set_option linter.unusedSimpArgs false
set_option linter.unusedVariables false
open Go Go.Abs

theorem gHas_some {t : T} {l : List W} (h : decB t = some l) {i : Int} (hi : i ≤ 9223372036854775807) : ∃ b, gHas [t, .v (.int .i64 i)] = some (.v (.bool b)) := by
  unfold gHas
  simp only [h]
  by_cases h0 : i < 0
  · exact ⟨false, by simp [h0]⟩
  · exact ⟨hasL l i.toNat, by simp [h0, hi]⟩

theorem call {a b : T} {l m : List W} {i : Int} (ha : decB a = some l) (hb : decB b = some m) (hi : i ≤ 9223372036854775807) : CallT Tryd.prog G 5 [a, b, .v (.int .i64 i)] (· = .v (.bool true)) := by
  refine k5.runs ctx8 rfl ?_
  by_cases h1 : 80 < l.length
  · have h1' : (80 : Int) < (l.length : Int) := by omega
    simp -implicitDefEqProofs [M5, len_dec ha, h1, h1', tb8, g0]
  · have h1' : ¬ (80 : Int) < (l.length : Int) := by omega
    by_cases h2 : 80 < m.length
    · have h2' : (80 : Int) < (m.length : Int) := by omega
      simp -implicitDefEqProofs [M5, len_dec ha, len_dec hb, h1, h1', h2, h2', tb8, g0]
    · have h2' : ¬ (80 : Int) < (m.length : Int) := by omega
      have hl : l.length ≤ 1000 := by omega
      have hm : m.length ≤ 1000 := by omega
      have e1 := fun f => g2_eq (f := f) ha hb hl hm
      have e2 := fun f => g1_eq (f := f) ha hl
      obtain ⟨c, e3⟩ := gHas_some ha hi
      simp -implicitDefEqProofs [M5, len_dec ha, len_dec hb, h1, h1', h2, h2', tb8, g0, e1, e2, e3, fSub, fEq, fCnt]
end Go.Proofs.YtlebaobbjehaeaaDoor.bitsAsks
