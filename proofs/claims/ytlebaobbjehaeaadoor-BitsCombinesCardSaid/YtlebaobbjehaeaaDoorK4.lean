/-
  BitsCombines: what the law's function returns, for all sets.
-/
import Derived.Test.YtlebaobbjehaeaaDoorN
namespace Go.Proofs.YtlebaobbjehaeaaDoor.bitsCombines
open Go Go.Abs

theorem call {a b : T} {l m : List W} (ha : decB a = some l) (hb : decB b = some m) : CallT Tryd.prog G 4 [a, b] (· = .v (.bool true)) := by
  refine k4.runs ctx4 rfl ?_
  by_cases h1 : 80 < l.length
  · have h1' : (80 : Int) < (l.length : Int) := by omega
    simp -implicitDefEqProofs [M4, len_dec ha, h1, h1', tb4, g0]
  · have h1' : ¬ (80 : Int) < (l.length : Int) := by omega
    by_cases h2 : 80 < m.length
    · have h2' : (80 : Int) < (m.length : Int) := by omega
      simp -implicitDefEqProofs [M4, len_dec ha, len_dec hb, h1, h1', h2, h2', tb4, g0]
    · have h2' : ¬ (80 : Int) < (m.length : Int) := by omega
      have hl : l.length ≤ 1000 := by omega
      have hm : m.length ≤ 1000 := by omega
      have e1 := fun f => g2_eq (f := f) ha hb hl hm
      have e2 : ∀ x : List W, x.length ≤ 1000 → g2 fSame [encB x, encB x] = some (.v (.bool true)) := fun x hx => by
        rw [g2_eq (decB_encB x) (decB_encB x) hx hx]
        simp [fSame]
      simp -implicitDefEqProofs [M4, len_dec ha, len_dec hb, h1, h1', h2, h2', tb4, g0, e1, fAnd, fOr, fMinus, e2, len_and l m hl, len_or l m hl hm, len_minus l m hl]
end Go.Proofs.YtlebaobbjehaeaaDoor.bitsCombines
