/-
  BitsMakes: what the law's function returns, for all lists of numbers and all sets.
-/
import Derived.Test.YtlebaobbjehaeaaDoorT11
namespace Go.Proofs.YtlebaobbjehaeaaDoor.bitsMakes
set_option linter.unusedSimpArgs false
set_option linter.unusedVariables false
open Go Go.Abs

theorem call {a b : T} {l : List Int} {m : List W} (ha : decI a = some l) (hb : decB b = some m) : CallT Tryd.prog G 3 [a, b] (· = .v (.bool true)) := by
  refine k3.runs ctx10 rfl ?_
  by_cases h1 : 200 < l.length
  · have h1' : (200 : Int) < (l.length : Int) := by omega
    simp -implicitDefEqProofs [M3, len_decI ha, h1, h1', tb10, g0]
  · have h1' : ¬ (200 : Int) < (l.length : Int) := by omega
    by_cases h2 : 80 < m.length
    · have h2' : (80 : Int) < (m.length : Int) := by omega
      simp -implicitDefEqProofs [M3, len_decI ha, len_dec hb, h1, h1', h2, h2', tb10, g0]
    · have h2' : ¬ (80 : Int) < (m.length : Int) := by omega
      have hl : l.length ≤ 1000000 := by omega
      have hm : m.length ≤ 1000 := by omega
      have e1 := fun f => gI_eq (f := f) ha hl
      have e2 := fun f => g1_eq (f := f) hb hm
      have hle : (els m (64 * m.length)).length ≤ 1000000 := by have := els_len m (64 * m.length); omega
      have e3 := gSI_eq hle
      by_cases hg : l.all inR = true
      · have ho : ofT l = .tu [encB (normL (fill 64 l l.length)), .v (.int .i64 0)] := by unfold ofT; rw [if_pos hg]
        have hx : (normL (fill 64 l l.length)).length ≤ 1000 := by have := length_normL (fill 64 l l.length); rw [length_fill] at this; omega
        have e4 := g2_eq (f := fSame) (decB_encB (normL (fill 64 l l.length))) (decB_encB _) hx hx
        simp -implicitDefEqProofs [M3, len_decI ha, len_dec hb, h1, h1', h2, h2', tb10, g0, e1, e2, e3, ho, e4, fSame, fEls]
      · have ho : ofT l = .tu [.v (.slice none 0 0), .v (.int .i64 2)] := by unfold ofT; rw [if_neg hg]
        have e4 : g2 fSame [.v (.slice none 0 0), .v (.slice none 0 0)] = some (.v (.bool true)) := rfl
        simp -implicitDefEqProofs [M3, len_decI ha, len_dec hb, h1, h1', h2, h2', tb10, g0, e1, e2, e3, ho, e4, fEls]

end Go.Proofs.YtlebaobbjehaeaaDoor.bitsMakes
