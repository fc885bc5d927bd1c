/-
  OnesCount64, Count: what they return.
-/
import Derived.Test.YtlebaobbjehaeaaDoorT6
import Derived.Test.YtlebaobbjehaeaaDoorP
namespace Go.Proofs.YtlebaobbjehaeaaDoor
set_option linter.unusedSimpArgs false
set_option linter.unusedVariables false
open Go Go.Abs

section
variable {Φ : Oracle} {H : Heap} {nx : Nat}
theorem wrap_add_toNat (x y : W) : IntKind.u64.wrap ((x.toNat : Int) + (y.toNat : Int)) = ((x + y : W).toNat : Int) := by
  unfold IntKind.wrap IntKind.bits IntKind.signed
  simp only [Bool.false_and, Bool.false_eq_true, if_false, BitVec.toNat_add]
  have e1 : (2 : Int) ^ 64 = 18446744073709551616 := by decide
  have e2 : (2 : Nat) ^ 64 = 18446744073709551616 := by decide
  rw [e1, e2]
  omega
@[simp] theorem uv_add (isB : Bool) (nk : Option NK) (x y : W) : evalK Φ H nx (.bin isB .add nk) [.t (uv x), .t (uv y)] = some (.t (uv (x + y)), H, nx) := by
  simp only [uv, evalK_add, wrap_add_toNat]
@[simp] theorem uv_conv (x : W) (h : x.toNat < 2 ^ 62) : convM (some .i64) (.t (uv x)) = some (.t (.v (.int .i64 (x.toNat : Int)))) := by
  have : IntKind.i64.wrap (x.toNat : Int) = (x.toNat : Int) := wrap_i64 (by omega) (by omega)
  simp only [uv, convM, this]
end

theorem ones_call (x : W) : CallT Tryd.prog G 34 [uv x] (· = .v (.int .i64 (popc x.toNat : Int))) := by
  refine k34.runs ctx0 rfl ?_
  have s1 : ∀ x : W, evalK (orc []) [] 0 (.bin false .shr none) [.t (uv x), .t (.v (.int .u64 1))] = some (.t (uv (x >>> 1)), [], 0) := fun x => uv_shr false none x .u64 1 (by omega)
  have s2 : ∀ x : W, evalK (orc []) [] 0 (.bin false .shr none) [.t (uv x), .t (.v (.int .u64 2))] = some (.t (uv (x >>> 2)), [], 0) := fun x => uv_shr false none x .u64 2 (by omega)
  have s4 : ∀ x : W, evalK (orc []) [] 0 (.bin false .shr none) [.t (uv x), .t (.v (.int .u64 4))] = some (.t (uv (x >>> 4)), [], 0) := fun x => uv_shr false none x .u64 4 (by omega)
  have s8 : ∀ x : W, evalK (orc []) [] 0 (.bin false .shr none) [.t (uv x), .t (.v (.int .u64 8))] = some (.t (uv (x >>> 8)), [], 0) := fun x => uv_shr false none x .u64 8 (by omega)
  have s16 : ∀ x : W, evalK (orc []) [] 0 (.bin false .shr none) [.t (uv x), .t (.v (.int .u64 16))] = some (.t (uv (x >>> 16)), [], 0) := fun x => uv_shr false none x .u64 16 (by omega)
  have s32 : ∀ x : W, evalK (orc []) [] 0 (.bin false .shr none) [.t (uv x), .t (.v (.int .u64 32))] = some (.t (uv (x >>> 32)), [], 0) := fun x => uv_shr false none x .u64 32 (by omega)
  obtain ⟨y1, h1⟩ : ∃ y : W, (x >>> 1 &&& 6148914691236517205#64) + (x &&& 6148914691236517205#64) = y := ⟨_, rfl⟩
  obtain ⟨y2, h2⟩ : ∃ y : W, (y1 >>> 2 &&& 3689348814741910323#64) + (y1 &&& 3689348814741910323#64) = y := ⟨_, rfl⟩
  obtain ⟨y3, h3⟩ : ∃ y : W, (y2 >>> 4 + y2) &&& 1085102592571150095#64 = y := ⟨_, rfl⟩
  obtain ⟨y4, h4⟩ : ∃ y : W, y3 + y3 >>> 8 = y := ⟨_, rfl⟩
  obtain ⟨y5, h5⟩ : ∃ y : W, y4 + y4 >>> 16 = y := ⟨_, rfl⟩
  obtain ⟨y6, h6⟩ : ∃ y : W, y5 + y5 >>> 32 = y := ⟨_, rfl⟩
  have t1 : ∀ a b : W, a.toNat + b.toNat < 2 ^ 64 → (a + b).toNat = a.toNat + b.toNat := fun a b h => by rw [BitVec.toNat_add, Nat.mod_eq_of_lt h]
  have t2 : ∀ (a : W) (k : Nat), (a >>> k).toNat = a.toNat / 2 ^ k := fun a k => by rw [BitVec.toNat_ushiftRight, Nat.shiftRight_eq_div_pow]
  have sw := swar x.toNat _ _ _ _ _ _ x.isLt rfl rfl rfl rfl rfl rfl
  obtain ⟨w1, w2, w3, w4, w5, w6, w7, w8⟩ := sw
  have n1 : y1.toNat = (x.toNat / 2 &&& 6148914691236517205) + (x.toNat &&& 6148914691236517205) := by
    rw [← h1, t1 _ _ (by rw [BitVec.toNat_and, BitVec.toNat_and, t2]; exact w1), BitVec.toNat_and, BitVec.toNat_and, t2]; rfl
  rw [← n1] at w1 w2 w3 w4 w5 w6 w7
  have n2 : y2.toNat = (y1.toNat / 4 &&& 3689348814741910323) + (y1.toNat &&& 3689348814741910323) := by
    rw [← h2, t1 _ _ (by rw [BitVec.toNat_and, BitVec.toNat_and, t2]; exact w2), BitVec.toNat_and, BitVec.toNat_and, t2]; rfl
  rw [← n2] at w2 w3 w4 w5 w6 w7
  have n3 : y3.toNat = (y2.toNat / 16 + y2.toNat) &&& 1085102592571150095 := by
    rw [← h3, BitVec.toNat_and, t1 _ _ (by rw [t2]; exact w3), t2]; rfl
  rw [← n3] at w4 w5 w6 w7
  have n4 : y4.toNat = y3.toNat + y3.toNat / 256 := by
    rw [← h4, t1 _ _ (by rw [t2]; omega), t2]
  rw [← n4] at w4 w5 w6 w7
  have n5 : y5.toNat = y4.toNat + y4.toNat / 65536 := by
    rw [← h5, t1 _ _ (by rw [t2]; omega), t2]
  rw [← n5] at w5 w6 w7
  have n6 : y6.toNat = y5.toNat + y5.toNat / 4294967296 := by
    rw [← h6, t1 _ _ (by rw [t2]; omega), t2]
  rw [← n6] at w6 w7
  have c1 : IntKind.i64.wrap ((BitVec.ofInt 64 (y6.toNat : Int) &&& BitVec.ofInt 64 127).toNat : Int) = (popc x.toNat : Int) := by
    have e : (BitVec.ofInt 64 (y6.toNat : Int) &&& BitVec.ofInt 64 127).toNat = popc x.toNat := by
      rw [BitVec.toNat_and, ofInt_toNat, show (BitVec.ofInt 64 127).toNat = 2 ^ 7 - 1 from rfl, Nat.and_two_pow_sub_one_eq_mod]
      exact w7
    rw [e, wrap_i64 (by omega) (by omega)]
  rw [ofInt_toNat, show BitVec.ofInt 64 127 = 127#64 from rfl] at c1
  simp -implicitDefEqProofs [M34, -convM, s1, s2, s4, s8, s16, s32, h1, h2, h3, h4, h5, h6, uv_conv y6 w6]
  exact c1
end Go.Proofs.YtlebaobbjehaeaaDoor
