/-
  Slices of slices that lie in rows, as what is appended; two rows side by side. No statement of the program stands here.
-/
import Derived.Test.YtbiadmfmjnoecaaB4
namespace Go.Abs
set_option linter.unusedSimpArgs false
set_option linter.unusedVariables false
open Go
section
variable {α β : Type} {e : Enc α} {e' : Enc β} {ty ty' b b' : Nat} {H : Heap} {l : List α} {l' : List β}

theorem RowAt.left (h : RowAt e ty H b l) (hb : b ≠ b') : RowAt e ty (rowH e' ty' b' l' ++ H) b l := by
  cases l' with
  | nil => simpa [rowH] using h
  | cons x r => exact h.cons (Ne.symm hb)

theorem slice_row_to (b : Nat) (l : List α) {k : Nat} (hk : k ≤ l.length) (ik : IntKind) : ∃ p, sliceM e.z (rowP e b l) none (some (.t (.v (.int ik (k : Int))))) = some p ∧ ∀ ty H, RowAt e ty H b l → srcP H e.z p = some ((l.take k).length, ((l.take k).flatMap e.enc).map .t) := by
  cases l with
  | nil =>
    have : k = 0 := by simpa using hk
    subst this
    exact ⟨.t nilS, rfl, fun ty H _ => rfl⟩
  | cons x r =>
    have hl : ((x :: r).flatMap e.enc).length = (x :: r).length * e.z := length_flat e _
    have tk : (x :: r).take k = (x :: r).take k := rfl
    by_cases h0 : k = 0
    · subst h0
      refine ⟨.row b 0 0 e.z, ?_, fun ty H h => ?_⟩
      · simp [sliceM, rowP]
      · rcases h with h | h
        · cases h
        · simp [srcP, h, rowOf]
    · refine ⟨.row b 0 k e.z, ?_, fun ty H h => ?_⟩
      · have h1 : 0 < k := by omega
        have h2 : k ≤ r.length + 1 := by simpa using hk
        simp [sliceM, rowP, h1, h2]
      · rcases h with h | h
        · cases h
        · have hle : k * e.z ≤ ((x :: r).flatMap e.enc).length := by rw [hl]; exact Nat.mul_le_mul_right _ hk
          have hseg : (((x :: r).flatMap e.enc).map PV.t).take (k * e.z) = (((x :: r).take k).flatMap e.enc).map .t := by rw [← List.map_take, take_flat]
          simp only [srcP, h, rowOf, true_and, Nat.zero_add, List.length_map, hle, if_true, List.drop_zero, hseg, List.length_take, Nat.min_eq_left hk]

theorem slice_row_from (b : Nat) (l : List α) {k : Nat} (hk : k ≤ l.length) (ik : IntKind) : ∃ p, sliceM e.z (rowP e b l) (some (.t (.v (.int ik (k : Int))))) none = some p ∧ ∀ ty H, RowAt e ty H b l → srcP H e.z p = some ((l.drop k).length, ((l.drop k).flatMap e.enc).map .t) := by
  cases l with
  | nil =>
    have : k = 0 := by simpa using hk
    subst this
    exact ⟨.t nilS, rfl, fun ty H _ => rfl⟩
  | cons x r =>
    have hl : ((x :: r).flatMap e.enc).length = (x :: r).length * e.z := length_flat e _
    by_cases h0 : k = (x :: r).length
    · refine ⟨.t (.sl 0 []), ?_, fun ty H h => ?_⟩
      · have h1 : ¬ k < r.length + 1 := by simp at h0; omega
        have h2 : k = r.length + 1 := by simpa using h0
        have h3 : (0 : Int) ≤ (r.length : Int) + 1 := by omega
        simp [sliceM, rowP, h2, h3]
      · have : (x :: r).drop k = [] := by rw [h0]; simp
        rw [this]; simp [srcP]
    · refine ⟨.row b (k * e.z) ((x :: r).length - k) e.z, ?_, fun ty H h => ?_⟩
      · have h1 : k < r.length + 1 := by simp at hk h0; omega
        simp [sliceM, rowP, h1]
      · rcases h with h | h
        · cases h
        · have hsum : k * e.z + ((x :: r).length - k) * e.z = (x :: r).length * e.z := by rw [← Nat.add_mul]; congr 1; omega
          have hle : k * e.z + ((x :: r).length - k) * e.z ≤ (((x :: r).flatMap e.enc).map PV.t).length := by rw [List.length_map, hl, hsum]; exact Nat.le_refl _
          have hseg : ((((x :: r).flatMap e.enc).map PV.t).drop (k * e.z)).take (((x :: r).length - k) * e.z) = (((x :: r).drop k).flatMap e.enc).map .t := by
            rw [← List.map_drop, drop_flat]
            refine List.take_of_length_le ?_
            rw [List.length_map, length_flat, List.length_drop]
            exact Nat.le_refl _
          simp only [srcP, h, rowOf, true_and, hle, if_true, hseg, List.length_drop]
end
end Go.Abs
