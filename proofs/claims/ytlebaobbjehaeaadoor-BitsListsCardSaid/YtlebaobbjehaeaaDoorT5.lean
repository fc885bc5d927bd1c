/-
  Same: whether two lists of words are equal; and the law of And, Or and Minus.
-/
import Derived.Test.YtlebaobbjehaeaaDoorT4
import Derived.Test.YtlebaobbjehaeaaDoorX
namespace Go.Proofs.YtlebaobbjehaeaaDoor
set_option linter.unusedSimpArgs false
set_option linter.unusedVariables false
open Go Go.Abs

def S11 (a b : T) (j : Nat) : AState := ⟨[(5, .t (.v (.int .i64 (j : Int)))), (1, .t b), (0, .t a)], [], 0, 26⟩

theorem uv_ne {x y : W} (h : x ≠ y) : ((x.toNat : Int) != (y.toNat : Int)) = true := by
  rw [bne_iff_ne]
  exact fun e => h (BitVec.eq_of_toNat_eq (by omega))

/-- Lists of words: equal, or of one length with a first place where they differ. -/
theorem first_diff : ∀ (l m : List W), l.length = m.length → l ≠ m → ∃ k, k < l.length ∧ (∀ i, i < k → wd l i = wd m i) ∧ wd l k ≠ wd m k
  | [], [], _, h => absurd rfl h
  | x :: l, y :: m, hl, h => by
    by_cases hxy : x = y
    · subst hxy
      obtain ⟨k, h1, h2, h3⟩ := first_diff l m (by simpa using hl) (fun e => h (by rw [e]))
      refine ⟨k + 1, by simpa using h1, fun i hi => ?_, h3⟩
      cases i with
      | zero => rfl
      | succ i => exact h2 i (by omega)
    · exact ⟨0, by simp, fun i hi => by omega, hxy⟩

theorem same_call {a b : T} {l m : List W} (ha : decB a = some l) (hb : decB b = some m) (hl : l.length ≤ 1000) (hm : m.length ≤ 1000) : CallT Tryd.prog G 11 [a, b] (· = .v (.bool (l == m))) := by
  refine k11.call rfl ?_
  unfold M11
  refine mc_seq_runs ctx0 ?_
  simp -implicitDefEqProofs
  by_cases hlen : l.length = m.length
  · have hne : ((l.length : Int) != (m.length : Int)) = false := by simp [hlen]
    refine mc_seq_runs ctx0 ?_
    simp -implicitDefEqProofs [len_dec ha, len_dec hb, hlen]
    have step : ∀ (j : Nat), j < l.length → wd l j = wd m j → ∀ (Q : Exit → AState → Prop), True := fun _ _ _ _ => trivial
    by_cases he : l = m
    · subst he
      refine mc_cut (fun _ : Unit => S11 a b l.length) (fun _ => True) (fun _ => rfl) ?_ ?_
      · refine mc_seq_runs ctx0 ?_
        simp -implicitDefEqProofs
        refine mc_block ?_
        refine mc_for (S11 a b) l.length (fun _ => rfl) ?_ rfl ?_ ?_
        · refine sub_forget rfl rfl ?_ ?_ <;> simp -implicitDefEqProofs [S11]
        · intro j hj
          refine mc_runs ctx0 ?_
          have x1 : l[j]? = some (wd l j) := by simp [wd, hj]
          have e1 : IntKind.i64.wrap ((j : Int) + 1) = ((j + 1 : Nat) : Int) := wrap_nat (by omega) (by omega)
          simp -implicitDefEqProofs [S11, hj, len_dec ha, iaddr_dec ha, iaddr_dec hb, load_drop _ x1, uv, e1]
          refine sub_forget rfl rfl ?_ ?_ <;> simp -implicitDefEqProofs
        · refine mc_runs ctx0 ?_
          simp -implicitDefEqProofs [S11, len_dec ha]
          exact Next.mk () trivial (sub_forget rfl rfl (by simp -implicitDefEqProofs) (by simp -implicitDefEqProofs))
      · rintro _ -
        refine mc_runs ctx0 ?_
        simp -implicitDefEqProofs [S11]
    · obtain ⟨k, hk, hsame, hdiff⟩ := first_diff l m hlen he
      have hf : (l == m) = false := by simpa using he
      rw [hf]
      refine mc_cut (fun _ : Unit => S11 a b l.length) (fun _ => False) (fun _ => rfl) ?_ ?_
      · refine mc_seq_runs ctx0 ?_
        simp -implicitDefEqProofs
        refine mc_block ?_
        refine mc_for (S11 a b) k (fun _ => rfl) ?_ rfl ?_ ?_
        · refine sub_forget rfl rfl ?_ ?_ <;> simp -implicitDefEqProofs [S11]
        · intro j hj
          refine mc_runs ctx0 ?_
          have hjl : j < l.length := by omega
          have hjm : j < m.length := by omega
          have x1 : l[j]? = some (wd l j) := by simp [wd, hjl]
          have x2 : m[j]? = some (wd l j) := by rw [hsame j hj]; simp [wd, hjm]
          have e1 : IntKind.i64.wrap ((j : Int) + 1) = ((j + 1 : Nat) : Int) := wrap_nat (by omega) (by omega)
          simp -implicitDefEqProofs [S11, hjl, hjm, len_dec ha, iaddr_dec ha, iaddr_dec hb, load_drop _ x1, load_drop _ x2, uv, e1]
          refine sub_forget rfl rfl ?_ ?_ <;> simp -implicitDefEqProofs
        · refine mc_runs ctx0 ?_
          have hkm : k < m.length := by omega
          have x1 : l[k]? = some (wd l k) := by simp [wd, hk]
          have x2 : m[k]? = some (wd m k) := by simp [wd, hkm]
          simp -implicitDefEqProofs [S11, hk, hkm, len_dec ha, iaddr_dec ha, iaddr_dec hb, load_drop _ x1, load_drop _ x2, uv, uv_ne hdiff]
      · rintro _ h
        exact h.elim
  · have hne : ((l.length : Int) != (m.length : Int)) = true := by simp; omega
    have hf : (l == m) = false := by
      rw [beq_eq_false_iff_ne]
      exact fun e => hlen (by rw [e])
    rw [hf]
    refine mc_runs ctx0 ?_
    simp -implicitDefEqProofs [len_dec ha, len_dec hb, hne]
end Go.Proofs.YtlebaobbjehaeaaDoor
