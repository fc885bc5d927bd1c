/-
  BitsLists: what the law's function returns, for all sets.
-/
import Derived.Test.YtlebaobbjehaeaaDoorT11
namespace Go.Proofs.YtlebaobbjehaeaaDoor.bitsLists
set_option linter.unusedSimpArgs false
set_option linter.unusedVariables false
open Go Go.Abs

theorem els_mem {l : List W} {n : Nat} {x : Int} (h : x ∈ els l n) : ∃ i : Nat, x = (i : Int) ∧ i < n ∧ hasL l i = true := by
  unfold els at h
  obtain ⟨i, hi, rfl⟩ := List.mem_map.1 h
  obtain ⟨h1, h2⟩ := List.mem_filter.1 hi
  exact ⟨i, rfl, by simpa using h1, h2⟩
theorem els_mem' {l : List W} {n i : Nat} (h1 : i < n) (h2 : hasL l i = true) : (i : Int) ∈ els l n :=
  List.mem_map.2 ⟨i, List.mem_filter.2 ⟨by simpa using h1, h2⟩, rfl⟩
theorem els_asc (l : List W) (n : Nat) : (els l n).Pairwise (· < ·) := by
  unfold els
  rw [List.pairwise_map]
  refine List.Pairwise.imp ?_ (List.Pairwise.filter _ List.pairwise_lt_range)
  intro a b h
  show (a : Int) < (b : Int)
  omega
theorem els_step {l : List W} {n j : Nat} {x y : Int} (h1 : (els l n)[j]? = some y) (h2 : (els l n)[j + 1]? = some x) : ¬ x ≤ y := by
  have h := List.pairwise_iff_getElem.1 (els_asc l n)
  obtain ⟨b1, e1⟩ := List.getElem?_eq_some_iff.1 h1
  obtain ⟨b2, e2⟩ := List.getElem?_eq_some_iff.1 h2
  have := h j (j + 1) b1 b2 (by omega)
  rw [e1, e2] at this
  omega

theorem has_back {l : List W} (hl : l.length ≤ 64) (i : Nat) : hasL (fill 64 (els l (64 * l.length)) (els l (64 * l.length)).length) i = hasL l i := by
  rw [has_fill 64 _ (fun n hn => by obtain ⟨k, rfl, hk, _⟩ := els_mem hn; omega), List.take_length]
  cases h : hasL l i with
  | true =>
    have hi : i < 64 * l.length := by
      by_cases hi : i < 64 * l.length
      · exact hi
      · exfalso
        unfold hasL at h
        rw [wd_ge (by omega)] at h
        simp at h
    rw [List.any_eq_true]
    exact ⟨i, els_mem' hi h, by simp⟩
  | false =>
    rw [List.any_eq_false]
    intro n hn
    obtain ⟨k, rfl, _, hk⟩ := els_mem hn
    simp only [decide_eq_true_eq]
    intro e
    have : k = i := by omega
    subst this
    rw [hk] at h; cases h

theorem subL_has {x l : List W} (h : ∀ i, hasL x i = hasL l i) : subL x l = true := (subL_iff x l).2 fun i => by rw [wd_of_has h i]; simp
theorem has_normL (l : List W) (i : Nat) : hasL (normL l) i = hasL l i := by unfold hasL; rw [wd_normL]

def S7 (b t : T) (j : Nat) : AState := ⟨[(4, .t (iv j)), (3, .t t), (0, .t b)], [], 0, 83⟩

theorem call {b : T} {l : List W} (hb : decB b = some l) : CallT Tryd.prog G 7 [b] (· = .v (.bool true)) := by
  refine k7.call rfl ?_
  by_cases h1 : 64 < l.length
  · have h1' : (64 : Int) < (l.length : Int) := by omega
    refine mc_runs ctx10 ?_
    simp -implicitDefEqProofs [M7, len_dec hb, h1, h1', tb10, g0]
  · have h1' : ¬ (64 : Int) < (l.length : Int) := by omega
    have hl : l.length ≤ 1000 := by omega
    have e2 := fun f => g1_eq (f := f) hb hl
    obtain ⟨L, hL⟩ : ∃ L, L = els l (64 * l.length) := ⟨_, rfl⟩
    have fL : fEls l = treeL iv L := by rw [hL]; rfl
    have dL := decI_tree L
    have hle : L.length ≤ 4096 := by rw [hL]; have := els_len l (64 * l.length); omega
    have hmem : ∀ x ∈ L, ∃ i : Nat, x = (i : Int) ∧ i < 4096 ∧ hasL l i = true := fun x hx => by
      rw [hL] at hx
      obtain ⟨i, h2, h3, h4⟩ := els_mem hx
      exact ⟨i, h2, by omega, h4⟩
    have hasc : ∀ (j : Nat) x y, L[j]? = some y → L[j + 1]? = some x → ¬ x ≤ y := fun j x y h2 h3 => els_step (l := l) (n := 64 * l.length) (by rw [← hL]; exact h2) (by rw [← hL]; exact h3)
    unfold M7
    refine mc_seq_runs ctx10 ?_
    simp -implicitDefEqProofs
    refine mc_seq_runs ctx10 ?_
    simp -implicitDefEqProofs [len_dec hb, h1, h1']
    refine mc_seq_runs ctx10 ?_
    simp -implicitDefEqProofs [tb10, e2, fL]
    refine mc_cut (fun _ : Unit => S7 b (treeL iv L) L.length) (fun _ => True) (fun _ => rfl) ?_ ?_
    · refine mc_seq_runs ctx10 ?_
      simp -implicitDefEqProofs
      refine mc_block ?_
      refine mc_for (S7 b (treeL iv L)) L.length (fun _ => rfl) ?_ rfl ?_ ?_
      · refine sub_forget rfl rfl ?_ ?_ <;> simp -implicitDefEqProofs [S7, iv]
      · intro j hj
        refine mc_runs ctx10 ?_
        obtain ⟨x, hx⟩ : ∃ x, L[j]? = some x := ⟨_, List.getElem?_eq_getElem hj⟩
        obtain ⟨i, rfl, hi, hh⟩ := hmem x (List.mem_of_getElem? hx)
        have gh := gHas_nat hb i (by omega)
        have e1 : IntKind.i64.wrap ((j : Int) + 1) = ((j + 1 : Nat) : Int) := wrap_nat (by omega) (by omega)
        rcases Nat.eq_zero_or_pos j with h0 | h0
        · subst h0
          have i0 := iaddr_decI dL .i64 0 hj
          have l0 := load_dropI [] hx
          simp only [Int.natCast_zero, List.drop_zero] at i0 l0 e1
          have e3 : IntKind.i64.wrap 1 = 1 := by decide
          simp -implicitDefEqProofs [S7, iv, len_decI dL, hj, i0, l0, tb10, gh, hh, e3]
          refine sub_forget rfl rfl ?_ ?_ <;> simp -implicitDefEqProofs [e3]
        · obtain ⟨j', hj'⟩ : ∃ j', j' + 1 = j := ⟨j - 1, by omega⟩
          obtain ⟨y, hy⟩ : ∃ y, L[j']? = some y := ⟨_, List.getElem?_eq_getElem (by omega)⟩
          have hne := hasc j' _ y hy (by rw [hj']; exact hx)
          have w1 : IntKind.i64.wrap ((j : Int) - 1) = (j' : Int) := by rw [wrap_i64 (by omega) (by omega)]; omega
          have i1 := iaddr_decI dL .i64 j hj
          have i2 := iaddr_decI dL .i64 j' (by omega)
          have l1 := load_dropI [] hx
          have l2 := load_dropI [] hy
          simp -implicitDefEqProofs [S7, iv, len_decI dL, h0, hj, i1, i2, l1, l2, w1, hne, tb10, gh, hh, e1]
          refine sub_forget rfl rfl ?_ ?_ <;> simp -implicitDefEqProofs [e1]
      · refine mc_runs ctx10 ?_
        simp -implicitDefEqProofs [S7, iv, len_decI dL]
        exact Next.mk () trivial (sub_forget rfl rfl (by simp -implicitDefEqProofs) (by simp -implicitDefEqProofs))
    · rintro _ -
      have hin : L.all inR = true := by
        rw [List.all_eq_true]
        intro x hx
        obtain ⟨i, rfl, hi, _⟩ := hmem x hx
        simp only [inR, Bool.and_eq_true, decide_eq_true_eq]
        omega
      have ho : ofT L = .tu [encB (normL (fill 64 L L.length)), .v (.int .i64 0)] := by unfold ofT; rw [if_pos hin]
      have eo := gI_eq (f := ofT) dL (by omega)
      obtain ⟨X, hX⟩ : ∃ X, X = normL (fill 64 L L.length) := ⟨_, rfl⟩
      rw [← hX] at ho
      have hlen : X.length ≤ 1000 := by rw [hX]; have := length_normL (fill 64 L L.length); rw [length_fill] at this; omega
      have hb1 : ∀ i, hasL X i = hasL l i := fun i => by rw [hX, has_normL, hL]; exact has_back (by omega) i
      have s1 := subL_has hb1
      have s2 := subL_has fun i => (hb1 i).symm
      have q1 := fun f => g2_eq (f := f) (decB_encB X) hb hlen hl
      have q2 := fun f => g2_eq (f := f) hb (decB_encB X) hl hlen
      have lc : ((L.length : Int) == (cnt l : Int)) = true := by rw [hL, els_all]; simp
      have hn : Norm X := by rw [hX]; exact norm_normL _
      refine mc_seq_runs ctx10 ?_
      simp -implicitDefEqProofs [S7, tb10, eo, ho]
      refine mc_runs ctx10 ?_
      by_cases h0 : X = []
      · subst h0
        have z : (lenslM (.t (encB ([] : List W)))) = some (.t (.v (.int .i64 0))) := rfl
        simp -implicitDefEqProofs [tb10, g0, q1, q2, e2, fEq, fSub, fCnt, s1, s2, len_decI dL, lc, z]
      · have hlp : 0 < X.length := List.length_pos_iff.2 h0
        have z1 : ((X.length : Int) == 0) = false := by rw [beq_eq_false_iff_ne]; omega
        have w1 : IntKind.i64.wrap ((X.length : Int) - 1) = ((X.length - 1 : Nat) : Int) := by rw [wrap_i64 (by omega) (by omega)]; omega
        have ia := iaddr_dec (decB_encB X) .i64 ((X.length - 1 : Nat) : Int) (by omega) (by omega)
        simp only [Int.toNat_natCast] at ia
        have hx : X[X.length - 1]? = some (wd X (X.length - 1)) := by simp [wd, show X.length - 1 < X.length by omega]
        have ne : nec (wd X (X.length - 1)) 0 = true := by
          rw [nec_zero]
          rcases hn with h | h
          · exact absurd h h0
          · simpa using h
        have z : lenslM (.t (encB X)) = some (.t (.v (.int .i64 (X.length : Int)))) := rfl
        simp -implicitDefEqProofs [tb10, g0, q1, q2, e2, fEq, fSub, fCnt, s1, s2, len_decI dL, lc, z, z1, w1, ia, load_drop _ hx, ne]
end Go.Proofs.YtlebaobbjehaeaaDoor.bitsLists
