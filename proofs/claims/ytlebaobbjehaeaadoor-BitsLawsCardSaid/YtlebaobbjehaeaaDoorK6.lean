/-
  BitsLaws: what the law's function returns, for all sets.
-/
import Derived.Test.YtlebaobbjehaeaaDoorT9
namespace Go.Proofs.YtlebaobbjehaeaaDoor.bitsLaws
set_option linter.unusedSimpArgs false
set_option linter.unusedVariables false
open Go Go.Abs

theorem filter_or_and (p q : Nat → Bool) : ∀ l : List Nat, (l.filter fun i => p i || q i).length + (l.filter fun i => p i && q i).length = (l.filter p).length + (l.filter q).length
  | [] => rfl
  | x :: l => by
    have ih := filter_or_and p q l
    simp only [List.filter_cons]
    cases hp : p x <;> cases hq : q x <;> simp <;> omega

theorem popc_or_and (x y : W) : popc (x ||| y).toNat + popc (x &&& y).toNat = popc x.toNat + popc y.toNat := by
  simp only [popc_bits, BitVec.getLsbD_or, BitVec.getLsbD_and]
  exact filter_or_and _ _ _

def cntW (l : List W) (n : Nat) : Nat := ((List.range n).map fun i => popc (wd l i).toNat).sum
theorem cntW_succ (l : List W) (n : Nat) : cntW l (n + 1) = cntW l n + popc (wd l n).toNat := by simp [cntW, List.range_succ]
theorem popc_zero : popc (0 : W).toNat = 0 := by rw [popc_bits]; simp
theorem cnt_eq (l : List W) : ∀ n, cntW l n = cntUpTo l n
  | 0 => by simp [cntW, cntUpTo]
  | n + 1 => by
    rw [cntW_succ, cnt_eq l n]
    cases h : l[n]? with
    | some x => rw [cntUpTo_succ h]; simp [wd, h]
    | none =>
      have hl : l.length ≤ n := by simpa using h
      rw [wd_ge hl, popc_zero]
      simp [cntUpTo, List.take_of_length_le hl, List.take_of_length_le (Nat.le_succ_of_le hl)]
theorem cnt_ge (l : List W) (n : Nat) (h : l.length ≤ n) : cnt l = cntW l n := by
  rw [cnt_eq]; simp [cntUpTo, cnt, List.take_of_length_le h]
theorem cntW_sum {u x l m : List W} (h : ∀ i, popc (wd u i).toNat + popc (wd x i).toNat = popc (wd l i).toNat + popc (wd m i).toNat) (n : Nat) : cntW u n + cntW x n = cntW l n + cntW m n := by
  induction n with
  | zero => simp [cntW]
  | succ n ih =>
    have h1 := h n
    rw [cntW_succ, cntW_succ, cntW_succ, cntW_succ]
    omega

theorem cnt_sum {l m : List W} (hl : l.length ≤ 1000) (hm : m.length ≤ 1000) : cnt (normL (orL l m)) + cnt (normL (andL l m)) = cnt l + cnt m := by
  rw [cnt_ge _ 1000 (len_or l m hl hm), cnt_ge _ 1000 (len_and l m hl), cnt_ge l 1000 hl, cnt_ge m 1000 hm]
  exact cntW_sum (fun i => by rw [wd_normL, wd_normL, wd_orL, wd_andL]; exact popc_or_and _ _) 1000

theorem cnt_le (l : List W) (hl : l.length ≤ 1000) : cnt l ≤ 64000 := by
  have := cntUpTo_le l l.length
  rw [cntUpTo_all] at this
  omega

theorem subL_eq {x l : List W} (h : ∀ i, wd x i = wd l i) : subL x l = true := (subL_iff x l).2 fun i => by rw [h i]; simp

set_option maxRecDepth 100000 in
theorem call {a b c : T} {l m n : List W} (ha : decB a = some l) (hb : decB b = some m) (hc : decB c = some n) : CallT Tryd.prog G 6 [a, b, c] (· = .v (.bool true)) := by
  refine k6.call rfl ?_
  by_cases h1 : 80 < l.length
  · have h1' : (80 : Int) < (l.length : Int) := by omega
    refine mc_runs ctx8 ?_
    simp -implicitDefEqProofs [M6, len_dec ha, h1, h1', tb8, g0]
  · have h1' : ¬ (80 : Int) < (l.length : Int) := by omega
    by_cases h2 : 80 < m.length
    · have h2' : (80 : Int) < (m.length : Int) := by omega
      refine mc_runs ctx8 ?_
      simp -implicitDefEqProofs [M6, len_dec ha, len_dec hb, h1, h1', h2, h2', tb8, g0]
    · have h2' : ¬ (80 : Int) < (m.length : Int) := by omega
      by_cases h3 : 80 < n.length
      · have h3' : (80 : Int) < (n.length : Int) := by omega
        refine mc_runs ctx8 ?_
        simp -implicitDefEqProofs [M6, len_dec ha, len_dec hb, len_dec hc, h1, h1', h2, h2', h3, h3', tb8, g0]
      · have h3' : ¬ (80 : Int) < (n.length : Int) := by omega
        have hl : l.length ≤ 1000 := by omega
        have hm : m.length ≤ 1000 := by omega
        have hn : n.length ≤ 1000 := by omega
        have q1 := fun f => g2_eq (f := f) ha hb hl hm
        have q2 := fun f => g2_eq (f := f) hb ha hm hl
        have q3 := fun f => g2_eq (f := f) hb hc hm hn
        have q4 := fun f => g2_eq (f := f) ha hc hl hn
        have q5 := fun f => g2_eq (f := f) ha ha hl hl
        have r1 : ∀ f (x : List W), x.length ≤ 1000 → g2 f [encB x, a] = some (f x l) := fun f x hx => g2_eq (decB_encB x) ha hx hl
        have r2 : ∀ f (x : List W), x.length ≤ 1000 → g2 f [encB x, b] = some (f x m) := fun f x hx => g2_eq (decB_encB x) hb hx hm
        have r3 : ∀ f (x : List W), x.length ≤ 1000 → g2 f [encB x, c] = some (f x n) := fun f x hx => g2_eq (decB_encB x) hc hx hn
        have r4 : ∀ f (x : List W), x.length ≤ 1000 → g2 f [a, encB x] = some (f l x) := fun f x hx => g2_eq ha (decB_encB x) hl hx
        have r5 : ∀ f (x y : List W), x.length ≤ 1000 → y.length ≤ 1000 → g2 f [encB x, encB y] = some (f x y) := fun f x y hx hy => g2_eq (decB_encB x) (decB_encB y) hx hy
        have o1 := fun f => g1_eq (f := f) ha hl
        have o2 := fun f => g1_eq (f := f) hb hm
        have o3 : ∀ f (x : List W), x.length ≤ 1000 → g1 f [encB x] = some (f x) := fun f x hx => g1_eq (decB_encB x) hx
        have s1 : normL (andL m l) = normL (andL l m) := normL_ext fun i => by rw [wd_andL, wd_andL, BitVec.and_comm]
        have s2 : normL (orL m l) = normL (orL l m) := normL_ext fun i => by rw [wd_orL, wd_orL, BitVec.or_comm]
        have s3 : normL (andL (normL (andL l m)) n) = normL (andL l (normL (andL m n))) := normL_ext fun i => by simp only [wd_andL, wd_normL, BitVec.and_assoc]
        have s4 : normL (orL (normL (orL l m)) n) = normL (orL l (normL (orL m n))) := normL_ext fun i => by simp only [wd_orL, wd_normL, BitVec.or_assoc]
        have s5 : normL (andL (normL (orL l m)) n) = normL (orL (normL (andL l n)) (normL (andL m n))) := normL_ext fun i => by
          simp only [wd_andL, wd_orL, wd_normL]
          ext j
          simp only [BitVec.getElem_and, BitVec.getElem_or]
          cases (wd l i)[j] <;> cases (wd m i)[j] <;> cases (wd n i)[j] <;> rfl
        have s6 : normL (orL (normL (andL l m)) n) = normL (andL (normL (orL l n)) (normL (orL m n))) := normL_ext fun i => by
          simp only [wd_andL, wd_orL, wd_normL]
          ext j
          simp only [BitVec.getElem_and, BitVec.getElem_or]
          cases (wd l i)[j] <;> cases (wd m i)[j] <;> cases (wd n i)[j] <;> rfl
        have w7 : ∀ i, wd (normL (andL l (normL (orL l m)))) i = wd l i := fun i => by
          simp only [wd_andL, wd_orL, wd_normL]
          ext j
          simp only [BitVec.getElem_and, BitVec.getElem_or]
          cases (wd l i)[j] <;> cases (wd m i)[j] <;> rfl
        have w8 : ∀ i, wd (normL (orL l l)) i = wd l i := fun i => by simp only [wd_orL, wd_normL, BitVec.or_self]
        have w9 : ∀ i, wd (normL (orL (normL (minusL l m)) (normL (andL l m)))) i = wd l i := fun i => by
          simp only [wd_andL, wd_orL, wd_minusL, wd_normL]
          ext j hj
          simp only [BitVec.getElem_and, BitVec.getElem_or, BitVec.getElem_not]
          cases (wd l i)[j] <;> cases (wd m i)[j] <;> rfl
        have e7 := subL_eq w7
        have e7' := subL_eq fun i => (w7 i).symm
        have e8 := subL_eq w8
        have e8' := subL_eq fun i => (w8 i).symm
        have e9 := subL_eq w9
        have e9' := subL_eq fun i => (w9 i).symm
        have z1 : (normL (andL (normL (minusL l m)) m)).length = 0 := (normL_nil _).2 fun i => by
          simp only [wd_andL, wd_minusL, wd_normL]
          ext j hj
          simp only [BitVec.getElem_and, BitVec.getElem_not]
          cases (wd l i)[j] <;> cases (wd m i)[j] <;> simp
        have le : ∀ x : List W, lenslM (.t (encB x)) = some (.t (.v (.int .i64 (x.length : Int)))) := fun x => rfl
        have cs := cnt_sum hl hm
        have c1 := cnt_le l hl
        have c2 := cnt_le m hm
        have t1 : IntKind.i64.wrap ((cnt (normL (orL l m)) : Int) + (cnt (normL (andL l m)) : Int)) = ((cnt l + cnt m : Nat) : Int) := wrap_nat (by omega) (by omega)
        have t2 : IntKind.i64.wrap ((cnt l : Int) + (cnt m : Int)) = ((cnt l + cnt m : Nat) : Int) := wrap_nat (by omega) (by omega)
        have la := fun x y : List W => len_and x y
        have lo := fun x y : List W => len_or x y
        have lm := fun x y : List W => len_minus x y
        have z1' : ((((normL (andL (normL (minusL l m)) m)).length : Nat) : Int) == 0) = true := by rw [z1]; rfl
        unfold M6
        refine mc_seq_runs ctx8 ?_
        simp -implicitDefEqProofs
        refine mc_seq_runs ctx8 ?_
        simp -implicitDefEqProofs [len_dec ha, len_dec hb, len_dec hc, h1, h1', h2, h2', h3, h3']
        refine mc_seq_runs ctx8 ?_
        simp -implicitDefEqProofs [tb8, q1, fAnd, fOr]
        refine MC.sub (s' := ⟨[(0, .t a), (1, .t b), (2, .t c), (7, .t (encB (normL (andL l m)))), (8, .t (encB (normL (orL l m))))], [], 0, 141⟩) (sub_forget rfl rfl (by simp -implicitDefEqProofs) (by simp -implicitDefEqProofs)) rfl ?_
        refine mc_seq_runs ctx8 ?_
        simp -implicitDefEqProofs (maxDischargeDepth := 8) [tb8, q1, q2, q3, q4, q5, r1, r2, r3, r4, r5, fAnd, fOr, fSame, s1, s2, s3, s4, la, lo, hl, hm, hn]
        refine MC.sub (s' := ⟨[(0, .t a), (1, .t b), (2, .t c), (7, .t (encB (normL (andL l m)))), (8, .t (encB (normL (orL l m))))], [], 0, 141⟩) (sub_forget rfl rfl (by simp -implicitDefEqProofs) (by simp -implicitDefEqProofs)) rfl ?_
        refine mc_seq_runs ctx8 ?_
        simp -implicitDefEqProofs (maxDischargeDepth := 8) [tb8, q1, q2, q3, q4, q5, r1, r2, r3, r4, r5, fAnd, fOr, fSame, fEq, s5, s6, e7, e7', e8, e8', la, lo, hl, hm, hn]
        refine MC.sub (s' := ⟨[(0, .t a), (1, .t b), (2, .t c), (7, .t (encB (normL (andL l m)))), (8, .t (encB (normL (orL l m))))], [], 0, 141⟩) (sub_forget rfl rfl (by simp -implicitDefEqProofs) (by simp -implicitDefEqProofs)) rfl ?_
        refine mc_seq_runs ctx8 ?_
        simp -implicitDefEqProofs [tb8, q1, fMinus]
        refine mc_runs ctx8 ?_
        simp -implicitDefEqProofs (maxDischargeDepth := 8) [tb8, g0, q1, r1, r2, r5, o1, o2, o3, fAnd, fOr, fEq, fCnt, e9, e9', le, z1', t1, t2, la, lo, lm, hl, hm, hn]
end Go.Proofs.YtlebaobbjehaeaaDoor.bitsLaws
