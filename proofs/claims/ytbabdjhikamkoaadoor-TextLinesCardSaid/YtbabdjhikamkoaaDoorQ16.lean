/-
  Number and Decimal are inverse to each other; the law TextDecimals returns true. No statement of the program stands here.
-/
import Derived.Test.YtbabdjhikamkoaaDoorQ15
namespace Go.Proofs.YtbabdjhikamkoaaDoor
set_option linter.unusedSimpArgs false
set_option linter.unusedVariables false
open Go Go.Abs
variable {q : Gl}

theorem decV_snoc (d : List UInt8) (c : UInt8) : decV 0 (d ++ [c]) = decV 0 d * 10 + (c.toNat - 48) := by
  simp [decV, List.foldl_append]

theorem digit_of (u : Nat) : isDig (UInt8.ofNat (48 + u % 10)) = true ∧ (UInt8.ofNat (48 + u % 10)).toNat - 48 = u % 10 := by
  have h : (UInt8.ofNat (48 + u % 10)).toNat = 48 + u % 10 := by
    rw [UInt8.toNat_ofNat']
    omega
  refine ⟨?_, by omega⟩
  simp only [isDig, h, Bool.and_eq_true, decide_eq_true_eq]
  omega

/-- The digits of a number: they are digits, they spell it, no zero leads. -/
theorem dd_spec (u : Nat) : (∀ c ∈ dd u, isDig c = true) ∧ decV 0 (dd u) = u ∧ (dd u).head? ≠ some 48 ∧ (0 < u → dd u ≠ []) := by
  induction u using Nat.strongRecOn with
  | _ u ih =>
    by_cases h : 0 < u
    · rw [dd_step u h]
      obtain ⟨i1, i2, i3, i4⟩ := ih (u / 10) (by omega)
      obtain ⟨g1, g2⟩ := digit_of u
      refine ⟨?_, ?_, ?_, fun _ => by simp⟩
      · intro c hc
        rcases List.mem_append.1 hc with hc | hc
        · exact i1 c hc
        · rw [List.mem_singleton.1 hc]; exact g1
      · rw [decV_snoc, i2, g2]; omega
      · by_cases h0 : u / 10 = 0
        · have : dd (u / 10) = [] := by rw [h0]; rfl
          rw [this]
          intro he
          have he' : UInt8.ofNat (48 + u % 10) = 48 := by simpa using he
          rw [he'] at g2
          have : (48 : UInt8).toNat - 48 = 0 := by decide
          omega
        · have hne := i4 (by omega)
          cases hd : dd (u / 10) with
          | nil => exact absurd hd hne
          | cons x r => rw [hd] at i3; simpa using i3
    · have : u = 0 := by omega
      subst this
      exact ⟨fun c hc => by simp [dd] at hc, by simp [dd, decV], by simp [dd], fun h => by omega⟩

theorem dd_dec : ∀ (n : Nat) (d : List UInt8), d.length = n → (∀ c ∈ d, isDig c = true) → d.head? ≠ some 48 → dd (decV 0 d) = d
  | 0, d, hn, _, _ => by
    have : d = [] := List.eq_nil_of_length_eq_zero hn
    subst this; rfl
  | n + 1, d, hn, hd, hh => by
    obtain ⟨d', c, rfl⟩ : ∃ d' c, d = d' ++ [c] := by
      rcases List.eq_nil_or_concat d with h | ⟨d', c, h⟩
      · rw [h] at hn; simp at hn
      · exact ⟨d', c, by simpa using h⟩
    have hc := hd c (by simp)
    simp only [isDig, Bool.and_eq_true, decide_eq_true_eq] at hc
    have hl : d'.length = n := by simpa using hn
    have hh' : d'.head? ≠ some 48 := by
      cases d' with
      | nil => simp
      | cons x r => simpa using hh
    have ih := dd_dec n d' hl (fun x hx => hd x (by simp [hx])) hh'
    rw [decV_snoc]
    obtain ⟨v, hv⟩ : ∃ v, v = decV 0 d' := ⟨_, rfl⟩
    rw [← hv] at ih ⊢
    have hpos : 0 < v * 10 + (c.toNat - 48) := by
      cases d' with
      | nil =>
        have : c.toNat ≠ 48 := by
          intro e
          apply hh
          have : c = 48 := UInt8.toNat_inj.1 e
          rw [this]; rfl
        omega
      | cons x r =>
        by_cases h0 : v = 0
        · rw [h0] at ih; cases ih
        · omega
    rw [dd_step _ hpos, show (v * 10 + (c.toNat - 48)) / 10 = v by omega, ih, show 48 + (v * 10 + (c.toNat - 48)) % 10 = c.toNat by omega]
    congr 2
    exact UInt8.toNat_inj.1 (by rw [UInt8.toNat_ofNat']; have := c.toNat_lt; omega)

theorem itoa_dd (n : Int) : Lib.itoa n = if n = 0 then [48] else if n < 0 then 45 :: dd n.natAbs else dd n.natAbs := by
  by_cases h0 : n = 0
  · subst h0
    unfold Lib.itoa
    rw [if_neg (by omega), if_pos rfl, show (0 : Int).toNat = 0 from rfl, Lib.decDigits_one (by omega)]; rfl
  · rw [if_neg h0]
    unfold Lib.itoa dd
    rw [if_neg (by omega : ¬ n.natAbs = 0)]
    split
    · rfl
    · congr 1; omega

theorem isDig_45 {c : UInt8} (h : isDig c = true) : c ≠ 45 := by
  intro e; subst e; revert h; decide

theorem num_of_itoa (n : Int) (h : -9223372036854775808 ≤ n ∧ n ≤ 9223372036854775807) : numS (Lib.itoa n) = (n, 0) := by
  rw [itoa_dd]
  by_cases h0 : n = 0
  · subst h0; rfl
  rw [if_neg h0]
  obtain ⟨u, hu⟩ : ∃ u, u = n.natAbs := ⟨_, rfl⟩
  rw [← hu]
  obtain ⟨d1, d2, d3, d4⟩ := dd_spec u
  have hne := d4 (by omega)
  cases hd : dd u with
  | nil => exact absurd hd hne
  | cons c r =>
    rw [hd] at d1 d2 d3
    have hall : (c :: r).all isDig = true := List.all_eq_true.2 d1
    have h48 : ((c :: r).head? == some 48) = false := by rw [beq_eq_false_iff_ne]; exact d3
    by_cases hneg : n < 0
    · rw [if_pos hneg, numS_eq]
      have e1 : dOf (45 :: c :: r) = c :: r := rfl
      have e2 : ((45 :: c :: r).head? == some (45 : UInt8)) = true := rfl
      rw [e1, e2, hall, h48]
      simp only [List.isEmpty_cons, Bool.not_true, Bool.or_self, Bool.false_and, Bool.false_eq_true, if_false, if_true, d2]
      rw [if_pos (by omega)]
      congr 1
      omega
    · rw [if_neg hneg, numS_eq]
      have e2 : ((c :: r).head? == some (45 : UInt8)) = false := by
        have := isDig_45 (d1 c (by simp))
        simpa using this
      have e1 : dOf (c :: r) = c :: r := by unfold dOf; rw [e2]; rfl
      rw [e1, e2, hall, h48]
      simp only [List.isEmpty_cons, Bool.not_true, Bool.or_self, Bool.false_and, Bool.false_eq_true, if_false, d2]
      rw [if_pos (by omega)]
      congr 1
      omega

theorem itoa_of_num (l : List UInt8) (m : Int) (h : numS l = (m, 0)) : Lib.itoa m = l := by
  rw [numS_eq] at h
  split at h
  · cases h
  · rename_i hc
    simp only [Bool.or_eq_true, not_or, Bool.not_eq_true, Bool.not_eq_eq_eq_not, Bool.not_true, Bool.not_false] at hc
    obtain ⟨⟨c1, c2⟩, c3⟩ := hc
    have hall : ∀ c ∈ dOf l, isDig c = true := List.all_eq_true.1 (by simpa using c2)
    by_cases h48 : (dOf l).head? = some 48
    · have hl : l = [48] := by
        rw [h48] at c3
        simpa using c3
      subst hl
      have : numS [48] = (0, 0) := rfl
      rw [numS_eq] at this
      have e : m = 0 := by
        split at h
        · split at h
          · rename_i h1 _; cases h1
          · cases h
        · split at h
          · injection h with h _; exact h.symm
          · cases h
      subst e
      rw [itoa_dd]; rfl
    · have hdd := dd_dec _ (dOf l) rfl hall h48
      have hne : dOf l ≠ [] := by intro e; rw [e] at c1; cases c1
      obtain ⟨v, hv⟩ : ∃ v, v = decV 0 (dOf l) := ⟨_, rfl⟩
      rw [← hv] at hdd h
      have hpos : v ≠ 0 := by intro e; rw [e] at hdd; exact hne hdd.symm
      split at h
      · rename_i h45
        split at h
        · injection h with h _
          subst h
          rw [itoa_dd, if_neg (by omega), if_pos (by omega), show (-(v : Int)).natAbs = v by omega, hdd]
          cases l with
          | nil => cases h45
          | cons x r =>
            have hx : x = 45 := by simpa using h45
            subst hx; rfl
        · cases h
      · rename_i h45
        split at h
        · injection h with h _
          subst h
          rw [itoa_dd, if_neg (by omega), if_neg (by omega), show (v : Int).natAbs = v by omega, hdd]
          unfold dOf
          rw [if_neg h45]
        · cases h

theorem num_range (l : List UInt8) : -9223372036854775808 ≤ (numS l).1 ∧ (numS l).1 ≤ 9223372036854775807 := by
  rw [numS_eq]
  split
  · simp
  · split
    · split
      · simp only; omega
      · simp
    · split
      · simp only; omega
      · simp

noncomputable def tbK5 : Tbl := [(10, gEx), (17, gStr (fun s => numT s.data.toList) 281474976710656), (19, gRDec fun n => sv (bs (Lib.itoa n)))]
theorem ctxK5 : Ctx Tryd.prog (G q) (orc tbK5) := (TblOK.cons hEx (.cons (gStr_ok number_call) (.cons (gRDec_ok decimal_call) .nil))).ctx mixed

theorem decimals_law (s : ByteArray) (n : Int) (hn : -9223372036854775808 ≤ n ∧ n ≤ 9223372036854775807) : CallT Tryd.prog (G q) 7 [sv s, iv n] (· = bv true) := by
  refine k_w01_TextDecimals.runs ctxK5 rfl ?_
  have ex : gEx [] = some (bv true) := rfl
  by_cases h : 200 < s.size
  · have h' : (200 : Int) < (s.size : Int) := by omega
    simp -implicitDefEqProofs [M_w01_TextDecimals, h', tbK5, ex]
  · have h' : ¬ (200 : Int) < (s.size : Int) := by omega
    have q1 := gRDec_eq (F := fun n => sv (bs (Lib.itoa n))) hn
    have hlen : (bs (Lib.itoa n)).size ≤ 281474976710656 := by
      show (Lib.itoa n).toArray.size ≤ _
      rw [List.size_toArray]
      have hd := dd_len n.natAbs
      -- the digits are few
      have hfew : ∀ (k u : Nat), u < 10 ^ k → (dd u).length ≤ k := by
        intro k
        induction k with
        | zero => intro u hu; have : u = 0 := by omega
                  subst this; simp [dd]
        | succ k ih =>
          intro u hu
          by_cases h0 : 0 < u
          · rw [dd_step u h0, List.length_append]
            have := ih (u / 10) (by rw [Nat.pow_succ] at hu; omega)
            simp; omega
          · have : u = 0 := by omega
            subst this; simp [dd]
      have h20 := hfew 20 n.natAbs (by have : (10 : Nat) ^ 20 = 100000000000000000000 := by decide
                                       omega)
      rw [itoa_dd]
      split
      · simp
      · split
        · simp; omega
        · omega
    have q2 := gStr_eq (f := fun s => numT s.data.toList) (n := 281474976710656) (s := bs (Lib.itoa n)) hlen
    have q3 := gStr_eq (f := fun s => numT s.data.toList) (n := 281474976710656) (s := s) (by omega)
    have e2 : numS (bs (Lib.itoa n)).data.toList = (n, 0) := num_of_itoa n hn
    obtain ⟨m, hm⟩ : ∃ m, m = (numS s.data.toList).1 := ⟨_, rfl⟩
    obtain ⟨e, he⟩ : ∃ e, e = (numS s.data.toList).2 := ⟨_, rfl⟩
    have hr := num_range s.data.toList
    rw [← hm] at hr
    have q4 := gRDec_eq (F := fun n => sv (bs (Lib.itoa n))) hr
    simp only [numT, e2] at q2
    simp only [numT, ← hm, ← he] at q3
    by_cases h0 : e = 0
    · have hl : Lib.itoa m = s.data.toList := itoa_of_num _ _ (Prod.ext hm.symm (he.symm.trans h0))
      have hs : bs (Lib.itoa m) = s := by rw [hl]
      rw [hs] at q4
      subst h0
      simp -implicitDefEqProofs [M_w01_TextDecimals, h', tbK5, ex, q1, q2, q3, q4, extractV]
    · have hb : (e != 0) = true := by rw [bne_iff_ne]; exact h0
      simp -implicitDefEqProofs [M_w01_TextDecimals, h', tbK5, ex, q1, q2, q3, q4, hb, extractV]
end Go.Proofs.YtbabdjhikamkoaaDoor
