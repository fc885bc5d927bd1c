/-
  Has, Subset, Equal, of the program and of the document: what they return.
-/
import Derived.Test.YtlebaobbjehaeaaDoorN
namespace Go.Proofs.YtlebaobbjehaeaaDoor
set_option linter.unusedSimpArgs false
set_option linter.unusedVariables false
open Go Go.Abs

def eqc (x : W) (n : Int) : Bool := (x.toNat : Int) == n
def nec (x : W) (n : Int) : Bool := (x.toNat : Int) != n
section
variable {Φ : Oracle} {H : Heap} {nx : Nat}
@[simp] theorem uv_eqlc (isB : Bool) (nk : Option NK) (x : W) (n : Int) : evalK Φ H nx (.bin isB .eql nk) [.t (uv x), .t (.v (.int .u64 n))] = some (.t (.v (.bool (eqc x n))), H, nx) := by
  simp only [uv, evalK_eql]; rfl
@[simp] theorem uv_neqc (isB : Bool) (nk : Option NK) (x : W) (n : Int) : evalK Φ H nx (.bin isB .neq nk) [.t (uv x), .t (.v (.int .u64 n))] = some (.t (.v (.bool (nec x n))), H, nx) := by
  simp only [uv, evalK_neq]; rfl
@[simp] theorem uv_andc (isB : Bool) (nk : Option NK) (x : W) (n : Int) : evalK Φ H nx (.bin isB .and nk) [.t (uv x), .t (.v (.int .u64 n))] = some (.t (uv (x &&& BitVec.ofInt 64 n)), H, nx) := by
  simp only [uv, evalK_and, kbits_u64, ofInt_toNat, wrap_toNat]; rfl
theorem uv_shr (isB : Bool) (nk : Option NK) (x : W) (k : IntKind) (r : Nat) (hr : r ≤ 64) : evalK Φ H nx (.bin isB .shr nk) [.t (uv x), .t (.v (.int k (r : Int)))] = some (.t (uv (x >>> r)), H, nx) := by
  have : ((x.toNat : Int)).fdiv (2 ^ min (r : Int).toNat 64) = (((x >>> r : W)).toNat : Int) := by
    rw [Int.toNat_natCast, Nat.min_eq_left hr, BitVec.toNat_ushiftRight, Nat.shiftRight_eq_div_pow]
    rw [Int.fdiv_eq_ediv_of_nonneg _ (by exact Int.pow_nonneg (by omega))]
    simp
  have hn : ¬ (r : Int) < 0 := by omega
  simp [uv, evalK, hn]
  rw [show ((x.toNat : Int)).fdiv (2 ^ min r 64) = (((x >>> r : W)).toNat : Int) by simpa using this]
  simp
end

theorem bit_eqc (w : W) (r : Nat) : eqc (w >>> r &&& 1#64) 1 = w.getLsbD r := by
  have h : (w >>> r &&& 1#64).toNat = (w.getLsbD r).toNat := by
    rw [BitVec.toNat_and, BitVec.toNat_ushiftRight]
    have e : (1#64).toNat = 1 := rfl
    rw [e, Nat.and_one_is_mod]
    simp only [BitVec.getLsbD, Nat.testBit, Nat.one_and_eq_mod_two]
    rcases Nat.mod_two_eq_zero_or_one (w.toNat >>> r) with h | h <;> rw [h] <;> rfl
  unfold eqc
  rw [h]
  cases w.getLsbD r <;> rfl

def hasL (l : List W) (n : Nat) : Bool := (wd l (n / 64)).getLsbD (n % 64)

theorem has_call {b : T} {l : List W} (hb : decB b = some l) (n : Nat) (hn : n ≤ 9223372036854775807) : CallT Tryd.prog G 21 [b, .v (.int .i64 (n : Int))] (· = .v (.bool (hasL l n))) := by
  obtain ⟨q, hq⟩ : ∃ q, q = n / 64 := ⟨_, rfl⟩
  obtain ⟨r, hr⟩ : ∃ r, r = n % 64 := ⟨_, rfl⟩
  have q1 : IntKind.i64.wrap ((n : Int) / 64) = (q : Int) := by rw [wrap_i64 (by omega) (by omega)]; omega
  have r1 : (n : Int).tmod 64 = (r : Int) := by rw [Int.tmod_eq_emod_of_nonneg (by omega)]; omega
  have w1 := gWord_eq hb q
  refine k21.runs ctx1 rfl ?_
  unfold hasL
  rw [← hq, ← hr]
  simp -implicitDefEqProofs [M21, q1, r1, w1, tb1, uv_shr _ _ _ _ r (by omega), bit_eqc]

theorem has_neg {b : T} {i : Int} (hi : i < 0) : CallT Tryd.prog G 21 [b, .v (.int .i64 i)] (· = .v (.bool false)) := by
  refine k21.runs ctx1 rfl ?_
  have h : ¬ 0 ≤ i := by omega
  simp -implicitDefEqProofs [M21, h]

theorem rhas_call {b : T} {l : List W} (hb : decB b = some l) (n : Nat) (hn : n ≤ 9223372036854775807) : CallT Tryd.prog G 22 [b, .v (.int .i64 (n : Int))] (· = .v (.bool (hasL l n))) := by
  obtain ⟨q, hq⟩ : ∃ q, q = n / 64 := ⟨_, rfl⟩
  obtain ⟨r, hr⟩ : ∃ r, r = n % 64 := ⟨_, rfl⟩
  have q1 : IntKind.i64.wrap ((n : Int) / 64) = (q : Int) := by rw [wrap_i64 (by omega) (by omega)]; omega
  have r1 : (n : Int).tmod 64 = (r : Int) := by rw [Int.tmod_eq_emod_of_nonneg (by omega)]; omega
  have r2 : IntKind.u64.wrap (r : Int) = (r : Int) := wrap_u64 (by omega) (by omega)
  have n0 : ¬ (n : Int) < 0 := by omega
  refine k22.runs ctx0 rfl ?_
  unfold hasL
  rw [← hq, ← hr]
  by_cases h : q < l.length
  · have h' : ¬ l.length ≤ q := by omega
    have x1 : l[q]? = some (wd l q) := by simp [wd, h]
    simp -implicitDefEqProofs [M22, q1, r1, r2, n0, len_dec hb, h, h', iaddr_dec hb, load_drop _ x1, uv_shr _ _ _ _ r (by omega), bit_eqc]
  · have h' : l.length ≤ q := by omega
    have hw : wd l q = 0#64 := wd_ge h'
    simp -implicitDefEqProofs [M22, q1, r1, r2, n0, len_dec hb, h, h', hw]

theorem rhas_neg {b : T} {i : Int} (hi : i < 0) : CallT Tryd.prog G 22 [b, .v (.int .i64 i)] (· = .v (.bool false)) := by
  refine k22.runs ctx0 rfl ?_
  simp -implicitDefEqProofs [M22, hi]

/-- What Has and the document's Has return. -/
def gHas : List T → Option T
  | [t, .v (.int .i64 i)] => match decB t with
    | some l => if i < 0 then some (.v (.bool false)) else if i ≤ 9223372036854775807 then some (.v (.bool (hasL l i.toNat))) else none
    | none => none
  | _ => none
theorem gHas_nat {t : T} {l : List W} (h : decB t = some l) (n : Nat) (hn : n ≤ 9223372036854775807) : gHas [t, .v (.int .i64 (n : Int))] = some (.v (.bool (hasL l n))) := by
  have h0 : ¬ (n : Int) < 0 := by omega
  have h1 : (n : Int) ≤ 9223372036854775807 := by omega
  simp [gHas, h, h0, h1]
theorem gHas_ok {F : Nat} (h1 : ∀ {b : T} {l : List W}, decB b = some l → ∀ (n : Nat), n ≤ 9223372036854775807 → CallT Tryd.prog G F [b, .v (.int .i64 (n : Int))] (· = .v (.bool (hasL l n))))
    (h2 : ∀ {b : T} {i : Int}, i < 0 → CallT Tryd.prog G F [b, .v (.int .i64 i)] (· = .v (.bool false))) : GOK Tryd.prog G F gHas := by
  intro args r h
  unfold gHas at h
  split at h
  · split at h
    · rename_i t i _ l hl
      split at h
      · rename_i h0
        injection h with h; subst h
        exact h2 h0
      · split at h
        · rename_i h0 h3
          injection h with h; subst h
          obtain ⟨n, rfl⟩ := Int.eq_ofNat_of_zero_le (show 0 ≤ i by omega)
          exact h1 hl n (by omega)
        · cases h
    · cases h
  · cases h

/-- Whether each word of l has no bit that m lacks. -/
def subL (l m : List W) : Bool := (normL (minusL l m)).length == 0

theorem normL_nil (l : List W) : (normL l).length = 0 ↔ ∀ i, wd l i = 0 := by
  constructor
  · intro h i
    have : normL l = [] := List.eq_nil_of_length_eq_zero h
    rw [← wd_normL, this]; rfl
  · intro h
    have : normL l = normL [] := normL_ext fun i => (h i).trans rfl
    rw [this]; rfl

theorem subL_iff (l m : List W) : subL l m = true ↔ ∀ i, wd l i &&& ~~~ wd m i = 0 := by
  unfold subL
  rw [beq_iff_eq, normL_nil]
  constructor
  · intro h i; rw [← wd_minusL]; exact h i
  · intro h i; rw [wd_minusL]; exact h i

def S23 (a b : T) (n j : Nat) : AState := ⟨[(9, .t (.v (.int .i64 (j : Int)))), (8, .t (.v (.int .i64 (n : Int)))), (7, .t a), (1, .t b), (0, .t a)], [], 0, 21⟩
theorem nec_zero (x : W) : nec x 0 = !(x == 0) := by
  unfold nec
  by_cases h : x = 0
  · subst h; rfl
  · have h1 : (x == 0) = false := by simpa using h
    rw [h1]
    simp only [Bool.not_false, bne_iff_ne]
    exact fun e => h (BitVec.eq_of_toNat_eq (by simpa using e))

theorem first_bad (p : Nat → Bool) : ∀ n, (∀ i, i < n → p i = true) ∨ ∃ k, k < n ∧ (∀ i, i < k → p i = true) ∧ p k = false
  | 0 => .inl fun i hi => by omega
  | n + 1 => by
    rcases first_bad p n with h | ⟨k, h1, h2⟩
    · cases hn : p n with
      | true =>
        refine .inl fun i hi => ?_
        by_cases e : i = n
        · subst e; exact hn
        · exact h i (by omega)
      | false => exact .inr ⟨n, by omega, h, hn⟩
    · exact .inr ⟨k, by omega, h2⟩

theorem sub_call {a b : T} {l m : List W} (ha : decB a = some l) (hb : decB b = some m) (hl : l.length ≤ 1000) (hm : m.length ≤ 1000) : CallT Tryd.prog G 23 [a, b] (· = .v (.bool (subL l m))) := by
  refine k23.call rfl ?_
  unfold M23
  refine mc_seq_runs ctx1 ?_
  simp -implicitDefEqProofs
  rcases first_bad (fun i => wd l i &&& ~~~ wd m i == 0) l.length with h | ⟨k, hk, hsame, hdiff⟩
  · have hs : subL l m = true := (subL_iff l m).2 fun i => by
      by_cases hi : i < l.length
      · simpa using h i hi
      · rw [wd_ge (l := l) (by omega)]; simp
    rw [hs]
    refine mc_cut (fun _ : Unit => S23 a b l.length l.length) (fun _ => True) (fun _ => rfl) ?_ ?_
    · refine mc_seq_runs ctx1 ?_
      simp -implicitDefEqProofs [len_dec ha]
      refine mc_block ?_
      refine mc_for (S23 a b l.length) l.length (fun _ => rfl) ?_ rfl ?_ ?_
      · refine sub_forget rfl rfl ?_ ?_ <;> simp -implicitDefEqProofs [S23]
      · intro j hj
        refine mc_runs ctx1 ?_
        have x1 : l[j]? = some (wd l j) := by simp [wd, hj]
        have w2 := gWord_eq hb j
        have hz : wd l j &&& ~~~ wd m j = 0#64 := by simpa using h j hj
        have e1 : IntKind.i64.wrap ((j : Int) + 1) = ((j + 1 : Nat) : Int) := wrap_nat (by omega) (by omega)
        simp -implicitDefEqProofs [S23, hj, iaddr_dec ha, load_drop _ x1, w2, tb1, hz, nec_zero, e1]
        refine sub_forget rfl rfl ?_ ?_ <;> simp -implicitDefEqProofs
      · refine mc_runs ctx1 ?_
        simp -implicitDefEqProofs [S23]
        exact Next.mk () trivial (sub_forget rfl rfl (by simp -implicitDefEqProofs) (by simp -implicitDefEqProofs))
    · rintro _ -
      refine mc_runs ctx1 ?_
      simp -implicitDefEqProofs [S23]
  · have hs : subL l m = false := by
      cases hh : subL l m with
      | false => rfl
      | true => exact absurd ((subL_iff l m).1 hh k) (by simpa using hdiff)
    rw [hs]
    refine mc_cut (fun _ : Unit => S23 a b l.length l.length) (fun _ => False) (fun _ => rfl) ?_ ?_
    · refine mc_seq_runs ctx1 ?_
      simp -implicitDefEqProofs [len_dec ha]
      refine mc_block ?_
      refine mc_for (S23 a b l.length) k (fun _ => rfl) ?_ rfl ?_ ?_
      · refine sub_forget rfl rfl ?_ ?_ <;> simp -implicitDefEqProofs [S23]
      · intro j hj
        refine mc_runs ctx1 ?_
        have hjl : j < l.length := by omega
        have x1 : l[j]? = some (wd l j) := by simp [wd, hjl]
        have w2 := gWord_eq hb j
        have hz : wd l j &&& ~~~ wd m j = 0#64 := by simpa using hsame j hj
        have e1 : IntKind.i64.wrap ((j : Int) + 1) = ((j + 1 : Nat) : Int) := wrap_nat (by omega) (by omega)
        simp -implicitDefEqProofs [S23, hjl, iaddr_dec ha, load_drop _ x1, w2, tb1, hz, nec_zero, e1]
        refine sub_forget rfl rfl ?_ ?_ <;> simp -implicitDefEqProofs
      · refine mc_runs ctx1 ?_
        have x1 : l[k]? = some (wd l k) := by simp [wd, hk]
        have w2 := gWord_eq hb k
        have hz : (wd l k &&& ~~~ wd m k == 0#64) = false := hdiff
        simp -implicitDefEqProofs [S23, hk, iaddr_dec ha, load_drop _ x1, w2, tb1, nec_zero, hz]
    · rintro _ h
      exact h.elim

def fSub (l m : List W) : T := .v (.bool (subL l m))
def fEq (l m : List W) : T := .v (.bool (subL l m && subL m l))

theorem rsub_call {a b : T} {l m : List W} (ha : decB a = some l) (hb : decB b = some m) (hl : l.length ≤ 1000) (hm : m.length ≤ 1000) : CallT Tryd.prog G 24 [a, b] (· = fSub l m) := by
  refine k24.runs ctx4 rfl ?_
  have e1 := g2_eq (f := fMinus) ha hb hl hm
  have e2 : ((((normL (minusL l m)).length : Nat) : Int) == 0) = subL l m := by
    unfold subL
    cases h : (normL (minusL l m)).length <;> simp
    omega
  simp -implicitDefEqProofs [M24, tb4, e1, fMinus, fSub, encB, lenslM, e2]

def tb5 : Tbl := [(23, g2 fSub), (24, g2 fSub)]
theorem ctx5 : Ctx Tryd.prog G (orc tb5) := (TblOK.cons (g2_ok sub_call) (TblOK.cons (g2_ok rsub_call) TblOK.nil)).ctx mixed
theorem eq_call {a b : T} {l m : List W} (ha : decB a = some l) (hb : decB b = some m) (hl : l.length ≤ 1000) (hm : m.length ≤ 1000) : CallT Tryd.prog G 25 [a, b] (· = fEq l m) := by
  refine k25.runs ctx5 rfl ?_
  have e1 := g2_eq (f := fSub) ha hb hl hm
  have e2 := g2_eq (f := fSub) hb ha hm hl
  cases h : subL l m <;> simp -implicitDefEqProofs [M25, tb5, e1, e2, fSub, fEq, h]
theorem req_call {a b : T} {l m : List W} (ha : decB a = some l) (hb : decB b = some m) (hl : l.length ≤ 1000) (hm : m.length ≤ 1000) : CallT Tryd.prog G 26 [a, b] (· = fEq l m) := by
  refine k26.runs ctx5 rfl ?_
  have e1 := g2_eq (f := fSub) ha hb hl hm
  have e2 := g2_eq (f := fSub) hb ha hm hl
  cases h : subL l m <;> simp -implicitDefEqProofs [M26, tb5, e1, e2, fSub, fEq, h]
end Go.Proofs.YtlebaobbjehaeaaDoor
